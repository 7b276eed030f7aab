/- Parts of a proof, merged by a program (shake.py). -/
import Derived.WalkKit
import Derived.WalkSpells
import Derived.WalkLawsBesides
import Derived.Deep.OwnRows
import Derived.Deep.Draws
import Derived.Deep.LoopGhost
import Derived.Deep.QuietTactic
import Derived.Deep.RegionHeld3
import Derived.BigQuiet
import Derived.Handy
import Derived.Lib.Hide
import Derived.Maps.AppendAt
import Derived.ArgAppend
import Derived.Laws.CopyOwn
import Derived.Laws.BitsAllLaws
import Derived.StillTailTactics
namespace Go.Proofs.YtohneabalakmeaaDoor
open Go.RowKit
/-- the blocks of which I speaks hold in w' what they held in w -/
def Same (I : Nat → Prop) (w w' : World) : Prop := ∀ k, I k → w'.heap[k]? = w.heap[k]?
theorem Same.cell {I : Nat → Prop} {w w' : World} (h : Same I w w') {b o : Nat} (hb : I b) : w'.cell? ⟨b, o, none⟩ = w.cell? ⟨b, o, none⟩ := World.cell?_of_block (w := w) (h b hb)
theorem Same.refl (I : Nat → Prop) (w : World) : Same I w w := fun _ _ => rfl
theorem Same.trans {I : Nat → Prop} {w w' w'' : World} (h : Same I w w') (k : Same I w' w'') : Same I w w'' := fun i hi => (k i hi).trans (h i hi)
theorem Same.below {B : Nat} {I : Nat → Prop} {w w' : World} (h : Below B w w') (hI : ∀ k, I k → k < B) : Same I w w' := fun k hk => h.block k (hI k hk)
/-- a slice value at address A, of n elements of 'size' cells each, holds the cells xs, in blocks of which I speaks -/
def Rd (w : World) (I : Nat → Prop) (size : Nat) (A : Option Addr) (n : Nat) (xs : List Value) : Prop :=
  xs.length = n * size ∧ (0 < n → ∃ b off, A = some ⟨b, off, none⟩ ∧ I b ∧ ∀ j u, xs[j]? = some u → w.cell? ⟨b, off + j, none⟩ = some u)
theorem Rd.same {w w' : World} {I : Nat → Prop} {size n : Nat} {A : Option Addr} {xs : List Value} (h : Rd w I size A n xs) (hs : Same I w w') : Rd w' I size A n xs :=
  ⟨h.1, fun hn => by
    obtain ⟨b, off, hA, hb, hc⟩ := h.2 hn
    exact ⟨b, off, hA, hb, fun j u hu => (hs.cell hb).trans (hc j u hu)⟩⟩
theorem Rd.mono {w : World} {I J : Nat → Prop} {size n : Nat} {A : Option Addr} {xs : List Value} (h : Rd w I size A n xs) (hI : ∀ k, I k → J k) : Rd w J size A n xs :=
  ⟨h.1, fun hn => by
    obtain ⟨b, off, hA, hb, hc⟩ := h.2 hn
    exact ⟨b, off, hA, hI _ hb, hc⟩⟩
theorem Rd.nil (w : World) (I : Nat → Prop) (size : Nat) (A : Option Addr) : Rd w I size A 0 [] := ⟨by simp, fun h => absurd h (by omega)⟩
theorem add_plain (b off j : Nat) : (⟨b, off, none⟩ : Addr).add j = ⟨b, off + j, none⟩ := by unfold Addr.add; split <;> simp_all
/-- the element type's row, in three facts -/
theorem info3 {P : Program} {e : TypeId} {z : Value} {size bytes : Nat} (h : (P.info? e).map (fun i => (i.zero, i.size, i.bytes)) = some (some z, size, bytes)) :
    ∃ i, P.info? e = some i ∧ i.zero = some z ∧ i.size = size ∧ i.bytes = bytes := by
  obtain ⟨i, hi, hz⟩ := Option.map_eq_some_iff.1 h
  simp only [Prod.mk.injEq] at hz
  exact ⟨i, hi, hz.1, hz.2.1, hz.2.2⟩
/-- append(out, x, ..): out is the call's own, what is appended has just been laid in a block of its own -/
theorem append_new {P : Program} {w : World} {ops : Array Oper} {rest : List Oper} {o : Oper} {a : Act} {Q : Exit → Act → World → Prop} (hgd : o.guard = none) (s x : Operand) (t : TypeId)
    (ho : o.op = .call { callee := .builtin .append, args := #[s, x], argTypes := #[t, t] })
    (base : Nat) (e : TypeId) (z : Value) (size bytes : Nat) (ht : P.underlying t = some (.slice e)) (hinfo : (P.info? e).map (fun i => (i.zero, i.size, i.bytes)) = some (some z, size, bytes))
    (hzs : z.cells.size = size) (hsz : 0 < size) (v : Value) (n : Nat) (xs : List Value) (hown : w.ownsRow base e size v n xs) (cs : Array Value) (m : Nat) (hm : cs.size = m * size)
    (h1 : cs.toList.all (·.oneCell') = true) (hs : a.eval s = v) (hx : a.eval x = .slice (some ⟨w.heap.size, 0, none⟩) m m)
    (h63 : n + m ≤ maxLen) (hbytes : (n + m) * bytes ≤ 140737488355328) (hbase : base ≤ w.heap.size)
    (h : ∀ v' w', w'.ownsRow base e size v' (n + m) (xs ++ cs.toList) → w.grownBy w' v.ownBlock → w.heap.size < w'.heap.size → (v'.ownBlock = v.ownBlock ∨ ∃ g, v'.ownBlock = some g ∧ w.heap.size ≤ g) →
      (0 < n + m → ∃ g c, v' = .slice (some ⟨g, 0, none⟩) (n + m) c) → wpList P ops Q rest (a.put o.dst v') w') : wpList P ops Q (o :: rest) a (w.alloc (.cells cs e)) := by
  obtain ⟨i, hi, hz, h4, h5⟩ := info3 hinfo
  have hnews : ∀ j u, cs.toList[j]? = some u → (w.alloc (.cells cs e)).cell? ((⟨w.heap.size, 0, none⟩ : Addr).add j) = some u := fun j u hu => by
    rw [add_plain, cell_of_row _ w.heap.size _ cs e (0, 0) (heap_alloc_new w _)]
    simpa using hu
  obtain ⟨v', w', hrun, r1, r2, _, r4⟩ := run_append_own_at (P := P) (w := w.alloc (.cells cs e)) base t o.type e i z size bytes ht hi hz h4 h5 hzs hsz v n xs (hown.alloc _) ⟨w.heap.size, 0, none⟩ m m cs.toList (by simpa using hm) hnews
    (fun u hu => List.all_eq_true.1 h1 u hu) h63 hbytes (by simp; omega)
  refine wpList_plain hgd fun K hK => ?_
  unfold Oper.wp execOp
  simp only [ho, resolve, invoke, builtin, Sem.run_bind, Sem.run_pure, Result.andThen_ok, List.map_toArray, List.map_cons, List.map_nil, hs, hx, hrun]
  refine hK _ _ (h v' w' r1 ⟨r2.os, r2.tape, r2.output, Nat.le_trans (by simp) r2.size, fun k hk hne => ?_⟩ ?_ ?_ ?_)
  · rw [r2.block k (by simp; omega) hne]
    exact Below.heap_alloc w _ k hk
  · have := r2.size; simp at this; omega
  · rcases r4 with e' | e'
    · exact .inl e'
    · exact .inr ⟨_, e', by simp⟩
  · intro hpos
    rcases r1.2 with ⟨_, h0⟩ | ⟨g, cap, cur, hv, _⟩
    · omega
    · exact ⟨g, cap, hv⟩
end Go.Proofs.YtohneabalakmeaaDoor
