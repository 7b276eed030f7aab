/- Slices that are read, slices that a call builds by append: small laws, over any program. -/
import Derived.WalkKit
import Derived.WalkSpells
import Derived.WalkLawsBesides
import Derived.Deep.OwnRows
import Derived.Deep.Draws
import Derived.Deep.LoopGhost
import Derived.Deep.QuietTactic
import Derived.Deep.RegionHeld3
import Derived.BigQuiet
import Derived.Handy
import Derived.Lib.Hide
import Derived.Maps.AppendAt
import Derived.ArgAppend
import Derived.Laws.CopyOwn
import Derived.Laws.BitsAllLaws
import Derived.StillTailTactics
namespace Go.Proofs.YtohneabalakmeaaDoor
open Go.RowKit
/-- the blocks of which I speaks hold in w' what they held in w -/
def Same (I : Nat → Prop) (w w' : World) : Prop := ∀ k, I k → w'.heap[k]? = w.heap[k]?
theorem Same.cell {I : Nat → Prop} {w w' : World} (h : Same I w w') {b o : Nat} (hb : I b) : w'.cell? ⟨b, o, none⟩ = w.cell? ⟨b, o, none⟩ := World.cell?_of_block (w := w) (h b hb)
theorem Same.refl (I : Nat → Prop) (w : World) : Same I w w := fun _ _ => rfl
theorem Same.trans {I : Nat → Prop} {w w' w'' : World} (h : Same I w w') (k : Same I w' w'') : Same I w w'' := fun i hi => (k i hi).trans (h i hi)
theorem Same.below {B : Nat} {I : Nat → Prop} {w w' : World} (h : Below B w w') (hI : ∀ k, I k → k < B) : Same I w w' := fun k hk => h.block k (hI k hk)
/-- a slice value at address A, of n elements of 'size' cells each, holds the cells xs, in blocks of which I speaks -/
def Rd (w : World) (I : Nat → Prop) (size : Nat) (A : Option Addr) (n : Nat) (xs : List Value) : Prop :=
  xs.length = n * size ∧ (0 < n → ∃ b off, A = some ⟨b, off, none⟩ ∧ I b ∧ ∀ j u, xs[j]? = some u → w.cell? ⟨b, off + j, none⟩ = some u)
theorem Rd.same {w w' : World} {I : Nat → Prop} {size n : Nat} {A : Option Addr} {xs : List Value} (h : Rd w I size A n xs) (hs : Same I w w') : Rd w' I size A n xs :=
  ⟨h.1, fun hn => by
    obtain ⟨b, off, hA, hb, hc⟩ := h.2 hn
    exact ⟨b, off, hA, hb, fun j u hu => (hs.cell hb).trans (hc j u hu)⟩⟩
theorem Rd.mono {w : World} {I J : Nat → Prop} {size n : Nat} {A : Option Addr} {xs : List Value} (h : Rd w I size A n xs) (hI : ∀ k, I k → J k) : Rd w J size A n xs :=
  ⟨h.1, fun hn => by
    obtain ⟨b, off, hA, hb, hc⟩ := h.2 hn
    exact ⟨b, off, hA, hI _ hb, hc⟩⟩
theorem Rd.nil (w : World) (I : Nat → Prop) (size : Nat) (A : Option Addr) : Rd w I size A 0 [] := ⟨by simp, fun h => absurd h (by omega)⟩
theorem add_plain (b off j : Nat) : (⟨b, off, none⟩ : Addr).add j = ⟨b, off + j, none⟩ := by unfold Addr.add; split <;> simp_all
/-- the element type's row, in three facts -/
theorem info3 {P : Program} {e : TypeId} {z : Value} {size bytes : Nat} (h : (P.info? e).map (fun i => (i.zero, i.size, i.bytes)) = some (some z, size, bytes)) :
    ∃ i, P.info? e = some i ∧ i.zero = some z ∧ i.size = size ∧ i.bytes = bytes := by
  obtain ⟨i, hi, hz⟩ := Option.map_eq_some_iff.1 h
  simp only [Prod.mk.injEq] at hz
  exact ⟨i, hi, hz.1, hz.2.1, hz.2.2⟩
/-- append(out, x, ..): out is the call's own, what is appended has just been laid in a block of its own -/
theorem append_new {P : Program} {w : World} {ops : Array Oper} {rest : List Oper} {o : Oper} {a : Act} {Q : Exit → Act → World → Prop} (hgd : o.guard = none) (s x : Operand) (t : TypeId)
    (ho : o.op = .call { callee := .builtin .append, args := #[s, x], argTypes := #[t, t] })
    (base : Nat) (e : TypeId) (z : Value) (size bytes : Nat) (ht : P.underlying t = some (.slice e)) (hinfo : (P.info? e).map (fun i => (i.zero, i.size, i.bytes)) = some (some z, size, bytes))
    (hzs : z.cells.size = size) (hsz : 0 < size) (v : Value) (n : Nat) (xs : List Value) (hown : w.ownsRow base e size v n xs) (cs : Array Value) (m : Nat) (hm : cs.size = m * size)
    (h1 : cs.toList.all (·.oneCell') = true) (hs : a.eval s = v) (hx : a.eval x = .slice (some ⟨w.heap.size, 0, none⟩) m m)
    (h63 : n + m ≤ maxLen) (hbytes : (n + m) * bytes ≤ 140737488355328) (hbase : base ≤ w.heap.size)
    (h : ∀ v' w', w'.ownsRow base e size v' (n + m) (xs ++ cs.toList) → w.grownBy w' v.ownBlock → w.heap.size < w'.heap.size → (v'.ownBlock = v.ownBlock ∨ ∃ g, v'.ownBlock = some g ∧ w.heap.size ≤ g) →
      (0 < n + m → ∃ g c, v' = .slice (some ⟨g, 0, none⟩) (n + m) c) → wpList P ops Q rest (a.put o.dst v') w') : wpList P ops Q (o :: rest) a (w.alloc (.cells cs e)) := by
  obtain ⟨i, hi, hz, h4, h5⟩ := info3 hinfo
  have hnews : ∀ j u, cs.toList[j]? = some u → (w.alloc (.cells cs e)).cell? ((⟨w.heap.size, 0, none⟩ : Addr).add j) = some u := fun j u hu => by
    rw [add_plain, cell_of_row _ w.heap.size _ cs e (0, 0) (heap_alloc_new w _)]
    simpa using hu
  obtain ⟨v', w', hrun, r1, r2, _, r4⟩ := run_append_own_at (P := P) (w := w.alloc (.cells cs e)) base t o.type e i z size bytes ht hi hz h4 h5 hzs hsz v n xs (hown.alloc _) ⟨w.heap.size, 0, none⟩ m m cs.toList (by simpa using hm) hnews
    (fun u hu => List.all_eq_true.1 h1 u hu) h63 hbytes (by simp; omega)
  refine wpList_plain hgd fun K hK => ?_
  unfold Oper.wp execOp
  simp only [ho, resolve, invoke, builtin, Sem.run_bind, Sem.run_pure, Result.andThen_ok, List.map_toArray, List.map_cons, List.map_nil, hs, hx, hrun]
  refine hK _ _ (h v' w' r1 ⟨r2.os, r2.tape, r2.output, Nat.le_trans (by simp) r2.size, fun k hk hne => ?_⟩ ?_ ?_ ?_)
  · rw [r2.block k (by simp; omega) hne]
    exact Below.heap_alloc w _ k hk
  · have := r2.size; simp at this; omega
  · rcases r4 with e' | e'
    · exact .inl e'
    · exact .inr ⟨_, e', by simp⟩
  · intro hpos
    rcases r1.2 with ⟨_, h0⟩ | ⟨g, cap, cur, hv, _⟩
    · omega
    · exact ⟨g, cap, hv⟩
/-- the same inside a region that draws its order -/
theorem step_new {P : Program} {w : World} {ops : Array Oper} {o : Oper} {a : Act} {K : Act → World → Prop} {Q : Exit → Act → World → Prop} {E : Prop} (hgd : o.guard = none) (s x : Operand) (t : TypeId)
    (ho : o.op = .call { callee := .builtin .append, args := #[s, x], argTypes := #[t, t] })
    (base : Nat) (e : TypeId) (z : Value) (size bytes : Nat) (ht : P.underlying t = some (.slice e)) (hinfo : (P.info? e).map (fun i => (i.zero, i.size, i.bytes)) = some (some z, size, bytes))
    (hzs : z.cells.size = size) (hsz : 0 < size) (v : Value) (n : Nat) (xs : List Value) (hown : w.ownsRow base e size v n xs) (cs : Array Value) (m : Nat) (hm : cs.size = m * size)
    (h1 : cs.toList.all (·.oneCell') = true) (hs : a.eval s = v) (hx : a.eval x = .slice (some ⟨w.heap.size, 0, none⟩) m m)
    (h63 : n + m ≤ maxLen) (hbytes : (n + m) * bytes ≤ 140737488355328) (hbase : base ≤ w.heap.size)
    (h : ∀ v' w', w'.ownsRow base e size v' (n + m) (xs ++ cs.toList) → w.grownBy w' v.ownBlock → w.heap.size < w'.heap.size → (v'.ownBlock = v.ownBlock ∨ ∃ g, v'.ownBlock = some g ∧ w.heap.size ≤ g) →
      (0 < n + m → ∃ g c, v' = .slice (some ⟨g, 0, none⟩) (n + m) c) → K (a.put o.dst v') w') : if Region.wanted o (yielded ops a.tmps) = true then Oper.wp P o a (w.alloc (.cells cs e)).drew K Q else E := by
  obtain ⟨i, hi, hz, h4, h5⟩ := info3 hinfo
  have hnews : ∀ j u, cs.toList[j]? = some u → (w.alloc (.cells cs e)).drew.cell? ((⟨w.heap.size, 0, none⟩ : Addr).add j) = some u := fun j u hu => by
    rw [add_plain, cell_of_row _ w.heap.size _ cs e (0, 0) (show (w.alloc (.cells cs e)).drew.heap[w.heap.size]? = _ from heap_alloc_new w _)]
    simpa using hu
  obtain ⟨v', w', hrun, r1, r2, _, r4⟩ := run_append_own_at (P := P) (w := (w.alloc (.cells cs e)).drew) base t o.type e i z size bytes ht hi hz h4 h5 hzs hsz v n xs ((hown.alloc _).drew) ⟨w.heap.size, 0, none⟩ m m cs.toList (by simpa using hm) hnews
    (fun u hu => List.all_eq_true.1 h1 u hu) h63 hbytes (by show base ≤ (w.alloc (.cells cs e)).heap.size; simp; omega)
  have hw : Region.wanted o (yielded ops a.tmps) = true := by simp [Region.wanted, hgd]
  rw [if_pos hw]
  unfold Oper.wp execOp
  simp only [ho, resolve, invoke, builtin, Sem.run_bind, Sem.run_pure, Result.andThen_ok, List.map_toArray, List.map_cons, List.map_nil, hs, hx, hrun]
  have hsz2 : w.heap.size + 1 ≤ w'.heap.size := by have := r2.size; simpa using this
  refine h v' w' r1 ⟨r2.os, r2.tape, r2.output, by omega, fun k hk hne => ?_⟩ (by omega) ?_ ?_
  · rw [r2.block k (by show k < (w.alloc (.cells cs e)).heap.size; simp; omega) hne]
    exact Below.heap_alloc w _ k hk
  · rcases r4 with e' | e'
    · exact .inl e'
    · exact .inr ⟨_, e', by simp⟩
  · intro hpos
    rcases r1.2 with ⟨_, h0⟩ | ⟨g, cap, cur, hv, _⟩
    · omega
    · exact ⟨g, cap, hv⟩
/-- append(out, b...): out is the call's own, b is read -/
theorem append_read {P : Program} {w : World} {ops : Array Oper} {rest : List Oper} {o : Oper} {a : Act} {Q : Exit → Act → World → Prop} (hgd : o.guard = none) (s x : Operand) (t : TypeId)
    (ho : o.op = .call { callee := .builtin .append, args := #[s, x], argTypes := #[t, t] })
    (base : Nat) (e : TypeId) (z : Value) (size bytes : Nat) (ht : P.underlying t = some (.slice e)) (hinfo : (P.info? e).map (fun i => (i.zero, i.size, i.bytes)) = some (some z, size, bytes))
    (hzs : z.cells.size = size) (hsz : 0 < size) (v : Value) (n : Nat) (xs : List Value) (hown : w.ownsRow base e size v n xs) (A : Option Addr) (m c : Nat) (news : List Value) (I : Nat → Prop) (hr : Rd w I size A m news)
    (h1 : ∀ u ∈ news, u.oneCell' = true) (hs : a.eval s = v) (hx : a.eval x = .slice A m c)
    (h63 : n + m ≤ maxLen) (hbytes : (n + m) * bytes ≤ 140737488355328) (hbase : base ≤ w.heap.size)
    (h : ∀ v' w', w'.ownsRow base e size v' (n + m) (xs ++ news) → w.grownBy w' v.ownBlock → (v'.ownBlock = v.ownBlock ∨ ∃ g, v'.ownBlock = some g ∧ w.heap.size ≤ g) →
      (0 < n + m → ∃ g c, v' = .slice (some ⟨g, 0, none⟩) (n + m) c) → wpList P ops Q rest (a.put o.dst v') w') : wpList P ops Q (o :: rest) a w := by
  obtain ⟨i, hi, hz, h4, h5⟩ := info3 hinfo
  refine wpList_plain hgd fun K hK => ?_
  have done : ∀ v' w', (Builtin.append_ #[t, t] o.type #[v, .slice A m c]).run P w = .ok v' w' → w'.ownsRow base e size v' (n + m) (xs ++ news) → w.grownBy w' v.ownBlock → (v'.ownBlock = v.ownBlock ∨ v'.ownBlock = some w.heap.size) → o.wp P a w K Q := by
    intro v' w' hrun r1 r2 r4
    unfold Oper.wp execOp
    simp only [ho, resolve, invoke, builtin, Sem.run_bind, Sem.run_pure, Result.andThen_ok, List.map_toArray, List.map_cons, List.map_nil, hs, hx, hrun]
    refine hK _ _ (h v' w' r1 r2 ?_ ?_)
    · rcases r4 with e' | e'
      · exact .inl e'
      · exact .inr ⟨_, e', by simp⟩
    · intro hpos
      rcases r1.2 with ⟨_, h0⟩ | ⟨g, cap, cur, hv, _⟩
      · omega
      · exact ⟨g, cap, hv⟩
  rcases Nat.eq_zero_or_pos m with h0 | h0
  · subst h0
    have hn : news = [] := List.eq_nil_of_length_eq_zero (by simpa using hr.1)
    subst hn
    cases A with
    | none =>
      refine done v w ?_ (by simpa using hown) (World.grownBy.refl w _) (.inl rfl)
      rcases hown.2 with ⟨rfl, rfl⟩ | ⟨g, cap, cur, rfl, _, _, hnc, _⟩
      · simp [Builtin.append_, run_underlying ht, sizeOf, typeInfo, hi, Builtin.lenOf, Builtin.firstCells]
      · simp [Builtin.append_, run_underlying ht, sizeOf, typeInfo, hi, Builtin.lenOf, Builtin.firstCells, hnc, storeCells]
    | some ad =>
      obtain ⟨v', w', hrun, r1, r2, _, r4⟩ := run_append_own_at (P := P) (w := w) base t o.type e i z size bytes ht hi hz h4 h5 hzs hsz v n xs hown ad 0 c [] (by simp) (fun j u hu => by simp at hu) (by simp) h63 hbytes hbase
      exact done v' w' hrun r1 r2 r4
  · obtain ⟨b, off, rfl, _, hc⟩ := hr.2 h0
    obtain ⟨v', w', hrun, r1, r2, _, r4⟩ := run_append_own_at (P := P) (w := w) base t o.type e i z size bytes ht hi hz h4 h5 hzs hsz v n xs hown ⟨b, off, none⟩ m c news hr.1 (fun j u hu => by rw [add_plain]; exact hc j u hu) h1 h63 hbytes hbase
    exact done v' w' hrun r1 r2 r4
/-- append(b[:n:n], x, ..): there is no room behind what is read: a new array -/
theorem append_full {P : Program} {w : World} {ops : Array Oper} {rest : List Oper} {o : Oper} {a : Act} {Q : Exit → Act → World → Prop} (hgd : o.guard = none) (s x : Operand) (t : TypeId)
    (ho : o.op = .call { callee := .builtin .append, args := #[s, x], argTypes := #[t, t] })
    (e : TypeId) (z : Value) (size bytes : Nat) (ht : P.underlying t = some (.slice e)) (hinfo : (P.info? e).map (fun i => (i.zero, i.size, i.bytes)) = some (some z, size, bytes))
    (hzs : z.cells.size = size) (hsz : 0 < size) (A : Option Addr) (n : Nat) (xs : List Value) (I : Nat → Prop) (hI : ∀ k, I k → k < w.heap.size) (hr : Rd w I size A n xs) (cs : Array Value) (m : Nat) (hm : cs.size = m * size) (hpos : 0 < m)
    (h1 : cs.toList.all (·.oneCell') = true) (hs : a.eval s = .slice A n n) (hx : a.eval x = .slice (some ⟨w.heap.size, 0, none⟩) m m)
    (h63 : n + m ≤ maxLen) (hbytes : (n + m) * bytes ≤ 140737488355328)
    (h : ∀ g c w', w.heap.size ≤ g → w'.ownsRow w.heap.size e size (.slice (some ⟨g, 0, none⟩) (n + m) c) (n + m) (xs ++ cs.toList) → w.grownBy w' none → w.heap.size < w'.heap.size → wpList P ops Q rest (a.put o.dst (.slice (some ⟨g, 0, none⟩) (n + m) c)) w') : wpList P ops Q (o :: rest) a (w.alloc (.cells cs e)) := by
  obtain ⟨i, hi, hz, h4, h5⟩ := info3 hinfo
  have hnews : ∀ j u, cs.toList[j]? = some u → (w.alloc (.cells cs e)).cell? ((⟨w.heap.size, 0, none⟩ : Addr).add j) = some u := fun j u hu => by
    rw [add_plain, cell_of_row _ w.heap.size _ cs e (0, 0) (heap_alloc_new w _)]
    simpa using hu
  have fin : ∀ v' w', w'.ownsRow (w.alloc (.cells cs e)).heap.size e size v' (n + m) (xs ++ cs.toList) → (w.alloc (.cells cs e)).grownBy w' none → wpList P ops Q rest (a.put o.dst v') w' := by
    intro v' w' r1 r2
    rcases r1.2 with ⟨_, h0⟩ | ⟨g, c, cur, hv, hg, r⟩
    · omega
    · subst hv
      simp at hg
      refine h g c w' (by omega) ⟨r1.1, .inr ⟨g, c, cur, rfl, by omega, r⟩⟩ ⟨r2.os, r2.tape, r2.output, Nat.le_trans (by simp) r2.size, fun k hk hne => ?_⟩ (by have := r2.size; simp at this; omega)
      rw [r2.block k (by simp; omega) hne]
      exact Below.heap_alloc w _ k hk
  have h1c : ∀ u ∈ cs.toList, u.oneCell' = true := fun u hu => List.all_eq_true.1 h1 u hu
  rcases Nat.eq_zero_or_pos n with h0 | h0
  · subst h0
    have hn : xs = [] := List.eq_nil_of_length_eq_zero (by simpa using hr.1)
    subst hn
    exact wpList_append_grows _ hgd s x t ho e i z size bytes ht hi hz h4 h5 hzs hsz A 0 0 [] hs (fun _ => ⟨rfl, rfl⟩) (by simp) (fun _ _ j u hu => by simp at hu) ⟨w.heap.size, 0, none⟩ m m cs.toList hx (by simpa using hm) hnews h1c (by omega) h63 hbytes fin
  · obtain ⟨b, off, rfl, hb, hc⟩ := hr.2 h0
    refine wpList_append_grows _ hgd s x t ho e i z size bytes ht hi hz h4 h5 hzs hsz (some ⟨b, off, none⟩) n n xs hs (fun h => by cases h) hr.1 (fun b' hb' j u hu => ?_) ⟨w.heap.size, 0, none⟩ m m cs.toList hx (by simpa using hm) hnews h1c (by omega) h63 hbytes fin
    injection hb' with hb'
    subst hb'
    rw [add_plain, World.cell?_alloc_lt _ _ _ (hI _ hb)]
    exact hc j u hu
/-- x[lo:hi], within the capacity -/
theorem slice_cut {P : Program} (t e : TypeId) (size : Nat) (ht : P.underlying t = some (.slice e)) (hs : ∀ w, (sizeOf e).run P w = .ok size w) (b off len cap lo hi : Nat) (kl kh : IntKind) (l h : Int) (hl : l = lo) (hh : h = hi) (h1 : lo ≤ hi) (h2 : hi ≤ cap) (h3 : lo < cap) (w : World) :
    (Instr.slice t (.slice (some ⟨b, off, none⟩) len cap) (some (.int kl l)) (some (.int kh h)) none).run P w = .ok (.slice (some ⟨b, off + lo * size, none⟩) (hi - lo) (cap - lo)) w := by
  subst hl; subst hh
  have he : P.elem t = e := by simp [Program.elem, ht]
  rw [run_slice_lh w t _ len cap (by rw [he]; exact ht) kl kh _ _ (by omega) (by omega) (by omega), he, hs]
  simp only [Result.andThen, sliced, Int.toNat_natCast]
  rw [if_neg (by omega)]
  simp [add_plain]
/-- x[:n:n] -/
theorem slice_whole {P : Program} (t e : TypeId) (size : Nat) (ht : P.underlying t = some (.slice e)) (hs : ∀ w, (sizeOf e).run P w = .ok size w) (A : Option Addr) (len cap : Nat) (hc : len ≤ cap) (kl kh : IntKind) (w : World) :
    (Instr.slice t (.slice A len cap) none (some (.int kl (len : Int))) (some (.int kh (len : Int)))).run P w = .ok (.slice A len len) w := by
  have he : P.elem t = e := by simp [Program.elem, ht]
  rw [run_slice_hm w t _ len cap (by rw [he]; exact ht) kl kh _ _ (by omega) (by omega) (by omega), he, hs]
  simp only [Result.andThen, sliced, Int.toNat_natCast, Nat.zero_mul, Nat.sub_zero]
  cases A with
  | none => simp
  | some a => simp [Addr.add]
/-- x[k:]: the address moves on, but where nothing is left of the capacity -/
theorem slice_tail {P : Program} (t e : TypeId) (size : Nat) (ht : P.underlying t = some (.slice e)) (hs : ∀ w, (sizeOf e).run P w = .ok size w) (b off len cap k : Nat) (hk : k ≤ len) (hc : len ≤ cap) (kl : IntKind) :
    ∃ off', (k < cap → off' = off + k * size) ∧ ∀ w, (Instr.slice t (.slice (some ⟨b, off, none⟩) len cap) (some (.int kl (k : Int))) none none).run P w = .ok (.slice (some ⟨b, off', none⟩) (len - k) (cap - k)) w := by
  have he : P.elem t = e := by simp [Program.elem, ht]
  refine ⟨if cap = k then off else off + k * size, fun h => if_neg (by omega), fun w => ?_⟩
  rw [run_slice_l w t _ len cap (by rw [he]; exact ht) kl _ (by omega) (by omega), he, hs]
  simp only [Result.andThen, sliced, Int.toNat_natCast]
  by_cases h : cap = k
  · rw [if_pos h, if_pos h]
  · rw [if_neg h, if_neg h]; simp [add_plain]
theorem heap_at' {w : World} {o : Obj} {b : Nat} (hb : w.heap.size = b) : (w.alloc o).heap[b]? = some o := by subst hb; exact Deep.blk_alloc_new w o
/-- a new block that is written whole is a new block with other cells -/
theorem setRow_alloc (w : World) (cur cs : Array Value) (t : TypeId) (g : Nat) (hg : w.heap.size = g) : (w.alloc (.cells cur t)).setRow g cs = w.alloc (.cells cs t) := by
  subst hg
  show World.mk _ _ _ _ _ = World.mk _ _ _ _ _
  congr 1
  apply Array.ext_getElem?
  intro i
  show ((w.heap.push (.cells cur t)).modify w.heap.size _)[i]? = (w.heap.push (.cells cs t))[i]?
  rw [Array.getElem?_modify, Array.getElem?_push, Array.getElem?_push]
  by_cases h : w.heap.size = i
  · subst h; simp
  · have h' : ¬ i = w.heap.size := fun e => h e.symm
    simp [h, h']
/-- copy(dst, src): dst is new and is filled whole -/
theorem copy_fill {P : Program} {w : World} {ops : Array Oper} {rest : List Oper} {o : Oper} {a : Act} {Q : Exit → Act → World → Prop} (hgd : o.guard = none) (d s : Operand) (dT sT : TypeId)
    (ho : o.op = .call { callee := .builtin .copy, args := #[d, s], argTypes := #[dT, sT] }) (elem : TypeId) (hu : P.underlying dT = some (.slice elem)) (hsz : (P.info? elem).map (·.size) = some 1)
    (g : Nat) (hg : w.heap.size = g) (cur : Array Value) (t : TypeId) (len : Nat) (hcur : cur.size = len) (b off sLen sCap : Nat) (hd : a.eval d = .slice (some ⟨g, 0, none⟩) len len) (hs : a.eval s = .slice (some ⟨b, off, none⟩) sLen sCap)
    (cs : Array Value) (hcs : cs.size = len) (hle : len ≤ sLen) (hb : b < w.heap.size) (hsrc : ∀ j v, cs[j]? = some v → w.cell? ⟨b, off + j, none⟩ = some v) (h1 : cs.all (·.oneCell') = true)
    (h : wpList P ops Q rest (a.put o.dst (goInt len)) (w.alloc (.cells cs t))) : wpList P ops Q (o :: rest) a (w.alloc (.cells cur t)) := by
  refine wpList_copy_own hgd d s dT sT ho elem hu hsz g 0 len len ⟨b, off, none⟩ sLen sCap hd hs cur t (heap_at' hg) cs.toList (by rw [Array.length_toList, hcs]; exact (Nat.min_eq_right hle).symm) (fun j v hj => ?_) (by simp; omega) (fun v hv => (Array.all_eq_true_iff_forall_mem.1 h1) v (by simpa using hv)) ?_
  · rw [add_plain, World.cell?_alloc_lt _ _ _ hb]
    exact hsrc j v (by simpa using hj)
  · have e1 : (cur.toList.take 0 ++ (cs.toList ++ cur.toList.drop (0 + cs.toList.length))).toArray = cs := by
      have : cur.toList.drop (0 + cs.toList.length) = [] := List.drop_eq_nil_of_le (by simp; omega)
      rw [this]; simp
    rw [e1, setRow_alloc _ _ _ _ _ hg]
    have e2 : cs.toList.length = len := by simp [hcs]
    rw [e2]
    exact h
/-- copy(dst, src), as an equation: dst is new and is filled whole -/
theorem run_copy_fill {P : Program} {w : World} (dT sT ty elem : TypeId) (hu : P.underlying dT = some (.slice elem)) (hsz : (P.info? elem).map (·.size) = some 1)
    (g : Nat) (hg : w.heap.size = g) (t : TypeId) (len : Nat) (b off sLen sCap : Nat) (cs : Array Value) (hcs : cs.size = len) (hle : len ≤ sLen) (hb : b < w.heap.size) (hsrc : ∀ j v, cs[j]? = some v → w.cell? ⟨b, off + j, none⟩ = some v) (h1 : cs.all (·.oneCell') = true)
    (cur : Array Value) (hcur : cur.size = len) :
    (Builtin.copy_ #[dT, sT] ty #[.slice (some ⟨g, 0, none⟩) len len, .slice (some ⟨b, off, none⟩) sLen sCap]).run P (w.alloc (.cells cur t)) = .ok (goInt len) (w.alloc (.cells cs t)) := by
  have h := run_copy_row (P := P) (w.alloc (.cells cur t)) dT sT ty elem g 0 len len ⟨b, off, none⟩ sLen sCap cur t cs.toList hu hsz (heap_at' hg) (by rw [Array.length_toList, hcs]; exact (Nat.min_eq_right hle).symm) (fun j v hj => by
    rw [add_plain, World.cell?_alloc_lt _ _ _ hb]; exact hsrc j v (by simpa using hj)) (by simp; omega) (fun v hv => (Array.all_eq_true_iff_forall_mem.1 h1) v (by simpa using hv))
  rw [h]
  have e1 : (cur.toList.take 0 ++ cs.toList ++ cur.toList.drop (0 + cs.toList.length)).toArray = cs := by
    have : cur.toList.drop (0 + cs.toList.length) = [] := List.drop_eq_nil_of_le (by simp; omega)
    rw [this]; simp
  rw [e1, setRow_alloc _ _ _ _ _ hg, Array.length_toList, hcs]
end Go.Proofs.YtohneabalakmeaaDoor
