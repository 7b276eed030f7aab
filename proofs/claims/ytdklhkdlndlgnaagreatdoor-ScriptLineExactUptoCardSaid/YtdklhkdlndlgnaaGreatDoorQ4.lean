/- Parts of a proof, merged by a program (shake.py). -/
import Derived.Lib.FrozenHead2
import Derived.Test.YtdklhkdlndlgnaaGreatDoorQ3
set_option linter.unusedVariables false
set_option linter.unusedSimpArgs false
namespace Go.Proofs.YtdklhkdlndlgnaaGreatDoor
open Go.RowKit
/-- what a name stands for: a variable in memory, a slice that is appended to -/
inductive Res where
  | box (t : TypeId) (vs : List V)
  | tok (e : TypeId) (n : Nat)
  | bld (t e : TypeId) (l : List UInt8)
  | blk (H : World → Nat → Prop)
def Res.free (n : Nat) : Res → Bool
  | .box _ vs => freeL n vs
  | .tok _ _ => true
  | .bld _ _ _ => true
  | .blk _ => true
def Sg.bk (s : Sg) (n : Nat) : Res → Nat → Prop
  | .box _ _, b => s.bx n = some b
  | .tok _ _, b => s.tb n = some b
  | .bld _ _ _, b => s.bx n = some b ∨ s.tb n = some b
  | .blk _, b => s.bx n = some b
section
variable (P : Program)
def Holds (s : Sg) (w : World) (n : Nat) : Res → Prop
  | .box t vs => ∃ b cs, s.bx n = some b ∧ w.heap[b]? = some (.cells cs t (0, 0)) ∧ relL P s w vs cs.toList ∧ ∀ o, ¬ s.F b o
  | .tok e m => (s.tk n).2 = m ∧ ((s.tb n = none ∧ (s.tk n).1 = .slice none 0 0 ∧ m = 0) ∨
      ∃ g c cur, s.tb n = some g ∧ (s.tk n).1 = .slice (some ⟨g, 0, none⟩) m c ∧ w.heap[g]? = some (.cells cur e (0, 0)) ∧ m ≤ c ∧ c ≤ maxLen ∧ cur.size = c * P.cellsOf e ∧ ∀ o, m * P.cellsOf e ≤ o → ¬ s.F g o)
  | .bld t e l => ∃ b v p, s.bx n = some b ∧ w.heap[b]? = some (.cells #[p, v] t (0, 0)) ∧ (p = .pointer none ∨ p = .pointer (some ⟨b, 0, none⟩)) ∧ w.ownsRowF 0 e 1 v l.length (Lib.byteCells l) ∧ v.ownBlock ≠ some b ∧ s.tb n = v.ownBlock ∧ (∀ o, ¬ s.F b o) ∧ ∀ g o, v.ownBlock = some g → ¬ s.F g o
  | .blk H => ∃ b, s.bx n = some b ∧ b < w.heap.size ∧ H w b ∧ (∀ w1 w2 : World, w2.heap[b]? = w1.heap[b]? → H w1 b → H w2 b) ∧ ∀ o, ¬ s.F b o
/-- what the call may write lies apart; what no longer turns is there -/
structure MemOk (pas : Nat → Prop) (B : Nat) (rs : Nat → Option Res) (s : Sg) (w : World) : Prop where
  fx : ∀ b o, s.F b o → (w.cell? ⟨b, o, none⟩).isSome
  ho : ∀ n ρ, rs n = some ρ → Holds P s w n ρ
  bs : ∀ n ρ b, rs n = some ρ → s.bk n ρ b → B ≤ b ∨ pas b
  dj : ∀ n m ρ ρ' b, rs n = some ρ → rs m = some ρ' → s.bk n ρ b → s.bk m ρ' b → n = m
end
/-- of what was there only what pas names may have turned -/
structure Frm (pas : Nat → Prop) (w w' : World) : Prop where
  os : w'.os = w.os
  tape : w'.tape = w.tape
  output : w'.output = w.output
  size : w.heap.size ≤ w'.heap.size
  block : ∀ k, k < w.heap.size → ¬ pas k → w'.heap[k]? = w.heap[k]?
theorem Frm.refl (pas : Nat → Prop) (w : World) : Frm pas w w := ⟨rfl, rfl, rfl, Nat.le_refl _, fun _ _ _ => rfl⟩
theorem Frm.trans {pas q : Nat → Prop} {w w' w'' : World} (h : Frm pas w w') (k : Frm q w' w'') (hq : ∀ b, q b → w.heap.size ≤ b ∨ pas b) : Frm pas w w'' :=
  ⟨k.os.trans h.os, k.tape.trans h.tape, k.output.trans h.output, Nat.le_trans h.size k.size, fun b hb hp => (k.block b (Nat.lt_of_lt_of_le hb h.size) fun hqb => (hq b hqb).elim (fun h' => by omega) hp).trans (h.block b hb hp)⟩
theorem Frm.alloc (w : World) (o : Obj) : Frm (fun _ => False) w (w.alloc o) := ⟨rfl, rfl, rfl, by simp, fun k hk _ => Below.heap_alloc _ _ _ hk⟩
theorem Frm.drew (w : World) : Frm (fun _ => False) w w.drew := ⟨rfl, rfl, rfl, Nat.le_refl _, fun _ _ _ => rfl⟩
theorem Frm.of_below {w w' : World} (h : Below w.heap.size w w') : Frm (fun _ => False) w w' := ⟨h.os, h.tape, h.output, h.size, fun k hk _ => h.block k hk⟩
theorem Frm.below {w w' : World} (h : Frm (fun _ => False) w w') : Below w.heap.size w w' := ⟨h.os, h.tape, h.output, h.size, fun k hk => h.block k hk (fun h => h)⟩
section
variable {P : Program} {s s' : Sg} {w w' : World} {X : Nat → Prop}
theorem Holds.lt {n b : Nat} {ρ : Res} (h : Holds P s w n ρ) (hb : s.bk n ρ b) : b < w.heap.size := by
  have lt : ∀ {x : Obj} {k : Nat}, w.heap[k]? = some x → k < w.heap.size := fun {x k} h => (Array.getElem?_eq_some_iff.1 h).1
  cases ρ with
  | box t vs =>
    obtain ⟨b', cs, h1, h2, _⟩ := h
    change s.bx n = some b at hb; rw [h1] at hb; cases hb; exact lt h2
  | tok e m =>
    obtain ⟨_, h | ⟨g, c, cur, h1, h2, h3, _⟩⟩ := h
    · change s.tb n = some b at hb; rw [h.1] at hb; cases hb
    · change s.tb n = some b at hb; rw [h1] at hb; cases hb; exact lt h3
  | bld t e l =>
    obtain ⟨b', v, p, h1, h2, h3, h4, h5, h6, h7, h8⟩ := h
    rcases hb with hb | hb
    · rw [h1] at hb; cases hb; exact lt h2
    · rw [h6] at hb; exact (h4.lt b hb).2
  | blk H =>
    obtain ⟨b', h1, h2, -⟩ := h
    change s.bx n = some b at hb; rw [h1] at hb; cases hb; exact h2
theorem Holds.keep {n : Nat} {ρ : Res} (h : Holds P s w n ρ) (hx : Ext X s w s' w') (hn : ¬ X n) (htk : s'.tk n = s.tk n) (htb : s'.tb n = s.tb n) (hf : ∀ m, X m → ρ.free m = true) (hb : ∀ b, s.bk n ρ b → w'.heap[b]? = w.heap[b]?)
    (hF : ∀ b o, s.bk n ρ b → s'.F b o → s.F b o) : Holds P s' w' n ρ := by
  cases ρ with
  | box t vs =>
    obtain ⟨b, cs, h1, h2, h3, h4⟩ := h
    exact ⟨b, cs, (hx.bx n hn).trans h1, (hb b h1).trans h2, relL.ext hx vs _ h3 hf, fun o ho => h4 o (hF b o h1 ho)⟩
  | tok e m =>
    obtain ⟨h0, h | ⟨g, c, cur, h1, h2, h3, h4, h5, h6, h7⟩⟩ := h
    · exact ⟨by rw [htk]; exact h0, .inl ⟨htb.trans h.1, by rw [htk]; exact h.2.1, h.2.2⟩⟩
    · exact ⟨by rw [htk]; exact h0, .inr ⟨g, c, cur, htb.trans h1, by rw [htk]; exact h2, (hb g h1).trans h3, h4, h5, h6, fun o ho hFo => h7 o ho (hF g o h1 hFo)⟩⟩
  | bld t e l =>
    obtain ⟨b, v, p, h1, h2, h3, h4, h5, h6, h7, h8⟩ := h
    refine ⟨b, v, p, (hx.bx n hn).trans h1, (hb b (.inl h1)).trans h2, h3, ?_, h5, htb.trans h6, fun o ho => h7 o (hF b o (.inl h1) ho), fun g o hg ho => h8 g o hg (hF g o (.inr (h6.trans hg)) ho)⟩
    refine ⟨h4.1, ?_⟩
    rcases h4.2 with h | ⟨g, cap, cur, fz, rfl, q1, q2, q3⟩
    · exact .inl h
    · exact .inr ⟨g, cap, cur, fz, rfl, q1, (hb g (.inr h6)).trans q2, q3⟩
  | blk H =>
    obtain ⟨b, h1, h2, h3, h4, h5⟩ := h
    have hbb := hb b h1
    refine ⟨b, (hx.bx n hn).trans h1, ?_, h4 w w' hbb h3, h4, fun o ho => h5 o (hF b o h1 ho)⟩
    rw [Array.getElem?_eq_getElem h2] at hbb
    exact (Array.getElem?_eq_some_iff.1 hbb).1
variable {pas : Nat → Prop} {B : Nat} {rs : Nat → Option Res}
/-- a new block that no longer turns -/
def Sg.ice (s : Sg) (b n : Nat) : Sg := { s with F := fun k o => s.F k o ∨ (k = b ∧ o < n) }
theorem cell_alloc {w : World} {o : Obj} {b i : Nat} (h : (w.cell? ⟨b, i, none⟩).isSome) : (w.alloc o).cell? ⟨b, i, none⟩ = w.cell? ⟨b, i, none⟩ := by
  obtain ⟨v, hv⟩ := Option.isSome_iff_exists.1 h
  exact World.cell?_of_block (w := w) (Below.heap_alloc w o b (block_lt_of_cell hv))
theorem cell_new {w : World} {cs : Array Value} {t : TypeId} {i : Nat} {v : Value} (h : cs[i]? = some v) : (w.alloc (.cells cs t)).cell? ⟨w.heap.size, i, none⟩ = some v := by
  rw [cell_of_row _ w.heap.size _ cs t (0, 0) (heap_alloc_new w _)]; exact h
theorem ext_ice (h : MemOk P pas B rs s w) (cs : Array Value) (t : TypeId) : Ext (fun _ => False) s w (s.ice w.heap.size cs.size) (w.alloc (.cells cs t)) :=
  ⟨fun b o hb => ⟨cell_alloc (h.fx b o hb), .inl hb⟩, fun _ _ => rfl, fun _ _ => .inl rfl⟩
theorem MemOk.ice (h : MemOk P pas B rs s w) (cs : Array Value) (t : TypeId) : MemOk P pas B rs (s.ice w.heap.size cs.size) (w.alloc (.cells cs t)) where
  fx b o hb := by
    rcases hb with hb | ⟨rfl, hb⟩
    · rw [cell_alloc (h.fx b o hb)]; exact h.fx b o hb
    · rw [cell_new (Array.getElem?_eq_getElem hb)]; rfl
  ho n ρ hn := (h.ho n ρ hn).keep (ext_ice h cs t) (fun h => h) rfl rfl (fun _ h => h.elim) (fun b hb => Below.heap_alloc _ _ _ ((h.ho n ρ hn).lt hb)) (fun b o hb hF => by
    rcases hF with hF | ⟨rfl, _⟩
    · exact hF
    · have := (h.ho n ρ hn).lt hb; omega)
  bs := h.bs
  dj := h.dj
/-- a draw -/
theorem ext_drew (s : Sg) (w : World) : Ext (fun _ => False) s w s w.drew := ⟨fun _ _ h => ⟨rfl, h⟩, fun _ _ => rfl, fun _ _ => .inl rfl⟩
theorem MemOk.drew (h : MemOk P pas B rs s w) : MemOk P pas B rs s w.drew where
  fx := h.fx
  ho n ρ hn := (h.ho n ρ hn).keep (ext_drew s w) (fun h => h) rfl rfl (fun _ h => h.elim) (fun _ _ => rfl) (fun _ _ _ h => h)
  bs := h.bs
  dj := h.dj
/-- a name for a new variable -/
def Sg.name (s : Sg) (n b : Nat) : Sg := { s with bx := fun m => if m = n then some b else s.bx m }
def updR (rs : Nat → Option Res) (n : Nat) (ρ : Res) : Nat → Option Res := fun m => if m = n then some ρ else rs m
theorem blk_name {s : Sg} {n m b : Nat} {ρ : Res} (e : m ≠ n) : (s.name n b).bk m ρ = s.bk m ρ := by
  funext x; cases ρ <;> simp [Sg.bk, Sg.name, e]
theorem ext_name (h : MemOk P pas B rs s w) (n : Nat) (o : Obj) : Ext (fun m => m = n) s w (s.name n w.heap.size) (w.alloc o) :=
  ⟨fun b i hb => ⟨cell_alloc (h.fx b i hb), hb⟩, fun m hm => if_neg hm, fun _ _ => .inl rfl⟩
theorem MemOk.name (h : MemOk P pas B rs s w) (hB : B ≤ w.heap.size) (n : Nat) (cs : Array Value) (t : TypeId) (vs : List V) (hr : relL P s w vs cs.toList) (hv : freeL n vs = true) (hf : ∀ m ρ, m ≠ n → rs m = some ρ → ρ.free n = true) :
    MemOk P pas B (updR rs n (.box t vs)) (s.name n w.heap.size) (w.alloc (.cells cs t)) where
  fx b o hb := by rw [cell_alloc (h.fx b o hb)]; exact h.fx b o hb
  ho m ρ hm := by
    by_cases e : m = n
    · subst e
      simp only [updR, if_true] at hm
      cases hm
      refine ⟨w.heap.size, cs, by simp [Sg.name], heap_alloc_new w _, relL.ext (ext_name h m _) vs _ hr (fun k hk => by subst hk; exact hv), fun o ho => ?_⟩
      obtain ⟨v, hv⟩ := Option.isSome_iff_exists.1 (h.fx _ o ho)
      have := block_lt_of_cell hv
      simp at this
    · simp only [updR, if_neg e] at hm
      exact (h.ho m ρ hm).keep (ext_name h n _) e rfl rfl (fun k hk => by subst hk; exact hf m ρ e hm) (fun b hb => Below.heap_alloc _ _ _ ((h.ho m ρ hm).lt hb)) (fun _ _ _ h => h)
  bs m ρ b hm hb := by
    by_cases e : m = n
    · subst e
      simp only [updR, if_true] at hm
      cases hm
      simp only [Sg.bk, Sg.name, if_true] at hb
      cases hb; exact .inl hB
    · simp only [updR, if_neg e] at hm
      rw [blk_name e] at hb
      exact h.bs m ρ b hm hb
  dj m k ρ ρ' b hm hk hmb hkb := by
    by_cases e : m = n <;> by_cases e' : k = n
    · rw [e, e']
    · simp only [updR, if_neg e'] at hk
      rw [blk_name e'] at hkb
      subst e
      simp only [updR, if_true] at hm
      cases hm
      simp only [Sg.bk, Sg.name, if_true] at hmb
      cases hmb
      have := (h.ho k ρ' hk).lt hkb
      omega
    · simp only [updR, if_neg e] at hm
      rw [blk_name e] at hmb
      subst e'
      simp only [updR, if_true] at hk
      cases hk
      simp only [Sg.bk, Sg.name, if_true] at hkb
      cases hkb
      have := (h.ho m ρ hm).lt hmb
      omega
    · simp only [updR, if_neg e] at hm
      simp only [updR, if_neg e'] at hk
      rw [blk_name e] at hmb
      rw [blk_name e'] at hkb
      exact h.dj m k ρ ρ' b hm hk hmb hkb
/-- what a named variable holds is written anew -/
theorem MemOk.write (h : MemOk P pas B rs s w) {n b : Nat} {t : TypeId} {vs vs' : List V} {cs' : Array Value} (hn : rs n = some (.box t vs)) (hb : s.bx n = some b) (hb' : w'.heap[b]? = some (.cells cs' t (0, 0)))
    (hr : relL P s w' vs' cs'.toList) (hsame : ∀ k, k ≠ b → w'.heap[k]? = w.heap[k]?) : Ext (fun _ => False) s w s w' ∧ MemOk P pas B (updR rs n (.box t vs')) s w' := by
  obtain ⟨b', cs, h1, h2, h3, h4⟩ := h.ho n _ hn
  rw [h1] at hb; cases hb
  have hcell : ∀ k o, s.F k o → w'.cell? ⟨k, o, none⟩ = w.cell? ⟨k, o, none⟩ := fun k o hF => World.cell?_of_block (w := w) (hsame k fun e => by subst e; exact h4 o hF)
  have hx : Ext (fun _ => False) s w s w' := ⟨fun k o hF => ⟨hcell k o hF, hF⟩, fun _ _ => rfl, fun _ _ => .inl rfl⟩
  have this : ∀ q ρ, updR rs n (.box t vs') q = some ρ → ∃ ρ', rs q = some ρ' ∧ s.bk q ρ' = s.bk q ρ := fun q ρ hq => by
    by_cases e : q = n
    · subst e
      simp only [updR, if_true] at hq
      cases hq; exact ⟨_, hn, rfl⟩
    · simp only [updR, if_neg e] at hq; exact ⟨_, hq, rfl⟩
  refine ⟨hx, ?_, ?_, ?_, ?_⟩
  · intro k o hF; rw [hcell k o hF]; exact h.fx k o hF
  · intro m ρ hm
    by_cases e : m = n
    · subst e
      simp only [updR, if_true] at hm
      cases hm
      exact ⟨b, cs', h1, hb', hr, h4⟩
    · simp only [updR, if_neg e] at hm
      refine (h.ho m ρ hm).keep hx (fun h => h) rfl rfl (fun _ h => h.elim) (fun k hk => hsame k fun e' => ?_) (fun _ _ _ h => h)
      subst e'
      exact e (h.dj m n _ _ k hm hn hk h1)
  · intro m ρ k hm hk
    obtain ⟨r1, hr1, e1⟩ := this m ρ hm
    exact h.bs m r1 k hr1 (by rw [e1]; exact hk)
  · intro m k ρ ρ' j hm hk hmj hkj
    obtain ⟨r1, hr1, e1⟩ := this m ρ hm
    obtain ⟨r2, hr2, e2⟩ := this k ρ' hk
    exact h.dj m k _ _ j hr1 hr2 (by rw [e1]; exact hmj) (by rw [e2]; exact hkj)
/-- behind a call that turned nothing old -/
theorem MemOk.after (h : MemOk P pas B rs s w) {s' : Sg} (hfr : Frm (fun _ => False) w w') (hk : Keeps s.F s'.F w w') (hbx : s'.bx = s.bx) (htb : s'.tb = s.tb) (htk : s'.tk = s.tk) (hfx : ∀ b o, s'.F b o → (w'.cell? ⟨b, o, none⟩).isSome)
    (hF : ∀ b o, b < w.heap.size → s'.F b o → s.F b o) : Ext (fun _ => False) s w s' w' ∧ MemOk P pas B rs s' w' := by
  have hx : Ext (fun _ => False) s w s' w' := ⟨hk, fun n _ => by rw [hbx], fun n _ => .inl (by rw [htk])⟩
  have hblk : ∀ n ρ, s'.bk n ρ = s.bk n ρ := fun n ρ => by funext x; cases ρ <;> simp [Sg.bk, hbx, htb]
  exact ⟨hx, hfx, fun n ρ hn => (h.ho n ρ hn).keep hx (fun h => h) (by rw [htk]) (by rw [htb]) (fun _ h => h.elim) (fun b hb => hfr.block b ((h.ho n ρ hn).lt hb) (fun h => h)) (fun b o hb => hF b o ((h.ho n ρ hn).lt hb)),
    fun n ρ b hn hb => h.bs n ρ b hn (by rw [← hblk]; exact hb), fun n m ρ ρ' b hn hm hnb hmb => h.dj n m ρ ρ' b hn hm (by rw [← hblk]; exact hnb) (by rw [← hblk]; exact hmb)⟩
/-- a name is given up -/
theorem MemOk.sub {rs' : Nat → Option Res} (h : MemOk P pas B rs s w) (hs : ∀ n ρ, rs' n = some ρ → rs n = some ρ) : MemOk P pas B rs' s w :=
  ⟨h.fx, fun n ρ hn => h.ho n ρ (hs n ρ hn), fun n ρ b hn => h.bs n ρ b (hs n ρ hn), fun n m ρ ρ' b hn hm => h.dj n m ρ ρ' b (hs n ρ hn) (hs m ρ' hm)⟩
end
end Go.Proofs.YtdklhkdlndlgnaaGreatDoor
