/- Parts of a proof, merged by a program (shake.py). -/
import Derived.Test.YtdklhkdlndlgnaaGreatDoorQ7
set_option linter.unusedVariables false
set_option linter.unusedSimpArgs false
namespace Go.Proofs.YtdklhkdlndlgnaaGreatDoor
open Go.RowKit
attribute [local irreducible] wpList Calls Code.wp
/-- what the program's variables hold, which no call turns: it lies in the first G blocks -/
structure Ge where
  G : Nat
  E : World → Prop
  stays : ∀ w w', E w → (∀ k, k < G → w'.heap[k]? = w.heap[k]?) → E w'
  le : ∀ w, E w → G ≤ w.heap.size
structure Cx where
  P : Program
  pas : Nat → Prop
  s0 : Sg
  w0 : World
  e : Ge
  he : e.E w0
  hp : ∀ k, k < e.G → ¬ pas k
  pk : Value → (Nat → V) → (Nat → Option Res) → Prop
  dfs : List Deferred
structure Vst (nn : Nat) where
  tm : Nat → V
  rs : Nat → Option Res
variable {nn : Nat}
def Vst.put (st : Vst nn) (d : Option Tmp) (v : V) : Vst nn :=
  match d with
  | none => st
  | some d => { st with tm := fun i => if i = d then v else st.tm i }
def ev (st : Vst nn) : Operand → V
  | .tmp i => if i < nn then st.tm i else .any
  | .const v => constV v
  | .global g => .c (.pointer (some ⟨g, 0, none⟩))
  | .func f => .c (.func (.func f) #[] #[])
def killV (n : Nat) (v : V) : V := if v.free n then v else .any
def Vst.kill (st : Vst nn) (n : Nat) : Vst nn :=
  { st with tm := fun i => killV n (st.tm i), rs := fun m => if m = n then none else match st.rs m with | some ρ => if ρ.free n then some ρ else none | none => none }
def Vst.res (st : Vst nn) (n : Nat) (ρ : Res) : Vst nn := { st with rs := updR st.rs n ρ }
/-- the names of what was handed over -/
def pn (i : Nat) : Nat := 1000000 + i
def PE (s0 s : Sg) : Prop := ∀ i, s.bx (pn i) = s0.bx (pn i) ∧ (s.tk (pn i) = s0.tk (pn i) ∨ (s0.tk (pn i)).2 < (s.tk (pn i)).2)
theorem PE.refl (s : Sg) : PE s s := fun _ => ⟨rfl, .inl rfl⟩
theorem PE.ext {s0 s s' : Sg} {w w' : World} {Y : Nat → Prop} (h : PE s0 s) (hx : Ext Y s w s' w') (hY : ∀ m, Y m → m ≤ 999999) : PE s0 s' := fun i => by
  have hn : ¬ Y (pn i) := fun hy => by have := hY _ hy; unfold pn at this; omega
  refine ⟨(hx.bx _ hn).trans (h i).1, ?_⟩
  rcases (h i).2 with h1 | h1 <;> rcases hx.tk _ hn with h2 | h2
  · exact .inl (h2.trans h1)
  · rw [h1] at h2; exact .inr h2
  · rw [h2]; exact .inr h1
  · exact .inr (by omega)
theorem PE.ext0 {s0 s s' : Sg} {w w' : World} (h : PE s0 s) (hx : Ext (fun _ => False) s w s' w') : PE s0 s' := h.ext hx fun _ h => h.elim
structure Inv (X : Cx) (st : Vst nn) (s : Sg) (w : World) (a : Act) : Prop where
  sz : a.tmps.size = nn
  tm : ∀ i, i < nn → rel X.P s w (st.tm i) (a.tmps.getD i undef)
  df : a.defers = X.dfs
  fr : Frm X.pas X.w0 w
  kp : Keeps X.s0.F s.F X.w0 w
  nf : ∀ b o, b < X.w0.heap.size → ¬ X.pas b → s.F b o → X.s0.F b o
  mem : MemOk X.P X.pas X.w0.heap.size st.rs s w
  pe : PE X.s0 s
/-- a function's contract, in values -/
def AC (e : Ge) (P : Program) (f : FuncId) (args : List V) (r : V) : Prop :=
  ∀ (s : Sg) (w : World) (us : Array Value), relL P s w args us.toList → (∀ b o, s.F b o → (w.cell? ⟨b, o, none⟩).isSome) → e.E w →
    Calls P f us w fun en w' => ∃ v F', en = .returned v ∧ Frm (fun _ => False) w w' ∧ Keeps s.F F' w w' ∧ (∀ b o, F' b o → (w'.cell? ⟨b, o, none⟩).isSome) ∧ (∀ b o, b < w.heap.size → F' b o → s.F b o) ∧ rel P { s with F := F' } w' r v
section
variable {X : Cx} {st : Vst nn} {s s' : Sg} {w w' : World} {a : Act}
theorem constV_rel {P : Program} (v : Value) : rel P s w (constV v) v := by
  unfold constV
  split
  · rename_i cs
    split
    · rename_i h
      rw [rel]
      refine ⟨cs, rfl, ?_⟩
      generalize cs.toList = l at *
      induction l with
      | nil => simp [relL]
      | cons x l ih =>
        rw [List.all_cons, Bool.and_eq_true] at h
        rw [List.map_cons, relL]
        exact ⟨by rw [rel]; exact ⟨rfl, okB_ok h.1⟩, ih h.2⟩
    · simp [rel]
  · split
    · rename_i h; rw [rel]; exact ⟨rfl, okB_ok h⟩
    · simp [rel]
theorem Inv.ev (h : Inv X st s w a) (x : Operand) : rel X.P s w (ev st x) (a.eval x) := by
  cases x with
  | tmp i =>
    show rel X.P s w (if i < nn then st.tm i else .any) (a.tmps.getD i undef)
    split
    · rename_i hi; exact h.tm i hi
    · simp [rel]
  | const v => exact constV_rel v
  | global g => show rel X.P s w (.c _) _; rw [rel]; exact ⟨rfl, trivial⟩
  | func f => show rel X.P s w (.c _) _; rw [rel]; exact ⟨rfl, trivial⟩
theorem Inv.boxes (h : Inv X st s w a) : Boxes X.P st.rs s w := fun n t vs hn => h.mem.ho n _ hn
theorem Inv.en (h : Inv X st s w a) : X.e.E w := X.e.stays _ _ X.he fun k hk => h.fr.block k (Nat.lt_of_lt_of_le hk (X.e.le _ X.he)) (X.hp k hk)
theorem Inv.base (h : Inv X st s w a) : X.w0.heap.size ≤ w.heap.size := h.fr.size
/-- the world and the reading go on -/
theorem Inv.go (h : Inv X st s w a) (hx : Ext (fun _ => False) s w s' w') (hm : MemOk X.P X.pas X.w0.heap.size st.rs s' w') (hfr : Frm (fun b => X.w0.heap.size ≤ b ∨ X.pas b) w w') (hnf : ∀ b o, b < X.w0.heap.size → ¬ X.pas b → s'.F b o → s.F b o) :
    Inv X st s' w' a :=
  ⟨h.sz, fun i hi => (h.tm i hi).ext0 hx, h.df, h.fr.trans hfr fun _ hb => hb, h.kp.trans hx.keeps, fun b o hb hnp hF => h.nf b o hb hnp (hnf b o hb hnp hF), hm, h.pe.ext0 hx⟩
theorem Inv.put (h : Inv X st s w a) (d : Option Tmp) {v : V} {u : Value} (hr : rel X.P s w v u) : Inv X (st.put d v) s w (a.put d u) := by
  cases d with
  | none => exact h
  | some d =>
    unfold Vst.put Act.put
    refine ⟨by simpa using h.sz, fun i hi => ?_, h.df, h.fr, h.kp, h.nf, h.mem, h.pe⟩
    simp only [Array.getD_eq_getD_getElem?, Array.getElem?_setIfInBounds] at *
    by_cases e : i = d
    · subst e
      have : i < a.tmps.size := by rw [h.sz]; exact hi
      simp [this, hr]
    · have e' : ¬ d = i := fun x => e x.symm
      simp only [if_neg e, if_neg e']
      simpa using h.tm i hi
theorem killV_rel {P : Program} {n : Nat} {v : V} {u : Value} (h : rel P s w v u) : rel P s w (killV n v) u ∧ (killV n v).free n = true := by
  unfold killV
  split
  · rename_i hf; exact ⟨h, hf⟩
  · exact ⟨by simp [rel], by simp [V.free]⟩
theorem Inv.kill (h : Inv X st s w a) (n : Nat) : Inv X (st.kill n) s w a := by
  refine ⟨h.sz, fun i hi => (killV_rel (h.tm i hi)).1, h.df, h.fr, h.kp, h.nf, h.mem.sub fun m ρ hm => ?_, h.pe⟩
  simp only [Vst.kill] at hm
  split at hm
  · cases hm
  · split at hm
    · rename_i hr
      split at hm
      · cases hm; exact hr
      · cases hm
    · cases hm
theorem kill_free (st : Vst nn) (n m : Nat) {ρ : Res} (h : (st.kill n).rs m = some ρ) : ρ.free n = true := by
  simp only [Vst.kill] at h
  split at h
  · cases h
  · split at h
    · split at h
      · rename_i hf; cases h; exact hf
      · cases h
    · cases h
/-- a panic with a value that the context allows -/
def PQ (X : Cx) (nn : Nat) (Q : Exit → Act → World → Prop) : Prop :=
  ∀ (pv : Value) (st' : Vst nn) s' w' a', Inv X st' s' w' a' → X.pk pv st'.tm st'.rs → Q (.panic [{ v := pv, recovered := false }]) a' w'
/-- one operation -/
def OpOk (X : Cx) (o : Oper) (st : Vst nn) (K : Vst nn → Prop) : Prop :=
  ∀ s w a, Inv X st s w a → ∀ (N : Act → World → Prop) (Q : Exit → Act → World → Prop), PQ X nn Q → (∀ st' s' w' a', Inv X st' s' w' a' → K st' → N a' w') → o.wp X.P a w N Q
variable {o : Oper} {K : Vst nn → Prop}
theorem opOk_val {p : Prop} {v : V} (h : act1 X.P st.rs (ev st) o.op = .val p v) (hp : p) (hK : K (st.put o.dst v)) : OpOk X o st K := by
  intro s w a hI N Q hP hN
  obtain ⟨u, h1, h2⟩ := act1_ok h hp hI.boxes hI.ev
  unfold Oper.wp
  rw [h1, Oper.upon_value]
  exact hN _ _ _ _ (hI.put o.dst h2) hK
theorem opOk_call {f : FuncId} {args : List V} {r : V} (h : act1 X.P st.rs (ev st) o.op = .call f args) (hc : AC X.e X.P f (outL args) r) (hK : K (st.put o.dst r)) : OpOk X o st K := by
  intro s w a hI N Q hP hN
  obtain ⟨us, h1, h2⟩ := call1_ok h hI.ev (fun _ => rfl)
  unfold Oper.wp
  rw [h1, Oper.upon_enter]
  refine (hc s w us (relL.out _ _ h2) hI.mem.fx hI.en).mono ?_
  rintro e w' ⟨v, F', rfl, hfr, hk, hfx, hnf, hr⟩
  have hm := hI.mem.after (s' := { s with F := F' }) hfr hk rfl rfl rfl hfx hnf
  refine hN _ _ _ _ ((hI.go hm.1 hm.2 ⟨hfr.os, hfr.tape, hfr.output, hfr.size, fun k hk _ => hfr.block k hk (fun h => h)⟩ fun b o hb _ hF => hnf b o (Nat.lt_of_lt_of_le hb hI.base) hF).put o.dst hr) hK
theorem frm_alloc (w : World) (o : Obj) (q : Nat → Prop) : Frm q w (w.alloc o) := ⟨rfl, rfl, rfl, by simp, fun k hk _ => Below.heap_alloc _ _ _ hk⟩
/-- a variable in memory, with what it holds from the start -/
theorem opOk_new {t : TypeId} {d : Nat} {vs : List V} (hd : o.dst = some d) (hdl : Nat.ble d 999999 = true) (hf : freeL d vs = true)
    (hrun : ∀ s w a, Inv X st s w a → ∃ cs, (execOp a.eval o).run X.P w = .ok (.value (.pointer (some ⟨w.heap.size, 0, none⟩))) (w.alloc (.cells cs t)) ∧ relL X.P s w vs cs.toList)
    (hK : K (((st.kill d).res d (.box t vs)).put (some d) (.bx d 0))) : OpOk X o st K := by
  intro s w a hI N Q hP hN
  obtain ⟨cs, h1, h2⟩ := hrun s w a hI
  unfold Oper.wp
  rw [h1, Oper.upon_value, hd]
  have hI' := hI.kill d
  refine hN _ (s.name d w.heap.size) _ _ (Inv.put (v := .bx d 0) ?_ (some d) (by rw [rel]; exact ⟨w.heap.size, by simp [Sg.name], rfl⟩)) hK
  have hx := ext_name hI'.mem d (.cells cs t)
  refine ⟨hI.sz, fun i hi => ?_, hI.df, hI.fr.trans (frm_alloc w _ (fun _ => False)) (fun _ h => h.elim), hI.kp.trans hx.keeps, hI.nf, ?_, hI.pe.ext hx fun m hm => by subst hm; exact Nat.le_of_ble_eq_true hdl⟩
  · exact rel.ext hx _ _ (killV_rel (hI.tm i hi)).1 fun n hn => by subst hn; exact (killV_rel (hI.tm i hi)).2
  · exact hI'.mem.name hI.base d cs t vs h2 hf fun m ρ _ hm => kill_free st d m hm
theorem opOk_box {t : TypeId} {x : Operand} {d : Nat} {vs : List V} (ho : o.op = .box t x) (hd : o.dst = some d) (hdl : Nat.ble d 999999 = true) (hc : cellsOf (ev st x) = some vs) (hf : freeL d vs = true)
    (hK : K (((st.kill d).res d (.box t vs)).put (some d) (.bx d 0))) : OpOk X o st K :=
  opOk_new hd hdl hf (fun s w a hI => ⟨(a.eval x).cells, by simp [execOp, ho, Instr.box, newVar, newRow], (cellsOf_ok hc (hI.ev x)).1⟩) hK
theorem opOk_alloc {t : TypeId} {d : Nat} {vs : List V} (ho : o.op = .alloc t) (hd : o.dst = some d) (hdl : Nat.ble d 999999 = true) (hc : zeroV X.P t = some vs) (hf : freeL d vs = true)
    (hK : K (((st.kill d).res d (.box t vs)).put (some d) (.bx d 0))) : OpOk X o st K := by
  obtain ⟨z, h1, h2⟩ := zeroV_ok hc
  exact opOk_new hd hdl hf (fun s w a hI => ⟨z.cells, by simp [execOp, ho, Instr.alloc, newVar, newRow, h1], h2 s w⟩) hK
theorem opOk_store {t : TypeId} {x y : Operand} {n off : Nat} {t' : TypeId} {vs xs : List V} (ho : o.op = .store t x y) (hd : o.dst = none) (hx : ev st x = .bx n off) (hr : st.rs n = some (.box t' vs)) (hc : cellsOf (ev st y) = some xs)
    (hs : X.P.cellsOf t = xs.length ∧ (X.P.info? t).isSome) (hl : off + xs.length ≤ vs.length) (hK : K (st.res n (.box t' (splice vs off xs)))) : OpOk X o st K := by
  intro s w a hI N Q hP hN
  have h1 := hI.ev x
  rw [hx, rel] at h1
  obtain ⟨b, hb, hb2⟩ := h1
  obtain ⟨hy1, hy2, hy3⟩ := cellsOf_ok hc (hI.ev y)
  obtain ⟨b', cs, q1, q2, q3, q4⟩ := hI.mem.ho n _ hr
  rw [hb] at q1; cases q1
  have hlen := q3.length
  have hlen2 := hy1.length
  have hcs : cs.toList.length = cs.size := by simp
  obtain ⟨i, hi⟩ := Option.isSome_iff_exists.1 hs.2
  have hsz : X.P.cellsOf t = i.size := by simp [Program.cellsOf, hi]
  have hst := run_storeCells_at (P := X.P) b off t' (a.eval y).cells.toList 0 cs w q2 (by omega) hy3
  simp only [Nat.add_zero] at hst
  have hrun : (execOp a.eval o).run X.P w = .ok .skip (w.setRow b (cs.toList.take off ++ (a.eval y).cells.toList ++ cs.toList.drop (off + (a.eval y).cells.toList.length)).toArray) := by
    have hne : ¬ (a.eval y).cells.size ≠ i.size := by
      have : (a.eval y).cells.toList.length = (a.eval y).cells.size := by simp
      omega
    simp only [execOp, ho, Instr.storeAt, hb2, Instr.sureAddr, storeVar, Sem.run_bind, Sem.run_pure, Result.andThen_ok, sizeOf, typeInfo]
    simp [hi, hne, hst]
  unfold Oper.wp
  rw [hrun, Oper.upon_skip, hd]
  have hheap := setRow_heap w b cs (cs.toList.take off ++ (a.eval y).cells.toList ++ cs.toList.drop (off + (a.eval y).cells.toList.length)).toArray t' (0, 0) q2
  have hm := hI.mem.write (w' := w.setRow b (cs.toList.take off ++ (a.eval y).cells.toList ++ cs.toList.drop (off + (a.eval y).cells.toList.length)).toArray) (vs' := splice vs off xs) hr hb hheap ?_ (fun k hk => setRow_other w b k _ hk)
  · refine hN _ s _ _ ?_ hK
    have hfr : Frm (fun b => X.w0.heap.size ≤ b ∨ X.pas b) w (w.setRow b (cs.toList.take off ++ (a.eval y).cells.toList ++ cs.toList.drop (off + (a.eval y).cells.toList.length)).toArray) :=
      ⟨rfl, rfl, rfl, by simp, fun k _ hk => setRow_other w b k _ fun e => hk (by subst e; exact hI.mem.bs n _ _ hr hb)⟩
    exact ⟨hI.sz, fun i hi => (hI.tm i hi).ext0 hm.1, hI.df, hI.fr.trans hfr fun _ h => h, hI.kp.trans hm.1.keeps, hI.nf, hm.2, hI.pe.ext0 hm.1⟩
  · have hx : Ext (fun _ => False) s w s (w.setRow b (cs.toList.take off ++ (a.eval y).cells.toList ++ cs.toList.drop (off + (a.eval y).cells.toList.length)).toArray) :=
      ⟨fun k o hF => ⟨World.cell?_of_block (w := w) (setRow_other w b k _ fun e => by subst e; exact q4 o hF), hF⟩, fun _ _ => rfl, fun _ _ => .inl rfl⟩
    unfold splice
    simp only [List.toList_toArray]
    rw [hlen2]
    exact ((q3.take off).append hy1).append (q3.drop _) |>.ext0 hx
end
end Go.Proofs.YtdklhkdlndlgnaaGreatDoor
