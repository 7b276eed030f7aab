/- Parts of a proof, merged by a program (shake.py). -/
import Derived.Test.YtdklhkdlndlgnaaGreatDoorQ2
set_option linter.unusedVariables false
set_option linter.unusedSimpArgs false
namespace Go.Proofs.YtdklhkdlndlgnaaGreatDoor
open Go.RowKit
/-- the cells cs, of type t, read as d; what they lead to lies in cells of which F speaks -/
def RepF (P : Program) (w : World) (F : Nat → Nat → Prop) : Nat → TypeId → List Value → D → Prop
  | 0, _, _, _ => False
  | k + 1, t, cs, d =>
    match P.underlying t with
    | some .bool => cs = [.bool d.b]
    | some (.int q) => cs = [.int q d.n] ∧ (Lit.int q d.n).wf = true
    | some .string => cs = [.string d.s] ∧ d.s.size ≤ maxLen
    | some (.slice e) => ∃ A c, cs = [.slice A d.l.length c] ∧ d.l.length ≤ c ∧ c ≤ maxLen ∧ (A = none → c = 0) ∧ (0 < d.l.length → 0 < P.cellsOf e → ∃ b off, A = some ⟨b, off, none⟩ ∧ ∀ i, i < d.l.length → ∃ ys, ys.length = P.cellsOf e ∧ (∀ j u, ys[j]? = some u → w.cell? ⟨b, off + i * P.cellsOf e + j, none⟩ = some u ∧ F b (off + i * P.cellsOf e + j)) ∧ RepF P w F k e ys (gD d.l i))
    | some (.struct fs) => cs.length = P.cellsOf t ∧ ∀ j f, fs[j]? = some f → RepF P w F k f.type ((cs.drop f.offset).take (P.cellsOf f.type)) (d.f j)
    | _ => True
/-- the slice at A reads as l, its elements of type e -/
def SlF (P : Program) (w : World) (F : Nat → Nat → Prop) (k : Nat) (e : TypeId) (A : Option Addr) (l : List D) : Prop :=
  0 < l.length → 0 < P.cellsOf e → ∃ b off, A = some ⟨b, off, none⟩ ∧ ∀ i, i < l.length → ∃ ys, ys.length = P.cellsOf e ∧ (∀ j u, ys[j]? = some u → w.cell? ⟨b, off + i * P.cellsOf e + j, none⟩ = some u ∧ F b (off + i * P.cellsOf e + j)) ∧ RepF P w F k e ys (gD l i)
section
variable {P : Program} {w w' : World} {F G : Nat → Nat → Prop}
/-- the cells of which F speaks are as they were, and G speaks of them -/
def Keeps (F G : Nat → Nat → Prop) (w w' : World) : Prop := ∀ b o, F b o → w'.cell? ⟨b, o, none⟩ = w.cell? ⟨b, o, none⟩ ∧ G b o
theorem Keeps.refl : Keeps F F w w := fun _ _ h => ⟨rfl, h⟩
theorem Keeps.trans {H : Nat → Nat → Prop} {w'' : World} (h : Keeps F G w w') (k : Keeps G H w' w'') : Keeps F H w w'' := fun b o hb => ⟨(k b o (h b o hb).2).1.trans (h b o hb).1, (k b o (h b o hb).2).2⟩
theorem RepF.turn : ∀ {k : Nat} {t : TypeId} {cs : List Value} {d : D}, RepF P w F k t cs d → Keeps F G w w' → RepF P w' G k t cs d
  | 0, _, _, _, h, _ => h
  | k + 1, t, cs, d, h, hs => by
    unfold RepF at h ⊢
    split at h
    · exact h
    · exact h
    · exact h
    · obtain ⟨A, c, h1, h2, h3, h4, h5⟩ := h
      refine ⟨A, c, h1, h2, h3, h4, fun hl hc => ?_⟩
      obtain ⟨b, off, hA, hi⟩ := h5 hl hc
      refine ⟨b, off, hA, fun i hil => ?_⟩
      obtain ⟨ys, y1, y2, y3⟩ := hi i hil
      exact ⟨ys, y1, fun j u hu => ⟨(hs _ _ (y2 j u hu).2).1.trans (y2 j u hu).1, (hs _ _ (y2 j u hu).2).2⟩, RepF.turn y3 hs⟩
    · exact ⟨h.1, fun j f hf => RepF.turn (h.2 j f hf) hs⟩
    · trivial
theorem SlF.turn {k : Nat} {e : TypeId} {A : Option Addr} {l : List D} (h : SlF P w F k e A l) (hs : Keeps F G w w') : SlF P w' G k e A l := fun hl hc => by
  obtain ⟨b, off, hA, hi⟩ := h hl hc
  refine ⟨b, off, hA, fun i hil => ?_⟩
  obtain ⟨ys, y1, y2, y3⟩ := hi i hil
  exact ⟨ys, y1, fun j u hu => ⟨(hs _ _ (y2 j u hu).2).1.trans (y2 j u hu).1, (hs _ _ (y2 j u hu).2).2⟩, y3.turn hs⟩
theorem RepF.up : ∀ {k : Nat} {t : TypeId} {cs : List Value} {d : D}, RepF P w F k t cs d → RepF P w F (k + 1) t cs d
  | 0, _, _, _, h => h.elim
  | k + 1, t, cs, d, h => by
    unfold RepF at h ⊢
    split at h
    · exact h
    · exact h
    · exact h
    · obtain ⟨A, c, h1, h2, h3, h4, h5⟩ := h
      refine ⟨A, c, h1, h2, h3, h4, fun hl hc => ?_⟩
      obtain ⟨b, off, hA, hi⟩ := h5 hl hc
      refine ⟨b, off, hA, fun i hil => ?_⟩
      obtain ⟨ys, y1, y2, y3⟩ := hi i hil
      exact ⟨ys, y1, y2, RepF.up y3⟩
    · exact ⟨h.1, fun j f hf => RepF.up (h.2 j f hf)⟩
    · trivial
theorem RepF.le {k m : Nat} {t : TypeId} {cs : List Value} {d : D} (h : RepF P w F k t cs d) (hm : k ≤ m) : RepF P w F m t cs d := by
  obtain ⟨i, rfl⟩ := Nat.exists_eq_add_of_le hm
  induction i with
  | zero => exact h
  | succ i ih => exact (ih (by omega)).up
theorem SlF.up {k : Nat} {e : TypeId} {A : Option Addr} {l : List D} (h : SlF P w F k e A l) : SlF P w F (k + 1) e A l := fun hl hc => by
  obtain ⟨b, off, hA, hi⟩ := h hl hc
  refine ⟨b, off, hA, fun i hil => ?_⟩
  obtain ⟨ys, y1, y2, y3⟩ := hi i hil
  exact ⟨ys, y1, y2, y3.up⟩
theorem SlF.le {k m : Nat} {e : TypeId} {A : Option Addr} {l : List D} (h : SlF P w F k e A l) (hm : k ≤ m) : SlF P w F m e A l := by
  obtain ⟨i, rfl⟩ := Nat.exists_eq_add_of_le hm
  induction i with
  | zero => exact h
  | succ i ih => exact (ih (by omega)).up
/-- from the reading by blocks, and to it -/
theorem RepF.of_rep : ∀ {k : Nat} {t : TypeId} {cs : List Value} {d : D} {I : Nat → Prop}, Rep P w I k t cs d → (∀ b o, I b → (w.cell? ⟨b, o, none⟩).isSome → F b o) → RepF P w F k t cs d
  | 0, _, _, _, _, h, _ => h
  | k + 1, t, cs, d, I, h, hs => by
    unfold Rep at h; unfold RepF
    split at h <;> rename_i hu <;> simp only [hu]
    · exact h
    · exact h
    · exact h
    · obtain ⟨A, c, h1, h2, h3, h4, h5⟩ := h
      refine ⟨A, c, h1, h2, h3, h4, fun hl hc => ?_⟩
      obtain ⟨b, off, hA, hI, hi⟩ := h5 hl hc
      refine ⟨b, off, hA, fun i hil => ?_⟩
      obtain ⟨ys, y1, y2, y3⟩ := hi i hil
      exact ⟨ys, y1, fun j u hu => ⟨y2 j u hu, hs _ _ hI (by rw [y2 j u hu]; rfl)⟩, RepF.of_rep y3 hs⟩
    · exact ⟨h.1, fun j f hf => RepF.of_rep (h.2 j f hf) hs⟩
theorem RepF.rep : ∀ {k : Nat} {t : TypeId} {cs : List Value} {d : D}, RepF P w F k t cs d → Rep P w (fun b => b < w.heap.size) k t cs d
  | 0, _, _, _, h => h
  | k + 1, t, cs, d, h => by
    unfold RepF at h; unfold Rep
    split at h <;> rename_i hu <;> simp only [hu]
    · exact h
    · exact h
    · exact h
    · obtain ⟨A, c, h1, h2, h3, h4, h5⟩ := h
      refine ⟨A, c, h1, h2, h3, h4, fun hl hc => ?_⟩
      obtain ⟨b, off, hA, hi⟩ := h5 hl hc
      refine ⟨b, off, hA, ?_, fun i hil => ?_⟩
      · obtain ⟨ys, y1, y2, _⟩ := hi 0 hl
        have : 0 < ys.length := by omega
        exact block_lt_of_cell (y2 0 _ (List.getElem?_eq_getElem this)).1
      · obtain ⟨ys, y1, y2, y3⟩ := hi i hil
        exact ⟨ys, y1, fun j u hu => (y2 j u hu).1, RepF.rep y3⟩
    · exact ⟨h.1, fun j f hf => RepF.rep (h.2 j f hf)⟩
theorem SlF.sl {k : Nat} {e : TypeId} {A : Option Addr} {l : List D} (h : SlF P w F k e A l) : Sl P w (fun b => b < w.heap.size) k e A l := fun hl hc => by
  obtain ⟨b, off, hA, hi⟩ := h hl hc
  refine ⟨b, off, hA, ?_, fun i hil => ?_⟩
  · obtain ⟨ys, y1, y2, _⟩ := hi 0 hl
    have : 0 < ys.length := by omega
    exact block_lt_of_cell (y2 0 _ (List.getElem?_eq_getElem this)).1
  · obtain ⟨ys, y1, y2, y3⟩ := hi i hil
    exact ⟨ys, y1, fun j u hu => (y2 j u hu).1, y3.rep⟩
end
inductive V where
  | any
  | c (v : Value)
  | sl (e : TypeId) (l : List D)
  | lit (e : TypeId) (l : List D)
  | at (t : TypeId) (d : D) (off : Nat)
  | bx (n : Nat) (off : Nat)
  | own (k : Nat) (e : TypeId) (l : List D)
  | agg (vs : List V)
  | tup (vs : List V)
  | clo (f : FuncId) (vs : List V)
  | mp (n : Nat)
instance : Inhabited V := ⟨.any⟩
/-- a value that reads no memory is in its type's range -/
def okV : Value → Prop
  | .int k n => (Lit.int k n).wf = true
  | .string s => s.size ≤ maxLen
  | .agg _ => False
  | .tuple _ => False
  | _ => True
/-- which cells no longer turn; where the boxes lie; what the slices under way are, and how long -/
structure Sg where
  F : Nat → Nat → Prop
  bx : Nat → Option Nat
  tb : Nat → Option Nat
  tk : Nat → Value × Nat
def SlV (P : Program) (w : World) (F : Nat → Nat → Prop) (e : TypeId) (l : List D) (u : Value) : Prop :=
  ∃ k A c, u = .slice A l.length c ∧ l.length ≤ c ∧ c ≤ maxLen ∧ (A = none → c = 0) ∧ SlF P w F k e A l
def AtF (P : Program) (w : World) (F : Nat → Nat → Prop) (t : TypeId) (d : D) (off : Nat) (u : Value) : Prop :=
  ∃ b o k cs, u = .pointer (some ⟨b, o + off, none⟩) ∧ cs.length = P.cellsOf t ∧ (∀ j x, cs[j]? = some x → w.cell? ⟨b, o + j, none⟩ = some x ∧ F b (o + j)) ∧ RepF P w F k t cs d
mutual
def rel (P : Program) (s : Sg) (w : World) : V → Value → Prop
  | .any, _ => True
  | .c v, u => u = v ∧ okV v
  | .sl e l, u => SlV P w s.F e l u
  | .lit e l, u => SlV P w s.F e l u ∧ ∃ A, u = .slice A l.length l.length
  | .at t d off, u => AtF P w s.F t d off u
  | .bx n off, u => ∃ b, s.bx n = some b ∧ u = .pointer (some ⟨b, off, none⟩)
  | .own k e l, u => SlV P w s.F e l u ∧ l.length ≤ (s.tk k).2 ∧ (l.length = (s.tk k).2 → u = (s.tk k).1)
  | .agg vs, u => ∃ cs, u = .agg cs ∧ relL P s w vs cs.toList
  | .tup vs, u => ∃ cs, u = .tuple cs ∧ relL P s w vs cs.toList
  | .clo f vs, u => ∃ cs, u = .func (.func f) #[] cs ∧ relL P s w vs cs.toList
  | .mp n, u => ∃ b, s.bx n = some b ∧ u = .map (some b)
def relL (P : Program) (s : Sg) (w : World) : List V → List Value → Prop
  | [], [] => True
  | v :: vs, u :: us => rel P s w v u ∧ relL P s w vs us
  | _, _ => False
end
section
variable {P : Program} {s s' : Sg} {w w' : World}
theorem relL.length : ∀ {vs : List V} {us : List Value}, relL P s w vs us → vs.length = us.length
  | [], [], _ => rfl
  | [], _ :: _, h => by simp [relL] at h
  | _ :: _, [], h => by simp [relL] at h
  | v :: vs, u :: us, h => by rw [relL] at h; simp [relL.length h.2]
theorem relL.get : ∀ {vs : List V} {us : List Value}, relL P s w vs us → ∀ (i : Nat) (v : V) (u : Value), vs[i]? = some v → us[i]? = some u → rel P s w v u
  | [], [], _, i, v, u, hv, _ => by simp at hv
  | [], _ :: _, h, _, _, _, _, _ => by simp [relL] at h
  | _ :: _, [], h, _, _, _, _, _ => by simp [relL] at h
  | v :: vs, u :: us, h, i, v', u', hv, hu => by
    rw [relL] at h
    cases i with
    | zero => simp at hv hu; subst hv; subst hu; exact h.1
    | succ i => exact relL.get h.2 i v' u' (by simpa using hv) (by simpa using hu)
theorem relL.of_get : ∀ {vs : List V} {us : List Value}, vs.length = us.length → (∀ (i : Nat) (v : V) (u : Value), vs[i]? = some v → us[i]? = some u → rel P s w v u) → relL P s w vs us
  | [], [], _, _ => by simp [relL]
  | [], _ :: _, h, _ => by simp at h
  | _ :: _, [], h, _ => by simp at h
  | v :: vs, u :: us, h, hg => by
    rw [relL]
    exact ⟨hg 0 v u rfl rfl, relL.of_get (by simpa using h) fun i v' u' hv hu => hg (i + 1) v' u' (by simpa using hv) (by simpa using hu)⟩
theorem relL.set {vs : List V} {us : List Value} (h : relL P s w vs us) (i : Nat) {v : V} {u : Value} (hr : rel P s w v u) : relL P s w (vs.set i v) (us.set i u) := by
  refine .of_get (by simpa using h.length) fun j v' u' hv hu => ?_
  rw [List.getElem?_set] at hv hu
  split at hv
  · rename_i hij
    rw [if_pos hij] at hu
    split at hv
    · rw [if_pos (by have := h.length; omega)] at hu
      cases hv; cases hu; exact hr
    · cases hv
  · rename_i hij
    rw [if_neg hij] at hu
    exact h.get j v' u' hv hu
theorem relL.append : ∀ {vs vs' : List V} {us us' : List Value}, relL P s w vs us → relL P s w vs' us' → relL P s w (vs ++ vs') (us ++ us')
  | [], _, [], _, _, h => h
  | [], _, _ :: _, _, h, _ => by simp [relL] at h
  | _ :: _, _, [], _, h, _ => by simp [relL] at h
  | v :: vs, vs', u :: us, us', h, h' => by
    rw [relL] at h
    rw [List.cons_append, List.cons_append, relL]
    exact ⟨h.1, relL.append h.2 h'⟩
theorem relL.anys : ∀ (us : List Value), relL P s w (List.replicate us.length .any) us
  | [] => by simp [relL]
  | u :: us => by
    rw [List.length_cons, List.replicate_succ, relL]
    exact ⟨by simp [rel], relL.anys us⟩
theorem relL.drop : ∀ {vs : List V} {us : List Value} (n : Nat), relL P s w vs us → relL P s w (vs.drop n) (us.drop n)
  | vs, us, 0, h => h
  | [], [], n + 1, _ => by simp [relL]
  | [], _ :: _, _, h => by simp [relL] at h
  | _ :: _, [], _, h => by simp [relL] at h
  | v :: vs, u :: us, n + 1, h => by
    rw [relL] at h
    simpa using relL.drop n h.2
theorem relL.take : ∀ {vs : List V} {us : List Value} (n : Nat), relL P s w vs us → relL P s w (vs.take n) (us.take n)
  | vs, us, 0, h => by simp [relL]
  | [], [], n + 1, _ => by simp [relL]
  | [], _ :: _, _, h => by simp [relL] at h
  | _ :: _, [], _, h => by simp [relL] at h
  | v :: vs, u :: us, n + 1, h => by
    rw [relL] at h
    simp only [List.take_succ_cons, relL]
    exact ⟨h.1, relL.take n h.2⟩
/-- a later state, in which the boxes and slices that X names are others -/
structure Ext (X : Nat → Prop) (s : Sg) (w : World) (s' : Sg) (w' : World) : Prop where
  keeps : Keeps s.F s'.F w w'
  bx : ∀ n, ¬ X n → s'.bx n = s.bx n
  tk : ∀ n, ¬ X n → s'.tk n = s.tk n ∨ (s.tk n).2 < (s'.tk n).2
theorem Ext.refl (X : Nat → Prop) (s : Sg) (w : World) : Ext X s w s w := ⟨.refl, fun _ _ => rfl, fun _ _ => .inl rfl⟩
theorem Ext.trans {X : Nat → Prop} {s'' : Sg} {w'' : World} (h : Ext X s w s' w') (k : Ext X s' w' s'' w'') : Ext X s w s'' w'' :=
  ⟨h.keeps.trans k.keeps, fun n hn => (k.bx n hn).trans (h.bx n hn), fun n hn => by
    rcases h.tk n hn with h1 | h1 <;> rcases k.tk n hn with h2 | h2
    · exact .inl (h2.trans h1)
    · rw [h1] at h2; exact .inr h2
    · rw [h2]; exact .inr h1
    · exact .inr (by omega)⟩
theorem Ext.mono {X Y : Nat → Prop} (h : Ext X s w s' w') (hX : ∀ n, X n → Y n) : Ext Y s w s' w' := ⟨h.keeps, fun n hn => h.bx n fun k => hn (hX n k), fun n hn => h.tk n fun k => hn (hX n k)⟩
mutual
/-- the name n does not occur -/
def V.free (n : Nat) : V → Bool
  | .bx m _ => m != n
  | .own m _ _ => m != n
  | .agg vs => freeL n vs
  | .tup vs => freeL n vs
  | .clo _ vs => freeL n vs
  | .mp m => m != n
  | _ => true
def freeL (n : Nat) : List V → Bool
  | [] => true
  | v :: vs => v.free n && freeL n vs
end
theorem SlV.turn {e : TypeId} {l : List D} {u : Value} {F G : Nat → Nat → Prop} (h : SlV P w F e l u) (hk : Keeps F G w w') : SlV P w' G e l u := by
  obtain ⟨k, A, c, h1, h2, h3, h4, h5⟩ := h
  exact ⟨k, A, c, h1, h2, h3, h4, h5.turn hk⟩
theorem AtF.turn {t : TypeId} {d : D} {off : Nat} {u : Value} {F G : Nat → Nat → Prop} (h : AtF P w F t d off u) (hk : Keeps F G w w') : AtF P w' G t d off u := by
  obtain ⟨b, o, k, cs, h1, h2, h3, h4⟩ := h
  exact ⟨b, o, k, cs, h1, h2, fun j x hx => ⟨(hk _ _ (h3 j x hx).2).1.trans (h3 j x hx).1, (hk _ _ (h3 j x hx).2).2⟩, h4.turn hk⟩
mutual
theorem rel.ext {X : Nat → Prop} (hx : Ext X s w s' w') : ∀ (v : V) (u : Value), rel P s w v u → (∀ n, X n → v.free n = true) → rel P s' w' v u
  | .any, _, _, _ => by simp [rel]
  | .c _, _, h, _ => by simpa [rel] using h
  | .sl _ _, _, h, _ => by rw [rel] at h ⊢; exact h.turn hx.keeps
  | .lit _ _, _, h, _ => by rw [rel] at h ⊢; exact ⟨h.1.turn hx.keeps, h.2⟩
  | .at _ _ _, _, h, _ => by rw [rel] at h ⊢; exact h.turn hx.keeps
  | .bx n off, _, h, hf => by
    rw [rel] at h ⊢
    obtain ⟨b, h1, h2⟩ := h
    exact ⟨b, (hx.bx n fun hn => by have := hf n hn; simp [V.free] at this).trans h1, h2⟩
  | .mp n, _, h, hf => by
    rw [rel] at h ⊢
    obtain ⟨b, h1, h2⟩ := h
    exact ⟨b, (hx.bx n fun hn => by have := hf n hn; simp [V.free] at this).trans h1, h2⟩
  | .own n _ _, _, h, hf => by
    rw [rel] at h ⊢
    obtain ⟨h1, h2, h3⟩ := h
    have hn : ¬ X n := fun hn => by have := hf n hn; simp [V.free] at this
    refine ⟨h1.turn hx.keeps, ?_, ?_⟩ <;> rcases hx.tk n hn with e | e
    · rw [e]; exact h2
    · omega
    · rw [e]; exact h3
    · intro; omega
  | .agg vs, _, h, hf => by
    rw [rel] at h ⊢
    obtain ⟨cs, h1, h2⟩ := h
    exact ⟨cs, h1, relL.ext hx vs _ h2 fun n hn => by have := hf n hn; rwa [V.free] at this⟩
  | .tup vs, _, h, hf => by
    rw [rel] at h ⊢
    obtain ⟨cs, h1, h2⟩ := h
    exact ⟨cs, h1, relL.ext hx vs _ h2 fun n hn => by have := hf n hn; rwa [V.free] at this⟩
  | .clo _ vs, _, h, hf => by
    rw [rel] at h ⊢
    obtain ⟨cs, h1, h2⟩ := h
    exact ⟨cs, h1, relL.ext hx vs _ h2 fun n hn => by have := hf n hn; rwa [V.free] at this⟩
theorem relL.ext {X : Nat → Prop} (hx : Ext X s w s' w') : ∀ (vs : List V) (us : List Value), relL P s w vs us → (∀ n, X n → freeL n vs = true) → relL P s' w' vs us
  | [], [], _, _ => by simp [relL]
  | [], _ :: _, h, _ => by simp [relL] at h
  | _ :: _, [], h, _ => by simp [relL] at h
  | v :: vs, u :: us, h, hf => by
    rw [relL] at h ⊢
    exact ⟨rel.ext hx v u h.1 fun n hn => by have := hf n hn; rw [freeL, Bool.and_eq_true] at this; exact this.1,
      relL.ext hx vs us h.2 fun n hn => by have := hf n hn; rw [freeL, Bool.and_eq_true] at this; exact this.2⟩
end
theorem rel.ext0 (hx : Ext (fun _ => False) s w s' w') {v : V} {u : Value} (h : rel P s w v u) : rel P s' w' v u := rel.ext hx v u h fun _ hn => hn.elim
theorem relL.ext0 (hx : Ext (fun _ => False) s w s' w') {v : List V} {u : List Value} (h : relL P s w v u) : relL P s' w' v u := relL.ext hx v u h fun _ hn => hn.elim
end
mutual
/-- a slice under way, handed on: it is only read -/
def V.out : V → V
  | .own _ e l => .sl e l
  | .lit e l => .sl e l
  | .agg vs => .agg (outL vs)
  | .tup vs => .tup (outL vs)
  | .clo f vs => .clo f (outL vs)
  | v => v
def outL : List V → List V
  | [] => []
  | v :: vs => v.out :: outL vs
/-- no name of the call's own -/
def V.pure : V → Bool
  | .own _ _ _ => false
  | .bx _ _ => false
  | .mp _ => false
  | .agg vs => pureL vs
  | .tup vs => pureL vs
  | .clo _ vs => pureL vs
  | _ => true
def pureL : List V → Bool
  | [] => true
  | v :: vs => v.pure && pureL vs
end
section
variable {P : Program} {s s' : Sg} {w w' : World} 
mutual
theorem rel.out : ∀ (v : V) (u : Value), rel P s w v u → rel P s w v.out u
  | .any, _, h => by simp [V.out, rel]
  | .c _, _, h => by simpa [V.out] using h
  | .sl _ _, _, h => by simpa [V.out] using h
  | .at _ _ _, _, h => by simpa [V.out] using h
  | .bx _ _, _, h => by simpa [V.out] using h
  | .mp _, _, h => by simpa [V.out] using h
  | .own _ _ _, _, h => by rw [rel] at h; rw [V.out, rel]; exact h.1
  | .lit _ _, _, h => by rw [rel] at h; rw [V.out, rel]; exact h.1
  | .agg vs, _, h => by rw [rel] at h; rw [V.out, rel]; obtain ⟨cs, h1, h2⟩ := h; exact ⟨cs, h1, relL.out vs _ h2⟩
  | .tup vs, _, h => by rw [rel] at h; rw [V.out, rel]; obtain ⟨cs, h1, h2⟩ := h; exact ⟨cs, h1, relL.out vs _ h2⟩
  | .clo _ vs, _, h => by rw [rel] at h; rw [V.out, rel]; obtain ⟨cs, h1, h2⟩ := h; exact ⟨cs, h1, relL.out vs _ h2⟩
theorem relL.out : ∀ (vs : List V) (us : List Value), relL P s w vs us → relL P s w (outL vs) us
  | [], [], _ => by simp [outL, relL]
  | [], _ :: _, h => by simp [relL] at h
  | _ :: _, [], h => by simp [relL] at h
  | v :: vs, u :: us, h => by rw [relL] at h; rw [outL, relL]; exact ⟨rel.out v u h.1, relL.out vs us h.2⟩
end
mutual
theorem rel.only (hF : s'.F = s.F) : ∀ (v : V) (u : Value), v.pure = true → rel P s w v u → rel P s' w v u
  | .any, _, _, h => by simp [rel]
  | .c _, _, _, h => by simpa [rel] using h
  | .sl _ _, _, _, h => by rw [rel] at h ⊢; rw [hF]; exact h
  | .lit _ _, _, _, h => by rw [rel] at h ⊢; rw [hF]; exact h
  | .at _ _ _, _, _, h => by rw [rel] at h ⊢; rw [hF]; exact h
  | .bx _ _, _, hp, h => by simp [V.pure] at hp
  | .mp _, _, hp, h => by simp [V.pure] at hp
  | .own _ _ _, _, hp, h => by simp [V.pure] at hp
  | .agg vs, _, hp, h => by rw [rel] at h ⊢; rw [V.pure] at hp; obtain ⟨cs, h1, h2⟩ := h; exact ⟨cs, h1, relL.only hF vs _ hp h2⟩
  | .tup vs, _, hp, h => by rw [rel] at h ⊢; rw [V.pure] at hp; obtain ⟨cs, h1, h2⟩ := h; exact ⟨cs, h1, relL.only hF vs _ hp h2⟩
  | .clo _ vs, _, hp, h => by rw [rel] at h ⊢; rw [V.pure] at hp; obtain ⟨cs, h1, h2⟩ := h; exact ⟨cs, h1, relL.only hF vs _ hp h2⟩
theorem relL.only (hF : s'.F = s.F) : ∀ (vs : List V) (us : List Value), pureL vs = true → relL P s w vs us → relL P s' w vs us
  | [], [], _, _ => by simp [relL]
  | [], _ :: _, _, h => by simp [relL] at h
  | _ :: _, [], _, h => by simp [relL] at h
  | v :: vs, u :: us, hp, h => by
    rw [relL] at h ⊢; rw [pureL, Bool.and_eq_true] at hp
    exact ⟨rel.only hF v u hp.1 h.1, relL.only hF vs us hp.2 h.2⟩
end
end
end Go.Proofs.YtdklhkdlndlgnaaGreatDoor
