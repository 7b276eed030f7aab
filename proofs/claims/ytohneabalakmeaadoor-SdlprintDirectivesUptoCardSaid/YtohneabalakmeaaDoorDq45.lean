/- Parts of a proof, merged by a program (shake.py). -/
import Derived.Test.YtohneabalakmeaaDoorDq44
namespace Go.Proofs.YtohneabalakmeaaDoor
open Go.RowKit
attribute [local irreducible] wpList Calls Code.wp
mutual
inductive VLe : V → V → Prop
  | refl (v : V) : VLe v v
  | nil (e : TypeId) : VLe (.c (.slice none 0 0)) (.sl e [])
  | lit (e : TypeId) (l : List D) : VLe (.lit e l) (.sl e l)
  | own (k : Nat) (e : TypeId) (l : List D) : VLe (.own k e l) (.sl e l)
  | agg {a b : List V} : VLeL a b → VLe (.agg a) (.agg b)
  | tup {a b : List V} : VLeL a b → VLe (.tup a) (.tup b)
inductive VLeL : List V → List V → Prop
  | nil : VLeL [] []
  | cons {v u : V} {a b : List V} : VLe v u → VLeL a b → VLeL (v :: a) (u :: b)
end
mutual
theorem rel_le {P : Program} {s : Sg} {w : World} {v u : V} {x : Value} (h : VLe v u) (hr : rel P s w v x) : rel P s w u x := by
  cases h with
  | refl => exact hr
  | nil e =>
    unfold rel at hr ⊢
    rw [hr.1]
    exact ⟨0, none, 0, rfl, Nat.le_refl _, by decide, fun _ => rfl, fun h => by simp at h⟩
  | lit e l => unfold rel at hr ⊢; exact hr.1
  | own k e l => unfold rel at hr ⊢; exact hr.1
  | agg h => unfold rel at hr ⊢; obtain ⟨cs, h1, h2⟩ := hr; exact ⟨cs, h1, relL_le h h2⟩
  | tup h => unfold rel at hr ⊢; obtain ⟨cs, h1, h2⟩ := hr; exact ⟨cs, h1, relL_le h h2⟩
theorem relL_le {P : Program} {s : Sg} {w : World} {a b : List V} {xs : List Value} (h : VLeL a b) (hr : relL P s w a xs) : relL P s w b xs := by
  cases h with
  | nil => exact hr
  | cons h1 h2 =>
    cases xs with
    | nil => unfold relL at hr; exact hr.elim
    | cons x xs => unfold relL at hr ⊢; exact ⟨rel_le h1 hr.1, relL_le h2 hr.2⟩
end
theorem AC.res {e : Ge} {P : Program} {f : FuncId} {args : List V} {r r' : V} (h : AC e P f args r) (hle : VLe r r') : AC e P f args r' := fun s w us hus hfx he =>
  (h s w us hus hfx he).mono fun _ _ ⟨v, F', h1, h2, h3, h4, h5, h6⟩ => ⟨v, F', h1, h2, h3, h4, h5, rel_le hle h6⟩
theorem AC.arg {e : Ge} {P : Program} {f : FuncId} {args args' : List V} {r : V} (h : AC e P f args' r) (hle : VLeL args args') : AC e P f args r := fun s w us hus hfx he => h s w us (relL_le hle hus) hfx he
section
variable {X : Cx} {nn : Nat} {st : Vst nn} {o : Oper} {ops : Array Oper} {l : List Oper} {d : Option Tmp} {KK : Vst nn → Prop}
theorem opOk_valW {K : Vst nn → Prop} {p : Prop} {v : V} (v' : V) (h : act1 X.P st.rs (ev st) o.op = .val p v) (hle : VLe v v') (hp : p) (hK : K (st.put o.dst v')) : OpOk X o st K := by
  intro s w a hI N Q hN
  obtain ⟨u, h1, h2⟩ := act1_ok h hp hI.boxes hI.ev
  unfold Oper.wp
  rw [h1, Oper.upon_value]
  exact hN _ _ _ _ (hI.put o.dst (rel_le hle h2)) hK
/-- a value that is built, said as data -/
theorem s_valW {p : Prop} {v : V} (v' : V) (hg : o.guard = none) (hd : o.dst = d) (h : act1 X.P st.rs (ev st) o.op = .val p v) (hle : VLe v v') (hK : AWo X ops l (st.put d v') KK) (hp : p) : AWo X ops (o :: l) st KK := awo_cons hg (opOk_valW v' h hle hp (by rw [hd]; exact hK))
end
/-- whether a datum has a type's shape, to be computed -/
def fitsB (P : Program) : Nat → TypeId → D → Bool
  | 0, _, _ => false
  | k + 1, t, d =>
    match P.underlying t with
    | some .bool => match d with | .bool _ => true | _ => false
    | some (.int _) => match d with | .int _ => true | _ => false
    | some .string => match d with | .str _ => true | _ => false
    | some (.slice e) => match d with | .list l => l.all (fitsB P k e) | _ => false
    | some (.struct fs) => match d with | .obj l => l.length == fs.size && (fs.toList.zip l).all (fun p => fitsB P k p.1.type p.2) | _ => false
    | _ => true
theorem fitsB_ok {P : Program} : ∀ {k : Nat} {t : TypeId} {d : D}, fitsB P k t d = true → Fits P k t d
  | 0, _, _, h => by simp [fitsB] at h
  | k + 1, t, d, h => by
    unfold fitsB at h
    unfold Fits
    split at h <;> rename_i hu <;> simp only [hu]
    · split at h
      · exact ⟨_, rfl⟩
      · cases h
    · split at h
      · exact ⟨_, rfl⟩
      · cases h
    · split at h
      · exact ⟨_, rfl⟩
      · cases h
    · split at h
      · rename_i l
        rw [List.all_eq_true] at h
        refine ⟨l, rfl, fun i hi => fitsB_ok (h _ ?_)⟩
        rw [gD_get hi]; exact List.getElem_mem hi
      · cases h
    · rename_i fs
      split at h
      · rename_i l
        rw [Bool.and_eq_true, List.all_eq_true] at h
        have hl : l.length = fs.size := by simpa using h.1
        refine ⟨l, rfl, hl, fun j f hf => fitsB_ok (t := f.type) ?_⟩
        obtain ⟨hj, hf2⟩ := Array.getElem?_eq_some_iff.1 hf
        have hj2 : j < l.length := by omega
        have hm : (f, gD l j) ∈ fs.toList.zip l := by
          rw [gD_get hj2]
          have hz : j < (fs.toList.zip l).length := by simp; omega
          have e : (fs.toList.zip l)[j] = (f, l[j]) := by simp [hf2]
          rw [← e]; exact List.getElem_mem hz
        exact h.2 _ hm
      · cases h
theorem no_lt {p : Nat → Prop} {l : List D} (h : l = []) : ∀ i, i < l.length → p i := fun i hi => by rw [h] at hi; exact absurd hi (Nat.not_lt_zero _)
end Go.Proofs.YtohneabalakmeaaDoor
