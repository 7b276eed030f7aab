/- Parts of a proof, merged by a program (shake.py). -/
import Derived.Deep.Upon
import Derived.Test.YtdklhkdlndlgnaaGreatDoorQ27
set_option linter.unusedVariables false
set_option linter.unusedSimpArgs false
namespace Go.Proofs.YtdklhkdlndlgnaaGreatDoor
open Go.RowKit
attribute [local irreducible] wpList Calls Code.wp
section
variable {X : Cx} {nn : Nat} {st : Vst nn} {o : Oper} {K : Vst nn → Prop} {ops : Array Oper} {l : List Oper} {d : Option Tmp} {KK : Vst nn → Prop}
set_option maxRecDepth 100000 in
theorem res_same {k : Nat} {ρ : Res} (h : st.rs k = some ρ) : st.res k ρ = st := by
  unfold Vst.res
  have e : updR st.rs k ρ = st.rs := by
    funext m
    unfold updR
    by_cases hm : m = k
    · subst hm; rw [if_pos rfl, h]
    · rw [if_neg hm]
  rw [e]
end
end Go.Proofs.YtdklhkdlndlgnaaGreatDoor
namespace Go.Proofs.YtdklhkdlndlgnaaGreatDoor
open Go.RowKit
attribute [local irreducible] wpList Calls Code.wp
section
variable {X : Cx} {nn : Nat} {st : Vst nn} {ops : Array Oper} {ws : List Nat} {wi : Nat}
/-- what is listed has all that it waits for listed -/
def Closed (ops : Array Oper) (listed : Array Bool) : Prop := ∀ k o, ops[k]? = some o → listed.getD k false = true → ∀ e ∈ o.after, Region.binds .any e = true → listed.getD e.on false = true
set_option maxRecDepth 100000 in
theorem Closed.set {listed : Array Bool} {j : Nat} (h : Closed ops listed) (hj : j ∈ Region.ready .any ops listed) : Closed ops (listed.setIfInBounds j true) := by
  intro k o ho hk e he hb
  obtain ⟨-, oj, hoj, hall⟩ := mem_ready.1 hj
  by_cases hkj : k = j
  · subst hkj
    rw [hoj] at ho; cases ho
    exact getD_set_true (hall e he hb)
  · rw [getD_set_ne false (fun e => hkj e.symm)] at hk
    exact getD_set_true (h k o ho hk e he hb)
def waits (ops : Array Oper) (k : Nat) : List Nat := match ops[k]? with | some o => (o.after.toList.filter fun e => Region.binds .any e).map (·.on) | none => []
def reachS (ops : Array Oper) : Nat → List Nat → List Nat
  | 0, S => S
  | n + 1, S => reachS ops n (S ++ (S.flatMap (waits ops)).filter fun k => !S.contains k)
set_option maxRecDepth 100000 in
theorem waits_ok {listed : Array Bool} (h : Closed ops listed) {q k : Nat} (hq : listed.getD q false = true) (hk : k ∈ waits ops q) : listed.getD k false = true := by
  unfold waits at hk
  split at hk
  · rename_i o ho
    obtain ⟨e, he, rfl⟩ := List.mem_map.1 hk
    obtain ⟨h1, h2⟩ := List.mem_filter.1 he
    exact h q o ho hq e (by simpa using h1) h2
  · simp at hk
set_option maxRecDepth 100000 in
theorem reach_ok {listed : Array Bool} (h : Closed ops listed) : ∀ (n : Nat) (S : List Nat), (∀ k ∈ S, listed.getD k false = true) → ∀ k ∈ reachS ops n S, listed.getD k false = true
  | 0, S, hS, k, hk => hS k hk
  | n + 1, S, hS, k, hk => by
    refine reach_ok h n _ (fun q hq => ?_) k hk
    rcases List.mem_append.1 hq with hq | hq
    · exact hS q hq
    · obtain ⟨h1, -⟩ := List.mem_filter.1 hq
      obtain ⟨p, hp, h2⟩ := List.mem_flatMap.1 h1
      exact waits_ok h (hS p hp) h2
set_option maxRecDepth 100000 in
theorem listed_both {listed : Array Bool} {i : Nat} (h0 : listed.getD i true = false) (h1 : listed.getD i false = true) : False := by
  rw [Array.getD_eq_getD_getElem?] at h0 h1
  cases h : listed[i]? with
  | none => rw [h] at h0; simp at h0
  | some b => rw [h] at h0 h1; simp at h0 h1; rw [h0] at h1; cases h1
end
end Go.Proofs.YtdklhkdlndlgnaaGreatDoor
namespace Go.Proofs.YtdklhkdlndlgnaaGreatDoor
open Go.RowKit
attribute [local irreducible] wpList Calls Code.wp
mutual
inductive VLe : V → V → Prop
  | refl (v : V) : VLe v v
  | nil (e : TypeId) : VLe (.c (.slice none 0 0)) (.sl e [])
  | lit (e : TypeId) (l : List D) : VLe (.lit e l) (.sl e l)
  | own (k : Nat) (e : TypeId) (l : List D) : VLe (.own k e l) (.sl e l)
  | agg {a b : List V} : VLeL a b → VLe (.agg a) (.agg b)
  | tup {a b : List V} : VLeL a b → VLe (.tup a) (.tup b)
inductive VLeL : List V → List V → Prop
  | nil : VLeL [] []
  | cons {v u : V} {a b : List V} : VLe v u → VLeL a b → VLeL (v :: a) (u :: b)
end
mutual
theorem rel_le {P : Program} {s : Sg} {w : World} {v u : V} {x : Value} (h : VLe v u) (hr : rel P s w v x) : rel P s w u x := by
  cases h with
  | refl => exact hr
  | nil e =>
    unfold rel at hr ⊢
    rw [hr.1]
    exact ⟨0, none, 0, rfl, Nat.le_refl _, by decide, fun _ => rfl, fun h => by simp at h⟩
  | lit e l => unfold rel at hr ⊢; exact hr.1
  | own k e l => unfold rel at hr ⊢; exact hr.1
  | agg h => unfold rel at hr ⊢; obtain ⟨cs, h1, h2⟩ := hr; exact ⟨cs, h1, relL_le h h2⟩
  | tup h => unfold rel at hr ⊢; obtain ⟨cs, h1, h2⟩ := hr; exact ⟨cs, h1, relL_le h h2⟩
theorem relL_le {P : Program} {s : Sg} {w : World} {a b : List V} {xs : List Value} (h : VLeL a b) (hr : relL P s w a xs) : relL P s w b xs := by
  cases h with
  | nil => exact hr
  | cons h1 h2 =>
    cases xs with
    | nil => unfold relL at hr; exact hr.elim
    | cons x xs => unfold relL at hr ⊢; exact ⟨rel_le h1 hr.1, relL_le h2 hr.2⟩
end
theorem AC.res {e : Ge} {P : Program} {f : FuncId} {args : List V} {r r' : V} (h : AC e P f args r) (hle : VLe r r') : AC e P f args r' := fun s w us hus hfx he =>
  (h s w us hus hfx he).mono fun _ _ ⟨v, F', h1, h2, h3, h4, h5, h6⟩ => ⟨v, F', h1, h2, h3, h4, h5, rel_le hle h6⟩
theorem AC.arg {e : Ge} {P : Program} {f : FuncId} {args args' : List V} {r : V} (h : AC e P f args' r) (hle : VLeL args args') : AC e P f args r := fun s w us hus hfx he => h s w us (relL_le hle hus) hfx he
section
variable {X : Cx} {nn : Nat} {st : Vst nn} {o : Oper} {ops : Array Oper} {l : List Oper} {d : Option Tmp} {KK : Vst nn → Prop}
theorem opOk_valW {K : Vst nn → Prop} {p : Prop} {v : V} (v' : V) (h : act1 X.P st.rs (ev st) o.op = .val p v) (hle : VLe v v') (hp : p) (hK : K (st.put o.dst v')) : OpOk X o st K := by
  intro s w a hI N Q hP hN
  obtain ⟨u, h1, h2⟩ := act1_ok h hp hI.boxes hI.ev
  unfold Oper.wp
  rw [h1, Oper.upon_value]
  exact hN _ _ _ _ (hI.put o.dst (rel_le hle h2)) hK
/-- a value that is built, said as data -/
theorem s_valW {p : Prop} {v : V} (v' : V) (hg : o.guard = none) (hd : o.dst = d) (h : act1 X.P st.rs (ev st) o.op = .val p v) (hle : VLe v v') (hK : AWo X ops l (st.put d v') KK) (hp : p) : AWo X ops (o :: l) st KK := awo_cons hg (opOk_valW v' h hle hp (by rw [hd]; exact hK))
end
theorem ACB.res {e : Ge} {P : Program} {f : FuncId} {args : List V} {bs bs' : List Res} {r r' : V} (h : ACB e P f args bs r bs') (hle : VLe r r') : ACB e P f args bs r' bs' := fun pas s w us hus hm he hp =>
  (h pas s w us hus hm he hp).mono fun _ _ ⟨v, s', h1, h2, h3, h4, h5, h6, h7⟩ => ⟨v, s', h1, h2, h3, h4, h5, h6, rel_le hle h7⟩
section
variable {X : Cx} {nn : Nat} {st : Vst nn}
/-- slots say less -/
theorem Sub.le {t : Nat} {v : V} (h : VLe (st.tm t) v) : Sub X st (st.put (some t) v) := fun s w a hI =>
  ⟨s, hI.sz, fun i hi => by
    show rel X.P s w (if i = t then v else st.tm i) _
    by_cases e : i = t
    · subst e; rw [if_pos rfl]; exact rel_le h (hI.tm i hi)
    · rw [if_neg e]; exact hI.tm i hi, hI.df, hI.fr, hI.kp, hI.nf, hI.mem, hI.pe⟩
end
section
variable {X : Cx} {nn : Nat} {st : Vst nn}
/-- the region that a statement begins with -/
def headR : Code → Option Nat
  | .region id _ _ => some id
  | .seq x _ => headR x
  | .block _ x => headR x
  | .scope x => headR x
  | .loop x => headR x
  | _ => none
def cutK (X : Cx) (st1 : Vst nn) (K : Exit → Vst nn → Prop) : Exit → Vst nn → Prop
  | .normal, st => Sub X st st1
  | e, st => K e st
/-- what follows is walked once, from the state st1 -/
theorem aw_cutAt (n : Nat) (st1 : Vst nn) {x y : Code} {K : Exit → Vst nn → Prop} (_hn : headR y = some n) (hx : AW X x st (cutK X st1 K)) (hy : AW X y st1 K) : AW X (.seq x y) st K := by
  refine aw_seq ?_
  intro s w a hI
  refine Code.wp_mono (fun e a' w' ⟨st', s', hI', hK⟩ => ?_) (hx s w a hI)
  rcases hK with hK | ⟨pv, rfl, hp⟩
  · cases e
    case normal =>
      refine ⟨st', s', hI', .inl ?_⟩
      show AW X y st' K
      exact aw_sub hK hy
    all_goals exact ⟨st', s', hI', .inl hK⟩
  · exact ⟨st', s', hI', .inr ⟨pv, rfl, hp⟩⟩
theorem k_cut {st1 : Vst nn} {K : Exit → Vst nn → Prop} (h : Sub X st st1) : cutK X st1 K .normal st := h
theorem k_cut_ret {st1 : Vst nn} {K : Exit → Vst nn → Prop} (h : K .ret st) : cutK X st1 K .ret st := h
theorem k_cut_exit {st1 : Vst nn} {K : Exit → Vst nn → Prop} {id : Nat} (h : K (.exit id) st) : cutK X st1 K (.exit id) st := h
end
end Go.Proofs.YtdklhkdlndlgnaaGreatDoor
