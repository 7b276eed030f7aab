/- Parts of a proof, merged by a program (shake.py). -/
import Derived.Scope
import Derived.Test.YtdklhkdlndlgnaaGreatDoorQ11
set_option linter.unusedVariables false
set_option linter.unusedSimpArgs false
namespace Go.Proofs.YtdklhkdlndlgnaaGreatDoor
open Go.RowKit
attribute [local irreducible] wpList Calls Code.wp
variable {X : Cx} {nn : Nat} {st : Vst nn}
/-- the operations of a region that are left -/
def AWo (X : Cx) (ops : Array Oper) (l : List Oper) (st : Vst nn) (K : Vst nn → Prop) : Prop :=
  ∀ s w a, Inv X st s w a → ∀ Q : Exit → Act → World → Prop, PQ X nn Q → (∀ st' s' w' a', Inv X st' s' w' a' → K st' → Q .normal a' w') → wpList X.P ops Q l a w
section
variable {ops : Array Oper} {l : List Oper} {o : Oper} {K : Vst nn → Prop}
theorem awo_nil (h : K st) : AWo X ops [] st K := fun s w a hI Q hP hQ => wpList_nil (hQ st s w a hI h)
theorem awo_cons (hg : o.guard = none) (h : OpOk X o st (fun st' => AWo X ops l st' K)) : AWo X ops (o :: l) st K := fun s w a hI Q hP hQ =>
  wpList_plain hg fun K' hK' => h s w a hI K' Q hP fun st' s' w' a' hI' hK => hK' _ _ (hK s' w' a' hI' Q hP hQ)
def gval (ops : Array Oper) (st : Vst nn) (j : Nat) : Option Bool :=
  match (ops[j]?).bind (·.dst) with
  | some d => match ev st (.tmp d) with | .c (.bool b) => some b | _ => none
  | none => none
theorem gval_ok {s : Sg} {w : World} {a : Act} {j : Nat} {b : Bool} (h : gval ops st j = some b) (hI : Inv X st s w a) : yielded ops a.tmps j = some b := by
  unfold gval at h
  split at h
  · rename_i d hd
    split at h
    · rename_i b' hv
      cases h
      have hr := hI.ev (.tmp d)
      rw [hv, rel] at hr
      have he : a.tmps.getD d undef = .bool b := hr.1
      unfold yielded
      rw [hd]
      simp only [Option.bind_some]
      rw [Array.getD_eq_getD_getElem?] at he
      cases hq : a.tmps[d]? with
      | none => rw [hq] at he; simp [undef] at he
      | some u => rw [hq] at he; simp at he; rw [he]
    · cases h
  · cases h
theorem awo_guard {j : Nat} {want b : Bool} (hg : o.guard = some (j, want)) (hb : gval ops st j = some b) (h1 : b = want → OpOk X o st (fun st' => AWo X ops l st' K)) (h2 : b ≠ want → AWo X ops l (st.put o.dst .any) K) : AWo X ops (o :: l) st K := fun s w a hI Q hP hQ => by
  have hy := gval_ok hb hI
  refine wpList_step fun K' hK' => ?_
  have hwt : Region.wanted o (yielded ops a.tmps) = (b == want) := by simp [Region.wanted, hg, hy]
  rw [hwt]
  by_cases e : b = want
  · rw [if_pos (by simp [e])]
    exact h1 e s w a hI K' Q hP fun st' s' w' a' hI' hK => hK' _ _ (hK s' w' a' hI' Q hP hQ)
  · rw [if_neg (by simp [e])]
    exact hK' _ _ (h2 e s w (a.put o.dst undef) (hI.put o.dst (by simp [rel])) Q hP hQ)
end
/-- a panic that the context allows -/
def PX (X : Cx) (e : Exit) (st : Vst nn) : Prop := ∃ pv, e = .panic [{ v := pv, recovered := false }] ∧ X.pk pv st.tm st.rs
/-- a statement -/
def AW (X : Cx) (c : Code) (st : Vst nn) (K : Exit → Vst nn → Prop) : Prop :=
  ∀ s w a, Inv X st s w a → c.wp X.P (fun e a' w' => ∃ (st' : Vst nn) (s' : Sg), Inv X st' s' w' a' ∧ (K e st' ∨ PX X e st')) a w
def seqK (X : Cx) (y : Code) (K : Exit → Vst nn → Prop) : Exit → Vst nn → Prop
  | .normal, st => AW X y st K
  | e, st => K e st
def blockK (id : Nat) (K : Exit → Vst nn → Prop) : Exit → Vst nn → Prop
  | .exit id', st => if id' = id then K .normal st else K (.exit id') st
  | e, st => K e st
def scopeK (K : Exit → Vst nn → Prop) : Exit → Vst nn → Prop
  | .goto _, _ => False
  | e, st => K e st
def loopK (j : Nat) (I : Nat → Vst nn → Prop) (K : Exit → Vst nn → Prop) : Exit → Vst nn → Prop
  | .normal, st => ∃ j', j' < j ∧ I j' st
  | e, st => K e st
section
variable {K : Exit → Vst nn → Prop}
theorem aw_region {id : Nat} {l : List Oper} (h : AWo X l.toArray l st (K .normal)) : AW X (.region id l.toArray false) st K := fun s w a hI =>
  wp_region_lit (h s w a hI _ (fun pv st' s' w' a' hI' hp => ⟨st', s', hI', .inr ⟨pv, rfl, hp⟩⟩) fun st' s' w' a' hI' hK => ⟨st', s', hI', .inl hK⟩)
theorem aw_seq {x y : Code} (h : AW X x st (seqK X y K)) : AW X (.seq x y) st K := fun s w a hI =>
  wp_seq (Code.wp_mono (fun e a' w' ⟨st', s', hI', hK⟩ => by
    rcases hK with hK | ⟨pv, rfl, hp⟩
    · cases e
      case normal => exact hK s' w' a' hI'
      all_goals exact ⟨st', s', hI', .inl hK⟩
    · exact ⟨st', s', hI', .inr ⟨pv, rfl, hp⟩⟩) (h s w a hI))
theorem aw_cond {c : Operand} {x y : Code} {b : Bool} (hc : ev st c = .c (.bool b)) (ht : b = true → AW X x st K) (hf : b = false → AW X y st K) : AW X (.cond c x y) st K := fun s w a hI => by
  have hr := hI.ev c
  rw [hc, rel] at hr
  exact wp_cond_split hr.1 (fun e => ht e s w a hI) (fun e => hf e s w a hI)
theorem aw_block {id : Nat} {c : Code} (h : AW X c st (blockK id K)) : AW X (.block id c) st K := fun s w a hI =>
  wp_block (Code.wp_mono (fun e a' w' ⟨st', s', hI', hK⟩ => by
    rcases hK with hK | ⟨pv, rfl, hp⟩
    · cases e
      case exit id' =>
        simp only [blockK] at hK
        simp only [Exit.inBlock]
        split at hK <;> rename_i hid
        · rw [if_pos hid]; exact ⟨st', s', hI', .inl hK⟩
        · rw [if_neg hid]; exact ⟨st', s', hI', .inl hK⟩
      all_goals exact ⟨st', s', hI', .inl hK⟩
    · exact ⟨st', s', hI', .inr ⟨pv, rfl, hp⟩⟩) (h s w a hI))
theorem aw_exit {id : Nat} (h : K (.exit id) st) : AW X (.exit id) st K := fun s w a hI => wp_exit ⟨st, s, hI, .inl h⟩
theorem aw_ret (h : K .ret st) : AW X .ret st K := fun s w a hI => wp_ret ⟨st, s, hI, .inl h⟩
theorem aw_skip (h : K .normal st) : AW X .skip st K := fun s w a hI => wp_skip ⟨st, s, hI, .inl h⟩
theorem aw_label {l : Nat} (h : K .normal st) : AW X (.label l) st K := fun s w a hI => wp_label ⟨st, s, hI, .inl h⟩
theorem aw_scope {c : Code} (h : AW X c st (scopeK K)) : AW X (.scope c) st K := fun s w a hI =>
  wp_scope_straight (Code.wp_mono (fun e a' w' ⟨st', s', hI', hK⟩ => by
    rcases hK with hK | ⟨pv, rfl, hp⟩
    · cases e
      case goto l => exact hK.elim
      all_goals exact ⟨st', s', hI', .inl hK⟩
    · exact ⟨st', s', hI', .inr ⟨pv, rfl, hp⟩⟩) (h s w a hI))
theorem aw_loop {c : Code} (I : Nat → Vst nn → Prop) (j0 : Nat) (h0 : I j0 st) (hr : ∀ j st, I j st → AW X c st (loopK j I K)) : AW X (.loop c) st K := fun s w a hI => by
  refine wp_loop_ghost (fun j a' w' => ∃ (st' : Vst nn) (s' : Sg), Inv X st' s' w' a' ∧ I j st') j0 ⟨st, s, hI, h0⟩ ?_
  rintro j a' w' ⟨st', s', hI', hij⟩
  refine Code.wp_mono (fun e a2 w2 ⟨st2, s2, hI2, hK⟩ => ?_) (hr j st' hij s' w' a' hI')
  rcases hK with hK | ⟨pv, rfl, hp⟩
  · cases e
    case normal => obtain ⟨j', hlt, hj'⟩ := hK; exact ⟨j', hlt, st2, s2, hI2, hj'⟩
    all_goals exact ⟨st2, s2, hI2, .inl hK⟩
  · exact ⟨st2, s2, hI2, .inr ⟨pv, rfl, hp⟩⟩
/-- what is known of a state may be forgotten -/
def Sub (X : Cx) (st st' : Vst nn) : Prop := ∀ s w a, Inv X st s w a → ∃ s', Inv X st' s' w a
theorem aw_sub {c : Code} {st' : Vst nn} (hs : Sub X st st') (h : AW X c st' K) : AW X c st K := fun s w a hI => by
  obtain ⟨s', hI'⟩ := hs s w a hI
  exact h s' w a hI'
theorem Sub.refl (st : Vst nn) : Sub X st st := fun s _ _ h => ⟨s, h⟩
theorem Sub.trans {st1 st2 st3 : Vst nn} (h : Sub X st1 st2) (k : Sub X st2 st3) : Sub X st1 st3 := fun s w a hI => by
  obtain ⟨s', hI'⟩ := h s w a hI
  exact k s' w a hI'
/-- slots and names are given up -/
theorem Sub.drop {st' : Vst nn} (h1 : ∀ i, i < nn → st'.tm i = st.tm i ∨ st'.tm i = .any) (h2 : ∀ m ρ, st'.rs m = some ρ → st.rs m = some ρ) : Sub X st st' := fun s w a hI =>
  ⟨s, hI.sz, fun i hi => by
    rcases h1 i hi with e | e
    · rw [e]; exact hI.tm i hi
    · rw [e]; simp [rel], hI.df, hI.fr, hI.kp, hI.nf, hI.mem.sub h2, hI.pe⟩
/-- a nil slice in a slot becomes a slice under way -/
theorem Sub.own {t : Nat} {e : TypeId} (htl : Nat.ble t 999999 = true) (ht : ev st (.tmp t) = .c (.slice none 0 0)) : Sub X st (((st.kill t).res t (.tok e 0)).put (some t) (.own t e [])) := fun s w a hI => by
  have hI' := hI.kill t
  have hk : Keeps s.F s.F w w := Keeps.refl
  have hx : Ext (fun m => m = t) s w { s with tb := fun q => if q = t then none else s.tb q, tk := fun q => if q = t then (.slice none 0 0, 0) else s.tk q } w :=
    ⟨hk, fun _ _ => rfl, fun q hq => .inl (by show (if q = t then _ else s.tk q) = _; rw [if_neg hq])⟩
  have hev := hI.ev (.tmp t)
  rw [ht, rel] at hev
  refine ⟨{ s with tb := fun q => if q = t then none else s.tb q, tk := fun q => if q = t then (.slice none 0 0, 0) else s.tk q }, hI.sz, fun i hi => ?_, hI.df, hI.fr, hI.kp, hI.nf, ?_, hI.pe.ext hx fun m hm => by subst hm; exact Nat.le_of_ble_eq_true htl⟩
  · by_cases e' : i = t
    · subst e'
      have hv : a.tmps.getD i undef = .slice none 0 0 := hev.1
      show rel X.P _ w (if i = i then .own i e [] else _) _
      rw [if_pos rfl, hv, rel]
      refine ⟨⟨0, none, 0, rfl, Nat.le_refl _, by decide, fun _ => rfl, fun h => by simp at h⟩, by simp, fun _ => by simp⟩
    · show rel X.P _ w (if i = t then _ else killV t (st.tm i)) _
      rw [if_neg e']
      exact rel.ext hx _ _ (killV_rel (hI.tm i hi)).1 fun n hn => by subst hn; exact (killV_rel (hI.tm i hi)).2
  · have hb : ∀ q ρ, q ≠ t → ({ s with tb := fun q => if q = t then none else s.tb q, tk := fun q => if q = t then (.slice none 0 0, 0) else s.tk q } : Sg).bk q ρ = s.bk q ρ := fun q ρ hq => by
      funext x; cases ρ <;> simp [Sg.bk, hq]
    refine ⟨hI.mem.fx, fun q ρ (hq : updR (st.kill t).rs t (.tok e 0) q = some ρ) => ?_, fun q ρ b (hq : updR (st.kill t).rs t (.tok e 0) q = some ρ) hqb => ?_, fun q r ρ ρ' b (hq : updR (st.kill t).rs t (.tok e 0) q = some ρ) (hr : updR (st.kill t).rs t (.tok e 0) r = some ρ') hqb hrb => ?_⟩
    · by_cases e' : q = t
      · subst e'
        simp only [updR, if_true] at hq
        cases hq
        exact ⟨by simp, .inl ⟨by simp, by simp, rfl⟩⟩
      · simp only [updR, if_neg e'] at hq
        exact (hI'.mem.ho q ρ hq).keep hx e' (by simp [e']) (by simp [e']) (fun n hn => by subst hn; exact kill_free st n q hq) (fun _ _ => rfl) (fun _ _ _ h => h)
    · by_cases e' : q = t
      · subst e'
        simp only [updR, if_true] at hq
        cases hq
        simp [Sg.bk] at hqb
      · simp only [updR, if_neg e'] at hq
        rw [hb q ρ e'] at hqb
        exact hI'.mem.bs q ρ b hq hqb
    · by_cases e1 : q = t
      · subst e1
        simp only [updR, if_true] at hq
        cases hq
        simp [Sg.bk] at hqb
      · by_cases e2 : r = t
        · subst e2
          simp only [updR, if_true] at hr
          cases hr
          simp [Sg.bk] at hrb
        · simp only [updR, if_neg e1] at hq
          simp only [updR, if_neg e2] at hr
          rw [hb q ρ e1] at hqb
          rw [hb r ρ' e2] at hrb
          exact hI'.mem.dj q r ρ ρ' b hq hr hqb hrb
end
def cx (e : Ge) (P : Program) (s : Sg) (w : World) (he : e.E w) : Cx := ⟨P, fun _ => False, s, w, e, he, fun _ _ h => h, fun _ _ _ => False, []⟩
def st0 (nn : Nat) (args : List V) : Vst nn := ⟨fun i => args.getD i .any, fun _ => none⟩
def res1 (P : Program) (st : Vst nn) : ResultVar → A1
  | .tmp t => .val True (ev st (.tmp t))
  | .cell a t => load1 P st.rs t (ev st (.tmp a))
def retV (P : Program) (st : Vst nn) : List ResultVar → V → Prop
  | [x], r => ∃ v, res1 P st x = .val True v ∧ r = v.out
  | [x, y], r => ∃ v u, res1 P st x = .val True v ∧ res1 P st y = .val True u ∧ r = .tup [v.out, u.out]
  | [x, y, z], r => ∃ v u t, res1 P st x = .val True v ∧ res1 P st y = .val True u ∧ res1 P st z = .val True t ∧ r = .tup [v.out, u.out, t.out]
  | [], r => r = .tup []
  | _, _ => False
def rv1 (tmps : Array Value) : ResultVar → Sem Value
  | .tmp t => pure (tmps.getD t undef)
  | .cell a t => do loadVar t (← asAddr (tmps.getD a undef))
theorem results_rv (fn : Func) (tmps : Array Value) : results fn tmps = (do let vs ← fn.results.mapM (rv1 tmps); pure (if h : vs.size = 1 then vs[0] else .tuple vs)) := by
  unfold results
  congr 1
theorem res1_ok {x : ResultVar} {v : V} {s : Sg} {w : World} {a : Act} (h : res1 X.P st x = .val True v) (hI : Inv X st s w a) :
    ∃ u, (rv1 a.tmps x).run X.P w = .ok u w ∧ rel X.P s w v.out u := by
  cases x with
  | tmp t =>
    simp only [res1, A1.val.injEq, true_and] at h
    subst h
    exact ⟨_, rfl, rel.out _ _ (hI.ev (.tmp t))⟩
  | cell b t =>
    simp only [res1] at h
    have hb := hI.ev (.tmp b)
    have hb2 : rel X.P s w (ev st (.tmp b)) (a.tmps.getD b undef) := hb
    obtain ⟨u, h1, h2⟩ := load1_ok h hI.boxes hb2
    refine ⟨u, ?_, rel.out _ _ h2⟩
    unfold load1 at h
    split at h
    · rename_i he
      rw [he, rel] at hb2
      obtain ⟨bb, o, k, cs, e1, _⟩ := hb2
      rw [e1] at h1
      show (do loadVar t (← asAddr (a.tmps.getD b undef)) : Sem Value).run X.P w = _
      rw [e1]
      simpa [Instr.loadAt, Instr.sureAddr, asAddr] using h1
    · rename_i he
      rw [he, rel] at hb2
      obtain ⟨bb, _, e1⟩ := hb2
      rw [e1] at h1
      show (do loadVar t (← asAddr (a.tmps.getD b undef)) : Sem Value).run X.P w = _
      rw [e1]
      simpa [Instr.loadAt, Instr.sureAddr, asAddr] using h1
    · cases h
theorem retV_ok {fn : Func} {r : V} {s : Sg} {w : World} {a : Act} (h : retV X.P st fn.results.toList r) (hI : Inv X st s w a) : ∃ u, (results fn a.tmps).run X.P w = .ok u w ∧ rel X.P s w r u := by
  obtain ⟨l, hl⟩ : ∃ l, fn.results = List.toArray l := ⟨fn.results.toList, by simp⟩
  rw [hl] at h
  simp only [List.toList_toArray] at h
  unfold retV at h
  split at h
  · obtain ⟨v, h1, rfl⟩ := h
    obtain ⟨u, q1, q2⟩ := res1_ok h1 hI
    refine ⟨u, ?_, q2⟩
    simp only [results_rv, hl, List.mapM_toArray, List.mapM_cons, List.mapM_nil]
    simp [q1]
  · obtain ⟨v, v2, h1, h2, rfl⟩ := h
    obtain ⟨u, q1, q2⟩ := res1_ok h1 hI
    obtain ⟨u2, q3, q4⟩ := res1_ok h2 hI
    refine ⟨.tuple #[u, u2], ?_, by rw [rel]; exact ⟨_, rfl, by simp [relL, q2, q4]⟩⟩
    simp only [results_rv, hl, List.mapM_toArray, List.mapM_cons, List.mapM_nil]
    simp [q1, q3]
  · obtain ⟨v, v2, v3, h1, h2, h3, rfl⟩ := h
    obtain ⟨u, q1, q2⟩ := res1_ok h1 hI
    obtain ⟨u2, q3, q4⟩ := res1_ok h2 hI
    obtain ⟨u3, q5, q6⟩ := res1_ok h3 hI
    refine ⟨.tuple #[u, u2, u3], ?_, by rw [rel]; exact ⟨_, rfl, by simp [relL, q2, q4, q6]⟩⟩
    simp only [results_rv, hl, List.mapM_toArray, List.mapM_cons, List.mapM_nil]
    simp [q1, q3, q5]
  · subst h
    exact ⟨.tuple #[], by simp [results_rv, hl], by rw [rel]; exact ⟨_, rfl, by simp [relL]⟩⟩
  · exact h.elim
/-- how a function leaves -/
def endK (P : Program) (rs : Array ResultVar) (r : V) : Exit → Vst nn → Prop
  | .normal, st => retV P st rs.toList r
  | .ret, st => retV P st rs.toList r
  | _, _ => False
theorem ac_enter {e : Ge} {P : Program} {f : FuncId} {fn : Func} {c : Code} {args : List V} {r : V} (nn : Nat) (hf : P.funcs[f]? = some fn) (hb : fn.body = some c) (hp : pureL args = true) (hnn : args.length + (fn.ntmps - args.length) = nn) (hr : r.pure = true)
    (h : ∀ s w he, AW (cx e P s w he) c (st0 nn args) (endK P fn.results r)) : AC e P f args r := by
  intro s w us hus hfx he
  have hlen := hus.length
  have hl2 : us.toList.length = us.size := by simp
  refine calls_of_wp hf hb ?_
  have hI : Inv (cx e P s w he) (st0 nn args) s w { tmps := us ++ Array.replicate (fn.ntmps - us.size) undef, defers := [] } := by
    refine ⟨by simp; omega, fun i hi => ?_, rfl, Frm.refl _ _, Keeps.refl, fun _ _ _ _ h => h, ⟨hfx, fun n ρ h => by simp [st0] at h, fun n ρ b h => by simp [st0] at h, fun n m ρ ρ' b h => by simp [st0] at h⟩, PE.refl _⟩
    show rel P s w (args.getD i .any) _
    by_cases hi2 : i < args.length
    · have h1 : args[i]? = some args[i] := List.getElem?_eq_getElem hi2
      have hi3 : i < us.size := by omega
      have h2 : us.toList[i]? = some us[i] := by rw [Array.getElem?_toList]; exact Array.getElem?_eq_getElem hi3
      rw [List.getD_eq_getElem?_getD, h1]
      have : (us ++ Array.replicate (fn.ntmps - us.size) undef).getD i undef = us[i] := by
        rw [Array.getD_eq_getD_getElem?, Array.getElem?_append_left hi3, Array.getElem?_eq_getElem hi3]; rfl
      rw [this]
      exact hus.get i _ _ h1 h2
    · rw [List.getD_eq_getElem?_getD, List.getElem?_eq_none (by omega)]
      simp [rel]
  refine Code.wp_mono (fun en a' w' ⟨st', s', hI', hK⟩ => ?_) (h s w he s w _ hI)
  have fin : retV P st' fn.results.toList r → a'.defers = [] ∧ ∃ v, (results fn a'.tmps).run P w' = .ok v w' ∧ ∃ v' F', Ending.returned v = .returned v' ∧ Frm (fun _ => False) w w' ∧ Keeps s.F F' w w' ∧ (∀ b o, F' b o → (w'.cell? ⟨b, o, none⟩).isSome) ∧ (∀ b o, b < w.heap.size → F' b o → s.F b o) ∧ rel P { s with F := F' } w' r v' := fun hv => by
    obtain ⟨u, h1, h2⟩ := retV_ok (X := cx e P s w he) hv hI'
    exact ⟨hI'.df, u, h1, u, s'.F, rfl, hI'.fr, hI'.kp, hI'.mem.fx, fun b o hb => hI'.nf b o hb (fun h => h), rel.only (s := s') (s' := { s with F := s'.F }) (P := P) rfl r u hr h2⟩
  rcases hK with hK | ⟨_, _, hK⟩
  · cases en
    case normal => exact fin hK
    case ret => exact fin hK
    all_goals exact hK.elim
  · exact hK.elim
section
variable {K : Exit → Vst nn → Prop} {ops : Array Oper} {l : List Oper} {o : Oper}
theorem k_seq {y : Code} (h : AW X y st K) : seqK X y K .normal st := h
theorem k_seq_exit {y : Code} {id : Nat} (h : K (.exit id) st) : seqK X y K (.exit id) st := h
theorem k_seq_ret {y : Code} (h : K .ret st) : seqK X y K .ret st := h
theorem k_block {id : Nat} (h : K .normal st) : blockK id K .normal st := h
theorem k_block_ret {id : Nat} (h : K .ret st) : blockK id K .ret st := h
theorem k_block_hit {id id' : Nat} (e : id' = id) (h : K .normal st) : blockK id K (.exit id') st := by rw [blockK, if_pos e]; exact h
theorem k_block_miss {id id' : Nat} (e : Nat.beq id' id = false) (h : K (.exit id') st) : blockK id K (.exit id') st := by
  rw [blockK, if_neg (fun q => by rw [q] at e; simp at e)]; exact h
theorem k_scope (h : K .normal st) : scopeK K .normal st := h
theorem k_scope_exit {id : Nat} (h : K (.exit id) st) : scopeK K (.exit id) st := h
theorem k_scope_ret (h : K .ret st) : scopeK K .ret st := h
theorem k_loop_exit {j id : Nat} {I : Nat → Vst nn → Prop} (h : K (.exit id) st) : loopK j I K (.exit id) st := h
theorem k_loop_ret {j : Nat} {I : Nat → Vst nn → Prop} (h : K .ret st) : loopK j I K .ret st := h
variable {KK : Vst nn → Prop}
variable {d : Option Tmp}
theorem s_val {p : Prop} {v : V} (hg : o.guard = none) (hd : o.dst = d) (h : act1 X.P st.rs (ev st) o.op = .val p v) (hK : AWo X ops l (st.put d v) KK) (hp : p) : AWo X ops (o :: l) st KK := awo_cons hg (opOk_val h hp (by rw [hd]; exact hK))
theorem s_call {f : FuncId} {args : List V} {r : V} (hg : o.guard = none) (hd : o.dst = d) (h : act1 X.P st.rs (ev st) o.op = .call f args) (hc : AC X.e X.P f (outL args) r) (hK : AWo X ops l (st.put d r) KK) : AWo X ops (o :: l) st KK :=
  awo_cons hg (opOk_call h hc (by rw [hd]; exact hK))
theorem s_box {t : TypeId} {x : Operand} {m : Nat} {vs : List V} (hg : o.guard = none) (ho : o.op = .box t x) (hd : o.dst = some m) (hdl : Nat.ble m 999999 = true) (hc : cellsOf (ev st x) = some vs) (hf : freeL m vs = true) (hK : AWo X ops l (((st.kill m).res m (.box t vs)).put (some m) (.bx m 0)) KK) : AWo X ops (o :: l) st KK :=
  awo_cons hg (opOk_box ho hd hdl hc hf hK)
theorem s_alloc {t : TypeId} {m : Nat} {vs : List V} (hg : o.guard = none) (ho : o.op = .alloc t) (hd : o.dst = some m) (hdl : Nat.ble m 999999 = true) (hc : zeroV X.P t = some vs) (hf : freeL m vs = true) (hK : AWo X ops l (((st.kill m).res m (.box t vs)).put (some m) (.bx m 0)) KK) : AWo X ops (o :: l) st KK :=
  awo_cons hg (opOk_alloc ho hd hdl hc hf hK)
theorem s_store {t : TypeId} {x y : Operand} {m off : Nat} {t' : TypeId} {vs xs : List V} (hg : o.guard = none) (ho : o.op = .store t x y) (hd : o.dst = none) (hx : ev st x = .bx m off) (hr : st.rs m = some (.box t' vs)) (hc : cellsOf (ev st y) = some xs)
    (hs : X.P.cellsOf t = xs.length ∧ (X.P.info? t).isSome) (hl : Nat.ble (off + xs.length) vs.length = true) (hK : AWo X ops l (st.res m (.box t' (splice vs off xs))) KK) : AWo X ops (o :: l) st KK :=
  awo_cons hg (opOk_store ho hd hx hr hc hs (Nat.le_of_ble_eq_true hl) hK)
theorem s_lit {t e : TypeId} {by_ m : Nat} {parts : Array (Nat × Operand)} (ds : List D) (hg : o.guard = none) (ho : o.op = .buildSlice t m parts) (hd : o.dst = d) (he : elemOk X.P t = some (e, by_)) (hn : m = ds.length) (hsm : Nat.ble (m * X.P.cellsOf e) (2 ^ 24) = true)
    (hp : partsD X.P e (ev st) parts.toList 0 ds) (hK : AWo X ops l (st.put d (.lit e ds)) KK) : AWo X ops (o :: l) st KK :=
  awo_cons hg (opOk_lit ho he hn (Nat.le_of_ble_eq_true hsm) hp (by rw [hd]; exact hK))
theorem s_app_nil {t e : TypeId} {by_ m : Nat} {x y : Operand} {l2 : List D} (hg : o.guard = none) (ho : o.op = .call { callee := .builtin .append, args := #[x, y], argTypes := #[t, t] }) (hd : o.dst = some m) (hdl : Nat.ble m 999999 = true) (he : elemOk X.P t = some (e, by_))
    (hleaf : ∀ d, (cellsV X.P 12 e d).all V.leaf = true) (hx : ev st x = .c (.slice none 0 0)) (hy : (ev st y).out = .sl e l2) (hK : AWo X ops l (((st.kill m).res m (.tok e l2.length)).put (some m) (.own m e l2)) KK)
    (hp : 0 < l2.length ∧ l2.length ≤ maxLen ∧ l2.length * by_ ≤ 140737488355328) : AWo X ops (o :: l) st KK :=
  awo_cons hg (opOk_append_nil ho hd hdl he hleaf hx hy hp.1 hp.2.1 hp.2.2 hK)
theorem s_app {t e : TypeId} {by_ k : Nat} {x y : Operand} {l1 l2 : List D} (hg : o.guard = none) (ho : o.op = .call { callee := .builtin .append, args := #[x, y], argTypes := #[t, t] }) (hd : o.dst = d) (he : elemOk X.P t = some (e, by_))
    (hleaf : ∀ d, (cellsV X.P 12 e d).all V.leaf = true) (hx : ev st x = .own k e l1) (hr : st.rs k = some (.tok e l1.length)) (hy : (ev st y).out = .sl e l2) (hK : AWo X ops l ((st.res k (.tok e (l1.length + l2.length))).put d (.own k e (l1 ++ l2))) KK)
    (hp : 0 < l2.length ∧ l1.length + l2.length ≤ maxLen ∧ (l1.length + l2.length) * by_ ≤ 140737488355328) : AWo X ops (o :: l) st KK :=
  awo_cons hg (opOk_append_own ho he hleaf hx hr hy hp.1 hp.2.1 hp.2.2 (by rw [hd]; exact hK))
theorem k_end {P : Program} {rs : Array ResultVar} {r : V} (h : retV P st rs.toList r) : endK P rs r .normal st := h
theorem k_end_ret {P : Program} {rs : Array ResultVar} {r : V} (h : retV P st rs.toList r) : endK P rs r .ret st := h
/-- the state at a loop's head: what the loop writes is unknown, what it carries is named -/
def Vst.head (st : Vst nn) (ws : List Nat) (cs : List (Nat × V)) (names : List Nat) (ts : List (Nat × Res)) : Vst nn :=
  ⟨fun i => match cs.find? (fun p => p.1 == i) with | some p => p.2 | none => if ws.contains i then .any else st.tm i,
   fun m => match ts.find? (fun p => p.1 == m) with | some p => some p.2 | none => if names.contains m then none else st.rs m⟩
end
end Go.Proofs.YtdklhkdlndlgnaaGreatDoor
