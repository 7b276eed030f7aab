/- Parts of a proof, merged by a program (shake.py). -/
import Derived.Defers
import Derived.Recover
import Derived.WideLaws
import Derived.Test.YthjiclhfhjdjpaaGreatDoorQ32
set_option linter.unusedVariables false
set_option linter.unusedSimpArgs false
namespace Go.Proofs.YthjiclhfhjdjpaaGreatDoor
open Go.RowKit
attribute [local irreducible] wpList Calls Code.wp
section
variable {X : Cx} {nn : Nat} {st : Vst nn} {s : Sg} {w : World} {a : Act}
/-- what a callee is handed under the names pn 0, pn 1, .. -/
def Sg.hand (s : Sg) (ns : List Nat) : Sg := { F := s.F, bx := fun n => (φout ns n).bind s.bx, tb := fun n => (φout ns n).bind s.tb, tk := fun n => match φout ns n with | some m => s.tk m | none => (.tuple #[], 0) }
theorem hand_at (s : Sg) (ns : List Nat) {i q : Nat} (hq : ns[i]? = some q) : (s.hand ns).bx (pn i) = s.bx q ∧ (s.hand ns).tb (pn i) = s.tb q ∧ (s.hand ns).tk (pn i) = s.tk q := by
  have e : φout ns (pn i) = some q := (φout_pn ns i).trans hq
  refine ⟨?_, ?_, ?_⟩
  · show (φout ns (pn i)).bind s.bx = _; rw [e]; rfl
  · show (φout ns (pn i)).bind s.tb = _; rw [e]; rfl
  · show (match φout ns (pn i) with | some m => s.tk m | none => (.tuple #[], 0)) = _; rw [e]
/-- the frame's boxes take the names pn 0, pn 1, ..; other names are given up; calls are deferred -/
theorem Inv.handed (hI : Inv X st s w a) (ns : List Nat) (hnd : ns.Nodup) {ρs : List Res} (hρ : ns.map st.rs = ρs.map some) (pk : Value → (Nat → V) → (Nat → Option Res) → Prop) (ds : List Deferred) {a' : Act} (ht : a'.tmps = a.tmps) (hd : a'.defers = ds) :
    Inv (nn := nn) ⟨X.P, X.pas, { s.hand ns with F := X.s0.F }, X.w0, X.e, X.he, X.hp, pk, ds⟩ ⟨fun i => renV (φin ns) (st.tm i), rsOf (ρs.map (renR (φin ns)))⟩ (s.hand ns) w a' := by
  have hφ1 : ∀ n m, φin ns n = some m → (s.hand ns).bx m = s.bx n ∧ (s.hand ns).tk m = s.tk n := fun n m hm => by
    obtain ⟨i, hi, rfl⟩ := Option.map_eq_some_iff.1 hm
    exact ⟨(hand_at s ns (idx_get hi)).1, (hand_at s ns (idx_get hi)).2.2⟩
  have hbs : ∀ (i : Nat) (ρ : Res), (ρs.map (renR (φin ns)))[i]? = some ρ → ∃ q ρ0, ns[i]? = some q ∧ st.rs q = some ρ0 ∧ ρ = renR (φin ns) ρ0 := fun i ρ hi => by
    rw [List.getElem?_map] at hi
    obtain ⟨ρ0, h1, rfl⟩ := Option.map_eq_some_iff.1 hi
    have h3 : (ns.map st.rs)[i]? = (ρs.map some)[i]? := by rw [hρ]
    rw [List.getElem?_map, List.getElem?_map, h1] at h3
    obtain ⟨q, hq, h4⟩ := Option.map_eq_some_iff.1 h3
    exact ⟨q, ρ0, hq, h4, rfl⟩
  refine ⟨by rw [ht]; exact hI.sz, fun i hi => ?_, hd, hI.fr, hI.kp, hI.nf, ⟨hI.mem.fx, fun n ρ hn => ?_, fun n ρ b hn hbk => ?_, fun n m ρ ρ' b hn hm hnb hmb => ?_⟩, fun i => ⟨rfl, .inl rfl⟩⟩
  · rw [ht]
    exact rel.ren (s := s) (s2 := s.hand ns) rfl hφ1 _ _ (hI.tm i hi)
  · obtain ⟨i, rfl, hi⟩ := rsOf_some hn
    obtain ⟨q, ρ0, hq, h3, rfl⟩ := hbs i ρ hi
    have hh := hand_at s ns hq
    exact Holds.ren (s := s) (s2 := s.hand ns) rfl hφ1 hh.1 hh.2.1 hh.2.2 (hI.mem.ho q ρ0 h3)
  · obtain ⟨i, rfl, hi⟩ := rsOf_some hn
    obtain ⟨q, ρ0, hq, h3, rfl⟩ := hbs i ρ hi
    have hh := hand_at s ns hq
    exact hI.mem.bs q ρ0 b h3 ((bk_ren hh.1 hh.2.1).1 hbk)
  · obtain ⟨i, rfl, hi⟩ := rsOf_some hn
    obtain ⟨j, rfl, hj⟩ := rsOf_some hm
    obtain ⟨q, ρ0, hq, h3, rfl⟩ := hbs i ρ hi
    obtain ⟨q', ρ1, hq', h3', rfl⟩ := hbs j ρ' hj
    have hh := hand_at s ns hq
    have hh' := hand_at s ns hq'
    have e := hI.mem.dj q q' _ _ b h3 h3' ((bk_ren hh.1 hh.2.1).1 hnb) ((bk_ren hh'.1 hh'.2.1).1 hmb)
    subst e
    have := (idx_of hnd hq).symm.trans (idx_of hnd hq')
    cases this; rfl
/-- another frame in the same context: it sees the handed boxes -/
theorem Inv.frame (hI : Inv X st s w a) {n2 : Nat} (tm : Nat → V) (pk : Value → (Nat → V) → (Nat → Option Res) → Prop) (ds : List Deferred) {a' : Act} (hz : a'.tmps.size = n2) (hd : a'.defers = ds) (ht : ∀ i, i < n2 → rel X.P s w (tm i) (a'.tmps.getD i undef)) :
    Inv (nn := n2) { X with pk := pk, dfs := ds } ⟨tm, st.rs⟩ s w a' :=
  ⟨hz, ht, hd, hI.fr, hI.kp, hI.nf, hI.mem, hI.pe⟩
/-- a handed box stays where it was -/
theorem Inv.named (hI : Inv X st s w a) (i : Nat) : s.bx (pn i) = X.s0.bx (pn i) := (hI.pe i).1
variable {o : Oper} {K : Vst nn → Prop}
/-- whether an interface is nil -/
theorem opOk_isNil {t yt : TypeId} {x : Operand} (ho : o.op = .binOp .neq t x (.const .nilIface) yt) (hx : ev st x = .c .nilIface) (ht : X.P.underlying t = some (.interface (X.P.methodsAt t))) (hK : K (st.put o.dst (.c (.bool false)))) : OpOk X o st K := by
  intro s w a hI N Q hP hN
  have h1 := hI.ev x
  rw [hx, rel] at h1
  unfold Oper.wp
  have hrun : (execOp a.eval o).run X.P w = .ok (.value (.bool false)) w := by
    simp only [execOp, ho, h1.1]
    show (do let u ← (do eqGuard .neq t x (.const .nilIface) .nilIface .nilIface; binOp .neq t .nilIface .nilIface : Sem Value); pure (.value u) : Sem Next).run X.P w = _
    rw [eqGuard_nil_constR]
    simp only [Sem.run_bind, Sem.run_pure, Result.andThen_ok, run_neq_nil_nil w t ht]
  rw [hrun, Oper.upon_value]
  exact hN _ _ _ _ (hI.put o.dst (by rw [rel]; exact ⟨rfl, trivial⟩)) hK
theorem opOk_notNil {t yt u : TypeId} {x : Operand} {y : Value} (ho : o.op = .binOp .neq t x (.const .nilIface) yt) (hx : ev st x = .c (.iface u y)) (ht : X.P.underlying t = some (.interface (X.P.methodsAt t))) (hK : K (st.put o.dst (.c (.bool true)))) : OpOk X o st K := by
  intro s w a hI N Q hP hN
  have h1 := hI.ev x
  rw [hx, rel] at h1
  unfold Oper.wp
  have hrun : (execOp a.eval o).run X.P w = .ok (.value (.bool true)) w := by
    simp only [execOp, ho, h1.1]
    show (do let v ← (do eqGuard .neq t x (.const .nilIface) (.iface u y) .nilIface; binOp .neq t (.iface u y) .nilIface : Sem Value); pure (.value v) : Sem Next).run X.P w = _
    have e : eqGuard .neq t x (.const .nilIface) (.iface u y) .nilIface = pure () := rfl
    rw [e]
    simp only [Sem.run_bind, Sem.run_pure, Result.andThen_ok, run_neq_held_nil w t u y ht]
  rw [hrun, Oper.upon_value]
  exact hN _ _ _ _ (hI.put o.dst (by rw [rel]; exact ⟨rfl, trivial⟩)) hK
/-- a struct of plain values out of an interface -/
theorem opOk_assert {t xt : TypeId} {x : Operand} {cs : Array Value} {fs : Array Field} (ho : o.op = .typeAssert x xt t false) (hx : ev st x = .c (.iface t (.agg cs))) (hok : cs.toList.all okB = true) (hu : X.P.underlying t = some (.struct fs)) (hK : K (st.put o.dst (.agg (cs.toList.map .c)))) : OpOk X o st K := by
  intro s w a hI N Q hP hN
  have h1 := hI.ev x
  rw [hx, rel] at h1
  unfold Oper.wp
  have hrun : (execOp a.eval o).run X.P w = .ok (.value (.agg cs)) w := by
    simp only [execOp, ho, h1.1]
    simp [Instr.typeAssert, run_underlying hu]
  rw [hrun, Oper.upon_value]
  refine hN _ _ _ _ (hI.put o.dst ?_) hK
  rw [rel]
  refine ⟨cs, rfl, ?_⟩
  clear hK hN
  generalize cs.toList = l at *
  induction l with
  | nil => simp [relL]
  | cons y l ih =>
    rw [List.all_cons, Bool.and_eq_true] at hok
    rw [List.map_cons, relL]
    exact ⟨by rw [rel]; exact ⟨rfl, okB_ok hok.1⟩, ih hok.2⟩
end
section
variable {X : Cx} {nn : Nat} {st : Vst nn} {o : Oper} {ops : Array Oper} {l : List Oper} {KK : Vst nn → Prop} {d : Option Tmp}
theorem s_isNil {t yt : TypeId} {x : Operand} (hg : o.guard = none) (ho : o.op = .binOp .neq t x (.const .nilIface) yt) (hd : o.dst = d) (hx : ev st x = .c .nilIface) (ht : X.P.underlying t = some (.interface (X.P.methodsAt t))) (hK : AWo X ops l (st.put d (.c (.bool false))) KK) : AWo X ops (o :: l) st KK :=
  awo_cons hg (opOk_isNil ho hx ht (by rw [hd]; exact hK))
theorem s_notNil {t yt u : TypeId} {x : Operand} {y : Value} (hg : o.guard = none) (ho : o.op = .binOp .neq t x (.const .nilIface) yt) (hd : o.dst = d) (hx : ev st x = .c (.iface u y)) (ht : X.P.underlying t = some (.interface (X.P.methodsAt t))) (hK : AWo X ops l (st.put d (.c (.bool true))) KK) : AWo X ops (o :: l) st KK :=
  awo_cons hg (opOk_notNil ho hx ht (by rw [hd]; exact hK))
theorem s_assert {t xt : TypeId} {x : Operand} {cs : Array Value} {fs : Array Field} (hg : o.guard = none) (ho : o.op = .typeAssert x xt t false) (hd : o.dst = d) (hx : ev st x = .c (.iface t (.agg cs))) (hok : cs.toList.all okB = true) (hu : X.P.underlying t = some (.struct fs)) (hK : AWo X ops l (st.put d (.agg (cs.toList.map .c))) KK) : AWo X ops (o :: l) st KK :=
  awo_cons hg (opOk_assert ho hx hok hu (by rw [hd]; exact hK))
end
section
variable {X : Cx} {nn : Nat} {st : Vst nn}
theorem sub_run {st' : Vst nn} {s : Sg} {w : World} {a : Act} (h : Sub X st st') (hI : Inv X st s w a) : ∃ s', Inv X st' s' w a := h s w a hI
theorem aw_run {c : Code} {K : Exit → Vst nn → Prop} {s : Sg} {w : World} {a : Act} (h : AW X c st K) (hI : Inv X st s w a) : c.wp X.P (fun e a' w' => ∃ (st' : Vst nn) (s' : Sg), Inv X st' s' w' a' ∧ (K e st' ∨ PX X e st')) a w := h s w a hI
def AWQ (X : Cx) (c : Code) (st : Vst nn) (Q : Exit → Act → World → Prop) : Prop := ∀ s w a, Inv X st s w a → c.wp X.P Q a w
def qK (X : Cx) (y : Code) (Q : Exit → Act → World → Prop) : Exit → Vst nn → Prop
  | .normal, st => AWQ X y st Q
  | e, st => ∀ s w a, Inv X st s w a → Q e a w
theorem k_q {y : Code} {Q : Exit → Act → World → Prop} (h : AWQ X y st Q) : qK X y Q .normal st := h
theorem k_qr {y : Code} {Q : Exit → Act → World → Prop} (h : ∀ s w a, Inv X st s w a → Q .ret a w) : qK X y Q .ret st := h
theorem awq_run {c : Code} {Q : Exit → Act → World → Prop} {s : Sg} {w : World} {a : Act} (h : AWQ X c st Q) (hI : Inv X st s w a) : c.wp X.P Q a w := h s w a hI
theorem awq_by {c : Code} {Q : Exit → Act → World → Prop} (h : ∀ s w a, Inv X st s w a → c.wp X.P Q a w) : AWQ X c st Q := h
theorem awq_seq {x y : Code} {Q : Exit → Act → World → Prop} (hP : PQ X nn Q) (h : AW X x st (qK X y Q)) : AWQ X (.seq x y) st Q := fun s w a hI =>
  wp_seq (Code.wp_mono (fun e a' w' ⟨st', s', hI', hK⟩ => by
    rcases hK with hK | ⟨pv, rfl, hp⟩
    · cases e
      case normal => exact hK s' w' a' hI'
      all_goals exact hK s' w' a' hI'
    · exact hP pv st' s' w' a' hI' hp) (h s w a hI))
theorem awq_sub {c : Code} {st' : Vst nn} {Q : Exit → Act → World → Prop} (hs : Sub X st st') (h : AWQ X c st' Q) : AWQ X c st Q := fun s w a hI => by
  obtain ⟨s', hI'⟩ := hs s w a hI
  exact h s' w a hI'
theorem inv_enter {e : Ge} {P : Program} {fn : Func} {args : List V} {s : Sg} {w : World} {us : Array Value} (he : e.E w) (hnn : args.length + (fn.ntmps - args.length) = nn) (hus : relL P s w args us.toList) (hfx : ∀ b o, s.F b o → (w.cell? ⟨b, o, none⟩).isSome) :
    Inv (cx e P s w he) (st0 nn args) s w { tmps := us ++ Array.replicate (fn.ntmps - us.size) undef, defers := [] } := by
  have hlen := hus.length
  have hl2 : us.toList.length = us.size := by simp
  refine ⟨by simp; omega, fun i hi => ?_, rfl, Frm.refl _ _, Keeps.refl, fun _ _ _ _ h => h, ⟨hfx, fun n ρ h => by simp [st0] at h, fun n ρ b h => by simp [st0] at h, fun n m ρ ρ' b h => by simp [st0] at h⟩, PE.refl _⟩
  show rel P s w (args.getD i .any) _
  by_cases hi2 : i < args.length
  · have h1 : args[i]? = some args[i] := List.getElem?_eq_getElem hi2
    have hi3 : i < us.size := by omega
    have h2 : us.toList[i]? = some us[i] := by rw [Array.getElem?_toList]; exact Array.getElem?_eq_getElem hi3
    rw [List.getD_eq_getElem?_getD, h1]
    have : (us ++ Array.replicate (fn.ntmps - us.size) undef).getD i undef = us[i] := by
      rw [Array.getD_eq_getD_getElem?, Array.getElem?_append_left hi3, Array.getElem?_eq_getElem hi3]; rfl
    rw [this]
    exact hus.get i _ _ h1 h2
  · rw [List.getD_eq_getElem?_getD, List.getElem?_eq_none (by omega)]
    simp [rel]
/-- what a call that writes nothing old leaves -/
def acR (P : Program) (s : Sg) (w : World) (r : V) : Ending → World → Prop := fun en w' => ∃ v F', en = .returned v ∧ Frm (fun _ => False) w w' ∧ Keeps s.F F' w w' ∧ (∀ b o, F' b o → (w'.cell? ⟨b, o, none⟩).isSome) ∧ (∀ b o, b < w.heap.size → F' b o → s.F b o) ∧ rel P { s with F := F' } w' r v
theorem ac_by {e : Ge} {P : Program} {f : FuncId} {args : List V} {r : V} (h : ∀ (s : Sg) (w : World) (us : Array Value), relL P s w args us.toList → (∀ b o, s.F b o → (w.cell? ⟨b, o, none⟩).isSome) → e.E w → Calls P f us w (acR P s w r)) : AC e P f args r := h
theorem ac_fin {P : Program} {s : Sg} {w : World} {fn : Func} {s' : Sg} {w' : World} {a' : Act} {r : V} (hI : Inv X st s' w' a') (hP : X.P = P) (hpas : X.pas = fun _ => False) (hF : X.s0.F = s.F) (hw : X.w0 = w) (hv : retV P st fn.results.toList r) (hr : r.pure = true) :
    ∃ v, (results fn a'.tmps).run P w' = .ok v w' ∧ acR P s w r (.returned v) w' := by
  subst hP
  subst hw
  obtain ⟨u, h1, h2⟩ := retV_ok hv hI
  have hfr := hI.fr
  rw [hpas] at hfr
  refine ⟨u, h1, u, s'.F, rfl, hfr, by rw [← hF]; exact hI.kp, hI.mem.fx, fun b o hb => ?_, rel.only (s := s') (s' := { s with F := s'.F }) (P := X.P) rfl r u hr h2⟩
  rw [← hF]
  exact hI.nf b o hb (by rw [hpas]; exact fun h => h)
end
end Go.Proofs.YthjiclhfhjdjpaaGreatDoor
namespace Go.Proofs.YthjiclhfhjdjpaaGreatDoor
open Go.RowKit
attribute [local irreducible] wpList Calls Code.wp AW AWo OpOk seqK blockK scopeK loopK endK AC absLex Yld Sub
attribute [local irreducible] ACB ACX ACE absLexG YldG AWQ qK
def zQ : List V := [.c (.slice none 0 0), .c (.slice none 0 0)]
/-- the results' variables -/
def resP (q : List V) (i e : Int) : List (Nat × Res) := [(pn 0, .box 41 q), (pn 1, .box 3 [.c (.int .i64 i)]), (pn 2, .box 49 [.c (.int .i64 e)])]
noncomputable def HR (nn : Nat) (cs : List (Nat × V)) (q : List V) (i e : Int) : Vst nn := stS nn cs (resP q i e)
/-- behind recover: a panic's value, or nil -/
noncomputable def HC0 (v : Value) (q : List V) (i e : Int) : Vst 15 := HR 15 [(0, .bx (pn 0) 0), (1, .bx (pn 1) 0), (2, .bx (pn 2) 0), (3, .c v)] q i e
def doneC {nn : Nat} (q : List V) (i e : Int) : Exit → Vst nn → Prop
  | .normal, st => rsOk st (resP q i e)
  | .ret, st => rsOk st (resP q i e)
  | _, _ => False
set_option maxRecDepth 100000 in
set_option maxHeartbeats 8000000 in
theorem ifT : Tryz.prog.underlying 20 = some (.interface (Tryz.prog.methodsAt 20)) := by kernel_rfl
noncomputable def codeC : Code := match Tryz.f52.body with
  | some (.seq _ y) => y
  | _ => .skip
section
variable {pas : Nat → Prop} {s0 : Sg} {w0 : World} {he : EN5.E w0} {hp : ∀ k, k < EN5.G → ¬ pas k}
set_option maxRecDepth 100000 in
set_option maxHeartbeats 8000000 in
theorem close_nil (q : List V) (i e : Int) : AW ⟨Tryz.prog, pas, s0, w0, EN5, he, hp, fun _ _ _ => False, []⟩ codeC (HC0 .nilIface q i e) (doneC q i e) := by
  unfold codeC
  simp only [Tryz.f52]
  refine aw_seq ?_
  refine aw_region ?_
  apply s_val rfl
  · rfl
  · conv => lhs; whnf; arg 2; whnf
  rotate_left 1
  · trivial
  apply s_isNil rfl rfl rfl
  · conv => lhs; whnf
  · exact ifT
  refine awo_nil ?_
  refine k_seq ?_
  repeat' (first
 | refine aw_skip ?_
 | (apply aw_cond_f
    · conv => lhs; whnf; arg 1; arg 1; whnf))
  all_goals exact ⟨rfl, rfl, rfl, trivial⟩
set_option maxRecDepth 100000 in
set_option maxHeartbeats 8000000 in
theorem close_pan (i e i' e' : Int) (hok : (Lit.int .i64 i').wf = true ∧ (Lit.int .i64 e').wf = true) : AW ⟨Tryz.prog, pas, s0, w0, EN5, he, hp, fun _ _ _ => False, []⟩ codeC (HC0 (.iface 103 (.agg #[.int .i64 i', .int .i64 e'])) zQ i e) (doneC zQ i' e') := by
  unfold codeC
  simp only [Tryz.f52]
  refine aw_seq ?_
  refine aw_region ?_
  apply s_val rfl
  · rfl
  · conv => lhs; whnf; arg 2; whnf
  rotate_left 1
  · trivial
  apply s_notNil rfl rfl rfl
  · conv => lhs; whnf
  · exact ifT
  refine awo_nil ?_
  refine k_seq ?_
  refine aw_cond (b := true) rfl (fun _ => ?_) fun h => by cases h
  refine aw_seq ?_
  refine aw_region ?_
  apply s_val rfl
  · rfl
  · conv => lhs; whnf; arg 2; whnf
  rotate_left 1
  · trivial
  apply s_assert (fs := Tryz.prog.fieldsOf 103) rfl rfl rfl
  · conv => lhs; whnf
  · simp [okB, hok]
  · kernel_rfl
  repeat' (first
 | (apply aw_drawGn 8 ([(2,[4]),(4,[4])]) ([(5,[1000000]),(6,[1000001]),(7,[1000002])]) rfl (by kernel_rfl) (by kernel_rfl) (by kernel_rfl))
 | apply g_nil
 | (apply g_val rfl
    · conv => lhs; whnf
    · conv => lhs; whnf; arg 2; whnf)
 | (apply g_store rfl rfl rfl
    · conv => lhs; whnf
    · rfl
    · conv => lhs; whnf; arg 1; whnf
    · conv => lhs; whnf; arg 1; whnf
    · exact ⟨by kernel_rfl, by kernel_rfl⟩
    · rfl)
 | (show inO _ _ = true; rfl)
 | refine awo_nil ?_
 | refine k_seq ?_
 | (apply s_alloc rfl rfl rfl rfl
    · conv => lhs; whnf; arg 1; whnf
    · rfl)
 | (apply s_store rfl rfl rfl
    · conv => lhs; whnf
    · conv => lhs; whnf; arg 1; whnf
    · conv => lhs; whnf; arg 1; whnf
    · exact ⟨by kernel_rfl, by kernel_rfl⟩
    · rfl)
 | exact trivial)
  all_goals exact ⟨rfl, rfl, rfl, trivial⟩
end
section
variable {pas : Nat → Prop} {s0 : Sg} {w0 : World} {he : EN5.E w0} {hp : ∀ k, k < EN5.G → ¬ pas k} {pk : Value → (Nat → V) → (Nat → Option Res) → Prop} {dfs : List Deferred} {st : Vst 24} {s : Sg} {w : World} {a : Act}
/-- the boxes' slots of the frame -/
def slotsP : List (Nat × V) := [(2, .bx (pn 0) 0), (3, .bx (pn 1) 0), (4, .bx (pn 2) 0)]
set_option maxHeartbeats 8000000 in
set_option maxRecDepth 100000 in
theorem bx_keep {P : Program} {s s' : Sg} {w w' : World} {k : Nat} {u : Value} (h : rel P s w (.bx k 0) u) (hs : s'.bx k = s.bx k) : rel P s' w' (.bx k 0) u := by
  rw [rel] at h ⊢; rw [hs]; exact h
set_option maxHeartbeats 8000000 in
set_option maxRecDepth 100000 in
theorem rs_HR {nn : Nat} {st : Vst nn} {nn2 : Nat} {cs : List (Nat × V)} {q : List V} {i e : Int} (h : rsOk st (resP q i e)) : ∀ n ρ, (HR nn2 cs q i e).rs n = some ρ → st.rs n = some ρ := fun n ρ hn => by
  simp only [HR, stS] at hn
  split at hn
  · rename_i p hp
    have hm := List.mem_of_find?_eq_some hp
    have he := List.find?_some hp
    simp at he
    cases hn
    subst he
    exact rsOk_get h p hm
  · cases hn
set_option maxHeartbeats 8000000 in
set_option maxRecDepth 100000 in
/-- behind the closure: the frame as it was, its boxes anew -/
theorem back_in {pk' : Value → (Nat → V) → (Nat → Option Res) → Prop} {dfs' : List Deferred} {n2 : Nat} {st' : Vst n2} {s' : Sg} {w' : World} {a' : Act} {q q' : List V} {i e i' e' : Int}
    (hI : Inv ⟨Tryz.prog, pas, s0, w0, EN5, he, hp, pk, dfs⟩ (HR 24 slotsP q i e) s w a) (hI' : Inv ⟨Tryz.prog, pas, s0, w0, EN5, he, hp, pk', dfs'⟩ st' s' w' a') (hr : rsOk st' (resP q' i' e')) :
    Inv ⟨Tryz.prog, pas, s0, w0, EN5, he, hp, pk, dfs⟩ (HR 24 slotsP q' i' e') s' w' a := by
  have hk : ∀ k, s'.bx (pn k) = s.bx (pn k) := fun k => (hI'.named k).trans (hI.named k).symm
  refine ⟨hI.sz, fun j hj => ?_, hI.df, hI'.fr, hI'.kp, hI'.nf, hI'.mem.sub (rs_HR hr), hI'.pe⟩
  have ht := hI.tm j hj
  by_cases h2 : j = 2
  · subst h2; exact bx_keep (k := pn 0) ht (hk 0)
  by_cases h3 : j = 3
  · subst h3; exact bx_keep (k := pn 1) ht (hk 1)
  by_cases h4 : j = 4
  · subst h4; exact bx_keep (k := pn 2) ht (hk 2)
  have e : (HR 24 slotsP q' i' e').tm j = .any := by
    simp [HR, stS, slotsP, List.find?, beq_eq_false_iff_ne.2 (Ne.symm h2), beq_eq_false_iff_ne.2 (Ne.symm h3), beq_eq_false_iff_ne.2 (Ne.symm h4)]
  rw [e]; simp [rel]
set_option maxHeartbeats 8000000 in
set_option maxRecDepth 100000 in
/-- the closure's frame -/
theorem into_c {q : List V} {i e : Int} (hI : Inv ⟨Tryz.prog, pas, s0, w0, EN5, he, hp, pk, dfs⟩ (HR 24 slotsP q i e) s w a) (v : Value) (hv : okV v) {a1 : Act} (hz : a1.tmps.size = 15) (hd : a1.defers = []) (h0 : a1.tmps.getD 0 undef = a.tmps.getD 2 undef) (h1 : a1.tmps.getD 1 undef = a.tmps.getD 3 undef) (h2 : a1.tmps.getD 2 undef = a.tmps.getD 4 undef) (h3 : a1.tmps.getD 3 undef = v) :
    Inv ⟨Tryz.prog, pas, s0, w0, EN5, he, hp, fun _ _ _ => False, []⟩ (HC0 v q i e) s w a1 := by
  refine ⟨hz, fun j hj => ?_, hd, hI.fr, hI.kp, hI.nf, hI.mem.sub fun n ρ hn => hn, hI.pe⟩
  by_cases j0 : j = 0
  · subst j0; rw [h0]; exact hI.tm 2 (by omega)
  by_cases j1 : j = 1
  · subst j1; rw [h1]; exact hI.tm 3 (by omega)
  by_cases j2 : j = 2
  · subst j2; rw [h2]; exact hI.tm 4 (by omega)
  by_cases j3 : j = 3
  · subst j3; rw [h3]; show rel _ _ _ (.c v) v; rw [rel]; exact ⟨rfl, hv⟩
  have e : (HC0 v q i e).tm j = .any := by
    simp [HC0, HR, stS, List.find?, beq_eq_false_iff_ne.2 (Ne.symm j0), beq_eq_false_iff_ne.2 (Ne.symm j1), beq_eq_false_iff_ne.2 (Ne.symm j2), beq_eq_false_iff_ne.2 (Ne.symm j3)]
  rw [e]; simp [rel]
set_option maxRecDepth 100000 in
set_option maxHeartbeats 8000000 in
theorem call_ret (q : List V) (i e : Int) (hI : Inv ⟨Tryz.prog, pas, s0, w0, EN5, he, hp, pk, dfs⟩ (HR 24 slotsP q i e) s w a) :
    CallsD Tryz.prog 52 #[a.tmps.getD 2 undef, a.tmps.getD 3 undef, a.tmps.getD 4 undef] .returning w fun en u' w' => en = .returned (.tuple #[]) ∧ u' = .returning ∧ ∃ s', Inv ⟨Tryz.prog, pas, s0, w0, EN5, he, hp, pk, dfs⟩ (HR 24 slotsP q i e) s' w' a := by
  refine callsD_of_wpS Tryz.func52 rfl fun c₀ cs hu => ?_
  apply wpS_seq
  apply wpS_region
  simp [wpOpsS, go_sem, recoverD, hu, Exit.thenS]
  refine wpS_of_wp (Code.wp_mono (fun en a' w' ⟨st', s', hI', hK⟩ => ?_) (aw_run (close_nil (pas := pas) (s0 := s0) (w0 := w0) (he := he) (hp := hp) q i e) (into_c hI .nilIface trivial (by simp) rfl (by simp) (by simp) (by simp) (by simp))))
  have fin : rsOk st' (resP q i e) → a'.defers = [] ∧ ∃ u', c₀ :: cs = { c₀ with mode := u' } :: cs ∧ ∃ v, (results Tryz.f52 a'.tmps).run Tryz.prog w' = .ok v w' ∧ (Ending.returned v = .returned (.tuple #[]) ∧ u' = .returning ∧ ∃ s', Inv ⟨Tryz.prog, pas, s0, w0, EN5, he, hp, pk, dfs⟩ (HR 24 slotsP q i e) s' w' a) := fun hr =>
    ⟨hI'.df, .returning, by cases c₀; simp_all, .tuple #[], by simp [results, Tryz.f52], rfl, rfl, s', back_in hI hI' hr⟩
  rcases hK with hK | ⟨_, _, hK⟩
  · cases en
    case normal => exact fin hK
    case ret => exact fin hK
    all_goals exact hK.elim
  · exact hK.elim
set_option maxRecDepth 100000 in
set_option maxHeartbeats 8000000 in
theorem call_pan (i e i' e' : Int) (hok : (Lit.int .i64 i').wf = true ∧ (Lit.int .i64 e').wf = true) (hI : Inv ⟨Tryz.prog, pas, s0, w0, EN5, he, hp, pk, dfs⟩ (HR 24 slotsP zQ i e) s w a) :
    CallsD Tryz.prog 52 #[a.tmps.getD 2 undef, a.tmps.getD 3 undef, a.tmps.getD 4 undef] (.panicking [{ v := .iface 103 (.agg #[.int .i64 i', .int .i64 e']), recovered := false }]) w fun en u' w' => en = .returned (.tuple #[]) ∧ settle u' = .returning ∧ ∃ s', Inv ⟨Tryz.prog, pas, s0, w0, EN5, he, hp, pk, dfs⟩ (HR 24 slotsP zQ i' e') s' w' a := by
  refine callsD_of_wpS Tryz.func52 rfl fun c₀ cs hu => ?_
  apply wpS_seq
  apply wpS_region
  simp [wpOpsS, go_sem, recoverD, hu, Exit.thenS]
  refine wpS_of_wp (Code.wp_mono (fun en a' w' ⟨st', s', hI', hK⟩ => ?_) (aw_run (close_pan (pas := pas) (s0 := s0) (w0 := w0) (he := he) (hp := hp) i e i' e' hok) (into_c hI (.iface 103 (.agg #[.int .i64 i', .int .i64 e'])) trivial (by simp) rfl (by simp) (by simp) (by simp) (by simp))))
  have fin : rsOk st' (resP zQ i' e') → a'.defers = [] ∧ ∃ u', { c₀ with mode := .panicking [{ v := .iface 103 (.agg #[.int .i64 i', .int .i64 e']), recovered := true }] } :: cs = { c₀ with mode := u' } :: cs ∧ ∃ v, (results Tryz.f52 a'.tmps).run Tryz.prog w' = .ok v w' ∧ (Ending.returned v = .returned (.tuple #[]) ∧ settle u' = .returning ∧ ∃ s', Inv ⟨Tryz.prog, pas, s0, w0, EN5, he, hp, pk, dfs⟩ (HR 24 slotsP zQ i' e') s' w' a) := fun hr =>
    ⟨hI'.df, _, rfl, .tuple #[], by simp [results, Tryz.f52], rfl, rfl, s', back_in hI hI' hr⟩
  rcases hK with hK | ⟨_, _, hK⟩
  · cases en
    case normal => exact fin hK
    case ret => exact fin hK
    all_goals exact hK.elim
  · exact hK.elim
end
set_option maxHeartbeats 8000000 in
set_option maxRecDepth 100000 in
theorem bx_ren {P : Program} {s s' : Sg} {w : World} {k k' : Nat} {u : Value} (h : rel P s w (.bx k 0) u) (hs : s'.bx k' = s.bx k) : rel P s' w (.bx k' 0) u := by
  rw [rel] at h ⊢; rw [hs]; exact h
set_option maxHeartbeats 8000000 in
set_option maxRecDepth 100000 in
theorem bx_same {P : Program} {s s' : Sg} {w w' : World} {k : Nat} {u u' : Value} (h : rel P s w (.bx k 0) u) (h' : rel P s' w' (.bx k 0) u') (hs : s'.bx k = s.bx k) : u = u' := by
  rw [rel] at h h'
  obtain ⟨b, h1, rfl⟩ := h
  obtain ⟨b', h2, rfl⟩ := h'
  rw [hs, h1] at h2
  cases h2; rfl
/-- the deferred call -/
def defP (p q r : Value) : Deferred := { target := .fn (.func 52) #[p, q, r], args := #[] }
section
variable {σ : Sg} {w0 : World} {he : EN5.E w0} {s0 : Sg} {hp : ∀ k, k < EN5.G → ¬ False} {pk : Value → (Nat → V) → (Nat → Option Res) → Prop} {s : Sg} {w : World} {a : Act}
/-- the three pointers of the frame's slots -/
structure Ptrs (P : Program) (s0 : Sg) (w : World) (p2 p3 p4 : Value) : Prop where
  p2 : rel P s0 w (.bx (pn 0) 0) p2
  p3 : rel P s0 w (.bx (pn 1) 0) p3
  p4 : rel P s0 w (.bx (pn 2) 0) p4
set_option maxRecDepth 100000 in
set_option maxHeartbeats 8000000 in
theorem leave_ret {p2 p3 p4 : Value} {w1 : World} {r : V} (l1 l2 : List D) (i e : Int) (hF : s0.F = σ.F) (hps : Ptrs Tryz.prog s0 w1 p2 p3 p4) (hI : Inv ⟨Tryz.prog, fun _ => False, s0, w0, EN5, he, hp, pk, [defP p2 p3 p4]⟩ (HR 24 slotsP [.sl 57 l1, .sl 116 l2] i e) s w a)
    (hr : r = .tup [.agg [.sl 57 l1, .sl 116 l2], .c (.int .i64 i), .c (.int .i64 e)]) : Leaves Tryz.prog Tryz.f23 a.tmps (acR Tryz.prog σ w0 r) [defP p2 p3 p4] .returning w := by
  have e2 : p2 = a.tmps.getD 2 undef := bx_same hps.p2 (hI.tm 2 (by omega)) (hI.named 0)
  have e3 : p3 = a.tmps.getD 3 undef := bx_same hps.p3 (hI.tm 3 (by omega)) (hI.named 1)
  have e4 : p4 = a.tmps.getD 4 undef := bx_same hps.p4 (hI.tm 4 (by omega)) (hI.named 2)
  have hc := call_ret _ i e hI
  rw [← e2, ← e3, ← e4] at hc
  refine leaves_cons (f := 52) (args := #[p2, p3, p4]) (by simp) (by simp [go_sem]) (hc.mono ?_)
  rintro en u' w' ⟨rfl, rfl, s', hI'⟩
  exact ac_fin hI' rfl rfl hF rfl ⟨_, _, _, rfl, rfl, rfl, hr⟩ (by rw [hr]; rfl)
set_option maxRecDepth 100000 in
set_option maxHeartbeats 8000000 in
theorem leave_pan {p2 p3 p4 : Value} {w1 : World} (i e i' e' : Int) (hok : (Lit.int .i64 i').wf = true ∧ (Lit.int .i64 e').wf = true) (hF : s0.F = σ.F) (hps : Ptrs Tryz.prog s0 w1 p2 p3 p4) (hI : Inv ⟨Tryz.prog, fun _ => False, s0, w0, EN5, he, hp, pk, [defP p2 p3 p4]⟩ (HR 24 slotsP zQ i e) s w a) :
    Leaves Tryz.prog Tryz.f23 a.tmps (acR Tryz.prog σ w0 (.tup [.agg zQ, .c (.int .i64 i'), .c (.int .i64 e')])) [defP p2 p3 p4] (.panicking [{ v := .iface 103 (.agg #[.int .i64 i', .int .i64 e']), recovered := false }]) w := by
  have e2 : p2 = a.tmps.getD 2 undef := bx_same hps.p2 (hI.tm 2 (by omega)) (hI.named 0)
  have e3 : p3 = a.tmps.getD 3 undef := bx_same hps.p3 (hI.tm 3 (by omega)) (hI.named 1)
  have e4 : p4 = a.tmps.getD 4 undef := bx_same hps.p4 (hI.tm 4 (by omega)) (hI.named 2)
  have hc := call_pan i e i' e' hok hI
  rw [← e2, ← e3, ← e4] at hc
  refine leaves_cons (f := 52) (args := #[p2, p3, p4]) (by simp) (by simp [go_sem]) (hc.mono ?_)
  rintro en u' w' ⟨rfl, hs, s', hI'⟩
  show Leaves _ _ _ _ [] (settle u') w'
  rw [hs]
  exact ac_fin hI' rfl rfl hF rfl ⟨_, _, _, rfl, rfl, rfl, rfl⟩ rfl
end
/-- what the reader yields -/
noncomputable abbrev VP (p : List D × List D) : V := .agg (cellsV Tryz.prog 12 41 (queD p.1 p.2))
noncomputable abbrev toksV (ts : List Tok) : V := .sl 143 (ts.map tokD)
set_option maxHeartbeats 8000000 in
set_option maxRecDepth 100000 in
theorem etaPz (ts : List Tok) : [V.sl 143 (ts.map tokD), .c (.bool true), .c (.int .i64 0)] = cellsP ⟨ts, true, 0⟩ := rfl
/-- behind the scan -/
noncomputable def HP2 (ts : List Tok) : Vst 24 := stS 24 [(2, .bx 2 0), (3, .bx 3 0), (4, .bx 4 0), (5, toksV ts)] [(2, .box 41 zQ), (3, .box 3 [.c (.int .i64 0)]), (4, .box 49 [.c (.int .i64 0)])]
noncomputable def HP3 (ts : List Tok) : Vst 24 := HR 24 [(2, .bx (pn 0) 0), (3, .bx (pn 1) 0), (4, .bx (pn 2) 0), (5, toksV ts)] zQ 0 0
section
variable {σ : Sg} {w0 : World} {he : EN5.E w0}
set_option maxRecDepth 100000 in
set_option maxHeartbeats 8000000 in
theorem parse_bad (s : List UInt8) (i : Nat) (e : Int) (he0 : e ≠ 0) (hsc : AC EN5 Tryz.prog 37 [.c (.string (bs s))] (.tup [.c (.slice none 0 0), .c (.int .i64 (i : Int)), .c (.int .i64 e)])) :
    AC EN5 Tryz.prog 23 [.c (.string (bs s))] (.tup [.agg zQ, .c (.int .i64 (i : Int)), .c (.int .i64 e)]) := by
  refine ac_by fun σ w us hus hfx he => ?_
  refine calls_of_wp_defers Tryz.func23 rfl ?_
  have hI := inv_enter (nn := 24) (fn := Tryz.f23) he rfl hus hfx
  have hP : ∀ Q, PQ (cx EN5 Tryz.prog σ w he) 24 Q := fun Q _ _ _ _ _ _ h => h.elim
  refine awq_run ?_ hI
  clear hI
  refine awq_seq (hP _) ?_
  repeat' (first
 | refine aw_region ?_
 | refine awo_nil ?_
 | (apply s_alloc rfl rfl rfl rfl
    · conv => lhs; whnf; arg 1; whnf
    · rfl))
  refine k_q ?_
  refine awq_seq (hP _) ?_
  repeat' (first
 | refine aw_region ?_
 | refine awo_nil ?_
 | (apply s_val rfl
    · conv => lhs; whnf
    · conv => lhs; whnf; arg 2; whnf)
 | (apply s_call rfl
    · conv => lhs; whnf
    · conv => lhs; whnf
    · first | exact hsc)
 | (apply s_store rfl rfl rfl
    · conv => lhs; whnf
    · conv => lhs; whnf; arg 1; whnf
    · conv => lhs; whnf; arg 1; whnf
    · exact ⟨by kernel_rfl, by kernel_rfl⟩
    · rfl)
 | exact trivial)
  refine k_q ?_
  refine awq_seq (hP _) ?_
  repeat' (first
 | (apply aw_drawGn 6 ([(1,[3]),(2,[4])]) ([(3,[2]),(4,[3]),(5,[4])]) rfl (by kernel_rfl) (by kernel_rfl) (by kernel_rfl))
 | apply g_nil
 | (apply g_val rfl
    · conv => lhs; whnf
    · conv => lhs; whnf; arg 2; whnf)
 | (apply g_store rfl rfl rfl
    · conv => lhs; whnf
    · rfl
    · conv => lhs; whnf; arg 1; whnf
    · conv => lhs; whnf; arg 1; whnf
    · exact ⟨by kernel_rfl, by kernel_rfl⟩
    · rfl)
 | (show inO _ _ = true; rfl)
 | refine aw_seq ?_
 | refine aw_region ?_
 | refine awo_nil ?_
 | refine k_seq ?_
 | refine aw_skip ?_
 | (apply s_val rfl
    · conv => lhs; whnf
    · conv => lhs; whnf; arg 2; whnf)
 | (refine aw_cond (by conv => lhs; whnf) ?_ ?_ <;> intro hb)
 | refine aw_ret ?_
 | exact trivial)
  · refine k_qr fun s' w' a' hI' => ?_
    show Leaves _ _ _ _ a'.defers .returning w'
    rw [hI'.df]
    exact ac_fin hI' rfl rfl rfl rfl ⟨_, _, _, rfl, rfl, rfl, rfl⟩ rfl
  · exact absurd hb (by simp [he0])
/-- the rest of the frame, behind the defer -/
noncomputable def restP : Code := match Tryz.f23.body with
  | some (.seq _ (.seq _ (.seq _ (.seq _ y)))) => y
  | _ => .skip
def endP (d : List D) (d2 : List D) : Exit → Vst 24 → Prop
  | .ret, st => tmOk st slotsP ∧ rsOk st (resP [.sl 57 d, .sl 116 d2] 0 0)
  | _, _ => False
def pkP (x : Nat × Int) (pv : Value) (tm : Nat → V) (rs : Nat → Option Res) : Prop :=
  pv = probP x ∧ tmOk (⟨tm, rs⟩ : Vst 24) slotsP ∧ rsOk (⟨tm, rs⟩ : Vst 24) (resP zQ 0 0)
set_option maxRecDepth 100000 in
set_option maxHeartbeats 8000000 in
/-- the document is read -/
theorem rest_ok {pas : Nat → Prop} {s0 : Sg} {hp : ∀ k, k < EN5.G → ¬ pas k} {dfs : List Deferred} (ts : List Tok) (ops frs : List D) (x' : PS)
    (hdoc : ACE EN5 Tryz.prog 53 [.bx (pn 0) 0] [boxP ⟨ts, true, 0⟩] (outQ (fun p => VP p) (.ok ((ops, frs), x')))) :
    AW ⟨Tryz.prog, pas, s0, w0, EN5, he, hp, fun _ _ _ => False, dfs⟩ restP (HP3 ts) (endP ops frs) := by
  unfold restP
  simp only [Tryz.f23]
  repeat' (first
 | refine aw_seq ?_
 | refine aw_region ?_
 | refine awo_nil ?_
 | refine k_seq ?_
 | (apply s_val rfl
    · conv => lhs; whnf
    · conv => lhs; whnf; arg 2; whnf)
 | (apply s_box rfl rfl rfl rfl
    · conv => lhs; whnf; arg 1; whnf
    · rfl)
 | exact trivial)
  apply s_pr cellsP cellsP_ren rfl
  · rfl
  · conv => lhs; whnf
  · rfl
  · conv => lhs; whnf; arg 1; whnf
  · exact etaPz _
  · exact hdoc
  · exact fun _ => rfl
  · intro _ _; simp only [renL, renV, ren_cells]
  · intro ee hq; cases hq
  intro aa xx hq
  cases hq
  repeat' (first
 | refine awo_nil ?_
 | refine k_seq ?_
 | (apply s_store rfl rfl rfl
    · conv => lhs; whnf
    · conv => lhs; whnf; arg 1; whnf
    · conv => lhs; whnf; arg 1; whnf
    · exact ⟨by kernel_rfl, by kernel_rfl⟩
    · rfl)
 | refine aw_ret ?_)
  exact ⟨⟨rfl, rfl, rfl, trivial⟩, rfl, rfl, rfl, trivial⟩
set_option maxRecDepth 100000 in
set_option maxHeartbeats 8000000 in
/-- it isn't -/
theorem rest_pan {pas : Nat → Prop} {s0 : Sg} {hp : ∀ k, k < EN5.G → ¬ pas k} {dfs : List Deferred} (ts : List Tok) (x : Nat × Int)
    (hdoc : ACE EN5 Tryz.prog 53 [.bx (pn 0) 0] [boxP ⟨ts, true, 0⟩] (outQ (fun p => VP p) (.error x))) :
    AW ⟨Tryz.prog, pas, s0, w0, EN5, he, hp, pkP x, dfs⟩ restP (HP3 ts) (fun _ _ => False) := by
  unfold restP
  simp only [Tryz.f23]
  repeat' (first
 | refine aw_seq ?_
 | refine aw_region ?_
 | refine awo_nil ?_
 | refine k_seq ?_
 | (apply s_val rfl
    · conv => lhs; whnf
    · conv => lhs; whnf; arg 2; whnf)
 | (apply s_box rfl rfl rfl rfl
    · conv => lhs; whnf; arg 1; whnf
    · rfl)
 | exact trivial)
  apply s_pr cellsP cellsP_ren rfl
  · rfl
  · conv => lhs; whnf
  · rfl
  · conv => lhs; whnf; arg 1; whnf
  · exact etaPz _
  · exact hdoc
  · exact fun _ => rfl
  · intro _ _; simp only [renL, renV, ren_cells]
  · intro ee hq
    cases hq
    exact ⟨rfl, ⟨rfl, rfl, rfl, trivial⟩, rfl, rfl, rfl, trivial⟩
  intro aa xx hq
  cases hq
noncomputable def code4 : Code := match Tryz.f23.body with
  | some (.seq _ (.seq _ (.seq _ y))) => y
  | _ => .skip
set_option maxRecDepth 100000 in
set_option maxHeartbeats 8000000 in
theorem defer_step {ts : List Tok} {Q : Exit → Act → World → Prop} {s : Sg} {w : World} {a : Act} (hI : Inv (cx EN5 Tryz.prog σ w0 he) (HP2 ts) s w a)
    (h : ∀ (s0 : Sg) (p2 p3 p4 : Value) (a' : Act), s0.F = σ.F → Ptrs Tryz.prog s0 w p2 p3 p4 → (∀ pk, ∃ s', Inv ⟨Tryz.prog, fun _ => False, s0, w0, EN5, he, fun _ _ h => h, pk, [defP p2 p3 p4]⟩ (HP3 ts) s' w a') → restP.wp Tryz.prog Q a' w) : code4.wp Tryz.prog Q a w := by
  unfold code4
  simp only [Tryz.f23]
  unfold restP at h
  simp only [Tryz.f23] at h
  refine wp_seq (wp_region_lit ?_)
  refine wpList_plain rfl fun K' hK' => ?_
  unfold Oper.wp
  have hrun : ∀ (ty : TypeId) (po : String), (execOp a.eval { dst := some 18, op := Op.makeFunc (Fn.func 52) #[] #[Operand.tmp 2, Operand.tmp 3, Operand.tmp 4], type := ty, pos := po, after := #[], guard := none }).run Tryz.prog w = .ok (.value (.func (.func 52) #[] #[a.tmps.getD 2 undef, a.tmps.getD 3 undef, a.tmps.getD 4 undef])) w := fun ty po => by simp [execOp, Instr.makeFunc, Act.eval]
  rw [hrun]
  rw [Oper.upon_value]
  refine hK' _ _ ?_
  refine wpList_plain rfl fun K2 hK2 => ?_
  unfold Oper.wp
  have hz : 18 < a.tmps.size := by rw [hI.sz]; omega
  have hev : (a.put (some 18) (.func (.func 52) #[] #[a.tmps.getD 2 undef, a.tmps.getD 3 undef, a.tmps.getD 4 undef])).eval (.tmp 18) = .func (.func 52) #[] #[a.tmps.getD 2 undef, a.tmps.getD 3 undef, a.tmps.getD 4 undef] := by
    simp [Act.put, Act.eval, hz]
  simp only [execOp, resolve, hev, Deferred.ofValue, List.map_toArray, List.map_nil, Sem.run_bind, Sem.run_pure, Result.andThen_ok]
  rw [Oper.upon_defer]
  refine hK2 _ _ (wpList_nil ?_)
  have h18 := hI.put (some 18) (v := .any) (u := .func (.func 52) #[] #[a.tmps.getD 2 undef, a.tmps.getD 3 undef, a.tmps.getD 4 undef]) (by simp [rel])
  have hd : a.defers = [] := hI.df
  refine h { s.hand [2, 3, 4] with F := σ.F } (a.tmps.getD 2 undef) (a.tmps.getD 3 undef) (a.tmps.getD 4 undef) _ rfl ⟨?_, ?_, ?_⟩ (fun pk => ?_)
  · exact bx_ren (k := 2) (hI.tm 2 (by omega)) (hand_at s [2, 3, 4] (i := 0) rfl).1
  · exact bx_ren (k := 3) (hI.tm 3 (by omega)) (hand_at s [2, 3, 4] (i := 1) rfl).1
  · exact bx_ren (k := 4) (hI.tm 4 (by omega)) (hand_at s [2, 3, 4] (i := 2) rfl).1
  · refine sub_run (Sub.live (cs := [(2, .bx (pn 0) 0), (3, .bx (pn 1) 0), (4, .bx (pn 2) 0), (5, toksV ts)]) (R := resP zQ 0 0) ?_ ?_) (Inv.handed h18 [2, 3, 4] (by decide) (ρs := [.box 41 zQ, .box 3 [.c (.int .i64 0)], .box 49 [.c (.int .i64 0)]]) rfl pk [defP (a.tmps.getD 2 undef) (a.tmps.getD 3 undef) (a.tmps.getD 4 undef)] rfl ?_)
    · exact ⟨rfl, rfl, rfl, rfl, trivial⟩
    · exact ⟨rfl, rfl, rfl, trivial⟩
    · show defP _ _ _ :: a.defers = _
      rw [hd]
set_option maxRecDepth 100000 in
set_option maxHeartbeats 8000000 in
theorem parse_good (s : List UInt8) (ts : List Tok) (hsc : AC EN5 Tryz.prog 37 [.c (.string (bs s))] (.tup [toksV ts, .c (.int .i64 0), .c (.int .i64 0)])) (ops frs : List D) (x' : PS)
    (hdoc : ACE EN5 Tryz.prog 53 [.bx (pn 0) 0] [boxP ⟨ts, true, 0⟩] (outQ (fun p => VP p) (.ok ((ops, frs), x')))) :
    AC EN5 Tryz.prog 23 [.c (.string (bs s))] (.tup [.agg [.sl 57 ops, .sl 116 frs], .c (.int .i64 0), .c (.int .i64 0)]) := by
  refine ac_by fun σ w us hus hfx he => ?_
  refine calls_of_wp_defers Tryz.func23 rfl ?_
  have hI := inv_enter (nn := 24) (fn := Tryz.f23) he rfl hus hfx
  have hP : ∀ Q, PQ (cx EN5 Tryz.prog σ w he) 24 Q := fun Q _ _ _ _ _ _ h => h.elim
  refine awq_run ?_ hI
  clear hI
  refine awq_seq (hP _) ?_
  repeat' (first
 | refine aw_region ?_
 | refine awo_nil ?_
 | (apply s_alloc rfl rfl rfl rfl
    · conv => lhs; whnf; arg 1; whnf
    · rfl))
  refine k_q ?_
  refine awq_seq (hP _) ?_
  repeat' (first
 | refine aw_region ?_
 | refine awo_nil ?_
 | (apply s_val rfl
    · conv => lhs; whnf
    · conv => lhs; whnf; arg 2; whnf)
 | (apply s_call rfl
    · conv => lhs; whnf
    · conv => lhs; whnf
    · first | exact hsc)
 | (apply s_store rfl rfl rfl
    · conv => lhs; whnf
    · conv => lhs; whnf; arg 1; whnf
    · conv => lhs; whnf; arg 1; whnf
    · exact ⟨by kernel_rfl, by kernel_rfl⟩
    · rfl)
 | exact trivial)
  refine k_q ?_
  refine awq_seq (hP _) ?_
  repeat' (first
 | refine aw_seq ?_
 | refine aw_region ?_
 | refine awo_nil ?_
 | refine k_seq ?_
 | refine aw_skip ?_
 | (apply s_val rfl
    · conv => lhs; whnf
    · conv => lhs; whnf; arg 2; whnf)
 | (apply aw_cond_f
    · conv => lhs; whnf; arg 1; arg 1; whnf)
 | exact trivial)
  refine k_q (awq_sub (st' := HP2 ts) (Sub.live ⟨rfl, rfl, rfl, rfl, trivial⟩ ⟨rfl, rfl, rfl, trivial⟩) (awq_by fun s1 w1 a1 hI1 => ?_))
  refine defer_step hI1 fun s0 p2 p3 p4 a' hF hps hpk => ?_
  obtain ⟨s2, hI2⟩ := hpk fun _ _ _ => False
  refine Code.wp_mono (fun en a3 w3 ⟨st3, s3, hI3, hK⟩ => ?_) (aw_run (rest_ok ts ops frs x' hdoc) hI2)
  rcases hK with hK | ⟨_, _, hK⟩
  · cases en
    case ret =>
      obtain ⟨s4, hI4⟩ := sub_run (Sub.live (cs := slotsP) (R := resP [.sl 57 ops, .sl 116 frs] 0 0) hK.1 hK.2) hI3
      show Leaves _ _ _ _ a3.defers .returning w3
      rw [hI3.df]
      exact leave_ret ops frs 0 0 hF hps hI4 rfl
    all_goals exact hK.elim
  · exact hK.elim
set_option maxRecDepth 100000 in
set_option maxHeartbeats 8000000 in
theorem parse_pan (s : List UInt8) (ts : List Tok) (hsc : AC EN5 Tryz.prog 37 [.c (.string (bs s))] (.tup [toksV ts, .c (.int .i64 0), .c (.int .i64 0)])) (x : Nat × Int) (hok : (Lit.int .i64 (x.1 : Int)).wf = true ∧ (Lit.int .i64 x.2).wf = true)
    (hdoc : ACE EN5 Tryz.prog 53 [.bx (pn 0) 0] [boxP ⟨ts, true, 0⟩] (outQ (fun p => VP p) (.error x))) :
    AC EN5 Tryz.prog 23 [.c (.string (bs s))] (.tup [.agg zQ, .c (.int .i64 (x.1 : Int)), .c (.int .i64 x.2)]) := by
  refine ac_by fun σ w us hus hfx he => ?_
  refine calls_of_wp_defers Tryz.func23 rfl ?_
  have hI := inv_enter (nn := 24) (fn := Tryz.f23) he rfl hus hfx
  have hP : ∀ Q, PQ (cx EN5 Tryz.prog σ w he) 24 Q := fun Q _ _ _ _ _ _ h => h.elim
  refine awq_run ?_ hI
  clear hI
  refine awq_seq (hP _) ?_
  repeat' (first
 | refine aw_region ?_
 | refine awo_nil ?_
 | (apply s_alloc rfl rfl rfl rfl
    · conv => lhs; whnf; arg 1; whnf
    · rfl))
  refine k_q ?_
  refine awq_seq (hP _) ?_
  repeat' (first
 | refine aw_region ?_
 | refine awo_nil ?_
 | (apply s_val rfl
    · conv => lhs; whnf
    · conv => lhs; whnf; arg 2; whnf)
 | (apply s_call rfl
    · conv => lhs; whnf
    · conv => lhs; whnf
    · first | exact hsc)
 | (apply s_store rfl rfl rfl
    · conv => lhs; whnf
    · conv => lhs; whnf; arg 1; whnf
    · conv => lhs; whnf; arg 1; whnf
    · exact ⟨by kernel_rfl, by kernel_rfl⟩
    · rfl)
 | exact trivial)
  refine k_q ?_
  refine awq_seq (hP _) ?_
  repeat' (first
 | refine aw_seq ?_
 | refine aw_region ?_
 | refine awo_nil ?_
 | refine k_seq ?_
 | refine aw_skip ?_
 | (apply s_val rfl
    · conv => lhs; whnf
    · conv => lhs; whnf; arg 2; whnf)
 | (apply aw_cond_f
    · conv => lhs; whnf; arg 1; arg 1; whnf)
 | exact trivial)
  refine k_q (awq_sub (st' := HP2 ts) (Sub.live ⟨rfl, rfl, rfl, rfl, trivial⟩ ⟨rfl, rfl, rfl, trivial⟩) (awq_by fun s1 w1 a1 hI1 => ?_))
  refine defer_step hI1 fun s0 p2 p3 p4 a' hF hps hpk => ?_
  obtain ⟨s2, hI2⟩ := hpk (pkP x)
  refine Code.wp_mono (fun en a3 w3 ⟨st3, s3, hI3, hK⟩ => ?_) (aw_run (rest_pan ts x hdoc) hI2)
  rcases hK with hK | ⟨pv, rfl, hK⟩
  · exact hK.elim
  · obtain ⟨rfl, h1, h2⟩ := hK
    obtain ⟨s4, hI4⟩ := sub_run (Sub.live (cs := slotsP) (R := resP zQ 0 0) h1 h2) hI3
    show Leaves _ _ _ _ a3.defers (.panicking _) w3
    rw [hI3.df]
    exact leave_pan 0 0 x.1 x.2 hok hF hps hI4
end
end Go.Proofs.YthjiclhfhjdjpaaGreatDoor
namespace Go.Proofs.YthjiclhfhjdjpaaGreatDoor
def Nz {α : Type} (r : PR α) : Prop := ∀ i, r ≠ .error (i, 0)
section
variable {α β : Type}
theorem Nz.okk (p : α × PS) : Nz (.ok p : PR α) := fun i h => by cases h
theorem Nz.err {i : Nat} {e : Int} (h : e ≠ 0) : Nz (.error (i, e) : PR α) := fun j hj => by cases hj; exact h rfl
theorem Nz.ite {c : Prop} [Decidable c] {a b : PR α} (h1 : c → Nz a) (h2 : ¬ c → Nz b) : Nz (if c then a else b) := by
  split
  · exact h1 (by assumption)
  · exact h2 (by assumption)
theorem Nz.then {r : PR α} {f : α → PS → PR β} (h : Nz r) (hf : ∀ a x, r = .ok (a, x) → Nz (f a x)) : Nz (thenQ r f) := by
  cases hr : r with
  | error e =>
    rw [then_err (r := .error e) rfl]
    intro i hi
    cases hi
    exact h i hr
  | ok p =>
    obtain ⟨a, x⟩ := p
    rw [then_ok (r := .ok (a, x)) rfl]
    exact hf a x hr
end
end Go.Proofs.YthjiclhfhjdjpaaGreatDoor
namespace Go.Proofs.YthjiclhfhjdjpaaGreatDoor
theorem unqF_len : ∀ (k : Nat) (l t : List UInt8), unqF k l = some t → t.length ≤ l.length
  | k, [], t, h => by
    have : unqF k [] = some [] := by cases k <;> rfl
    rw [this] at h; cases h; exact Nat.le_refl _
  | 0, c :: r, t, h => by cases h
  | k + 1, c :: r, t, h => by
    have h : stpU (unqF k) c r = some t := h
    unfold stpU at h
    split at h
    · cases h
    split at h
    · obtain ⟨q, hq, rfl⟩ := Option.map_eq_some_iff.1 h
      have := unqF_len k _ _ hq
      simp; omega
    split at h
    · cases h
    · rename_i d r'
      split at h
      · obtain ⟨q, hq, rfl⟩ := Option.map_eq_some_iff.1 h
        have := unqF_len k _ _ hq
        simp; omega
      · split at h
        · cases h
        · split at h
          · split at h
            · obtain ⟨q, hq, rfl⟩ := Option.map_eq_some_iff.1 h
              have := unqF_len k _ _ hq
              simp at this ⊢; omega
            · cases h
          · cases h
theorem unquote_len {l t : List UInt8} (h : unquoteU l = some t) : t.length ≤ l.length := by
  unfold unquoteU at h
  split at h
  · have := unqF_len _ _ _ h
    simp at this; omega
  · cases h
theorem readU_len {l : List UInt8} {k : Int} {s : List UInt8} {n : Nat} (h : readU l = .ok (k, s, n)) : s.length ≤ l.length := by
  unfold readU at h
  split at h
  · cases h
  · rename_i c r
    have hs := (span_take (p := wrdU) r).2
    have hl := spanN_le wrdU r
    split at h
    · cases h; simp
    split at h
    · split at h
      · rename_i h3
        cases h
        have : (r.take 2).length = 2 := by rw [h3]; rfl
        rw [List.length_take] at this
        simp; omega
      · cases h
    split at h
    · split at h
      · cases h; rw [List.length_cons, List.length_cons, hs]; omega
      · cases h
    split at h
    · split at h
      · cases h
      · cases h; rw [List.length_cons, List.length_cons, hs]; omega
    split at h
    · split at h
      · cases h
      · split at h
        · cases h
        · rename_i ht
          cases h
          have := unquote_len ht
          simp at this ⊢; omega
    · cases h
theorem readU_nz {l : List UInt8} {e : Int} (h : readU l = .error e) : e ≠ 0 := by
  unfold readU at h
  split at h
  · cases h; decide
  · split at h
    · cases h
    split at h
    · split at h
      · cases h
      · cases h; decide
    split at h
    · split at h
      · cases h
      · rename_i hn; cases h; exact hn
    split at h
    · split at h
      · cases h; decide
      · cases h
    split at h
    · split at h
      · cases h; decide
      · split at h
        · cases h; decide
        · cases h
    · cases h; decide
theorem scanF_ok : ∀ (f : Nat) (l : List UInt8) (i : Nat) (ts : List Tok), scanF f l i = .ok ts → (∃ a e, ts = a ++ [e] ∧ e.k = 5) ∧ ∀ t ∈ ts, t.i ≤ i + l.length ∧ t.s.length ≤ l.length
  | 0, _, _, _, h => by cases h
  | f + 1, l, i, ts, h => by
    unfold scanF at h
    split at h
    · cases h
      exact ⟨⟨[], _, rfl, rfl⟩, fun t ht => by rw [List.mem_singleton] at ht; subst ht; exact ⟨Nat.le_refl _, Nat.zero_le _⟩⟩
    · rename_i c r hl
      have hlen : (c :: r).length = l.length - skipM false l := by rw [← hl, List.length_drop]
      have hsk := skipM_le false l
      split at h
      · cases h
      · rename_i t n ht
        have hn := readT_le ht
        have hu := readT_ok ht
        have hs := readU_len hu.1
        split at h
        · cases h
        · rename_i ts' hts
          cases h
          obtain ⟨⟨a, e, rfl, he⟩, hm⟩ := scanF_ok f _ _ _ hts
          refine ⟨⟨t :: a, e, rfl, he⟩, fun u hu' => ?_⟩
          rcases List.mem_cons.1 hu' with rfl | hu'
          · exact ⟨by rw [hu.2]; omega, by omega⟩
          · have := hm u hu'
            rw [List.length_drop] at this
            exact ⟨by omega, by omega⟩
theorem scanF_err : ∀ (f : Nat) (l : List UInt8) (i : Nat) (p : Nat × Int), l.length < f → scanF f l i = .error p → p.1 ≤ i + l.length ∧ p.2 ≠ 0
  | 0, _, _, _, h, _ => by omega
  | f + 1, l, i, p, hf, h => by
    unfold scanF at h
    split at h
    · cases h
    · rename_i c r hl
      have hlen : (c :: r).length = l.length - skipM false l := by rw [← hl, List.length_drop]
      have hsk := skipM_le false l
      split at h
      · rename_i e he
        cases h
        refine ⟨by show i + _ ≤ _; omega, ?_⟩
        unfold readT at he
        split at he
        · rename_i e' he'
          cases he
          exact readU_nz he'
        · cases he
      · rename_i t n ht
        have hn := readT_le ht
        split at h
        · rename_i e he
          cases h
          have := scanF_err f _ _ p (by rw [List.length_drop]; omega) he
          rw [List.length_drop] at this
          exact ⟨by omega, this.2⟩
        · cases h
theorem scan_en {l : List UInt8} {ts : List Tok} (h : scanT l = .ok ts) : En ⟨ts, true, 0⟩ ∧ ∀ t ∈ ts, t.i ≤ l.length := by
  unfold scanT at h
  split at h
  · cases h
  · obtain ⟨⟨a, e, h1, h2⟩, h3⟩ := scanF_ok _ _ _ _ h
    exact ⟨⟨a, e, h1, h2, fun t ht => by have := (h3 t ht).2; omega⟩, fun t ht => by have := (h3 t ht).1; omega⟩
/-- the same token, within a bound -/
def inT (N : Nat) (t t' : Tok) : Prop := t = t' ∧ t.i ≤ N
theorem inT_tr (N : Nat) : TR (inT N) fun i i' => i = i' ∧ i ≤ N := ⟨fun h => by rw [h.1], fun h => by rw [h.1], fun h => ⟨by rw [h.1], h.2⟩, ⟨rfl, Nat.zero_le _⟩⟩
theorem all2_in {N : Nat} : ∀ {ts : List Tok}, (∀ t ∈ ts, t.i ≤ N) → All2 (inT N) ts ts
  | [], _ => .nil
  | t :: ts, h => .cons ⟨rfl, h t (List.mem_cons_self ..)⟩ (all2_in fun u hu => h u (List.mem_cons_of_mem _ hu))
theorem doc_err {ts : List Tok} {N i : Nat} {e : Int} (h : ∀ t ∈ ts, t.i ≤ N) (hq : docQ ts = .error (i, e)) : i ≤ N := by
  have hr := doc_rr (inT_tr N) (all2_in h)
  rw [hq] at hr
  exact hr.1.2
theorem scan_err {l : List UInt8} {i : Nat} {e : Int} (h : scanT l = .error (i, e)) : e ≠ 0 := by
  unfold scanT at h
  split at h
  · cases h; decide
  · exact (scanF_err _ _ _ _ (Nat.lt_succ_self _) h).2
end Go.Proofs.YthjiclhfhjdjpaaGreatDoor
namespace Go.Proofs.YthjiclhfhjdjpaaGreatDoor
def Mz {α : Type} (r : PR α) : Prop := ∀ i e, r = .error (i, e) → 0 < e ∧ e ≤ 100
section
variable {α β : Type}
theorem Mz.okk (p : α × PS) : Mz (.ok p : PR α) := fun i e h => by cases h
theorem Mz.err {i : Nat} {e : Int} (h : 0 < e ∧ e ≤ 100) : Mz (.error (i, e) : PR α) := fun j e' hj => by cases hj; exact h
theorem Mz.ite {c : Prop} [Decidable c] {a b : PR α} (h1 : c → Mz a) (h2 : ¬ c → Mz b) : Mz (if c then a else b) := by
  split
  · exact h1 (by assumption)
  · exact h2 (by assumption)
theorem Mz.then {r : PR α} {f : α → PS → PR β} (h : Mz r) (hf : ∀ a x, r = .ok (a, x) → Mz (f a x)) : Mz (thenQ r f) := by
  cases hr : r with
  | error e =>
    rw [then_err (r := .error e) rfl]
    intro i e' hi
    cases hi
    exact h i e' hr
  | ok p =>
    obtain ⟨a, x⟩ := p
    rw [then_ok (r := .ok (a, x)) rfl]
    exact hf a x hr
theorem take_mz (s : List UInt8) (x : PS) : Mz (takeQ s x) := by
  unfold takeQ
  exact .ite (fun _ => .okk _) fun _ => .err (by decide)
theorem name_mz (x : PS) : Mz (nameQ x) := by
  unfold nameQ
  exact .ite (fun _ => .okk _) fun _ => .err (by decide)
theorem close_mz : ∀ (n : Nat) (w : List Int) (x : PS), Mz (closeQ n w x)
  | 0, w, x => by unfold closeQ; exact .okk _
  | n + 1, w, x => by unfold closeQ; exact .then (take_mz _ _) fun _ y _ => close_mz n _ y
theorem inner_mz (x : PS) : Mz (innerQ x) := .then (name_mz _) fun _ y _ => .then (close_mz _ _ y) fun _ _ _ => .okk _
theorem typ_mz (x : PS) : Mz (typQ x) := .then (inner_mz x) fun _ _ _ => .ite (fun _ => .err (by decide)) fun _ => .okk _
theorem items_mz {v : PS → PR D} (hv : ∀ y, En y → Mz (v y)) (hl : ∀ {y z a}, En y → v y = .ok (a, z) → En z ∧ z.ts.length < y.ts.length) : ∀ (f : Nat) (acc : List D) (x : PS), En x → x.ts.length < f → Mz (itemsQ v f acc x)
  | 0, _, _, _, h => by omega
  | f + 1, acc, x, hx, h => by
    unfold itemsQ
    exact .ite (fun _ => .okk _) fun _ => .then (hv x hx) fun _ y hq => items_mz hv hl f _ y (hl hx hq).1 (by have := (hl hx hq).2; omega)
theorem fields_mz {v : PS → PR D} (hv : ∀ y, En y → Mz (v y)) (hl : ∀ {y z a}, En y → v y = .ok (a, z) → En z ∧ z.ts.length < y.ts.length) : ∀ (f : Nat) (ks : List (List UInt8)) (acc : List D) (x : PS), En x → x.ts.length < f → Mz (fieldsQ v f ks acc x)
  | 0, _, _, _, _, h => by omega
  | f + 1, ks, acc, x, hx, h => by
    unfold fieldsQ
    refine .ite (fun _ => .okk _) fun _ => .then (name_mz x) fun k y hn => .ite (fun _ => .err (by decide)) fun _ => .then (take_mz _ y) fun u z ht => .then (hv z ?_) fun _ w hw => fields_mz hv hl f _ _ w ?_ ?_
    · exact ((hx.name hn).1.take ht).1
    · exact (hl ((hx.name hn).1.take ht).1 hw).1
    · have h1 := hx.name hn
      have h2 := h1.1.take ht
      have h3 := hl h2.1 hw
      omega
theorem value_mz : ∀ (f lv : Nat) (x : PS), En x → lv ≤ 25 → 26 ≤ f + lv → Mz (valueQ f lv x)
  | 0, lv, _, _, h1, h2 => by omega
  | f + 1, lv, x, hx, h1, h2 => by
    have hy : En { nxT x with nd := x.nd + 1 } := hx.nx0
    unfold valueQ
    refine .ite (fun _ => .err (by decide)) fun _ => .ite (fun _ => .err (by decide)) fun hlv => .ite (fun _ => .err (by decide)) fun _ => ?_
    dsimp only
    refine .ite (fun _ => .okk _) fun _ => .ite (fun _ => .okk _) fun _ => .ite (fun _ => .okk _) fun _ => .ite (fun _ => .then (name_mz _) fun _ _ _ => .okk _) fun _ => .ite (fun _ => ?_) fun _ => ?_
    · exact .then (items_mz (fun y hy => value_mz f (lv + 1) y hy (by omega) (by omega)) (fun hy hq => hy.valueL hq) _ _ _ hy (Nat.lt_succ_self _)) fun _ _ _ => .okk _
    · exact .then (fields_mz (fun y hy => value_mz f (lv + 1) y hy (by omega) (by omega)) (fun hy hq => hy.valueL hq) _ _ _ _ hy (Nat.lt_succ_self _)) fun _ _ _ => .okk _
theorem whole_mz (x : PS) (h : En x) : Mz (wholeQ x) := value_mz 25 1 _ h (by omega) (by omega)
theorem argsF_mz : ∀ (f : Nat) (acc : List D) (x : PS), En x → x.ts.length ≤ f → Mz (argsF f acc x)
  | 0, _, x, hx, h => by obtain ⟨t, r, ht⟩ := hx.cons; rw [ht] at h; simp at h
  | f + 1, acc, x, hx, h => by
    unfold argsF
    refine .ite (fun _ => .okk _) fun _ => .ite (fun _ => .err (by decide)) fun _ => .then (name_mz x) fun n y hn => .then (take_mz _ y) fun u z ht => .then (whole_mz z ?_) fun _ w hw => argsF_mz f _ w ?_ ?_
    · exact ((hx.name hn).1.take ht).1
    · exact (((hx.name hn).1.take ht).1.whole hw).1
    · have h1 := hx.name hn
      have h2 := h1.1.take ht
      have h3 := h2.1.whole hw
      omega
theorem args_mz (x : PS) (h : En x) : Mz (argsQ x) := .ite (fun hs => argsF_mz _ _ _ h.nx0 (by have := (h.sg hs).2; omega)) fun _ => .okk _
theorem dirsF_mz : ∀ (f : Nat) (acc : List D) (x : PS), En x → x.ts.length < f → Mz (dirsF f acc x)
  | 0, _, _, _, h => by omega
  | f + 1, acc, x, hx, h => by
    unfold dirsF
    refine .ite (fun hs => .ite (fun _ => .err (by decide)) fun _ => .then (name_mz _) fun n y hn => .then (args_mz y ?_) fun _ z hz => dirsF_mz f _ z ?_ ?_) fun _ => .okk _
    · exact (hx.nx0.name hn).1
    · exact ((hx.nx0.name hn).1.args hz).1
    · have h1 := hx.sg hs
      have h2 := h1.1.name hn
      have h3 := h2.1.args hz
      omega
theorem dirs_mz (x : PS) (h : En x) : Mz (dirsQ x) := dirsF_mz _ _ _ h (Nat.lt_succ_self _)
theorem sel_mz {v : PS → PR (List D)} (hv : ∀ y, En y → Mz (v y)) (x : PS) (h : En x) : Mz (selQ v x) := by
  unfold selQ
  refine .ite (fun hs => ?_) fun _ => ?_
  · dsimp only
    refine .ite (fun _ => .then (dirs_mz _ h.nx0.nx0) fun _ _ _ => .okk _) fun _ => .then (.ite (fun _ => name_mz _) fun _ => .okk _) fun on z hz => ?_
    have hz' : En z := by
      split at hz
      · exact (h.nx0.nx0.name hz).1
      · cases hz; exact h.nx0
    exact .then (dirs_mz z hz') fun _ u hu => .then (hv u (hz'.dirs hu).1) fun _ _ _ => .okk _
  · refine .then (name_mz x) fun n y hn => ?_
    have hy := (h.name hn).1
    refine .then (.ite (fun _ => .then (name_mz _) fun _ _ _ => .okk _) fun _ => .okk _) fun an z hz => ?_
    have hz' : En z := by
      split at hz
      · cases hm : nameQ (nxT y) with
        | error e => rw [then_err hm] at hz; cases hz
        | ok p =>
          obtain ⟨m, z2⟩ := p
          rw [then_ok hm] at hz
          cases hz
          exact (hy.nx0.name hm).1
      · cases hz; exact hy
    refine .then (args_mz z hz') fun _ u hu => .then (dirs_mz u (hz'.args hu).1) fun _ w hw => ?_
    exact .then (.ite (fun _ => hv w ((hz'.args hu).1.dirs hw).1) fun _ => .okk _) fun _ _ _ => .okk _
theorem setF_mz {v : PS → PR D} (hv : ∀ y, En y → Mz (v y)) (hl : ∀ {y z a}, En y → v y = .ok (a, z) → En z ∧ z.ts.length < y.ts.length) : ∀ (f : Nat) (acc : List D) (x : PS), En x → x.ts.length < f → Mz (setF v f acc x)
  | 0, _, _, _, h => by omega
  | f + 1, acc, x, hx, h => by
    unfold setF
    exact .ite (fun _ => .okk _) fun _ => .ite (fun _ => .err (by decide)) fun _ => .then (hv x hx) fun _ y hq => setF_mz hv hl f _ y (hl hx hq).1 (by have := (hl hx hq).2; omega)
theorem sels_mz : ∀ (f lv : Nat) (x : PS), En x → lv ≤ 25 → 26 ≤ f + lv → Mz (selsQ f lv x)
  | 0, lv, _, _, h1, h2 => by omega
  | f + 1, lv, x, hx, h1, h2 => by
    unfold selsQ
    by_cases hs : isS x [123] = true
    · refine .ite (fun _ => .err (by decide)) fun hlv => .then (take_mz _ x) fun u y hy => ?_
      have hlv : ¬ 24 < lv := fun h => hlv ⟨hs, h⟩
      exact setF_mz (fun y hy => sel_mz (fun y hy => sels_mz f (lv + 1) y hy (by omega) (by omega)) y hy) (fun hy hq => hy.selL hq) _ _ _ (hx.take hy).1 (Nat.lt_succ_self _)
    · refine .ite (fun _ => .err (by decide)) fun _ => .then (take_mz _ x) fun u y hy => ?_
      exfalso
      unfold takeQ at hy
      rw [if_neg hs] at hy
      cases hy
theorem set_mz (x : PS) (h : En x) : Mz (setQ x) := sels_mz 25 1 x h (by omega) (by omega)
theorem def_mz (x : PS) (h : En x) : Mz (defQ x) := by
  unfold defQ
  exact .ite (fun _ => .then (whole_mz _ h.nx0) fun _ _ _ => .okk _) fun _ => .okk _
theorem def_em {x y : PS} {d : Bool × D} (h : En x) (hq : defQ x = .ok (d, y)) : En y ∧ y.ts.length ≤ x.ts.length := by
  unfold defQ at hq
  split at hq
  · cases hw : wholeQ { nxT x with vr := false } with
    | error e => rw [then_err hw] at hq; cases hq
    | ok p =>
      obtain ⟨d', o⟩ := p
      rw [then_ok hw] at hq
      cases hq
      have h1 := En.whole (x := { nxT x with vr := false }) h.nx0 hw
      exact ⟨h1.1, Nat.le_trans h1.2 (nx_len x)⟩
  · cases hq; exact ⟨h, Nat.le_refl _⟩
theorem var_mz (x : PS) (h : En x) : Mz (varQ x) :=
  .then (take_mz _ x) fun u y h1 => .then (name_mz y) fun n z h2 => .then (take_mz _ z) fun u2 w h3 => .then (typ_mz w) fun t v h4 =>
    .then (def_mz v ((((h.take h1).1.name h2).1.take h3).1.typ h4).1) fun _ _ _ => .okk _
theorem var_em {x o : PS} {d : D} (h : En x) (hq : varQ x = .ok (d, o)) : En o ∧ o.ts.length < x.ts.length := by
  unfold varQ at hq
  cases h1 : takeQ [36] x with
  | error e => rw [then_err h1] at hq; cases hq
  | ok p =>
  obtain ⟨u, y⟩ := p
  rw [then_ok h1] at hq
  cases h2 : nameQ y with
  | error e => rw [then_err h2] at hq; cases hq
  | ok p =>
  obtain ⟨n, z⟩ := p
  rw [then_ok h2] at hq
  cases h3 : takeQ [58] z with
  | error e => rw [then_err h3] at hq; cases hq
  | ok p =>
  obtain ⟨u2, w⟩ := p
  rw [then_ok h3] at hq
  cases h4 : typQ w with
  | error e => rw [then_err h4] at hq; cases hq
  | ok p =>
  obtain ⟨t, v⟩ := p
  rw [then_ok h4] at hq
  cases h5 : defQ v with
  | error e => rw [then_err h5] at hq; cases hq
  | ok p =>
  obtain ⟨d', o'⟩ := p
  rw [then_ok h5] at hq
  cases hq
  have e1 := h.take h1
  have e2 := e1.1.name h2
  have e3 := e2.1.take h3
  have e4 := e3.1.typ h4
  have e5 := def_em e4.1 h5
  exact ⟨e5.1, by omega⟩
theorem varsF_mz : ∀ (f : Nat) (acc : List D) (x : PS), En x → x.ts.length ≤ f → Mz (varsF f acc x)
  | 0, _, x, hx, h => by obtain ⟨t, r, ht⟩ := hx.cons; rw [ht] at h; simp at h
  | f + 1, acc, x, hx, h => by
    by_cases hE : acc.length ≠ 0 ∧ isS x [41] = true
    · rw [vl_end hE.1 hE.2]; exact .okk _
    by_cases hL : isS x [36] = true ∧ 16 ≤ acc.length
    · rw [vl_lim hE hL]; exact .err (by decide)
    rw [vl_go hE hL]
    exact .then (var_mz x hx) fun a y hq => varsF_mz f _ y (var_em hx hq).1 (by have := (var_em hx hq).2; omega)
theorem varsF_em : ∀ (f : Nat) (acc : List D) {x y : PS} {l : List D}, En x → varsF f acc x = .ok (l, y) → En y ∧ y.ts.length ≤ x.ts.length
  | 0, _, _, _, _, _, h => by cases h
  | f + 1, acc, x, y, l, hx, hq => by
    by_cases hE : acc.length ≠ 0 ∧ isS x [41] = true
    · rw [vl_end hE.1 hE.2] at hq; cases hq; exact ⟨hx.nx0, nx_len x⟩
    by_cases hL : isS x [36] = true ∧ 16 ≤ acc.length
    · rw [vl_lim hE hL] at hq; cases hq
    rw [vl_go hE hL] at hq
    cases h1 : varQ x with
    | error e => rw [then_err h1] at hq; cases hq
    | ok p =>
      obtain ⟨a, z⟩ := p
      rw [then_ok h1] at hq
      have e1 := var_em hx h1
      have e2 := varsF_em f _ e1.1 hq
      exact ⟨e2.1, by omega⟩
theorem op_mz (k : Int) (x : PS) (h : En x) : Mz (opQ k x) := by
  unfold opQ
  refine .then (.ite (fun _ => .okk _) fun _ => .okk _) fun n y hy => ?_
  have hy' : En y := by
    split at hy
    · cases hy; exact h.nx0
    · cases hy; exact h
  refine .then (.ite (fun hs => varsF_mz _ _ _ hy'.nx0 (nx_len y)) fun _ => .okk _) fun vs z hz => ?_
  have hz' : En z := by
    split at hz
    · exact (varsF_em _ _ hy'.nx0 hz).1
    · cases hz; exact hy'
  exact .then (set_mz z hz') fun _ _ _ => .okk _
theorem frag_mz (x : PS) (h : En x) : Mz (fragQ x) := by
  unfold fragQ
  refine .ite (fun _ => .err (by decide)) fun _ => .then (name_mz x) fun n y hy => .ite (fun _ => .then (name_mz _) fun on z hz => .then (set_mz z ?_) fun _ _ _ => .okk _) fun _ => .err (by decide)
  exact ((h.name hy).1.nx0.name hz).1
theorem docF_mz : ∀ (f n : Nat) (ops frs : List D) (x : PS), En x → x.ts.length < f → Mz (docF f n ops frs x)
  | 0, _, _, _, _, _, h => by omega
  | f + 1, n, ops, frs, x, hx, h => by
    unfold docF
    refine .ite (fun _ => .okk _) fun _ => ?_
    dsimp only
    refine .ite (fun _ => .err (by decide)) fun _ => .ite (fun _ => .err (by decide)) fun _ => .ite (fun _ => ?_) fun _ => .ite (fun _ => ?_) fun _ => ?_
    · exact .then (set_mz x hx) fun ss y hq => docF_mz f _ _ _ y (hx.sels hq).1 (by have := (hx.sels hq).2; omega)
    · exact .then (op_mz _ _ hx.nx0) fun o y hq => docF_mz f _ _ _ y (hx.nx0.op hq).1 (by have := (hx.nx0.op hq).2; have := nx_len x; omega)
    · exact .then (frag_mz _ hx.nx0) fun o y hq => docF_mz f _ _ _ y (hx.nx0.frag hq).1 (by have := (hx.nx0.frag hq).2; have := nx_len x; omega)
theorem doc_mz {ts : List Tok} (h : En ⟨ts, true, 0⟩) : Mz (docQ ts) := docF_mz _ _ _ _ _ h (Nat.lt_succ_self _)
end
end Go.Proofs.YthjiclhfhjdjpaaGreatDoor
namespace Go.Proofs.YthjiclhfhjdjpaaGreatDoor
open Go.RowKit
set_option linter.unusedSectionVars false
attribute [local irreducible] wpList Calls Code.wp AW AWo OpOk seqK blockK scopeK loopK endK AC absLex Yld Sub
attribute [local irreducible] ACB ACX ACE absLexG YldG
set_option maxHeartbeats 8000000 in
set_option maxRecDepth 100000 in
theorem scanF_cnt : ∀ (f : Nat) (l : List UInt8) (i : Nat) (ts : List Tok), scanF f l i = .ok ts → ts.length ≤ l.length + 1
  | 0, _, _, _, h => by cases h
  | f + 1, l, i, ts, h => by
    unfold scanF at h
    split at h
    · cases h
      simp
    · rename_i c r hl
      have hlen : (c :: r).length = l.length - skipM false l := by rw [← hl, List.length_drop]
      have hsk := skipM_le false l
      split at h
      · cases h
      · rename_i t n ht
        have hn := readT_le ht
        split at h
        · cases h
        · rename_i ts' hts
          cases h
          have := scanF_cnt f _ _ _ hts
          rw [List.length_drop] at this
          simp only [List.length_cons] at *
          omega
set_option maxHeartbeats 8000000 in
set_option maxRecDepth 100000 in
theorem scan_cnt {l : List UInt8} {ts : List Tok} (h : scanT l = .ok ts) : ts.length ≤ 65537 := by
  unfold scanT at h
  split at h
  · cases h
  · have := scanF_cnt _ _ _ _ h
    omega
noncomputable def parseW : Except (Nat × Int) D → V
  | .ok q => .tup [.agg [.sl 57 (q.f 0).l, .sl 116 (q.f 1).l], .c (.int .i64 0), .c (.int .i64 0)]
  | .error x => .tup [.agg zQ, .c (.int .i64 (x.1 : Int)), .c (.int .i64 x.2)]
set_option maxHeartbeats 8000000 in
set_option maxRecDepth 100000 in
theorem i64_wf {n : Int} (h : -9000000000 ≤ n ∧ n ≤ 9000000000) : (Lit.int .i64 n).wf = true := by
  rw [wf_int]
  simp [IntKind.min, IntKind.max, IntKind.signed, IntKind.bits]; omega
set_option maxHeartbeats 8000000 in
set_option maxRecDepth 100000 in
theorem parse_ac (s : List UInt8) (hs : s.length ≤ 4000000000) : AC EN5 Tryz.prog 23 [.c (.string (bs s))] (parseW (parseT s)) := by
  have hsc := scan_ac s hs
  unfold parseT
  cases h : scanT s with
  | error x =>
    rw [h] at hsc
    exact parse_bad s x.1 x.2 (scan_err (i := x.1) h) hsc
  | ok ts =>
    rw [h] at hsc
    have hen := scan_en h
    have hd := doc_ace ⟨ts, true, 0⟩ hen.1 (by have := scan_cnt h; show ts.length ≤ 100000; omega)
    have hd : ACE EN5 Tryz.prog 53 [.bx (pn 0) 0] [boxP ⟨ts, true, 0⟩] (outQ (fun p => VP p) (docQ ts)) := hd
    dsimp only
    cases hq : docQ ts with
    | error x =>
      rw [hq] at hd
      have h1 := doc_mz hen.1 x.1 x.2 hq
      have h2 := doc_err hen.2 (i := x.1) (e := x.2) hq
      have hl : s.length ≤ 65536 := by
        unfold scanT at h
        split at h
        · cases h
        · omega
      exact parse_pan s ts hsc x ⟨i64_wf (by omega), i64_wf (by omega)⟩ hd
    | ok r =>
      obtain ⟨⟨ops, frs⟩, x'⟩ := r
      rw [hq] at hd
      exact parse_good s ts hsc ops frs x' hd
end Go.Proofs.YthjiclhfhjdjpaaGreatDoor
