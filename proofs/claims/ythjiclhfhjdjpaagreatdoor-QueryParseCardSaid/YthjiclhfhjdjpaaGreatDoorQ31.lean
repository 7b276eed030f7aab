import Derived.Defers
import Derived.Recover
import Derived.WideLaws
import Derived.Test.YthjiclhfhjdjpaaGreatDoorRows
import Derived.Test.YthjiclhfhjdjpaaGreatDoorQ30
set_option maxHeartbeats 8000000
set_option maxRecDepth 100000
set_option linter.unusedVariables false
set_option linter.unusedSimpArgs false
namespace Go.Proofs.YthjiclhfhjdjpaaGreatDoor
open Go.RowKit
attribute [local irreducible] wpList Calls Code.wp
section
variable {X : Cx} {nn : Nat} {st : Vst nn} {s : Sg} {w : World} {a : Act}
def Sg.hand (s : Sg) (ns : List Nat) : Sg:={ F:=s.F,bx:=fun n => (φout ns n).bind s.bx,tb:=fun n => (φout ns n).bind s.tb,tk:=fun n => match φout ns n with | some m => s.tk m | none => (.tuple #[],0) }
theorem zCL (s : Sg) (ns : List Nat) {i q : Nat} (hq : ns[i]? = some q) : (s.hand ns).bx (pn i) = s.bx q /\ (s.hand ns).tb (pn i) = s.tb q /\ (s.hand ns).tk (pn i) = s.tk q:=by
 have e : φout ns (pn i) = some q:=(φout_pn ns i).trans hq
 refine ⟨?_,?_,?_⟩
 . show (φout ns (pn i)).bind s.bx = _; rw [e]; rfl
 . show (φout ns (pn i)).bind s.tb = _; rw [e]; rfl
 . show (match φout ns (pn i) with | some m => s.tk m | none => (.tuple #[],0)) = _; rw [e]
theorem Inv.handed (hI : Inv X st s w a) (ns : List Nat) (hnd : ns.Nodup) {ρs : List Res} (hρ : ns.map st.rs = ρs.map some) (pk : Value -> (Nat -> V) -> (Nat -> Option Res) -> Prop) (ds : List Deferred) {a' : Act} (ht : a'.tmps = a.tmps) (hd : a'.defers = ds) :
 Inv (nn:=nn) ⟨X.P,X.pas,{ s.hand ns with F:=X.s0.F },X.w0,X.e,X.he,X.hp,pk,ds⟩ ⟨fun i => renV (φin ns) (st.tm i),rsOf (ρs.map (renR (φin ns)))⟩ (s.hand ns) w a':=by
 have hφ1 : ∀ n m,φin ns n = some m -> (s.hand ns).bx m = s.bx n /\ (s.hand ns).tk m = s.tk n:=fun n m hm => by
  obtain ⟨i,hi,rfl⟩:=Option.map_eq_some_iff.1 hm
  exact ⟨(zCL s ns (zBV hi)).1,(zCL s ns (zBV hi)).2.2⟩
 have hbs : ∀ (i : Nat) (ρ : Res),(ρs.map (renR (φin ns)))[i]? = some ρ -> ∃ q ρ0,ns[i]? = some q /\ st.rs q = some ρ0 /\ ρ = renR (φin ns) ρ0:=fun i ρ hi => by
  rw [List.getElem?_map] at hi
  obtain ⟨ρ0,h1,rfl⟩:=Option.map_eq_some_iff.1 hi
  have h3 : (ns.map st.rs)[i]? = (ρs.map some)[i]?:=by rw [hρ]
  rw [List.getElem?_map,List.getElem?_map,h1] at h3
  obtain ⟨q,hq,h4⟩:=Option.map_eq_some_iff.1 h3
  exact ⟨q,ρ0,hq,h4,rfl⟩
 refine ⟨by rw [ht]; exact hI.sz,fun i hi => ?_,hd,hI.fr,hI.kp,hI.nf,⟨hI.mem.fx,fun n ρ hn => ?_,fun n ρ b hn hbk => ?_,fun n m ρ ρ' b hn hm hnb hmb => ?_⟩,fun i => ⟨rfl,.inl rfl⟩⟩
 . rw [ht]
   exact rel.ren (s:=s) (s2:=s.hand ns) rfl hφ1 _ _ (hI.tm i hi)
 . obtain ⟨i,rfl,hi⟩:=zAF hn
   obtain ⟨q,ρ0,hq,h3,rfl⟩:=hbs i ρ hi
   have hh:=zCL s ns hq
   exact Holds.ren (s:=s) (s2:=s.hand ns) rfl hφ1 hh.1 hh.2.1 hh.2.2 (hI.mem.ho q ρ0 h3)
 . obtain ⟨i,rfl,hi⟩:=zAF hn
   obtain ⟨q,ρ0,hq,h3,rfl⟩:=hbs i ρ hi
   have hh:=zCL s ns hq
   exact hI.mem.bs q ρ0 b h3 ((bk_ren hh.1 hh.2.1).1 hbk)
 . obtain ⟨i,rfl,hi⟩:=zAF hn
   obtain ⟨j,rfl,hj⟩:=zAF hm
   obtain ⟨q,ρ0,hq,h3,rfl⟩:=hbs i ρ hi
   obtain ⟨q',ρ1,hq',h3',rfl⟩:=hbs j ρ' hj
   have hh:=zCL s ns hq
   have hh':=zCL s ns hq'
   have e:=hI.mem.dj q q' _ _ b h3 h3' ((bk_ren hh.1 hh.2.1).1 hnb) ((bk_ren hh'.1 hh'.2.1).1 hmb)
   subst e
   have:=(zEk hnd hq).symm.trans (zEk hnd hq')
   cases this; rfl
theorem Inv.frame (hI : Inv X st s w a) {n2 : Nat} (tm : Nat -> V) (pk : Value -> (Nat -> V) -> (Nat -> Option Res) -> Prop) (ds : List Deferred) {a' : Act} (hz : a'.tmps.size = n2) (hd : a'.defers = ds) (ht : ∀ i,i < n2 -> rel X.P s w (tm i) (a'.tmps.getD i undef)) :
 Inv (nn:=n2) { X with pk:=pk,dfs:=ds } ⟨tm,st.rs⟩ s w a':=
 ⟨hz,ht,hd,hI.fr,hI.kp,hI.nf,hI.mem,hI.pe⟩
theorem Inv.named (hI : Inv X st s w a) (i : Nat) : s.bx (pn i) = X.s0.bx (pn i):=(hI.pe i).1
variable {o : Oper} {K : Vst nn -> Prop}
theorem opOk_isNil {t yt : TypeId} {x : Operand} (ho : o.op = .binOp .neq t x (.const .nilIface) yt) (hx : ev st x = .c .nilIface) (ht : X.P.underlying t = some (.interface (X.P.methodsAt t))) (hK : K (st.put o.dst (.c (.bool false)))) : OpOk X o st K:=by
 intro s w a hI N Q hP hN
 have h1:=hI.ev x
 rw [hx,rel] at h1
 unfold Oper.wp
 have hrun : (execOp a.eval o).run X.P w = .ok (.value (.bool false)) w:=by
  simp only [execOp,ho,h1.1]
  show (do let u <- (do eqGuard .neq t x (.const .nilIface) .nilIface .nilIface; binOp .neq t .nilIface .nilIface : Sem Value); pure (.value u) : Sem Next).run X.P w = _
  rw [eqGuard_nil_constR]
  simp only [Sem.run_bind,Sem.run_pure,Result.andThen_ok,run_neq_nil_nil w t ht]
 rw [hrun,Oper.upon_value]
 exact hN _ _ _ _ (hI.put o.dst (by rw [rel]; exact ⟨rfl,trivial⟩)) hK
theorem zHy {t yt u : TypeId} {x : Operand} {y : Value} (ho : o.op = .binOp .neq t x (.const .nilIface) yt) (hx : ev st x = .c (.iface u y)) (ht : X.P.underlying t = some (.interface (X.P.methodsAt t))) (hK : K (st.put o.dst (.c (.bool true)))) : OpOk X o st K:=by
 intro s w a hI N Q hP hN
 have h1:=hI.ev x
 rw [hx,rel] at h1
 unfold Oper.wp
 have hrun : (execOp a.eval o).run X.P w = .ok (.value (.bool true)) w:=by
  simp only [execOp,ho,h1.1]
  show (do let v <- (do eqGuard .neq t x (.const .nilIface) (.iface u y) .nilIface; binOp .neq t (.iface u y) .nilIface : Sem Value); pure (.value v) : Sem Next).run X.P w = _
  have e : eqGuard .neq t x (.const .nilIface) (.iface u y) .nilIface = pure ():=rfl
  rw [e]
  simp only [Sem.run_bind,Sem.run_pure,Result.andThen_ok,run_neq_held_nil w t u y ht]
 rw [hrun,Oper.upon_value]
 exact hN _ _ _ _ (hI.put o.dst (by rw [rel]; exact ⟨rfl,trivial⟩)) hK
theorem zHz {t xt : TypeId} {x : Operand} {cs : Array Value} {fs : Array Field} (ho : o.op = .typeAssert x xt t false) (hx : ev st x = .c (.iface t (.agg cs))) (hok : cs.toList.all okB = true) (hu : X.P.underlying t = some (.struct fs)) (hK : K (st.put o.dst (.agg (cs.toList.map .c)))) : OpOk X o st K:=by
 intro s w a hI N Q hP hN
 have h1:=hI.ev x
 rw [hx,rel] at h1
 unfold Oper.wp
 have hrun : (execOp a.eval o).run X.P w = .ok (.value (.agg cs)) w:=by
  simp only [execOp,ho,h1.1]
  simp [Instr.typeAssert,run_underlying hu]
 rw [hrun,Oper.upon_value]
 refine hN _ _ _ _ (hI.put o.dst ?_) hK
 rw [rel]
 refine ⟨cs,rfl,?_⟩
 clear hK hN
 generalize cs.toList = l at *
 induction l with
 | nil => simp [relL]
 | cons y l ih =>
   rw [List.all_cons,Bool.and_eq_true] at hok
   rw [List.map_cons,relL]
   exact ⟨by rw [rel]; exact ⟨rfl,zI1 hok.1⟩,ih hok.2⟩
end
section
variable {X : Cx} {nn : Nat} {st : Vst nn} {o : Oper} {ops : Array Oper} {l : List Oper} {KK : Vst nn -> Prop} {d : Option Tmp}
theorem s_isNil {t yt : TypeId} {x : Operand} (hg : o.guard = none) (ho : o.op = .binOp .neq t x (.const .nilIface) yt) (hd : o.dst = d) (hx : ev st x = .c .nilIface) (ht : X.P.underlying t = some (.interface (X.P.methodsAt t))) (hK : AWo X ops l (st.put d (.c (.bool false))) KK) : AWo X ops (o :: l) st KK:=
 zAC hg (opOk_isNil ho hx ht (by rw [hd]; exact hK))
theorem s_notNil {t yt u : TypeId} {x : Operand} {y : Value} (hg : o.guard = none) (ho : o.op = .binOp .neq t x (.const .nilIface) yt) (hd : o.dst = d) (hx : ev st x = .c (.iface u y)) (ht : X.P.underlying t = some (.interface (X.P.methodsAt t))) (hK : AWo X ops l (st.put d (.c (.bool true))) KK) : AWo X ops (o :: l) st KK:=
 zAC hg (zHy ho hx ht (by rw [hd]; exact hK))
theorem s_assert {t xt : TypeId} {x : Operand} {cs : Array Value} {fs : Array Field} (hg : o.guard = none) (ho : o.op = .typeAssert x xt t false) (hd : o.dst = d) (hx : ev st x = .c (.iface t (.agg cs))) (hok : cs.toList.all okB = true) (hu : X.P.underlying t = some (.struct fs)) (hK : AWo X ops l (st.put d (.agg (cs.toList.map .c))) KK) : AWo X ops (o :: l) st KK:=
 zAC hg (zHz ho hx hok hu (by rw [hd]; exact hK))
end
section
variable {X : Cx} {nn : Nat} {st : Vst nn}
theorem zHn {st' : Vst nn} {s : Sg} {w : World} {a : Act} (h : Sub X st st') (hI : Inv X st s w a) : ∃ s',Inv X st' s' w a:=h s w a hI
theorem zJm {c : Code} {K : Exit -> Vst nn -> Prop} {s : Sg} {w : World} {a : Act} (h : AW X c st K) (hI : Inv X st s w a) : c.wp X.P (fun e a' w' => ∃ (st' : Vst nn) (s' : Sg),Inv X st' s' w' a' /\ (K e st' \/ PX X e st')) a w:=h s w a hI
def AWQ (X : Cx) (c : Code) (st : Vst nn) (Q : Exit -> Act -> World -> Prop) : Prop:=∀ s w a,Inv X st s w a -> c.wp X.P Q a w
def qK (X : Cx) (y : Code) (Q : Exit -> Act -> World -> Prop) : Exit -> Vst nn -> Prop
 | .normal,st => AWQ X y st Q
 | e,st => ∀ s w a,Inv X st s w a -> Q e a w
theorem k_q {y : Code} {Q : Exit -> Act -> World -> Prop} (h : AWQ X y st Q) : qK X y Q .normal st:=h
theorem k_qr {y : Code} {Q : Exit -> Act -> World -> Prop} (h : ∀ s w a,Inv X st s w a -> Q .ret a w) : qK X y Q .ret st:=h
theorem zIM {c : Code} {Q : Exit -> Act -> World -> Prop} {s : Sg} {w : World} {a : Act} (h : AWQ X c st Q) (hI : Inv X st s w a) : c.wp X.P Q a w:=h s w a hI
theorem awq_by {c : Code} {Q : Exit -> Act -> World -> Prop} (h : ∀ s w a,Inv X st s w a -> c.wp X.P Q a w) : AWQ X c st Q:=h
theorem zCR {x y : Code} {Q : Exit -> Act -> World -> Prop} (hP : PQ X nn Q) (h : AW X x st (qK X y Q)) : AWQ X (.seq x y) st Q:=fun s w a hI =>
 wp_seq (Code.wp_mono (fun e a' w' ⟨st',s',hI',hK⟩ => by
  rcases hK with hK | ⟨pv,rfl,hp⟩
  . cases e
    case normal => exact hK s' w' a' hI'
    all_goals exact hK s' w' a' hI'
  . exact hP pv st' s' w' a' hI' hp) (h s w a hI))
theorem awq_sub {c : Code} {st' : Vst nn} {Q : Exit -> Act -> World -> Prop} (hs : Sub X st st') (h : AWQ X c st' Q) : AWQ X c st Q:=fun s w a hI => by
 obtain ⟨s',hI'⟩:=hs s w a hI
 exact h s' w a hI'
theorem zEi {e : Ge} {P : Program} {fn : Func} {args : List V} {s : Sg} {w : World} {us : Array Value} (he : e.E w) (hnn : args.length + (fn.ntmps - args.length) = nn) (hus : relL P s w args us.toList) (hfx : ∀ b o,s.F b o -> (w.cell? ⟨b,o,none⟩).isSome) :
 Inv (cx e P s w he) (st0 nn args) s w { tmps:=us ++ Array.replicate (fn.ntmps - us.size) undef,defers:=[] }:=by
 have hlen:=hus.length
 have hl2 : us.toList.length = us.size:=by simp
 refine ⟨by simp; omega,fun i hi => ?_,rfl,Frm.refl _ _,Keeps.refl,fun _ _ _ _ h => h,⟨hfx,fun n ρ h => by simp [st0] at h,fun n ρ b h => by simp [st0] at h,fun n m ρ ρ' b h => by simp [st0] at h⟩,PE.refl _⟩
 show rel P s w (args.getD i .any) _
 by_cases hi2 : i < args.length
 . have h1 : args[i]? = some args[i]:=List.getElem?_eq_getElem hi2
   have hi3 : i < us.size:=by omega
   have h2 : us.toList[i]? = some us[i]:=by rw [Array.getElem?_toList]; exact Array.getElem?_eq_getElem hi3
   rw [List.getD_eq_getElem?_getD,h1]
   have : (us ++ Array.replicate (fn.ntmps - us.size) undef).getD i undef = us[i]:=by
    rw [Array.getD_eq_getD_getElem?,Array.getElem?_append_left hi3,Array.getElem?_eq_getElem hi3]; rfl
   rw [this]
   exact hus.get i _ _ h1 h2
 . rw [List.getD_eq_getElem?_getD,List.getElem?_eq_none (by omega)]
   simp [rel]
def acR (P : Program) (s : Sg) (w : World) (r : V) : Ending -> World -> Prop:=fun en w' => ∃ v F',en = .returned v /\ Frm (fun _ => False) w w' /\ Keeps s.F F' w w' /\ (∀ b o,F' b o -> (w'.cell? ⟨b,o,none⟩).isSome) /\ (∀ b o,b < w.heap.size -> F' b o -> s.F b o) /\ rel P { s with F:=F' } w' r v
theorem ac_by {e : Ge} {P : Program} {f : FuncId} {args : List V} {r : V} (h : ∀ (s : Sg) (w : World) (us : Array Value),relL P s w args us.toList -> (∀ b o,s.F b o -> (w.cell? ⟨b,o,none⟩).isSome) -> e.E w -> Calls P f us w (acR P s w r)) : AC e P f args r:=h
theorem ac_fin {P : Program} {s : Sg} {w : World} {fn : Func} {s' : Sg} {w' : World} {a' : Act} {r : V} (hI : Inv X st s' w' a') (hP : X.P = P) (hpas : X.pas = fun _ => False) (hF : X.s0.F = s.F) (hw : X.w0 = w) (hv : retV P st fn.results.toList r) (hr : r.pure = true) :
 ∃ v,(results fn a'.tmps).run P w' = .ok v w' /\ acR P s w r (.returned v) w':=by
 subst hP
 subst hw
 obtain ⟨u,h1,h2⟩:=zEY hv hI
 have hfr:=hI.fr
 rw [hpas] at hfr
 refine ⟨u,h1,u,s'.F,rfl,hfr,by rw [<- hF]; exact hI.kp,hI.mem.fx,fun b o hb => ?_,rel.only (s:=s') (s':={ s with F:=s'.F }) (P:=X.P) rfl r u hr h2⟩
 rw [<- hF]
 exact hI.nf b o hb (by rw [hpas]; exact fun h => h)
end
end Go.Proofs.YthjiclhfhjdjpaaGreatDoor
namespace Go.Proofs.YthjiclhfhjdjpaaGreatDoor
open Go.RowKit
attribute [local irreducible] wpList Calls Code.wp AW AWo OpOk seqK zAI zAO loopK endK AC zp Yld Sub
attribute [local irreducible] ACB ACX ACE absLexG YldG AWQ qK
def zQ : List V:=[.c (.slice none 0 0),.c (.slice none 0 0)]
def resP (q : List V) (i e : Int) : List (Nat × Res):=[(pn 0,.box 41 q),(pn 1,.box 3 [.c (.int .i64 i)]),(pn 2,.box 49 [.c (.int .i64 e)])]
noncomputable def HR (nn : Nat) (cs : List (Nat × V)) (q : List V) (i e : Int) : Vst nn:=stS nn cs (resP q i e)
noncomputable def HC0 (v : Value) (q : List V) (i e : Int) : Vst 15:=HR 15 [(0,.bx (pn 0) 0),(1,.bx (pn 1) 0),(2,.bx (pn 2) 0),(3,.c v)] q i e
def doneC {nn : Nat} (q : List V) (i e : Int) : Exit -> Vst nn -> Prop
 | .normal,st => rsOk st (resP q i e)
 | .ret,st => rsOk st (resP q i e)
 | _,_ => False
theorem ifT : Tryz.prog.underlying 20 = some (.interface (Tryz.prog.methodsAt 20)):=by kernel_rfl
noncomputable def codeC : Code:=match Tryz.f52.body with
 | some (.seq _ y) => y
 | _ => .skip
section
variable {pas : Nat -> Prop} {s0 : Sg} {w0 : World} {he : EN5.E w0} {hp : ∀ k,k < EN5.G -> ¬ pas k}
theorem close_nil (q : List V) (i e : Int) : AW ⟨Tryz.prog,pas,s0,w0,EN5,he,hp,fun _ _ _ => False,[]⟩ codeC (HC0 .nilIface q i e) (doneC q i e):=by
 unfold codeC
 simp only [Tryz.f52]
 refine zAs ?_
 refine zA ?_
 apply zB6 rfl
 . rfl
 . conv => lhs; whnf; arg 2; whnf
 rotate_left 1
 . trivial
 apply s_isNil rfl rfl rfl
 . conv => lhs; whnf
 . exact ifT
 refine zB ?_
 refine zG ?_
 repeat' (first
|apply aw_1
 conv => whnf
 refine ⟨?_,trivial⟩)
 all_goals exact ⟨rfl,rfl,rfl,trivial⟩
theorem close_pan (i e i' e' : Int) (hok : (Lit.int .i64 i').wf = true /\ (Lit.int .i64 e').wf = true) : AW ⟨Tryz.prog,pas,s0,w0,EN5,he,hp,fun _ _ _ => False,[]⟩ codeC (HC0 (.iface 103 (.agg #[.int .i64 i',.int .i64 e'])) zQ i e) (doneC zQ i' e'):=by
 unfold codeC
 simp only [Tryz.f52]
 refine zAs ?_
 refine zA ?_
 apply zB6 rfl
 . rfl
 . conv => lhs; whnf; arg 2; whnf
 rotate_left 1
 . trivial
 apply s_notNil rfl rfl rfl
 . conv => lhs; whnf
 . exact ifT
 refine zB ?_
 refine zG ?_
 refine zg (b:=true) rfl (fun _ => ?_) fun h => by cases h
 refine zAs ?_
 refine zA ?_
 apply zB6 rfl
 . rfl
 . conv => lhs; whnf; arg 2; whnf
 rotate_left 1
 . trivial
 apply s_assert (fs:=Tryz.prog.fieldsOf 103) rfl rfl rfl
 . conv => lhs; whnf
 . simp [okB,hok]
 . kernel_rfl
 repeat' (first
|apply zHc 8 ([(2,[4]),(4,[4])]) ([(5,[1000000]),(6,[1000001]),(7,[1000002])]) rfl (by kernel_rfl) (by kernel_rfl) (by kernel_rfl)
|apply zGM
|apply zGL rfl
 . conv => lhs; whnf
 . conv => lhs; whnf; arg 2; whnf
|apply zCM rfl rfl rfl
 . conv => lhs; whnf
 . rfl
 . conv => lhs; whnf; arg 1; whnf
 . conv => lhs; whnf; arg 1; whnf
 . exact ⟨by kernel_rfl,by kernel_rfl⟩
 . rfl
|show inO _ _ = true; rfl
|refine zB ?_
|refine zG ?_
|apply s_1
 conv => whnf; arg 1; arg 4; arg 3; whnf
 refine ⟨?_,?_⟩
|apply zI rfl rfl rfl
 . conv => lhs; whnf
 . conv => lhs; whnf; arg 1; whnf
 . conv => lhs; whnf; arg 1; whnf
 . exact ⟨by kernel_rfl,by kernel_rfl⟩
 . rfl
|exact trivial)
 all_goals exact ⟨rfl,rfl,rfl,trivial⟩
end
section
variable {pas : Nat -> Prop} {s0 : Sg} {w0 : World} {he : EN5.E w0} {hp : ∀ k,k < EN5.G -> ¬ pas k} {pk : Value -> (Nat -> V) -> (Nat -> Option Res) -> Prop} {dfs : List Deferred} {st : Vst 24} {s : Sg} {w : World} {a : Act}
def slotsP : List (Nat × V):=[(2,.bx (pn 0) 0),(3,.bx (pn 1) 0),(4,.bx (pn 2) 0)]
theorem zIL {P : Program} {s s' : Sg} {w w' : World} {k : Nat} {u : Value} (h : rel P s w (.bx k 0) u) (hs : s'.bx k = s.bx k) : rel P s' w' (.bx k 0) u:=by
 rw [rel] at h |-; rw [hs]; exact h
theorem rs_HR {nn : Nat} {st : Vst nn} {nn2 : Nat} {cs : List (Nat × V)} {q : List V} {i e : Int} (h : rsOk st (resP q i e)) : ∀ n ρ,(HR nn2 cs q i e).rs n = some ρ -> st.rs n = some ρ:=fun n ρ hn => by
 simp only [HR,stS] at hn
 split at hn
 . rename_i p hp
   have hm:=List.mem_of_find?_eq_some hp
   have he:=List.find?_some hp
   simp at he
   cases hn
   subst he
   exact zFy h p hm
 . cases hn
theorem back_in {pk' : Value -> (Nat -> V) -> (Nat -> Option Res) -> Prop} {dfs' : List Deferred} {n2 : Nat} {st' : Vst n2} {s' : Sg} {w' : World} {a' : Act} {q q' : List V} {i e i' e' : Int}
 (hI : Inv ⟨Tryz.prog,pas,s0,w0,EN5,he,hp,pk,dfs⟩ (HR 24 slotsP q i e) s w a) (hI' : Inv ⟨Tryz.prog,pas,s0,w0,EN5,he,hp,pk',dfs'⟩ st' s' w' a') (hr : rsOk st' (resP q' i' e')) :
 Inv ⟨Tryz.prog,pas,s0,w0,EN5,he,hp,pk,dfs⟩ (HR 24 slotsP q' i' e') s' w' a:=by
 have hk : ∀ k,s'.bx (pn k) = s.bx (pn k):=fun k => (hI'.named k).trans (hI.named k).symm
 refine ⟨hI.sz,fun j hj => ?_,hI.df,hI'.fr,hI'.kp,hI'.nf,hI'.mem.sub (rs_HR hr),hI'.pe⟩
 have ht:=hI.tm j hj
 by_cases h2 : j = 2
 . subst h2; exact zIL (k:=pn 0) ht (hk 0)
 by_cases h3 : j = 3
 . subst h3; exact zIL (k:=pn 1) ht (hk 1)
 by_cases h4 : j = 4
 . subst h4; exact zIL (k:=pn 2) ht (hk 2)
 have e : (HR 24 slotsP q' i' e').tm j = .any:=by
  simp [HR,stS,slotsP,List.find?,beq_eq_false_iff_ne.2 (Ne.symm h2),beq_eq_false_iff_ne.2 (Ne.symm h3),beq_eq_false_iff_ne.2 (Ne.symm h4)]
 rw [e]; simp [rel]
theorem into_c {q : List V} {i e : Int} (hI : Inv ⟨Tryz.prog,pas,s0,w0,EN5,he,hp,pk,dfs⟩ (HR 24 slotsP q i e) s w a) (v : Value) (hv : okV v) {a1 : Act} (hz : a1.tmps.size = 15) (hd : a1.defers = []) (h0 : a1.tmps.getD 0 undef = a.tmps.getD 2 undef) (h1 : a1.tmps.getD 1 undef = a.tmps.getD 3 undef) (h2 : a1.tmps.getD 2 undef = a.tmps.getD 4 undef) (h3 : a1.tmps.getD 3 undef = v) :
 Inv ⟨Tryz.prog,pas,s0,w0,EN5,he,hp,fun _ _ _ => False,[]⟩ (HC0 v q i e) s w a1:=by
 refine ⟨hz,fun j hj => ?_,hd,hI.fr,hI.kp,hI.nf,hI.mem.sub fun n ρ hn => hn,hI.pe⟩
 by_cases j0 : j = 0
 . subst j0; rw [h0]; exact hI.tm 2 (by omega)
 by_cases j1 : j = 1
 . subst j1; rw [h1]; exact hI.tm 3 (by omega)
 by_cases j2 : j = 2
 . subst j2; rw [h2]; exact hI.tm 4 (by omega)
 by_cases j3 : j = 3
 . subst j3; rw [h3]; show rel _ _ _ (.c v) v; rw [rel]; exact ⟨rfl,hv⟩
 have e : (HC0 v q i e).tm j = .any:=by
  simp [HC0,HR,stS,List.find?,beq_eq_false_iff_ne.2 (Ne.symm j0),beq_eq_false_iff_ne.2 (Ne.symm j1),beq_eq_false_iff_ne.2 (Ne.symm j2),beq_eq_false_iff_ne.2 (Ne.symm j3)]
 rw [e]; simp [rel]
theorem call_ret (q : List V) (i e : Int) (hI : Inv ⟨Tryz.prog,pas,s0,w0,EN5,he,hp,pk,dfs⟩ (HR 24 slotsP q i e) s w a) :
 CallsD Tryz.prog 52 #[a.tmps.getD 2 undef,a.tmps.getD 3 undef,a.tmps.getD 4 undef] .returning w fun en u' w' => en = .returned (.tuple #[]) /\ u' = .returning /\ ∃ s',Inv ⟨Tryz.prog,pas,s0,w0,EN5,he,hp,pk,dfs⟩ (HR 24 slotsP q i e) s' w' a:=by
 refine callsD_of_wpS Tryz.func52 rfl fun c₀ cs hu => ?_
 apply wpS_seq
 apply wpS_region
 simp [wpOpsS,go_sem,recoverD,hu,Exit.thenS]
 refine wpS_of_wp (Code.wp_mono (fun en a' w' ⟨st',s',hI',hK⟩ => ?_) (zJm (close_nil (pas:=pas) (s0:=s0) (w0:=w0) (he:=he) (hp:=hp) q i e) (into_c hI .nilIface trivial (by simp) rfl (by simp) (by simp) (by simp) (by simp))))
 have fin : rsOk st' (resP q i e) -> a'.defers = [] /\ ∃ u',c₀ :: cs = { c₀ with mode:=u' } :: cs /\ ∃ v,(results Tryz.f52 a'.tmps).run Tryz.prog w' = .ok v w' /\ (Ending.returned v = .returned (.tuple #[]) /\ u' = .returning /\ ∃ s',Inv ⟨Tryz.prog,pas,s0,w0,EN5,he,hp,pk,dfs⟩ (HR 24 slotsP q i e) s' w' a):=fun hr =>
  ⟨hI'.df,.returning,by cases c₀; simp_all,.tuple #[],by simp [results,Tryz.f52],rfl,rfl,s',back_in hI hI' hr⟩
 rcases hK with hK | ⟨_,_,hK⟩
 . cases en
   case normal => exact fin hK
   case ret => exact fin hK
   all_goals exact hK.elim
 . exact hK.elim
theorem call_pan (i e i' e' : Int) (hok : (Lit.int .i64 i').wf = true /\ (Lit.int .i64 e').wf = true) (hI : Inv ⟨Tryz.prog,pas,s0,w0,EN5,he,hp,pk,dfs⟩ (HR 24 slotsP zQ i e) s w a) :
 CallsD Tryz.prog 52 #[a.tmps.getD 2 undef,a.tmps.getD 3 undef,a.tmps.getD 4 undef] (.panicking [{ v:=.iface 103 (.agg #[.int .i64 i',.int .i64 e']),recovered:=false }]) w fun en u' w' => en = .returned (.tuple #[]) /\ settle u' = .returning /\ ∃ s',Inv ⟨Tryz.prog,pas,s0,w0,EN5,he,hp,pk,dfs⟩ (HR 24 slotsP zQ i' e') s' w' a:=by
 refine callsD_of_wpS Tryz.func52 rfl fun c₀ cs hu => ?_
 apply wpS_seq
 apply wpS_region
 simp [wpOpsS,go_sem,recoverD,hu,Exit.thenS]
 refine wpS_of_wp (Code.wp_mono (fun en a' w' ⟨st',s',hI',hK⟩ => ?_) (zJm (close_pan (pas:=pas) (s0:=s0) (w0:=w0) (he:=he) (hp:=hp) i e i' e' hok) (into_c hI (.iface 103 (.agg #[.int .i64 i',.int .i64 e'])) trivial (by simp) rfl (by simp) (by simp) (by simp) (by simp))))
 have fin : rsOk st' (resP zQ i' e') -> a'.defers = [] /\ ∃ u',{ c₀ with mode:=.panicking [{ v:=.iface 103 (.agg #[.int .i64 i',.int .i64 e']),recovered:=true }] } :: cs = { c₀ with mode:=u' } :: cs /\ ∃ v,(results Tryz.f52 a'.tmps).run Tryz.prog w' = .ok v w' /\ (Ending.returned v = .returned (.tuple #[]) /\ settle u' = .returning /\ ∃ s',Inv ⟨Tryz.prog,pas,s0,w0,EN5,he,hp,pk,dfs⟩ (HR 24 slotsP zQ i' e') s' w' a):=fun hr =>
  ⟨hI'.df,_,rfl,.tuple #[],by simp [results,Tryz.f52],rfl,rfl,s',back_in hI hI' hr⟩
 rcases hK with hK | ⟨_,_,hK⟩
 . cases en
   case normal => exact fin hK
   case ret => exact fin hK
   all_goals exact hK.elim
 . exact hK.elim
end
theorem bx_ren {P : Program} {s s' : Sg} {w : World} {k k' : Nat} {u : Value} (h : rel P s w (.bx k 0) u) (hs : s'.bx k' = s.bx k) : rel P s' w (.bx k' 0) u:=by
 rw [rel] at h |-; rw [hs]; exact h
theorem zDq {P : Program} {s s' : Sg} {w w' : World} {k : Nat} {u u' : Value} (h : rel P s w (.bx k 0) u) (h' : rel P s' w' (.bx k 0) u') (hs : s'.bx k = s.bx k) : u = u':=by
 rw [rel] at h h'
 obtain ⟨b,h1,rfl⟩:=h
 obtain ⟨b',h2,rfl⟩:=h'
 rw [hs,h1] at h2
 cases h2; rfl
def defP (p q r : Value) : Deferred:={ target:=.fn (.func 52) #[p,q,r],args:=#[] }
section
variable {σ : Sg} {w0 : World} {he : EN5.E w0} {s0 : Sg} {hp : ∀ k,k < EN5.G -> ¬ False} {pk : Value -> (Nat -> V) -> (Nat -> Option Res) -> Prop} {s : Sg} {w : World} {a : Act}
structure Ptrs (P : Program) (s0 : Sg) (w : World) (p2 p3 p4 : Value) : Prop where
 p2 : rel P s0 w (.bx (pn 0) 0) p2
 p3 : rel P s0 w (.bx (pn 1) 0) p3
 p4 : rel P s0 w (.bx (pn 2) 0) p4
theorem leave_ret {p2 p3 p4 : Value} {w1 : World} {r : V} (l1 l2 : List D) (i e : Int) (hF : s0.F = σ.F) (hps : Ptrs Tryz.prog s0 w1 p2 p3 p4) (hI : Inv ⟨Tryz.prog,fun _ => False,s0,w0,EN5,he,hp,pk,[defP p2 p3 p4]⟩ (HR 24 slotsP [.sl 57 l1,.sl 116 l2] i e) s w a)
 (hr : r = .tup [.agg [.sl 57 l1,.sl 116 l2],.c (.int .i64 i),.c (.int .i64 e)]) : Leaves Tryz.prog Tryz.f23 a.tmps (acR Tryz.prog σ w0 r) [defP p2 p3 p4] .returning w:=by
 have e2 : p2 = a.tmps.getD 2 undef:=zDq hps.p2 (hI.tm 2 (by omega)) (hI.named 0)
 have e3 : p3 = a.tmps.getD 3 undef:=zDq hps.p3 (hI.tm 3 (by omega)) (hI.named 1)
 have e4 : p4 = a.tmps.getD 4 undef:=zDq hps.p4 (hI.tm 4 (by omega)) (hI.named 2)
 have hc:=call_ret _ i e hI
 rw [<- e2,<- e3,<- e4] at hc
 refine leaves_cons (f:=52) (args:=#[p2,p3,p4]) (by simp) (by simp [go_sem]) (hc.mono ?_)
 rintro en u' w' ⟨rfl,rfl,s',hI'⟩
 exact ac_fin hI' rfl rfl hF rfl ⟨_,_,_,rfl,rfl,rfl,hr⟩ (by rw [hr]; rfl)
theorem leave_pan {p2 p3 p4 : Value} {w1 : World} (i e i' e' : Int) (hok : (Lit.int .i64 i').wf = true /\ (Lit.int .i64 e').wf = true) (hF : s0.F = σ.F) (hps : Ptrs Tryz.prog s0 w1 p2 p3 p4) (hI : Inv ⟨Tryz.prog,fun _ => False,s0,w0,EN5,he,hp,pk,[defP p2 p3 p4]⟩ (HR 24 slotsP zQ i e) s w a) :
 Leaves Tryz.prog Tryz.f23 a.tmps (acR Tryz.prog σ w0 (.tup [.agg zQ,.c (.int .i64 i'),.c (.int .i64 e')])) [defP p2 p3 p4] (.panicking [{ v:=.iface 103 (.agg #[.int .i64 i',.int .i64 e']),recovered:=false }]) w:=by
 have e2 : p2 = a.tmps.getD 2 undef:=zDq hps.p2 (hI.tm 2 (by omega)) (hI.named 0)
 have e3 : p3 = a.tmps.getD 3 undef:=zDq hps.p3 (hI.tm 3 (by omega)) (hI.named 1)
 have e4 : p4 = a.tmps.getD 4 undef:=zDq hps.p4 (hI.tm 4 (by omega)) (hI.named 2)
 have hc:=call_pan i e i' e' hok hI
 rw [<- e2,<- e3,<- e4] at hc
 refine leaves_cons (f:=52) (args:=#[p2,p3,p4]) (by simp) (by simp [go_sem]) (hc.mono ?_)
 rintro en u' w' ⟨rfl,hs,s',hI'⟩
 show Leaves _ _ _ _ [] (settle u') w'
 rw [hs]
 exact ac_fin hI' rfl rfl hF rfl ⟨_,_,_,rfl,rfl,rfl,rfl⟩ rfl
end
noncomputable abbrev VP (p : List D × List D) : V:=.agg (cellsV Tryz.prog 12 41 (queD p.1 p.2))
noncomputable abbrev toksV (ts : List Tok) : V:=.sl 143 (ts.map tokD)
theorem etaPz (ts : List Tok) : [V.sl 143 (ts.map tokD),.c (.bool true),.c (.int .i64 0)] = zi ⟨ts,true,0⟩:=rfl
noncomputable def HP2 (ts : List Tok) : Vst 24:=stS 24 [(2,.bx 2 0),(3,.bx 3 0),(4,.bx 4 0),(5,toksV ts)] [(2,.box 41 zQ),(3,.box 3 [.c (.int .i64 0)]),(4,.box 49 [.c (.int .i64 0)])]
noncomputable def HP3 (ts : List Tok) : Vst 24:=HR 24 [(2,.bx (pn 0) 0),(3,.bx (pn 1) 0),(4,.bx (pn 2) 0),(5,toksV ts)] zQ 0 0
section
variable {σ : Sg} {w0 : World} {he : EN5.E w0}
theorem zHD (s : List UInt8) (i : Nat) (e : Int) (he0 : e ≠ 0) (hsc : AC EN5 Tryz.prog 37 [.c (.string (bs s))] (.tup [.c (.slice none 0 0),.c (.int .i64 (i : Int)),.c (.int .i64 e)])) :
 AC EN5 Tryz.prog 23 [.c (.string (bs s))] (.tup [.agg zQ,.c (.int .i64 (i : Int)),.c (.int .i64 e)]):=by
 refine ac_by fun σ w us hus hfx he => ?_
 refine calls_of_wp_defers Tryz.func23 rfl ?_
 have hI:=zEi (nn:=24) (fn:=Tryz.f23) he rfl hus hfx
 have hP : ∀ Q,PQ (cx EN5 Tryz.prog σ w he) 24 Q:=fun Q _ _ _ _ _ _ h => h.elim
 refine zIM ?_ hI
 clear hI
 refine zCR (hP _) ?_
 repeat' (first
|refine zA ?_
|refine zB ?_
|apply s_1
 conv => whnf; arg 1; arg 4; arg 3; whnf
 refine ⟨?_,?_⟩
|exact trivial)
 refine k_q ?_
 refine zCR (hP _) ?_
 repeat' (first
|refine zA ?_
|refine zB ?_
|apply s_1
 conv => whnf; arg 1; arg 4; arg 3; whnf
 refine ⟨?_,?_⟩
|apply ze rfl
 . conv => lhs; whnf
 . conv => lhs; whnf
 . first | exact hsc
|apply zI rfl rfl rfl
 . conv => lhs; whnf
 . conv => lhs; whnf; arg 1; whnf
 . conv => lhs; whnf; arg 1; whnf
 . exact ⟨by kernel_rfl,by kernel_rfl⟩
 . rfl
|exact trivial)
 refine k_q ?_
 refine zCR (hP _) ?_
 repeat' (first
|apply zHc 6 ([(1,[3]),(2,[4])]) ([(3,[2]),(4,[3]),(5,[4])]) rfl (by kernel_rfl) (by kernel_rfl) (by kernel_rfl)
|apply zGM
|apply zGL rfl
 . conv => lhs; whnf
 . conv => lhs; whnf; arg 2; whnf
|apply zCM rfl rfl rfl
 . conv => lhs; whnf
 . rfl
 . conv => lhs; whnf; arg 1; whnf
 . conv => lhs; whnf; arg 1; whnf
 . exact ⟨by kernel_rfl,by kernel_rfl⟩
 . rfl
|show inO _ _ = true; rfl
|refine zA ?_
|refine zB ?_
|refine zG ?_
|apply aw_1
 conv => whnf
 refine ⟨?_,trivial⟩
|apply s_1
 conv => whnf; arg 1; arg 4; arg 3; whnf
 refine ⟨?_,?_⟩
|refine zg (by conv => lhs; whnf) ?_ ?_ <;> intro hb
|exact trivial)
 . refine k_qr fun s' w' a' hI' => ?_
   show Leaves _ _ _ _ a'.defers .returning w'
   rw [hI'.df]
   exact ac_fin hI' rfl rfl rfl rfl ⟨_,_,_,rfl,rfl,rfl,rfl⟩ rfl
 . exact absurd hb (by simp [he0])
noncomputable def restP : Code:=match Tryz.f23.body with
 | some (.seq _ (.seq _ (.seq _ (.seq _ y)))) => y
 | _ => .skip
def endP (d : List D) (d2 : List D) : Exit -> Vst 24 -> Prop
 | .ret,st => tmOk st slotsP /\ rsOk st (resP [.sl 57 d,.sl 116 d2] 0 0)
 | _,_ => False
def pkP (x : Nat × Int) (pv : Value) (tm : Nat -> V) (rs : Nat -> Option Res) : Prop:=
 pv = probP x /\ tmOk (⟨tm,rs⟩ : Vst 24) slotsP /\ rsOk (⟨tm,rs⟩ : Vst 24) (resP zQ 0 0)
theorem rest_ok {pas : Nat -> Prop} {s0 : Sg} {hp : ∀ k,k < EN5.G -> ¬ pas k} {dfs : List Deferred} (ts : List Tok) (ops frs : List D) (x' : PS)
 (hdoc : ACE EN5 Tryz.prog 53 [.bx (pn 0) 0] [boxP ⟨ts,true,0⟩] (outQ (fun p => VP p) (.ok ((ops,frs),x')))) :
 AW ⟨Tryz.prog,pas,s0,w0,EN5,he,hp,fun _ _ _ => False,dfs⟩ restP (HP3 ts) (endP ops frs):=by
 unfold restP
 simp only [Tryz.f23]
 repeat' (first
|refine zA ?_
|refine zB ?_
|refine zG ?_
|apply aw_1
 conv => whnf
 refine ⟨?_,trivial⟩
|apply s_1
 conv => whnf; arg 1; arg 4; arg 3; whnf
 refine ⟨?_,?_⟩
|apply zAV rfl rfl rfl rfl
 . conv => lhs; whnf; arg 1; whnf
 . rfl
|exact trivial)
 apply s_pr zi zN rfl
 . rfl
 . conv => lhs; whnf
 . rfl
 . conv => lhs; whnf; arg 1; whnf
 . exact etaPz _
 . exact hdoc
 . exact fun _ => rfl
 . intro _ _; simp only [renL,renV,ren_cells]
 . intro ee hq; cases hq
 intro aa xx hq
 cases hq
 repeat' (first
|refine zB ?_
|refine zG ?_
|apply aw_1
 conv => whnf
 refine ⟨?_,trivial⟩
|apply zI rfl rfl rfl
 . conv => lhs; whnf
 . conv => lhs; whnf; arg 1; whnf
 . conv => lhs; whnf; arg 1; whnf
 . exact ⟨by kernel_rfl,by kernel_rfl⟩
 . rfl)
 exact ⟨⟨rfl,rfl,rfl,trivial⟩,rfl,rfl,rfl,trivial⟩
theorem rest_pan {pas : Nat -> Prop} {s0 : Sg} {hp : ∀ k,k < EN5.G -> ¬ pas k} {dfs : List Deferred} (ts : List Tok) (x : Nat × Int)
 (hdoc : ACE EN5 Tryz.prog 53 [.bx (pn 0) 0] [boxP ⟨ts,true,0⟩] (outQ (fun p => VP p) (.error x))) :
 AW ⟨Tryz.prog,pas,s0,w0,EN5,he,hp,pkP x,dfs⟩ restP (HP3 ts) (fun _ _ => False):=by
 unfold restP
 simp only [Tryz.f23]
 repeat' (first
|refine zA ?_
|refine zB ?_
|refine zG ?_
|apply aw_1
 conv => whnf
 refine ⟨?_,trivial⟩
|apply s_1
 conv => whnf; arg 1; arg 4; arg 3; whnf
 refine ⟨?_,?_⟩
|apply zAV rfl rfl rfl rfl
 . conv => lhs; whnf; arg 1; whnf
 . rfl
|exact trivial)
 apply s_pr zi zN rfl
 . rfl
 . conv => lhs; whnf
 . rfl
 . conv => lhs; whnf; arg 1; whnf
 . exact etaPz _
 . exact hdoc
 . exact fun _ => rfl
 . intro _ _; simp only [renL,renV,ren_cells]
 . intro ee hq
   cases hq
   exact ⟨rfl,⟨rfl,rfl,rfl,trivial⟩,rfl,rfl,rfl,trivial⟩
 intro aa xx hq
 cases hq
noncomputable def code4 : Code:=match Tryz.f23.body with
 | some (.seq _ (.seq _ (.seq _ y))) => y
 | _ => .skip
theorem zFY {ts : List Tok} {Q : Exit -> Act -> World -> Prop} {s : Sg} {w : World} {a : Act} (hI : Inv (cx EN5 Tryz.prog σ w0 he) (HP2 ts) s w a)
 (h : ∀ (s0 : Sg) (p2 p3 p4 : Value) (a' : Act),s0.F = σ.F -> Ptrs Tryz.prog s0 w p2 p3 p4 -> (∀ pk,∃ s',Inv ⟨Tryz.prog,fun _ => False,s0,w0,EN5,he,fun _ _ h => h,pk,[defP p2 p3 p4]⟩ (HP3 ts) s' w a') -> restP.wp Tryz.prog Q a' w) : code4.wp Tryz.prog Q a w:=by
 unfold code4
 simp only [Tryz.f23]
 unfold restP at h
 simp only [Tryz.f23] at h
 refine wp_seq (wp_region_lit ?_)
 refine wpList_plain rfl fun K' hK' => ?_
 unfold Oper.wp
 have hrun : ∀ (ty : TypeId) (po : String),(execOp a.eval { dst:=some 18,op:=Op.makeFunc (Fn.func 52) #[] #[Operand.tmp 2,Operand.tmp 3,Operand.tmp 4],type:=ty,pos:=po,after:=#[],guard:=none }).run Tryz.prog w = .ok (.value (.func (.func 52) #[] #[a.tmps.getD 2 undef,a.tmps.getD 3 undef,a.tmps.getD 4 undef])) w:=fun ty po => by simp [execOp,Instr.makeFunc,Act.eval]
 rw [hrun]
 rw [Oper.upon_value]
 refine hK' _ _ ?_
 refine wpList_plain rfl fun K2 hK2 => ?_
 unfold Oper.wp
 have hz : 18 < a.tmps.size:=by rw [hI.sz]; omega
 have hev : (a.put (some 18) (.func (.func 52) #[] #[a.tmps.getD 2 undef,a.tmps.getD 3 undef,a.tmps.getD 4 undef])).eval (.tmp 18) = .func (.func 52) #[] #[a.tmps.getD 2 undef,a.tmps.getD 3 undef,a.tmps.getD 4 undef]:=by
  simp [Act.put,Act.eval,hz]
 simp only [execOp,resolve,hev,Deferred.ofValue,List.map_toArray,List.map_nil,Sem.run_bind,Sem.run_pure,Result.andThen_ok]
 rw [Oper.upon_defer]
 refine hK2 _ _ (wpList_nil ?_)
 have h18:=hI.put (some 18) (v:=.any) (u:=.func (.func 52) #[] #[a.tmps.getD 2 undef,a.tmps.getD 3 undef,a.tmps.getD 4 undef]) (by simp [rel])
 have hd : a.defers = []:=hI.df
 refine h { s.hand [2,3,4] with F:=σ.F } (a.tmps.getD 2 undef) (a.tmps.getD 3 undef) (a.tmps.getD 4 undef) _ rfl ⟨?_,?_,?_⟩ (fun pk => ?_)
 . exact bx_ren (k:=2) (hI.tm 2 (by omega)) (zCL s [2,3,4] (i:=0) rfl).1
 . exact bx_ren (k:=3) (hI.tm 3 (by omega)) (zCL s [2,3,4] (i:=1) rfl).1
 . exact bx_ren (k:=4) (hI.tm 4 (by omega)) (zCL s [2,3,4] (i:=2) rfl).1
 . refine zHn (Sub.live (cs:=[(2,.bx (pn 0) 0),(3,.bx (pn 1) 0),(4,.bx (pn 2) 0),(5,toksV ts)]) (R:=resP zQ 0 0) ?_ ?_) (Inv.handed h18 [2,3,4] (by decide) (ρs:=[.box 41 zQ,.box 3 [.c (.int .i64 0)],.box 49 [.c (.int .i64 0)]]) rfl pk [defP (a.tmps.getD 2 undef) (a.tmps.getD 3 undef) (a.tmps.getD 4 undef)] rfl ?_)
   . exact ⟨rfl,rfl,rfl,rfl,trivial⟩
   . exact ⟨rfl,rfl,rfl,trivial⟩
   . show defP _ _ _ :: a.defers = _
     rw [hd]
theorem parse_good (s : List UInt8) (ts : List Tok) (hsc : AC EN5 Tryz.prog 37 [.c (.string (bs s))] (.tup [toksV ts,.c (.int .i64 0),.c (.int .i64 0)])) (ops frs : List D) (x' : PS)
 (hdoc : ACE EN5 Tryz.prog 53 [.bx (pn 0) 0] [boxP ⟨ts,true,0⟩] (outQ (fun p => VP p) (.ok ((ops,frs),x')))) :
 AC EN5 Tryz.prog 23 [.c (.string (bs s))] (.tup [.agg [.sl 57 ops,.sl 116 frs],.c (.int .i64 0),.c (.int .i64 0)]):=by
 refine ac_by fun σ w us hus hfx he => ?_
 refine calls_of_wp_defers Tryz.func23 rfl ?_
 have hI:=zEi (nn:=24) (fn:=Tryz.f23) he rfl hus hfx
 have hP : ∀ Q,PQ (cx EN5 Tryz.prog σ w he) 24 Q:=fun Q _ _ _ _ _ _ h => h.elim
 refine zIM ?_ hI
 clear hI
 refine zCR (hP _) ?_
 repeat' (first
|refine zA ?_
|refine zB ?_
|apply s_1
 conv => whnf; arg 1; arg 4; arg 3; whnf
 refine ⟨?_,?_⟩
|exact trivial)
 refine k_q ?_
 refine zCR (hP _) ?_
 repeat' (first
|refine zA ?_
|refine zB ?_
|apply s_1
 conv => whnf; arg 1; arg 4; arg 3; whnf
 refine ⟨?_,?_⟩
|apply ze rfl
 . conv => lhs; whnf
 . conv => lhs; whnf
 . first | exact hsc
|apply zI rfl rfl rfl
 . conv => lhs; whnf
 . conv => lhs; whnf; arg 1; whnf
 . conv => lhs; whnf; arg 1; whnf
 . exact ⟨by kernel_rfl,by kernel_rfl⟩
 . rfl
|exact trivial)
 refine k_q ?_
 refine zCR (hP _) ?_
 repeat' (first
|refine zA ?_
|refine zB ?_
|refine zG ?_
|apply aw_1
 conv => whnf
 refine ⟨?_,trivial⟩
|apply s_1
 conv => whnf; arg 1; arg 4; arg 3; whnf
 refine ⟨?_,?_⟩
|exact trivial)
 refine k_q (awq_sub (st':=HP2 ts) (Sub.live ⟨rfl,rfl,rfl,rfl,trivial⟩ ⟨rfl,rfl,rfl,trivial⟩) (awq_by fun s1 w1 a1 hI1 => ?_))
 refine zFY hI1 fun s0 p2 p3 p4 a' hF hps hpk => ?_
 obtain ⟨s2,hI2⟩:=hpk fun _ _ _ => False
 refine Code.wp_mono (fun en a3 w3 ⟨st3,s3,hI3,hK⟩ => ?_) (zJm (rest_ok ts ops frs x' hdoc) hI2)
 rcases hK with hK | ⟨_,_,hK⟩
 . cases en
   case ret =>
    obtain ⟨s4,hI4⟩:=zHn (Sub.live (cs:=slotsP) (R:=resP [.sl 57 ops,.sl 116 frs] 0 0) hK.1 hK.2) hI3
    show Leaves _ _ _ _ a3.defers .returning w3
    rw [hI3.df]
    exact leave_ret ops frs 0 0 hF hps hI4 rfl
   all_goals exact hK.elim
 . exact hK.elim
theorem parse_pan (s : List UInt8) (ts : List Tok) (hsc : AC EN5 Tryz.prog 37 [.c (.string (bs s))] (.tup [toksV ts,.c (.int .i64 0),.c (.int .i64 0)])) (x : Nat × Int) (hok : (Lit.int .i64 (x.1 : Int)).wf = true /\ (Lit.int .i64 x.2).wf = true)
 (hdoc : ACE EN5 Tryz.prog 53 [.bx (pn 0) 0] [boxP ⟨ts,true,0⟩] (outQ (fun p => VP p) (.error x))) :
 AC EN5 Tryz.prog 23 [.c (.string (bs s))] (.tup [.agg zQ,.c (.int .i64 (x.1 : Int)),.c (.int .i64 x.2)]):=by
 refine ac_by fun σ w us hus hfx he => ?_
 refine calls_of_wp_defers Tryz.func23 rfl ?_
 have hI:=zEi (nn:=24) (fn:=Tryz.f23) he rfl hus hfx
 have hP : ∀ Q,PQ (cx EN5 Tryz.prog σ w he) 24 Q:=fun Q _ _ _ _ _ _ h => h.elim
 refine zIM ?_ hI
 clear hI
 refine zCR (hP _) ?_
 repeat' (first
|refine zA ?_
|refine zB ?_
|apply s_1
 conv => whnf; arg 1; arg 4; arg 3; whnf
 refine ⟨?_,?_⟩
|exact trivial)
 refine k_q ?_
 refine zCR (hP _) ?_
 repeat' (first
|refine zA ?_
|refine zB ?_
|apply s_1
 conv => whnf; arg 1; arg 4; arg 3; whnf
 refine ⟨?_,?_⟩
|apply ze rfl
 . conv => lhs; whnf
 . conv => lhs; whnf
 . first | exact hsc
|apply zI rfl rfl rfl
 . conv => lhs; whnf
 . conv => lhs; whnf; arg 1; whnf
 . conv => lhs; whnf; arg 1; whnf
 . exact ⟨by kernel_rfl,by kernel_rfl⟩
 . rfl
|exact trivial)
 refine k_q ?_
 refine zCR (hP _) ?_
 repeat' (first
|refine zA ?_
|refine zB ?_
|refine zG ?_
|apply aw_1
 conv => whnf
 refine ⟨?_,trivial⟩
|apply s_1
 conv => whnf; arg 1; arg 4; arg 3; whnf
 refine ⟨?_,?_⟩
|exact trivial)
 refine k_q (awq_sub (st':=HP2 ts) (Sub.live ⟨rfl,rfl,rfl,rfl,trivial⟩ ⟨rfl,rfl,rfl,trivial⟩) (awq_by fun s1 w1 a1 hI1 => ?_))
 refine zFY hI1 fun s0 p2 p3 p4 a' hF hps hpk => ?_
 obtain ⟨s2,hI2⟩:=hpk (pkP x)
 refine Code.wp_mono (fun en a3 w3 ⟨st3,s3,hI3,hK⟩ => ?_) (zJm (rest_pan ts x hdoc) hI2)
 rcases hK with hK | ⟨pv,rfl,hK⟩
 . exact hK.elim
 . obtain ⟨rfl,h1,h2⟩:=hK
   obtain ⟨s4,hI4⟩:=zHn (Sub.live (cs:=slotsP) (R:=resP zQ 0 0) h1 h2) hI3
   show Leaves _ _ _ _ a3.defers (.panicking _) w3
   rw [hI3.df]
   exact leave_pan 0 0 x.1 x.2 hok hF hps hI4
end
end Go.Proofs.YthjiclhfhjdjpaaGreatDoor
namespace Go.Proofs.YthjiclhfhjdjpaaGreatDoor
def Nz {α : Type} (r : PR α) : Prop:=∀ i,r ≠ .error (i,0)
section
variable {α β : Type}
theorem Nz.okk (p : α × PS) : Nz (.ok p : PR α):=fun i h => by cases h
theorem Nz.err {i : Nat} {e : Int} (h : e ≠ 0) : Nz (.error (i,e) : PR α):=fun j hj => by cases hj; exact h rfl
theorem Nz.ite {c : Prop} [Decidable c] {a b : PR α} (h1 : c -> Nz a) (h2 : ¬ c -> Nz b) : Nz (if c then a else b):=by
 split
 . exact h1 ‹_›
 . exact h2 ‹_›
theorem Nz.then {r : PR α} {f : α -> PS -> PR β} (h : Nz r) (hf : ∀ a x,r = .ok (a,x) -> Nz (f a x)) : Nz (zX r f):=by
 cases hr : r with
 | error e =>
   rw [then_err (r:=.error e) rfl]
   intro i hi
   cases hi
   exact h i hr
 | ok p =>
   obtain ⟨a,x⟩:=p
   rw [zR (r:=.ok (a,x)) rfl]
   exact hf a x hr
theorem zDG (s : List UInt8) (x : PS) : Nz (takeQ s x):=by
 unfold takeQ
 exact .ite (fun _ => .okk _) fun _ => .err (by decide)
theorem zBm (x : PS) : Nz (nameQ x):=by
 unfold nameQ
 exact .ite (fun _ => .okk _) fun _ => .err (by decide)
theorem zJh : ∀ (n : Nat) (w : List Int) (x : PS),Nz (closeQ n w x)
 | 0,w,x => by unfold closeQ; exact .okk _
 | n + 1,w,x => by unfold closeQ; exact .then (zDG _ _) fun _ y _ => zJh n _ y
theorem inner_nz (x : PS) : Nz (innerQ x):=.then (zBm _) fun _ y _ => .then (zJh _ _ y) fun _ _ _ => .okk _
theorem typ_nz (x : PS) : Nz (typQ x):=.then (inner_nz x) fun _ _ _ => .ite (fun _ => .err (by decide)) fun _ => .okk _
theorem zI9 {v : PS -> PR D} (hv : ∀ y,En y -> Nz (v y)) (hl : ∀ {y z a},En y -> v y = .ok (a,z) -> En z /\ z.ts.length < y.ts.length) : ∀ (f : Nat) (acc : List D) (x : PS),En x -> x.ts.length < f -> Nz (itemsQ v f acc x)
 | 0,_,_,_,h => by omega
 | f + 1,acc,x,hx,h => by
   unfold itemsQ
   exact .ite (fun _ => .okk _) fun _ => .then (hv x hx) fun _ y hq => zI9 hv hl f _ y (hl hx hq).1 (by have:=(hl hx hq).2; omega)
theorem zHT {v : PS -> PR D} (hv : ∀ y,En y -> Nz (v y)) (hl : ∀ {y z a},En y -> v y = .ok (a,z) -> En z /\ z.ts.length < y.ts.length) : ∀ (f : Nat) (ks : List (List UInt8)) (acc : List D) (x : PS),En x -> x.ts.length < f -> Nz (zy v f ks acc x)
 | 0,_,_,_,_,h => by omega
 | f + 1,ks,acc,x,hx,h => by
   unfold zy
   refine .ite (fun _ => .okk _) fun _ => .then (zBm x) fun k y hn => .ite (fun _ => .err (by decide)) fun _ => .then (zDG _ y) fun u z ht => .then (hv z ?_) fun _ w hw => zHT hv hl f _ _ w ?_ ?_
   . exact ((hx.name hn).1.take ht).1
   . exact (hl ((hx.name hn).1.take ht).1 hw).1
   . have h1:=hx.name hn
     have h2:=h1.1.take ht
     have h3:=hl h2.1 hw
     omega
theorem zFj : ∀ (f lv : Nat) (x : PS),En x -> lv <= 25 -> 26 <= f + lv -> Nz (valueQ f lv x)
 | 0,lv,_,_,h1,h2 => by omega
 | f + 1,lv,x,hx,h1,h2 => by
   have hy : En { nxT x with nd:=x.nd + 1 }:=hx.nx0
   unfold valueQ
   refine .ite (fun _ => .err (by decide)) fun _ => .ite (fun _ => .err (by decide)) fun hlv => .ite (fun _ => .err (by decide)) fun _ => ?_
   dsimp only
   refine .ite (fun _ => .okk _) fun _ => .ite (fun _ => .okk _) fun _ => .ite (fun _ => .okk _) fun _ => .ite (fun _ => .then (zBm _) fun _ _ _ => .okk _) fun _ => .ite (fun _ => ?_) fun _ => ?_
   . exact .then (zI9 (fun y hy => zFj f (lv + 1) y hy (by omega) (by omega)) (fun hy hq => hy.valueL hq) _ _ _ hy (Nat.lt_succ_self _)) fun _ _ _ => .okk _
   . exact .then (zHT (fun y hy => zFj f (lv + 1) y hy (by omega) (by omega)) (fun hy hq => hy.valueL hq) _ _ _ _ hy (Nat.lt_succ_self _)) fun _ _ _ => .okk _
theorem zIT (x : PS) (h : En x) : Nz (zAR x):=zFj 25 1 _ h (by omega) (by omega)
theorem zJq : ∀ (f : Nat) (acc : List D) (x : PS),En x -> x.ts.length <= f -> Nz (argsF f acc x)
 | 0,_,x,hx,h => by obtain ⟨t,r,ht⟩:=hx.cons; rw [ht] at h; simp at h
 | f + 1,acc,x,hx,h => by
   unfold argsF
   refine .ite (fun _ => .okk _) fun _ => .ite (fun _ => .err (by decide)) fun _ => .then (zBm x) fun n y hn => .then (zDG _ y) fun u z ht => .then (zIT z ?_) fun _ w hw => zJq f _ w ?_ ?_
   . exact ((hx.name hn).1.take ht).1
   . exact (((hx.name hn).1.take ht).1.whole hw).1
   . have h1:=hx.name hn
     have h2:=h1.1.take ht
     have h3:=h2.1.whole hw
     omega
theorem args_nz (x : PS) (h : En x) : Nz (argsQ x):=.ite (fun hs => zJq _ _ _ h.nx0 (by have:=(h.sg hs).2; omega)) fun _ => .okk _
theorem zJW : ∀ (f : Nat) (acc : List D) (x : PS),En x -> x.ts.length < f -> Nz (dirsF f acc x)
 | 0,_,_,_,h => by omega
 | f + 1,acc,x,hx,h => by
   unfold dirsF
   refine .ite (fun hs => .ite (fun _ => .err (by decide)) fun _ => .then (zBm _) fun n y hn => .then (args_nz y ?_) fun _ z hz => zJW f _ z ?_ ?_) fun _ => .okk _
   . exact (hx.nx0.name hn).1
   . exact ((hx.nx0.name hn).1.args hz).1
   . have h1:=hx.sg hs
     have h2:=h1.1.name hn
     have h3:=h2.1.args hz
     omega
theorem zID (x : PS) (h : En x) : Nz (dirsQ x):=zJW _ _ _ h (Nat.lt_succ_self _)
theorem sel_nz {v : PS -> PR (List D)} (hv : ∀ y,En y -> Nz (v y)) (x : PS) (h : En x) : Nz (selQ v x):=by
 unfold selQ
 refine .ite (fun hs => ?_) fun _ => ?_
 . dsimp only
   refine .ite (fun _ => .then (zID _ h.nx0.nx0) fun _ _ _ => .okk _) fun _ => .then (.ite (fun _ => zBm _) fun _ => .okk _) fun on z hz => ?_
   have hz' : En z:=by
    split at hz
    . exact (h.nx0.nx0.name hz).1
    . cases hz; exact h.nx0
   exact .then (zID z hz') fun _ u hu => .then (hv u (hz'.dirs hu).1) fun _ _ _ => .okk _
 . refine .then (zBm x) fun n y hn => ?_
   have hy:=(h.name hn).1
   refine .then (.ite (fun _ => .then (zBm _) fun _ _ _ => .okk _) fun _ => .okk _) fun an z hz => ?_
   have hz' : En z:=by
    split at hz
    . cases hm : nameQ (nxT y) with
      | error e => rw [then_err hm] at hz; cases hz
      | ok p =>
        obtain ⟨m,z2⟩:=p
        rw [zR hm] at hz
        cases hz
        exact (hy.nx0.name hm).1
    . cases hz; exact hy
   refine .then (args_nz z hz') fun _ u hu => .then (zID u (hz'.args hu).1) fun _ w hw => ?_
   exact .then (.ite (fun _ => hv w ((hz'.args hu).1.dirs hw).1) fun _ => .okk _) fun _ _ _ => .okk _
theorem setF_nz {v : PS -> PR D} (hv : ∀ y,En y -> Nz (v y)) (hl : ∀ {y z a},En y -> v y = .ok (a,z) -> En z /\ z.ts.length < y.ts.length) : ∀ (f : Nat) (acc : List D) (x : PS),En x -> x.ts.length < f -> Nz (setF v f acc x)
 | 0,_,_,_,h => by omega
 | f + 1,acc,x,hx,h => by
   unfold setF
   exact .ite (fun _ => .okk _) fun _ => .ite (fun _ => .err (by decide)) fun _ => .then (hv x hx) fun _ y hq => setF_nz hv hl f _ y (hl hx hq).1 (by have:=(hl hx hq).2; omega)
theorem sels_nz : ∀ (f lv : Nat) (x : PS),En x -> lv <= 25 -> 26 <= f + lv -> Nz (selsQ f lv x)
 | 0,lv,_,_,h1,h2 => by omega
 | f + 1,lv,x,hx,h1,h2 => by
   unfold selsQ
   by_cases hs : isS x [123] = true
   . refine .ite (fun _ => .err (by decide)) fun hlv => .then (zDG _ x) fun u y hy => ?_
     have hlv : ¬ 24 < lv:=fun h => hlv ⟨hs,h⟩
     exact setF_nz (fun y hy => sel_nz (fun y hy => sels_nz f (lv + 1) y hy (by omega) (by omega)) y hy) (fun hy hq => hy.selL hq) _ _ _ (hx.take hy).1 (Nat.lt_succ_self _)
   . refine .ite (fun _ => .err (by decide)) fun _ => .then (zDG _ x) fun u y hy => ?_
     exfalso
     unfold takeQ at hy
     rw [if_neg hs] at hy
     cases hy
theorem set_nz (x : PS) (h : En x) : Nz (setQ x):=sels_nz 25 1 x h (by omega) (by omega)
theorem def_nz (x : PS) (h : En x) : Nz (defQ x):=by
 unfold defQ
 exact .ite (fun _ => .then (zIT _ h.nx0) fun _ _ _ => .okk _) fun _ => .okk _
theorem def_en {x y : PS} {d : Bool × D} (h : En x) (hq : defQ x = .ok (d,y)) : En y /\ y.ts.length <= x.ts.length:=by
 unfold defQ at hq
 split at hq
 . cases hw : zAR { nxT x with vr:=false } with
   | error e => rw [then_err hw] at hq; cases hq
   | ok p =>
     obtain ⟨d',o⟩:=p
     rw [zR hw] at hq
     cases hq
     have h1:=En.whole (x:={ nxT x with vr:=false }) h.nx0 hw
     exact ⟨h1.1,Nat.le_trans h1.2 (nx_len x)⟩
 . cases hq; exact ⟨h,Nat.le_refl _⟩
theorem var_nz (x : PS) (h : En x) : Nz (varQ x):=
 .then (zDG _ x) fun u y h1 => .then (zBm y) fun n z h2 => .then (zDG _ z) fun u2 w h3 => .then (typ_nz w) fun t v h4 =>
  .then (def_nz v ((((h.take h1).1.name h2).1.take h3).1.typ h4).1) fun _ _ _ => .okk _
theorem var_en {x o : PS} {d : D} (h : En x) (hq : varQ x = .ok (d,o)) : En o /\ o.ts.length < x.ts.length:=by
 unfold varQ at hq
 cases h1 : takeQ [36] x with
 | error e => rw [then_err h1] at hq; cases hq
 | ok p =>
 obtain ⟨u,y⟩:=p
 rw [zR h1] at hq
 cases h2 : nameQ y with
 | error e => rw [then_err h2] at hq; cases hq
 | ok p =>
 obtain ⟨n,z⟩:=p
 rw [zR h2] at hq
 cases h3 : takeQ [58] z with
 | error e => rw [then_err h3] at hq; cases hq
 | ok p =>
 obtain ⟨u2,w⟩:=p
 rw [zR h3] at hq
 cases h4 : typQ w with
 | error e => rw [then_err h4] at hq; cases hq
 | ok p =>
 obtain ⟨t,v⟩:=p
 rw [zR h4] at hq
 cases h5 : defQ v with
 | error e => rw [then_err h5] at hq; cases hq
 | ok p =>
 obtain ⟨d',o'⟩:=p
 rw [zR h5] at hq
 cases hq
 have e1:=h.take h1
 have e2:=e1.1.name h2
 have e3:=e2.1.take h3
 have e4:=e3.1.typ h4
 have e5:=def_en e4.1 h5
 exact ⟨e5.1,by omega⟩
theorem zIX : ∀ (f : Nat) (acc : List D) (x : PS),En x -> x.ts.length <= f -> Nz (varsF f acc x)
 | 0,_,x,hx,h => by obtain ⟨t,r,ht⟩:=hx.cons; rw [ht] at h; simp at h
 | f + 1,acc,x,hx,h => by
   by_cases hE : acc.length ≠ 0 /\ isS x [41] = true
   . rw [zGq hE.1 hE.2]; exact .okk _
   by_cases hL : isS x [36] = true /\ 16 <= acc.length
   . rw [zGp hE hL]; exact .err (by decide)
   rw [vl_go hE hL]
   exact .then (var_nz x hx) fun a y hq => zIX f _ y (var_en hx hq).1 (by have:=(var_en hx hq).2; omega)
theorem zIa : ∀ (f : Nat) (acc : List D) {x y : PS} {l : List D},En x -> varsF f acc x = .ok (l,y) -> En y /\ y.ts.length <= x.ts.length
 | 0,_,_,_,_,_,h => by cases h
 | f + 1,acc,x,y,l,hx,hq => by
   by_cases hE : acc.length ≠ 0 /\ isS x [41] = true
   . rw [zGq hE.1 hE.2] at hq; cases hq; exact ⟨hx.nx0,nx_len x⟩
   by_cases hL : isS x [36] = true /\ 16 <= acc.length
   . rw [zGp hE hL] at hq; cases hq
   rw [vl_go hE hL] at hq
   cases h1 : varQ x with
   | error e => rw [then_err h1] at hq; cases hq
   | ok p =>
     obtain ⟨a,z⟩:=p
     rw [zR h1] at hq
     have e1:=var_en hx h1
     have e2:=zIa f _ e1.1 hq
     exact ⟨e2.1,by omega⟩
theorem op_nz (k : Int) (x : PS) (h : En x) : Nz (opQ k x):=by
 unfold opQ
 refine .then (.ite (fun _ => .okk _) fun _ => .okk _) fun n y hy => ?_
 have hy' : En y:=by
  split at hy
  . cases hy; exact h.nx0
  . cases hy; exact h
 refine .then (.ite (fun hs => zIX _ _ _ hy'.nx0 (nx_len y)) fun _ => .okk _) fun vs z hz => ?_
 have hz' : En z:=by
  split at hz
  . exact (zIa _ _ hy'.nx0 hz).1
  . cases hz; exact hy'
 exact .then (set_nz z hz') fun _ _ _ => .okk _
theorem frag_nz (x : PS) (h : En x) : Nz (zA9 x):=by
 unfold zA9
 refine .ite (fun _ => .err (by decide)) fun _ => .then (zBm x) fun n y hy => .ite (fun _ => .then (zBm _) fun on z hz => .then (set_nz z ?_) fun _ _ _ => .okk _) fun _ => .err (by decide)
 exact ((h.name hy).1.nx0.name hz).1
theorem zGY : ∀ (f n : Nat) (ops frs : List D) (x : PS),En x -> x.ts.length < f -> Nz (docF f n ops frs x)
 | 0,_,_,_,_,_,h => by omega
 | f + 1,n,ops,frs,x,hx,h => by
   unfold docF
   refine .ite (fun _ => .okk _) fun _ => ?_
   dsimp only
   refine .ite (fun _ => .err (by decide)) fun _ => .ite (fun _ => .err (by decide)) fun _ => .ite (fun _ => ?_) fun _ => .ite (fun _ => ?_) fun _ => ?_
   . exact .then (set_nz x hx) fun ss y hq => zGY f _ _ _ y (hx.sels hq).1 (by have:=(hx.sels hq).2; omega)
   . exact .then (op_nz _ _ hx.nx0) fun o y hq => zGY f _ _ _ y (hx.nx0.op hq).1 (by have:=(hx.nx0.op hq).2; have:=nx_len x; omega)
   . exact .then (frag_nz _ hx.nx0) fun o y hq => zGY f _ _ _ y (hx.nx0.frag hq).1 (by have:=(hx.nx0.frag hq).2; have:=nx_len x; omega)
theorem doc_nz {ts : List Tok} (h : En ⟨ts,true,0⟩) : Nz (docQ ts):=zGY _ _ _ _ _ h (Nat.lt_succ_self _)
end
theorem zD8 : ∀ (k : Nat) (l t : List UInt8),unqF k l = some t -> t.length <= l.length
 | k,[],t,h => by
   have : unqF k [] = some []:=by cases k <;> rfl
   rw [this] at h; cases h; exact Nat.le_refl _
 | 0,c :: r,t,h => by cases h
 | k + 1,c :: r,t,h => by
   have h : stpU (unqF k) c r = some t:=h
   unfold stpU at h
   split at h
   . cases h
   split at h
   . obtain ⟨q,hq,rfl⟩:=Option.map_eq_some_iff.1 h
     have:=zD8 k _ _ hq
     simp; omega
   split at h
   . cases h
   . rename_i d r'
     split at h
     . obtain ⟨q,hq,rfl⟩:=Option.map_eq_some_iff.1 h
       have:=zD8 k _ _ hq
       simp; omega
     . split at h
       . cases h
       . split at h
         . split at h
           . obtain ⟨q,hq,rfl⟩:=Option.map_eq_some_iff.1 h
             have:=zD8 k _ _ hq
             simp at this |-; omega
           . cases h
         . cases h
theorem zEQ {l t : List UInt8} (h : unquoteU l = some t) : t.length <= l.length:=by
 unfold unquoteU at h
 split at h
 . have:=zD8 _ _ _ h
   simp at this; omega
 . cases h
theorem readU_len {l : List UInt8} {k : Int} {s : List UInt8} {n : Nat} (h : readU l = .ok (k,s,n)) : s.length <= l.length:=by
 unfold readU at h
 split at h
 . cases h
 . rename_i c r
   have hs:=(zET (p:=wrdU) r).2
   have hl:=zAu wrdU r
   split at h
   . cases h; simp
   split at h
   . split at h
     . rename_i h3
       cases h
       have : (r.take 2).length = 2:=by rw [h3]; rfl
       rw [List.length_take] at this
       simp; omega
     . cases h
   split at h
   . split at h
     . cases h; rw [List.length_cons,List.length_cons,hs]; omega
     . cases h
   split at h
   . split at h
     . cases h
     . cases h; rw [List.length_cons,List.length_cons,hs]; omega
   split at h
   . split at h
     . cases h
     . split at h
       . cases h
       . rename_i ht
         cases h
         have:=zEQ ht
         simp at this |-; omega
   . cases h
theorem readU_nz {l : List UInt8} {e : Int} (h : readU l = .error e) : e ≠ 0:=by
 unfold readU at h
 split at h
 . cases h; decide
 . split at h
   . cases h
   split at h
   . split at h
     . cases h
     . cases h; decide
   split at h
   . split at h
     . cases h
     . rename_i hn; cases h; exact hn
   split at h
   . split at h
     . cases h; decide
     . cases h
   split at h
   . split at h
     . cases h; decide
     . split at h
       . cases h; decide
       . cases h
   . cases h; decide
theorem zIt : ∀ (f : Nat) (l : List UInt8) (i : Nat) (ts : List Tok),scanF f l i = .ok ts -> (∃ a e,ts = a ++ [e] /\ e.k = 5) /\ ∀ t ∈ ts,t.i <= i + l.length /\ t.s.length <= l.length
 | 0,_,_,_,h => by cases h
 | f + 1,l,i,ts,h => by
   unfold scanF at h
   split at h
   . cases h
     exact ⟨⟨[],_,rfl,rfl⟩,fun t ht => by rw [List.mem_singleton] at ht; subst ht; exact ⟨Nat.le_refl _,Nat.zero_le _⟩⟩
   . rename_i c r hl
     have hlen : (c :: r).length = l.length - skipM false l:=by rw [<- hl,List.length_drop]
     have hsk:=zAl false l
     split at h
     . cases h
     . rename_i t n ht
       have hn:=zEA ht
       have hu:=zD9 ht
       have hs:=readU_len hu.1
       split at h
       . cases h
       . rename_i ts' hts
         cases h
         obtain ⟨⟨a,e,rfl,he⟩,hm⟩:=zIt f _ _ _ hts
         refine ⟨⟨t :: a,e,rfl,he⟩,fun u hu' => ?_⟩
         rcases List.mem_cons.1 hu' with rfl | hu'
         . exact ⟨by rw [hu.2]; omega,by omega⟩
         . have:=hm u hu'
           rw [List.length_drop] at this
           exact ⟨by omega,by omega⟩
theorem zG4 : ∀ (f : Nat) (l : List UInt8) (i : Nat) (p : Nat × Int),l.length < f -> scanF f l i = .error p -> p.1 <= i + l.length /\ p.2 ≠ 0
 | 0,_,_,_,h,_ => by omega
 | f + 1,l,i,p,hf,h => by
   unfold scanF at h
   split at h
   . cases h
   . rename_i c r hl
     have hlen : (c :: r).length = l.length - skipM false l:=by rw [<- hl,List.length_drop]
     have hsk:=zAl false l
     split at h
     . rename_i e he
       cases h
       refine ⟨by show i + _ <= _; omega,?_⟩
       unfold zDA at he
       split at he
       . rename_i e' he'
         cases he
         exact readU_nz he'
       . cases he
     . rename_i t n ht
       have hn:=zEA ht
       split at h
       . rename_i e he
         cases h
         have:=zG4 f _ _ p (by rw [List.length_drop]; omega) he
         rw [List.length_drop] at this
         exact ⟨by omega,this.2⟩
       . cases h
theorem zFx {l : List UInt8} {ts : List Tok} (h : zAp l = .ok ts) : En ⟨ts,true,0⟩ /\ ∀ t ∈ ts,t.i <= l.length:=by
 unfold zAp at h
 split at h
 . cases h
 . obtain ⟨⟨a,e,h1,h2⟩,h3⟩:=zIt _ _ _ _ h
   exact ⟨⟨a,e,h1,h2,fun t ht => by have:=(h3 t ht).2; omega⟩,fun t ht => by have:=(h3 t ht).1; omega⟩
def inT (N : Nat) (t t' : Tok) : Prop:=t = t' /\ t.i <= N
theorem inT_tr (N : Nat) : TR (inT N) fun i i' => i = i' /\ i <= N:=⟨fun h => by rw [h.1],fun h => by rw [h.1],fun h => ⟨by rw [h.1],h.2⟩,⟨rfl,Nat.zero_le _⟩⟩
theorem all2_in {N : Nat} : ∀ {ts : List Tok},(∀ t ∈ ts,t.i <= N) -> All2 (inT N) ts ts
 | [],_ => .nil
 | t :: ts,h => .cons ⟨rfl,h t (List.mem_cons_self ..)⟩ (all2_in fun u hu => h u (List.mem_cons_of_mem _ hu))
theorem doc_err {ts : List Tok} {N i : Nat} {e : Int} (h : ∀ t ∈ ts,t.i <= N) (hq : docQ ts = .error (i,e)) : i <= N:=by
 have hr:=doc_rr (inT_tr N) (all2_in h)
 rw [hq] at hr
 exact hr.1.2
theorem zIo {l : List UInt8} {i : Nat} {e : Int} (h : zAp l = .error (i,e)) : e ≠ 0:=by
 unfold zAp at h
 split at h
 . cases h; decide
 . exact (zG4 _ _ _ _ (Nat.lt_succ_self _) h).2
def Mz {α : Type} (r : PR α) : Prop:=∀ i e,r = .error (i,e) -> 0 < e /\ e <= 100
section
variable {α β : Type}
theorem Mz.okk (p : α × PS) : Mz (.ok p : PR α):=fun i e h => by cases h
theorem Mz.err {i : Nat} {e : Int} (h : 0 < e /\ e <= 100) : Mz (.error (i,e) : PR α):=fun j e' hj => by cases hj; exact h
theorem Mz.ite {c : Prop} [Decidable c] {a b : PR α} (h1 : c -> Mz a) (h2 : ¬ c -> Mz b) : Mz (if c then a else b):=by
 split
 . exact h1 ‹_›
 . exact h2 ‹_›
theorem Mz.then {r : PR α} {f : α -> PS -> PR β} (h : Mz r) (hf : ∀ a x,r = .ok (a,x) -> Mz (f a x)) : Mz (zX r f):=by
 cases hr : r with
 | error e =>
   rw [then_err (r:=.error e) rfl]
   intro i e' hi
   cases hi
   exact h i e' hr
 | ok p =>
   obtain ⟨a,x⟩:=p
   rw [zR (r:=.ok (a,x)) rfl]
   exact hf a x hr
theorem zDH (s : List UInt8) (x : PS) : Mz (takeQ s x):=by
 unfold takeQ
 exact .ite (fun _ => .okk _) fun _ => .err (by decide)
theorem zBn (x : PS) : Mz (nameQ x):=by
 unfold nameQ
 exact .ite (fun _ => .okk _) fun _ => .err (by decide)
theorem zJi : ∀ (n : Nat) (w : List Int) (x : PS),Mz (closeQ n w x)
 | 0,w,x => by unfold closeQ; exact .okk _
 | n + 1,w,x => by unfold closeQ; exact .then (zDH _ _) fun _ y _ => zJi n _ y
theorem inner_mz (x : PS) : Mz (innerQ x):=.then (zBn _) fun _ y _ => .then (zJi _ _ y) fun _ _ _ => .okk _
theorem typ_mz (x : PS) : Mz (typQ x):=.then (inner_mz x) fun _ _ _ => .ite (fun _ => .err (by decide)) fun _ => .okk _
theorem zJA {v : PS -> PR D} (hv : ∀ y,En y -> Mz (v y)) (hl : ∀ {y z a},En y -> v y = .ok (a,z) -> En z /\ z.ts.length < y.ts.length) : ∀ (f : Nat) (acc : List D) (x : PS),En x -> x.ts.length < f -> Mz (itemsQ v f acc x)
 | 0,_,_,_,h => by omega
 | f + 1,acc,x,hx,h => by
   unfold itemsQ
   exact .ite (fun _ => .okk _) fun _ => .then (hv x hx) fun _ y hq => zJA hv hl f _ y (hl hx hq).1 (by have:=(hl hx hq).2; omega)
theorem zHU {v : PS -> PR D} (hv : ∀ y,En y -> Mz (v y)) (hl : ∀ {y z a},En y -> v y = .ok (a,z) -> En z /\ z.ts.length < y.ts.length) : ∀ (f : Nat) (ks : List (List UInt8)) (acc : List D) (x : PS),En x -> x.ts.length < f -> Mz (zy v f ks acc x)
 | 0,_,_,_,_,h => by omega
 | f + 1,ks,acc,x,hx,h => by
   unfold zy
   refine .ite (fun _ => .okk _) fun _ => .then (zBn x) fun k y hn => .ite (fun _ => .err (by decide)) fun _ => .then (zDH _ y) fun u z ht => .then (hv z ?_) fun _ w hw => zHU hv hl f _ _ w ?_ ?_
   . exact ((hx.name hn).1.take ht).1
   . exact (hl ((hx.name hn).1.take ht).1 hw).1
   . have h1:=hx.name hn
     have h2:=h1.1.take ht
     have h3:=hl h2.1 hw
     omega
theorem zFk : ∀ (f lv : Nat) (x : PS),En x -> lv <= 25 -> 26 <= f + lv -> Mz (valueQ f lv x)
 | 0,lv,_,_,h1,h2 => by omega
 | f + 1,lv,x,hx,h1,h2 => by
   have hy : En { nxT x with nd:=x.nd + 1 }:=hx.nx0
   unfold valueQ
   refine .ite (fun _ => .err (by decide)) fun _ => .ite (fun _ => .err (by decide)) fun hlv => .ite (fun _ => .err (by decide)) fun _ => ?_
   dsimp only
   refine .ite (fun _ => .okk _) fun _ => .ite (fun _ => .okk _) fun _ => .ite (fun _ => .okk _) fun _ => .ite (fun _ => .then (zBn _) fun _ _ _ => .okk _) fun _ => .ite (fun _ => ?_) fun _ => ?_
   . exact .then (zJA (fun y hy => zFk f (lv + 1) y hy (by omega) (by omega)) (fun hy hq => hy.valueL hq) _ _ _ hy (Nat.lt_succ_self _)) fun _ _ _ => .okk _
   . exact .then (zHU (fun y hy => zFk f (lv + 1) y hy (by omega) (by omega)) (fun hy hq => hy.valueL hq) _ _ _ _ hy (Nat.lt_succ_self _)) fun _ _ _ => .okk _
theorem zIU (x : PS) (h : En x) : Mz (zAR x):=zFk 25 1 _ h (by omega) (by omega)
theorem zJr : ∀ (f : Nat) (acc : List D) (x : PS),En x -> x.ts.length <= f -> Mz (argsF f acc x)
 | 0,_,x,hx,h => by obtain ⟨t,r,ht⟩:=hx.cons; rw [ht] at h; simp at h
 | f + 1,acc,x,hx,h => by
   unfold argsF
   refine .ite (fun _ => .okk _) fun _ => .ite (fun _ => .err (by decide)) fun _ => .then (zBn x) fun n y hn => .then (zDH _ y) fun u z ht => .then (zIU z ?_) fun _ w hw => zJr f _ w ?_ ?_
   . exact ((hx.name hn).1.take ht).1
   . exact (((hx.name hn).1.take ht).1.whole hw).1
   . have h1:=hx.name hn
     have h2:=h1.1.take ht
     have h3:=h2.1.whole hw
     omega
theorem args_mz (x : PS) (h : En x) : Mz (argsQ x):=.ite (fun hs => zJr _ _ _ h.nx0 (by have:=(h.sg hs).2; omega)) fun _ => .okk _
theorem zJX : ∀ (f : Nat) (acc : List D) (x : PS),En x -> x.ts.length < f -> Mz (dirsF f acc x)
 | 0,_,_,_,h => by omega
 | f + 1,acc,x,hx,h => by
   unfold dirsF
   refine .ite (fun hs => .ite (fun _ => .err (by decide)) fun _ => .then (zBn _) fun n y hn => .then (args_mz y ?_) fun _ z hz => zJX f _ z ?_ ?_) fun _ => .okk _
   . exact (hx.nx0.name hn).1
   . exact ((hx.nx0.name hn).1.args hz).1
   . have h1:=hx.sg hs
     have h2:=h1.1.name hn
     have h3:=h2.1.args hz
     omega
theorem zIE (x : PS) (h : En x) : Mz (dirsQ x):=zJX _ _ _ h (Nat.lt_succ_self _)
theorem sel_mz {v : PS -> PR (List D)} (hv : ∀ y,En y -> Mz (v y)) (x : PS) (h : En x) : Mz (selQ v x):=by
 unfold selQ
 refine .ite (fun hs => ?_) fun _ => ?_
 . dsimp only
   refine .ite (fun _ => .then (zIE _ h.nx0.nx0) fun _ _ _ => .okk _) fun _ => .then (.ite (fun _ => zBn _) fun _ => .okk _) fun on z hz => ?_
   have hz' : En z:=by
    split at hz
    . exact (h.nx0.nx0.name hz).1
    . cases hz; exact h.nx0
   exact .then (zIE z hz') fun _ u hu => .then (hv u (hz'.dirs hu).1) fun _ _ _ => .okk _
 . refine .then (zBn x) fun n y hn => ?_
   have hy:=(h.name hn).1
   refine .then (.ite (fun _ => .then (zBn _) fun _ _ _ => .okk _) fun _ => .okk _) fun an z hz => ?_
   have hz' : En z:=by
    split at hz
    . cases hm : nameQ (nxT y) with
      | error e => rw [then_err hm] at hz; cases hz
      | ok p =>
        obtain ⟨m,z2⟩:=p
        rw [zR hm] at hz
        cases hz
        exact (hy.nx0.name hm).1
    . cases hz; exact hy
   refine .then (args_mz z hz') fun _ u hu => .then (zIE u (hz'.args hu).1) fun _ w hw => ?_
   exact .then (.ite (fun _ => hv w ((hz'.args hu).1.dirs hw).1) fun _ => .okk _) fun _ _ _ => .okk _
theorem setF_mz {v : PS -> PR D} (hv : ∀ y,En y -> Mz (v y)) (hl : ∀ {y z a},En y -> v y = .ok (a,z) -> En z /\ z.ts.length < y.ts.length) : ∀ (f : Nat) (acc : List D) (x : PS),En x -> x.ts.length < f -> Mz (setF v f acc x)
 | 0,_,_,_,h => by omega
 | f + 1,acc,x,hx,h => by
   unfold setF
   exact .ite (fun _ => .okk _) fun _ => .ite (fun _ => .err (by decide)) fun _ => .then (hv x hx) fun _ y hq => setF_mz hv hl f _ y (hl hx hq).1 (by have:=(hl hx hq).2; omega)
theorem sels_mz : ∀ (f lv : Nat) (x : PS),En x -> lv <= 25 -> 26 <= f + lv -> Mz (selsQ f lv x)
 | 0,lv,_,_,h1,h2 => by omega
 | f + 1,lv,x,hx,h1,h2 => by
   unfold selsQ
   by_cases hs : isS x [123] = true
   . refine .ite (fun _ => .err (by decide)) fun hlv => .then (zDH _ x) fun u y hy => ?_
     have hlv : ¬ 24 < lv:=fun h => hlv ⟨hs,h⟩
     exact setF_mz (fun y hy => sel_mz (fun y hy => sels_mz f (lv + 1) y hy (by omega) (by omega)) y hy) (fun hy hq => hy.selL hq) _ _ _ (hx.take hy).1 (Nat.lt_succ_self _)
   . refine .ite (fun _ => .err (by decide)) fun _ => .then (zDH _ x) fun u y hy => ?_
     exfalso
     unfold takeQ at hy
     rw [if_neg hs] at hy
     cases hy
theorem set_mz (x : PS) (h : En x) : Mz (setQ x):=sels_mz 25 1 x h (by omega) (by omega)
theorem def_mz (x : PS) (h : En x) : Mz (defQ x):=by
 unfold defQ
 exact .ite (fun _ => .then (zIU _ h.nx0) fun _ _ _ => .okk _) fun _ => .okk _
theorem def_em {x y : PS} {d : Bool × D} (h : En x) (hq : defQ x = .ok (d,y)) : En y /\ y.ts.length <= x.ts.length:=by
 unfold defQ at hq
 split at hq
 . cases hw : zAR { nxT x with vr:=false } with
   | error e => rw [then_err hw] at hq; cases hq
   | ok p =>
     obtain ⟨d',o⟩:=p
     rw [zR hw] at hq
     cases hq
     have h1:=En.whole (x:={ nxT x with vr:=false }) h.nx0 hw
     exact ⟨h1.1,Nat.le_trans h1.2 (nx_len x)⟩
 . cases hq; exact ⟨h,Nat.le_refl _⟩
theorem var_mz (x : PS) (h : En x) : Mz (varQ x):=
 .then (zDH _ x) fun u y h1 => .then (zBn y) fun n z h2 => .then (zDH _ z) fun u2 w h3 => .then (typ_mz w) fun t v h4 =>
  .then (def_mz v ((((h.take h1).1.name h2).1.take h3).1.typ h4).1) fun _ _ _ => .okk _
theorem var_em {x o : PS} {d : D} (h : En x) (hq : varQ x = .ok (d,o)) : En o /\ o.ts.length < x.ts.length:=by
 unfold varQ at hq
 cases h1 : takeQ [36] x with
 | error e => rw [then_err h1] at hq; cases hq
 | ok p =>
 obtain ⟨u,y⟩:=p
 rw [zR h1] at hq
 cases h2 : nameQ y with
 | error e => rw [then_err h2] at hq; cases hq
 | ok p =>
 obtain ⟨n,z⟩:=p
 rw [zR h2] at hq
 cases h3 : takeQ [58] z with
 | error e => rw [then_err h3] at hq; cases hq
 | ok p =>
 obtain ⟨u2,w⟩:=p
 rw [zR h3] at hq
 cases h4 : typQ w with
 | error e => rw [then_err h4] at hq; cases hq
 | ok p =>
 obtain ⟨t,v⟩:=p
 rw [zR h4] at hq
 cases h5 : defQ v with
 | error e => rw [then_err h5] at hq; cases hq
 | ok p =>
 obtain ⟨d',o'⟩:=p
 rw [zR h5] at hq
 cases hq
 have e1:=h.take h1
 have e2:=e1.1.name h2
 have e3:=e2.1.take h3
 have e4:=e3.1.typ h4
 have e5:=def_em e4.1 h5
 exact ⟨e5.1,by omega⟩
theorem zIY : ∀ (f : Nat) (acc : List D) (x : PS),En x -> x.ts.length <= f -> Mz (varsF f acc x)
 | 0,_,x,hx,h => by obtain ⟨t,r,ht⟩:=hx.cons; rw [ht] at h; simp at h
 | f + 1,acc,x,hx,h => by
   by_cases hE : acc.length ≠ 0 /\ isS x [41] = true
   . rw [zGq hE.1 hE.2]; exact .okk _
   by_cases hL : isS x [36] = true /\ 16 <= acc.length
   . rw [zGp hE hL]; exact .err (by decide)
   rw [vl_go hE hL]
   exact .then (var_mz x hx) fun a y hq => zIY f _ y (var_em hx hq).1 (by have:=(var_em hx hq).2; omega)
theorem zIb : ∀ (f : Nat) (acc : List D) {x y : PS} {l : List D},En x -> varsF f acc x = .ok (l,y) -> En y /\ y.ts.length <= x.ts.length
 | 0,_,_,_,_,_,h => by cases h
 | f + 1,acc,x,y,l,hx,hq => by
   by_cases hE : acc.length ≠ 0 /\ isS x [41] = true
   . rw [zGq hE.1 hE.2] at hq; cases hq; exact ⟨hx.nx0,nx_len x⟩
   by_cases hL : isS x [36] = true /\ 16 <= acc.length
   . rw [zGp hE hL] at hq; cases hq
   rw [vl_go hE hL] at hq
   cases h1 : varQ x with
   | error e => rw [then_err h1] at hq; cases hq
   | ok p =>
     obtain ⟨a,z⟩:=p
     rw [zR h1] at hq
     have e1:=var_em hx h1
     have e2:=zIb f _ e1.1 hq
     exact ⟨e2.1,by omega⟩
theorem op_mz (k : Int) (x : PS) (h : En x) : Mz (opQ k x):=by
 unfold opQ
 refine .then (.ite (fun _ => .okk _) fun _ => .okk _) fun n y hy => ?_
 have hy' : En y:=by
  split at hy
  . cases hy; exact h.nx0
  . cases hy; exact h
 refine .then (.ite (fun hs => zIY _ _ _ hy'.nx0 (nx_len y)) fun _ => .okk _) fun vs z hz => ?_
 have hz' : En z:=by
  split at hz
  . exact (zIb _ _ hy'.nx0 hz).1
  . cases hz; exact hy'
 exact .then (set_mz z hz') fun _ _ _ => .okk _
theorem frag_mz (x : PS) (h : En x) : Mz (zA9 x):=by
 unfold zA9
 refine .ite (fun _ => .err (by decide)) fun _ => .then (zBn x) fun n y hy => .ite (fun _ => .then (zBn _) fun on z hz => .then (set_mz z ?_) fun _ _ _ => .okk _) fun _ => .err (by decide)
 exact ((h.name hy).1.nx0.name hz).1
theorem zGZ : ∀ (f n : Nat) (ops frs : List D) (x : PS),En x -> x.ts.length < f -> Mz (docF f n ops frs x)
 | 0,_,_,_,_,_,h => by omega
 | f + 1,n,ops,frs,x,hx,h => by
   unfold docF
   refine .ite (fun _ => .okk _) fun _ => ?_
   dsimp only
   refine .ite (fun _ => .err (by decide)) fun _ => .ite (fun _ => .err (by decide)) fun _ => .ite (fun _ => ?_) fun _ => .ite (fun _ => ?_) fun _ => ?_
   . exact .then (set_mz x hx) fun ss y hq => zGZ f _ _ _ y (hx.sels hq).1 (by have:=(hx.sels hq).2; omega)
   . exact .then (op_mz _ _ hx.nx0) fun o y hq => zGZ f _ _ _ y (hx.nx0.op hq).1 (by have:=(hx.nx0.op hq).2; have:=nx_len x; omega)
   . exact .then (frag_mz _ hx.nx0) fun o y hq => zGZ f _ _ _ y (hx.nx0.frag hq).1 (by have:=(hx.nx0.frag hq).2; have:=nx_len x; omega)
theorem doc_mz {ts : List Tok} (h : En ⟨ts,true,0⟩) : Mz (docQ ts):=zGZ _ _ _ _ _ h (Nat.lt_succ_self _)
end
end Go.Proofs.YthjiclhfhjdjpaaGreatDoor
namespace Go.Proofs.YthjiclhfhjdjpaaGreatDoor
open Go.RowKit
set_option linter.unusedSectionVars false
attribute [local irreducible] wpList Calls Code.wp AW AWo OpOk seqK zAI zAO loopK endK AC zp Yld Sub
attribute [local irreducible] ACB ACX ACE absLexG YldG
theorem zG5 : ∀ (f : Nat) (l : List UInt8) (i : Nat) (ts : List Tok),scanF f l i = .ok ts -> ts.length <= l.length + 1
 | 0,_,_,_,h => by cases h
 | f + 1,l,i,ts,h => by
   unfold scanF at h
   split at h
   . cases h
     simp
   . rename_i c r hl
     have hlen : (c :: r).length = l.length - skipM false l:=by rw [<- hl,List.length_drop]
     have hsk:=zAl false l
     split at h
     . cases h
     . rename_i t n ht
       have hn:=zEA ht
       split at h
       . cases h
       . rename_i ts' hts
         cases h
         have:=zG5 f _ _ _ hts
         rw [List.length_drop] at this
         simp only [List.length_cons] at *
         omega
theorem zIp {l : List UInt8} {ts : List Tok} (h : zAp l = .ok ts) : ts.length <= 65537:=by
 unfold zAp at h
 split at h
 . cases h
 . have:=zG5 _ _ _ _ h
   omega
noncomputable def parseW : Except (Nat × Int) D -> V
 | .ok q => .tup [.agg [.sl 57 (q.f 0).l,.sl 116 (q.f 1).l],.c (.int .i64 0),.c (.int .i64 0)]
 | .error x => .tup [.agg zQ,.c (.int .i64 (x.1 : Int)),.c (.int .i64 x.2)]
theorem i64_wf {n : Int} (h : -9000000000 <= n /\ n <= 9000000000) : (Lit.int .i64 n).wf = true:=by
 rw [zDP]
 simp [IntKind.min,IntKind.max,IntKind.signed,IntKind.bits]; omega
theorem zF3 (s : List UInt8) (hs : s.length <= 4000000000) : AC EN5 Tryz.prog 23 [.c (.string (bs s))] (parseW (parseT s)):=by
 have hsc:=scan_ac s hs
 unfold parseT
 cases h : zAp s with
 | error x =>
   rw [h] at hsc
   exact zHD s x.1 x.2 (zIo (i:=x.1) h) hsc
 | ok ts =>
   rw [h] at hsc
   have hen:=zFx h
   have hd:=doc_ace ⟨ts,true,0⟩ hen.1 (by have:=zIp h; show ts.length <= 100000; omega)
   have hd : ACE EN5 Tryz.prog 53 [.bx (pn 0) 0] [boxP ⟨ts,true,0⟩] (outQ (fun p => VP p) (docQ ts)):=hd
   dsimp only
   cases hq : docQ ts with
   | error x =>
     rw [hq] at hd
     have h1:=doc_mz hen.1 x.1 x.2 hq
     have h2:=doc_err hen.2 (i:=x.1) (e:=x.2) hq
     have hl : s.length <= 65536:=by
      unfold zAp at h
      split at h
      . cases h
      . omega
     exact parse_pan s ts hsc x ⟨i64_wf (by omega),i64_wf (by omega)⟩ hd
   | ok r =>
     obtain ⟨⟨ops,frs⟩,x'⟩:=r
     rw [hq] at hd
     exact parse_good s ts hsc ops frs x' hd
end Go.Proofs.YthjiclhfhjdjpaaGreatDoor
namespace Go.Proofs.YthjiclhfhjdjpaaGreatDoor
open Go.RowKit
attribute [local irreducible] wpList Calls Code.wp
mutual
def bulkD : D -> Nat
 | .int _ => 1
 | .bool _ => 1
 | .str s => s.size + 1
 | .list l => bulkL l + 1
 | .obj l => bulkL l + 1
def bulkL : List D -> Nat
 | [] => 0
 | d :: r => bulkD d + bulkL r
 end
def Fits (P : Program) : Nat -> TypeId -> D -> Prop
 | 0,_,_ => False
 | k + 1,t,d =>
   match P.underlying t with
   | some .bool => ∃ b,d = .bool b
   | some (.int _) => ∃ n,d = .int n
   | some .string => ∃ s,d = .str s
   | some (.slice e) => ∃ l,d = .list l /\ ∀ i,i < l.length -> Fits P k e (gD l i)
   | some (.struct fs) => ∃ l,d = .obj l /\ l.length = fs.size /\ ∀ j f,fs[j]? = some f -> Fits P k f.type (gD l j)
   | _ => True
theorem Fits.up {P : Program} : ∀ {k : Nat} {t : TypeId} {d : D},Fits P k t d -> Fits P (k + 1) t d
 | 0,_,_,h => h.elim
 | k + 1,t,d,h => by
   unfold Fits at h |-
   split at h
   . exact h
   . exact h
   . exact h
   . obtain ⟨l,h1,h2⟩:=h
     exact ⟨l,h1,fun i hi => Fits.up (h2 i hi)⟩
   . obtain ⟨l,h1,h2,h3⟩:=h
     exact ⟨l,h1,h2,fun j f hf => Fits.up (h3 j f hf)⟩
   . trivial
end Go.Proofs.YthjiclhfhjdjpaaGreatDoor
namespace Go.Proofs.YthjiclhfhjdjpaaGreatDoor
def i64D (n : Int) : Prop:=-9223372036854775808 <= n /\ n <= 9223372036854775807
def Dp : Nat -> D -> Prop
 | 0,_ => False
 | k + 1,d => ∀ i,i < (d.f 3).l.length -> Dp k (gD (d.f 3).l i)
mutual
def wideD : D -> Prop
 | .int n => i64D n
 | .bool _ => True
 | .str _ => True
 | .list l => zGn l
 | .obj l => zGn l
def zGn : List D -> Prop
 | [] => True
 | d :: r => wideD d /\ zGn r
end
theorem zEN : ∀ {l : List D},zGn l -> ∀ i,wideD (gD l i)
 | [],_,i => by show wideD (.obj []); simp [wideD,zGn]
 | d :: r,h,i => by
   rw [zGn] at h
   cases i with
   | zero => exact h.1
   | succ i => exact zEN h.2 i
theorem wideD.f {d : D} (h : wideD d) (i : Nat) : wideD (d.f i):=by
 cases d with
 | obj l => rw [wideD] at h; exact zEN h i
 | _ => show wideD (.obj []); simp [wideD,zGn]
theorem wideD.l {d : D} (h : wideD d) (i : Nat) : wideD (gD d.l i):=by
 cases d with
 | list l => rw [wideD] at h; exact zEN h i
 | _ => show wideD (.obj []); simp [wideD,zGn]
theorem wideD.n {d : D} (h : wideD d) : i64D d.n:=by
 cases d with
 | int n => rw [wideD] at h; exact h
 | _ => show i64D 0; unfold i64D; omega
def sumN (f : Nat -> Nat) : Nat -> Nat
 | 0 => 0
 | n + 1 => sumN f n + f n
theorem zHm {f g : Nat -> Nat} : ∀ {n : Nat},(∀ i,i < n -> f i <= g i) -> sumN f n <= sumN g n
 | 0,_ => Nat.le_refl _
 | n + 1,h => by
   have:=zHm (n:=n) fun i hi => h i (by omega)
   have:=h n (by omega)
   simp only [sumN]; omega
theorem zGy (f : Nat -> Nat) {n m : Nat} (h : n <= m) : sumN f n <= sumN f m:=by
 induction m with
 | zero => have : n = 0:=by omega
           subst this; exact Nat.le_refl _
 | succ m ih =>
   rcases Nat.lt_or_ge n (m + 1) with h' | h'
   . have:=ih (by omega); simp only [sumN]; omega
   . have : n = m + 1:=by omega
     subst this; exact Nat.le_refl _
theorem zGz (f : Nat -> Nat) : ∀ n,sumN f (n + 1) = f 0 + sumN (fun i => f (i + 1)) n
 | 0 => by simp [sumN]
 | n + 1 => by rw [sumN,zGz f n,sumN]; omega
def wD (d : D) : Nat:=bulkD d - 1
theorem zE3 (d : D) : 1 <= bulkD d:=by cases d <;> simp [bulkD]
theorem zAv (d : D) : bulkD d = wD d + 1:=by unfold wD; have:=zE3 d; omega
theorem wD_str (d : D) : d.s.size <= wD d:=by
 cases d with
 | str s => simp [wD,bulkD,D.s]
 | _ => exact Nat.zero_le _
theorem zBh (d : D) : bulkL d.l <= wD d:=by cases d <;> simp [wD,bulkD,D.l,bulkL]
theorem zE2 : ∀ (l : List D),bulkL l = sumN (fun i => bulkD (gD l i)) l.length
 | [] => rfl
 | d :: r => by
   rw [bulkL,zE2 r,List.length_cons,zGz]; rfl
theorem bulkL_out (l : List D) : ∀ n,sumN (fun i => wD (gD l i)) n <= bulkL l:=by
 intro n
 have hout : ∀ i,l.length <= i -> wD (gD l i) = 0:=fun i hi => by
  unfold gD
  rw [List.getD_eq_getElem?_getD,List.getElem?_eq_none hi]; rfl
 have hin : ∀ m,m <= l.length -> sumN (fun i => wD (gD l i)) m <= bulkL l:=fun m hm => by
  rw [zE2]
  refine Nat.le_trans (zGy _ hm) (zHm fun i hi => ?_)
  have:=zAv (gD l i); omega
 rcases Nat.le_total n l.length with h | h
 . exact hin n h
 . obtain ⟨m,rfl⟩:=Nat.exists_eq_add_of_le h
   clear h
   induction m with
   | zero => exact hin _ (Nat.le_refl _)
   | succ m ih =>
     rw [<- Nat.add_assoc,sumN,hout (l.length + m) (by omega)]
     omega
theorem wD_fields (d : D) (n : Nat) : sumN (fun i => wD (d.f i)) n <= wD d:=by
 cases d with
 | obj l => exact bulkL_out l n
 | _ =>
   refine Nat.le_trans (zHm (g:=fun _ => 0) fun i _ => ?_) (Nat.le_trans (Nat.le_of_eq ?_) (Nat.zero_le _))
   . show wD (.obj []) <= 0
     simp [wD,bulkD,bulkL]
   . induction n with
     | zero => rfl
     | succ n ih => simp only [sumN,ih]
theorem wD_f (d : D) (i : Nat) : wD (d.f i) <= wD d:=by
 have:=wD_fields d (i + 1)
 simp only [sumN] at this; omega
theorem zBq {l : List D} {i : Nat} (h : i < l.length) : bulkD (gD l i) <= bulkL l:=by
 rw [zE2]
 have:=zGy (fun i => bulkD (gD l i)) (show i + 1 <= l.length by omega)
 simp only [sumN] at this; omega
theorem zE1 {d : D} {j i : Nat} (h : i < (d.f j).l.length) : bulkD (gD (d.f j).l i) <= wD d:=by
 have h1:=zBq h
 have h2:=zBh (d.f j)
 have h3:=wD_f d j
 omega
theorem dp_bulk : ∀ (k : Nat) (d : D),bulkD d <= k -> Dp k d
 | 0,d,h => by have:=zE3 d; omega
 | k + 1,d,h => fun i hi => dp_bulk k _ (by have:=zE1 hi; have:=zAv d; omega)
def maxN (f : Nat -> Nat) : Nat -> Nat
 | 0 => 0
 | n + 1 => max (maxN f n) (f n)
def sizeR : Nat -> D -> Nat
 | 0,_ => 1
 | k + 1,d => 1 + sumN (fun i => sizeR k (gD (d.f 3).l i)) (d.f 3).l.length
def depthR : Nat -> D -> Nat
 | 0,_ => 1
 | k + 1,d => maxN (fun i => depthR k (gD (d.f 3).l i)) (d.f 3).l.length + 1
def strsR (d : D) : List (List UInt8):=(d.f 4).l.map fun x => x.s.data.toList
def enumR (s : ByteArray) : Bool:=zEf s && !(s.data.toList == [116,114,117,101]) && !(s.data.toList == [102,97,108,115,101]) && !(s.data.toList == [110,117,108,108])
def nodeK (n i : Int) (t : Bool) (a b : Nat) (x v ks y : Bool) : Bool:=
 (n == 1 || n == 2 || i == 0) && (n == 3 || n == 4 || n == 7 || t) && (n == 6 || a == 0) && (n == 6 || n == 5 || b == 0) && decide (0 <= n /\ n <= 7) && (!(n == 1) || i == 0 || i == 1) && (!(n == 4) || x) && (!(n == 7) || v) && (!(n == 6) || (ks && a == b && y))
def nodeL (d : D) : Bool:=
 nodeK (d.f 0).n (d.f 1).n ((d.f 2).s.data.toList == []) (d.f 4).l.length (d.f 3).l.length (enumR (d.f 2).s) (zEf (d.f 2).s) (!((d.f 4).l.any fun x => !zEf x.s)) (decide (strsR d).Nodup)
def everyL : Nat -> D -> Bool
 | 0,_ => false
 | k + 1,d => nodeL d && !((d.f 3).l.any fun x => !everyL k x)
def bareR : Nat -> D -> Bool
 | 0,_ => false
 | k + 1,d => !((d.f 0).n == 7) && !((d.f 3).l.any fun x => !bareR k x)
end Go.Proofs.YthjiclhfhjdjpaaGreatDoor
namespace Go.Proofs.YthjiclhfhjdjpaaGreatDoor
open Go.RowKit
set_option linter.unusedSectionVars false
section
variable {X : Cx} {nn : Nat} {st : Vst nn} {o : Oper} {ops : Array Oper} {l : List Oper} {dst : Option Tmp} {KK : Vst nn -> Prop}
theorem s_max {k : IntKind} {a b : Int} {x y : Operand} {ts : Array TypeId} (hg : o.guard = none) (ho : o.op = .call { callee:=.builtin .max,args:=#[x,y],argTypes:=ts }) (hd : o.dst = dst) (hx : ev st x = .c (.int k a)) (hy : ev st y = .c (.int k b)) (hK : AWo X ops l (st.put dst (.c (.int k (if a < b then b else a)))) KK) : AWo X ops (o :: l) st KK:=by
 refine zAC hg ?_
 intro s w a' hI N Q hP hN
 have r1:=hI.ev x
 have r2:=hI.ev y
 rw [hx,rel] at r1
 rw [hy,rel] at r2
 have h1 : (execOp a'.eval o).run X.P w = .ok (.value (.int k (if a < b then b else a))) w:=by
  simp [execOp,ho,resolve,invoke,builtin,Builtin.max_,Builtin.max2,r1.1,r2.1]
 unfold Oper.wp
 rw [h1,Oper.upon_value]
 refine hN _ _ _ _ (hI.put o.dst ?_) (by rw [hd]; exact hK)
 rw [rel]
 refine ⟨rfl,?_⟩
 split
 . exact r2.2
 . exact r1.2
end
attribute [local irreducible] wpList Calls Code.wp AW AWo OpOk seqK zAI zAO loopK endK AC zp Yld Sub
attribute [local irreducible] ACB ACX ACE absLexG YldG
structure BkIn (d : D) (B : Nat) : Prop where
 text : (d.f 2).s.size <= B
 keys : (d.f 4).l.length <= B
 items : (d.f 3).l.length <= B
 at_ : ∀ i,i < (d.f 3).l.length -> bulkD (gD (d.f 3).l i) < bulkD d
 key : ∀ i,i < (d.f 4).l.length -> (gD (d.f 4).l i).s.size <= B
theorem zAj : ∀ l : List D,l.length <= bulkL l
 | [] => Nat.le_refl _
 | x :: r => by
   have:=zAj r
   have:=zE3 x
   simp only [bulkL,List.length_cons]; omega
theorem bk_in {d : D} {B : Nat} (h : bulkD d <= B) : BkIn d B:=by
 have h0:=zAv d
 have h2:=wD_str (d.f 2)
 have h2':=wD_f d 2
 have h3:=zBh (d.f 3)
 have h3':=wD_f d 3
 have h4:=zBh (d.f 4)
 have h4':=wD_f d 4
 have l3:=zAj (d.f 3).l
 have l4:=zAj (d.f 4).l
 refine ⟨by omega,by omega,by omega,fun i hi => by have:=zE1 hi; omega,fun i hi => ?_⟩
 have:=zE1 hi
 have:=wD_str (gD (d.f 4).l i)
 have:=zAv (gD (d.f 4).l i)
 omega
end Go.Proofs.YthjiclhfhjdjpaaGreatDoor
namespace Go.Proofs.YthjiclhfhjdjpaaGreatDoor
open Go.RowKit
set_option linter.unusedSectionVars false
attribute [local irreducible] wpList Calls Code.wp AW AWo OpOk seqK zAI zAO loopK endK AC zp Yld Sub
attribute [local irreducible] ACB ACX ACE absLexG YldG
structure SelB (d : D) (B : Nat) : Prop where
 s1 : (d.f 1).s.size <= B
 s2 : (d.f 2).s.size <= B
 s3 : (d.f 3).s.size <= B
 l4 : bulkL (d.f 4).l <= B
 l5 : bulkL (d.f 5).l <= B
 l6 : bulkL (d.f 6).l < bulkD d
 l6B : bulkL (d.f 6).l <= B
end Go.Proofs.YthjiclhfhjdjpaaGreatDoor
namespace Go.Proofs.YthjiclhfhjdjpaaGreatDoor
open Go.RowKit
attribute [local irreducible] wpList Calls Code.wp
section
variable {P : Program} {s : Sg} {w w' : World} {pas : Nat -> Prop} {B : Nat} {rs : Nat -> Option Res}
theorem zH5 (h : MemOk P pas B rs s w) (cur : Array Value) (e : TypeId) (n : Nat) : Keeps s.F (fun b o => s.F b o \/ (b = w.heap.size /\ o < n)) w (w.alloc (.cells cur e)):=fun b o hF =>
 ⟨(zA0 (w:=w) (h.fx b o hF)).trans rfl,.inl hF⟩
theorem MemOk.tokNew0 (h : MemOk P pas B rs s w) (hB : B <= w.heap.size) {k : Nat} (X : Nat -> Prop) (hX : ∀ q,X q -> q = k) (hf : ∀ q ρ,q ≠ k -> rs q = some ρ -> ∀ n,X n -> ρ.free n = true) {cur : Array Value} {e : TypeId} {c m : Nat} (hc : cur.size = c * P.cellsOf e) (hm : m <= c) (hmx : c <= maxLen)
 (hx : Ext X s w (s.tok k w.heap.size (m * P.cellsOf e) (.slice (some ⟨w.heap.size,0,none⟩) m c) m) (w.alloc (.cells cur e))) :
 MemOk P pas B (updR rs k (.tok e m)) (s.tok k w.heap.size (m * P.cellsOf e) (.slice (some ⟨w.heap.size,0,none⟩) m c) m) (w.alloc (.cells cur e)) where
 fx b o hF:=by
  rcases hF with hF | ⟨rfl,hF⟩
  . rw [zA0 (w:=w) (h.fx b o hF)]; exact h.fx b o hF
  . have : o < cur.size:=by rw [hc]; exact Nat.lt_of_lt_of_le hF (Nat.mul_le_mul_right _ hm)
    have h2:=zCP (w:=w) (t:=e) (Array.getElem?_eq_getElem this)
    exact Option.isSome_iff_exists.2 ⟨_,h2⟩
 ho q ρ hq:=by
  by_cases e' : q = k
  . subst e'
    simp only [updR,if_true] at hq
    cases hq
    refine ⟨by simp [Sg.tok],.inr ⟨w.heap.size,c,cur,by simp [Sg.tok],by simp [Sg.tok],heap_alloc_new w _,hm,hmx,hc,fun o ho hF => ?_⟩⟩
    rcases hF with hF | ⟨_,hF⟩
    . obtain ⟨v,hv⟩:=Option.isSome_iff_exists.1 (h.fx _ o hF)
      have:=block_lt_of_cell hv
      simp at this
    . omega
  . simp only [updR,if_neg e'] at hq
    refine (h.ho q ρ hq).keep hx (fun hXq => e' (hX q hXq)) (by simp [Sg.tok,e']) (by simp [Sg.tok,e']) (fun n hn => hf q ρ e' hq n hn) (fun b hb => Below.heap_alloc w _ _ ((h.ho q ρ hq).lt hb)) (fun b o hb hF => ?_)
    rcases hF with hF | ⟨rfl,_⟩
    . exact hF
    . have:=(h.ho q ρ hq).lt hb; omega
 bs q ρ b hq hb:=by
  by_cases e' : q = k
  . subst e'
    simp only [updR,if_true] at hq
    cases hq
    simp only [Sg.bk,Sg.tok,if_true] at hb
    cases hb; exact .inl hB
  . simp only [updR,if_neg e'] at hq
    rw [zBX e'] at hb
    exact h.bs q ρ b hq hb
 dj q r ρ ρ' b hq hr hqb hrb:=by
  by_cases e1 : q = k <;> by_cases e2 : r = k
  . rw [e1,e2]
  . simp only [updR,if_neg e2] at hr
    rw [zBX e2] at hrb
    subst e1
    simp only [updR,if_true] at hq
    cases hq
    simp only [Sg.bk,Sg.tok,if_true] at hqb
    cases hqb
    have:=(h.ho r ρ' hr).lt hrb
    omega
  . simp only [updR,if_neg e1] at hq
    rw [zBX e1] at hqb
    subst e2
    simp only [updR,if_true] at hr
    cases hr
    simp only [Sg.bk,Sg.tok,if_true] at hrb
    cases hrb
    have:=(h.ho q ρ hq).lt hqb
    omega
  . simp only [updR,if_neg e1] at hq
    simp only [updR,if_neg e2] at hr
    rw [zBX e1] at hqb
    rw [zBX e2] at hrb
    exact h.dj q r ρ ρ' b hq hr hqb hrb
end
section
variable {X : Cx} {nn : Nat} {st : Vst nn} {o : Oper} {K : Vst nn -> Prop}
theorem opOk_lit0 {t e : TypeId} {by_ d : Nat} (ho : o.op = .buildSlice t 0 #[]) (hd : o.dst = some d) (hdl : Nat.ble d 999999 = true) (he : z6 X.P t = some (e,by_))
 (hK : K (((st.kill d).res d (.tok e 0)).put (some d) (.own d e []))) : OpOk X o st K:=by
 intro s w a hI N Q hP hN
 obtain ⟨hu,hlay,i,z,hi,hz,hb,hpos,hzs,hsz⟩:=zCn he
 have ha : (Instr.buildSlice t 0 #[]).run X.P w = .ok (.slice (some ⟨w.heap.size,0,none⟩) 0 0) (w.alloc (.cells #[] e)):=by
  simp [Instr.buildSlice,run_underlying hu,sizeOf,typeInfo,hi,Instr.fill,newRow]
  have hr0 : Array.map (fun _ : Nat => (default : Value)) (Array.range 0) = #[]:=by apply Array.ext <;> simp
  rw [hr0]
 unfold Oper.wp
 have hrun : (execOp a.eval o).run X.P w = .ok (.value (.slice (some ⟨w.heap.size,0,none⟩) 0 0)) (w.alloc (.cells #[] e)):=by simp [execOp,ho,ha]
 rw [hrun,Oper.upon_value,hd]
 have hI':=hI.kill d
 have hkeep : Keeps s.F (s.tok d w.heap.size (0 * X.P.cellsOf e) (.slice (some ⟨w.heap.size,0,none⟩) 0 0) 0).F w (w.alloc (.cells #[] e)):=zH5 hI.mem _ e _
 have hext : Ext (fun m => m = d) s w (s.tok d w.heap.size (0 * X.P.cellsOf e) (.slice (some ⟨w.heap.size,0,none⟩) 0 0) 0) (w.alloc (.cells #[] e)):=
  ⟨hkeep,fun _ _ => rfl,fun q hq => .inl (by simp only [Sg.tok]; rw [if_neg hq])⟩
 have hmem:=hI'.mem.tokNew0 hI.base (k:=d) (fun m => m = d) (fun _ h => h) free_kill (cur:=#[]) (c:=0) (m:=0) (by simp) (Nat.le_refl _) (Nat.zero_le _) hext
 refine hN _ _ _ _ (Inv.put (st:=(st.kill d).res d (.tok e 0)) (v:=.own d e []) ⟨hI.sz,fun i hi => ?_,hI.df,hI.fr.trans (zDX w _ _) (q:=fun _ => False) (fun _ h => h.elim),hI.kp.trans hkeep,fun b o hb hnp hF => ?_,hmem,hI.pe.ext hext fun m hm => by subst hm; exact Nat.le_of_ble_eq_true hdl⟩ (some d) ?_) hK
 . exact rel.ext hext _ _ (zA8 (hI.tm i hi)).1 fun n hn => by subst hn; exact (zA8 (hI.tm i hi)).2
 . rcases hF with hF | ⟨rfl,_⟩
   . exact hI.nf b o hb hnp hF
   . have:=hI.base; omega
 . rw [rel]
   exact ⟨zB2 (l:=[]) (Nat.le_refl _) (Nat.zero_le _) fun k hk => absurd hk (Nat.not_lt_zero k),by simp [Sg.tok],fun _ => by simp [Sg.tok]⟩
theorem zD0 {t e : TypeId} {by_ k : Nat} {x y : Operand} {l : List D} (ho : o.op = .call { callee:=.builtin .append,args:=#[x,y],argTypes:=#[t,t] }) (he : z6 X.P t = some (e,by_))
 (hx : ev st x = .own k e l) (hy : (ev st y).out = .sl e []) (hK : K (st.put o.dst (.own k e l))) : OpOk X o st K:=by
 intro s w a hI N Q hP hN
 obtain ⟨hu,hlay,i,z,hi,hz,hb,hsp,hzs,hsz⟩:=zCn he
 have hxe:=hI.ev x
 rw [hx,rel] at hxe
 obtain ⟨k1,A,c1,hA,hc1,-,-,-⟩:=id hxe.1
 unfold Oper.wp
 have hye:=rel.out _ _ (hI.ev y)
 rw [hy,rel] at hye
 obtain ⟨k2,A2,c2,hy2,-,-,-,-⟩:=hye
 have hrun : (Builtin.append_ #[t,t] o.type #[a.eval x,a.eval y]).run X.P w = .ok (a.eval x) w:=by
  rw [hA,hy2]
  have hsz : (sizeOf e).run X.P w = .ok (X.P.cellsOf e) w:=by simp [sizeOf,typeInfo,hi,hsz]
  have hld : ∀ q,(loadCells q 0).run X.P w = .ok #[] w:=fun q => by simp [loadCells,loadCellsFrom]
  cases A <;> cases A2 <;> simp [Builtin.append_,run_underlying hu,hsz,Builtin.lenOf,Builtin.firstCells,storeCells,hld,Nat.not_lt.2 hc1]
 rw [zBf ho hrun,Oper.upon_value]
 refine hN _ _ _ _ (hI.put o.dst ?_) hK
 rw [rel]
 exact hxe
theorem res_same0 {k : Nat} {ρ : Res} (h : st.rs k = some ρ) : st.res k ρ = st:=by
 have e : (st.res k ρ).rs = st.rs:=funext fun m => by
  show updR st.rs k ρ m = _
  unfold updR
  split
  . rename_i e; rw [e,h]
  . rfl
 calc st.res k ρ = ⟨(st.res k ρ).tm,(st.res k ρ).rs⟩:=rfl
  _ = st:=by rw [e]; rfl
theorem zHG {t e : TypeId} {by_ k : Nat} {x y : Operand} {l l2 : List D} (ho : o.op = .call { callee:=.builtin .append,args:=#[x,y],argTypes:=#[t,t] }) (he : z6 X.P t = some (e,by_))
 (hleaf : ∀ d,(cellsV X.P 12 e d).all V.leaf = true) (hx : ev st x = .own k e l) (hr : st.rs k = some (.tok e l.length)) (hy : (ev st y).out = .sl e l2) (hlen : l.length + l2.length <= maxLen) (hby : (l.length + l2.length) * by_ <= 140737488355328)
 (hK : K ((st.res k (.tok e (l.length + l2.length))).put o.dst (.own k e (l ++ l2)))) : OpOk X o st K:=by
 rcases Nat.eq_zero_or_pos l2.length with h0 | h0
 . have hl0 : l2 = []:=List.eq_nil_of_length_eq_zero h0
   subst hl0
   rw [List.length_nil,Nat.add_zero,res_same0 hr,List.append_nil] at hK
   exact zD0 ho he hx hy hK
 . exact zAg ho he hleaf hx hr hy h0 hlen hby hK
end
section
variable {X : Cx} {nn : Nat} {st : Vst nn} {ops : Array Oper} {o : Oper}
def Fresh (st : Vst nn) (d : Nat) : Prop:=(∀ i,(st.tm i).free d = true) /\ ∀ m ρ,st.rs m = some ρ -> m ≠ d /\ ρ.free d = true
theorem zFT {d : Nat} (h : Fresh st d) : st.kill d = st:=by
 have e1 : (st.kill d).tm = st.tm:=funext fun i => by
  show zH4 d (st.tm i) = _
  unfold zH4; rw [if_pos (h.1 i)]
 have e2 : (st.kill d).rs = st.rs:=funext fun m => by
  unfold Vst.kill
  dsimp only
  cases hm : st.rs m with
  | none => split <;> rfl
  | some ρ =>
    have:=h.2 m ρ hm
    rw [if_neg this.1]
    simp [this.2]
 calc st.kill d = ⟨(st.kill d).tm,(st.kill d).rs⟩:=rfl
  _ = st:=by rw [e1,e2]
theorem zH0 {t : TypeId} {d : Nat} {vs : List V} {K : Vst nn -> Prop} (ho : o.op = .alloc t) (hd : o.dst = some d) (hdl : Nat.ble d 999999 = true) (hc : zEM X.P t = some vs) (hf : freeL d vs = true) (hfr : Fresh st d)
 (hK : K ((st.res d (.box t vs)).put (some d) (.bx d 0))) : OpOk X o st K:=by
 refine zDk ho hd hdl hc hf ?_
 rw [zFT hfr]; exact hK
theorem zHQ {d : Nat} {t : Option Tmp} {v : V} {u : List (Nat × Res)} (h : Fresh st d) (hv : v.free d = true) (hu : ∀ p ∈ u,p.1 ≠ d /\ p.2.free d = true) : Fresh (stp st t v u) d:=by
 unfold stp
 have hr : ∀ m ρ,updL st.rs u m = some ρ -> m ≠ d /\ ρ.free d = true:=by
  intro m ρ hm
  induction u with
  | nil => exact h.2 m ρ hm
  | cons x u ih =>
    obtain ⟨k,ρ'⟩:=x
    change (if m = k then some ρ' else updL st.rs u m) = some ρ at hm
    split at hm
    . rename_i e
      cases hm
      have:=hu (k,ρ) (List.mem_cons_self ..)
      exact ⟨by rw [e]; exact this.1,this.2⟩
    . exact ih (fun p hp => hu p (List.mem_cons_of_mem _ hp)) hm
 cases t with
 | none => exact ⟨h.1,hr⟩
 | some t =>
   refine ⟨fun i => ?_,hr⟩
   show (if i = t then v else st.tm i).free d = true
   split
   . exact hv
   . exact h.1 i
theorem fresh_put {d : Nat} {t : Option Tmp} {v : V} (h : Fresh st d) (hv : v.free d = true) : Fresh (st.put t v) d:=zHQ (u:=[]) h hv (fun _ hp => by cases hp)
theorem fresh_res {d m : Nat} {ρ : Res} (h : Fresh st d) (hm : Nat.beq m d = false) (hv : ρ.free d = true) : Fresh (st.res m ρ) d:=by
 refine ⟨h.1,fun q ρ' hq => ?_⟩
 change updR st.rs m ρ q = some ρ' at hq
 unfold updR at hq
 split at hq
 . rename_i e
   cases hq
   subst e
   exact ⟨fun e2 => by rw [e2] at hm; simp at hm,hv⟩
 . exact h.2 q ρ' hq
theorem fresh_S {d : Nat} {cs : List (Nat × V)} {R : List (Nat × Res)} (h : (cs.all (fun p => p.2.free d) && R.all fun p => !(Nat.beq p.1 d) && p.2.free d) = true) : Fresh (stS nn cs R) d:=by
 rw [Bool.and_eq_true,List.all_eq_true,List.all_eq_true] at h
 refine ⟨fun i => ?_,fun m ρ hm => ?_⟩
 . simp only [stS]
   split
   . rename_i p hp; exact h.1 p (List.mem_of_find?_eq_some hp)
   . rfl
 . simp only [stS] at hm
   split at hm
   . rename_i p hp
     have he:=List.find?_some hp
     simp at he
     cases hm
     have:=h.2 p (List.mem_of_find?_eq_some hp)
     rw [Bool.and_eq_true] at this
     refine ⟨fun e => ?_,this.2⟩
     rw [he,e] at this
     simp at this
   . cases hm
theorem opOk_lit0F {t e : TypeId} {by_ d : Nat} {K : Vst nn -> Prop} (ho : o.op = .buildSlice t 0 #[]) (hd : o.dst = some d) (hdl : Nat.ble d 999999 = true) (he : z6 X.P t = some (e,by_)) (hfr : Fresh st d)
 (hK : K ((st.res d (.tok e 0)).put (some d) (.own d e []))) : OpOk X o st K:=by
 refine opOk_lit0 ho hd hdl he ?_
 rw [zFT hfr]; exact hK
def nfB (fr : List Nat) (v : V) (u : List (Nat × Res)) : Bool:=fr.all fun d => v.free d && u.all fun p => !(Nat.beq p.1 d) && p.2.free d
inductive YldA (X : Cx) (ops : Array Oper) (fr rd wr : List Nat) (o : Oper) (st : Vst nn) : V -> List (Nat × Res) -> Prop where
 | old {v : V} {u : List (Nat × Res)} (h : YldG X ops rd wr o st v u) (hf : nfB fr v u = true) : YldA X ops fr rd wr o st v u
 | alloc {t : TypeId} {d : Nat} {vs : List V} (hg : o.guard = none) (ho : o.op = .alloc t) (hd : o.dst = some d) (hdl : Nat.ble d 999999 = true) (hc : zEM X.P t = some vs) (hfd : freeL d vs = true) (hw : wr.contains d = true) (hf : nfB fr (.bx d 0) [(d,.box t vs)] = true) : YldA X ops fr rd wr o st (.bx d 0) [(d,.box t vs)]
 | lit0 {t e : TypeId} {by_ d : Nat} (hg : o.guard = none) (ho : o.op = .buildSlice t 0 #[]) (hd : o.dst = some d) (hdl : Nat.ble d 999999 = true) (he : z6 X.P t = some (e,by_)) (hw : wr.contains d = true) (hf : nfB fr (.own d e []) [(d,.tok e 0)] = true) : YldA X ops fr rd wr o st (.own d e []) [(d,.tok e 0)]
 | app {t e : TypeId} {by_ k : Nat} {x y : Operand} {l l2 : List D} (hg : o.guard = none) (hw : wr.contains k = true) (ho : o.op = .call { callee:=.builtin .append,args:=#[x,y],argTypes:=#[t,t] }) (he : z6 X.P t = some (e,by_)) (hleaf : ∀ d,(cellsV X.P 12 e d).all V.leaf = true)
    (hx : ev st x = .own k e l) (hr : st.rs k = some (.tok e l.length)) (hy : (ev st y).out = .sl e l2) (hp : l.length + l2.length <= maxLen /\ (l.length + l2.length) * by_ <= 140737488355328) (hf : nfB fr (.own k e (l ++ l2)) [(k,.tok e (l.length + l2.length))] = true) :
    YldA X ops fr rd wr o st (.own k e (l ++ l2)) [(k,.tok e (l.length + l2.length))]
theorem YldA.of {fr rd wr : List Nat} {d : Option Tmp} {v v' : V} {u u' : List (Nat × Res)} (hd : ∀ t,d = some t -> t ∉ o.looksAt ops) (hu : Off rd wr u') :
 YldA X ops fr rd wr o (stp st d v' u') v u ↔ YldA X ops fr rd wr o st v u:=by
 have evs : ∀ x ∈ o.op.operands,ev (stp st d v' u') x = ev st x:=fun x hx => zEr fun t ht hxt => hd t ht (by
  subst hxt
  exact List.mem_append_left _ (List.mem_filterMap.2 ⟨.tmp t,by simpa using hx,rfl⟩))
 have hrs : ∀ n,wr.contains n = true -> (stp st d v' u').rs n = st.rs n:=fun n hn => by
  rw [zCZ]; exact zD7 hu (.inr hn)
 constructor
 . intro h
   cases h with
   | old h hf => exact .old ((YldG.of hd hu).1 h) hf
   | alloc hg ho hd' hdl hc hfd hw hf => exact .alloc hg ho hd' hdl hc hfd hw hf
   | lit0 hg ho hd' hdl he hw hf => exact .lit0 hg ho hd' hdl he hw hf
   | app hg hw ho he hleaf hx hr hy hp hf =>
     rw [evs _ (by rw [ho]; simp [Op.operands,Call.operands])] at hx
     rw [evs _ (by rw [ho]; simp [Op.operands,Call.operands])] at hy
     rw [hrs _ hw] at hr
     exact .app hg hw ho he hleaf hx hr hy hp hf
 . intro h
   cases h with
   | old h hf => exact .old ((YldG.of hd hu).2 h) hf
   | alloc hg ho hd' hdl hc hfd hw hf => exact .alloc hg ho hd' hdl hc hfd hw hf
   | lit0 hg ho hd' hdl he hw hf => exact .lit0 hg ho hd' hdl he hw hf
   | app hg hw ho he hleaf hx hr hy hp hf =>
     rw [<- evs _ (by rw [ho]; simp [Op.operands,Call.operands])] at hx
     rw [<- evs _ (by rw [ho]; simp [Op.operands,Call.operands])] at hy
     rw [<- hrs _ hw] at hr
     exact .app hg hw ho he hleaf hx hr hy hp hf
theorem YldA.names {fr rd wr : List Nat} {v : V} {u : List (Nat × Res)} (h : YldA X ops fr rd wr o st v u) : ∀ p ∈ u,wr.contains p.1 = true:=by
 cases h with
 | old h hf => exact h.names
 | alloc hg ho hd' hdl hc hfd hw hf => exact fun p hp => by simp at hp; subst hp; exact hw
 | lit0 hg ho hd' hdl he hw hf => exact fun p hp => by simp at hp; subst hp; exact hw
 | app hg hw ho he hleaf hx hr hy hp hf => exact fun p hp => by simp at hp; subst hp; exact hw
theorem YldA.nf {fr rd wr : List Nat} {v : V} {u : List (Nat × Res)} (h : YldA X ops fr rd wr o st v u) : nfB fr v u = true:=by
 cases h with
 | old h hf => exact hf
 | alloc hg ho hd' hdl hc hfd hw hf => exact hf
 | lit0 hg ho hd' hdl he hw hf => exact hf
 | app hg hw ho he hleaf hx hr hy hp hf => exact hf
theorem nfB_ok {fr : List Nat} {v : V} {u : List (Nat × Res)} (h : nfB fr v u = true) {d : Nat} (hd : d ∈ fr) : v.free d = true /\ ∀ p ∈ u,p.1 ≠ d /\ p.2.free d = true:=by
 have:=List.all_eq_true.1 h d hd
 rw [Bool.and_eq_true,List.all_eq_true] at this
 refine ⟨this.1,fun p hp => ?_⟩
 have h2:=this.2 p hp
 rw [Bool.and_eq_true] at h2
 exact ⟨fun e => by rw [e] at h2; simp at h2,h2.2⟩
variable {fr rd wr : Nat -> List Nat}
def aOpH (X : Cx) (ops : Array Oper) (fr rd wr : Nat -> List Nat) (i : Nat) (K : Vst nn -> Prop) (st : Vst nn) : Prop:=
 match ops[i]? with
 | none => K st
 | some o => ∃ v u,YldA X ops (fr i) (rd i) (wr i) o st v u /\ K (stp st o.dst v u)
theorem aOpH_mono {i : Nat} {K K' : Vst nn -> Prop} (h : ∀ st,K st -> K' st) (hh : aOpH X ops fr rd wr i K st) : aOpH X ops fr rd wr i K' st:=by
 unfold aOpH at *
 split
 . rename_i hn; simp only [hn] at hh; exact h _ hh
 . rename_i o ho
   simp only [ho] at hh
   obtain ⟨v,u,h1,h2⟩:=hh
   exact ⟨v,u,h1,h _ h2⟩
def absAnyH (X : Cx) (ops : Array Oper) (fr rd wr : Nat -> List Nat) (Q : Vst nn -> Prop) : Nat -> Array Bool -> Vst nn -> Prop
 | 0,listed,st => Region.ready .any ops listed = [] /\ Q st
 | fuel + 1,listed,st => (Region.ready .any ops listed = [] -> Q st) /\ ∀ i ∈ Region.ready .any ops listed,aOpH X ops fr rd wr i (absAnyH X ops fr rd wr Q fuel (listed.setIfInBounds i true)) st
theorem aOpH_put {i j : Nat} {oi oj : Oper} {v : V} {u : List (Nat × Res)} (hj : ops[j]? = some oj) (hap : oi.apart ops oj = true) (hn : zBv (wr i) (rd j) = true /\ zBv (wr i) (wr j) = true /\ zBv (wr j) (rd i) = true) {K : Vst nn -> Prop} (hy : YldA X ops (fr i) (rd i) (wr i) oi st v u) (h : aOpH X ops fr rd wr j K (stp st oi.dst v u)) :
 aOpH X ops fr rd wr j (fun st' => YldA X ops (fr i) (rd i) (wr i) oi st' v u /\ K (stp st' oi.dst v u)) st:=by
 obtain ⟨h1,h2,h3⟩:=Oper.apart_spec hap
 unfold aOpH at *
 simp only [hj] at *
 obtain ⟨v',u',hy',hK⟩:=h
 have hu : Off (rd j) (wr j) u:=fun p hp => by
  have hw:=hy.names p hp
  refine ⟨?_,?_⟩
  . cases hq : (rd j).contains p.1
    . rfl
    . exact (zAa hn.1 hw hq).elim
  . cases hq : (wr j).contains p.1
    . rfl
    . exact (zAa hn.2.1 hw hq).elim
 have hyj : YldA X ops (fr j) (rd j) (wr j) oj st v' u':=(YldA.of h1 hu).1 hy'
 have hu' : Off (rd i) (wr i) u':=fun p hp => by
  have hw:=hyj.names p hp
  refine ⟨?_,?_⟩
  . cases hq : (rd i).contains p.1
    . rfl
    . exact (zAa hn.2.2 hw hq).elim
  . cases hq : (wr i).contains p.1
    . rfl
    . exact (zAa hn.2.1 hq hw).elim
 have huu : ∀ p ∈ u,∀ q ∈ u',p.1 ≠ q.1:=fun p hp q hq e => by
  have h5:=hy.names p hp
  have h6:=hyj.names q hq
  rw [<- e] at h6
  exact zAa hn.2.1 h5 h6
 exact ⟨v',u',hyj,(YldA.of h3 hu').2 hy,by rw [<- zES h2 huu]; exact hK⟩
theorem zGl {Q : Vst nn -> Prop} {i : Nat} {oi : Oper} {v : V} {u : List (Nat × Res)} (hi : ops[i]? = some oi) (hN : zB9 ops rd wr = true) :
 ∀ (fuel : Nat) (listed : Array Bool) (st : Vst nn),Closed ops listed -> (∀ j,j < i -> listed.getD j false = true) ->
   (∀ j oj,ops[j]? = some oj -> j ≠ i -> listed.getD j true = false -> (∀ e ∈ oj.after,Region.binds .any e = true -> e.on ≠ i) -> oi.apart ops oj = true) ->
   i ∈ Region.ready .any ops listed -> YldA X ops (fr i) (rd i) (wr i) oi st v u ->
   absAnyH X ops fr rd wr Q fuel (listed.setIfInBounds i true) (stp st oi.dst v u) -> absAnyH X ops fr rd wr Q (fuel + 1) listed st:=by
 intro fuel
 induction fuel with
 | zero =>
   intro listed st _ _ _ hr hy H
   refine ⟨fun h => (by rw [h] at hr; cases hr),fun j hj => ?_⟩
   by_cases hji : j = i
   . subst hji; unfold aOpH; simp only [hi]; exact ⟨v,u,hy,H⟩
   . have:=ready_mono hj hji
     rw [H.1] at this
     cases this
 | succ fuel ih =>
   intro listed st hcl hlow hfree hr hy H
   refine ⟨fun h => (by rw [h] at hr; cases hr),fun j hj => ?_⟩
   by_cases hji : j = i
   . subst hji; unfold aOpH; simp only [hi]; exact ⟨v,u,hy,H⟩
   . have h1:=H.2 j (ready_mono hj hji)
     obtain ⟨hjun,oj,hoj,hall⟩:=mem_ready.1 hj
     have hiun:=(mem_ready.1 hr).1
     have hnot : ∀ e ∈ oj.after,Region.binds .any e = true -> e.on ≠ i:=fun e he hb heq => by
      have h1:=hall e he hb
      rw [heq] at h1
      exact zAT hiun h1
     have hij : i < j:=by
      rcases Nat.lt_trichotomy i j with h | h | h
      . exact h
      . exact absurd h.symm hji
      . exact (zAT hjun (hlow j h)).elim
     have hsz : j < ops.size:=(Array.getElem?_eq_some_iff.1 hoj).1
     have hnm : zBv (wr i) (rd j) = true /\ zBv (wr i) (wr j) = true /\ zBv (wr j) (rd i) = true:=by
      have h2:=List.all_eq_true.1 (List.all_eq_true.1 hN j (List.mem_range.2 hsz)) i (List.mem_range.2 hij)
      rw [Bool.or_eq_true] at h2
      rcases h2 with h2 | h2
      . simp only [Bool.and_eq_true] at h2; exact ⟨h2.1.1,h2.1.2,h2.2⟩
      . refine (zAT hiun (zDV hcl _ _ (fun k hk => ?_) i (by simpa using h2))).elim
        unfold zE9 at hk
        rw [hoj] at hk
        obtain ⟨e,he,rfl⟩:=List.mem_map.1 hk
        obtain ⟨h2,h3⟩:=List.mem_filter.1 he
        exact hall e (by simpa using h2) h3
     have h2:=aOpH_put (i:=i) hoj (hfree j oj hoj hji hjun hnot) hnm hy h1
     have hfree' : ∀ k ok,ops[k]? = some ok -> k ≠ i -> (listed.setIfInBounds j true).getD k true = false ->
      (∀ e ∈ ok.after,Region.binds .any e = true -> e.on ≠ i) -> oi.apart ops ok = true:=fun k ok hk hki hun hno => by
      refine hfree k ok hk hki ?_ hno
      by_cases hjk : j = k
      . subst hjk; exact hjun
      . rw [getD_set_ne true hjk] at hun; exact hun
     refine aOpH_mono (fun st' h3 => ih (listed.setIfInBounds j true) st' (hcl.set hj) (fun k hk => getD_set_true (hlow k hk)) hfree' (ready_mono hr (Ne.symm hji)) h3.1 ?_) h2
     rw [Array.setIfInBounds_comm _ _ hji]
     exact h3.2
def absLexH (X : Cx) (ops : Array Oper) (fr rd wr : Nat -> List Nat) (Q : Vst nn -> Prop) : Nat -> List Oper -> Vst nn -> Prop
 | _,[],st => Q st
 | k,o :: rest,st => ∃ v u,YldA X ops (fr k) (rd k) (wr k) o st v u /\ absLexH X ops fr rd wr Q (k + 1) rest (stp st o.dst v u)
theorem zE8 {Q : Vst nn -> Prop} (hN : zB9 ops rd wr = true) : ∀ (l : List Oper) (k : Nat) (listed : Array Bool) (st : Vst nn),(∀ j,l[j]? = ops[k + j]?) -> Closed ops listed -> (∀ j,j < k -> listed.getD j false = true) -> listed.size = ops.size ->
 Region.lexFrom .any ops l.length k listed = true -> absLexH X ops fr rd wr Q k l st -> absAnyH X ops fr rd wr Q l.length listed st
 | [],_,_,_,_,_,_,_,hB,h => ⟨by simpa [Region.lexFrom] using hB,h⟩
 | o :: l,k,listed,st,hl,hcl,hlow,hsz,hB,h => by
   have h0 : ops[k]? = some o:=by simpa using (hl 0).symm
   have hk : k < ops.size:=(Array.getElem?_eq_some_iff.1 h0).1
   simp only [List.length_cons,Region.lexFrom,Bool.and_eq_true] at hB
   obtain ⟨⟨hr,hf⟩,hB'⟩:=hB
   have hr : k ∈ Region.ready .any ops listed:=by simpa using hr
   obtain ⟨v,u,hy,hK⟩:=h
   exact zGl h0 hN l.length listed st hcl hlow (Region.free_spec h0 hf) hr hy
    (zE8 hN l (k + 1) _ _ (fun j => by have:=hl (j + 1); simpa [Nat.add_assoc,Nat.add_comm 1 j] using this) (hcl.set hr) (fun j hj => by
      by_cases e : j = k
      . subst e; exact zCH (by omega)
      . exact getD_set_true (hlow j (by omega))) (by simpa using hsz) hB' hK)
def frOf (ops : Array Oper) (R : List (Nat × Nat)) (j : Nat) : List Nat:=(R.filter fun p => !(Nat.beq p.1 j) && !(reachS ops ops.size (zE9 ops j)).contains p.1).map (·.2)
theorem zDN (R : List (Nat × Nat)) (hR : ∀ i o t d,ops[i]? = some o -> (o.op = .alloc t \/ o.op = .buildSlice t 0 #[]) -> o.dst = some d -> (i,d) ∈ R) {Q : Vst nn -> Prop} {Q' : Exit -> Act -> World -> Prop} (hP : PQ X nn Q') (hQ : ∀ st' s' w' a',Inv X st' s' w' a' -> Q st' -> Q' .normal a' w') : ∀ (fuel : Nat) (listed : Array Bool) (st : Vst nn) (s : Sg) (w : World) (a : Act),Closed ops listed -> (∀ p ∈ R,listed.getD p.1 true = false -> Fresh st p.2) -> Inv X st s w a ->
 absAnyH X ops (frOf ops R) rd wr Q fuel listed st -> wpAny X.P .any ops Q' fuel listed a w
 | 0,_,_,_,_,_,_,_,hI,h => ⟨h.1,hQ _ _ _ _ hI h.2⟩
 | fuel + 1,listed,st,s,w,a,hcl,hfr,hI,h => ⟨fun h0 => hQ _ _ _ _ hI (h.1 h0),fun i hi => by
   have h1:=h.2 i hi
   obtain ⟨hiun,oi,hoi,hall⟩:=mem_ready.1 hi
   unfold aOpH at h1
   unfold wpOp
   simp only [hoi] at h1 |-
   obtain ⟨v,u,hy,hK⟩:=h1
   have hnf:=hy.nf
   have hfr' : ∀ p ∈ R,(listed.setIfInBounds i true).getD p.1 true = false -> Fresh (stp st oi.dst v u) p.2:=fun p hp hl => by
    have hne : p.1 ≠ i:=fun e => by
     rw [e] at hl
     have hsz : i < listed.size \/ ¬ i < listed.size:=Nat.lt_or_ge i listed.size |>.imp id fun h => by omega
     rw [Array.getD_eq_getD_getElem?,Array.getElem?_setIfInBounds] at hl
     rcases hsz with hsz | hsz
     . simp [hsz] at hl
     . simp [hsz] at hl
    have hl2 : listed.getD p.1 true = false:=by rwa [getD_set_ne true (Ne.symm hne)] at hl
    have hmem : p.2 ∈ frOf ops R i:=by
     refine List.mem_map.2 ⟨p,List.mem_filter.2 ⟨hp,?_⟩,rfl⟩
     rw [Bool.and_eq_true]
     refine ⟨by cases hb : Nat.beq p.1 i; rfl; exact (hne (Nat.eq_of_beq_eq_true hb)).elim,?_⟩
     rw [Bool.not_eq_true']
     cases hq : (reachS ops ops.size (zE9 ops i)).contains p.1
     . rfl
     . refine (zAT hl2 (zDV hcl _ _ (fun k hk => ?_) p.1 (by simpa using hq))).elim
       unfold zE9 at hk
       rw [hoi] at hk
       obtain ⟨e,he,rfl⟩:=List.mem_map.1 hk
       obtain ⟨h2,h3⟩:=List.mem_filter.1 he
       exact hall e (by simpa using h2) h3
    have:=nfB_ok hnf hmem
    exact zHQ (hfr p hp hl2) this.1 this.2
   have go : ∀ {st' : Vst nn} {s' w' a'},Inv X st' s' w' a' -> (absAnyH X ops (frOf ops R) rd wr Q fuel (listed.setIfInBounds i true) st' /\ ∀ p ∈ R,(listed.setIfInBounds i true).getD p.1 true = false -> Fresh st' p.2) -> wpAny X.P .any ops Q' fuel (listed.setIfInBounds i true) a' w':=
    fun hI' hK' => zDN R hR hP hQ fuel _ _ _ _ _ (hcl.set hi) hK'.2 hI' hK'.1
   cases hy with
   | old hy hf =>
     rcases hy with ⟨hg,hy⟩ | ⟨hg,rfl,rfl⟩
     . rw [if_pos (zGJ hg hI)]
       exact .inl (zHF (K:=fun st' => absAnyH X ops (frOf ops R) rd wr Q fuel (listed.setIfInBounds i true) st' /\ ∀ p ∈ R,(listed.setIfInBounds i true).getD p.1 true = false -> Fresh st' p.2) hy ⟨hK,hfr'⟩ s w a hI _ _ hP fun st' s' w' a' hI' hK' => go hI' hK')
     . rw [if_neg (by rw [zGJ hg hI]; simp)]
       exact go (hI.put oi.dst (by simp [rel])) ⟨hK,hfr'⟩
   | alloc hg ho hd hdl hc hfd hw hf =>
     rename_i t d vs
     rw [if_pos (zGJ (by simp [gw,hg]) hI)]
     have hst : stp st oi.dst (.bx d 0) [(d,.box t vs)] = ((st.res d (.box t vs)).put (some d) (.bx d 0)):=by rw [zB1,hd]
     refine .inl (zH0 (K:=fun st' => absAnyH X ops (frOf ops R) rd wr Q fuel (listed.setIfInBounds i true) st' /\ ∀ p ∈ R,(listed.setIfInBounds i true).getD p.1 true = false -> Fresh st' p.2) ho hd hdl hc hfd (hfr _ (hR i oi t d hoi (.inl ho) hd) hiun) ?_ s w a hI _ _ hP fun st' s' w' a' hI' hK' => go hI' hK')
     rw [<- hst]
     exact ⟨hK,hfr'⟩
   | lit0 hg ho hd hdl he hw hf =>
     rename_i t e by_ d
     rw [if_pos (zGJ (by simp [gw,hg]) hI)]
     have hst : stp st oi.dst (.own d e []) [(d,.tok e 0)] = ((st.res d (.tok e 0)).put (some d) (.own d e [])):=by rw [zB1,hd]
     refine .inl (opOk_lit0F (K:=fun st' => absAnyH X ops (frOf ops R) rd wr Q fuel (listed.setIfInBounds i true) st' /\ ∀ p ∈ R,(listed.setIfInBounds i true).getD p.1 true = false -> Fresh st' p.2) ho hd hdl he (hfr _ (hR i oi t d hoi (.inr ho) hd) hiun) ?_ s w a hI _ _ hP fun st' s' w' a' hI' hK' => go hI' hK')
     rw [<- hst]
     exact ⟨hK,hfr'⟩
   | app hg hw ho he hleaf hx hr hy hp hf =>
     rename_i t e by_ k x y l l2
     rw [if_pos (zGJ (by simp [gw,hg]) hI)]
     have hst : stp st oi.dst (.own k e (l ++ l2)) [(k,.tok e (l.length + l2.length))] = ((st.res k (.tok e (l.length + l2.length))).put oi.dst (.own k e (l ++ l2))):=zB1
     refine .inl (zHG (K:=fun st' => absAnyH X ops (frOf ops R) rd wr Q fuel (listed.setIfInBounds i true) st' /\ ∀ p ∈ R,(listed.setIfInBounds i true).getD p.1 true = false -> Fresh st' p.2) ho he hleaf hx hr hy hp.1 hp.2 ?_ s w a hI _ _ hP fun st' s' w' a' hI' hK' => go hI' hK')
     rw [<- hst]
     exact ⟨hK,hfr'⟩⟩
theorem aw_drawH (r w : List (Nat × List Nat)) (R : List (Nat × Nat)) {id : Nat} {l : List Oper} {K : Exit -> Vst nn -> Prop} (hm : X.P.follows .mixedOrders = true) (hB : Region.lexB .any l.toArray = true) (hN : zB9 l.toArray (nmf r) (nmf w) = true)
 (hR : ∀ i o t d,l.toArray[i]? = some o -> (o.op = .alloc t \/ o.op = .buildSlice t 0 #[]) -> o.dst = some d -> (i,d) ∈ R) (hF : ∀ p ∈ R,Fresh st p.2) (h : absLexH X l.toArray (frOf l.toArray R) (nmf r) (nmf w) (K .normal) 0 l st) : AW X (.region id l.toArray true) st K:=fun s wd a hI => by
 simp only [Region.lexB,Bool.and_eq_true] at hB
 have hlow : ∀ k,(Array.replicate l.toArray.size false).getD k false = false:=fun k => by
  rw [Array.getD_eq_getD_getElem?,Array.getElem?_replicate]
  split <;> rfl
 refine wp_region_any hm (zDN R hR (rd:=nmf r) (wr:=nmf w) (Q:=K .normal) (fun pv st' s' w' a' hI' hp => ⟨st',s',hI',.inr ⟨pv,rfl,hp⟩⟩) (fun st' s' w' a' hI' hK => ⟨st',s',hI',.inl hK⟩) _ _ st s _ a (fun k o _ hk => by rw [hlow k] at hk; cases hk) (fun p hp _ => hF p hp) hI.drew ?_)
 have:=zE8 (X:=X) (fr:=frOf l.toArray R) (rd:=nmf r) (wr:=nmf w) (Q:=K .normal) hN l 0 (Array.replicate l.toArray.size false) st (by simp) (fun k o _ hk => by rw [hlow k] at hk; cases hk) (fun j hj => absurd hj (Nat.not_lt_zero j)) (by simp) (by simpa using hB.2) h
 simpa using this
def allocsB (ops : Array Oper) (R : List (Nat × Nat)) : Bool:=(List.range ops.size).all fun i => match ops[i]? with
 | some o => (match o.op,o.dst with | .alloc _,some d => R.contains (i,d) | .buildSlice _ _ _,some d => R.contains (i,d) | _,_ => true)
 | none => true
theorem allocsB_ok {R : List (Nat × Nat)} (h : allocsB ops R = true) : ∀ i o t d,ops[i]? = some o -> (o.op = .alloc t \/ o.op = .buildSlice t 0 #[]) -> o.dst = some d -> (i,d) ∈ R:=fun i o t d hi ho hd => by
 have:=List.all_eq_true.1 h i (List.mem_range.2 (Array.getElem?_eq_some_iff.1 hi).1)
 rw [hi] at this
 rcases ho with ho | ho
 . simp only [ho,hd] at this
   simpa using this
 . simp only [ho,hd] at this
   simpa using this
theorem zEK (r w : List (Nat × List Nat)) (R : List (Nat × Nat)) {id : Nat} {l : List Oper} {K : Exit -> Vst nn -> Prop} (hm : X.P.follows .mixedOrders = true) (hB : Region.lexB .any l.toArray = true) (hN : zB9 l.toArray (nmf r) (nmf w) = true)
 (hA : allocsB l.toArray R = true) (hF : ∀ p ∈ R,Fresh st p.2) (h : absLexH X l.toArray (frOf l.toArray R) (nmf r) (nmf w) (K .normal) 0 l st) : AW X (.region id l.toArray true) st K:=
 aw_drawH r w R hm hB hN (allocsB_ok hA) hF h
section
variable {l : List Oper} {Q : Vst nn -> Prop} {d : Option Tmp} {k : Nat}
theorem h_nil (h : Q st) : absLexH X ops fr rd wr Q k [] st:=h
theorem h_val {p : Prop} {v : V} (hg : o.guard = none) (hd : o.dst = d) (h : act1 X.P st.rs (ev st) o.op = .val p v) (hf : nfB (fr k) v [] = true) (hK : absLexH X ops fr rd wr Q (k + 1) l (st.put d v)) (hp : p) (hl : inO (rd k) (loads (ev st) o.op) = true) : absLexH X ops fr rd wr Q k (o :: l) st:=
 ⟨v,[],.old (.inl ⟨by simp [gw,hg],.val h hp hl⟩) hf,by rw [hd]; exact hK⟩
theorem zGI {t : TypeId} {m : Nat} {vs : List V} (hg : o.guard = none) (ho : o.op = .alloc t) (hd : o.dst = some m) (hdl : Nat.ble m 999999 = true) (hc : zEM X.P t = some vs) (hfd : freeL m vs = true) (hw : (wr k).contains m = true) (hf : nfB (fr k) (.bx m 0) [(m,.box t vs)] = true)
 (hK : absLexH X ops fr rd wr Q (k + 1) l ((st.res m (.box t vs)).put (some m) (.bx m 0))) : absLexH X ops fr rd wr Q k (o :: l) st:=
 ⟨_,_,.alloc hg ho hd hdl hc hfd hw hf,by rw [zB1,hd]; exact hK⟩
theorem zGH {t : TypeId} {x y : Operand} {m off : Nat} {t' : TypeId} {vs xs : List V} (hg : o.guard = none) (ho : o.op = .store t x y) (hd : o.dst = none) (hx : ev st x = .bx m off) (hw : (wr k).contains m = true) (hr : st.rs m = some (.box t' vs)) (hc : cellsOf (ev st y) = some xs)
 (hs : X.P.cellsOf t = xs.length /\ (X.P.info? t).isSome) (hl : Nat.ble (off + xs.length) vs.length = true) (hf : nfB (fr k) .any [(m,.box t' (splice vs off xs))] = true) (hK : absLexH X ops fr rd wr Q (k + 1) l (st.res m (.box t' (splice vs off xs)))) : absLexH X ops fr rd wr Q k (o :: l) st:=
 ⟨_,_,.old (.inl ⟨by simp [gw,hg],.store hw ho hd hx hr hc hs (Nat.le_of_ble_eq_true hl)⟩) hf,by rw [hd,zB1]; exact hK⟩
end
end
end Go.Proofs.YthjiclhfhjdjpaaGreatDoor
namespace Go.Proofs.YthjiclhfhjdjpaaGreatDoor
open Go.RowKit
set_option linter.unusedSectionVars false
attribute [local irreducible] wpList Calls Code.wp AW AWo OpOk seqK zAI zAO loopK endK AC zp Yld Sub
attribute [local irreducible] ACB ACX ACE absLexG YldG absLexH
theorem zGi {i n : Nat} (h : i < n) : 0 <= (i : Int) /\ (i : Int) < (n : Int):=⟨Int.natCast_nonneg i,Int.ofNat_lt.2 h⟩
theorem zH7 (a : Int) : AC EN5 Tryz.prog 285 [.c (.int .i64 a),.c (.int .i64 a)] (.c (.int .i64 0)):=by
 have f1 : decide (a < a) = false:=decide_eq_false (by omega)
 have f2 : decide (a > a) = false:=decide_eq_false (by omega)
 refine zF 11 Tryz.func285 rfl rfl rfl rfl ?_
 intro s w he
 repeat' (first
|apply zE
 . conv => lhs; whnf
 . assumption
|refine zA ?_
|refine zB ?_
|refine zG ?_
|apply aw_1
 conv => whnf
 refine ⟨?_,trivial⟩
|apply s_1
 conv => whnf; arg 1; arg 4; arg 3; whnf
 refine ⟨?_,?_⟩
|refine zC ?_
|refine ⟨_,by conv => lhs; whnf; arg 2; whnf,?_⟩; conv => rhs; whnf
|exact trivial)
theorem zHK : ∀ l : List UInt8,Op.bytesLess l l = false
 | [] => rfl
 | c :: r => by
   have:=zHK r
   unfold Op.bytesLess
   simp [this]
theorem strs_ac (a : ByteArray) : AC EN5 Tryz.prog 286 [.c (.string a),.c (.string a)] (.c (.int .i64 0)):=by
 have f1:=zHK a.toList
 have f2 : (!(Op.bytesLess a.toList a.toList || a.toList == a.toList)) = false:=by simp
 refine zF 11 Tryz.func286 rfl rfl rfl rfl ?_
 intro s w he
 repeat' (first
|apply zE
 . conv => lhs; whnf
 . assumption
|refine zA ?_
|refine zB ?_
|refine zG ?_
|apply aw_1
 conv => whnf
 refine ⟨?_,trivial⟩
|apply s_1
 conv => whnf; arg 1; arg 4; arg 3; whnf
 refine ⟨?_,?_⟩
|refine zC ?_
|refine ⟨_,by conv => lhs; whnf; arg 2; whnf,?_⟩; conv => rhs; whnf
|exact trivial)
def keyK (d : D) (i : Nat) : ByteArray:=if i < (d.f 4).l.length then (gD (d.f 4).l i).s else { data:=#[] }
theorem keyK_ac (d : D) (i : Nat) : AC EN5 Tryz.prog 287 [.agg (cellsV Tryz.prog 12 84 d),.c (.int .i64 (i : Int))] (.c (.string (keyK d i))):=by
 unfold keyK
 by_cases h : i < (d.f 4).l.length
 . have f1 : decide ((i : Int) < ((d.f 4).l.length : Nat)) = true:=decide_eq_true (by omega)
   rw [if_pos h]
   refine zF 15 Tryz.func287 rfl rfl rfl rfl ?_
   intro s w he
   repeat' (first
|apply zJ
 . conv => lhs; whnf
 . assumption
|refine zA ?_
|refine zB ?_
|refine zG ?_
|apply aw_1
 conv => whnf
 refine ⟨?_,trivial⟩
|apply s_1
 conv => whnf; arg 1; arg 4; arg 3; whnf
 refine ⟨?_,?_⟩
|apply zAV rfl rfl rfl rfl
 . conv => lhs; whnf; arg 1; whnf
 . rfl
|refine zU ?_
|refine zC ?_
|refine ⟨_,by conv => lhs; whnf; arg 2; whnf,?_⟩; conv => rhs; whnf
|exact trivial)
   all_goals first
    | exact zGi h
    | rfl
 . have f1 : decide ((i : Int) < ((d.f 4).l.length : Nat)) = false:=decide_eq_false (by omega)
   rw [if_neg h]
   refine zF 15 Tryz.func287 rfl rfl rfl rfl ?_
   intro s w he
   repeat' (first
|apply zE
 . conv => lhs; whnf
 . assumption
|refine zA ?_
|refine zB ?_
|refine zG ?_
|apply aw_1
 conv => whnf
 refine ⟨?_,trivial⟩
|apply s_1
 conv => whnf; arg 1; arg 4; arg 3; whnf
 refine ⟨?_,?_⟩
|apply zAV rfl rfl rfl rfl
 . conv => lhs; whnf; arg 1; whnf
 . rfl
|refine zC ?_
|refine ⟨_,by conv => lhs; whnf; arg 2; whnf,?_⟩; conv => rhs; whnf
|exact trivial)
noncomputable def HCm (d : D) (i : Nat) : Vst 70:=stS 70 [(2,.bx 2 0),(3,.bx 3 0),(5,.c (.int .i64 0)),(6,.c (.int .i64 (i : Int)))] [(2,.box 84 (cellsV Tryz.prog 12 84 d)),(3,.box 84 (cellsV Tryz.prog 12 84 d))]
theorem cmp_ac : ∀ (k : Nat) (d : D),Dp k d -> bulkD d <= 1000000000 -> AC EN5 Tryz.prog 215 [.agg (cellsV Tryz.prog 12 84 d),.agg (cellsV Tryz.prog 12 84 d)] (.c (.int .i64 0))
 | 0,_,h,_ => h.elim
 | k + 1,d,h,hw => by
   have hin:=bk_in hw
   have hl:=hin.items
   have ih:=fun i (hi : i < (d.f 3).l.length) => cmp_ac k (gD (d.f 3).l i) (h i hi) (by have:=hin.at_ i hi; omega)
   have h1:=zH7 (d.f 0).n
   have h2:=zH7 (d.f 1).n
   have h3:=strs_ac (d.f 2).s
   have h4:=zH7 ((d.f 3).l.length : Nat)
   refine zF 70 Tryz.func215 rfl rfl rfl rfl ?_
   intro s w he
   repeat' (first
|refine zA ?_
|refine zB ?_
|refine zG ?_
|apply aw_1
 conv => whnf
 refine ⟨?_,trivial⟩
|apply s_1
 conv => whnf; arg 1; arg 4; arg 3; whnf
 refine ⟨?_,?_⟩
|apply ze rfl
 . conv => lhs; whnf
 . conv => lhs; whnf
 . first | exact h1 | exact h2 | exact h3
|apply zAV rfl rfl rfl rfl
 . conv => lhs; whnf; arg 1; whnf
 . rfl
|exact trivial)
   refine zu (fun j st => ∃ i,i + j = (d.f 3).l.length /\ Sub (cx EN5 Tryz.prog s w he) st (HCm d i)) (d.f 3).l.length ⟨0,by omega,Sub.live ⟨rfl,rfl,rfl,rfl,trivial⟩ ⟨rfl,rfl,trivial⟩⟩ ?_
   rintro j st ⟨i,hij,hs2⟩
   refine zn hs2 ?_
   clear hs2 h1 h2 h3
   by_cases hi : i < (d.f 3).l.length
   . have f0 : decide ((i : Int) >= ((d.f 3).l.length : Nat)) = false:=decide_eq_false (by omega)
     have k0 : (decide ((i : Int) >= ((d.f 3).l.length : Nat)) == false) = false -> False:=fun h => by rw [f0] at h; cases h
     have ih2:=ih i hi
     have hk:=keyK_ac d i
     have hks:=strs_ac (keyK d i)
     repeat' (first
|apply zE
 . conv => lhs; whnf
 . assumption
|exact (k0 ‹_›).elim
|refine zA ?_
|refine zB ?_
|refine zG ?_
|refine zb ?_
|apply aw_1
 conv => whnf
 refine ⟨?_,trivial⟩
|apply zV rfl rfl
 . conv => lhs; whnf
 . conv => lhs; whnf
 . first | exact bF1 ‹_› | exact bF2 ‹_›
|apply s_1
 conv => whnf; arg 1; arg 4; arg 3; whnf
 refine ⟨?_,?_⟩
|apply zD rfl
 . conv => lhs; whnf
 . conv => lhs; whnf
 . first | rfl | assumption
 . conv => lhs; whnf; arg 2; whnf
|apply zT rfl
 . conv => lhs; whnf
 . conv => lhs; whnf
 . conv => lhs; whnf; arg 2; whnf
|apply zBY (by kernel_rfl) (by kernel_rfl)
|apply zDz
|apply zDy rfl
 . conv => lhs; whnf
 . conv => lhs; whnf; arg 2; whnf
|apply y_call rfl
 . conv => lhs; whnf
 . conv => lhs; whnf
 . first | exact ih2 | exact hk | exact hks
|exact zAK
|exact zA1
|exact (1000000 : Nat)
|exact trivial
|intro hg)
     all_goals first
      | exact zS (by omega)
      | exact zGi hi
      | exact zL (j':=j - 1) (by omega) ⟨i + 1,by omega,Sub.live ⟨rfl,rfl,rfl,rfl,trivial⟩ ⟨rfl,rfl,trivial⟩⟩
   . have f0 : decide ((i : Int) >= ((d.f 3).l.length : Nat)) = true:=decide_eq_true (by omega)
     have k0 : (decide ((i : Int) >= ((d.f 3).l.length : Nat)) == false) = true -> False:=fun h => by rw [f0] at h; cases h
     repeat' (first
|exact (k0 ‹_›).elim
|refine zA ?_
|refine zB ?_
|refine zG ?_
|apply aw_1
 conv => whnf
 refine ⟨?_,trivial⟩
|apply zY rfl rfl
 . conv => lhs; whnf
 . conv => lhs; whnf
 . first | exact bT1 ‹_› | exact bT2 ‹_›
|apply s_1
 conv => whnf; arg 1; arg 4; arg 3; whnf
 refine ⟨?_,?_⟩
|apply ze rfl
 . conv => lhs; whnf
 . conv => lhs; whnf
 . first | exact h4
|apply zd rfl
 . conv => lhs; whnf
 . conv => lhs; whnf
 . first | rfl | assumption
|apply zT rfl
 . conv => lhs; whnf
 . conv => lhs; whnf
 . conv => lhs; whnf; arg 2; whnf
|refine zU ?_
|refine za ?_
|refine zAQ ?_
|refine zC ?_
|refine ⟨_,by conv => lhs; whnf; arg 2; whnf,?_⟩; conv => rhs; whnf
|exact trivial
|intro hg)
theorem same_ac (d : D) (hw : bulkD d <= 1000000000) : AC EN5 Tryz.prog 137 [.agg (cellsV Tryz.prog 12 84 d),.agg (cellsV Tryz.prog 12 84 d)] (.c (.bool true)):=by
 have h:=cmp_ac _ d (dp_bulk (bulkD d) d (Nat.le_refl _)) hw
 refine zF 9 Tryz.func137 rfl rfl rfl rfl ?_
 intro s w he
 repeat' (first
|refine zA ?_
|refine zB ?_
|refine zG ?_
|apply aw_1
 conv => whnf
 refine ⟨?_,trivial⟩
|apply s_1
 conv => whnf; arg 1; arg 4; arg 3; whnf
 refine ⟨?_,?_⟩
|apply ze rfl
 . conv => lhs; whnf
 . conv => lhs; whnf
 . first | exact h
|apply zAV rfl rfl rfl rfl
 . conv => lhs; whnf; arg 1; whnf
 . rfl
|refine zC ?_
|refine ⟨_,by conv => lhs; whnf; arg 2; whnf,?_⟩; conv => rhs; whnf
|exact trivial)
 rfl
noncomputable def HWr (l : List D) (i : Nat) : Vst 26:=stS 26 [(0,.sl 3 l),(1,.sl 3 l),(5,.c (.int .i64 (i : Int)))] []
theorem wraps_ac (l : List D) (hl : l.length <= 1000000000) : AC EN5 Tryz.prog 140 [.sl 3 l,.sl 3 l] (.c (.bool true)):=by
 have f0 : ((l.length : Int) != (l.length : Int)) = false:=by simp
 refine zF 26 Tryz.func140 rfl rfl rfl rfl ?_
 intro s w he
 repeat' (first
|apply zE
 . conv => lhs; whnf
 . assumption
|refine zA ?_
|refine zB ?_
|refine zG ?_
|apply aw_1
 conv => whnf
 refine ⟨?_,trivial⟩
|apply s_1
 conv => whnf; arg 1; arg 4; arg 3; whnf
 refine ⟨?_,?_⟩
|exact trivial)
 refine zu (fun j st => ∃ i,i + j = l.length /\ Sub (cx EN5 Tryz.prog s w he) st (HWr l i)) l.length ⟨0,by omega,Sub.live ⟨rfl,rfl,rfl,trivial⟩ trivial⟩ ?_
 rintro j st ⟨i,hij,hs2⟩
 refine zn hs2 ?_
 clear hs2
 by_cases hi : i < l.length
 . have f1 : decide ((i : Int) < (l.length : Nat)) = true:=decide_eq_true (by omega)
   have f2 : ((gD l i).n != (gD l i).n) = false:=by simp
   repeat' (first
|apply zJ
 . conv => lhs; whnf
 . assumption
|apply zE
 . conv => lhs; whnf
 . assumption
|refine zA ?_
|refine zB ?_
|refine zG ?_
|refine zb ?_
|apply aw_1
 conv => whnf
 refine ⟨?_,trivial⟩
|apply s_1
 conv => whnf; arg 1; arg 4; arg 3; whnf
 refine ⟨?_,?_⟩
|apply zBY (by kernel_rfl) (by kernel_rfl)
|apply zDz
|apply zDy rfl
 . conv => lhs; whnf
 . conv => lhs; whnf; arg 2; whnf
|exact zAK
|exact zA1
|exact (1000000 : Nat)
|exact trivial)
   all_goals first
    | exact zS (by omega)
    | exact zGi hi
    | exact zL (j':=j - 1) (by omega) ⟨i + 1,by omega,Sub.live ⟨rfl,rfl,rfl,trivial⟩ trivial⟩
 . have f1 : decide ((i : Int) < (l.length : Nat)) = false:=decide_eq_false (by omega)
   repeat' (first
|apply zE
 . conv => lhs; whnf
 . assumption
|refine zA ?_
|refine zB ?_
|refine zG ?_
|apply aw_1
 conv => whnf
 refine ⟨?_,trivial⟩
|apply s_1
 conv => whnf; arg 1; arg 4; arg 3; whnf
 refine ⟨?_,?_⟩
|refine zP ?_
|refine zM rfl ?_
|refine zW ?_
|refine zC ?_
|refine ⟨_,by conv => lhs; whnf; arg 2; whnf,?_⟩; conv => rhs; whnf
|exact trivial)
theorem zFJ (d : D) (hl : (d.f 1).l.length <= 1000000000) : AC EN5 Tryz.prog 72 [.agg (cellsV Tryz.prog 12 71 d),.agg (cellsV Tryz.prog 12 71 d)] (.c (.bool true)):=by
 have h:=wraps_ac (d.f 1).l hl
 have f0 : ((d.f 0).s.toList == (d.f 0).s.toList) = true:=by simp
 have k0 : (((d.f 0).s.toList == (d.f 0).s.toList) == true) = false -> False:=fun h => by rw [f0] at h; cases h
 refine zF 17 Tryz.func72 rfl rfl rfl rfl ?_
 intro s w he
 repeat' (first
|exact (k0 ‹_›).elim
|refine zA ?_
|refine zB ?_
|refine zG ?_
|apply aw_1
 conv => whnf
 refine ⟨?_,trivial⟩
|apply zY rfl rfl
 . conv => lhs; whnf
 . conv => lhs; whnf
 . first | exact bT1 ‹_› | exact bT2 ‹_›
|apply s_1
 conv => whnf; arg 1; arg 4; arg 3; whnf
 refine ⟨?_,?_⟩
|apply zAV rfl rfl rfl rfl
 . conv => lhs; whnf; arg 1; whnf
 . rfl
|apply zD rfl
 . conv => lhs; whnf
 . conv => lhs; whnf
 . first | rfl | assumption
 . conv => lhs; whnf; arg 2; whnf
|apply zl rfl
 . conv => lhs; whnf
 . conv => lhs; whnf
 . first | rfl | assumption
 . conv => lhs; whnf
 . first | exact h
|apply zT rfl
 . conv => lhs; whnf
 . conv => lhs; whnf
 . conv => lhs; whnf; arg 2; whnf
|refine zC ?_
|refine ⟨_,by conv => lhs; whnf; arg 2; whnf,?_⟩; conv => rhs; whnf
|exact trivial
|intro hg)
noncomputable def HAr (l : List D) (i : Nat) : Vst 42:=stS 42 [(0,.sl 86 l),(1,.sl 86 l),(5,.c (.int .i64 (i : Int)))] []
theorem zEW (l : List D) (hw : bulkL l <= 1000000000) : AC EN5 Tryz.prog 138 [.sl 86 l,.sl 86 l] (.c (.bool true)):=by
 have hl:=zAj l
 have f0 : ((l.length : Int) != (l.length : Int)) = false:=by simp
 refine zF 42 Tryz.func138 rfl rfl rfl rfl ?_
 intro s w he
 repeat' (first
|apply zE
 . conv => lhs; whnf
 . assumption
|refine zA ?_
|refine zB ?_
|refine zG ?_
|apply aw_1
 conv => whnf
 refine ⟨?_,trivial⟩
|apply s_1
 conv => whnf; arg 1; arg 4; arg 3; whnf
 refine ⟨?_,?_⟩
|exact trivial)
 refine zu (fun j st => ∃ i,i + j = l.length /\ Sub (cx EN5 Tryz.prog s w he) st (HAr l i)) l.length ⟨0,by omega,Sub.live ⟨rfl,rfl,rfl,trivial⟩ trivial⟩ ?_
 rintro j st ⟨i,hij,hs2⟩
 refine zn hs2 ?_
 clear hs2
 by_cases hi : i < l.length
 . have f1 : decide ((i : Int) < (l.length : Nat)) = true:=decide_eq_true (by omega)
   have hv:=same_ac ((gD l i).f 1) (by have:=zBq hi; have:=zAv (gD l i); have:=wD_f (gD l i) 1; have:=zAv ((gD l i).f 1); omega)
   have f2 : (!(((gD l i).f 0).s.toList == ((gD l i).f 0).s.toList)) = false:=by simp
   have g2 : ((!(((gD l i).f 0).s.toList == ((gD l i).f 0).s.toList)) == false) = true:=by simp
   repeat' (first
|apply zJ
 . conv => lhs; whnf
 . assumption
|refine zA ?_
|refine zB ?_
|refine zG ?_
|refine zb ?_
|apply aw_1
 conv => whnf
 refine ⟨?_,trivial⟩
|apply s_1
 conv => whnf; arg 1; arg 4; arg 3; whnf
 refine ⟨?_,?_⟩
|apply zBY (by kernel_rfl) (by kernel_rfl)
|apply zDz
|apply zCt rfl rfl
 . conv => lhs; whnf
 . conv => lhs; whnf
 . first | exact bF1 ‹_› | exact bF2 ‹_›
|apply zDy rfl
 . conv => lhs; whnf
 . conv => lhs; whnf; arg 2; whnf
|apply zAf rfl
 . conv => lhs; whnf
 . conv => lhs; whnf
 . first | rfl | assumption
 . conv => lhs; whnf; arg 2; whnf
|apply zBb rfl
 . conv => lhs; whnf
 . conv => lhs; whnf
 . first | rfl | assumption
 . conv => lhs; whnf
 . first | exact hv
|exact zAK
|exact ([] : List Nat)
|exact (1000000 : Nat)
|exact trivial)
   all_goals first
    | exact zS (by omega)
    | exact zGi hi
    | exact zL (j':=j - 1) (by omega) ⟨i + 1,by omega,Sub.live ⟨rfl,rfl,rfl,trivial⟩ trivial⟩
 . have f1 : decide ((i : Int) < (l.length : Nat)) = false:=decide_eq_false (by omega)
   repeat' (first
|apply zE
 . conv => lhs; whnf
 . assumption
|refine zA ?_
|refine zB ?_
|refine zG ?_
|apply aw_1
 conv => whnf
 refine ⟨?_,trivial⟩
|apply s_1
 conv => whnf; arg 1; arg 4; arg 3; whnf
 refine ⟨?_,?_⟩
|refine zP ?_
|refine zM rfl ?_
|refine zW ?_
|refine zC ?_
|refine ⟨_,by conv => lhs; whnf; arg 2; whnf,?_⟩; conv => rhs; whnf
|exact trivial)
noncomputable def HDr (l : List D) (i : Nat) : Vst 42:=stS 42 [(0,.sl 150 l),(1,.sl 150 l),(5,.c (.int .i64 (i : Int)))] []
theorem zHu (l : List D) (hw : bulkL l <= 1000000000) : AC EN5 Tryz.prog 139 [.sl 150 l,.sl 150 l] (.c (.bool true)):=by
 have hl:=zAj l
 have f0 : ((l.length : Int) != (l.length : Int)) = false:=by simp
 refine zF 42 Tryz.func139 rfl rfl rfl rfl ?_
 intro s w he
 repeat' (first
|apply zE
 . conv => lhs; whnf
 . assumption
|refine zA ?_
|refine zB ?_
|refine zG ?_
|apply aw_1
 conv => whnf
 refine ⟨?_,trivial⟩
|apply s_1
 conv => whnf; arg 1; arg 4; arg 3; whnf
 refine ⟨?_,?_⟩
|exact trivial)
 refine zu (fun j st => ∃ i,i + j = l.length /\ Sub (cx EN5 Tryz.prog s w he) st (HDr l i)) l.length ⟨0,by omega,Sub.live ⟨rfl,rfl,rfl,trivial⟩ trivial⟩ ?_
 rintro j st ⟨i,hij,hs2⟩
 refine zn hs2 ?_
 clear hs2
 by_cases hi : i < l.length
 . have f1 : decide ((i : Int) < (l.length : Nat)) = true:=decide_eq_true (by omega)
   have hv:=zEW ((gD l i).f 1).l (by have:=zBq hi; have:=zAv (gD l i); have:=wD_f (gD l i) 1; have:=zBh ((gD l i).f 1); omega)
   have f2 : (!(((gD l i).f 0).s.toList == ((gD l i).f 0).s.toList)) = false:=by simp
   have g2 : ((!(((gD l i).f 0).s.toList == ((gD l i).f 0).s.toList)) == false) = true:=by simp
   repeat' (first
|apply zJ
 . conv => lhs; whnf
 . assumption
|refine zA ?_
|refine zB ?_
|refine zG ?_
|refine zb ?_
|apply aw_1
 conv => whnf
 refine ⟨?_,trivial⟩
|apply s_1
 conv => whnf; arg 1; arg 4; arg 3; whnf
 refine ⟨?_,?_⟩
|apply zBY (by kernel_rfl) (by kernel_rfl)
|apply zDz
|apply zCt rfl rfl
 . conv => lhs; whnf
 . conv => lhs; whnf
 . first | exact bF1 ‹_› | exact bF2 ‹_›
|apply zDy rfl
 . conv => lhs; whnf
 . conv => lhs; whnf; arg 2; whnf
|apply zAf rfl
 . conv => lhs; whnf
 . conv => lhs; whnf
 . first | rfl | assumption
 . conv => lhs; whnf; arg 2; whnf
|apply zBb rfl
 . conv => lhs; whnf
 . conv => lhs; whnf
 . first | rfl | assumption
 . conv => lhs; whnf
 . first | exact hv
|exact zAK
|exact ([] : List Nat)
|exact (1000000 : Nat)
|exact trivial)
   all_goals first
    | exact zS (by omega)
    | exact zGi hi
    | exact zL (j':=j - 1) (by omega) ⟨i + 1,by omega,Sub.live ⟨rfl,rfl,rfl,trivial⟩ trivial⟩
 . have f1 : decide ((i : Int) < (l.length : Nat)) = false:=decide_eq_false (by omega)
   repeat' (first
|apply zE
 . conv => lhs; whnf
 . assumption
|refine zA ?_
|refine zB ?_
|refine zG ?_
|apply aw_1
 conv => whnf
 refine ⟨?_,trivial⟩
|apply s_1
 conv => whnf; arg 1; arg 4; arg 3; whnf
 refine ⟨?_,?_⟩
|refine zP ?_
|refine zM rfl ?_
|refine zW ?_
|refine zC ?_
|refine ⟨_,by conv => lhs; whnf; arg 2; whnf,?_⟩; conv => rhs; whnf
|exact trivial)
noncomputable def HSs (l : List D) (i : Nat) : Vst 77:=stS 77 [(0,.sl 76 l),(1,.sl 76 l),(5,.c (.int .i64 (i : Int)))] []
theorem zEV : ∀ (k : Nat) (l : List D),bulkL l <= k -> k <= 1000000000 -> AC EN5 Tryz.prog 71 [.sl 76 l,.sl 76 l] (.c (.bool true)):=by
 intro k
 induction k with
 | zero =>
   intro l hw _
   have hl:=zAj l
   have hn : l = []:=List.eq_nil_of_length_eq_zero (by omega)
   subst hn
   refine zF 77 Tryz.func71 rfl rfl rfl rfl ?_
   intro s w he
   repeat' (first
|refine zA ?_
|refine zB ?_
|refine zG ?_
|apply aw_1
 conv => whnf
 refine ⟨?_,trivial⟩
|apply s_1
 conv => whnf; arg 1; arg 4; arg 3; whnf
 refine ⟨?_,?_⟩
|exact trivial)
   refine zu (fun j st => Sub (cx EN5 Tryz.prog s w he) st (HSs [] 0)) 0 (Sub.live ⟨rfl,rfl,rfl,trivial⟩ trivial) ?_
   rintro j st hs2
   refine zn hs2 ?_
   clear hs2
   repeat' (first
|refine zA ?_
|refine zB ?_
|refine zG ?_
|apply aw_1
 conv => whnf
 refine ⟨?_,trivial⟩
|apply s_1
 conv => whnf; arg 1; arg 4; arg 3; whnf
 refine ⟨?_,?_⟩
|refine zP ?_
|refine zM rfl ?_
|refine zW ?_
|refine zC ?_
|refine ⟨_,by conv => lhs; whnf; arg 2; whnf,?_⟩; conv => rhs; whnf
|exact trivial)
 | succ k ih =>
   intro l hw hk
   have hl:=zAj l
   have f0 : ((l.length : Int) != (l.length : Int)) = false:=by simp
   refine zF 77 Tryz.func71 rfl rfl rfl rfl ?_
   intro s w he
   repeat' (first
|apply zE
 . conv => lhs; whnf
 . assumption
|refine zA ?_
|refine zB ?_
|refine zG ?_
|apply aw_1
 conv => whnf
 refine ⟨?_,trivial⟩
|apply s_1
 conv => whnf; arg 1; arg 4; arg 3; whnf
 refine ⟨?_,?_⟩
|exact trivial)
   refine zu (fun j st => ∃ i,i + j = l.length /\ Sub (cx EN5 Tryz.prog s w he) st (HSs l i)) l.length ⟨0,by omega,Sub.live ⟨rfl,rfl,rfl,trivial⟩ trivial⟩ ?_
   rintro j st ⟨i,hij,hs2⟩
   refine zn hs2 ?_
   clear hs2
   by_cases hi : i < l.length
   . have f1 : decide ((i : Int) < (l.length : Nat)) = true:=decide_eq_true (by omega)
     have b0:=zBq hi
     have b1:=zAv (gD l i)
     have b4:=wD_f (gD l i) 4; have b4':=zBh ((gD l i).f 4)
     have b5:=wD_f (gD l i) 5; have b5':=zBh ((gD l i).f 5)
     have b6:=wD_f (gD l i) 6; have b6':=zBh ((gD l i).f 6)
     have h1:=zEW ((gD l i).f 4).l (by omega)
     have h2:=zHu ((gD l i).f 5).l (by omega)
     have h3:=ih ((gD l i).f 6).l (by omega) (by omega)
     have q0 : (((gD l i).f 0).n != ((gD l i).f 0).n) = false:=by simp
     have q : ∀ a : ByteArray,(!(a.toList == a.toList)) = false:=fun a => by simp
     have f2:=q ((gD l i).f 1).s
     have f3:=q ((gD l i).f 2).s
     have f4:=q ((gD l i).f 3).s
     have k0 : ((((gD l i).f 0).n != ((gD l i).f 0).n) == false) = false -> False:=fun h => by rw [q0] at h; cases h
     have k1 : ((!(((gD l i).f 1).s.toList == ((gD l i).f 1).s.toList)) == false) = false -> False:=fun h => by rw [f2] at h; cases h
     have k2 : ((!(((gD l i).f 2).s.toList == ((gD l i).f 2).s.toList)) == false) = false -> False:=fun h => by rw [f3] at h; cases h
     have k3 : ((!(((gD l i).f 3).s.toList == ((gD l i).f 3).s.toList)) == false) = false -> False:=fun h => by rw [f4] at h; cases h
     repeat' (first
|apply zEK ([]) ([(8,[6]),(9,[7]),(10,[6]),(11,[7])]) ([(8,6),(9,7)]) rfl (by kernel_rfl) (by kernel_rfl) (by kernel_rfl) (by intro p hp; simp only [List.mem_cons,List.not_mem_nil,or_false] at hp; rcases hp with rfl | rfl <;> (repeat' (first | exact fresh_S rfl | refine fresh_put ?_ rfl | refine fresh_res ?_ rfl rfl)))
|apply h_nil
|apply zGI rfl rfl rfl rfl
 . conv => lhs; whnf; arg 1; whnf
 . rfl
 . rfl
 . kernel_rfl
|apply h_val rfl
 . conv => lhs; whnf
 . conv => lhs; whnf; arg 2; whnf
 . kernel_rfl
|apply zGH rfl rfl rfl
 . conv => lhs; whnf
 . rfl
 . conv => lhs; whnf; arg 1; whnf
 . conv => lhs; whnf; arg 1; whnf
 . exact ⟨by kernel_rfl,by kernel_rfl⟩
 . rfl
 . kernel_rfl
|show inO _ _ = true; rfl
|apply zJ
 . conv => lhs; whnf
 . assumption
|exact (k0 ‹_›).elim
|exact (k1 ‹_›).elim
|exact (k2 ‹_›).elim
|exact (k3 ‹_›).elim
|refine zA ?_
|refine zB ?_
|refine zG ?_
|refine zb ?_
|apply aw_1
 conv => whnf
 refine ⟨?_,trivial⟩
|apply zV rfl rfl
 . conv => lhs; whnf
 . conv => lhs; whnf
 . first | exact bF1 ‹_› | exact bF2 ‹_›
|apply s_1
 conv => whnf; arg 1; arg 4; arg 3; whnf
 refine ⟨?_,?_⟩
|apply zD rfl
 . conv => lhs; whnf
 . conv => lhs; whnf
 . first | rfl | assumption
 . conv => lhs; whnf; arg 2; whnf
|apply zl rfl
 . conv => lhs; whnf
 . conv => lhs; whnf
 . first | rfl | assumption
 . conv => lhs; whnf
 . first | exact h1 | exact h2 | exact h3
|apply zT rfl
 . conv => lhs; whnf
 . conv => lhs; whnf
 . conv => lhs; whnf; arg 2; whnf
|exact trivial
|intro hg)
     all_goals first
      | exact zS (by omega)
      | exact zGi hi
      | exact zL (j':=j - 1) (by omega) ⟨i + 1,by omega,Sub.live ⟨rfl,rfl,rfl,trivial⟩ trivial⟩
   . have f1 : decide ((i : Int) < (l.length : Nat)) = false:=decide_eq_false (by omega)
     repeat' (first
|apply zE
 . conv => lhs; whnf
 . assumption
|refine zA ?_
|refine zB ?_
|refine zG ?_
|apply aw_1
 conv => whnf
 refine ⟨?_,trivial⟩
|apply s_1
 conv => whnf; arg 1; arg 4; arg 3; whnf
 refine ⟨?_,?_⟩
|refine zP ?_
|refine zM rfl ?_
|refine zW ?_
|refine zC ?_
|refine ⟨_,by conv => lhs; whnf; arg 2; whnf,?_⟩; conv => rhs; whnf
|exact trivial)
noncomputable def HVs (l : List D) (i : Nat) : Vst 69:=stS 69 [(0,.sl 88 l),(1,.sl 88 l),(5,.c (.int .i64 (i : Int)))] []
theorem zHt (l : List D) (hw : bulkL l <= 1000000000) : AC EN5 Tryz.prog 70 [.sl 88 l,.sl 88 l] (.c (.bool true)):=by
 have hl:=zAj l
 have f0 : ((l.length : Int) != (l.length : Int)) = false:=by simp
 refine zF 69 Tryz.func70 rfl rfl rfl rfl ?_
 intro s w he
 repeat' (first
|apply zE
 . conv => lhs; whnf
 . assumption
|refine zA ?_
|refine zB ?_
|refine zG ?_
|apply aw_1
 conv => whnf
 refine ⟨?_,trivial⟩
|apply s_1
 conv => whnf; arg 1; arg 4; arg 3; whnf
 refine ⟨?_,?_⟩
|exact trivial)
 refine zu (fun j st => ∃ i,i + j = l.length /\ Sub (cx EN5 Tryz.prog s w he) st (HVs l i)) l.length ⟨0,by omega,Sub.live ⟨rfl,rfl,rfl,trivial⟩ trivial⟩ ?_
 rintro j st ⟨i,hij,hs2⟩
 refine zn hs2 ?_
 clear hs2
 by_cases hi : i < l.length
 . have f1 : decide ((i : Int) < (l.length : Nat)) = true:=decide_eq_true (by omega)
   have b0:=zBq hi
   have b1:=zAv (gD l i)
   have b4:=wD_f (gD l i) 1; have b4':=wD_f ((gD l i).f 1) 1; have b4'':=zBh (((gD l i).f 1).f 1); have b44:=zAj (((gD l i).f 1).f 1).l
   have b5:=wD_f (gD l i) 3; have b5':=zAv ((gD l i).f 3)
   have h1:=zFJ ((gD l i).f 1) (by omega)
   have h2:=same_ac ((gD l i).f 3) (by omega)
   have f2 : (!(((gD l i).f 0).s.toList == ((gD l i).f 0).s.toList)) = false:=by simp
   have f3 : (!(((gD l i).f 2).b == ((gD l i).f 2).b)) = false:=by simp
   have g2 : ((!(((gD l i).f 0).s.toList == ((gD l i).f 0).s.toList)) == false) = true:=by simp
   have g3 : ((!(((gD l i).f 2).b == ((gD l i).f 2).b)) == false) = true:=by simp
   repeat' (first
|apply zJ
 . conv => lhs; whnf
 . assumption
|refine zA ?_
|refine zB ?_
|refine zG ?_
|refine zb ?_
|apply aw_1
 conv => whnf
 refine ⟨?_,trivial⟩
|apply s_1
 conv => whnf; arg 1; arg 4; arg 3; whnf
 refine ⟨?_,?_⟩
|apply zBY (by kernel_rfl) (by kernel_rfl)
|apply zDz
|apply zCt rfl rfl
 . conv => lhs; whnf
 . conv => lhs; whnf
 . first | exact bF1 ‹_› | exact bF2 ‹_›
|apply zDy rfl
 . conv => lhs; whnf
 . conv => lhs; whnf; arg 2; whnf
|apply zAf rfl
 . conv => lhs; whnf
 . conv => lhs; whnf
 . first | rfl | assumption
 . conv => lhs; whnf; arg 2; whnf
|apply zBb rfl
 . conv => lhs; whnf
 . conv => lhs; whnf
 . first | rfl | assumption
 . conv => lhs; whnf
 . first | exact h1 | exact h2
|exact zAK
|exact zA1
|exact (1000000 : Nat)
|exact trivial)
   all_goals first
    | exact zS (by omega)
    | exact zGi hi
    | exact (show Tryz.prog.underlying _ = some .bool by kernel_rfl)
    | exact zL (j':=j - 1) (by omega) ⟨i + 1,by omega,Sub.live ⟨rfl,rfl,rfl,trivial⟩ trivial⟩
 . have f1 : decide ((i : Int) < (l.length : Nat)) = false:=decide_eq_false (by omega)
   repeat' (first
|apply zE
 . conv => lhs; whnf
 . assumption
|refine zA ?_
|refine zB ?_
|refine zG ?_
|apply aw_1
 conv => whnf
 refine ⟨?_,trivial⟩
|apply s_1
 conv => whnf; arg 1; arg 4; arg 3; whnf
 refine ⟨?_,?_⟩
|refine zP ?_
|refine zM rfl ?_
|refine zW ?_
|refine zC ?_
|refine ⟨_,by conv => lhs; whnf; arg 2; whnf,?_⟩; conv => rhs; whnf
|exact trivial)
noncomputable def HAk (a b : List D) (i : Nat) : Vst 109:=stS 109 [(2,.bx 2 0),(3,.bx 3 0),(5,.c (.int .i64 (i : Int)))] [(2,.box 41 [.sl 57 a,.sl 116 b]),(3,.box 41 [.sl 57 a,.sl 116 b])]
noncomputable def HAf (a b : List D) (i : Nat) : Vst 109:=stS 109 [(2,.bx 2 0),(3,.bx 3 0),(8,.c (.int .i64 (i : Int)))] [(2,.box 41 [.sl 57 a,.sl 116 b]),(3,.box 41 [.sl 57 a,.sl 116 b])]
theorem zJv (a b : List D) (hwa : bulkL a <= 1000000000) (hwb : bulkL b <= 1000000000) : AC EN5 Tryz.prog 33 [.agg [.sl 57 a,.sl 116 b],.agg [.sl 57 a,.sl 116 b]] (.c (.bool true)):=by
 have hla:=zAj a
 have hlb:=zAj b
 have f0 : ((a.length : Int) != (a.length : Int)) = false:=by simp
 have f01 : ((b.length : Int) != (b.length : Int)) = false:=by simp
 have k0 : (((a.length : Int) != (a.length : Int)) == false) = false -> False:=fun h => by rw [f0] at h; cases h
 refine zF 109 Tryz.func33 rfl rfl rfl rfl ?_
 intro s w he
 repeat' (first
|apply zE
 . conv => lhs; whnf
 . assumption
|exact (k0 ‹_›).elim
|refine zA ?_
|refine zB ?_
|refine zG ?_
|apply aw_1
 conv => whnf
 refine ⟨?_,trivial⟩
|apply zV rfl rfl
 . conv => lhs; whnf
 . conv => lhs; whnf
 . first | exact bF1 ‹_› | exact bF2 ‹_›
|apply s_1
 conv => whnf; arg 1; arg 4; arg 3; whnf
 refine ⟨?_,?_⟩
|apply zAV rfl rfl rfl rfl
 . conv => lhs; whnf; arg 1; whnf
 . rfl
|apply zD rfl
 . conv => lhs; whnf
 . conv => lhs; whnf
 . first | rfl | assumption
 . conv => lhs; whnf; arg 2; whnf
|apply zT rfl
 . conv => lhs; whnf
 . conv => lhs; whnf
 . conv => lhs; whnf; arg 2; whnf
|exact trivial
|intro hg)
 refine zu (fun j st => ∃ i,i + j = a.length /\ Sub (cx EN5 Tryz.prog s w he) st (HAk a b i)) a.length ⟨0,by omega,Sub.live ⟨rfl,rfl,rfl,trivial⟩ ⟨rfl,rfl,trivial⟩⟩ ?_
 rintro j st ⟨i,hij,hs2⟩
 refine zn hs2 ?_
 clear hs2
 by_cases hi : i < a.length
 . have f1 : decide ((i : Int) < (a.length : Nat)) = true:=decide_eq_true (by omega)
   have b0:=zBq hi
   have b1:=zAv (gD a i)
   have b2:=wD_f (gD a i) 2; have b2':=zBh ((gD a i).f 2)
   have b3:=wD_f (gD a i) 3; have b3':=zBh ((gD a i).f 3)
   have h1:=zHt ((gD a i).f 2).l (by omega)
   have h2:=zEV _ ((gD a i).f 3).l (Nat.le_refl _) (by omega)
   have q0 : (((gD a i).f 0).n != ((gD a i).f 0).n) = false:=by simp
   have q1 : (!(((gD a i).f 1).s.toList == ((gD a i).f 1).s.toList)) = false:=by simp
   have k1 : ((((gD a i).f 0).n != ((gD a i).f 0).n) == false) = false -> False:=fun h => by rw [q0] at h; cases h
   have k2 : ((!(((gD a i).f 1).s.toList == ((gD a i).f 1).s.toList)) == false) = false -> False:=fun h => by rw [q1] at h; cases h
   repeat' (first
|apply zEK ([(1,[2]),(6,[3])]) ([(10,[6]),(11,[7]),(12,[6]),(13,[7])]) ([(10,6),(11,7)]) rfl (by kernel_rfl) (by kernel_rfl) (by kernel_rfl) (by intro p hp; simp only [List.mem_cons,List.not_mem_nil,or_false] at hp; rcases hp with rfl | rfl <;> (repeat' (first | exact fresh_S rfl | refine fresh_put ?_ rfl | refine fresh_res ?_ rfl rfl)))
|apply h_nil
|apply zGI rfl rfl rfl rfl
 . conv => lhs; whnf; arg 1; whnf
 . rfl
 . rfl
 . kernel_rfl
|apply h_val rfl
 . conv => lhs; whnf
 . conv => lhs; whnf; arg 2; whnf
 . kernel_rfl
|apply zGH rfl rfl rfl
 . conv => lhs; whnf
 . rfl
 . conv => lhs; whnf; arg 1; whnf
 . conv => lhs; whnf; arg 1; whnf
 . exact ⟨by kernel_rfl,by kernel_rfl⟩
 . rfl
 . kernel_rfl
|show inO _ _ = true; rfl
|apply zJ
 . conv => lhs; whnf
 . assumption
|exact (k1 ‹_›).elim
|exact (k2 ‹_›).elim
|refine zA ?_
|refine zB ?_
|refine zG ?_
|refine zb ?_
|apply aw_1
 conv => whnf
 refine ⟨?_,trivial⟩
|apply zV rfl rfl
 . conv => lhs; whnf
 . conv => lhs; whnf
 . first | exact bF1 ‹_› | exact bF2 ‹_›
|apply s_1
 conv => whnf; arg 1; arg 4; arg 3; whnf
 refine ⟨?_,?_⟩
|apply zD rfl
 . conv => lhs; whnf
 . conv => lhs; whnf
 . first | rfl | assumption
 . conv => lhs; whnf; arg 2; whnf
|apply zl rfl
 . conv => lhs; whnf
 . conv => lhs; whnf
 . first | rfl | assumption
 . conv => lhs; whnf
 . first | exact h1 | exact h2
|apply zT rfl
 . conv => lhs; whnf
 . conv => lhs; whnf
 . conv => lhs; whnf; arg 2; whnf
|exact trivial
|intro hg)
   all_goals first
    | exact zS (by omega)
    | exact zGi hi
    | exact zL (j':=j - 1) (by omega) ⟨i + 1,by omega,Sub.live ⟨rfl,rfl,rfl,trivial⟩ ⟨rfl,rfl,trivial⟩⟩
    | skip
 . have f1 : decide ((i : Int) < (a.length : Nat)) = false:=decide_eq_false (by omega)
   repeat' (first
|apply zE
 . conv => lhs; whnf
 . assumption
|refine zA ?_
|refine zB ?_
|refine zG ?_
|apply aw_1
 conv => whnf
 refine ⟨?_,trivial⟩
|apply s_1
 conv => whnf; arg 1; arg 4; arg 3; whnf
 refine ⟨?_,?_⟩
|refine zP ?_
|refine zM rfl ?_
|refine zW ?_
|exact trivial)
   refine zu (fun j st => ∃ i,i + j = b.length /\ Sub (cx EN5 Tryz.prog s w he) st (HAf a b i)) b.length ⟨0,by omega,Sub.live ⟨rfl,rfl,rfl,trivial⟩ ⟨rfl,rfl,trivial⟩⟩ ?_
   rintro j2 st2 ⟨i2,hij2,hs2⟩
   refine zn hs2 ?_
   clear hs2
   by_cases hi2 : i2 < b.length
   . have f2 : decide ((i2 : Int) < (b.length : Nat)) = true:=decide_eq_true (by omega)
     have b0:=zBq hi2
     have b1:=zAv (gD b i2)
     have b2:=wD_f (gD b i2) 2; have b2':=zBh ((gD b i2).f 2)
     have h2:=zEV _ ((gD b i2).f 2).l (Nat.le_refl _) (by omega)
     have q : ∀ a : ByteArray,(!(a.toList == a.toList)) = false:=fun a => by simp
     have q1:=q ((gD b i2).f 0).s
     have q2:=q ((gD b i2).f 1).s
     have k1 : ((!(((gD b i2).f 0).s.toList == ((gD b i2).f 0).s.toList)) == false) = false -> False:=fun h => by rw [q1] at h; cases h
     have k2 : ((!(((gD b i2).f 1).s.toList == ((gD b i2).f 1).s.toList)) == false) = false -> False:=fun h => by rw [q2] at h; cases h
     repeat' (first
|apply zEK ([(1,[2]),(6,[3])]) ([(10,[9]),(11,[10]),(12,[9]),(13,[10])]) ([(10,9),(11,10)]) rfl (by kernel_rfl) (by kernel_rfl) (by kernel_rfl) (by intro p hp; simp only [List.mem_cons,List.not_mem_nil,or_false] at hp; rcases hp with rfl | rfl <;> (repeat' (first | exact fresh_S rfl | refine fresh_put ?_ rfl | refine fresh_res ?_ rfl rfl)))
|apply h_nil
|apply zGI rfl rfl rfl rfl
 . conv => lhs; whnf; arg 1; whnf
 . rfl
 . rfl
 . kernel_rfl
|apply h_val rfl
 . conv => lhs; whnf
 . conv => lhs; whnf; arg 2; whnf
 . kernel_rfl
|apply zGH rfl rfl rfl
 . conv => lhs; whnf
 . rfl
 . conv => lhs; whnf; arg 1; whnf
 . conv => lhs; whnf; arg 1; whnf
 . exact ⟨by kernel_rfl,by kernel_rfl⟩
 . rfl
 . kernel_rfl
|show inO _ _ = true; rfl
|apply zJ
 . conv => lhs; whnf
 . assumption
|exact (k1 ‹_›).elim
|exact (k2 ‹_›).elim
|refine zA ?_
|refine zB ?_
|refine zG ?_
|refine zb ?_
|apply aw_1
 conv => whnf
 refine ⟨?_,trivial⟩
|apply zV rfl rfl
 . conv => lhs; whnf
 . conv => lhs; whnf
 . first | exact bF1 ‹_› | exact bF2 ‹_›
|apply s_1
 conv => whnf; arg 1; arg 4; arg 3; whnf
 refine ⟨?_,?_⟩
|apply zD rfl
 . conv => lhs; whnf
 . conv => lhs; whnf
 . first | rfl | assumption
 . conv => lhs; whnf; arg 2; whnf
|apply zl rfl
 . conv => lhs; whnf
 . conv => lhs; whnf
 . first | rfl | assumption
 . conv => lhs; whnf
 . first | exact h2
|apply zT rfl
 . conv => lhs; whnf
 . conv => lhs; whnf
 . conv => lhs; whnf; arg 2; whnf
|exact trivial
|intro hg)
     all_goals first
      | exact zS (by omega)
      | exact zGi hi2
      | exact zL (j':=j2 - 1) (by omega) ⟨i2 + 1,by omega,Sub.live ⟨rfl,rfl,rfl,trivial⟩ ⟨rfl,rfl,trivial⟩⟩
      | skip
   . have f2 : decide ((i2 : Int) < (b.length : Nat)) = false:=decide_eq_false (by omega)
     repeat' (first
|apply zE
 . conv => lhs; whnf
 . assumption
|refine zA ?_
|refine zB ?_
|refine zG ?_
|apply aw_1
 conv => whnf
 refine ⟨?_,trivial⟩
|apply s_1
 conv => whnf; arg 1; arg 4; arg 3; whnf
 refine ⟨?_,?_⟩
|refine zP ?_
|refine zM rfl ?_
|refine zW ?_
|refine zC ?_
|refine ⟨_,by conv => lhs; whnf; arg 2; whnf,?_⟩; conv => rhs; whnf
|exact trivial)
end Go.Proofs.YthjiclhfhjdjpaaGreatDoor
namespace Go.Proofs.YthjiclhfhjdjpaaGreatDoor
open Go.RowKit
set_option linter.unusedSectionVars false
def exT : List UInt8:=[113,117,101,114,121,32,113,40,36,110,58,32,73,110,116,32,61,32,49,41,32,123,32,97,58,32,117,115,101,114,40,105,100,58,32,36,110,41,32,123,32,110,97,109,101,32,46,46,46,102,32,125,32,125,32,102,114,97,103,109,101,110,116,32,102,32,111,110,32,85,115,101,114,32,123,32,105,100,32,125]
def exQ : D:=match parseT exT with
 | .ok q => q
 | .error _ => default
theorem ex_parse : parseT exT = .ok exQ:=by kernel_rfl
theorem ex_bad : parseT [123,32,125] = .error (2,3):=by kernel_rfl
end Go.Proofs.YthjiclhfhjdjpaaGreatDoor
namespace Go.Proofs.YthjiclhfhjdjpaaGreatDoor
open Go.RowKit
set_option linter.unusedSectionVars false
attribute [local irreducible] wpList Calls Code.wp AW AWo OpOk seqK zAI zAO loopK endK AC zp Yld Sub
attribute [local irreducible] ACB ACX ACE absLexG YldG absLexH
theorem named_ac (s : ByteArray) : AC EN5 Tryz.prog 73 [.c (.string s)] (.agg (cellsV Tryz.prog 12 71 (.obj [.str s,.list []]))):=by
 refine zF 5 Tryz.func73 rfl rfl rfl rfl ?_
 intro σ w he
 repeat' (first
|apply zAL ((.agg (cellsV Tryz.prog 12 71 (.obj [.str s,.list []])))) rfl rfl
 . conv => lhs; whnf; arg 2; whnf
 . repeat' (first | exact VLe.refl _ | exact VLe.nil _ | exact VLe.lit _ _ | exact VLe.own _ _ _ | apply VLe.agg | apply VLeL.cons | exact VLeL.nil)
|refine zA ?_
|refine zB ?_
|refine zG ?_
|refine zb ?_
|refine k_scope ?_
|apply aw_1
 conv => whnf
 refine ⟨?_,trivial⟩
|apply s_1
 conv => whnf; arg 1; arg 4; arg 3; whnf
 refine ⟨?_,?_⟩
|apply zB6 rfl
 . conv => lhs; whnf
 . conv => lhs; whnf; arg 2; whnf
|apply zA5 rfl rfl rfl rfl
 . conv => lhs; whnf; arg 1; whnf
 . rfl
|apply zI rfl rfl rfl
 . conv => lhs; whnf
 . conv => lhs; whnf; arg 1; whnf
 . conv => lhs; whnf; arg 1; whnf
 . exact ⟨by kernel_rfl,by kernel_rfl⟩
 . rfl
|apply zCE
 . conv => lhs; whnf; arg 1; arg 1; whnf
|apply zAk
 . conv => lhs; whnf; arg 1; arg 1; whnf
|refine zg (by conv => lhs; whnf) ?_ ?_ <;> intro hb
|refine zBa ?_
|refine zIN ?_
|refine zP ?_
|refine zU ?_
|refine za ?_
|refine zM rfl ?_
|refine zHO rfl ?_
|refine zHM ?_
|refine zH6 ?_
|refine zW ?_
|refine zAQ ?_
|refine k_end ?_
|refine zC ?_
|refine ⟨_,by conv => lhs; whnf; arg 2; whnf,?_⟩; conv => rhs; whnf
|exact trivial
|intro hg)
 rfl
end Go.Proofs.YthjiclhfhjdjpaaGreatDoor
namespace Go.Proofs.YthjiclhfhjdjpaaGreatDoor
open Go.RowKit
set_option linter.unusedSectionVars false
attribute [local irreducible] wpList Calls Code.wp AW AWo OpOk seqK zAI zAO loopK endK AC zp Yld Sub
attribute [local irreducible] ACB ACX ACE absLexG YldG absLexU YldU absLexH
def refC (n : List UInt8) (w : List Int) : List V:=[.c (.string (bs n)),.sl 3 (w.map .int)]
theorem zIR (k : Int) (n : List UInt8) (w : List Int) (hw : w.length <= 1000000) : AC EN5 Tryz.prog 356 [.c (.int .i64 k),.agg (refC n w)] (.agg (refC n (k :: w))):=by
 refine zF 13 Tryz.func356 rfl rfl rfl rfl ?_
 intro s0 w0 he
 repeat' (first
|refine zA ?_
|refine zB ?_
|refine zG ?_
|apply aw_1
 conv => whnf
 refine ⟨?_,trivial⟩
|apply s_1
 conv => whnf; arg 1; arg 4; arg 3; whnf
 refine ⟨?_,?_⟩
|apply zAV rfl rfl rfl rfl
 . conv => lhs; whnf; arg 1; whnf
 . rfl
|apply zBY (by kernel_rfl) (by kernel_rfl)
|apply zDz
|apply zDy rfl
 . conv => lhs; whnf
 . conv => lhs; whnf; arg 2; whnf
|apply y_store rfl rfl rfl
 . conv => lhs; whnf
 . rfl
 . rfl
 . conv => lhs; whnf; arg 1; whnf
 . conv => lhs; whnf; arg 1; whnf
 . exact ⟨by kernel_rfl,by kernel_rfl⟩
 . rfl
|apply y_lit1 rfl rfl
 . conv => lhs; whnf
 . first | exact elemInt | (conv => lhs; whnf; arg 1; whnf)
 . conv => lhs; whnf; arg 1; whnf
 . rfl
 . rfl
|apply y_onlit rfl rfl
 . conv => lhs; whnf
 . first | exact elemInt | (conv => lhs; whnf; arg 1; whnf)
 . first | exact fun _ => rfl | (intro _; kernel_rfl)
 . conv => lhs; whnf
 . conv => lhs; whnf
|exact zAK
|show zCs _ _ = true; rfl
|refine zC ?_
|refine ⟨_,by conv => lhs; whnf; arg 2; whnf,?_⟩; conv => rhs; whnf
|exact trivial)
 all_goals first
  | rfl
  | (refine ⟨?_,?_⟩ <;> simp only [List.length_map,List.length_cons,List.length_nil,maxLen] <;> omega)
  | skip
theorem listOfF_ac (n : List UInt8) (w : List Int) (hw : w.length <= 1000000) : AC EN5 Tryz.prog 331 [.agg (refC n w)] (.agg (refC n (2 :: w))):=by
 have h1:=zIR 2 n w hw
 refine zF 5 Tryz.func331 rfl rfl rfl rfl ?_
 intro s0 w0 he
 repeat' (first
|refine zA ?_
|refine zB ?_
|refine zG ?_
|apply aw_1
 conv => whnf
 refine ⟨?_,trivial⟩
|apply s_1
 conv => whnf; arg 1; arg 4; arg 3; whnf
 refine ⟨?_,?_⟩
|apply ze rfl
 . conv => lhs; whnf
 . conv => lhs; whnf
 . first | exact h1
|apply zAV rfl rfl rfl rfl
 . conv => lhs; whnf; arg 1; whnf
 . rfl
|apply zI rfl rfl rfl
 . conv => lhs; whnf
 . conv => lhs; whnf; arg 1; whnf
 . conv => lhs; whnf; arg 1; whnf
 . exact ⟨by kernel_rfl,by kernel_rfl⟩
 . rfl
|refine zC ?_
|refine ⟨_,by conv => lhs; whnf; arg 2; whnf,?_⟩; conv => rhs; whnf
|exact trivial)
 all_goals first
  | rfl
  | skip
theorem isNonF_ac (n : List UInt8) (w : List Int) (h : w.head? ≠ some 1) : AC EN5 Tryz.prog 202 [.agg (refC n w)] (.c (.bool false)):=by
 cases w with
 | nil =>
   refine zF 14 Tryz.func202 rfl rfl rfl rfl ?_
   intro s0 w0 he
   repeat' (first
|refine zA ?_
|refine zB ?_
|refine zG ?_
|apply aw_1
 conv => whnf
 refine ⟨?_,trivial⟩
|apply s_1
 conv => whnf; arg 1; arg 4; arg 3; whnf
 refine ⟨?_,?_⟩
|apply zAV rfl rfl rfl rfl
 . conv => lhs; whnf; arg 1; whnf
 . rfl
|refine zC ?_
|refine ⟨_,by conv => lhs; whnf; arg 2; whnf,?_⟩; conv => rhs; whnf
|exact trivial)
   all_goals first
    | rfl
    | skip
 | cons a r =>
   have ha : (a == 1) = false:=by
    have : a ≠ 1:=fun e => h (by rw [e]; rfl)
    simpa using this
   have hl : decide (((((a :: r).map D.int).length : Nat) : Int) > 0) = true:=decide_eq_true (by simp only [List.length_map,List.length_cons]; omega)
   have g1 : (decide (((((a :: r).map D.int).length : Nat) : Int) > 0) == true) = true:=by rw [hl]; rfl
   have g2 : (decide (((((a :: r).map D.int).length : Nat) : Int) > 0) == true) = false -> False:=fun h => by rw [g1] at h; cases h
   refine zF 14 Tryz.func202 rfl rfl rfl rfl ?_
   intro s0 w0 he
   repeat' (first
|refine zA ?_
|refine zB ?_
|refine zG ?_
|apply aw_1
 conv => whnf
 refine ⟨?_,trivial⟩
|apply zY rfl rfl
 . conv => lhs; whnf
 . conv => lhs; whnf
 . first | exact bT1 ‹_› | exact bT2 ‹_›
|apply s_1
 conv => whnf; arg 1; arg 4; arg 3; whnf
 refine ⟨?_,?_⟩
|apply zAV rfl rfl rfl rfl
 . conv => lhs; whnf; arg 1; whnf
 . rfl
|apply zD rfl
 . conv => lhs; whnf
 . conv => lhs; whnf
 . first | rfl | assumption
 . conv => lhs; whnf; arg 2; whnf
|refine zC ?_
|refine ⟨_,by conv => lhs; whnf; arg 2; whnf,?_⟩; conv => rhs; whnf
|exact trivial)
   all_goals first
    | (show _ = V.c (.bool (a == 1)); rw [ha])
    | exact ⟨by omega,by simp only [List.length_map,List.length_cons]; omega⟩
    | skip
theorem zEe (n : List UInt8) (w : List Int) (hw : w.length <= 1000000) (h : w.head? ≠ some 1) : AC EN5 Tryz.prog 332 [.agg (refC n w)] (.agg (refC n (1 :: w))):=by
 have h1:=zIR 1 n w hw
 have h2:=isNonF_ac n w h
 refine zF 14 Tryz.func332 rfl rfl rfl rfl ?_
 intro s0 w0 he
 repeat' (first
|refine zA ?_
|refine zB ?_
|refine zG ?_
|apply aw_1
 conv => whnf
 refine ⟨?_,trivial⟩
|apply s_1
 conv => whnf; arg 1; arg 4; arg 3; whnf
 refine ⟨?_,?_⟩
|apply ze rfl
 . conv => lhs; whnf
 . conv => lhs; whnf
 . first | exact h1 | exact h2
|apply zAV rfl rfl rfl rfl
 . conv => lhs; whnf; arg 1; whnf
 . rfl
|apply zI rfl rfl rfl
 . conv => lhs; whnf
 . conv => lhs; whnf; arg 1; whnf
 . conv => lhs; whnf; arg 1; whnf
 . exact ⟨by kernel_rfl,by kernel_rfl⟩
 . rfl
|refine zC ?_
|refine ⟨_,by conv => lhs; whnf; arg 2; whnf,?_⟩; conv => rhs; whnf
|exact trivial)
 all_goals first
  | rfl
  | skip
theorem sInt_ac (n : Int) : AC EN5 Tryz.prog 357 [.c (.int .i64 n)] (VV (valD 2 n [] [] [])):=by
 refine zF 5 Tryz.func357 rfl rfl rfl rfl ?_
 intro s w he
 repeat' (first
|apply zAL (VV (valD 2 n [] [] [])) rfl rfl
 . conv => lhs; whnf; arg 2; whnf
 . repeat' (first | exact VLe.refl _ | exact VLe.nil _ | exact VLe.lit _ _ | exact VLe.own _ _ _ | apply VLe.agg | apply VLeL.cons | exact VLeL.nil)
|refine zA ?_
|refine zB ?_
|refine zG ?_
|apply aw_1
 conv => whnf
 refine ⟨?_,trivial⟩
|apply s_1
 conv => whnf; arg 1; arg 4; arg 3; whnf
 refine ⟨?_,?_⟩
|apply zI rfl rfl rfl
 . conv => lhs; whnf
 . conv => lhs; whnf; arg 1; whnf
 . conv => lhs; whnf; arg 1; whnf
 . exact ⟨by kernel_rfl,by kernel_rfl⟩
 . rfl
|refine zC ?_
|refine ⟨_,by conv => lhs; whnf; arg 2; whnf,?_⟩; conv => rhs; whnf
|exact trivial)
 rfl
theorem sText_ac (t : List UInt8) : AC EN5 Tryz.prog 358 [.c (.string (bs t))] (VV (valD 3 0 t [] [])):=by
 refine zF 5 Tryz.func358 rfl rfl rfl rfl ?_
 intro s w he
 repeat' (first
|apply zAL (VV (valD 3 0 t [] [])) rfl rfl
 . conv => lhs; whnf; arg 2; whnf
 . repeat' (first | exact VLe.refl _ | exact VLe.nil _ | exact VLe.lit _ _ | exact VLe.own _ _ _ | apply VLe.agg | apply VLeL.cons | exact VLeL.nil)
|refine zA ?_
|refine zB ?_
|refine zG ?_
|apply aw_1
 conv => whnf
 refine ⟨?_,trivial⟩
|apply s_1
 conv => whnf; arg 1; arg 4; arg 3; whnf
 refine ⟨?_,?_⟩
|apply zI rfl rfl rfl
 . conv => lhs; whnf
 . conv => lhs; whnf; arg 1; whnf
 . conv => lhs; whnf; arg 1; whnf
 . exact ⟨by kernel_rfl,by kernel_rfl⟩
 . rfl
|refine zC ?_
|refine ⟨_,by conv => lhs; whnf; arg 2; whnf,?_⟩; conv => rhs; whnf
|exact trivial)
 rfl
theorem sEnum_ac (t : List UInt8) : AC EN5 Tryz.prog 360 [.c (.string (bs t))] (VV (valD 4 0 t [] [])):=by
 refine zF 5 Tryz.func360 rfl rfl rfl rfl ?_
 intro s w he
 repeat' (first
|apply zAL (VV (valD 4 0 t [] [])) rfl rfl
 . conv => lhs; whnf; arg 2; whnf
 . repeat' (first | exact VLe.refl _ | exact VLe.nil _ | exact VLe.lit _ _ | exact VLe.own _ _ _ | apply VLe.agg | apply VLeL.cons | exact VLeL.nil)
|refine zA ?_
|refine zB ?_
|refine zG ?_
|apply aw_1
 conv => whnf
 refine ⟨?_,trivial⟩
|apply s_1
 conv => whnf; arg 1; arg 4; arg 3; whnf
 refine ⟨?_,?_⟩
|apply zI rfl rfl rfl
 . conv => lhs; whnf
 . conv => lhs; whnf; arg 1; whnf
 . conv => lhs; whnf; arg 1; whnf
 . exact ⟨by kernel_rfl,by kernel_rfl⟩
 . rfl
|refine zC ?_
|refine ⟨_,by conv => lhs; whnf; arg 2; whnf,?_⟩; conv => rhs; whnf
|exact trivial)
 rfl
theorem sBool_ac (b : Bool) : AC EN5 Tryz.prog 359 [.c (.bool b)] (VV (valD 1 (if b = true then 1 else 0) [] [] [])):=by
 refine zF 6 Tryz.func359 rfl rfl rfl rfl ?_
 intro s w he
 repeat' (first
|apply zAL (VV (valD 1 1 [] [] [])) rfl rfl
 . conv => lhs; whnf; arg 2; whnf
 . repeat' (first | exact VLe.refl _ | exact VLe.nil _ | exact VLe.lit _ _ | exact VLe.own _ _ _ | apply VLe.agg | apply VLeL.cons | exact VLeL.nil)
|apply zAL (VV (valD 1 0 [] [] [])) rfl rfl
 . conv => lhs; whnf; arg 2; whnf
 . repeat' (first | exact VLe.refl _ | exact VLe.nil _ | exact VLe.lit _ _ | exact VLe.own _ _ _ | apply VLe.agg | apply VLeL.cons | exact VLeL.nil)
|refine zA ?_
|refine zB ?_
|refine zG ?_
|apply aw_1
 conv => whnf
 refine ⟨?_,trivial⟩
|apply s_1
 conv => whnf; arg 1; arg 4; arg 3; whnf
 refine ⟨?_,?_⟩
|apply zI rfl rfl rfl
 . conv => lhs; whnf
 . conv => lhs; whnf; arg 1; whnf
 . conv => lhs; whnf; arg 1; whnf
 . exact ⟨by kernel_rfl,by kernel_rfl⟩
 . rfl
|refine zg (by conv => lhs; whnf) ?_ ?_ <;> intro hb
|refine zU ?_
|refine zC ?_
|refine ⟨_,by conv => lhs; whnf; arg 2; whnf,?_⟩; conv => rhs; whnf
|exact trivial)
 . rw [hb]; rfl
 . rw [hb]; rfl
noncomputable def HHs (ks : List (List UInt8)) (k : List UInt8) (i : Nat) : Vst 18:=stS 18 [(0,.sl 9 (ks.map strD)),(1,.c (.string (bs k))),(5,.c (.int .i64 (i : Int)))] []
theorem has2_ac (ks : List (List UInt8)) (k : List UInt8) (hk : ks.length <= 1000000) : AC EN5 Tryz.prog 361 [.sl 9 (ks.map strD),.c (.string (bs k))] (.c (.bool (ks.contains k))):=by
 have hR : ks.contains k = (ks.drop 0).contains k:=rfl
 generalize ks.contains k = R at hR |-
 refine zF 18 Tryz.func361 rfl rfl rfl rfl ?_
 intro s0 w he
 repeat' (first
|refine zA ?_
|refine zB ?_
|refine zG ?_
|apply aw_1
 conv => whnf
 refine ⟨?_,trivial⟩
|apply s_1
 conv => whnf; arg 1; arg 4; arg 3; whnf
 refine ⟨?_,?_⟩
|exact trivial)
 refine zu (fun j st => ∃ i,i + j = ks.length /\ R = (ks.drop i).contains k /\ Sub (cx EN5 Tryz.prog s0 w he) st (HHs ks k i)) ks.length ⟨0,by omega,hR,Sub.live ⟨rfl,rfl,rfl,trivial⟩ trivial⟩ ?_
 clear hR
 rintro j st ⟨i,hij,hR,hs2⟩
 refine zn hs2 ?_
 clear hs2
 by_cases hi : i < ks.length
 . have f0 : decide ((i : Int) < (((ks.map strD).length : Nat) : Int)) = true:=decide_eq_true (by rw [List.length_map]; omega)
   have hd : ks.drop i = ks[i] :: ks.drop (i + 1):=List.drop_eq_getElem_cons hi
   rw [hd,List.contains_cons] at hR
   have hq : ((gD (ks.map strD) ((i : Int)).toNat).s.toList == (bs k).toList) = (k == ks[i]):=by
    have e : gD (ks.map strD) ((i : Int)).toNat = strD ks[i]:=by
     show gD (ks.map strD) i = _
     unfold gD
     rw [List.getD_eq_getElem?_getD,List.getElem?_map,List.getElem?_eq_getElem hi]; rfl
    rw [e]
    show ((bs ks[i]).toList == _) = _
    rw [Lib.toList_data,Lib.toList_data,zAE,zAE,Bool.eq_iff_iff,beq_iff_eq,beq_iff_eq]
    exact eq_comm
   generalize (k == ks[i]) = a at hq hR
   repeat' (first
|apply zJ
 . conv => lhs; whnf
 . assumption
|refine zA ?_
|refine zB ?_
|refine zG ?_
|refine zb ?_
|apply aw_1
 conv => whnf
 refine ⟨?_,trivial⟩
|apply s_1
 conv => whnf; arg 1; arg 4; arg 3; whnf
 refine ⟨?_,?_⟩
|refine zg (by conv => lhs; whnf) ?_ ?_ <;> intro hb
|refine zU ?_
|refine za ?_
|refine zAQ ?_
|refine zC ?_
|refine ⟨_,by conv => lhs; whnf; arg 2; whnf,?_⟩; conv => rhs; whnf
|exact trivial)
   all_goals first
    | exact zS (by omega)
    | exact ⟨by omega,by rw [List.length_map]; omega⟩
    | (have e : a = true:=by rw [<- hq]; assumption
       rw [hR,e]; rfl)
    | (have e : a = false:=by rw [<- hq]; assumption
       exact zL (j':=j - 1) (by omega) ⟨i + 1,by omega,by rw [hR,e,Bool.false_or],Sub.live ⟨rfl,rfl,rfl,trivial⟩ trivial⟩)
    | skip
 . have f0 : decide ((i : Int) < (((ks.map strD).length : Nat) : Int)) = false:=decide_eq_false (by rw [List.length_map]; omega)
   have e : ks.drop i = []:=List.drop_of_length_le (by omega)
   rw [e] at hR
   repeat' (first
|apply zE
 . conv => lhs; whnf
 . assumption
|refine zA ?_
|refine zB ?_
|refine zG ?_
|apply aw_1
 conv => whnf
 refine ⟨?_,trivial⟩
|apply s_1
 conv => whnf; arg 1; arg 4; arg 3; whnf
 refine ⟨?_,?_⟩
|refine zP ?_
|refine zM rfl ?_
|refine zW ?_
|refine zC ?_
|refine ⟨_,by conv => lhs; whnf; arg 2; whnf,?_⟩; conv => rhs; whnf
|exact trivial)
   all_goals first
    | (rw [hR]; rfl)
    | skip
section
variable (t : Tok) (ht : t.s.length <= 100000)
include ht
theorem simp3_ac (h : t.k = 3) : AC EN5 Tryz.prog 333 [.agg (tokC t)] (.tup [VV (simpV t),.c (.bool (simpB t))]):=by
 have f3 : (t.k == 3) = true:=by rw [h]; rfl
 have e1 : simpV t = valD 2 (numQ t.s) [] [] []:=by unfold simpV; rw [if_pos h]
 have e2 : simpB t = true:=by unfold simpB; rw [h]; rfl
 have hnu:=zDl (bs t.s) (by rw [zh]; omega)
 unfold zH1 at hnu
 rw [tx_bs] at hnu
 have hv:=sInt_ac (numQ t.s)
 rw [e1,e2]
 refine zF 41 Tryz.func333 rfl rfl rfl rfl ?_
 intro s0 w he
 repeat' (first
|apply zJ
 . conv => lhs; whnf
 . assumption
|refine zA ?_
|refine zB ?_
|refine zG ?_
|apply aw_1
 conv => whnf
 refine ⟨?_,trivial⟩
|apply s_1
 conv => whnf; arg 1; arg 4; arg 3; whnf
 refine ⟨?_,?_⟩
|apply ze rfl
 . conv => lhs; whnf
 . conv => lhs; whnf
 . first | exact hnu | exact hv
|apply zAV rfl rfl rfl rfl
 . conv => lhs; whnf; arg 1; whnf
 . rfl
|apply zI rfl rfl rfl
 . conv => lhs; whnf
 . conv => lhs; whnf; arg 1; whnf
 . conv => lhs; whnf; arg 1; whnf
 . exact ⟨by kernel_rfl,by kernel_rfl⟩
 . rfl
|refine zU ?_
|refine za ?_
|refine zC ?_
|exact trivial)
 all_goals first
  | exact ⟨_,_,rfl,rfl,rfl⟩
  | skip
theorem simp4_ac (h : t.k = 4) : AC EN5 Tryz.prog 333 [.agg (tokC t)] (.tup [VV (simpV t),.c (.bool (simpB t))]):=by
 have f3 : (t.k == 3) = false:=by rw [h]; rfl
 have f4 : (t.k == 4) = true:=by rw [h]; rfl
 have e1 : simpV t = valD 3 0 t.s [] []:=by unfold simpV; rw [if_neg (by rw [h]; decide),if_pos h]
 have e2 : simpB t = true:=by unfold simpB; rw [h]; rfl
 have hv:=sText_ac t.s
 rw [e1,e2]
 refine zF 41 Tryz.func333 rfl rfl rfl rfl ?_
 intro s0 w he
 repeat' (first
|apply zJ
 . conv => lhs; whnf
 . assumption
|apply zE
 . conv => lhs; whnf
 . assumption
|refine zA ?_
|refine zB ?_
|refine zG ?_
|apply aw_1
 conv => whnf
 refine ⟨?_,trivial⟩
|apply s_1
 conv => whnf; arg 1; arg 4; arg 3; whnf
 refine ⟨?_,?_⟩
|apply ze rfl
 . conv => lhs; whnf
 . conv => lhs; whnf
 . first | exact hv
|apply zAV rfl rfl rfl rfl
 . conv => lhs; whnf; arg 1; whnf
 . rfl
|apply zI rfl rfl rfl
 . conv => lhs; whnf
 . conv => lhs; whnf; arg 1; whnf
 . conv => lhs; whnf; arg 1; whnf
 . exact ⟨by kernel_rfl,by kernel_rfl⟩
 . rfl
|refine zU ?_
|refine za ?_
|refine zC ?_
|exact trivial)
 all_goals first
  | exact ⟨_,_,rfl,rfl,rfl⟩
  | skip
theorem simp2_ac (h : t.k = 2) : AC EN5 Tryz.prog 333 [.agg (tokC t)] (.tup [VV (simpV t),.c (.bool (simpB t))]):=by
 have f3 : (t.k == 3) = false:=by rw [h]; rfl
 have f4 : (t.k == 4) = false:=by rw [h]; rfl
 have f2 : (t.k == 2) = true:=by rw [h]; rfl
 have e1 : simpV t = zC9 t.s:=by unfold simpV; rw [if_neg (by rw [h]; decide),if_neg (by rw [h]; decide),if_pos h]
 have e2 : simpB t = true:=by unfold simpB; rw [h]; rfl
 have hbo:=sBool_ac ((bs t.s).toList == (⟨#[116,114,117,101]⟩ : ByteArray).toList)
 have he':=sEnum_ac t.s
 rw [e1,e2]
 refine zF 41 Tryz.func333 rfl rfl rfl rfl ?_
 intro s0 w he
 repeat' (first
|apply zAL (VV zBG) rfl rfl
 . conv => lhs; whnf; arg 2; whnf
 . repeat' (first | exact VLe.refl _ | exact VLe.nil _ | exact VLe.lit _ _ | exact VLe.own _ _ _ | apply VLe.agg | apply VLeL.cons | exact VLeL.nil)
|apply zJ
 . conv => lhs; whnf
 . assumption
|apply zE
 . conv => lhs; whnf
 . assumption
|refine zA ?_
|refine zB ?_
|refine zG ?_
|refine zb ?_
|apply aw_1
 conv => whnf
 refine ⟨?_,trivial⟩
|apply s_1
 conv => whnf; arg 1; arg 4; arg 3; whnf
 refine ⟨?_,?_⟩
|apply ze rfl
 . conv => lhs; whnf
 . conv => lhs; whnf
 . first | exact hbo | exact he'
|apply zAV rfl rfl rfl rfl
 . conv => lhs; whnf; arg 1; whnf
 . rfl
|apply zI rfl rfl rfl
 . conv => lhs; whnf
 . conv => lhs; whnf; arg 1; whnf
 . conv => lhs; whnf; arg 1; whnf
 . exact ⟨by kernel_rfl,by kernel_rfl⟩
 . rfl
|refine zg (by conv => lhs; whnf) ?_ ?_ <;> intro hb
|refine zU ?_
|refine za ?_
|refine zC ?_
|exact trivial)
 . have e : zC9 t.s = zBG:=by rw [zCa (by assumption : ((bs t.s).toList == (⟨#[110,117,108,108]⟩ : ByteArray).toList) = true)]; rfl
   rw [e]; exact ⟨_,_,rfl,rfl,rfl⟩
 . rw [w_true ‹_›]; exact ⟨_,_,rfl,rfl,rfl⟩
 . rw [w_false ‹_› ‹_›]; exact ⟨_,_,rfl,rfl,rfl⟩
 . rw [w_enum ‹_› ‹_› ‹_›]; exact ⟨_,_,rfl,rfl,rfl⟩
theorem simpN_ac (h3 : t.k ≠ 3) (h4 : t.k ≠ 4) (h2 : t.k ≠ 2) : AC EN5 Tryz.prog 333 [.agg (tokC t)] (.tup [VV (simpV t),.c (.bool (simpB t))]):=by
 have f3 : (t.k == 3) = false:=by simpa using h3
 have f4 : (t.k == 4) = false:=by simpa using h4
 have f2 : (t.k == 2) = false:=by simpa using h2
 have e1 : simpV t = zBG:=by unfold simpV; rw [if_neg h3,if_neg h4,if_neg h2]
 have e2 : simpB t = false:=by unfold simpB; rw [f3,f4,f2]; rfl
 rw [e1,e2]
 refine zF 41 Tryz.func333 rfl rfl rfl rfl ?_
 intro s0 w he
 repeat' (first
|apply zAL (VV zBG) rfl rfl
 . conv => lhs; whnf; arg 2; whnf
 . repeat' (first | exact VLe.refl _ | exact VLe.nil _ | exact VLe.lit _ _ | exact VLe.own _ _ _ | apply VLe.agg | apply VLeL.cons | exact VLeL.nil)
|apply zE
 . conv => lhs; whnf
 . assumption
|refine zA ?_
|refine zB ?_
|refine zG ?_
|refine zb ?_
|apply aw_1
 conv => whnf
 refine ⟨?_,trivial⟩
|apply s_1
 conv => whnf; arg 1; arg 4; arg 3; whnf
 refine ⟨?_,?_⟩
|apply zAV rfl rfl rfl rfl
 . conv => lhs; whnf; arg 1; whnf
 . rfl
|apply zI rfl rfl rfl
 . conv => lhs; whnf
 . conv => lhs; whnf; arg 1; whnf
 . conv => lhs; whnf; arg 1; whnf
 . exact ⟨by kernel_rfl,by kernel_rfl⟩
 . rfl
|refine zC ?_
|exact trivial)
 all_goals first
  | exact ⟨_,_,rfl,rfl,rfl⟩
  | skip
end
theorem zIx (l : List Tok) : ∀ (f : Nat) (x : RS),(refZ l f x).1.2.length <= 2 * f
 | 0,_ => Nat.le_refl _
 | f + 1,x => by
   have h:=zIx l f (upZ x)
   have hb : (zCQ l (refZ l f) x).1.2.length <= 2 * f + 1:=by
    unfold zCQ
    split
    . show (refZ l f (upZ x)).1.2.length + 1 <= _; omega
    . exact Nat.zero_le _
   show (zDr l (zCQ l (refZ l f) x)).1.2.length <= _
   unfold zDr
   split
   . show (zCQ l (refZ l f) x).1.2.length + 1 <= _; omega
   . omega
section
variable (l : List Tok) (hE : Ed l) (hl : l.length <= 100000)
include hE hl
theorem zIy : ∀ (f : Nat) (x : RS),x.at' < l.length -> l.length - x.at' < f -> f <= 200000 -> ACB EN5 Tryz.prog 292 [.bx (pn 0) 0] [boxF l x] (.agg (refC (refZ l f x).1.1 (refZ l f x).1.2)) [boxF l (refZ l f x).2]
 | 0,_,_,h,_ => by omega
 | f + 1,x,hx,hf,hf2 => by
   have h1:=zr l x hx [91]
   show ACB _ _ _ _ _ (.agg (refC (zDr l (zCQ l (refZ l f) x)).1.1 (zDr l (zCQ l (refZ l f) x)).1.2)) [boxF l (zDr l (zCQ l (refZ l f) x)).2]
   by_cases hs : sgZ l [91] x = true
   . have hu:=zAY hE hx hs
     have eb : zCQ l (refZ l f) x = (((refZ l f (upZ x)).1.1,2 :: (refZ l f (upZ x)).1.2),needZ l [93] (refZ l f (upZ x)).2):=by unfold zCQ; rw [if_pos hs]
     have ih:=zIy f (upZ x) hu.mv.hi (by show l.length - (x.at' + 1) < f; omega) (by omega)
     have m1:=zFL hE f (upZ x) hu.mv.hi
     have hlen:=zIx l f (upZ x)
     rw [eb]
     generalize refZ l f (upZ x) = R at ih m1 hlen |-
     obtain ⟨⟨n,w⟩,y⟩:=R
     dsimp only at ih m1 hlen |-
     have h2:=zAU l y m1.hi hl [93]
     have m2:=(zAB hE [93] m1.hi).mv
     generalize needZ l [93] y = z at h2 m2 |-
     have h3:=zr l z m2.hi [33]
     have hzz:=m2.hi
     have h4:=listOfF_ac n w (by omega)
     have h5:=zEe n (2 :: w) (by simp only [List.length_cons]; omega) (by simp)
     unfold zDr
     dsimp only
     by_cases hb : sgZ l [33] z = true
     . rw [if_pos hb]
       refine zZ (fn:=Tryz.f292) 33 Tryz.func292 rfl rfl ?_
       intro pas w0 w' he hp
       repeat' (first
|apply s_m (zf l) (zH l) rfl
 . conv => lhs; whnf
 . conv => lhs; whnf
 . rfl
 . conv => lhs; whnf; arg 1; whnf
 . first | exact zt _ _ | exact zCO _ _
 . first | exact h1 | exact ih | exact h2 | exact h3
 . exact fun _ => rfl
 . exact fun _ => rfl
|apply zJ
 . conv => lhs; whnf
 . assumption
|refine zA ?_
|refine zB ?_
|refine zG ?_
|apply aw_1
 conv => whnf
 refine ⟨?_,trivial⟩
|apply s_1
 conv => whnf; arg 1; arg 4; arg 3; whnf
 refine ⟨?_,?_⟩
|apply ze rfl
 . conv => lhs; whnf
 . conv => lhs; whnf
 . first | exact h4 | exact h5
|apply zI rfl rfl rfl
 . conv => lhs; whnf
 . conv => lhs; whnf; arg 1; whnf
 . conv => lhs; whnf; arg 1; whnf
 . exact ⟨by kernel_rfl,by kernel_rfl⟩
 . rfl
|refine zq ⟨?_,?_⟩
|refine ⟨_,by conv => lhs; whnf; arg 2; whnf,?_⟩; conv => rhs; whnf
|exact trivial)
       all_goals first
        | exact zS (by omega)
        | exact ⟨rfl,trivial⟩
        | rfl
        | skip
     . have hb : sgZ l [33] z = false:=by simpa using hb
       rw [if_neg (by rw [hb]; decide)]
       refine zZ (fn:=Tryz.f292) 33 Tryz.func292 rfl rfl ?_
       intro pas w0 w' he hp
       repeat' (first
|apply s_m (zf l) (zH l) rfl
 . conv => lhs; whnf
 . conv => lhs; whnf
 . rfl
 . conv => lhs; whnf; arg 1; whnf
 . first | exact zt _ _ | exact zCO _ _
 . first | exact h1 | exact ih | exact h2 | exact h3
 . exact fun _ => rfl
 . exact fun _ => rfl
|apply zJ
 . conv => lhs; whnf
 . assumption
|apply zE
 . conv => lhs; whnf
 . assumption
|refine zA ?_
|refine zB ?_
|refine zG ?_
|apply aw_1
 conv => whnf
 refine ⟨?_,trivial⟩
|apply s_1
 conv => whnf; arg 1; arg 4; arg 3; whnf
 refine ⟨?_,?_⟩
|apply ze rfl
 . conv => lhs; whnf
 . conv => lhs; whnf
 . first | exact h4 | exact h5
|apply zI rfl rfl rfl
 . conv => lhs; whnf
 . conv => lhs; whnf; arg 1; whnf
 . conv => lhs; whnf; arg 1; whnf
 . exact ⟨by kernel_rfl,by kernel_rfl⟩
 . rfl
|refine zq ⟨?_,?_⟩
|refine ⟨_,by conv => lhs; whnf; arg 2; whnf,?_⟩; conv => rhs; whnf
|exact trivial)
       all_goals first
        | exact zS (by omega)
        | exact ⟨rfl,trivial⟩
        | rfl
        | skip
   . have hs : sgZ l [91] x = false:=by simpa using hs
     have eb : zCQ l (refZ l f) x = (((nameZ l x).1,[]),(nameZ l x).2):=by unfold zCQ; rw [if_neg (by rw [hs]; decide)]
     have h2:=z8 l x hx hl
     have m1:=(zm hE hx).mv
     rw [eb]
     generalize nameZ l x = R at h2 m1 |-
     obtain ⟨n,z⟩:=R
     dsimp only at h2 m1 |-
     have h3:=zr l z m1.hi [33]
     have hzz:=m1.hi
     have h4 : AC EN5 Tryz.prog 73 [.c (.string (bs n))] (.agg (refC n [])):=named_ac (bs n)
     have h5:=zEe n [] (by simp) (by simp)
     unfold zDr
     dsimp only
     by_cases hb : sgZ l [33] z = true
     . rw [if_pos hb]
       refine zZ (fn:=Tryz.f292) 33 Tryz.func292 rfl rfl ?_
       intro pas w0 w' he hp
       repeat' (first
|apply s_m (zf l) (zH l) rfl
 . conv => lhs; whnf
 . conv => lhs; whnf
 . rfl
 . conv => lhs; whnf; arg 1; whnf
 . first | exact zt _ _ | exact zCO _ _
 . first | exact h1 | exact h2 | exact h3
 . exact fun _ => rfl
 . exact fun _ => rfl
|apply zJ
 . conv => lhs; whnf
 . assumption
|apply zE
 . conv => lhs; whnf
 . assumption
|refine zA ?_
|refine zB ?_
|refine zG ?_
|apply aw_1
 conv => whnf
 refine ⟨?_,trivial⟩
|apply s_1
 conv => whnf; arg 1; arg 4; arg 3; whnf
 refine ⟨?_,?_⟩
|apply ze rfl
 . conv => lhs; whnf
 . conv => lhs; whnf
 . first | exact h4 | exact h5
|apply zI rfl rfl rfl
 . conv => lhs; whnf
 . conv => lhs; whnf; arg 1; whnf
 . conv => lhs; whnf; arg 1; whnf
 . exact ⟨by kernel_rfl,by kernel_rfl⟩
 . rfl
|refine zq ⟨?_,?_⟩
|refine ⟨_,by conv => lhs; whnf; arg 2; whnf,?_⟩; conv => rhs; whnf
|exact trivial)
       all_goals first
        | exact zS (by omega)
        | exact ⟨rfl,trivial⟩
        | rfl
        | skip
     . have hb : sgZ l [33] z = false:=by simpa using hb
       rw [if_neg (by rw [hb]; decide)]
       refine zZ (fn:=Tryz.f292) 33 Tryz.func292 rfl rfl ?_
       intro pas w0 w' he hp
       repeat' (first
|apply s_m (zf l) (zH l) rfl
 . conv => lhs; whnf
 . conv => lhs; whnf
 . rfl
 . conv => lhs; whnf; arg 1; whnf
 . first | exact zt _ _ | exact zCO _ _
 . first | exact h1 | exact h2 | exact h3
 . exact fun _ => rfl
 . exact fun _ => rfl
|apply zE
 . conv => lhs; whnf
 . assumption
|refine zA ?_
|refine zB ?_
|refine zG ?_
|apply aw_1
 conv => whnf
 refine ⟨?_,trivial⟩
|apply s_1
 conv => whnf; arg 1; arg 4; arg 3; whnf
 refine ⟨?_,?_⟩
|apply ze rfl
 . conv => lhs; whnf
 . conv => lhs; whnf
 . first | exact h4 | exact h5
|apply zI rfl rfl rfl
 . conv => lhs; whnf
 . conv => lhs; whnf; arg 1; whnf
 . conv => lhs; whnf; arg 1; whnf
 . exact ⟨by kernel_rfl,by kernel_rfl⟩
 . rfl
|refine zq ⟨?_,?_⟩
|refine ⟨_,by conv => lhs; whnf; arg 2; whnf,?_⟩; conv => rhs; whnf
|exact trivial)
       all_goals first
        | exact zS (by omega)
        | exact ⟨rfl,trivial⟩
        | rfl
        | skip
theorem typF_acb (x : RS) (hx : x.at' < l.length) : ACB EN5 Tryz.prog 227 [.bx (pn 0) 0] [boxF l x] (.agg (refC (typZ l x).1.1 (typZ l x).1.2)) [boxF l (typZ l x).2]:=by
 have h1:=zIy l hE hl (l.length + 1 - x.at') x hx (by omega) (by omega)
 have m1:=zFL hE (l.length + 1 - x.at') x hx
 unfold typZ
 generalize refZ l (l.length + 1 - x.at') x = R at h1 m1 |-
 obtain ⟨⟨n,w⟩,y⟩:=R
 dsimp only at h1 m1 |-
 have h2:=zFV l y 5 x.at' hx
 by_cases hw : w.length > 24
 . have f1 : decide ((((w.map D.int).length : Nat) : Int) > 24) = true:=decide_eq_true (by rw [List.length_map]; omega)
   rw [if_pos hw]
   refine zZ (fn:=Tryz.f227) 19 Tryz.func227 rfl rfl ?_
   intro pas w0 w' he hp
   repeat' (first
|apply s_m (zf l) (zH l) rfl
 . conv => lhs; whnf
 . conv => lhs; whnf
 . rfl
 . conv => lhs; whnf; arg 1; whnf
 . first | exact zt _ _
 . first | exact h1 | exact h2
 . exact fun _ => rfl
 . exact fun _ => rfl
|apply zJ
 . conv => lhs; whnf
 . assumption
|refine zA ?_
|refine zB ?_
|refine zG ?_
|apply aw_1
 conv => whnf
 refine ⟨?_,trivial⟩
|apply s_1
 conv => whnf; arg 1; arg 4; arg 3; whnf
 refine ⟨?_,?_⟩
|apply zI rfl rfl rfl
 . conv => lhs; whnf
 . conv => lhs; whnf; arg 1; whnf
 . conv => lhs; whnf; arg 1; whnf
 . exact ⟨by kernel_rfl,by kernel_rfl⟩
 . rfl
|refine zq ⟨?_,?_⟩
|refine ⟨_,by conv => lhs; whnf; arg 2; whnf,?_⟩; conv => rhs; whnf
|exact trivial)
   all_goals first
    | exact ⟨rfl,trivial⟩
    | rfl
    | skip
 . have f1 : decide ((((w.map D.int).length : Nat) : Int) > 24) = false:=decide_eq_false (by rw [List.length_map]; omega)
   rw [if_neg hw]
   refine zZ (fn:=Tryz.f227) 19 Tryz.func227 rfl rfl ?_
   intro pas w0 w' he hp
   repeat' (first
|apply s_m (zf l) (zH l) rfl
 . conv => lhs; whnf
 . conv => lhs; whnf
 . rfl
 . conv => lhs; whnf; arg 1; whnf
 . first | exact zt _ _
 . first | exact h1 | exact h2
 . exact fun _ => rfl
 . exact fun _ => rfl
|apply zE
 . conv => lhs; whnf
 . assumption
|refine zA ?_
|refine zB ?_
|refine zG ?_
|apply aw_1
 conv => whnf
 refine ⟨?_,trivial⟩
|apply s_1
 conv => whnf; arg 1; arg 4; arg 3; whnf
 refine ⟨?_,?_⟩
|apply zI rfl rfl rfl
 . conv => lhs; whnf
 . conv => lhs; whnf; arg 1; whnf
 . conv => lhs; whnf; arg 1; whnf
 . exact ⟨by kernel_rfl,by kernel_rfl⟩
 . rfl
|refine zq ⟨?_,?_⟩
|refine ⟨_,by conv => lhs; whnf; arg 2; whnf,?_⟩; conv => rhs; whnf
|exact trivial)
   all_goals first
    | exact ⟨rfl,trivial⟩
    | rfl
    | skip
end
def zK (k : Int) : List V:=[.c (.int .i64 k),.c (.int .i64 0),.c (.string ⟨#[]⟩),.c (.slice none 0 0),.c (.slice none 0 0)]
theorem zJT {l : List Tok} {val : RS -> D × RS} {ob : Bool} {e : List UInt8} {j : Nat} {ks : List (List UInt8)} {vs : List D} {y : RS} (h : ¬ (y.er = 0 /\ sgZ l e y = false)) : elemsZ l val ob e (j + 1) ks vs y = ((ks,vs),needZ l e y):=by
 conv => lhs; unfold elemsZ
 rw [if_neg h]
theorem el_go {l : List Tok} {val : RS -> D × RS} {ob : Bool} {e : List UInt8} {j : Nat} {ks : List (List UInt8)} {vs : List D} {y : RS} (h : y.er = 0) (h2 : sgZ l e y = false) : elemsZ l val ob e (j + 1) ks vs y = elemsZ l val ob e j (keyZ l ob ks y).1 (vs ++ [(val (keyZ l ob ks y).2).1]) (val (keyZ l ob ks y).2).2:=by
 conv => lhs; unfold elemsZ
 rw [if_pos ⟨h,h2⟩]
noncomputable def HEl (l : List Tok) (kk : Int) (e : List UInt8) (lv : Nat) (y : RS) (ks : List (List UInt8)) (vs : List D) : Vst 67:=
 stS 67 [(0,.bx (pn 0) 0),(2,.c (.string (bs e))),(3,.c (.int .i64 (lv : Int))),(5,.bx 5 0),(8,.bx 8 0)]
  [(pn 0,boxF l y),(8,.box 84 (zK 0)),(5,.box 84 [.c (.int .i64 kk),.c (.int .i64 0),.c (.string ⟨#[]⟩),.own 901 84 vs,.own 902 9 (ks.map strD)]),(901,.tok 84 vs.length),(902,.tok 9 (ks.map strD).length)]
theorem app80 {n : Nat} (h : n <= 200000) : n + 1 <= maxLen /\ (n + 1) * 80 <= 140737488355328:=by unfold maxLen; omega
theorem app16 {n : Nat} (h : n <= 200000) : n + 1 <= maxLen /\ (n + 1) * 16 <= 140737488355328:=by unfold maxLen; omega
section
variable (l : List Tok) (hE : Ed l) (hl : l.length <= 100000) (val : RS -> D × RS) (lv : Nat) (hlv : lv <= 1000) (hm : ∀ y,y.at' < l.length -> Mw l y (val y).2) (hg : ∀ y,y.at' < l.length -> (val y).2.er = 0 -> y.at' < (val y).2.at')
 (hc : ∀ y,y.at' < l.length -> Ck y -> ACB EN5 Tryz.prog 293 [.bx (pn 0) 0,.c (.int .i64 ((lv : Int) + 1))] [boxF l y] (VV (val y).1) [boxF l (val y).2])
include hE hl hlv hm hg hc
theorem listF_acb (e : List UInt8) (x : RS) (hx : x.at' < l.length) (hk : Ck x) : ACB EN5 Tryz.prog 334 [.bx (pn 0) 0,.agg (zK 5),.c (.string (bs e)),.c (.int .i64 (lv : Int))] [boxF l x]
 (VV (valD 5 0 [] (elemsZ l val false e (l.length + 1 - x.at') [] [] x).1.2 (elemsZ l val false e (l.length + 1 - x.at') [] [] x).1.1)) [boxF l (elemsZ l val false e (l.length + 1 - x.at') [] [] x).2]:=by
 generalize hR : elemsZ l val false e (l.length + 1 - x.at') [] [] x = R
 refine zZ (fn:=Tryz.f334) 67 Tryz.func334 rfl rfl ?_
 intro pas w0 w he hp
 repeat' (first
|refine zA ?_
|refine zB ?_
|refine zG ?_
|apply aw_1
 conv => whnf
 refine ⟨?_,trivial⟩
|apply s_1
 conv => whnf; arg 1; arg 4; arg 3; whnf
 refine ⟨?_,?_⟩
|apply zAV rfl rfl rfl rfl
 . conv => lhs; whnf; arg 1; whnf
 . rfl
|exact trivial)
 refine zn (Sub.ownF (m:=5) (q:=901) (i:=3) (e:=84) rfl (by decide) rfl rfl rfl) ?_
 refine zn (Sub.ownF (m:=5) (q:=902) (i:=4) (e:=9) rfl (by decide) rfl rfl rfl) ?_
 refine zu (fun j st => ∃ y vs,elemsZ l val false e j [] vs y = R /\ y.at' < l.length /\ Ck y /\ 0 < j /\ (y.er = 0 -> l.length - y.at' < j) /\ vs.length + j <= l.length + 1 /\ Sub ⟨Tryz.prog,pas,w0,w,EN5,he,hp,fun _ _ _ => False,[]⟩ st (HEl l 5 e lv y [] vs)) (l.length + 1 - x.at') ⟨x,[],hR,hx,hk,by omega,fun _ => by omega,by simp only [List.length_nil]; omega,?_⟩ ?_
 . exact Sub.live ⟨rfl,rfl,rfl,rfl,rfl,trivial⟩ ⟨rfl,rfl,rfl,rfl,rfl,trivial⟩
 clear hR
 rintro j st ⟨y,vs,hR,hy,hky,hj0,hj,hv,hs2⟩
 refine zn hs2 ?_
 clear hs2
 obtain ⟨j,rfl⟩ : ∃ q,j = q + 1:=⟨j - 1,by omega⟩
 have h1:=zr l y hy e
 have h2:=zAU l y hy hl e
 by_cases g0 : y.er = 0
 . have f0 : (y.er == 0) = true:=by rw [g0]; rfl
   have g1 : ((y.er == 0) == true) = true:=by rw [f0]; rfl
   by_cases gs : sgZ l e y = true
   . have hex : ((y.er == 0) == true) = false -> False:=fun h => by rw [g1] at h; cases h
     rw [zJT (fun h => by rw [gs] at h; cases h.2)] at hR
     subst hR
     have f2 : (!sgZ l e y) = false:=by rw [gs]; rfl
     repeat' (first
|apply s_m (zf l) (zH l) rfl
 . conv => lhs; whnf
 . conv => lhs; whnf
 . rfl
 . conv => lhs; whnf; arg 1; whnf
 . first | exact zt _ _
 . first | exact h1 | exact h2
 . exact fun _ => rfl
 . exact fun _ => rfl
|apply zj (zf l) (zH l) rfl
 . conv => lhs; whnf
 . conv => lhs; whnf
 . first | rfl | assumption
 . conv => lhs; whnf
 . rfl
 . conv => lhs; whnf; arg 1; whnf
 . first | exact zt _ _
 . first | exact h1 | exact h2
 . exact fun _ => rfl
 . exact fun _ => rfl
|apply zE
 . conv => lhs; whnf
 . assumption
|refine zA ?_
|refine zB ?_
|refine zG ?_
|apply aw_1
 conv => whnf
 refine ⟨?_,trivial⟩
|apply zY rfl rfl
 . conv => lhs; whnf
 . conv => lhs; whnf
 . first | exact bT1 ‹_› | exact bT2 ‹_›
|apply s_1
 conv => whnf; arg 1; arg 4; arg 3; whnf
 refine ⟨?_,?_⟩
|apply zI rfl rfl rfl
 . conv => lhs; whnf
 . conv => lhs; whnf; arg 1; whnf
 . conv => lhs; whnf; arg 1; whnf
 . exact ⟨by kernel_rfl,by kernel_rfl⟩
 . rfl
|apply zD rfl
 . conv => lhs; whnf
 . conv => lhs; whnf
 . first | rfl | assumption
 . conv => lhs; whnf; arg 2; whnf
|refine zP ?_
|refine zM rfl ?_
|refine zW ?_
|refine zq ⟨?_,?_⟩
|refine ⟨_,by conv => lhs; whnf; arg 2; whnf,?_⟩; conv => rhs; whnf
|exact trivial)
     all_goals first
      | exact ⟨rfl,trivial⟩
      | rfl
      | skip
   . have gs : sgZ l e y = false:=by simpa using gs
     have f2 : (!sgZ l e y) = true:=by rw [gs]; rfl
     rw [el_go g0 gs] at hR
     have e0 : keyZ l false [] y = ([],y):=rfl
     rw [e0] at hR
     have hm1:=hm y hy
     have hhi:=hm1.hi
     have hlo:=hm1.lo
     have hg1:=hg y hy
     have hc1:=hc y hy hky
     repeat' (first
|apply s_m (zf l) (zH l) rfl
 . conv => lhs; whnf
 . conv => lhs; whnf
 . rfl
 . conv => lhs; whnf; arg 1; whnf
 . first | exact zt _ _
 . first | exact h1 | exact hc1
 . exact fun _ => rfl
 . exact fun _ => rfl
|apply zj (zf l) (zH l) rfl
 . conv => lhs; whnf
 . conv => lhs; whnf
 . first | rfl | assumption
 . conv => lhs; whnf
 . rfl
 . conv => lhs; whnf; arg 1; whnf
 . first | exact zt _ _
 . first | exact h1 | exact hc1
 . exact fun _ => rfl
 . exact fun _ => rfl
|apply zBP [(val y).1] rfl rfl
 . conv => lhs; whnf
 . first | (conv => lhs; whnf; arg 1; whnf)
 . rfl
 . rfl
 . repeat' (first | exact trivial | apply And.intro | rfl)
|apply zJ
 . conv => lhs; whnf
 . assumption
|refine zA ?_
|refine zB ?_
|refine zG ?_
|refine zb ?_
|apply aw_1
 conv => whnf
 refine ⟨?_,trivial⟩
|apply zY rfl rfl
 . conv => lhs; whnf
 . conv => lhs; whnf
 . first | exact bT1 ‹_› | exact bT2 ‹_›
|apply s_1
 conv => whnf; arg 1; arg 4; arg 3; whnf
 refine ⟨?_,?_⟩
|apply zI rfl rfl rfl
 . conv => lhs; whnf
 . conv => lhs; whnf; arg 1; whnf
 . conv => lhs; whnf; arg 1; whnf
 . exact ⟨by kernel_rfl,by kernel_rfl⟩
 . rfl
|apply zBQ rfl rfl
 . conv => lhs; whnf
 . first | (conv => lhs; whnf; arg 1; whnf)
 . first | exact fun _ => rfl | (intro _; kernel_rfl)
 . conv => lhs; whnf
 . conv => lhs; whnf; arg 1; whnf
 . conv => lhs; whnf
|apply zD rfl
 . conv => lhs; whnf
 . conv => lhs; whnf
 . first | rfl | assumption
 . conv => lhs; whnf; arg 2; whnf
|exact trivial)
     all_goals first
      | exact zS (by omega)
      | exact zL (Nat.lt_succ_self j) ⟨(val y).2,vs ++ [(val y).1],hR,hhi,hm1.ct hky,by have:=hj g0; omega,fun h => by have:=hg1 h; have:=hj g0; omega,by rw [List.length_append]; simp only [List.length_cons,List.length_nil]; omega,Sub.live ⟨rfl,rfl,rfl,rfl,rfl,trivial⟩ ⟨rfl,rfl,rfl,by rw [List.length_append]; rfl,rfl,trivial⟩⟩
      | exact ⟨by simp,app80 (by omega)⟩
      | skip
 . have f0 : (y.er == 0) = false:=by simpa using g0
   have g1 : ((y.er == 0) == true) = false:=by rw [f0]; rfl
   rw [zJT (fun h => g0 h.1)] at hR
   subst hR
   repeat' (first
|apply s_m (zf l) (zH l) rfl
 . conv => lhs; whnf
 . conv => lhs; whnf
 . rfl
 . conv => lhs; whnf; arg 1; whnf
 . first | exact zt _ _
 . first | exact h1 | exact h2
 . exact fun _ => rfl
 . exact fun _ => rfl
|apply zd rfl
 . conv => lhs; whnf
 . conv => lhs; whnf
 . first | rfl | assumption
|refine zA ?_
|refine zB ?_
|refine zG ?_
|apply aw_1
 conv => whnf
 refine ⟨?_,trivial⟩
|apply zV rfl rfl
 . conv => lhs; whnf
 . conv => lhs; whnf
 . first | exact bF1 ‹_› | exact bF2 ‹_›
|apply s_1
 conv => whnf; arg 1; arg 4; arg 3; whnf
 refine ⟨?_,?_⟩
|apply zI rfl rfl rfl
 . conv => lhs; whnf
 . conv => lhs; whnf; arg 1; whnf
 . conv => lhs; whnf; arg 1; whnf
 . exact ⟨by kernel_rfl,by kernel_rfl⟩
 . rfl
|refine zP ?_
|refine zM rfl ?_
|refine zW ?_
|refine zq ⟨?_,?_⟩
|refine ⟨_,by conv => lhs; whnf; arg 2; whnf,?_⟩; conv => rhs; whnf
|exact trivial)
   all_goals first
    | exact ⟨rfl,trivial⟩
    | rfl
    | skip
end
section
variable (l : List Tok) (hE : Ed l) (hl : l.length <= 100000) (val : RS -> D × RS) (lv : Nat) (hlv : lv <= 1000) (hm : ∀ y,y.at' < l.length -> Mw l y (val y).2) (hg : ∀ y,y.at' < l.length -> (val y).2.er = 0 -> y.at' < (val y).2.at')
 (hc : ∀ y,y.at' < l.length -> Ck y -> ACB EN5 Tryz.prog 293 [.bx (pn 0) 0,.c (.int .i64 ((lv : Int) + 1))] [boxF l y] (VV (val y).1) [boxF l (val y).2])
include hE hl hlv hm hg hc
theorem objF_acb (e : List UInt8) (x : RS) (hx : x.at' < l.length) (hk : Ck x) : ACB EN5 Tryz.prog 334 [.bx (pn 0) 0,.agg (zK 6),.c (.string (bs e)),.c (.int .i64 (lv : Int))] [boxF l x]
 (VV (valD 6 0 [] (elemsZ l val true e (l.length + 1 - x.at') [] [] x).1.2 (elemsZ l val true e (l.length + 1 - x.at') [] [] x).1.1)) [boxF l (elemsZ l val true e (l.length + 1 - x.at') [] [] x).2]:=by
 generalize hR : elemsZ l val true e (l.length + 1 - x.at') [] [] x = R
 refine zZ (fn:=Tryz.f334) 67 Tryz.func334 rfl rfl ?_
 intro pas w0 w he hp
 repeat' (first
|refine zA ?_
|refine zB ?_
|refine zG ?_
|apply aw_1
 conv => whnf
 refine ⟨?_,trivial⟩
|apply s_1
 conv => whnf; arg 1; arg 4; arg 3; whnf
 refine ⟨?_,?_⟩
|apply zAV rfl rfl rfl rfl
 . conv => lhs; whnf; arg 1; whnf
 . rfl
|exact trivial)
 refine zn (Sub.ownF (m:=5) (q:=901) (i:=3) (e:=84) rfl (by decide) rfl rfl rfl) ?_
 refine zn (Sub.ownF (m:=5) (q:=902) (i:=4) (e:=9) rfl (by decide) rfl rfl rfl) ?_
 refine zu (fun j st => ∃ y ks vs,elemsZ l val true e j ks vs y = R /\ y.at' < l.length /\ Ck y /\ 0 < j /\ (y.er = 0 -> l.length - y.at' < j) /\ vs.length + j <= l.length + 1 /\ ks.length = vs.length /\ Sub ⟨Tryz.prog,pas,w0,w,EN5,he,hp,fun _ _ _ => False,[]⟩ st (HEl l 6 e lv y ks vs)) (l.length + 1 - x.at') ⟨x,[],[],hR,hx,hk,by omega,fun _ => by omega,by simp only [List.length_nil]; omega,rfl,?_⟩ ?_
 . exact Sub.live ⟨rfl,rfl,rfl,rfl,rfl,trivial⟩ ⟨rfl,rfl,rfl,rfl,rfl,trivial⟩
 clear hR
 rintro j st ⟨y,ks,vs,hR,hy,hky,hj0,hj,hv,hkv,hs2⟩
 refine zn hs2 ?_
 clear hs2
 obtain ⟨j,rfl⟩ : ∃ q,j = q + 1:=⟨j - 1,by omega⟩
 have h1:=zr l y hy e
 have h2:=zAU l y hy hl e
 by_cases g0 : y.er = 0
 . have f0 : (y.er == 0) = true:=by rw [g0]; rfl
   have g1 : ((y.er == 0) == true) = true:=by rw [f0]; rfl
   by_cases gs : sgZ l e y = true
   . rw [zJT (fun h => by rw [gs] at h; cases h.2)] at hR
     subst hR
     have f2 : (!sgZ l e y) = false:=by rw [gs]; rfl
     repeat' (first
|apply s_m (zf l) (zH l) rfl
 . conv => lhs; whnf
 . conv => lhs; whnf
 . rfl
 . conv => lhs; whnf; arg 1; whnf
 . first | exact zt _ _
 . first | exact h1 | exact h2
 . exact fun _ => rfl
 . exact fun _ => rfl
|apply zj (zf l) (zH l) rfl
 . conv => lhs; whnf
 . conv => lhs; whnf
 . first | rfl | assumption
 . conv => lhs; whnf
 . rfl
 . conv => lhs; whnf; arg 1; whnf
 . first | exact zt _ _
 . first | exact h1 | exact h2
 . exact fun _ => rfl
 . exact fun _ => rfl
|apply zE
 . conv => lhs; whnf
 . assumption
|refine zA ?_
|refine zB ?_
|refine zG ?_
|apply aw_1
 conv => whnf
 refine ⟨?_,trivial⟩
|apply zY rfl rfl
 . conv => lhs; whnf
 . conv => lhs; whnf
 . first | exact bT1 ‹_› | exact bT2 ‹_›
|apply s_1
 conv => whnf; arg 1; arg 4; arg 3; whnf
 refine ⟨?_,?_⟩
|apply zI rfl rfl rfl
 . conv => lhs; whnf
 . conv => lhs; whnf; arg 1; whnf
 . conv => lhs; whnf; arg 1; whnf
 . exact ⟨by kernel_rfl,by kernel_rfl⟩
 . rfl
|apply zD rfl
 . conv => lhs; whnf
 . conv => lhs; whnf
 . first | rfl | assumption
 . conv => lhs; whnf; arg 2; whnf
|refine zP ?_
|refine zM rfl ?_
|refine zW ?_
|refine zq ⟨?_,?_⟩
|refine ⟨_,by conv => lhs; whnf; arg 2; whnf,?_⟩; conv => rhs; whnf
|exact trivial)
     all_goals first
      | exact ⟨rfl,trivial⟩
      | rfl
      | skip
   . have gs : sgZ l e y = false:=by simpa using gs
     have f2 : (!sgZ l e y) = true:=by rw [gs]; rfl
     rw [el_go g0 gs] at hR
     have h4:=zAq l y hy
     have h5:=zAS l y 7 hy
     have hh : AC EN5 Tryz.prog 361 [.sl 9 (ks.map strD),.c (.string ((gD (l.map tokD) ((y.at' : Int)).toNat).f 1).s)] (.c (.bool (ks.contains (tkZ l y).s))):=by
      have e1 : gD (l.map tokD) ((y.at' : Int)).toNat = tokD (tkZ l y):=zCN l hy
      rw [e1]
      exact has2_ac ks (tkZ l y).s (by omega)
     cases hN : nmZ l y with
     | false =>
       have gN : (nmZ l y == true) = false:=by rw [hN]; rfl
       have e0 : keyZ l true ks y = (ks ++ [(nameZ l y).1],needZ l [58] (nameZ l y).2):=by
        unfold keyZ; rw [if_pos rfl,if_neg (by rw [hN,Bool.false_and]; decide)]
       rw [e0] at hR
       rw [hN] at gN h4
       have m1 : Mw l y (y):=.refl hy
       have hn2:=z8 l (y) m1.hi hl
       have m2:=(zm hE m1.hi).mv
       have h3:=zAU l (nameZ l (y)).2 m2.hi hl [58]
       have m3:=(zAB hE [58] m2.hi).mv
       have m13:=(m1.trans m2).trans m3
       have hc1:=hc (needZ l [58] (nameZ l (y)).2) m3.hi (m13.ct hky)
       have hm1:=hm (needZ l [58] (nameZ l (y)).2) m3.hi
       have hg1:=hg (needZ l [58] (nameZ l (y)).2) m3.hi
       have hhi:=hm1.hi
       have hlo:=hm1.lo
       have hlo3:=m13.lo
       have hckv:=hm1.ct (m13.ct hky)
       repeat' (first
|apply zAd 18 ([(1,[1000000]),(4,[5]),(8,[1000000]),(12,[1000000])]) ([]) rfl (by kernel_rfl) (by kernel_rfl) (by kernel_rfl)
|apply zFo
|apply zGx rfl
 . conv => lhs; whnf
 . conv => lhs; whnf
 . rfl
 . conv => lhs; whnf; arg 1; whnf
 . exact fun _ => rfl
 . first | exact h4
 . exact fun _ => rfl
 . exact fun _ => rfl
 . rfl
|apply zFE rfl
 . conv => lhs; whnf
 . conv => lhs; whnf
 . first | rfl | assumption
|apply u_m (zf l) (zH l) rfl
 . conv => lhs; whnf
 . conv => lhs; whnf
 . rfl
 . conv => lhs; whnf; arg 1; whnf
 . first | exact zt _ _
 . first | exact hn2
 . exact fun _ => rfl
 . exact fun _ => rfl
 . rfl
|apply u_lit [strD (nameZ l (y)).1] rfl rfl
 . conv => lhs; whnf
 . first | (conv => lhs; whnf; arg 1; whnf)
 . rfl
 . rfl
 . repeat' (first | exact trivial | apply And.intro | rfl)
|apply zFn rfl rfl
 . conv => lhs; whnf
 . conv => lhs; whnf
 . first | exact bF1 ‹_› | exact bF2 ‹_›
|apply zFm rfl
 . conv => lhs; whnf
 . conv => lhs; whnf; arg 2; whnf
|apply u_app rfl rfl
 . conv => lhs; whnf
 . first | (conv => lhs; whnf; arg 1; whnf)
 . first | exact fun _ => rfl | (intro _; kernel_rfl)
 . conv => lhs; whnf
 . rfl
 . conv => lhs; whnf; arg 1; whnf
 . conv => lhs; whnf
|apply zHi rfl rfl rfl
 . conv => lhs; whnf
 . rfl
 . conv => lhs; whnf; arg 1; whnf
 . conv => lhs; whnf; arg 1; whnf
 . exact ⟨by kernel_rfl,by kernel_rfl⟩
 . rfl
|show inO _ _ = true; rfl
|apply zAd 8 ([(1,[5])]) ([(3,[1000000]),(5,[902]),(7,[5])]) rfl (by kernel_rfl) (by kernel_rfl) (by kernel_rfl)
|apply s_m (zf l) (zH l) rfl
 . conv => lhs; whnf
 . conv => lhs; whnf
 . rfl
 . conv => lhs; whnf; arg 1; whnf
 . first | exact zt _ _
 . first | exact h1 | exact h5 | exact h3 | exact hc1
 . exact fun _ => rfl
 . exact fun _ => rfl
|apply zj (zf l) (zH l) rfl
 . conv => lhs; whnf
 . conv => lhs; whnf
 . first | rfl | assumption
 . conv => lhs; whnf
 . rfl
 . conv => lhs; whnf; arg 1; whnf
 . first | exact zt _ _
 . first | exact h1 | exact h5 | exact h3 | exact hc1
 . exact fun _ => rfl
 . exact fun _ => rfl
|apply zBP [(val (needZ l [58] (nameZ l (y)).2)).1] rfl rfl
 . conv => lhs; whnf
 . first | (conv => lhs; whnf; arg 1; whnf)
 . rfl
 . rfl
 . repeat' (first | exact trivial | apply And.intro | rfl)
|apply zJ
 . conv => lhs; whnf
 . assumption
|apply zE
 . conv => lhs; whnf
 . assumption
|refine zA ?_
|refine zB ?_
|refine zG ?_
|refine zb ?_
|apply aw_1
 conv => whnf
 refine ⟨?_,trivial⟩
|apply zY rfl rfl
 . conv => lhs; whnf
 . conv => lhs; whnf
 . first | exact bT1 ‹_› | exact bT2 ‹_›
|apply s_1
 conv => whnf; arg 1; arg 4; arg 3; whnf
 refine ⟨?_,?_⟩
|apply zI rfl rfl rfl
 . conv => lhs; whnf
 . conv => lhs; whnf; arg 1; whnf
 . conv => lhs; whnf; arg 1; whnf
 . exact ⟨by kernel_rfl,by kernel_rfl⟩
 . rfl
|apply zBQ rfl rfl
 . conv => lhs; whnf
 . first | (conv => lhs; whnf; arg 1; whnf)
 . first | exact fun _ => rfl | (intro _; kernel_rfl)
 . conv => lhs; whnf
 . conv => lhs; whnf; arg 1; whnf
 . conv => lhs; whnf
|apply zD rfl
 . conv => lhs; whnf
 . conv => lhs; whnf
 . first | rfl | assumption
 . conv => lhs; whnf; arg 2; whnf
|exact trivial)
       all_goals first
        | exact zS (by omega)
        | exact zCB l hy
        | exact ⟨by simp,app80 (by omega)⟩
        | exact ⟨by simp,by rw [List.length_map]; exact app16 (by omega)⟩
        | skip
       . refine zL (Nat.lt_succ_self j) ⟨(val (needZ l [58] (nameZ l (y)).2)).2,ks ++ [(nameZ l (y)).1],vs ++ [(val (needZ l [58] (nameZ l (y)).2)).1],hR,hhi,hckv,?_,?_,?_,?_,Sub.live ⟨rfl,rfl,rfl,rfl,rfl,trivial⟩ ⟨rfl,rfl,?_,?_,?_,trivial⟩⟩
         . have:=hj g0; omega
         . intro h; have:=hg1 h; have:=hj g0; omega
         . rw [List.length_append]; simp only [List.length_cons,List.length_nil]; omega
         . rw [List.length_append,List.length_append,hkv]; rfl
         . rw [List.map_append]; rfl
         . rw [List.length_append]; rfl
         . rw [List.map_append,List.length_append]; rfl
     | true =>
     have gN : (nmZ l y == true) = true:=by rw [hN]; rfl
     rw [hN] at gN h4
     cases hC : ks.contains (tkZ l y).s with
     | true =>
       have e0 : keyZ l true ks y = (ks ++ [(nameZ l (zk l 7 y)).1],needZ l [58] (nameZ l (zk l 7 y)).2):=by
        unfold keyZ; rw [if_pos rfl,if_pos (by rw [hN,hC]; rfl)]
       rw [e0] at hR
       rw [hC] at hh
       have m1 : Mw l y (zk l 7 y):=zBM hy (by decide)
       have hn2:=z8 l (zk l 7 y) m1.hi hl
       have m2:=(zm hE m1.hi).mv
       have h3:=zAU l (nameZ l (zk l 7 y)).2 m2.hi hl [58]
       have m3:=(zAB hE [58] m2.hi).mv
       have m13:=(m1.trans m2).trans m3
       have hc1:=hc (needZ l [58] (nameZ l (zk l 7 y)).2) m3.hi (m13.ct hky)
       have hm1:=hm (needZ l [58] (nameZ l (zk l 7 y)).2) m3.hi
       have hg1:=hg (needZ l [58] (nameZ l (zk l 7 y)).2) m3.hi
       have hhi:=hm1.hi
       have hlo:=hm1.lo
       have hlo3:=m13.lo
       have hckv:=hm1.ct (m13.ct hky)
       repeat' (first
|apply zAd 18 ([(1,[1000000]),(4,[5]),(8,[1000000]),(12,[1000000])]) ([]) rfl (by kernel_rfl) (by kernel_rfl) (by kernel_rfl)
|apply zFo
|apply zGx rfl
 . conv => lhs; whnf
 . conv => lhs; whnf
 . rfl
 . conv => lhs; whnf; arg 1; whnf
 . exact fun _ => rfl
 . first | exact h4
 . exact fun _ => rfl
 . exact fun _ => rfl
 . rfl
|apply u_m (zf l) (zH l) rfl
 . conv => lhs; whnf
 . conv => lhs; whnf
 . rfl
 . conv => lhs; whnf; arg 1; whnf
 . first | exact zt _ _
 . first | exact hn2
 . exact fun _ => rfl
 . exact fun _ => rfl
 . rfl
|apply u_lit [strD (nameZ l (zk l 7 y)).1] rfl rfl
 . conv => lhs; whnf
 . first | (conv => lhs; whnf; arg 1; whnf)
 . rfl
 . rfl
 . repeat' (first | exact trivial | apply And.intro | rfl)
|apply zCz rfl rfl
 . conv => lhs; whnf
 . conv => lhs; whnf
 . first | exact bT1 ‹_› | exact bT2 ‹_›
|apply zFm rfl
 . conv => lhs; whnf
 . conv => lhs; whnf; arg 2; whnf
|apply u_app rfl rfl
 . conv => lhs; whnf
 . first | (conv => lhs; whnf; arg 1; whnf)
 . first | exact fun _ => rfl | (intro _; kernel_rfl)
 . conv => lhs; whnf
 . rfl
 . conv => lhs; whnf; arg 1; whnf
 . conv => lhs; whnf
|apply zHi rfl rfl rfl
 . conv => lhs; whnf
 . rfl
 . conv => lhs; whnf; arg 1; whnf
 . conv => lhs; whnf; arg 1; whnf
 . exact ⟨by kernel_rfl,by kernel_rfl⟩
 . rfl
|apply zAX rfl
 . conv => lhs; whnf
 . conv => lhs; whnf
 . first | rfl | assumption
 . conv => lhs; whnf; arg 2; whnf
|apply zDQ rfl
 . conv => lhs; whnf
 . conv => lhs; whnf
 . first | rfl | assumption
 . conv => lhs; whnf
 . first | exact hh
|show inO _ _ = true; rfl
|apply zAd 8 ([(1,[5])]) ([(3,[1000000]),(5,[902]),(7,[5])]) rfl (by kernel_rfl) (by kernel_rfl) (by kernel_rfl)
|apply s_m (zf l) (zH l) rfl
 . conv => lhs; whnf
 . conv => lhs; whnf
 . rfl
 . conv => lhs; whnf; arg 1; whnf
 . first | exact zt _ _
 . first | exact h1 | exact h5 | exact h3 | exact hc1
 . exact fun _ => rfl
 . exact fun _ => rfl
|apply zj (zf l) (zH l) rfl
 . conv => lhs; whnf
 . conv => lhs; whnf
 . first | rfl | assumption
 . conv => lhs; whnf
 . rfl
 . conv => lhs; whnf; arg 1; whnf
 . first | exact zt _ _
 . first | exact h1 | exact h5 | exact h3 | exact hc1
 . exact fun _ => rfl
 . exact fun _ => rfl
|apply zBP [(val (needZ l [58] (nameZ l (zk l 7 y)).2)).1] rfl rfl
 . conv => lhs; whnf
 . first | (conv => lhs; whnf; arg 1; whnf)
 . rfl
 . rfl
 . repeat' (first | exact trivial | apply And.intro | rfl)
|apply zJ
 . conv => lhs; whnf
 . assumption
|refine zA ?_
|refine zB ?_
|refine zG ?_
|refine zb ?_
|apply aw_1
 conv => whnf
 refine ⟨?_,trivial⟩
|apply zY rfl rfl
 . conv => lhs; whnf
 . conv => lhs; whnf
 . first | exact bT1 ‹_› | exact bT2 ‹_›
|apply s_1
 conv => whnf; arg 1; arg 4; arg 3; whnf
 refine ⟨?_,?_⟩
|apply zI rfl rfl rfl
 . conv => lhs; whnf
 . conv => lhs; whnf; arg 1; whnf
 . conv => lhs; whnf; arg 1; whnf
 . exact ⟨by kernel_rfl,by kernel_rfl⟩
 . rfl
|apply zBQ rfl rfl
 . conv => lhs; whnf
 . first | (conv => lhs; whnf; arg 1; whnf)
 . first | exact fun _ => rfl | (intro _; kernel_rfl)
 . conv => lhs; whnf
 . conv => lhs; whnf; arg 1; whnf
 . conv => lhs; whnf
|apply zD rfl
 . conv => lhs; whnf
 . conv => lhs; whnf
 . first | rfl | assumption
 . conv => lhs; whnf; arg 2; whnf
|exact trivial)
       all_goals first
        | exact zS (by omega)
        | exact zCB l hy
        | exact ⟨by simp,app80 (by omega)⟩
        | exact ⟨by simp,by rw [List.length_map]; exact app16 (by omega)⟩
        | skip
       . refine zL (Nat.lt_succ_self j) ⟨(val (needZ l [58] (nameZ l (zk l 7 y)).2)).2,ks ++ [(nameZ l (zk l 7 y)).1],vs ++ [(val (needZ l [58] (nameZ l (zk l 7 y)).2)).1],hR,hhi,hckv,?_,?_,?_,?_,Sub.live ⟨rfl,rfl,rfl,rfl,rfl,trivial⟩ ⟨rfl,rfl,?_,?_,?_,trivial⟩⟩
         . have:=hj g0; omega
         . intro h; have:=hg1 h; have:=hj g0; omega
         . rw [List.length_append]; simp only [List.length_cons,List.length_nil]; omega
         . rw [List.length_append,List.length_append,hkv]; rfl
         . rw [List.map_append]; rfl
         . rw [List.length_append]; rfl
         . rw [List.map_append,List.length_append]; rfl
     | false =>
       have e0 : keyZ l true ks y = (ks ++ [(nameZ l y).1],needZ l [58] (nameZ l y).2):=by
        unfold keyZ; rw [if_pos rfl,if_neg (by rw [hN,hC]; decide)]
       rw [e0] at hR
       rw [hC] at hh
       have m1 : Mw l y (y):=.refl hy
       have hn2:=z8 l (y) m1.hi hl
       have m2:=(zm hE m1.hi).mv
       have h3:=zAU l (nameZ l (y)).2 m2.hi hl [58]
       have m3:=(zAB hE [58] m2.hi).mv
       have m13:=(m1.trans m2).trans m3
       have hc1:=hc (needZ l [58] (nameZ l (y)).2) m3.hi (m13.ct hky)
       have hm1:=hm (needZ l [58] (nameZ l (y)).2) m3.hi
       have hg1:=hg (needZ l [58] (nameZ l (y)).2) m3.hi
       have hhi:=hm1.hi
       have hlo:=hm1.lo
       have hlo3:=m13.lo
       have hckv:=hm1.ct (m13.ct hky)
       repeat' (first
|apply zAd 18 ([(1,[1000000]),(4,[5]),(8,[1000000]),(12,[1000000])]) ([]) rfl (by kernel_rfl) (by kernel_rfl) (by kernel_rfl)
|apply zFo
|apply zGx rfl
 . conv => lhs; whnf
 . conv => lhs; whnf
 . rfl
 . conv => lhs; whnf; arg 1; whnf
 . exact fun _ => rfl
 . first | exact h4
 . exact fun _ => rfl
 . exact fun _ => rfl
 . rfl
|apply u_m (zf l) (zH l) rfl
 . conv => lhs; whnf
 . conv => lhs; whnf
 . rfl
 . conv => lhs; whnf; arg 1; whnf
 . first | exact zt _ _
 . first | exact hn2
 . exact fun _ => rfl
 . exact fun _ => rfl
 . rfl
|apply u_lit [strD (nameZ l (y)).1] rfl rfl
 . conv => lhs; whnf
 . first | (conv => lhs; whnf; arg 1; whnf)
 . rfl
 . rfl
 . repeat' (first | exact trivial | apply And.intro | rfl)
|apply zCz rfl rfl
 . conv => lhs; whnf
 . conv => lhs; whnf
 . first | exact bT1 ‹_› | exact bT2 ‹_›
|apply zFm rfl
 . conv => lhs; whnf
 . conv => lhs; whnf; arg 2; whnf
|apply u_app rfl rfl
 . conv => lhs; whnf
 . first | (conv => lhs; whnf; arg 1; whnf)
 . first | exact fun _ => rfl | (intro _; kernel_rfl)
 . conv => lhs; whnf
 . rfl
 . conv => lhs; whnf; arg 1; whnf
 . conv => lhs; whnf
|apply zHi rfl rfl rfl
 . conv => lhs; whnf
 . rfl
 . conv => lhs; whnf; arg 1; whnf
 . conv => lhs; whnf; arg 1; whnf
 . exact ⟨by kernel_rfl,by kernel_rfl⟩
 . rfl
|apply zAX rfl
 . conv => lhs; whnf
 . conv => lhs; whnf
 . first | rfl | assumption
 . conv => lhs; whnf; arg 2; whnf
|apply zDQ rfl
 . conv => lhs; whnf
 . conv => lhs; whnf
 . first | rfl | assumption
 . conv => lhs; whnf
 . first | exact hh
|show inO _ _ = true; rfl
|apply zAd 8 ([(1,[5])]) ([(3,[1000000]),(5,[902]),(7,[5])]) rfl (by kernel_rfl) (by kernel_rfl) (by kernel_rfl)
|apply s_m (zf l) (zH l) rfl
 . conv => lhs; whnf
 . conv => lhs; whnf
 . rfl
 . conv => lhs; whnf; arg 1; whnf
 . first | exact zt _ _
 . first | exact h1 | exact h5 | exact h3 | exact hc1
 . exact fun _ => rfl
 . exact fun _ => rfl
|apply zj (zf l) (zH l) rfl
 . conv => lhs; whnf
 . conv => lhs; whnf
 . first | rfl | assumption
 . conv => lhs; whnf
 . rfl
 . conv => lhs; whnf; arg 1; whnf
 . first | exact zt _ _
 . first | exact h1 | exact h5 | exact h3 | exact hc1
 . exact fun _ => rfl
 . exact fun _ => rfl
|apply zBP [(val (needZ l [58] (nameZ l (y)).2)).1] rfl rfl
 . conv => lhs; whnf
 . first | (conv => lhs; whnf; arg 1; whnf)
 . rfl
 . rfl
 . repeat' (first | exact trivial | apply And.intro | rfl)
|apply zJ
 . conv => lhs; whnf
 . assumption
|refine zA ?_
|refine zB ?_
|refine zG ?_
|refine zb ?_
|apply aw_1
 conv => whnf
 refine ⟨?_,trivial⟩
|apply zY rfl rfl
 . conv => lhs; whnf
 . conv => lhs; whnf
 . first | exact bT1 ‹_› | exact bT2 ‹_›
|apply s_1
 conv => whnf; arg 1; arg 4; arg 3; whnf
 refine ⟨?_,?_⟩
|apply zI rfl rfl rfl
 . conv => lhs; whnf
 . conv => lhs; whnf; arg 1; whnf
 . conv => lhs; whnf; arg 1; whnf
 . exact ⟨by kernel_rfl,by kernel_rfl⟩
 . rfl
|apply zBQ rfl rfl
 . conv => lhs; whnf
 . first | (conv => lhs; whnf; arg 1; whnf)
 . first | exact fun _ => rfl | (intro _; kernel_rfl)
 . conv => lhs; whnf
 . conv => lhs; whnf; arg 1; whnf
 . conv => lhs; whnf
|apply zD rfl
 . conv => lhs; whnf
 . conv => lhs; whnf
 . first | rfl | assumption
 . conv => lhs; whnf; arg 2; whnf
|exact trivial)
       all_goals first
        | exact zS (by omega)
        | exact zCB l hy
        | exact ⟨by simp,app80 (by omega)⟩
        | exact ⟨by simp,by rw [List.length_map]; exact app16 (by omega)⟩
        | skip
       . refine zL (Nat.lt_succ_self j) ⟨(val (needZ l [58] (nameZ l (y)).2)).2,ks ++ [(nameZ l (y)).1],vs ++ [(val (needZ l [58] (nameZ l (y)).2)).1],hR,hhi,hckv,?_,?_,?_,?_,Sub.live ⟨rfl,rfl,rfl,rfl,rfl,trivial⟩ ⟨rfl,rfl,?_,?_,?_,trivial⟩⟩
         . have:=hj g0; omega
         . intro h; have:=hg1 h; have:=hj g0; omega
         . rw [List.length_append]; simp only [List.length_cons,List.length_nil]; omega
         . rw [List.length_append,List.length_append,hkv]; rfl
         . rw [List.map_append]; rfl
         . rw [List.length_append]; rfl
         . rw [List.map_append,List.length_append]; rfl
 . have f0 : (y.er == 0) = false:=by simpa using g0
   have g1 : ((y.er == 0) == true) = false:=by rw [f0]; rfl
   rw [zJT (fun h => g0 h.1)] at hR
   subst hR
   repeat' (first
|apply s_m (zf l) (zH l) rfl
 . conv => lhs; whnf
 . conv => lhs; whnf
 . rfl
 . conv => lhs; whnf; arg 1; whnf
 . first | exact zt _ _
 . first | exact h1 | exact h2
 . exact fun _ => rfl
 . exact fun _ => rfl
|apply zd rfl
 . conv => lhs; whnf
 . conv => lhs; whnf
 . first | rfl | assumption
|refine zA ?_
|refine zB ?_
|refine zG ?_
|apply aw_1
 conv => whnf
 refine ⟨?_,trivial⟩
|apply zV rfl rfl
 . conv => lhs; whnf
 . conv => lhs; whnf
 . first | exact bF1 ‹_› | exact bF2 ‹_›
|apply s_1
 conv => whnf; arg 1; arg 4; arg 3; whnf
 refine ⟨?_,?_⟩
|apply zI rfl rfl rfl
 . conv => lhs; whnf
 . conv => lhs; whnf; arg 1; whnf
 . conv => lhs; whnf; arg 1; whnf
 . exact ⟨by kernel_rfl,by kernel_rfl⟩
 . rfl
|refine zP ?_
|refine zM rfl ?_
|refine zW ?_
|refine zq ⟨?_,?_⟩
|refine ⟨_,by conv => lhs; whnf; arg 2; whnf,?_⟩; conv => rhs; whnf
|exact trivial)
   all_goals first
    | exact ⟨rfl,trivial⟩
    | rfl
    | skip
end
end Go.Proofs.YthjiclhfhjdjpaaGreatDoor
namespace Go.Proofs.YthjiclhfhjdjpaaGreatDoor
open Go.RowKit
attribute [local irreducible] wpList Calls Code.wp
section
variable {X : Cx} {nn : Nat} {st : Vst nn} {ops : Array Oper} {o : Oper} {l : List Oper} {Q : Vst nn -> Prop} {d : Option Tmp} {k : Nat} {fr rd wr : Nat -> List Nat}
theorem h_call {f : FuncId} {args : List V} {r : V} (hg : o.guard = none) (hd : o.dst = d) (h : act1 X.P st.rs (ev st) o.op = .call f args) (hc : AC X.e X.P f (outL args) r) (hf : nfB (fr k) r [] = true) (hK : absLexH X ops fr rd wr Q (k + 1) l (st.put d r)) : absLexH X ops fr rd wr Q k (o :: l) st:=
 ⟨r,[],.old (.inl ⟨by simp [gw,hg],.call h hc⟩) hf,by rw [hd]; exact hK⟩
end
end Go.Proofs.YthjiclhfhjdjpaaGreatDoor
namespace Go.Proofs.YthjiclhfhjdjpaaGreatDoor
open Go.RowKit
set_option linter.unusedSectionVars false
attribute [local irreducible] wpList Calls Code.wp AW AWo OpOk seqK zAI zAO loopK endK AC zp Yld Sub
attribute [local irreducible] ACB ACX ACE absLexG YldG absLexU YldU absLexH
def ctZ (x : RS) : RS:={ x with ct:=x.ct + 1 }
theorem etaF3 (l : List Tok) (x : RS) : [V.sl 135 (l.map tokD),.c (.int .i64 (x.at' : Int)),.c (.int .i64 ((x.ct : Int) + 1)),.c (.bool x.fx),.c (.int .i64 x.er),.c (.int .i64 (x.wr : Int))] = zf l (ctZ x):=rfl
section
variable (l : List Tok) (hE : Ed l) (hl : l.length <= 100000) (hS : ∀ i,i < l.length -> (l.getD i ⟨5,[],0⟩).s.length <= 100000)
include hE hl hS
theorem simpF_ac (t : Tok) (ht : t.s.length <= 100000) : AC EN5 Tryz.prog 333 [.agg (tokC t)] (.tup [VV (simpV t),.c (.bool (simpB t))]):=by
 by_cases h3 : t.k = 3
 . exact simp3_ac t ht h3
 by_cases h4 : t.k = 4
 . exact simp4_ac t ht h4
 by_cases h2 : t.k = 2
 . exact simp2_ac t ht h2
 exact simpN_ac t ht h3 h4 h2
theorem valueE_acb (f lv : Nat) (x : RS) (h0 : x.er ≠ 0) : ACB EN5 Tryz.prog 293 [.bx (pn 0) 0,.c (.int .i64 (lv : Int))] [boxF l x] (VV (valueZ l (f + 1) lv x).1) [boxF l (valueZ l (f + 1) lv x).2]:=by
 have e : valueZ l (f + 1) lv x = (zBG,x):=by
  conv => lhs; unfold valueZ
  rw [if_pos h0]
 have f0 : (x.er != 0) = true:=by simpa using h0
 rw [e]
 refine zZ (fn:=Tryz.f293) 105 Tryz.func293 rfl rfl ?_
 intro pas w0 w he hp
 repeat' (first
|apply zAL (VV zBG) rfl rfl
 . conv => lhs; whnf; arg 2; whnf
 . repeat' (first | exact VLe.refl _ | exact VLe.nil _ | exact VLe.lit _ _ | exact VLe.own _ _ _ | apply VLe.agg | apply VLeL.cons | exact VLeL.nil)
|apply zJ
 . conv => lhs; whnf
 . assumption
|refine zA ?_
|refine zB ?_
|refine zG ?_
|apply aw_1
 conv => whnf
 refine ⟨?_,trivial⟩
|apply s_1
 conv => whnf; arg 1; arg 4; arg 3; whnf
 refine ⟨?_,?_⟩
|apply zI rfl rfl rfl
 . conv => lhs; whnf
 . conv => lhs; whnf; arg 1; whnf
 . conv => lhs; whnf; arg 1; whnf
 . exact ⟨by kernel_rfl,by kernel_rfl⟩
 . rfl
|refine zU ?_
|refine zq ⟨?_,?_⟩
|refine ⟨_,by conv => lhs; whnf; arg 2; whnf,?_⟩; conv => rhs; whnf
|exact trivial)
 all_goals first
  | exact ⟨rfl,trivial⟩
  | rfl
  | skip
def kindZ (bv a b c : Bool) : Prop:=(bv = true /\ a = false /\ b = false /\ c = false) \/ (bv = false /\ a = true /\ b = false /\ c = false) \/ (bv = false /\ a = false /\ b = true /\ c = false) \/ (bv = false /\ a = false /\ b = false /\ c = true) \/ (bv = false /\ a = false /\ b = false /\ c = false)
theorem kind_of (x : RS) (h0 : x.er = 0) : kindZ (simpB (tkZ l x)) (sgZ l [91] x) (sgZ l [123] x) (sgZ l [36] x):=by
 unfold kindZ simpB sgZ
 rw [h0]
 generalize (tkZ l x).s = s
 by_cases h1 : (tkZ l x).k = 1
 . rw [h1]
   by_cases s1 : s = [91]
   . subst s1; right; left; exact ⟨rfl,rfl,rfl,rfl⟩
   by_cases s2 : s = [123]
   . subst s2; right; right; left; exact ⟨rfl,rfl,rfl,rfl⟩
   by_cases s3 : s = [36]
   . subst s3; right; right; right; left; exact ⟨rfl,rfl,rfl,rfl⟩
   right; right; right; right
   simp [s1,s2,s3]
 . cases hb : ((tkZ l x).k == 3 || (tkZ l x).k == 4 || (tkZ l x).k == 2) with
   | true => left; simp [h1]
   | false => right; right; right; right; simp [h1]
end
noncomputable def Hv3 (l : List Tok) (x : RS) (lv : Nat) : Vst 105:=stS 105 [(0,.bx (pn 0) 0),(1,.c (.int .i64 (lv : Int))),(4,.bx 4 0)] [(pn 0,boxF l x),(4,.box 84 (zK 0))]
noncomputable def Hv5 (l : List Tok) (y : RS) (lv : Nat) (dv : D) (bv a b c : Bool) : Vst 105:=
 stS 105 [(0,.bx (pn 0) 0),(1,.c (.int .i64 (lv : Int))),(4,.bx 4 0),(5,.bx 5 0),(6,.c (.bool bv)),(7,.c (.bool a)),(8,.c (.bool b)),(9,.c (.bool c))]
  [(pn 0,boxF l y),(4,.box 84 (zK 0)),(5,.box 84 (cellsV Tryz.prog 12 84 dv))]
section
variable (l : List Tok) (hE : Ed l) (hl : l.length <= 100000) (hS : ∀ i,i < l.length -> (l.getD i ⟨5,[],0⟩).s.length <= 100000)
include hE hl hS
theorem valueA_acb (f lv : Nat) (hlv : lv <= 25) (x : RS) (hx : x.at' < l.length) (h0 : x.er = 0) (hk : Ck x)
 (hc : (chkZ l lv x).er = 0 -> ∀ y,y.at' < l.length -> Ck y -> ACB EN5 Tryz.prog 293 [.bx (pn 0) 0,.c (.int .i64 ((lv : Int) + 1))] [boxF l y] (VV (valueZ l f (lv + 1) y).1) [boxF l (valueZ l f (lv + 1) y).2])
 (hf : (chkZ l lv x).er = 0 -> 0 < f) : ACB EN5 Tryz.prog 293 [.bx (pn 0) 0,.c (.int .i64 (lv : Int))] [boxF l x] (VV (valueZ l (f + 1) lv x).1) [boxF l (valueZ l (f + 1) lv x).2]:=by
 have hkind:=kind_of l hE hl hS x h0
 have f0 : (x.er != 0) = false:=by rw [h0]; rfl
 have hgd : gD (l.map tokD) ((x.at' : Int)).toNat = tokD (tkZ l x):=zCN l hx
 have hsi : AC EN5 Tryz.prog 333 [.agg (cellsV Tryz.prog 12 135 (gD (l.map tokD) ((x.at' : Int)).toNat))] (.tup [VV (simpV (tkZ l x)),.c (.bool (simpB (tkZ l x)))]):=by
  rw [hgd]
  exact simpF_ac l hE hl hS (tkZ l x) (hS _ hx)
 have h1:=zr l x hx [91]
 have h2:=zr l x hx [123]
 have h3:=zr l x hx [36]
 have hch:=chk_mw (l:=l) lv hx h0
 have hup : (chkZ l lv x).er = 0 -> (upZ (chkZ l lv x)).at' < l.length /\ Ck (upZ (chkZ l lv x)):=fun h =>
  ⟨(up_pg hE hch.hi (chk_k h0 h)).mv.hi,hch.ct hk⟩
 have hnm:=fun (h : ((chkZ l lv x).er != 0) = false) => z8 l (upZ (chkZ l lv x)) (hup (by simpa using h)).1 hl
 have hL:=fun (h : ((chkZ l lv x).er != 0) = false) => listF_acb l hE hl (valueZ l f (lv + 1)) lv (by omega) (fun y hy => (zBL hE f (lv + 1) y hy).1) (fun y hy => (zBL hE f (lv + 1) y hy).2 (hf (by simpa using h))) (hc (by simpa using h)) [93] (upZ (chkZ l lv x)) (hup (by simpa using h)).1 (hup (by simpa using h)).2
 have hO:=fun (h : ((chkZ l lv x).er != 0) = false) => objF_acb l hE hl (valueZ l f (lv + 1)) lv (by omega) (fun y hy => (zBL hE f (lv + 1) y hy).1) (fun y hy => (zBL hE f (lv + 1) y hy).2 (hf (by simpa using h))) (hc (by simpa using h)) [125] (upZ (chkZ l lv x)) (hup (by simpa using h)).1 (hup (by simpa using h)).2
 have hat : (chkZ l lv x).at' + 1 <= 100000:=by have:=hch.hi; omega
 have e : valueZ l (f + 1) lv x = (if (chkZ l lv x).er ≠ 0 then (zBG,chkZ l lv x)
  else if (sgZ l [36] x && !x.fx) = true then (valD 7 0 (nameZ l (upZ (chkZ l lv x))).1 [] [],(nameZ l (upZ (chkZ l lv x))).2)
  else if sgZ l [91] x = true then
   (valD 5 0 [] (elemsZ l (valueZ l f (lv + 1)) false [93] (l.length + 1 - (upZ (chkZ l lv x)).at') [] [] (upZ (chkZ l lv x))).1.2 (elemsZ l (valueZ l f (lv + 1)) false [93] (l.length + 1 - (upZ (chkZ l lv x)).at') [] [] (upZ (chkZ l lv x))).1.1,(elemsZ l (valueZ l f (lv + 1)) false [93] (l.length + 1 - (upZ (chkZ l lv x)).at') [] [] (upZ (chkZ l lv x))).2)
  else if sgZ l [123] x = true then
   (valD 6 0 [] (elemsZ l (valueZ l f (lv + 1)) true [125] (l.length + 1 - (upZ (chkZ l lv x)).at') [] [] (upZ (chkZ l lv x))).1.2 (elemsZ l (valueZ l f (lv + 1)) true [125] (l.length + 1 - (upZ (chkZ l lv x)).at') [] [] (upZ (chkZ l lv x))).1.1,(elemsZ l (valueZ l f (lv + 1)) true [125] (l.length + 1 - (upZ (chkZ l lv x)).at') [] [] (upZ (chkZ l lv x))).2)
  else (simpV (tkZ l x),upZ (chkZ l lv x))):=by
  conv => lhs; unfold valueZ
  rw [if_neg (fun h => h h0)]
 rw [e]
 clear e hch hup hc hf hgd
 have e1 : chk1 l x = if simpB (tkZ l x) = false /\ sgZ l [91] x = false /\ sgZ l [123] x = false /\ (sgZ l [36] x && !x.fx) = false then zk l 3 x else x:=rfl
 have hx1 : (chk1 l x).at' < l.length:=by rw [chk1_at]; exact hx
 have e2 : chk2 l lv (chk1 l x) = if 24 < lv then zk l 5 (chk1 l x) else chk1 l x:=rfl
 have hx2 : (chk2 l lv (chk1 l x)).at' < l.length:=by rw [chk2_at]; exact hx1
 have hct : (chk2 l lv (chk1 l x)).ct = x.ct:=by rw [chk2_ct,chk1_ct]
 have hct2 : x.ct <= 4096:=hk.2 h0
 have e4 : chkZ l lv x = if 4096 < (ctZ (chk2 l lv (chk1 l x))).ct then zk l 4 (ctZ (chk2 l lv (chk1 l x))) else ctZ (chk2 l lv (chk1 l x)):=rfl
 have hf1:=zAS l x 3 hx
 have hf2:=zAS l (chk1 l x) 5 hx1
 have hf3:=zAS l (ctZ (chk2 l lv (chk1 l x))) 4 hx2
 have hct3 : (ctZ (chk2 l lv (chk1 l x))).ct = x.ct + 1:=by rw [<- hct]; rfl
 generalize chkZ l lv x = Y4 at *
 generalize chk2 l lv (chk1 l x) = Y2 at *
 generalize chk1 l x = Y1 at *
 generalize simpV (tkZ l x) = dv at *
 generalize simpB (tkZ l x) = bv at *
 generalize sgZ l [91] x = a at *
 generalize sgZ l [123] x = b at *
 generalize sgZ l [36] x = c at *
 rcases hkind with ⟨rfl,rfl,rfl,rfl⟩ | ⟨rfl,rfl,rfl,rfl⟩ | ⟨rfl,rfl,rfl,rfl⟩ | ⟨rfl,rfl,rfl,rfl⟩ | ⟨rfl,rfl,rfl,rfl⟩
 rotate_left 3
 rcases (Bool.eq_false_or_eq_true x.fx).symm with hfx | hfx
 rotate_left 3
 let B1:=true
 let B2:=false
 let B3:=false
 let B4:=false
 have hY1 : Y1 = x:=by rw [e1,if_neg (fun h => by cases h.1)]
 rw [if_neg (show ¬ ((false && !x.fx) = true) by simp),if_neg (show ¬ (false = true) by decide),if_neg (show ¬ (false = true) by decide)]
 rotate_left 1
 let B1:=false
 let B2:=true
 let B3:=false
 let B4:=false
 have hY1 : Y1 = x:=by rw [e1,if_neg (fun h => by cases h.2.1)]
 rw [if_neg (show ¬ ((false && !x.fx) = true) by simp),if_pos (show true = true from rfl)]
 rotate_left 1
 let B1:=false
 let B2:=false
 let B3:=true
 let B4:=false
 have hY1 : Y1 = x:=by rw [e1,if_neg (fun h => by cases h.2.2.1)]
 rw [if_neg (show ¬ ((false && !x.fx) = true) by simp),if_neg (show ¬ (false = true) by decide),if_pos (show true = true from rfl)]
 rotate_left 1
 let B1:=false
 let B2:=false
 let B3:=false
 let B4:=true
 have fa : (!!x.fx) = false:=by rw [hfx]; rfl
 have fb : (!x.fx) = true:=by rw [hfx]; rfl
 have hY1 : Y1 = x:=by rw [e1,if_neg (fun h => by have:=h.2.2.2; rw [hfx] at this; cases this)]
 rw [if_pos (show ((true && !x.fx) = true) by rw [hfx]; rfl)]
 rotate_left 1
 let B1:=false
 let B2:=false
 let B3:=false
 let B4:=false
 have fa : (!!x.fx) = true:=by rw [hfx]; rfl
 have fb : (!x.fx) = false:=by rw [hfx]; rfl
 have hY1 : Y1 = zk l 3 x:=by rw [e1,if_pos ⟨rfl,rfl,rfl,by rw [hfx]; rfl⟩]
 rw [if_neg (show ¬ ((true && !x.fx) = true) by rw [hfx]; decide),if_neg (show ¬ (false = true) by decide),if_neg (show ¬ (false = true) by decide)]
 rotate_left 1
 let B1:=false
 let B2:=false
 let B3:=false
 let B4:=false
 have hY1 : Y1 = zk l 3 x:=by rw [e1,if_pos ⟨rfl,rfl,rfl,rfl⟩]
 rw [if_neg (show ¬ ((false && !x.fx) = true) by simp),if_neg (show ¬ (false = true) by decide),if_neg (show ¬ (false = true) by decide)]
 rotate_left 1
 all_goals
  refine zZ (fn:=Tryz.f293) 105 Tryz.func293 rfl rfl ?_
  intro pas w0 w he hp
  repeat' (first
|apply zAd 16 ([(1,[1000000]),(3,[1000000]),(5,[1000000]),(10,[1000000])]) ([]) rfl (by kernel_rfl) (by kernel_rfl) (by kernel_rfl)
|apply zFo
|apply zGx rfl
 . conv => lhs; whnf
 . conv => lhs; whnf
 . rfl
 . conv => lhs; whnf; arg 1; whnf
 . exact fun _ => rfl
 . first | exact h1 | exact h2 | exact h3
 . exact fun _ => rfl
 . exact fun _ => rfl
 . rfl
|apply zFE rfl
 . conv => lhs; whnf
 . conv => lhs; whnf
 . first | rfl | assumption
|apply zFm rfl
 . conv => lhs; whnf
 . conv => lhs; whnf; arg 2; whnf
|apply zAX rfl
 . conv => lhs; whnf
 . conv => lhs; whnf
 . first | rfl | assumption
 . conv => lhs; whnf; arg 2; whnf
|show inO _ _ = true; rfl
|apply zEK ([(3,[1000000]),(7,[1000000])]) ([(14,[5]),(15,[5])]) ([(14,5)]) rfl (by kernel_rfl) (by kernel_rfl) (by kernel_rfl) (by intro p hp; simp only [List.mem_cons,List.not_mem_nil,or_false] at hp; rcases hp with rfl <;> (repeat' (first | exact fresh_S rfl | refine fresh_put ?_ rfl | refine fresh_res ?_ rfl rfl)))
|apply h_nil
|apply zGI rfl rfl rfl rfl
 . conv => lhs; whnf; arg 1; whnf
 . rfl
 . rfl
 . kernel_rfl
|apply h_val rfl
 . conv => lhs; whnf
 . conv => lhs; whnf; arg 2; whnf
 . kernel_rfl
|apply zGH rfl rfl rfl
 . conv => lhs; whnf
 . rfl
 . conv => lhs; whnf; arg 1; whnf
 . conv => lhs; whnf; arg 1; whnf
 . exact ⟨by kernel_rfl,by kernel_rfl⟩
 . rfl
 . kernel_rfl
|apply h_call rfl
 . conv => lhs; whnf
 . conv => lhs; whnf
 . first | exact hsi
 . kernel_rfl
|apply zAL (VV zBG) rfl rfl
 . conv => lhs; whnf; arg 2; whnf
 . repeat' (first | exact VLe.refl _ | exact VLe.nil _ | exact VLe.lit _ _ | exact VLe.own _ _ _ | apply VLe.agg | apply VLeL.cons | exact VLeL.nil)
|apply zAL (VV (valD 7 0 (nameZ l (upZ Y4)).1 [] [])) rfl rfl
 . conv => lhs; whnf; arg 2; whnf
 . repeat' (first | exact VLe.refl _ | exact VLe.nil _ | exact VLe.lit _ _ | exact VLe.own _ _ _ | apply VLe.agg | apply VLeL.cons | exact VLeL.nil)
|apply s_m (zf l) (zH l) rfl
 . conv => lhs; whnf
 . conv => lhs; whnf
 . rfl
 . conv => lhs; whnf; arg 1; whnf
 . first | exact zt _ _ | exact etaF3 _ _ | exact zCO _ _
 . first | exact hf1 | exact hf2 | exact hf3 | exact hnm ‹_› | exact hL ‹_› | exact hO ‹_›
 . exact fun _ => rfl
 . exact fun _ => rfl
|apply zd rfl
 . conv => lhs; whnf
 . conv => lhs; whnf
 . first | rfl | assumption
|apply zJ
 . conv => lhs; whnf
 . assumption
|apply zE
 . conv => lhs; whnf
 . assumption
|apply zAw 3 (Hv3 l x lv) rfl
|apply zAw 7 (Hv5 l Y1 lv dv B1 B2 B3 B4) rfl
|apply zAw 9 (Hv5 l Y2 lv dv B1 B2 B3 B4) rfl
|apply zAw 12 (Hv5 l Y4 lv dv B1 B2 B3 B4) rfl
|refine zHN ?_
|refine zA ?_
|refine zB ?_
|refine zG ?_
|apply aw_1
 conv => whnf
 refine ⟨?_,trivial⟩
|apply s_1
 conv => whnf; arg 1; arg 4; arg 3; whnf
 refine ⟨?_,?_⟩
|apply zI rfl rfl rfl
 . conv => lhs; whnf
 . conv => lhs; whnf; arg 1; whnf
 . conv => lhs; whnf; arg 1; whnf
 . exact ⟨by kernel_rfl,by kernel_rfl⟩
 . rfl
|refine zg (by conv => lhs; whnf) ?_ ?_ <;> intro hb
|refine zU ?_
|refine zq ⟨?_,?_⟩
|refine ⟨_,by conv => lhs; whnf; arg 2; whnf,?_⟩; conv => rhs; whnf
|exact trivial)
  all_goals first
   | exact zS (by omega)
   | exact zCB l hx
   | exact Sub.live ⟨rfl,rfl,rfl,trivial⟩ ⟨rfl,rfl,trivial⟩
   | (have q:=of_decide_eq_true (by assumption : decide ((lv : Int) > 24) = true)
      have q2 : Y2 = zk l 5 Y1:=by rw [e2,if_pos (by omega)]
      exact Sub.live ⟨rfl,rfl,rfl,rfl,rfl,rfl,rfl,rfl,trivial⟩ ⟨by rw [q2]; rfl,rfl,rfl,trivial⟩)
   | (have q:=of_decide_eq_false (by assumption : decide ((lv : Int) > 24) = false)
      have q2 : Y2 = Y1:=by rw [e2,if_neg (by omega)]
      exact Sub.live ⟨rfl,rfl,rfl,rfl,rfl,rfl,rfl,rfl,trivial⟩ ⟨by rw [q2]; rfl,rfl,rfl,trivial⟩)
   | (have q:=of_decide_eq_true (by assumption : decide ((Y2.ct : Int) + 1 > 4096) = true)
      have q2 : Y4 = zk l 4 (ctZ Y2):=by rw [e4,if_pos (by omega)]
      exact Sub.live ⟨rfl,rfl,rfl,rfl,rfl,rfl,rfl,rfl,trivial⟩ ⟨by rw [q2]; rfl,rfl,rfl,trivial⟩)
   | (have q:=of_decide_eq_false (by assumption : decide ((Y2.ct : Int) + 1 > 4096) = false)
      have q2 : Y4 = ctZ Y2:=by rw [e4,if_neg (by omega)]
      exact Sub.live ⟨rfl,rfl,rfl,rfl,rfl,rfl,rfl,rfl,trivial⟩ ⟨by rw [q2]; rfl,rfl,rfl,trivial⟩)
   | exact Sub.live ⟨rfl,rfl,rfl,rfl,rfl,rfl,rfl,by first | rfl | (rw [hfx]; rfl) | rw [hfx],trivial⟩ ⟨by rw [hY1]; rfl,rfl,rfl,trivial⟩
   | (rw [if_pos (show Y4.er ≠ 0 by simpa using (by assumption : (Y4.er != 0) = true))]; first | exact ⟨rfl,trivial⟩ | rfl)
   | (rw [if_neg (show ¬ Y4.er ≠ 0 by simpa using (by assumption : (Y4.er != 0) = false))]; first | exact ⟨rfl,trivial⟩ | rfl)
   | skip
end
theorem etaF4 (l : List Tok) (x : RS) (b : Bool) : [V.sl 135 (l.map tokD),.c (.int .i64 (x.at' : Int)),.c (.int .i64 0),.c (.bool b),.c (.int .i64 x.er),.c (.int .i64 (x.wr : Int))] = zf l { x with ct:=0,fx:=b }:=rfl
section
variable (l : List Tok) (hE : Ed l) (hl : l.length <= 100000) (hS : ∀ i,i < l.length -> (l.getD i ⟨5,[],0⟩).s.length <= 100000)
include hE hl hS
theorem zFC : ∀ (f lv : Nat) (x : RS),x.at' < l.length -> Ck x -> f + lv = 25 -> ACB EN5 Tryz.prog 293 [.bx (pn 0) 0,.c (.int .i64 (lv : Int))] [boxF l x] (VV (valueZ l (f + 1) lv x).1) [boxF l (valueZ l (f + 1) lv x).2]
 | f,lv,x,hx,hk,hf => by
   by_cases h0 : x.er = 0
   . have hlv : (chkZ l lv x).er = 0 -> lv <= 24:=fun h => (chk_ok h0 h).2.1
     have hc : (chkZ l lv x).er = 0 -> ∀ y,y.at' < l.length -> Ck y -> ACB EN5 Tryz.prog 293 [.bx (pn 0) 0,.c (.int .i64 ((lv : Int) + 1))] [boxF l y] (VV (valueZ l f (lv + 1) y).1) [boxF l (valueZ l f (lv + 1) y).2]:=fun h y hy hky => by
      have:=hlv h
      cases f with
      | zero => omega
      | succ g => exact zFC g (lv + 1) y hy hky (by omega)
     have hf0 : (chkZ l lv x).er = 0 -> 0 < f:=fun h => by have:=hlv h; omega
     exact valueA_acb l hE hl hS f lv (by omega) x hx h0 hk hc hf0
   . exact valueE_acb l hE hl hS f lv x h0
theorem zB4 (b : Bool) (x : RS) (hx : x.at' < l.length) : ACB EN5 Tryz.prog 228 [.bx (pn 0) 0,.c (.bool b)] [boxF l x] (VV (wholeZ l b x).1) [boxF l (wholeZ l b x).2]:=by
 have h1 : ACB EN5 Tryz.prog 293 [.bx (pn 0) 0,.c (.int .i64 1)] [boxF l { x with ct:=0,fx:=b }] (VV (wholeZ l b x).1) [boxF l (wholeZ l b x).2]:=
  zFC l hE hl hS 24 1 { x with ct:=0,fx:=b } hx ⟨Nat.zero_le _,fun _ => Nat.zero_le _⟩ rfl
 generalize wholeZ l b x = R at h1 |-
 refine zZ (fn:=Tryz.f228) 14 Tryz.func228 rfl rfl ?_
 intro pas w0 w he hp
 repeat' (first
|apply s_m (zf l) (zH l) rfl
 . conv => lhs; whnf
 . conv => lhs; whnf
 . rfl
 . conv => lhs; whnf; arg 1; whnf
 . first | exact zt _ _ | exact etaF4 _ _ _
 . first | exact h1
 . exact fun _ => rfl
 . exact fun _ => rfl
|refine zA ?_
|refine zB ?_
|refine zG ?_
|apply aw_1
 conv => whnf
 refine ⟨?_,trivial⟩
|apply s_1
 conv => whnf; arg 1; arg 4; arg 3; whnf
 refine ⟨?_,?_⟩
|apply zI rfl rfl rfl
 . conv => lhs; whnf
 . conv => lhs; whnf; arg 1; whnf
 . conv => lhs; whnf; arg 1; whnf
 . exact ⟨by kernel_rfl,by kernel_rfl⟩
 . rfl
|refine zq ⟨?_,?_⟩
|refine ⟨_,by conv => lhs; whnf; arg 2; whnf,?_⟩; conv => rhs; whnf
|exact trivial)
 all_goals first
  | exact ⟨rfl,trivial⟩
  | rfl
  | skip
end
section
variable {l : List Tok} {one : Nat -> RS -> D × RS} {s : List UInt8} {j : Nat} {acc : List D} {x : RS}
theorem zFP (h : ¬ (x.er = 0 /\ (acc.length = 0 \/ sgZ l s x = false))) : manyZ l one s (j + 1) acc x = (acc,needZ l s x):=by
 conv => lhs; unfold manyZ
 rw [if_neg h]
theorem mz_go (h : x.er = 0 /\ (acc.length = 0 \/ sgZ l s x = false)) : manyZ l one s (j + 1) acc x = manyZ l one s j (acc ++ [(one acc.length x).1]) (one acc.length x).2:=by
 conv => lhs; unfold manyZ
 rw [if_pos h]
end
theorem zGC {n : Nat} (h : n = 0) : (((n : Int) == 0) == false) = false:=by rw [h]; rfl
theorem zCf {n : Nat} (h : n ≠ 0) : (((n : Int) == 0) == false) = true:=by
 have : ((n : Int) == 0) = false:=by rw [beq_eq_false_iff_ne]; omega
 rw [this]; rfl
theorem zEC {n : Nat} (h : n = 0) : (((n : Int) == 0) == true) = true:=by rw [h]; rfl
theorem ge_t {n m : Nat} (h : m <= n) : (decide ((n : Int) >= (m : Int)) == true) = true:=by rw [decide_eq_true (by omega)]; rfl
theorem ge_f {n m : Nat} (h : ¬ m <= n) : (decide ((n : Int) >= (m : Int)) == true) = false:=by rw [decide_eq_false (by omega)]; rfl
noncomputable def HaF (l : List Tok) (y : RS) (acc : List D) : Vst 54:=
 stS 54 [(0,.bx (pn 0) 0),(3,.own 3 86 acc)] [(pn 0,boxF l y),(3,.tok 86 acc.length)]
section
variable (l : List Tok) (hE : Ed l) (hl : l.length <= 100000) (hS : ∀ i,i < l.length -> (l.getD i ⟨5,[],0⟩).s.length <= 100000)
include hE hl hS
theorem argsI_acb (x : RS) (hx : x.at' < l.length) (hs0 : sgZ l [40] x = true) : ACB EN5 Tryz.prog 291 [.bx (pn 0) 0] [boxF l x] (.sl 86 (zv l x).1) [boxF l (zv l x).2]:=by
 have h0:=zr l x hx [40]
 have hux:=zAY hE hx hs0
 have hu0:=hux.mv.hi
 have fs : (!sgZ l [40] x) = false:=by rw [hs0]; rfl
 unfold zv
 rw [if_pos hs0]
 generalize hR : manyZ l (oneArg l) [41] (l.length + 1 - (upZ x).at') [] (upZ x) = R
 refine zZ (fn:=Tryz.f291) 54 Tryz.func291 rfl rfl ?_
 intro pas w0 w he hp
 repeat' (first
|apply s_m (zf l) (zH l) rfl
 . conv => lhs; whnf
 . conv => lhs; whnf
 . rfl
 . conv => lhs; whnf; arg 1; whnf
 . first | exact zt _ _
 . first | exact h0
 . exact fun _ => rfl
 . exact fun _ => rfl
|apply zE
 . conv => lhs; whnf
 . assumption
|refine zA ?_
|refine zB ?_
|refine zG ?_
|apply aw_1
 conv => whnf
 refine ⟨?_,trivial⟩
|apply s_1
 conv => whnf; arg 1; arg 4; arg 3; whnf
 refine ⟨?_,?_⟩
|apply zI rfl rfl rfl
 . conv => lhs; whnf
 . conv => lhs; whnf; arg 1; whnf
 . conv => lhs; whnf; arg 1; whnf
 . exact ⟨by kernel_rfl,by kernel_rfl⟩
 . rfl
|exact trivial)
 rotate_left 1
 . exact zS (by omega)
 have hxer : (upZ x).er = 0:=(sg_k hs0).2.1
 refine zn (Sub.live (cs:=[(0,.bx (pn 0) 0),(3,.c (.slice none 0 0))]) (R:=[(pn 0,boxF l (upZ x))]) ⟨rfl,rfl,trivial⟩ ⟨rfl,trivial⟩) ?_
 refine zn (Sub.own (t:=3) (e:=86) rfl rfl) ?_
 generalize upZ x = x0 at hR hu0 hxer |-
 refine zu (fun j st => ∃ y acc,manyZ l (oneArg l) [41] j acc y = R /\ y.at' < l.length /\ 0 < j /\ (y.er = 0 -> l.length - y.at' < j) /\ acc.length + j <= l.length + 1 /\ Sub ⟨Tryz.prog,pas,w0,w,EN5,he,hp,fun _ _ _ => False,[]⟩ st (HaF l y acc)) (l.length + 1 - x0.at') ⟨x0,[],hR,hu0,by omega,fun _ => by omega,by simp only [List.length_nil]; omega,?_⟩ ?_
 . exact Sub.live ⟨rfl,rfl,trivial⟩ ⟨rfl,rfl,trivial⟩
 clear hR
 rintro j st ⟨y,acc,hR,hy,hj0,hj,hv,hs2⟩
 refine zn hs2 ?_
 clear hs2
 obtain ⟨j,rfl⟩ : ∃ q,j = q + 1:=⟨j - 1,by omega⟩
 have h1:=zr l y hy [41]
 have h2:=zAU l y hy hl [41]
 have h3:=zAq l y hy
 have h4:=zAS l y 4 hy
 by_cases g0 : y.er = 0
 rotate_left 1
 . have f0 : (y.er == 0) = false:=by simpa using g0
   have g1 : ((y.er == 0) == true) = false:=by rw [f0]; rfl
   rw [zFP (fun h => g0 h.1)] at hR
   subst hR
   repeat' (first
|apply s_m (zf l) (zH l) rfl
 . conv => lhs; whnf
 . conv => lhs; whnf
 . rfl
 . conv => lhs; whnf; arg 1; whnf
 . first | exact zt _ _
 . first | exact h1 | exact h2
 . exact fun _ => rfl
 . exact fun _ => rfl
|apply zd rfl
 . conv => lhs; whnf
 . conv => lhs; whnf
 . first | rfl | assumption
|apply zCT rfl
 . conv => lhs; whnf
 . rfl
 . rfl
|refine zA ?_
|refine zB ?_
|refine zG ?_
|apply aw_1
 conv => whnf
 refine ⟨?_,trivial⟩
|apply zV rfl rfl
 . conv => lhs; whnf
 . conv => lhs; whnf
 . first | exact bF1 ‹_› | exact bF2 ‹_›
|apply s_1
 conv => whnf; arg 1; arg 4; arg 3; whnf
 refine ⟨?_,?_⟩
|refine zP ?_
|refine zM rfl ?_
|refine zW ?_
|refine zq ⟨?_,?_⟩
|refine ⟨_,by conv => lhs; whnf; arg 2; whnf,?_⟩; conv => rhs; whnf
|exact trivial)
   all_goals first
    | exact ⟨rfl,trivial⟩
    | rfl
    | skip
 have f0 : (y.er == 0) = true:=by rw [g0]; rfl
 have g1 : ((y.er == 0) == true) = true:=by rw [f0]; rfl
 by_cases ha : acc.length = 0
 . have q0:=zGC ha
   have q1:=zEC ha
   have eo : oneArg l acc.length y = (argD (nameZ l y).1 (wholeZ l false (needZ l [58] (nameZ l y).2)).1,(wholeZ l false (needZ l [58] (nameZ l y).2)).2):=by
    unfold oneArg; rw [if_neg (fun h => by omega)]
   rw [mz_go ⟨g0,.inl ha⟩] at hR
   have gl : (decide ((acc.length : Int) >= 16) == true) = false:=ge_f (m:=16) (by omega)
   have m1 : Mw l y (y):=.refl hy
   have k1:=z8 l (y) m1.hi hl
   have m2:=(zm hE m1.hi).mv
   have k2:=zAU l (nameZ l (y)).2 m2.hi hl [58]
   have m3:=(zAB hE [58] m2.hi).mv
   have k3:=zB4 l hE hl hS false (needZ l [58] (nameZ l (y)).2) m3.hi
   rw [eo] at hR
   have hpg:=zB8 hE acc.length hy
   rw [eo] at hpg
   have hhi:=hpg.mv.hi
   have hup:=hpg.up
   repeat' (first
|apply s_m (zf l) (zH l) rfl
 . conv => lhs; whnf
 . conv => lhs; whnf
 . rfl
 . conv => lhs; whnf; arg 1; whnf
 . first | exact zt _ _
 . first | exact h1 | exact h3 | exact h4 | exact k1 | exact k2 | exact k3
 . exact fun _ => rfl
 . exact fun _ => rfl
|apply zd rfl
 . conv => lhs; whnf
 . conv => lhs; whnf
 . first | rfl | assumption
|apply zBP [argD (nameZ l (y)).1 (wholeZ l false (needZ l [58] (nameZ l (y)).2)).1] rfl rfl
 . conv => lhs; whnf
 . first | exact zB3 | (conv => lhs; whnf; arg 1; whnf)
 . rfl
 . rfl
 . repeat' (first | exact trivial | apply And.intro | rfl)
|apply zx rfl rfl rfl
 . conv => lhs; whnf
 . first | rfl | assumption
 . conv => lhs; whnf
 . first | exact bT1 ‹_› | exact bT2 ‹_› | rfl
|refine zA ?_
|refine zB ?_
|refine zG ?_
|refine zb ?_
|apply aw_1
 conv => whnf
 refine ⟨?_,trivial⟩
|apply zY rfl rfl
 . conv => lhs; whnf
 . conv => lhs; whnf
 . first | exact bT1 ‹_› | exact bT2 ‹_›
|apply zV rfl rfl
 . conv => lhs; whnf
 . conv => lhs; whnf
 . first | exact bF1 ‹_› | exact bF2 ‹_›
|apply s_1
 conv => whnf; arg 1; arg 4; arg 3; whnf
 refine ⟨?_,?_⟩
|apply zI rfl rfl rfl
 . conv => lhs; whnf
 . conv => lhs; whnf; arg 1; whnf
 . conv => lhs; whnf; arg 1; whnf
 . exact ⟨by kernel_rfl,by kernel_rfl⟩
 . rfl
|apply zBQ rfl rfl
 . conv => lhs; whnf
 . first | exact zB3 | (conv => lhs; whnf; arg 1; whnf)
 . first | exact fun _ => rfl | (intro _; kernel_rfl)
 . conv => lhs; whnf
 . conv => lhs; whnf; arg 1; whnf
 . conv => lhs; whnf
|apply zD rfl
 . conv => lhs; whnf
 . conv => lhs; whnf
 . first | rfl | assumption
 . conv => lhs; whnf; arg 2; whnf
|exact trivial)
   all_goals first
    | exact zS (by omega)
    | (refine ⟨by simp,?_,?_⟩ <;> simp only [List.length_cons,List.length_nil,maxLen] <;> omega)
    | skip
   refine zL (Nat.lt_succ_self j) ⟨_,_,hR,hhi,by have:=hj g0; omega,fun h => by have:=hup h; have:=hj g0; omega,by rw [List.length_append]; simp only [List.length_cons,List.length_nil]; omega,Sub.live ⟨rfl,rfl,trivial⟩ ⟨rfl,?_,trivial⟩⟩
   rw [List.length_append]; rfl
 . have q0:=zCf ha
   cases gs : sgZ l [41] y with
   | true =>
     have f2 : (!sgZ l [41] y) = false:=by rw [gs]; rfl
     rw [gs] at f2 h1
     rw [zFP (fun h => by rcases h.2 with h5 | h5; exact ha h5; rw [gs] at h5; cases h5)] at hR
     subst hR
     repeat' (first
|apply s_m (zf l) (zH l) rfl
 . conv => lhs; whnf
 . conv => lhs; whnf
 . rfl
 . conv => lhs; whnf; arg 1; whnf
 . first | exact zt _ _
 . first | exact h1 | exact h2
 . exact fun _ => rfl
 . exact fun _ => rfl
|apply zj (zf l) (zH l) rfl
 . conv => lhs; whnf
 . conv => lhs; whnf
 . first | rfl | assumption
 . conv => lhs; whnf
 . rfl
 . conv => lhs; whnf; arg 1; whnf
 . first | exact zt _ _
 . first | exact h1 | exact h2
 . exact fun _ => rfl
 . exact fun _ => rfl
|apply zo rfl rfl rfl
 . conv => lhs; whnf
 . first | rfl | assumption
 . conv => lhs; whnf
 . first | exact bF1 ‹_› | exact bF2 ‹_› | rfl
|apply zE
 . conv => lhs; whnf
 . assumption
|refine zA ?_
|refine zB ?_
|refine zG ?_
|apply aw_1
 conv => whnf
 refine ⟨?_,trivial⟩
|apply zY rfl rfl
 . conv => lhs; whnf
 . conv => lhs; whnf
 . first | exact bT1 ‹_› | exact bT2 ‹_›
|apply s_1
 conv => whnf; arg 1; arg 4; arg 3; whnf
 refine ⟨?_,?_⟩
|apply zD rfl
 . conv => lhs; whnf
 . conv => lhs; whnf
 . first | rfl | assumption
 . conv => lhs; whnf; arg 2; whnf
|refine zP ?_
|refine zM rfl ?_
|refine zW ?_
|refine zq ⟨?_,?_⟩
|refine ⟨_,by conv => lhs; whnf; arg 2; whnf,?_⟩; conv => rhs; whnf
|exact trivial)
     all_goals first
      | exact ⟨rfl,trivial⟩
      | rfl
      | skip
   | false =>
     rw [gs] at h1
     rw [mz_go ⟨g0,.inr gs⟩] at hR
     by_cases hlim : 16 <= acc.length
     . have gl : (decide ((acc.length : Int) >= 16) == true) = true:=ge_t (m:=16) hlim
       cases hN : nmZ l y with
       | true =>
         rw [hN] at h3
         have eo : oneArg l acc.length y = (argD (nameZ l (zk l 4 y)).1 (wholeZ l false (needZ l [58] (nameZ l (zk l 4 y)).2)).1,(wholeZ l false (needZ l [58] (nameZ l (zk l 4 y)).2)).2):=by
          unfold oneArg; rw [if_pos ⟨hlim,hN⟩]
         have m1 : Mw l y (zk l 4 y):=zBM hy (by decide)
         have k1:=z8 l (zk l 4 y) m1.hi hl
         have m2:=(zm hE m1.hi).mv
         have k2:=zAU l (nameZ l (zk l 4 y)).2 m2.hi hl [58]
         have m3:=(zAB hE [58] m2.hi).mv
         have k3:=zB4 l hE hl hS false (needZ l [58] (nameZ l (zk l 4 y)).2) m3.hi
         rw [eo] at hR
         have hpg:=zB8 hE acc.length hy
         rw [eo] at hpg
         have hhi:=hpg.mv.hi
         have hup:=hpg.up
         repeat' (first
|apply s_m (zf l) (zH l) rfl
 . conv => lhs; whnf
 . conv => lhs; whnf
 . rfl
 . conv => lhs; whnf; arg 1; whnf
 . first | exact zt _ _
 . first | exact h1 | exact h3 | exact h4 | exact k1 | exact k2 | exact k3
 . exact fun _ => rfl
 . exact fun _ => rfl
|apply zj (zf l) (zH l) rfl
 . conv => lhs; whnf
 . conv => lhs; whnf
 . first | rfl | assumption
 . conv => lhs; whnf
 . rfl
 . conv => lhs; whnf; arg 1; whnf
 . first | exact zt _ _
 . first | exact h1 | exact h3 | exact h4 | exact k1 | exact k2 | exact k3
 . exact fun _ => rfl
 . exact fun _ => rfl
|apply zBP [argD (nameZ l (zk l 4 y)).1 (wholeZ l false (needZ l [58] (nameZ l (zk l 4 y)).2)).1] rfl rfl
 . conv => lhs; whnf
 . first | exact zB3 | (conv => lhs; whnf; arg 1; whnf)
 . rfl
 . rfl
 . repeat' (first | exact trivial | apply And.intro | rfl)
|apply zo rfl rfl rfl
 . conv => lhs; whnf
 . first | rfl | assumption
 . conv => lhs; whnf
 . first | exact bF1 ‹_› | exact bF2 ‹_› | rfl
|refine zA ?_
|refine zB ?_
|refine zG ?_
|refine zb ?_
|apply aw_1
 conv => whnf
 refine ⟨?_,trivial⟩
|apply zY rfl rfl
 . conv => lhs; whnf
 . conv => lhs; whnf
 . first | exact bT1 ‹_› | exact bT2 ‹_›
|apply s_1
 conv => whnf; arg 1; arg 4; arg 3; whnf
 refine ⟨?_,?_⟩
|apply zI rfl rfl rfl
 . conv => lhs; whnf
 . conv => lhs; whnf; arg 1; whnf
 . conv => lhs; whnf; arg 1; whnf
 . exact ⟨by kernel_rfl,by kernel_rfl⟩
 . rfl
|apply zBQ rfl rfl
 . conv => lhs; whnf
 . first | exact zB3 | (conv => lhs; whnf; arg 1; whnf)
 . first | exact fun _ => rfl | (intro _; kernel_rfl)
 . conv => lhs; whnf
 . conv => lhs; whnf; arg 1; whnf
 . conv => lhs; whnf
|apply zD rfl
 . conv => lhs; whnf
 . conv => lhs; whnf
 . first | rfl | assumption
 . conv => lhs; whnf; arg 2; whnf
|exact trivial)
         all_goals first
          | exact zS (by omega)
          | (refine ⟨by simp,?_,?_⟩ <;> simp only [List.length_cons,List.length_nil,maxLen] <;> omega)
          | skip
         refine zL (Nat.lt_succ_self j) ⟨_,_,hR,hhi,by have:=hj g0; omega,fun h => by have:=hup h; have:=hj g0; omega,by rw [List.length_append]; simp only [List.length_cons,List.length_nil]; omega,Sub.live ⟨rfl,rfl,trivial⟩ ⟨rfl,?_,trivial⟩⟩
         rw [List.length_append]; rfl
       | false =>
         rw [hN] at h3
         have eo : oneArg l acc.length y = (argD (nameZ l y).1 (wholeZ l false (needZ l [58] (nameZ l y).2)).1,(wholeZ l false (needZ l [58] (nameZ l y).2)).2):=by
          unfold oneArg; rw [if_neg (fun h => by rw [hN] at h; cases h.2)]
         have m1 : Mw l y (y):=.refl hy
         have k1:=z8 l (y) m1.hi hl
         have m2:=(zm hE m1.hi).mv
         have k2:=zAU l (nameZ l (y)).2 m2.hi hl [58]
         have m3:=(zAB hE [58] m2.hi).mv
         have k3:=zB4 l hE hl hS false (needZ l [58] (nameZ l (y)).2) m3.hi
         rw [eo] at hR
         have hpg:=zB8 hE acc.length hy
         rw [eo] at hpg
         have hhi:=hpg.mv.hi
         have hup:=hpg.up
         repeat' (first
|apply s_m (zf l) (zH l) rfl
 . conv => lhs; whnf
 . conv => lhs; whnf
 . rfl
 . conv => lhs; whnf; arg 1; whnf
 . first | exact zt _ _
 . first | exact h1 | exact h3 | exact h4 | exact k1 | exact k2 | exact k3
 . exact fun _ => rfl
 . exact fun _ => rfl
|apply zj (zf l) (zH l) rfl
 . conv => lhs; whnf
 . conv => lhs; whnf
 . first | rfl | assumption
 . conv => lhs; whnf
 . rfl
 . conv => lhs; whnf; arg 1; whnf
 . first | exact zt _ _
 . first | exact h1 | exact h3 | exact h4 | exact k1 | exact k2 | exact k3
 . exact fun _ => rfl
 . exact fun _ => rfl
|apply zBP [argD (nameZ l (y)).1 (wholeZ l false (needZ l [58] (nameZ l (y)).2)).1] rfl rfl
 . conv => lhs; whnf
 . first | exact zB3 | (conv => lhs; whnf; arg 1; whnf)
 . rfl
 . rfl
 . repeat' (first | exact trivial | apply And.intro | rfl)
|apply zo rfl rfl rfl
 . conv => lhs; whnf
 . first | rfl | assumption
 . conv => lhs; whnf
 . first | exact bF1 ‹_› | exact bF2 ‹_› | rfl
|refine zA ?_
|refine zB ?_
|refine zG ?_
|refine zb ?_
|apply aw_1
 conv => whnf
 refine ⟨?_,trivial⟩
|apply zY rfl rfl
 . conv => lhs; whnf
 . conv => lhs; whnf
 . first | exact bT1 ‹_› | exact bT2 ‹_›
|apply s_1
 conv => whnf; arg 1; arg 4; arg 3; whnf
 refine ⟨?_,?_⟩
|apply zI rfl rfl rfl
 . conv => lhs; whnf
 . conv => lhs; whnf; arg 1; whnf
 . conv => lhs; whnf; arg 1; whnf
 . exact ⟨by kernel_rfl,by kernel_rfl⟩
 . rfl
|apply zBQ rfl rfl
 . conv => lhs; whnf
 . first | exact zB3 | (conv => lhs; whnf; arg 1; whnf)
 . first | exact fun _ => rfl | (intro _; kernel_rfl)
 . conv => lhs; whnf
 . conv => lhs; whnf; arg 1; whnf
 . conv => lhs; whnf
|apply zD rfl
 . conv => lhs; whnf
 . conv => lhs; whnf
 . first | rfl | assumption
 . conv => lhs; whnf; arg 2; whnf
|exact trivial)
         all_goals first
          | exact zS (by omega)
          | (refine ⟨by simp,?_,?_⟩ <;> simp only [List.length_cons,List.length_nil,maxLen] <;> omega)
          | skip
         refine zL (Nat.lt_succ_self j) ⟨_,_,hR,hhi,by have:=hj g0; omega,fun h => by have:=hup h; have:=hj g0; omega,by rw [List.length_append]; simp only [List.length_cons,List.length_nil]; omega,Sub.live ⟨rfl,rfl,trivial⟩ ⟨rfl,?_,trivial⟩⟩
         rw [List.length_append]; rfl
     . have gl : (decide ((acc.length : Int) >= 16) == true) = false:=ge_f (m:=16) hlim
       have eo : oneArg l acc.length y = (argD (nameZ l y).1 (wholeZ l false (needZ l [58] (nameZ l y).2)).1,(wholeZ l false (needZ l [58] (nameZ l y).2)).2):=by
        unfold oneArg; rw [if_neg (fun h => hlim h.1)]
       have m1 : Mw l y (y):=.refl hy
       have k1:=z8 l (y) m1.hi hl
       have m2:=(zm hE m1.hi).mv
       have k2:=zAU l (nameZ l (y)).2 m2.hi hl [58]
       have m3:=(zAB hE [58] m2.hi).mv
       have k3:=zB4 l hE hl hS false (needZ l [58] (nameZ l (y)).2) m3.hi
       rw [eo] at hR
       have hpg:=zB8 hE acc.length hy
       rw [eo] at hpg
       have hhi:=hpg.mv.hi
       have hup:=hpg.up
       repeat' (first
|apply s_m (zf l) (zH l) rfl
 . conv => lhs; whnf
 . conv => lhs; whnf
 . rfl
 . conv => lhs; whnf; arg 1; whnf
 . first | exact zt _ _
 . first | exact h1 | exact h3 | exact h4 | exact k1 | exact k2 | exact k3
 . exact fun _ => rfl
 . exact fun _ => rfl
|apply zj (zf l) (zH l) rfl
 . conv => lhs; whnf
 . conv => lhs; whnf
 . first | rfl | assumption
 . conv => lhs; whnf
 . rfl
 . conv => lhs; whnf; arg 1; whnf
 . first | exact zt _ _
 . first | exact h1 | exact h3 | exact h4 | exact k1 | exact k2 | exact k3
 . exact fun _ => rfl
 . exact fun _ => rfl
|apply zd rfl
 . conv => lhs; whnf
 . conv => lhs; whnf
 . first | rfl | assumption
|apply zBP [argD (nameZ l (y)).1 (wholeZ l false (needZ l [58] (nameZ l (y)).2)).1] rfl rfl
 . conv => lhs; whnf
 . first | exact zB3 | (conv => lhs; whnf; arg 1; whnf)
 . rfl
 . rfl
 . repeat' (first | exact trivial | apply And.intro | rfl)
|apply zo rfl rfl rfl
 . conv => lhs; whnf
 . first | rfl | assumption
 . conv => lhs; whnf
 . first | exact bF1 ‹_› | exact bF2 ‹_› | rfl
|refine zA ?_
|refine zB ?_
|refine zG ?_
|refine zb ?_
|apply aw_1
 conv => whnf
 refine ⟨?_,trivial⟩
|apply zY rfl rfl
 . conv => lhs; whnf
 . conv => lhs; whnf
 . first | exact bT1 ‹_› | exact bT2 ‹_›
|apply zV rfl rfl
 . conv => lhs; whnf
 . conv => lhs; whnf
 . first | exact bF1 ‹_› | exact bF2 ‹_›
|apply s_1
 conv => whnf; arg 1; arg 4; arg 3; whnf
 refine ⟨?_,?_⟩
|apply zI rfl rfl rfl
 . conv => lhs; whnf
 . conv => lhs; whnf; arg 1; whnf
 . conv => lhs; whnf; arg 1; whnf
 . exact ⟨by kernel_rfl,by kernel_rfl⟩
 . rfl
|apply zBQ rfl rfl
 . conv => lhs; whnf
 . first | exact zB3 | (conv => lhs; whnf; arg 1; whnf)
 . first | exact fun _ => rfl | (intro _; kernel_rfl)
 . conv => lhs; whnf
 . conv => lhs; whnf; arg 1; whnf
 . conv => lhs; whnf
|apply zD rfl
 . conv => lhs; whnf
 . conv => lhs; whnf
 . first | rfl | assumption
 . conv => lhs; whnf; arg 2; whnf
|exact trivial)
       all_goals first
        | exact zS (by omega)
        | (refine ⟨by simp,?_,?_⟩ <;> simp only [List.length_cons,List.length_nil,maxLen] <;> omega)
        | skip
       refine zL (Nat.lt_succ_self j) ⟨_,_,hR,hhi,by have:=hj g0; omega,fun h => by have:=hup h; have:=hj g0; omega,by rw [List.length_append]; simp only [List.length_cons,List.length_nil]; omega,Sub.live ⟨rfl,rfl,trivial⟩ ⟨rfl,?_,trivial⟩⟩
       rw [List.length_append]; rfl
theorem zCr (x : RS) (hx : x.at' < l.length) : ACB EN5 Tryz.prog 291 [.bx (pn 0) 0] [boxF l x] (.sl 86 (zv l x).1) [boxF l (zv l x).2]:=by
 cases hs0 : sgZ l [40] x with
 | true => exact argsI_acb l hE hl hS x hx hs0
 | false =>
   have h0:=zr l x hx [40]
   rw [hs0] at h0
   have e : zv l x = ([],x):=by unfold zv; rw [if_neg (by rw [hs0]; decide)]
   rw [e]
   have h : ACB EN5 Tryz.prog 291 [.bx (pn 0) 0] [boxF l x] (.c (.slice none 0 0)) [boxF l x]:=by
    refine zZ (fn:=Tryz.f291) 54 Tryz.func291 rfl rfl ?_
    intro pas w0 w he hp
    repeat' (first
|apply s_m (zf l) (zH l) rfl
 . conv => lhs; whnf
 . conv => lhs; whnf
 . rfl
 . conv => lhs; whnf; arg 1; whnf
 . first | exact zt _ _
 . first | exact h0
 . exact fun _ => rfl
 . exact fun _ => rfl
|refine zA ?_
|refine zB ?_
|refine zG ?_
|apply aw_1
 conv => whnf
 refine ⟨?_,trivial⟩
|apply s_1
 conv => whnf; arg 1; arg 4; arg 3; whnf
 refine ⟨?_,?_⟩
|refine zU ?_
|refine zq ⟨?_,?_⟩
|refine ⟨_,by conv => lhs; whnf; arg 2; whnf,?_⟩; conv => rhs; whnf
|exact trivial)
    all_goals first
     | exact ⟨rfl,trivial⟩
     | rfl
     | skip
   exact h.res (.nil _)
end
end Go.Proofs.YthjiclhfhjdjpaaGreatDoor
