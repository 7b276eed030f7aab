import Derived.Defers
import Derived.Recover
import Derived.WideLaws
import Derived.Test.YtdlnnlglmifceaaGreatDoorQ34
set_option maxHeartbeats 8000000
set_option maxRecDepth 100000
set_option linter.unusedVariables false
set_option linter.unusedSimpArgs false
namespace Go.Proofs.YtdlnnlglmifceaaGreatDoor
open Go.RowKit
attribute [local irreducible] wpList Calls Code.wp
section
variable {X : Cx} {nn : Nat} {st : Vst nn} {s : Sg} {w : World} {a : Act}
def Sg.hand (s : Sg) (ns : List Nat) : Sg:={ F:=s.F,bx:=fun n => (φout ns n).bind s.bx,tb:=fun n => (φout ns n).bind s.tb,tk:=fun n => match φout ns n with | some m => s.tk m | none => (.tuple #[],0) }
theorem zBv (s : Sg) (ns : List Nat) {i q : Nat} (hq : ns[i]? = some q) : (s.hand ns).bx (pn i) = s.bx q /\ (s.hand ns).tb (pn i) = s.tb q /\ (s.hand ns).tk (pn i) = s.tk q:=by
 have e : φout ns (pn i) = some q:=(φout_pn ns i).trans hq
 refine ⟨?_,?_,?_⟩
 . show (φout ns (pn i)).bind s.bx = _; rw [e]; rfl
 . show (φout ns (pn i)).bind s.tb = _; rw [e]; rfl
 . show (match φout ns (pn i) with | some m => s.tk m | none => (.tuple #[],0)) = _; rw [e]
theorem Inv.handed (hI : Inv X st s w a) (ns : List Nat) (hnd : ns.Nodup) {ρs : List Res} (hρ : ns.map st.rs = ρs.map some) (pk : Value -> (Nat -> V) -> (Nat -> Option Res) -> Prop) (ds : List Deferred) {a' : Act} (ht : a'.tmps = a.tmps) (hd : a'.defers = ds) :
 Inv (nn:=nn) ⟨X.P,X.pas,{ s.hand ns with F:=X.s0.F },X.w0,X.e,X.he,X.hp,pk,ds⟩ ⟨fun i => renV (φin ns) (st.tm i),rsOf (ρs.map (renR (φin ns)))⟩ (s.hand ns) w a':=by
 have hφ1 : ∀ n m,φin ns n = some m -> (s.hand ns).bx m = s.bx n /\ (s.hand ns).tk m = s.tk n:=fun n m hm => by
  obtain ⟨i,hi,rfl⟩:=Option.map_eq_some_iff.1 hm
  exact ⟨(zBv s ns (zBa hi)).1,(zBv s ns (zBa hi)).2.2⟩
 have hbs : ∀ (i : Nat) (ρ : Res),(ρs.map (renR (φin ns)))[i]? = some ρ -> ∃ q ρ0,ns[i]? = some q /\ st.rs q = some ρ0 /\ ρ = renR (φin ns) ρ0:=fun i ρ hi => by
  rw [List.getElem?_map] at hi
  obtain ⟨ρ0,h1,rfl⟩:=Option.map_eq_some_iff.1 hi
  have h3 : (ns.map st.rs)[i]? = (ρs.map some)[i]?:=by rw [hρ]
  rw [List.getElem?_map,List.getElem?_map,h1] at h3
  obtain ⟨q,hq,h4⟩:=Option.map_eq_some_iff.1 h3
  exact ⟨q,ρ0,hq,h4,rfl⟩
 refine ⟨by rw [ht]; exact hI.sz,fun i hi => ?_,hd,hI.fr,hI.kp,hI.nf,⟨hI.mem.fx,fun n ρ hn => ?_,fun n ρ b hn hbk => ?_,fun n m ρ ρ' b hn hm hnb hmb => ?_⟩,fun i => ⟨rfl,.inl rfl⟩⟩
 . rw [ht]
   exact rel.ren (s:=s) (s2:=s.hand ns) rfl hφ1 _ _ (hI.tm i hi)
 . obtain ⟨i,rfl,hi⟩:=zAZ hn
   obtain ⟨q,ρ0,hq,h3,rfl⟩:=hbs i ρ hi
   have hh:=zBv s ns hq
   exact Holds.ren (s:=s) (s2:=s.hand ns) rfl hφ1 hh.1 hh.2.1 hh.2.2 (hI.mem.ho q ρ0 h3)
 . obtain ⟨i,rfl,hi⟩:=zAZ hn
   obtain ⟨q,ρ0,hq,h3,rfl⟩:=hbs i ρ hi
   have hh:=zBv s ns hq
   exact hI.mem.bs q ρ0 b h3 ((bk_ren hh.1 hh.2.1).1 hbk)
 . obtain ⟨i,rfl,hi⟩:=zAZ hn
   obtain ⟨j,rfl,hj⟩:=zAZ hm
   obtain ⟨q,ρ0,hq,h3,rfl⟩:=hbs i ρ hi
   obtain ⟨q',ρ1,hq',h3',rfl⟩:=hbs j ρ' hj
   have hh:=zBv s ns hq
   have hh':=zBv s ns hq'
   have e:=hI.mem.dj q q' _ _ b h3 h3' ((bk_ren hh.1 hh.2.1).1 hnb) ((bk_ren hh'.1 hh'.2.1).1 hmb)
   subst e
   have:=(zEF hnd hq).symm.trans (zEF hnd hq')
   cases this; rfl
theorem Inv.frame (hI : Inv X st s w a) {n2 : Nat} (tm : Nat -> V) (pk : Value -> (Nat -> V) -> (Nat -> Option Res) -> Prop) (ds : List Deferred) {a' : Act} (hz : a'.tmps.size = n2) (hd : a'.defers = ds) (ht : ∀ i,i < n2 -> rel X.P s w (tm i) (a'.tmps.getD i undef)) :
 Inv (nn:=n2) { X with pk:=pk,dfs:=ds } ⟨tm,st.rs⟩ s w a':=
 ⟨hz,ht,hd,hI.fr,hI.kp,hI.nf,hI.mem,hI.pe⟩
theorem Inv.named (hI : Inv X st s w a) (i : Nat) : s.bx (pn i) = X.s0.bx (pn i):=(hI.pe i).1
variable {o : Oper} {K : Vst nn -> Prop}
theorem opOk_isNil {t yt : TypeId} {x : Operand} (ho : o.op = .binOp .neq t x (.const .nilIface) yt) (hx : ev st x = .c .nilIface) (ht : X.P.underlying t = some (.interface (X.P.methodsAt t))) (hK : K (st.put o.dst (.c (.bool false)))) : OpOk X o st K:=by
 intro s w a hI N Q hP hN
 have h1:=hI.ev x
 rw [hx,rel] at h1
 unfold Oper.wp
 have hrun : (execOp a.eval o).run X.P w = .ok (.value (.bool false)) w:=by
  simp only [execOp,ho,h1.1]
  show (do let u <- (do eqGuard .neq t x (.const .nilIface) .nilIface .nilIface; binOp .neq t .nilIface .nilIface : Sem Value); pure (.value u) : Sem Next).run X.P w = _
  rw [eqGuard_nil_constR]
  simp only [Sem.run_bind,Sem.run_pure,Result.andThen_ok,run_neq_nil_nil w t ht]
 rw [hrun,Oper.upon_value]
 exact hN _ _ _ _ (hI.put o.dst (by rw [rel]; exact ⟨rfl,trivial⟩)) hK
theorem zG3 {t yt u : TypeId} {x : Operand} {y : Value} (ho : o.op = .binOp .neq t x (.const .nilIface) yt) (hx : ev st x = .c (.iface u y)) (ht : X.P.underlying t = some (.interface (X.P.methodsAt t))) (hK : K (st.put o.dst (.c (.bool true)))) : OpOk X o st K:=by
 intro s w a hI N Q hP hN
 have h1:=hI.ev x
 rw [hx,rel] at h1
 unfold Oper.wp
 have hrun : (execOp a.eval o).run X.P w = .ok (.value (.bool true)) w:=by
  simp only [execOp,ho,h1.1]
  show (do let v <- (do eqGuard .neq t x (.const .nilIface) (.iface u y) .nilIface; binOp .neq t (.iface u y) .nilIface : Sem Value); pure (.value v) : Sem Next).run X.P w = _
  have e : eqGuard .neq t x (.const .nilIface) (.iface u y) .nilIface = pure ():=rfl
  rw [e]
  simp only [Sem.run_bind,Sem.run_pure,Result.andThen_ok,run_neq_held_nil w t u y ht]
 rw [hrun,Oper.upon_value]
 exact hN _ _ _ _ (hI.put o.dst (by rw [rel]; exact ⟨rfl,trivial⟩)) hK
theorem zG4 {t xt : TypeId} {x : Operand} {cs : Array Value} {fs : Array Field} (ho : o.op = .typeAssert x xt t false) (hx : ev st x = .c (.iface t (.agg cs))) (hok : cs.toList.all okB = true) (hu : X.P.underlying t = some (.struct fs)) (hK : K (st.put o.dst (.agg (cs.toList.map .c)))) : OpOk X o st K:=by
 intro s w a hI N Q hP hN
 have h1:=hI.ev x
 rw [hx,rel] at h1
 unfold Oper.wp
 have hrun : (execOp a.eval o).run X.P w = .ok (.value (.agg cs)) w:=by
  simp only [execOp,ho,h1.1]
  simp [Instr.typeAssert,run_underlying hu]
 rw [hrun,Oper.upon_value]
 refine hN _ _ _ _ (hI.put o.dst ?_) hK
 rw [rel]
 refine ⟨cs,rfl,?_⟩
 clear hK hN
 generalize cs.toList = l at *
 induction l with
 | nil => simp [relL]
 | cons y l ih =>
   rw [List.all_cons,Bool.and_eq_true] at hok
   rw [List.map_cons,relL]
   exact ⟨by rw [rel]; exact ⟨rfl,zHo hok.1⟩,ih hok.2⟩
end
section
variable {X : Cx} {nn : Nat} {st : Vst nn} {o : Oper} {ops : Array Oper} {l : List Oper} {KK : Vst nn -> Prop} {d : Option Tmp}
theorem s_isNil {t yt : TypeId} {x : Operand} (hg : o.guard = none) (ho : o.op = .binOp .neq t x (.const .nilIface) yt) (hd : o.dst = d) (hx : ev st x = .c .nilIface) (ht : X.P.underlying t = some (.interface (X.P.methodsAt t))) (hK : AWo X ops l (st.put d (.c (.bool false))) KK) : AWo X ops (o :: l) st KK:=
 zAO hg (opOk_isNil ho hx ht (by rw [hd]; exact hK))
theorem s_notNil {t yt u : TypeId} {x : Operand} {y : Value} (hg : o.guard = none) (ho : o.op = .binOp .neq t x (.const .nilIface) yt) (hd : o.dst = d) (hx : ev st x = .c (.iface u y)) (ht : X.P.underlying t = some (.interface (X.P.methodsAt t))) (hK : AWo X ops l (st.put d (.c (.bool true))) KK) : AWo X ops (o :: l) st KK:=
 zAO hg (zG3 ho hx ht (by rw [hd]; exact hK))
theorem s_assert {t xt : TypeId} {x : Operand} {cs : Array Value} {fs : Array Field} (hg : o.guard = none) (ho : o.op = .typeAssert x xt t false) (hd : o.dst = d) (hx : ev st x = .c (.iface t (.agg cs))) (hok : cs.toList.all okB = true) (hu : X.P.underlying t = some (.struct fs)) (hK : AWo X ops l (st.put d (.agg (cs.toList.map .c))) KK) : AWo X ops (o :: l) st KK:=
 zAO hg (zG4 ho hx hok hu (by rw [hd]; exact hK))
end
section
variable {X : Cx} {nn : Nat} {st : Vst nn}
theorem zGr {st' : Vst nn} {s : Sg} {w : World} {a : Act} (h : Sub X st st') (hI : Inv X st s w a) : ∃ s',Inv X st' s' w a:=h s w a hI
theorem zIP {c : Code} {K : Exit -> Vst nn -> Prop} {s : Sg} {w : World} {a : Act} (h : AW X c st K) (hI : Inv X st s w a) : c.wp X.P (fun e a' w' => ∃ (st' : Vst nn) (s' : Sg),Inv X st' s' w' a' /\ (K e st' \/ PX X e st')) a w:=h s w a hI
def AWQ (X : Cx) (c : Code) (st : Vst nn) (Q : Exit -> Act -> World -> Prop) : Prop:=∀ s w a,Inv X st s w a -> c.wp X.P Q a w
def qK (X : Cx) (y : Code) (Q : Exit -> Act -> World -> Prop) : Exit -> Vst nn -> Prop
 | .normal,st => AWQ X y st Q
 | e,st => ∀ s w a,Inv X st s w a -> Q e a w
theorem k_q {y : Code} {Q : Exit -> Act -> World -> Prop} (h : AWQ X y st Q) : qK X y Q .normal st:=h
theorem k_qr {y : Code} {Q : Exit -> Act -> World -> Prop} (h : ∀ s w a,Inv X st s w a -> Q .ret a w) : qK X y Q .ret st:=h
theorem zHQ {c : Code} {Q : Exit -> Act -> World -> Prop} {s : Sg} {w : World} {a : Act} (h : AWQ X c st Q) (hI : Inv X st s w a) : c.wp X.P Q a w:=h s w a hI
theorem awq_by {c : Code} {Q : Exit -> Act -> World -> Prop} (h : ∀ s w a,Inv X st s w a -> c.wp X.P Q a w) : AWQ X c st Q:=h
theorem zB0 {x y : Code} {Q : Exit -> Act -> World -> Prop} (hP : PQ X nn Q) (h : AW X x st (qK X y Q)) : AWQ X (.seq x y) st Q:=fun s w a hI =>
 wp_seq (Code.wp_mono (fun e a' w' ⟨st',s',hI',hK⟩ => by
  rcases hK with hK | ⟨pv,rfl,hp⟩
  . cases e
    case normal => exact hK s' w' a' hI'
    all_goals exact hK s' w' a' hI'
  . exact hP pv st' s' w' a' hI' hp) (h s w a hI))
theorem awq_sub {c : Code} {st' : Vst nn} {Q : Exit -> Act -> World -> Prop} (hs : Sub X st st') (h : AWQ X c st' Q) : AWQ X c st Q:=fun s w a hI => by
 obtain ⟨s',hI'⟩:=hs s w a hI
 exact h s' w a hI'
theorem zEE {e : Ge} {P : Program} {fn : Func} {args : List V} {s : Sg} {w : World} {us : Array Value} (he : e.E w) (hnn : args.length + (fn.ntmps - args.length) = nn) (hus : relL P s w args us.toList) (hfx : ∀ b o,s.F b o -> (w.cell? ⟨b,o,none⟩).isSome) :
 Inv (cx e P s w he) (st0 nn args) s w { tmps:=us ++ Array.replicate (fn.ntmps - us.size) undef,defers:=[] }:=by
 have hlen:=hus.length
 have hl2 : us.toList.length = us.size:=by simp
 refine ⟨by simp; omega,fun i hi => ?_,rfl,Frm.refl _ _,Keeps.refl,fun _ _ _ _ h => h,⟨hfx,fun n ρ h => by simp [st0] at h,fun n ρ b h => by simp [st0] at h,fun n m ρ ρ' b h => by simp [st0] at h⟩,PE.refl _⟩
 show rel P s w (args.getD i .any) _
 by_cases hi2 : i < args.length
 . have h1 : args[i]? = some args[i]:=List.getElem?_eq_getElem hi2
   have hi3 : i < us.size:=by omega
   have h2 : us.toList[i]? = some us[i]:=by rw [Array.getElem?_toList]; exact Array.getElem?_eq_getElem hi3
   rw [List.getD_eq_getElem?_getD,h1]
   have : (us ++ Array.replicate (fn.ntmps - us.size) undef).getD i undef = us[i]:=by
    rw [Array.getD_eq_getD_getElem?,Array.getElem?_append_left hi3,Array.getElem?_eq_getElem hi3]; rfl
   rw [this]
   exact hus.get i _ _ h1 h2
 . rw [List.getD_eq_getElem?_getD,List.getElem?_eq_none (by omega)]
   simp [rel]
def acR (P : Program) (s : Sg) (w : World) (r : V) : Ending -> World -> Prop:=fun en w' => ∃ v F',en = .returned v /\ Frm (fun _ => False) w w' /\ Keeps s.F F' w w' /\ (∀ b o,F' b o -> (w'.cell? ⟨b,o,none⟩).isSome) /\ (∀ b o,b < w.heap.size -> F' b o -> s.F b o) /\ rel P { s with F:=F' } w' r v
theorem ac_by {e : Ge} {P : Program} {f : FuncId} {args : List V} {r : V} (h : ∀ (s : Sg) (w : World) (us : Array Value),relL P s w args us.toList -> (∀ b o,s.F b o -> (w.cell? ⟨b,o,none⟩).isSome) -> e.E w -> Calls P f us w (acR P s w r)) : AC e P f args r:=h
theorem ac_fin {P : Program} {s : Sg} {w : World} {fn : Func} {s' : Sg} {w' : World} {a' : Act} {r : V} (hI : Inv X st s' w' a') (hP : X.P = P) (hpas : X.pas = fun _ => False) (hF : X.s0.F = s.F) (hw : X.w0 = w) (hv : retV P st fn.results.toList r) (hr : r.pure = true) :
 ∃ v,(results fn a'.tmps).run P w' = .ok v w' /\ acR P s w r (.returned v) w':=by
 subst hP
 subst hw
 obtain ⟨u,h1,h2⟩:=zD8 hv hI
 have hfr:=hI.fr
 rw [hpas] at hfr
 refine ⟨u,h1,u,s'.F,rfl,hfr,by rw [<- hF]; exact hI.kp,hI.mem.fx,fun b o hb => ?_,rel.only (s:=s') (s':={ s with F:=s'.F }) (P:=X.P) rfl r u hr h2⟩
 rw [<- hF]
 exact hI.nf b o hb (by rw [hpas]; exact fun h => h)
end
end Go.Proofs.YtdlnnlglmifceaaGreatDoor
namespace Go.Proofs.YtdlnnlglmifceaaGreatDoor
open Go.RowKit
attribute [local irreducible] wpList Calls Code.wp AW AWo OpOk seqK zAP zAR loopK endK AC zy Yld Sub
attribute [local irreducible] ACB ACX ACE absLexG YldG AWQ qK
def zQ : List V:=[.c (.slice none 0 0),.c (.slice none 0 0)]
def resP (q : List V) (i e : Int) : List (Nat × Res):=[(pn 0,.box 25 q),(pn 1,.box 3 [.c (.int .i64 i)]),(pn 2,.box 51 [.c (.int .i64 e)])]
noncomputable def HR (nn : Nat) (cs : List (Nat × V)) (q : List V) (i e : Int) : Vst nn:=stS nn cs (resP q i e)
noncomputable def HC0 (v : Value) (q : List V) (i e : Int) : Vst 15:=HR 15 [(0,.bx (pn 0) 0),(1,.bx (pn 1) 0),(2,.bx (pn 2) 0),(3,.c v)] q i e
def doneC {nn : Nat} (q : List V) (i e : Int) : Exit -> Vst nn -> Prop
 | .normal,st => rsOk st (resP q i e)
 | .ret,st => rsOk st (resP q i e)
 | _,_ => False
theorem ifT : Tryz.prog.underlying 20 = some (.interface (Tryz.prog.methodsAt 20)):=by kernel_rfl
noncomputable def codeC : Code:=match Tryz.f41.body with
 | some (.seq _ y) => y
 | _ => .skip
section
variable {pas : Nat -> Prop} {s0 : Sg} {w0 : World} {he : EN5.E w0} {hp : ∀ k,k < EN5.G -> ¬ pas k}
theorem close_nil (q : List V) (i e : Int) : AW ⟨Tryz.prog,pas,s0,w0,EN5,he,hp,fun _ _ _ => False,[]⟩ codeC (HC0 .nilIface q i e) (doneC q i e):=by
 unfold codeC
 simp only [Tryz.f41]
 refine zGj ?_
 refine zA ?_
 apply zt rfl
 . rfl
 . conv => lhs; whnf; arg 2; whnf
 rotate_left 1
 . trivial
 apply s_isNil rfl rfl rfl
 . conv => lhs; whnf
 . exact ifT
 refine zI ?_
 refine zb ?_
 repeat' (first
|apply aw_1
 conv => whnf
 refine ⟨?_,trivial⟩)
 all_goals exact ⟨rfl,rfl,rfl,trivial⟩
theorem close_pan (i e i' e' : Int) (hok : (Lit.int .i64 i').wf = true /\ (Lit.int .i64 e').wf = true) : AW ⟨Tryz.prog,pas,s0,w0,EN5,he,hp,fun _ _ _ => False,[]⟩ codeC (HC0 (.iface 96 (.agg #[.int .i64 i',.int .i64 e'])) zQ i e) (doneC zQ i' e'):=by
 unfold codeC
 simp only [Tryz.f41]
 refine zGj ?_
 refine zA ?_
 apply zt rfl
 . rfl
 . conv => lhs; whnf; arg 2; whnf
 rotate_left 1
 . trivial
 apply s_notNil rfl rfl rfl
 . conv => lhs; whnf
 . exact ifT
 refine zI ?_
 refine zb ?_
 refine zT (b:=true) rfl (fun _ => ?_) fun h => by cases h
 refine zGj ?_
 refine zA ?_
 apply zt rfl
 . rfl
 . conv => lhs; whnf; arg 2; whnf
 rotate_left 1
 . trivial
 apply s_assert (fs:=Tryz.prog.fieldsOf 96) rfl rfl rfl
 . conv => lhs; whnf
 . simp [okB,hok]
 . kernel_rfl
 repeat' (first
|apply zGk 8 ([(2,[4]),(4,[4])]) ([(5,[1000000]),(6,[1000001]),(7,[1000002])]) rfl (by kernel_rfl) (by kernel_rfl) (by kernel_rfl)
|apply zEc
|apply zEb rfl
 . conv => lhs; whnf
 . conv => lhs; whnf; arg 2; whnf
|apply zBn rfl rfl rfl
 . conv => lhs; whnf
 . rfl
 . conv => lhs; whnf; arg 1; whnf
 . conv => lhs; whnf; arg 1; whnf
 . exact ⟨by kernel_rfl,by kernel_rfl⟩
 . rfl
|show inO _ _ = true; rfl
|refine zI ?_
|refine zb ?_
|apply s_1
 conv => whnf; arg 1; arg 4; arg 3; whnf
 refine ⟨?_,?_⟩
|apply zr rfl rfl rfl
 . conv => lhs; whnf
 . conv => lhs; whnf; arg 1; whnf
 . conv => lhs; whnf; arg 1; whnf
 . exact ⟨by kernel_rfl,by kernel_rfl⟩
 . rfl
|exact trivial)
 all_goals exact ⟨rfl,rfl,rfl,trivial⟩
end
section
variable {pas : Nat -> Prop} {s0 : Sg} {w0 : World} {he : EN5.E w0} {hp : ∀ k,k < EN5.G -> ¬ pas k} {pk : Value -> (Nat -> V) -> (Nat -> Option Res) -> Prop} {dfs : List Deferred} {st : Vst 24} {s : Sg} {w : World} {a : Act}
def slotsP : List (Nat × V):=[(2,.bx (pn 0) 0),(3,.bx (pn 1) 0),(4,.bx (pn 2) 0)]
theorem zHP {P : Program} {s s' : Sg} {w w' : World} {k : Nat} {u : Value} (h : rel P s w (.bx k 0) u) (hs : s'.bx k = s.bx k) : rel P s' w' (.bx k 0) u:=by
 rw [rel] at h |-; rw [hs]; exact h
theorem rs_HR {nn : Nat} {st : Vst nn} {nn2 : Nat} {cs : List (Nat × V)} {q : List V} {i e : Int} (h : rsOk st (resP q i e)) : ∀ n ρ,(HR nn2 cs q i e).rs n = some ρ -> st.rs n = some ρ:=fun n ρ hn => by
 simp only [HR,stS] at hn
 split at hn
 . rename_i p hp
   have hm:=List.mem_of_find?_eq_some hp
   have he:=List.find?_some hp
   simp at he
   cases hn
   subst he
   exact zFY h p hm
 . cases hn
theorem back_in {pk' : Value -> (Nat -> V) -> (Nat -> Option Res) -> Prop} {dfs' : List Deferred} {n2 : Nat} {st' : Vst n2} {s' : Sg} {w' : World} {a' : Act} {q q' : List V} {i e i' e' : Int}
 (hI : Inv ⟨Tryz.prog,pas,s0,w0,EN5,he,hp,pk,dfs⟩ (HR 24 slotsP q i e) s w a) (hI' : Inv ⟨Tryz.prog,pas,s0,w0,EN5,he,hp,pk',dfs'⟩ st' s' w' a') (hr : rsOk st' (resP q' i' e')) :
 Inv ⟨Tryz.prog,pas,s0,w0,EN5,he,hp,pk,dfs⟩ (HR 24 slotsP q' i' e') s' w' a:=by
 have hk : ∀ k,s'.bx (pn k) = s.bx (pn k):=fun k => (hI'.named k).trans (hI.named k).symm
 refine ⟨hI.sz,fun j hj => ?_,hI.df,hI'.fr,hI'.kp,hI'.nf,hI'.mem.sub (rs_HR hr),hI'.pe⟩
 have ht:=hI.tm j hj
 by_cases h2 : j = 2
 . subst h2; exact zHP (k:=pn 0) ht (hk 0)
 by_cases h3 : j = 3
 . subst h3; exact zHP (k:=pn 1) ht (hk 1)
 by_cases h4 : j = 4
 . subst h4; exact zHP (k:=pn 2) ht (hk 2)
 have e : (HR 24 slotsP q' i' e').tm j = .any:=by
  simp [HR,stS,slotsP,List.find?,beq_eq_false_iff_ne.2 (Ne.symm h2),beq_eq_false_iff_ne.2 (Ne.symm h3),beq_eq_false_iff_ne.2 (Ne.symm h4)]
 rw [e]; simp [rel]
theorem into_c {q : List V} {i e : Int} (hI : Inv ⟨Tryz.prog,pas,s0,w0,EN5,he,hp,pk,dfs⟩ (HR 24 slotsP q i e) s w a) (v : Value) (hv : okV v) {a1 : Act} (hz : a1.tmps.size = 15) (hd : a1.defers = []) (h0 : a1.tmps.getD 0 undef = a.tmps.getD 2 undef) (h1 : a1.tmps.getD 1 undef = a.tmps.getD 3 undef) (h2 : a1.tmps.getD 2 undef = a.tmps.getD 4 undef) (h3 : a1.tmps.getD 3 undef = v) :
 Inv ⟨Tryz.prog,pas,s0,w0,EN5,he,hp,fun _ _ _ => False,[]⟩ (HC0 v q i e) s w a1:=by
 refine ⟨hz,fun j hj => ?_,hd,hI.fr,hI.kp,hI.nf,hI.mem.sub fun n ρ hn => hn,hI.pe⟩
 by_cases j0 : j = 0
 . subst j0; rw [h0]; exact hI.tm 2 (by omega)
 by_cases j1 : j = 1
 . subst j1; rw [h1]; exact hI.tm 3 (by omega)
 by_cases j2 : j = 2
 . subst j2; rw [h2]; exact hI.tm 4 (by omega)
 by_cases j3 : j = 3
 . subst j3; rw [h3]; show rel _ _ _ (.c v) v; rw [rel]; exact ⟨rfl,hv⟩
 have e : (HC0 v q i e).tm j = .any:=by
  simp [HC0,HR,stS,List.find?,beq_eq_false_iff_ne.2 (Ne.symm j0),beq_eq_false_iff_ne.2 (Ne.symm j1),beq_eq_false_iff_ne.2 (Ne.symm j2),beq_eq_false_iff_ne.2 (Ne.symm j3)]
 rw [e]; simp [rel]
theorem call_ret (q : List V) (i e : Int) (hI : Inv ⟨Tryz.prog,pas,s0,w0,EN5,he,hp,pk,dfs⟩ (HR 24 slotsP q i e) s w a) :
 CallsD Tryz.prog 41 #[a.tmps.getD 2 undef,a.tmps.getD 3 undef,a.tmps.getD 4 undef] .returning w fun en u' w' => en = .returned (.tuple #[]) /\ u' = .returning /\ ∃ s',Inv ⟨Tryz.prog,pas,s0,w0,EN5,he,hp,pk,dfs⟩ (HR 24 slotsP q i e) s' w' a:=by
 refine callsD_of_wpS Tryz.func41 rfl fun c₀ cs hu => ?_
 apply wpS_seq
 apply wpS_region
 simp [wpOpsS,go_sem,recoverD,hu,Exit.thenS]
 refine wpS_of_wp (Code.wp_mono (fun en a' w' ⟨st',s',hI',hK⟩ => ?_) (zIP (close_nil (pas:=pas) (s0:=s0) (w0:=w0) (he:=he) (hp:=hp) q i e) (into_c hI .nilIface trivial (by simp) rfl (by simp) (by simp) (by simp) (by simp))))
 have fin : rsOk st' (resP q i e) -> a'.defers = [] /\ ∃ u',c₀ :: cs = { c₀ with mode:=u' } :: cs /\ ∃ v,(results Tryz.f41 a'.tmps).run Tryz.prog w' = .ok v w' /\ (Ending.returned v = .returned (.tuple #[]) /\ u' = .returning /\ ∃ s',Inv ⟨Tryz.prog,pas,s0,w0,EN5,he,hp,pk,dfs⟩ (HR 24 slotsP q i e) s' w' a):=fun hr =>
  ⟨hI'.df,.returning,by cases c₀; simp_all,.tuple #[],by simp [results,Tryz.f41],rfl,rfl,s',back_in hI hI' hr⟩
 rcases hK with hK | ⟨_,_,hK⟩
 . cases en
   case normal => exact fin hK
   case ret => exact fin hK
   all_goals exact hK.elim
 . exact hK.elim
theorem call_pan (i e i' e' : Int) (hok : (Lit.int .i64 i').wf = true /\ (Lit.int .i64 e').wf = true) (hI : Inv ⟨Tryz.prog,pas,s0,w0,EN5,he,hp,pk,dfs⟩ (HR 24 slotsP zQ i e) s w a) :
 CallsD Tryz.prog 41 #[a.tmps.getD 2 undef,a.tmps.getD 3 undef,a.tmps.getD 4 undef] (.panicking [{ v:=.iface 96 (.agg #[.int .i64 i',.int .i64 e']),recovered:=false }]) w fun en u' w' => en = .returned (.tuple #[]) /\ settle u' = .returning /\ ∃ s',Inv ⟨Tryz.prog,pas,s0,w0,EN5,he,hp,pk,dfs⟩ (HR 24 slotsP zQ i' e') s' w' a:=by
 refine callsD_of_wpS Tryz.func41 rfl fun c₀ cs hu => ?_
 apply wpS_seq
 apply wpS_region
 simp [wpOpsS,go_sem,recoverD,hu,Exit.thenS]
 refine wpS_of_wp (Code.wp_mono (fun en a' w' ⟨st',s',hI',hK⟩ => ?_) (zIP (close_pan (pas:=pas) (s0:=s0) (w0:=w0) (he:=he) (hp:=hp) i e i' e' hok) (into_c hI (.iface 96 (.agg #[.int .i64 i',.int .i64 e'])) trivial (by simp) rfl (by simp) (by simp) (by simp) (by simp))))
 have fin : rsOk st' (resP zQ i' e') -> a'.defers = [] /\ ∃ u',{ c₀ with mode:=.panicking [{ v:=.iface 96 (.agg #[.int .i64 i',.int .i64 e']),recovered:=true }] } :: cs = { c₀ with mode:=u' } :: cs /\ ∃ v,(results Tryz.f41 a'.tmps).run Tryz.prog w' = .ok v w' /\ (Ending.returned v = .returned (.tuple #[]) /\ settle u' = .returning /\ ∃ s',Inv ⟨Tryz.prog,pas,s0,w0,EN5,he,hp,pk,dfs⟩ (HR 24 slotsP zQ i' e') s' w' a):=fun hr =>
  ⟨hI'.df,_,rfl,.tuple #[],by simp [results,Tryz.f41],rfl,rfl,s',back_in hI hI' hr⟩
 rcases hK with hK | ⟨_,_,hK⟩
 . cases en
   case normal => exact fin hK
   case ret => exact fin hK
   all_goals exact hK.elim
 . exact hK.elim
end
theorem bx_ren {P : Program} {s s' : Sg} {w : World} {k k' : Nat} {u : Value} (h : rel P s w (.bx k 0) u) (hs : s'.bx k' = s.bx k) : rel P s' w (.bx k' 0) u:=by
 rw [rel] at h |-; rw [hs]; exact h
theorem zDV {P : Program} {s s' : Sg} {w w' : World} {k : Nat} {u u' : Value} (h : rel P s w (.bx k 0) u) (h' : rel P s' w' (.bx k 0) u') (hs : s'.bx k = s.bx k) : u = u':=by
 rw [rel] at h h'
 obtain ⟨b,h1,rfl⟩:=h
 obtain ⟨b',h2,rfl⟩:=h'
 rw [hs,h1] at h2
 cases h2; rfl
def zHK (p q r : Value) : Deferred:={ target:=.fn (.func 41) #[p,q,r],args:=#[] }
section
variable {σ : Sg} {w0 : World} {he : EN5.E w0} {s0 : Sg} {hp : ∀ k,k < EN5.G -> ¬ False} {pk : Value -> (Nat -> V) -> (Nat -> Option Res) -> Prop} {s : Sg} {w : World} {a : Act}
structure Ptrs (P : Program) (s0 : Sg) (w : World) (p2 p3 p4 : Value) : Prop where
 p2 : rel P s0 w (.bx (pn 0) 0) p2
 p3 : rel P s0 w (.bx (pn 1) 0) p3
 p4 : rel P s0 w (.bx (pn 2) 0) p4
theorem leave_ret {p2 p3 p4 : Value} {w1 : World} {r : V} (l1 l2 : List D) (i e : Int) (hF : s0.F = σ.F) (hps : Ptrs Tryz.prog s0 w1 p2 p3 p4) (hI : Inv ⟨Tryz.prog,fun _ => False,s0,w0,EN5,he,hp,pk,[zHK p2 p3 p4]⟩ (HR 24 slotsP [.sl 47 l1,.sl 50 l2] i e) s w a)
 (hr : r = .tup [.agg [.sl 47 l1,.sl 50 l2],.c (.int .i64 i),.c (.int .i64 e)]) : Leaves Tryz.prog Tryz.f15 a.tmps (acR Tryz.prog σ w0 r) [zHK p2 p3 p4] .returning w:=by
 have e2 : p2 = a.tmps.getD 2 undef:=zDV hps.p2 (hI.tm 2 (by omega)) (hI.named 0)
 have e3 : p3 = a.tmps.getD 3 undef:=zDV hps.p3 (hI.tm 3 (by omega)) (hI.named 1)
 have e4 : p4 = a.tmps.getD 4 undef:=zDV hps.p4 (hI.tm 4 (by omega)) (hI.named 2)
 have hc:=call_ret _ i e hI
 rw [<- e2,<- e3,<- e4] at hc
 refine leaves_cons (f:=41) (args:=#[p2,p3,p4]) (by simp) (by simp [go_sem]) (hc.mono ?_)
 rintro en u' w' ⟨rfl,rfl,s',hI'⟩
 exact ac_fin hI' rfl rfl hF rfl ⟨_,_,_,rfl,rfl,rfl,hr⟩ (by rw [hr]; rfl)
theorem leave_pan {p2 p3 p4 : Value} {w1 : World} (i e i' e' : Int) (hok : (Lit.int .i64 i').wf = true /\ (Lit.int .i64 e').wf = true) (hF : s0.F = σ.F) (hps : Ptrs Tryz.prog s0 w1 p2 p3 p4) (hI : Inv ⟨Tryz.prog,fun _ => False,s0,w0,EN5,he,hp,pk,[zHK p2 p3 p4]⟩ (HR 24 slotsP zQ i e) s w a) :
 Leaves Tryz.prog Tryz.f15 a.tmps (acR Tryz.prog σ w0 (.tup [.agg zQ,.c (.int .i64 i'),.c (.int .i64 e')])) [zHK p2 p3 p4] (.panicking [{ v:=.iface 96 (.agg #[.int .i64 i',.int .i64 e']),recovered:=false }]) w:=by
 have e2 : p2 = a.tmps.getD 2 undef:=zDV hps.p2 (hI.tm 2 (by omega)) (hI.named 0)
 have e3 : p3 = a.tmps.getD 3 undef:=zDV hps.p3 (hI.tm 3 (by omega)) (hI.named 1)
 have e4 : p4 = a.tmps.getD 4 undef:=zDV hps.p4 (hI.tm 4 (by omega)) (hI.named 2)
 have hc:=call_pan i e i' e' hok hI
 rw [<- e2,<- e3,<- e4] at hc
 refine leaves_cons (f:=41) (args:=#[p2,p3,p4]) (by simp) (by simp [go_sem]) (hc.mono ?_)
 rintro en u' w' ⟨rfl,hs,s',hI'⟩
 show Leaves _ _ _ _ [] (settle u') w'
 rw [hs]
 exact ac_fin hI' rfl rfl hF rfl ⟨_,_,_,rfl,rfl,rfl,rfl⟩ rfl
end
noncomputable abbrev VP (p : List D × List D) : V:=.agg (cellsV Tryz.prog 12 25 (queD p.1 p.2))
noncomputable abbrev toksV (ts : List Tok) : V:=.sl 134 (ts.map tokD)
theorem etaPz (ts : List Tok) : [V.sl 134 (ts.map tokD),.c (.bool true),.c (.int .i64 0)] = zv ⟨ts,true,0⟩:=rfl
noncomputable def HP2 (ts : List Tok) : Vst 24:=stS 24 [(2,.bx 2 0),(3,.bx 3 0),(4,.bx 4 0),(5,toksV ts)] [(2,.box 25 zQ),(3,.box 3 [.c (.int .i64 0)]),(4,.box 51 [.c (.int .i64 0)])]
noncomputable def HP3 (ts : List Tok) : Vst 24:=HR 24 [(2,.bx (pn 0) 0),(3,.bx (pn 1) 0),(4,.bx (pn 2) 0),(5,toksV ts)] zQ 0 0
section
variable {σ : Sg} {w0 : World} {he : EN5.E w0}
theorem parse_bad (s : List UInt8) (i : Nat) (e : Int) (he0 : e ≠ 0) (hsc : AC EN5 Tryz.prog 40 [.c (.string (bs s))] (.tup [.c (.slice none 0 0),.c (.int .i64 (i : Int)),.c (.int .i64 e)])) :
 AC EN5 Tryz.prog 15 [.c (.string (bs s))] (.tup [.agg zQ,.c (.int .i64 (i : Int)),.c (.int .i64 e)]):=by
 refine ac_by fun σ w us hus hfx he => ?_
 refine calls_of_wp_defers Tryz.func15 rfl ?_
 have hI:=zEE (nn:=24) (fn:=Tryz.f15) he rfl hus hfx
 have hP : ∀ Q,PQ (cx EN5 Tryz.prog σ w he) 24 Q:=fun Q _ _ _ _ _ _ h => h.elim
 refine zHQ ?_ hI
 clear hI
 refine zB0 (hP _) ?_
 repeat' (first
|refine zA ?_
|refine zI ?_
|apply s_1
 conv => whnf; arg 1; arg 4; arg 3; whnf
 refine ⟨?_,?_⟩
|exact trivial)
 refine k_q ?_
 refine zB0 (hP _) ?_
 repeat' (first
|refine zA ?_
|refine zI ?_
|apply s_1
 conv => whnf; arg 1; arg 4; arg 3; whnf
 refine ⟨?_,?_⟩
|apply zd rfl
 . conv => lhs; whnf
 . conv => lhs; whnf
 . first | exact hsc
|apply zr rfl rfl rfl
 . conv => lhs; whnf
 . conv => lhs; whnf; arg 1; whnf
 . conv => lhs; whnf; arg 1; whnf
 . exact ⟨by kernel_rfl,by kernel_rfl⟩
 . rfl
|exact trivial)
 refine k_q ?_
 refine zB0 (hP _) ?_
 repeat' (first
|apply zGk 6 ([(1,[3]),(2,[4])]) ([(3,[2]),(4,[3]),(5,[4])]) rfl (by kernel_rfl) (by kernel_rfl) (by kernel_rfl)
|apply zEc
|apply zEb rfl
 . conv => lhs; whnf
 . conv => lhs; whnf; arg 2; whnf
|apply zBn rfl rfl rfl
 . conv => lhs; whnf
 . rfl
 . conv => lhs; whnf; arg 1; whnf
 . conv => lhs; whnf; arg 1; whnf
 . exact ⟨by kernel_rfl,by kernel_rfl⟩
 . rfl
|show inO _ _ = true; rfl
|refine zA ?_
|refine zI ?_
|refine zb ?_
|apply aw_1
 conv => whnf
 refine ⟨?_,trivial⟩
|apply s_1
 conv => whnf; arg 1; arg 4; arg 3; whnf
 refine ⟨?_,?_⟩
|refine zT (by conv => lhs; whnf) ?_ ?_ <;> intro hb
|exact trivial)
 . refine k_qr fun s' w' a' hI' => ?_
   show Leaves _ _ _ _ a'.defers .returning w'
   rw [hI'.df]
   exact ac_fin hI' rfl rfl rfl rfl ⟨_,_,_,rfl,rfl,rfl,rfl⟩ rfl
 . exact absurd hb (by simp [he0])
noncomputable def restP : Code:=match Tryz.f15.body with
 | some (.seq _ (.seq _ (.seq _ (.seq _ y)))) => y
 | _ => .skip
def endP (d : List D) (d2 : List D) : Exit -> Vst 24 -> Prop
 | .ret,st => tmOk st slotsP /\ rsOk st (resP [.sl 47 d,.sl 50 d2] 0 0)
 | _,_ => False
def pkP (x : Nat × Int) (pv : Value) (tm : Nat -> V) (rs : Nat -> Option Res) : Prop:=
 pv = probP x /\ tmOk (⟨tm,rs⟩ : Vst 24) slotsP /\ rsOk (⟨tm,rs⟩ : Vst 24) (resP zQ 0 0)
theorem rest_ok {pas : Nat -> Prop} {s0 : Sg} {hp : ∀ k,k < EN5.G -> ¬ pas k} {dfs : List Deferred} (ts : List Tok) (ops frs : List D) (x' : PS)
 (hdoc : ACE EN5 Tryz.prog 42 [.bx (pn 0) 0] [boxP ⟨ts,true,0⟩] (outQ (fun p => VP p) (.ok ((ops,frs),x')))) :
 AW ⟨Tryz.prog,pas,s0,w0,EN5,he,hp,fun _ _ _ => False,dfs⟩ restP (HP3 ts) (endP ops frs):=by
 unfold restP
 simp only [Tryz.f15]
 repeat' (first
|refine zA ?_
|refine zI ?_
|refine zb ?_
|apply aw_1
 conv => whnf
 refine ⟨?_,trivial⟩
|apply s_1
 conv => whnf; arg 1; arg 4; arg 3; whnf
 refine ⟨?_,?_⟩
|apply zAC rfl rfl rfl rfl
 . conv => lhs; whnf; arg 1; whnf
 . rfl
|exact trivial)
 apply s_pr zv zY rfl
 . rfl
 . conv => lhs; whnf
 . rfl
 . conv => lhs; whnf; arg 1; whnf
 . exact etaPz _
 . exact hdoc
 . exact fun _ => rfl
 . intro _ _; simp only [renL,renV,ren_cells]
 . intro ee hq; cases hq
 intro aa xx hq
 cases hq
 repeat' (first
|refine zI ?_
|refine zb ?_
|apply aw_1
 conv => whnf
 refine ⟨?_,trivial⟩
|apply zr rfl rfl rfl
 . conv => lhs; whnf
 . conv => lhs; whnf; arg 1; whnf
 . conv => lhs; whnf; arg 1; whnf
 . exact ⟨by kernel_rfl,by kernel_rfl⟩
 . rfl)
 exact ⟨⟨rfl,rfl,rfl,trivial⟩,rfl,rfl,rfl,trivial⟩
theorem rest_pan {pas : Nat -> Prop} {s0 : Sg} {hp : ∀ k,k < EN5.G -> ¬ pas k} {dfs : List Deferred} (ts : List Tok) (x : Nat × Int)
 (hdoc : ACE EN5 Tryz.prog 42 [.bx (pn 0) 0] [boxP ⟨ts,true,0⟩] (outQ (fun p => VP p) (.error x))) :
 AW ⟨Tryz.prog,pas,s0,w0,EN5,he,hp,pkP x,dfs⟩ restP (HP3 ts) (fun _ _ => False):=by
 unfold restP
 simp only [Tryz.f15]
 repeat' (first
|refine zA ?_
|refine zI ?_
|refine zb ?_
|apply aw_1
 conv => whnf
 refine ⟨?_,trivial⟩
|apply s_1
 conv => whnf; arg 1; arg 4; arg 3; whnf
 refine ⟨?_,?_⟩
|apply zAC rfl rfl rfl rfl
 . conv => lhs; whnf; arg 1; whnf
 . rfl
|exact trivial)
 apply s_pr zv zY rfl
 . rfl
 . conv => lhs; whnf
 . rfl
 . conv => lhs; whnf; arg 1; whnf
 . exact etaPz _
 . exact hdoc
 . exact fun _ => rfl
 . intro _ _; simp only [renL,renV,ren_cells]
 . intro ee hq
   cases hq
   exact ⟨rfl,⟨rfl,rfl,rfl,trivial⟩,rfl,rfl,rfl,trivial⟩
 intro aa xx hq
 cases hq
noncomputable def code4 : Code:=match Tryz.f15.body with
 | some (.seq _ (.seq _ (.seq _ y))) => y
 | _ => .skip
theorem zE9 {ts : List Tok} {Q : Exit -> Act -> World -> Prop} {s : Sg} {w : World} {a : Act} (hI : Inv (cx EN5 Tryz.prog σ w0 he) (HP2 ts) s w a)
 (h : ∀ (s0 : Sg) (p2 p3 p4 : Value) (a' : Act),s0.F = σ.F -> Ptrs Tryz.prog s0 w p2 p3 p4 -> (∀ pk,∃ s',Inv ⟨Tryz.prog,fun _ => False,s0,w0,EN5,he,fun _ _ h => h,pk,[zHK p2 p3 p4]⟩ (HP3 ts) s' w a') -> restP.wp Tryz.prog Q a' w) : code4.wp Tryz.prog Q a w:=by
 unfold code4
 simp only [Tryz.f15]
 unfold restP at h
 simp only [Tryz.f15] at h
 refine wp_seq (wp_region_lit ?_)
 refine wpList_plain rfl fun K' hK' => ?_
 unfold Oper.wp
 have hrun : ∀ (ty : TypeId) (po : String),(execOp a.eval { dst:=some 18,op:=Op.makeFunc (Fn.func 41) #[] #[Operand.tmp 2,Operand.tmp 3,Operand.tmp 4],type:=ty,pos:=po,after:=#[],guard:=none }).run Tryz.prog w = .ok (.value (.func (.func 41) #[] #[a.tmps.getD 2 undef,a.tmps.getD 3 undef,a.tmps.getD 4 undef])) w:=fun ty po => by simp [execOp,Instr.makeFunc,Act.eval]
 rw [hrun]
 rw [Oper.upon_value]
 refine hK' _ _ ?_
 refine wpList_plain rfl fun K2 hK2 => ?_
 unfold Oper.wp
 have hz : 18 < a.tmps.size:=by rw [hI.sz]; omega
 have hev : (a.put (some 18) (.func (.func 41) #[] #[a.tmps.getD 2 undef,a.tmps.getD 3 undef,a.tmps.getD 4 undef])).eval (.tmp 18) = .func (.func 41) #[] #[a.tmps.getD 2 undef,a.tmps.getD 3 undef,a.tmps.getD 4 undef]:=by
  simp [Act.put,Act.eval,hz]
 simp only [execOp,resolve,hev,Deferred.ofValue,List.map_toArray,List.map_nil,Sem.run_bind,Sem.run_pure,Result.andThen_ok]
 rw [Oper.upon_defer]
 refine hK2 _ _ (wpList_nil ?_)
 have h18:=hI.put (some 18) (v:=.any) (u:=.func (.func 41) #[] #[a.tmps.getD 2 undef,a.tmps.getD 3 undef,a.tmps.getD 4 undef]) (by simp [rel])
 have hd : a.defers = []:=hI.df
 refine h { s.hand [2,3,4] with F:=σ.F } (a.tmps.getD 2 undef) (a.tmps.getD 3 undef) (a.tmps.getD 4 undef) _ rfl ⟨?_,?_,?_⟩ (fun pk => ?_)
 . exact bx_ren (k:=2) (hI.tm 2 (by omega)) (zBv s [2,3,4] (i:=0) rfl).1
 . exact bx_ren (k:=3) (hI.tm 3 (by omega)) (zBv s [2,3,4] (i:=1) rfl).1
 . exact bx_ren (k:=4) (hI.tm 4 (by omega)) (zBv s [2,3,4] (i:=2) rfl).1
 . refine zGr (Sub.live (cs:=[(2,.bx (pn 0) 0),(3,.bx (pn 1) 0),(4,.bx (pn 2) 0),(5,toksV ts)]) (R:=resP zQ 0 0) ?_ ?_) (Inv.handed h18 [2,3,4] (by decide) (ρs:=[.box 25 zQ,.box 3 [.c (.int .i64 0)],.box 51 [.c (.int .i64 0)]]) rfl pk [zHK (a.tmps.getD 2 undef) (a.tmps.getD 3 undef) (a.tmps.getD 4 undef)] rfl ?_)
   . exact ⟨rfl,rfl,rfl,rfl,trivial⟩
   . exact ⟨rfl,rfl,rfl,trivial⟩
   . show zHK _ _ _ :: a.defers = _
     rw [hd]
theorem parse_good (s : List UInt8) (ts : List Tok) (hsc : AC EN5 Tryz.prog 40 [.c (.string (bs s))] (.tup [toksV ts,.c (.int .i64 0),.c (.int .i64 0)])) (ops frs : List D) (x' : PS)
 (hdoc : ACE EN5 Tryz.prog 42 [.bx (pn 0) 0] [boxP ⟨ts,true,0⟩] (outQ (fun p => VP p) (.ok ((ops,frs),x')))) :
 AC EN5 Tryz.prog 15 [.c (.string (bs s))] (.tup [.agg [.sl 47 ops,.sl 50 frs],.c (.int .i64 0),.c (.int .i64 0)]):=by
 refine ac_by fun σ w us hus hfx he => ?_
 refine calls_of_wp_defers Tryz.func15 rfl ?_
 have hI:=zEE (nn:=24) (fn:=Tryz.f15) he rfl hus hfx
 have hP : ∀ Q,PQ (cx EN5 Tryz.prog σ w he) 24 Q:=fun Q _ _ _ _ _ _ h => h.elim
 refine zHQ ?_ hI
 clear hI
 refine zB0 (hP _) ?_
 repeat' (first
|refine zA ?_
|refine zI ?_
|apply s_1
 conv => whnf; arg 1; arg 4; arg 3; whnf
 refine ⟨?_,?_⟩
|exact trivial)
 refine k_q ?_
 refine zB0 (hP _) ?_
 repeat' (first
|refine zA ?_
|refine zI ?_
|apply s_1
 conv => whnf; arg 1; arg 4; arg 3; whnf
 refine ⟨?_,?_⟩
|apply zd rfl
 . conv => lhs; whnf
 . conv => lhs; whnf
 . first | exact hsc
|apply zr rfl rfl rfl
 . conv => lhs; whnf
 . conv => lhs; whnf; arg 1; whnf
 . conv => lhs; whnf; arg 1; whnf
 . exact ⟨by kernel_rfl,by kernel_rfl⟩
 . rfl
|exact trivial)
 refine k_q ?_
 refine zB0 (hP _) ?_
 repeat' (first
|refine zA ?_
|refine zI ?_
|refine zb ?_
|apply aw_1
 conv => whnf
 refine ⟨?_,trivial⟩
|apply s_1
 conv => whnf; arg 1; arg 4; arg 3; whnf
 refine ⟨?_,?_⟩
|exact trivial)
 refine k_q (awq_sub (st':=HP2 ts) (Sub.live ⟨rfl,rfl,rfl,rfl,trivial⟩ ⟨rfl,rfl,rfl,trivial⟩) (awq_by fun s1 w1 a1 hI1 => ?_))
 refine zE9 hI1 fun s0 p2 p3 p4 a' hF hps hpk => ?_
 obtain ⟨s2,hI2⟩:=hpk fun _ _ _ => False
 refine Code.wp_mono (fun en a3 w3 ⟨st3,s3,hI3,hK⟩ => ?_) (zIP (rest_ok ts ops frs x' hdoc) hI2)
 rcases hK with hK | ⟨_,_,hK⟩
 . cases en
   case ret =>
    obtain ⟨s4,hI4⟩:=zGr (Sub.live (cs:=slotsP) (R:=resP [.sl 47 ops,.sl 50 frs] 0 0) hK.1 hK.2) hI3
    show Leaves _ _ _ _ a3.defers .returning w3
    rw [hI3.df]
    exact leave_ret ops frs 0 0 hF hps hI4 rfl
   all_goals exact hK.elim
 . exact hK.elim
theorem parse_pan (s : List UInt8) (ts : List Tok) (hsc : AC EN5 Tryz.prog 40 [.c (.string (bs s))] (.tup [toksV ts,.c (.int .i64 0),.c (.int .i64 0)])) (x : Nat × Int) (hok : (Lit.int .i64 (x.1 : Int)).wf = true /\ (Lit.int .i64 x.2).wf = true)
 (hdoc : ACE EN5 Tryz.prog 42 [.bx (pn 0) 0] [boxP ⟨ts,true,0⟩] (outQ (fun p => VP p) (.error x))) :
 AC EN5 Tryz.prog 15 [.c (.string (bs s))] (.tup [.agg zQ,.c (.int .i64 (x.1 : Int)),.c (.int .i64 x.2)]):=by
 refine ac_by fun σ w us hus hfx he => ?_
 refine calls_of_wp_defers Tryz.func15 rfl ?_
 have hI:=zEE (nn:=24) (fn:=Tryz.f15) he rfl hus hfx
 have hP : ∀ Q,PQ (cx EN5 Tryz.prog σ w he) 24 Q:=fun Q _ _ _ _ _ _ h => h.elim
 refine zHQ ?_ hI
 clear hI
 refine zB0 (hP _) ?_
 repeat' (first
|refine zA ?_
|refine zI ?_
|apply s_1
 conv => whnf; arg 1; arg 4; arg 3; whnf
 refine ⟨?_,?_⟩
|exact trivial)
 refine k_q ?_
 refine zB0 (hP _) ?_
 repeat' (first
|refine zA ?_
|refine zI ?_
|apply s_1
 conv => whnf; arg 1; arg 4; arg 3; whnf
 refine ⟨?_,?_⟩
|apply zd rfl
 . conv => lhs; whnf
 . conv => lhs; whnf
 . first | exact hsc
|apply zr rfl rfl rfl
 . conv => lhs; whnf
 . conv => lhs; whnf; arg 1; whnf
 . conv => lhs; whnf; arg 1; whnf
 . exact ⟨by kernel_rfl,by kernel_rfl⟩
 . rfl
|exact trivial)
 refine k_q ?_
 refine zB0 (hP _) ?_
 repeat' (first
|refine zA ?_
|refine zI ?_
|refine zb ?_
|apply aw_1
 conv => whnf
 refine ⟨?_,trivial⟩
|apply s_1
 conv => whnf; arg 1; arg 4; arg 3; whnf
 refine ⟨?_,?_⟩
|exact trivial)
 refine k_q (awq_sub (st':=HP2 ts) (Sub.live ⟨rfl,rfl,rfl,rfl,trivial⟩ ⟨rfl,rfl,rfl,trivial⟩) (awq_by fun s1 w1 a1 hI1 => ?_))
 refine zE9 hI1 fun s0 p2 p3 p4 a' hF hps hpk => ?_
 obtain ⟨s2,hI2⟩:=hpk (pkP x)
 refine Code.wp_mono (fun en a3 w3 ⟨st3,s3,hI3,hK⟩ => ?_) (zIP (rest_pan ts x hdoc) hI2)
 rcases hK with hK | ⟨pv,rfl,hK⟩
 . exact hK.elim
 . obtain ⟨rfl,h1,h2⟩:=hK
   obtain ⟨s4,hI4⟩:=zGr (Sub.live (cs:=slotsP) (R:=resP zQ 0 0) h1 h2) hI3
   show Leaves _ _ _ _ a3.defers (.panicking _) w3
   rw [hI3.df]
   exact leave_pan 0 0 x.1 x.2 hok hF hps hI4
end
end Go.Proofs.YtdlnnlglmifceaaGreatDoor
namespace Go.Proofs.YtdlnnlglmifceaaGreatDoor
open Go.RowKit
set_option linter.unusedSectionVars false
attribute [local irreducible] wpList Calls Code.wp AW AWo OpOk seqK zAP zAR loopK endK AC zy Yld Sub
attribute [local irreducible] ACB ACX ACE absLexG YldG
theorem zF7 : ∀ (f : Nat) (l : List UInt8) (i : Nat) (ts : List Tok),scanF f l i = .ok ts -> ts.length <= l.length + 1
 | 0,_,_,_,h => by cases h
 | f + 1,l,i,ts,h => by
   unfold scanF at h
   split at h
   . cases h
     simp
   . rename_i c r hl
     have hlen : (c :: r).length = l.length - skipM false l:=by rw [<- hl,List.length_drop]
     have hsk:=zBE false l
     split at h
     . cases h
     . rename_i t n ht
       have hn:=zFb ht
       split at h
       . cases h
       . rename_i ts' hts
         cases h
         have:=zF7 f _ _ _ hts
         rw [List.length_drop] at this
         simp only [List.length_cons] at *
         omega
theorem scan_cnt {l : List UInt8} {ts : List Tok} (h : zCb l = .ok ts) : ts.length <= 65537:=by
 unfold zCb at h
 split at h
 . cases h
 . have:=zF7 _ _ _ _ h
   omega
noncomputable def parseW : Except (Nat × Int) D -> V
 | .ok q => .tup [.agg [.sl 47 (q.f 0).l,.sl 50 (q.f 1).l],.c (.int .i64 0),.c (.int .i64 0)]
 | .error x => .tup [.agg zQ,.c (.int .i64 (x.1 : Int)),.c (.int .i64 x.2)]
theorem i64_wf {n : Int} (h : -9000000000 <= n /\ n <= 9000000000) : (Lit.int .i64 n).wf = true:=by
 rw [zB2]
 simp [IntKind.min,IntKind.max,IntKind.signed,IntKind.bits]; omega
theorem zHm (s : List UInt8) (hs : s.length <= 4000000000) : AC EN5 Tryz.prog 15 [.c (.string (bs s))] (parseW (zGI s)):=by
 have hsc:=scan_ac s hs
 unfold zGI
 cases h : zCb s with
 | error x =>
   rw [h] at hsc
   exact parse_bad s x.1 x.2 (scan_err (i:=x.1) h) hsc
 | ok ts =>
   rw [h] at hsc
   have hen:=scan_en h
   have hd:=doc_ace ⟨ts,true,0⟩ hen.1 (by have:=scan_cnt h; show ts.length <= 100000; omega)
   have hd : ACE EN5 Tryz.prog 42 [.bx (pn 0) 0] [boxP ⟨ts,true,0⟩] (outQ (fun p => VP p) (docQ ts)):=hd
   dsimp only
   cases hq : docQ ts with
   | error x =>
     rw [hq] at hd
     have h1:=doc_mz hen.1 x.1 x.2 hq
     have h2:=doc_err hen.2 (i:=x.1) (e:=x.2) hq
     have hl : s.length <= 65536:=by
      unfold zCb at h
      split at h
      . cases h
      . omega
     exact parse_pan s ts hsc x ⟨i64_wf (by omega),i64_wf (by omega)⟩ hd
   | ok r =>
     obtain ⟨⟨ops,frs⟩,x'⟩:=r
     rw [hq] at hd
     exact parse_good s ts hsc ops frs x' hd
end Go.Proofs.YtdlnnlglmifceaaGreatDoor
namespace Go.Proofs.YtdlnnlglmifceaaGreatDoor
open Go.RowKit
set_option linter.unusedSectionVars false
def exT : List UInt8:=[113,117,101,114,121,32,113,40,36,110,58,32,73,110,116,32,61,32,49,41,32,123,32,97,58,32,117,115,101,114,40,105,100,58,32,36,110,41,32,123,32,110,97,109,101,32,46,46,46,102,32,125,32,125,32,102,114,97,103,109,101,110,116,32,102,32,111,110,32,85,115,101,114,32,123,32,105,100,32,125]
def exQ : D:=match zGI exT with
 | .ok q => q
 | .error _ => default
theorem ex_parse : zGI exT = .ok exQ:=by kernel_rfl
theorem ex_bad : zGI [123,32,125] = .error (2,3):=by kernel_rfl
end Go.Proofs.YtdlnnlglmifceaaGreatDoor
