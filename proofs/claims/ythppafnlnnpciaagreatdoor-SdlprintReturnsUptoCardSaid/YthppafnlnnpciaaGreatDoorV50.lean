import Derived.Defers
import Derived.Recover
import Derived.WideLaws
import Derived.Test.YthppafnlnnpciaaGreatDoorV49
set_option maxHeartbeats 8000000
set_option maxRecDepth 100000
set_option linter.unusedVariables false
set_option linter.unusedSimpArgs false
namespace Go.Proofs.YthppafnlnnpciaaGreatDoor
section
open Go.RowKit
attribute [local irreducible] wpList Calls Code.wp
section
variable {X:Cx} {nn:Nat} {st:Vst nn} {s:Sg} {w:World} {a:Act}
def Sg.hand (s:Sg) (ns:List Nat):Sg:={ F:=s.F,bx:=fun n=>(φout ns n).bind s.bx,tb:=fun n=>(φout ns n).bind s.tb,tk:=fun n=>match φout ns n with | some m=>s.tk m | none=>(.tuple #[],0) }
theorem zCP (s:Sg) (ns:List Nat) {i q:Nat} (hq:ns[i]? = some q):(s.hand ns).bx (pn i)=s.bx q/\(s.hand ns).tb (pn i)=s.tb q/\(s.hand ns).tk (pn i)=s.tk q:=by
 have e:φout ns (pn i)=some q:=(φout_pn ns i).trans hq
 refine ⟨?_,?_,?_⟩
 . show (φout ns (pn i)).bind s.bx=_;rw [e];rfl
 . show (φout ns (pn i)).bind s.tb=_;rw [e];rfl
 . show (match φout ns (pn i) with | some m=>s.tk m | none=>(.tuple #[],0))=_;rw [e]
theorem Inv.handed (hI:Inv X st s w a) (ns:List Nat) (hnd:ns.Nodup) {ρs:List Res} (hρ:ns.map st.rs=ρs.map some) (pk:Value->(Nat->V)->(Nat->Option Res)->Prop) (ds:List Deferred) {a':Act} (ht:a'.tmps=a.tmps) (hd:a'.defers=ds) :
 Inv (nn:=nn) ⟨X.P,X.pas,{ s.hand ns with F:=X.s0.F },X.w0,X.e,X.he,X.hp,pk,ds⟩ ⟨fun i=>renV (φin ns) (st.tm i),rsOf (ρs.map (renR (φin ns)))⟩ (s.hand ns) w a':=by
 have hφ1 : ∀ n m,φin ns n=some m->(s.hand ns).bx m=s.bx n/\(s.hand ns).tk m=s.tk n:=fun n m hm=>by
  obtain ⟨i,hi,rfl⟩:=Option.map_eq_some_iff.1 hm
  exact ⟨(zCP s ns (zBo hi)).1,(zCP s ns (zBo hi)).2.2⟩
 have hbs : ∀ (i:Nat) (ρ:Res),(ρs.map (renR (φin ns)))[i]? = some ρ -> ∃ q ρ0,ns[i]? = some q/\st.rs q=some ρ0/\ρ=renR (φin ns) ρ0:=fun i ρ hi=>by
  rw [List.getElem?_map] at hi
  obtain ⟨ρ0,h1,rfl⟩:=Option.map_eq_some_iff.1 hi
  have h3:(ns.map st.rs)[i]? = (ρs.map some)[i]?:=by rw [hρ]
  rw [List.getElem?_map,List.getElem?_map,h1] at h3
  obtain ⟨q,hq,h4⟩:=Option.map_eq_some_iff.1 h3
  exact ⟨q,ρ0,hq,h4,rfl⟩
 refine ⟨by rw [ht];exact hI.sz,fun i hi => ?_,hd,hI.fr,hI.kp,hI.nf,⟨hI.mem.fx,fun n ρ hn => ?_,fun n ρ b hn hbk => ?_,fun n m ρ ρ' b hn hm hnb hmb => ?_⟩,fun i=>⟨rfl,.inl rfl⟩⟩
 . rw [ht]
   exact rel.ren (s:=s) (s2:=s.hand ns) rfl hφ1 _ _ (hI.tm i hi)
 . obtain ⟨i,rfl,hi⟩:=zAN hn
   obtain ⟨q,ρ0,hq,h3,rfl⟩:=hbs i ρ hi
   have hh:=zCP s ns hq
   exact Holds.ren (s:=s) (s2:=s.hand ns) rfl hφ1 hh.1 hh.2.1 hh.2.2 (hI.mem.ho q ρ0 h3)
 . obtain ⟨i,rfl,hi⟩:=zAN hn
   obtain ⟨q,ρ0,hq,h3,rfl⟩:=hbs i ρ hi
   have hh:=zCP s ns hq
   exact hI.mem.bs q ρ0 b h3 ((bk_ren hh.1 hh.2.1).1 hbk)
 . obtain ⟨i,rfl,hi⟩:=zAN hn
   obtain ⟨j,rfl,hj⟩:=zAN hm
   obtain ⟨q,ρ0,hq,h3,rfl⟩:=hbs i ρ hi
   obtain ⟨q',ρ1,hq',h3',rfl⟩:=hbs j ρ' hj
   have hh:=zCP s ns hq
   have hh':=zCP s ns hq'
   have e:=hI.mem.dj q q' _ _ b h3 h3' ((bk_ren hh.1 hh.2.1).1 hnb) ((bk_ren hh'.1 hh'.2.1).1 hmb)
   subst e
   have:=(zFT hnd hq).symm.trans (zFT hnd hq')
   cases this;rfl
theorem Inv.frame (hI:Inv X st s w a) {n2:Nat} (tm:Nat->V) (pk:Value->(Nat->V)->(Nat->Option Res)->Prop) (ds:List Deferred) {a':Act} (hz:a'.tmps.size=n2) (hd:a'.defers=ds) (ht : ∀ i,i<n2->rel X.P s w (tm i) (a'.tmps.getD i undef)) :
 Inv (nn:=n2) { X with pk:=pk,dfs:=ds } ⟨tm,st.rs⟩ s w a':=
 ⟨hz,ht,hd,hI.fr,hI.kp,hI.nf,hI.mem,hI.pe⟩
theorem Inv.named (hI:Inv X st s w a) (i:Nat):s.bx (pn i)=X.s0.bx (pn i):=(hI.pe i).1
variable {o:Oper} {K:Vst nn->Prop}
theorem opOk_isNil {t yt:TypeId} {x:Operand} (ho:o.op = .binOp .neq t x (.const .nilIface) yt) (hx:ev st x = .c .nilIface) (ht:X.P.underlying t=some (.interface (X.P.methodsAt t))) (hK:K (st.put o.dst (.c (.bool false)))):OpOk X o st K:=by
 intro s w a hI N Q hP hN
 have h1:=hI.ev x
 rw [hx,rel] at h1
 unfold Oper.wp
 have hrun:(execOp a.eval o).run X.P w = .ok (.value (.bool false)) w:=by
  simp only [execOp,ho,h1.1]
  show (do let u <- (do eqGuard .neq t x (.const .nilIface) .nilIface .nilIface;binOp .neq t .nilIface .nilIface:Sem Value);pure (.value u):Sem Next).run X.P w=_
  rw [eqGuard_nil_constR]
  simp only [Sem.run_bind,Sem.run_pure,Result.andThen_ok,run_neq_nil_nil w t ht]
 rw [hrun,Oper.upon_value]
 exact hN _ _ _ _ (hI.put o.dst (by rw [rel];exact ⟨rfl,trivial⟩)) hK
theorem zJD {t yt u:TypeId} {x:Operand} {y:Value} (ho:o.op = .binOp .neq t x (.const .nilIface) yt) (hx:ev st x = .c (.iface u y)) (ht:X.P.underlying t=some (.interface (X.P.methodsAt t))) (hK:K (st.put o.dst (.c (.bool true)))):OpOk X o st K:=by
 intro s w a hI N Q hP hN
 have h1:=hI.ev x
 rw [hx,rel] at h1
 unfold Oper.wp
 have hrun:(execOp a.eval o).run X.P w = .ok (.value (.bool true)) w:=by
  simp only [execOp,ho,h1.1]
  show (do let v <- (do eqGuard .neq t x (.const .nilIface) (.iface u y) .nilIface;binOp .neq t (.iface u y) .nilIface:Sem Value);pure (.value v):Sem Next).run X.P w=_
  have e:eqGuard .neq t x (.const .nilIface) (.iface u y) .nilIface=pure ():=rfl
  rw [e]
  simp only [Sem.run_bind,Sem.run_pure,Result.andThen_ok,run_neq_held_nil w t u y ht]
 rw [hrun,Oper.upon_value]
 exact hN _ _ _ _ (hI.put o.dst (by rw [rel];exact ⟨rfl,trivial⟩)) hK
end
section
variable {X:Cx} {nn:Nat} {st:Vst nn} {o:Oper} {ops:Array Oper} {l:List Oper} {KK:Vst nn->Prop} {d:Option Tmp}
theorem s_isNil {t yt:TypeId} {x:Operand} (hg:o.guard=none) (ho:o.op = .binOp .neq t x (.const .nilIface) yt) (hd:o.dst=d) (hx:ev st x = .c .nilIface) (ht:X.P.underlying t=some (.interface (X.P.methodsAt t))) (hK:AWo X ops l (st.put d (.c (.bool false))) KK):AWo X ops (o::l) st KK:=
 zAC hg (opOk_isNil ho hx ht (by rw [hd];exact hK))
theorem s_notNil {t yt u:TypeId} {x:Operand} {y:Value} (hg:o.guard=none) (ho:o.op = .binOp .neq t x (.const .nilIface) yt) (hd:o.dst=d) (hx:ev st x = .c (.iface u y)) (ht:X.P.underlying t=some (.interface (X.P.methodsAt t))) (hK:AWo X ops l (st.put d (.c (.bool true))) KK):AWo X ops (o::l) st KK:=
 zAC hg (zJD ho hx ht (by rw [hd];exact hK))
end
section
variable {X:Cx} {nn:Nat} {st:Vst nn}
theorem zIx {st':Vst nn} {s:Sg} {w:World} {a:Act} (h:Sub X st st') (hI:Inv X st s w a) : ∃ s',Inv X st' s' w a:=h s w a hI
theorem zK1 {c:Code} {K:Exit->Vst nn->Prop} {s:Sg} {w:World} {a:Act} (h:AW X c st K) (hI:Inv X st s w a):c.wp X.P (fun e a' w' => ∃ (st':Vst nn) (s':Sg),Inv X st' s' w' a'/\(K e st'\/PX X e st')) a w:=h s w a hI
def AWQ (X:Cx) (c:Code) (st:Vst nn) (Q:Exit->Act->World->Prop):Prop:=∀ s w a,Inv X st s w a->c.wp X.P Q a w
def qK (X:Cx) (y:Code) (Q:Exit->Act->World->Prop):Exit->Vst nn->Prop
 |.normal,st=>AWQ X y st Q
 |e,st => ∀ s w a,Inv X st s w a->Q e a w
theorem k_q {y:Code} {Q:Exit->Act->World->Prop} (h:AWQ X y st Q):qK X y Q .normal st:=h
theorem k_qr {y:Code} {Q:Exit->Act->World->Prop} (h : ∀ s w a,Inv X st s w a->Q .ret a w):qK X y Q .ret st:=h
theorem zJh {c:Code} {Q:Exit->Act->World->Prop} {s:Sg} {w:World} {a:Act} (h:AWQ X c st Q) (hI:Inv X st s w a):c.wp X.P Q a w:=h s w a hI
theorem awq_by {c:Code} {Q:Exit->Act->World->Prop} (h : ∀ s w a,Inv X st s w a->c.wp X.P Q a w):AWQ X c st Q:=h
theorem zCW {x y:Code} {Q:Exit->Act->World->Prop} (hP:PQ X nn Q) (h:AW X x st (qK X y Q)):AWQ X (.seq x y) st Q:=fun s w a hI =>
 wp_seq (Code.wp_mono (fun e a' w' ⟨st',s',hI',hK⟩=>by
  rcases hK with hK | ⟨pv,rfl,hp⟩
  . cases e
    case normal=>exact hK s' w' a' hI'
    all_goals exact hK s' w' a' hI'
  . exact hP pv st' s' w' a' hI' hp) (h s w a hI))
theorem awq_sub {c:Code} {st':Vst nn} {Q:Exit->Act->World->Prop} (hs:Sub X st st') (h:AWQ X c st' Q):AWQ X c st Q:=fun s w a hI=>by
 obtain ⟨s',hI'⟩:=hs s w a hI
 exact h s' w a hI'
theorem zFQ {e:Ge} {P:Program} {fn:Func} {args:List V} {s:Sg} {w:World} {us:Array Value} (he:e.E w) (hnn:args.length+(fn.ntmps-args.length)=nn) (hus:relL P s w args us.toList) (hfx : ∀ b o,s.F b o->(w.cell? ⟨b,o,none⟩).isSome) :
 Inv (cx e P s w he) (st0 nn args) s w { tmps:=us++Array.replicate (fn.ntmps-us.size) undef,defers:=[] }:=by
 have hlen:=hus.length
 have hl2:us.toList.length=us.size:=by simp
 refine ⟨by simp;omega,fun i hi => ?_,rfl,Frm.refl _ _,Keeps.refl,fun _ _ _ _ h=>h,⟨hfx,fun n ρ h=>by simp [st0] at h,fun n ρ b h=>by simp [st0] at h,fun n m ρ ρ' b h=>by simp [st0] at h⟩,PE.refl _⟩
 show rel P s w (args.getD i .any) _
 by_cases hi2:i<args.length
 . have h1:args[i]? = some args[i]:=List.getElem?_eq_getElem hi2
   have hi3:i<us.size:=by omega
   have h2:us.toList[i]? = some us[i]:=by rw [Array.getElem?_toList];exact Array.getElem?_eq_getElem hi3
   rw [List.getD_eq_getElem?_getD,h1]
   have:(us++Array.replicate (fn.ntmps-us.size) undef).getD i undef=us[i]:=by
    rw [Array.getD_eq_getD_getElem?,Array.getElem?_append_left hi3,Array.getElem?_eq_getElem hi3];rfl
   rw [this]
   exact hus.get i _ _ h1 h2
 . rw [List.getD_eq_getElem?_getD,List.getElem?_eq_none (by omega)]
   simp [rel]
def acR (P:Program) (s:Sg) (w:World) (r:V):Ending->World->Prop:=fun en w' => ∃ v F',en = .returned v/\Frm (fun _=>False) w w'/\Keeps s.F F' w w'/\(∀ b o,F' b o->(w'.cell? ⟨b,o,none⟩).isSome)/\(∀ b o,b<w.heap.size->F' b o->s.F b o)/\rel P { s with F:=F' } w' r v
theorem ac_by {e:Ge} {P:Program} {f:FuncId} {args:List V} {r:V} (h : ∀ (s:Sg) (w:World) (us:Array Value),relL P s w args us.toList->(∀ b o,s.F b o->(w.cell? ⟨b,o,none⟩).isSome)->e.E w->Calls P f us w (acR P s w r)):AC e P f args r:=h
theorem ac_fin {P:Program} {s:Sg} {w:World} {fn:Func} {s':Sg} {w':World} {a':Act} {r:V} (hI:Inv X st s' w' a') (hP:X.P=P) (hpas:X.pas=fun _=>False) (hF:X.s0.F=s.F) (hw:X.w0=w) (hv:retV P st fn.results.toList r) (hr:r.pure=true) :
 ∃ v,(results fn a'.tmps).run P w' = .ok v w'/\acR P s w r (.returned v) w':=by
 subst hP
 subst hw
 obtain ⟨u,h1,h2⟩:=zGx hv hI
 have hfr:=hI.fr
 rw [hpas] at hfr
 refine ⟨u,h1,u,s'.F,rfl,hfr,by rw [<- hF];exact hI.kp,hI.mem.fx,fun b o hb => ?_,rel.only (s:=s') (s':={ s with F:=s'.F }) (P:=X.P) rfl r u hr h2⟩
 rw [<- hF]
 exact hI.nf b o hb (by rw [hpas];exact fun h=>h)
end
end
section
open Go.RowKit
attribute [local irreducible] wpList Calls Code.wp AW AWo OpOk seqK zz z8 loopK endK AC zl Yld Sub
attribute [local irreducible] ACB ACX ACE absLexG YldG AWQ qK
theorem ifT:Tryz.prog.underlying 20=some (.interface (Tryz.prog.methodsAt 20)):=by kernel_rfl
section
variable {pas:Nat->Prop} {s0:Sg} {w0:World} {he:EN5.E w0} {hp : ∀ k,k<EN5.G -> ¬ pas k} {pk:Value->(Nat->V)->(Nat->Option Res)->Prop} {dfs:List Deferred} {st:Vst 24} {s:Sg} {w:World} {a:Act}
def slotsP:List (Nat × V):=[(2,.bx (pn 0) 0),(3,.bx (pn 1) 0),(4,.bx (pn 2) 0)]
theorem zJg {P:Program} {s s':Sg} {w w':World} {k:Nat} {u:Value} (h:rel P s w (.bx k 0) u) (hs:s'.bx k=s.bx k):rel P s' w' (.bx k 0) u:=by
 rw [rel] at h |-;rw [hs];exact h
end
theorem bx_ren {P:Program} {s s':Sg} {w:World} {k k':Nat} {u:Value} (h:rel P s w (.bx k 0) u) (hs:s'.bx k'=s.bx k):rel P s' w (.bx k' 0) u:=by
 rw [rel] at h |-;rw [hs];exact h
theorem zEM {P:Program} {s s':Sg} {w w':World} {k:Nat} {u u':Value} (h:rel P s w (.bx k 0) u) (h':rel P s' w' (.bx k 0) u') (hs:s'.bx k=s.bx k):u=u':=by
 rw [rel] at h h'
 obtain ⟨b,h1,rfl⟩:=h
 obtain ⟨b',h2,rfl⟩:=h'
 rw [hs,h1] at h2
 cases h2;rfl
section
variable {σ:Sg} {w0:World} {he:EN5.E w0} {s0:Sg} {hp : ∀ k,k<EN5.G -> ¬ False} {pk:Value->(Nat->V)->(Nat->Option Res)->Prop} {s:Sg} {w:World} {a:Act}
structure Ptrs (P:Program) (s0:Sg) (w:World) (p2 p3 p4:Value):Prop where
 p2:rel P s0 w (.bx (pn 0) 0) p2
 p3:rel P s0 w (.bx (pn 1) 0) p3
 p4:rel P s0 w (.bx (pn 2) 0) p4
end
end
section
open Go.RowKit
section
variable {X:Cx} {nn:Nat} {st:Vst nn} {o:Oper} {K:Vst nn->Prop} {ops:Array Oper} {l:List Oper} {KK:Vst nn->Prop} {d:Option Tmp}
attribute [local irreducible] wpList Calls Code.wp in
theorem zH7 {t xt:TypeId} {x:Operand} {cs:Array Value} {fs:Array Field} (ho:o.op = .typeAssert x xt t true) (hx:ev st x = .c (.iface t (.agg cs))) (hok:cs.toList.all okB=true) (hu:X.P.underlying t=some (.struct fs)) (hK:K (st.put o.dst (.tup [.agg (cs.toList.map .c),.c (.bool true)]))):OpOk X o st K:=by
 intro s w a hI N Q hP hN
 have h1:=hI.ev x
 rw [hx,rel] at h1
 unfold Oper.wp
 have hrun:(execOp a.eval o).run X.P w = .ok (.value (.tuple #[.agg cs,.bool true])) w:=by
  simp only [execOp,ho,h1.1]
  simp [Instr.typeAssert,run_underlying hu]
 rw [hrun,Oper.upon_value]
 refine hN _ _ _ _ (hI.put o.dst ?_) hK
 have hcs:relL X.P s w (cs.toList.map V.c) cs.toList:=by
  clear hK hN hrun h1
  generalize cs.toList=l at *
  induction l with
  |nil=>simp [relL]
  |cons y l ih =>
   rw [List.all_cons,Bool.and_eq_true] at hok
   rw [List.map_cons,relL]
   exact ⟨by rw [rel];exact ⟨rfl,zJ7 hok.1⟩,ih hok.2⟩
 rw [rel]
 refine ⟨#[.agg cs,.bool true],rfl,?_⟩
 show relL _ _ _ [_,_] [_,_]
 rw [relL,relL,relL,rel,rel]
 exact ⟨⟨cs,rfl,hcs⟩,⟨rfl,trivial⟩,trivial⟩
attribute [local irreducible] wpList Calls Code.wp AW AWo OpOk in
theorem s_assert2 {t xt:TypeId} {x:Operand} {cs:Array Value} {fs:Array Field} (hg:o.guard=none) (ho:o.op = .typeAssert x xt t true) (hd:o.dst=d) (hx:ev st x = .c (.iface t (.agg cs))) (hok:cs.toList.all okB=true) (hu:X.P.underlying t=some (.struct fs)) (hK:AWo X ops l (st.put d (.tup [.agg (cs.toList.map .c),.c (.bool true)])) KK):AWo X ops (o::l) st KK:=
 zAC hg (zH7 ho hx hok hu (by rw [hd];exact hK))
end
attribute [local irreducible] wpList Calls Code.wp AW AWo OpOk seqK zz z8 loopK endK AC zl Yld Sub
attribute [local irreducible] ACB ACX ACE absLexG YldG AWQ qK
def zCc (q:List V) (i e:Int):List (Nat × Res):=[(pn 0,.box 25 q),(pn 1,.box 3 [.c (.int .i64 i)]),(pn 2,.box 26 [.c (.int .i64 e)])]
noncomputable def HR_s (nn:Nat) (cs:List (Nat × V)) (q:List V) (i e:Int):Vst nn:=stS nn cs (zCc q i e)
noncomputable def HC0_s (v:Value) (q:List V) (i e:Int):Vst 22:=HR_s 22 [(0,.bx (pn 0) 0),(1,.bx (pn 1) 0),(2,.bx (pn 2) 0),(3,.c v)] q i e
def doneC_s {nn:Nat} (q:List V) (i e:Int):Exit->Vst nn->Prop
 |.normal,st=>rsOk st (zCc q i e)
 |.ret,st=>rsOk st (zCc q i e)
 |_,_=>False
noncomputable def zHS:Code:=match Tryz.f24.body with
 |some (.seq _ y)=>y
 |_ => .skip
section
variable {pas:Nat->Prop} {s0:Sg} {w0:World} {he:EN5.E w0} {hp : ∀ k,k<EN5.G -> ¬ pas k}
theorem zJd (q:List V) (i e:Int):AW ⟨Tryz.prog,pas,s0,w0,EN5,he,hp,fun _ _ _=>False,[]⟩ zHS (HC0_s .nilIface q i e) (doneC_s q i e):=by
 unfold zHS
 simp only [Tryz.f24]
 refine zIg ?_
 refine zA ?_
 apply zFC rfl
 . rfl
 . conv=>lhs;whnf;arg 2;whnf
 rotate_left 1
 . trivial
 apply s_isNil rfl rfl rfl
 . conv=>lhs;whnf
 . exact ifT
 refine zB ?_
 refine zH ?_
 repeat' (first
|apply aw_1
 conv=>whnf
 refine ⟨?_,trivial⟩)
 all_goals exact ⟨rfl,rfl,rfl,trivial⟩
theorem zJc (i e i' e':Int) (hok:(Lit.int .i64 i').wf=true/\(Lit.int .i64 e').wf=true):AW ⟨Tryz.prog,pas,s0,w0,EN5,he,hp,fun _ _ _=>False,[]⟩ zHS (HC0_s (.iface 60 (.agg #[.int .i64 i',.int .i64 e'])) zDoc i e) (doneC_s zDoc i' e'):=by
 unfold zHS
 simp only [Tryz.f24]
 refine zIg ?_
 refine zA ?_
 apply zFC rfl
 . rfl
 . conv=>lhs;whnf;arg 2;whnf
 rotate_left 1
 . trivial
 apply s_notNil rfl rfl rfl
 . conv=>lhs;whnf
 . exact ifT
 refine zB ?_
 refine zH ?_
 refine zZ (b:=true) rfl (fun _ => ?_) fun h=>by cases h
 refine zIg ?_
 refine zA ?_
 apply zFC rfl
 . rfl
 . conv=>lhs;whnf;arg 2;whnf
 rotate_left 1
 . trivial
 apply s_assert2 (fs:=Tryz.prog.fieldsOf 60) rfl rfl rfl
 . conv=>lhs;whnf
 . simp [okB,hok]
 . kernel_rfl
 have K:(!true)=true->False:=by decide
 repeat' (first
|apply zIh 8 ([(2,[4]),(4,[4])]) ([(5,[1000000]),(6,[1000001]),(7,[1000002])]) rfl (by kernel_rfl) (by kernel_rfl) (by kernel_rfl)
|apply zHK
|apply zHJ rfl
 . conv=>lhs;whnf
 . conv=>lhs;whnf;arg 2;whnf
|apply zCQ rfl rfl rfl
 . conv=>lhs;whnf
 . rfl
 . conv=>lhs;whnf;arg 1;whnf
 . conv=>lhs;whnf;arg 1;whnf
 . exact ⟨by kernel_rfl,by kernel_rfl⟩
 . rfl
|show inO _ _=true;rfl
|refine zA ?_
|refine zB ?_
|refine zH ?_
|apply aw_1
 conv=>whnf
 refine ⟨?_,trivial⟩
|apply s_1
 conv=>whnf;arg 1;arg 4;arg 3;whnf
 refine ⟨?_,?_⟩
|apply zS rfl rfl rfl
 . conv=>lhs;whnf
 . conv=>lhs;whnf;arg 1;whnf
 . conv=>lhs;whnf;arg 1;whnf
 . exact ⟨by kernel_rfl,by kernel_rfl⟩
 . rfl
|exact trivial)
 all_goals exact ⟨rfl,rfl,rfl,trivial⟩
end
section
variable {pas:Nat->Prop} {s0:Sg} {w0:World} {he:EN5.E w0} {hp : ∀ k,k<EN5.G -> ¬ pas k} {pk:Value->(Nat->V)->(Nat->Option Res)->Prop} {dfs:List Deferred} {st:Vst 26} {s:Sg} {w:World} {a:Act}
theorem rs_HR_s {nn:Nat} {st:Vst nn} {nn2:Nat} {cs:List (Nat × V)} {q:List V} {i e:Int} (h:rsOk st (zCc q i e)) : ∀ n ρ,(HR_s nn2 cs q i e).rs n=some ρ->st.rs n=some ρ:=fun n ρ hn=>by
 simp only [HR_s,stS] at hn
 split at hn
 . rename_i p hp
   have hm:=List.mem_of_find?_eq_some hp
   have he:=List.find?_some hp
   simp at he
   cases hn
   subst he
   exact zGw h p hm
 . cases hn
theorem back_in_s {pk':Value->(Nat->V)->(Nat->Option Res)->Prop} {dfs':List Deferred} {n2:Nat} {st':Vst n2} {s':Sg} {w':World} {a':Act} {q q':List V} {i e i' e':Int}
 (hI:Inv ⟨Tryz.prog,pas,s0,w0,EN5,he,hp,pk,dfs⟩ (HR_s 26 slotsP q i e) s w a) (hI':Inv ⟨Tryz.prog,pas,s0,w0,EN5,he,hp,pk',dfs'⟩ st' s' w' a') (hr:rsOk st' (zCc q' i' e')) :
 Inv ⟨Tryz.prog,pas,s0,w0,EN5,he,hp,pk,dfs⟩ (HR_s 26 slotsP q' i' e') s' w' a:=by
 have hk : ∀ k,s'.bx (pn k)=s.bx (pn k):=fun k=>(hI'.named k).trans (hI.named k).symm
 refine ⟨hI.sz,fun j hj => ?_,hI.df,hI'.fr,hI'.kp,hI'.nf,hI'.mem.sub (rs_HR_s hr),hI'.pe⟩
 have ht:=hI.tm j hj
 by_cases h2:j=2
 . subst h2;exact zJg (k:=pn 0) ht (hk 0)
 by_cases h3:j=3
 . subst h3;exact zJg (k:=pn 1) ht (hk 1)
 by_cases h4:j=4
 . subst h4;exact zJg (k:=pn 2) ht (hk 2)
 have e:(HR_s 26 slotsP q' i' e').tm j = .any:=by
  simp [HR_s,stS,slotsP,List.find?,beq_eq_false_iff_ne.2 (Ne.symm h2),beq_eq_false_iff_ne.2 (Ne.symm h3),beq_eq_false_iff_ne.2 (Ne.symm h4)]
 rw [e];simp [rel]
theorem zKP {q:List V} {i e:Int} (hI:Inv ⟨Tryz.prog,pas,s0,w0,EN5,he,hp,pk,dfs⟩ (HR_s 26 slotsP q i e) s w a) (v:Value) (hv:okV v) {a1:Act} (hz:a1.tmps.size=22) (hd:a1.defers=[]) (h0:a1.tmps.getD 0 undef=a.tmps.getD 2 undef) (h1:a1.tmps.getD 1 undef=a.tmps.getD 3 undef) (h2:a1.tmps.getD 2 undef=a.tmps.getD 4 undef) (h3:a1.tmps.getD 3 undef=v) :
 Inv ⟨Tryz.prog,pas,s0,w0,EN5,he,hp,fun _ _ _=>False,[]⟩ (HC0_s v q i e) s w a1:=by
 refine ⟨hz,fun j hj => ?_,hd,hI.fr,hI.kp,hI.nf,hI.mem.sub fun n ρ hn=>hn,hI.pe⟩
 by_cases j0:j=0
 . subst j0;rw [h0];exact hI.tm 2 (by omega)
 by_cases j1:j=1
 . subst j1;rw [h1];exact hI.tm 3 (by omega)
 by_cases j2:j=2
 . subst j2;rw [h2];exact hI.tm 4 (by omega)
 by_cases j3:j=3
 . subst j3;rw [h3];show rel _ _ _ (.c v) v;rw [rel];exact ⟨rfl,hv⟩
 have e:(HC0_s v q i e).tm j = .any:=by
  simp [HC0_s,HR_s,stS,List.find?,beq_eq_false_iff_ne.2 (Ne.symm j0),beq_eq_false_iff_ne.2 (Ne.symm j1),beq_eq_false_iff_ne.2 (Ne.symm j2),beq_eq_false_iff_ne.2 (Ne.symm j3)]
 rw [e];simp [rel]
theorem call_ret_s (q:List V) (i e:Int) (hI:Inv ⟨Tryz.prog,pas,s0,w0,EN5,he,hp,pk,dfs⟩ (HR_s 26 slotsP q i e) s w a) :
 CallsD Tryz.prog 24 #[a.tmps.getD 2 undef,a.tmps.getD 3 undef,a.tmps.getD 4 undef] .returning w fun en u' w'=>en = .returned (.tuple #[])/\u' = .returning /\ ∃ s',Inv ⟨Tryz.prog,pas,s0,w0,EN5,he,hp,pk,dfs⟩ (HR_s 26 slotsP q i e) s' w' a:=by
 refine callsD_of_wpS Tryz.func24 rfl fun c₀ cs hu => ?_
 apply wpS_seq
 apply wpS_region
 simp [wpOpsS,go_sem,recoverD,hu,Exit.thenS]
 refine wpS_of_wp (Code.wp_mono (fun en a' w' ⟨st',s',hI',hK⟩ => ?_) (zK1 (zJd (pas:=pas) (s0:=s0) (w0:=w0) (he:=he) (hp:=hp) q i e) (zKP hI .nilIface trivial (by simp) rfl (by simp) (by simp) (by simp) (by simp))))
 have fin:rsOk st' (zCc q i e)->a'.defers=[] /\ ∃ u',c₀::cs = { c₀ with mode:=u' }::cs /\ ∃ v,(results Tryz.f24 a'.tmps).run Tryz.prog w' = .ok v w'/\(Ending.returned v = .returned (.tuple #[])/\u' = .returning /\ ∃ s',Inv ⟨Tryz.prog,pas,s0,w0,EN5,he,hp,pk,dfs⟩ (HR_s 26 slotsP q i e) s' w' a):=fun hr =>
  ⟨hI'.df,.returning,by cases c₀;simp_all,.tuple #[],by simp [results,Tryz.f24],rfl,rfl,s',back_in_s hI hI' hr⟩
 rcases hK with hK | ⟨_,_,hK⟩
 . cases en
   case normal=>exact fin hK
   case ret=>exact fin hK
   all_goals exact hK.elim
 . exact hK.elim
theorem call_pan_s (i e i' e':Int) (hok:(Lit.int .i64 i').wf=true/\(Lit.int .i64 e').wf=true) (hI:Inv ⟨Tryz.prog,pas,s0,w0,EN5,he,hp,pk,dfs⟩ (HR_s 26 slotsP zDoc i e) s w a) :
 CallsD Tryz.prog 24 #[a.tmps.getD 2 undef,a.tmps.getD 3 undef,a.tmps.getD 4 undef] (.panicking [{ v:=.iface 60 (.agg #[.int .i64 i',.int .i64 e']),recovered:=false }]) w fun en u' w'=>en = .returned (.tuple #[])/\settle u' = .returning /\ ∃ s',Inv ⟨Tryz.prog,pas,s0,w0,EN5,he,hp,pk,dfs⟩ (HR_s 26 slotsP zDoc i' e') s' w' a:=by
 refine callsD_of_wpS Tryz.func24 rfl fun c₀ cs hu => ?_
 apply wpS_seq
 apply wpS_region
 simp [wpOpsS,go_sem,recoverD,hu,Exit.thenS]
 refine wpS_of_wp (Code.wp_mono (fun en a' w' ⟨st',s',hI',hK⟩ => ?_) (zK1 (zJc (pas:=pas) (s0:=s0) (w0:=w0) (he:=he) (hp:=hp) i e i' e' hok) (zKP hI (.iface 60 (.agg #[.int .i64 i',.int .i64 e'])) trivial (by simp) rfl (by simp) (by simp) (by simp) (by simp))))
 have fin:rsOk st' (zCc zDoc i' e')->a'.defers=[] /\ ∃ u',{ c₀ with mode:=.panicking [{ v:=.iface 60 (.agg #[.int .i64 i',.int .i64 e']),recovered:=true }] }::cs = { c₀ with mode:=u' }::cs /\ ∃ v,(results Tryz.f24 a'.tmps).run Tryz.prog w' = .ok v w'/\(Ending.returned v = .returned (.tuple #[])/\settle u' = .returning /\ ∃ s',Inv ⟨Tryz.prog,pas,s0,w0,EN5,he,hp,pk,dfs⟩ (HR_s 26 slotsP zDoc i' e') s' w' a):=fun hr =>
  ⟨hI'.df,_,rfl,.tuple #[],by simp [results,Tryz.f24],rfl,rfl,s',back_in_s hI hI' hr⟩
 rcases hK with hK | ⟨_,_,hK⟩
 . cases en
   case normal=>exact fin hK
   case ret=>exact fin hK
   all_goals exact hK.elim
 . exact hK.elim
end
def zFg (p q r:Value):Deferred:={ target:=.fn (.func 24) #[p,q,r],args:=#[] }
section
variable {σ:Sg} {w0:World} {he:EN5.E w0} {s0:Sg} {hp : ∀ k,k<EN5.G -> ¬ False} {pk:Value->(Nat->V)->(Nat->Option Res)->Prop} {s:Sg} {w:World} {a:Act}
theorem zJJ {p2 p3 p4:Value} {w1:World} {r:V} (l1:List D) (i e:Int) (hF:s0.F=σ.F) (hps:Ptrs Tryz.prog s0 w1 p2 p3 p4) (hI:Inv ⟨Tryz.prog,fun _=>False,s0,w0,EN5,he,hp,pk,[zFg p2 p3 p4]⟩ (HR_s 26 slotsP [.sl 45 l1] i e) s w a)
 (hr:r = .tup [.agg [.sl 45 l1],.c (.int .i64 i),.c (.int .i64 e)]):Leaves Tryz.prog Tryz.f10 a.tmps (acR Tryz.prog σ w0 r) [zFg p2 p3 p4] .returning w:=by
 have e2:p2=a.tmps.getD 2 undef:=zEM hps.p2 (hI.tm 2 (by omega)) (hI.named 0)
 have e3:p3=a.tmps.getD 3 undef:=zEM hps.p3 (hI.tm 3 (by omega)) (hI.named 1)
 have e4:p4=a.tmps.getD 4 undef:=zEM hps.p4 (hI.tm 4 (by omega)) (hI.named 2)
 have hc:=call_ret_s _ i e hI
 rw [<- e2,<- e3,<- e4] at hc
 refine leaves_cons (f:=24) (args:=#[p2,p3,p4]) (by simp) (by simp [go_sem]) (hc.mono ?_)
 rintro en u' w' ⟨rfl,rfl,s',hI'⟩
 exact ac_fin hI' rfl rfl hF rfl ⟨_,_,_,rfl,rfl,rfl,hr⟩ (by rw [hr];rfl)
theorem zJK {p2 p3 p4:Value} {w1:World} (i e i' e':Int) (hok:(Lit.int .i64 i').wf=true/\(Lit.int .i64 e').wf=true) (hF:s0.F=σ.F) (hps:Ptrs Tryz.prog s0 w1 p2 p3 p4) (hI:Inv ⟨Tryz.prog,fun _=>False,s0,w0,EN5,he,hp,pk,[zFg p2 p3 p4]⟩ (HR_s 26 slotsP zDoc i e) s w a) :
 Leaves Tryz.prog Tryz.f10 a.tmps (acR Tryz.prog σ w0 (.tup [.agg zDoc,.c (.int .i64 i'),.c (.int .i64 e')])) [zFg p2 p3 p4] (.panicking [{ v:=.iface 60 (.agg #[.int .i64 i',.int .i64 e']),recovered:=false }]) w:=by
 have e2:p2=a.tmps.getD 2 undef:=zEM hps.p2 (hI.tm 2 (by omega)) (hI.named 0)
 have e3:p3=a.tmps.getD 3 undef:=zEM hps.p3 (hI.tm 3 (by omega)) (hI.named 1)
 have e4:p4=a.tmps.getD 4 undef:=zEM hps.p4 (hI.tm 4 (by omega)) (hI.named 2)
 have hc:=call_pan_s i e i' e' hok hI
 rw [<- e2,<- e3,<- e4] at hc
 refine leaves_cons (f:=24) (args:=#[p2,p3,p4]) (by simp) (by simp [go_sem]) (hc.mono ?_)
 rintro en u' w' ⟨rfl,hs,s',hI'⟩
 show Leaves _ _ _ _ [] (settle u') w'
 rw [hs]
 exact ac_fin hI' rfl rfl hF rfl ⟨_,_,_,rfl,rfl,rfl,rfl⟩ rfl
end
noncomputable abbrev zE6 (ts:List Tok):V:=.sl 89 (ts.map tokD)
theorem etaPz_s (ts:List Tok):[V.sl 89 (ts.map tokD),.c (.int .i64 0)]=clS ts ⟨ts,false,0⟩:=by
 unfold clS
 rw [Nat.sub_self];rfl
noncomputable def HP2_s (ts:List Tok):Vst 26:=stS 26 [(2,.bx 2 0),(3,.bx 3 0),(4,.bx 4 0),(5,zE6 ts)] [(2,.box 25 zDoc),(3,.box 3 [.c (.int .i64 0)]),(4,.box 26 [.c (.int .i64 0)])]
noncomputable def HP3_s (ts:List Tok):Vst 26:=HR_s 26 [(2,.bx (pn 0) 0),(3,.bx (pn 1) 0),(4,.bx (pn 2) 0),(5,zE6 ts)] zDoc 0 0
section
variable {σ:Sg} {w0:World} {he:EN5.E w0}
theorem zJB (s:List UInt8) (i:Nat) (e:Int) (he0:e≠0) (hsc:AC EN5 Tryz.prog 23 [.c (.string (bs s))] (.tup [.c (.slice none 0 0),.c (.int .i64 (i:Int)),.c (.int .i64 e)])) :
 AC EN5 Tryz.prog 10 [.c (.string (bs s))] (.tup [.agg zDoc,.c (.int .i64 (i:Int)),.c (.int .i64 e)]):=by
 refine ac_by fun σ w us hus hfx he => ?_
 refine calls_of_wp_defers Tryz.func10 rfl ?_
 have hI:=zFQ (nn:=26) (fn:=Tryz.f10) he rfl hus hfx
 have hP : ∀ Q,PQ (cx EN5 Tryz.prog σ w he) 26 Q:=fun Q _ _ _ _ _ _ h=>h.elim
 refine zJh ?_ hI
 clear hI
 refine zCW (hP _) ?_
 repeat' (first
|refine zA ?_
|refine zB ?_
|apply s_1
 conv=>whnf;arg 1;arg 4;arg 3;whnf
 refine ⟨?_,?_⟩
|exact trivial)
 refine k_q ?_
 refine zCW (hP _) ?_
 repeat' (first
|refine zA ?_
|refine zB ?_
|apply s_1
 conv=>whnf;arg 1;arg 4;arg 3;whnf
 refine ⟨?_,?_⟩
|apply ze rfl
 . conv=>lhs;whnf
 . conv=>lhs;whnf
 . first | exact hsc
|exact trivial)
 refine k_q ?_
 refine zCW (hP _) ?_
 repeat' (first
|refine zA ?_
|refine zB ?_
|refine zH ?_
|apply aw_1
 conv=>whnf
 refine ⟨?_,trivial⟩
|apply s_1
 conv=>whnf;arg 1;arg 4;arg 3;whnf
 refine ⟨?_,?_⟩
|apply zS rfl rfl rfl
 . conv=>lhs;whnf
 . conv=>lhs;whnf;arg 1;whnf
 . conv=>lhs;whnf;arg 1;whnf
 . exact ⟨by kernel_rfl,by kernel_rfl⟩
 . rfl
|refine zZ (by conv=>lhs;whnf) ?_ ?_<;>intro hb
|exact trivial)
 . refine k_qr fun s' w' a' hI' => ?_
   show Leaves _ _ _ _ a'.defers .returning w'
   rw [hI'.df]
   exact ac_fin hI' rfl rfl rfl rfl ⟨_,_,_,rfl,rfl,rfl,rfl⟩ rfl
 . exact absurd hb (by simp [he0])
noncomputable def restP_s:Code:=match Tryz.f10.body with
 |some (.seq _ (.seq _ (.seq _ (.seq _ y))))=>y
 |_ => .skip
def endP_s (d:List D):Exit->Vst 26->Prop
 |.ret,st=>tmOk st slotsP/\rsOk st (zCc [.sl 45 d] 0 0)
 |_,_=>False
def pkP_s (x:Nat × Int) (pv:Value) (tm:Nat->V) (rs:Nat->Option Res):Prop:=
 pv=zE9 x/\tmOk (⟨tm,rs⟩:Vst 26) slotsP/\rsOk (⟨tm,rs⟩:Vst 26) (zCc zDoc 0 0)
theorem rest_ok_s {pas:Nat->Prop} {s0:Sg} {hp : ∀ k,k<EN5.G -> ¬ pas k} {dfs:List Deferred} (ts:List Tok) (ops:List D) (x':PS)
 (hdoc:ACE EN5 Tryz.prog 25 [.bx (pn 0) 0] [boxS ts ⟨ts,false,0⟩] (outS ts (fun l=>VDc (zEC l)) (.ok (ops,x')))) :
 AW ⟨Tryz.prog,pas,s0,w0,EN5,he,hp,fun _ _ _=>False,dfs⟩ restP_s (HP3_s ts) (endP_s ops):=by
 unfold restP_s
 simp only [Tryz.f10]
 repeat' (first
|refine zA ?_
|refine zB ?_
|refine zH ?_
|apply aw_1
 conv=>whnf
 refine ⟨?_,trivial⟩
|apply s_1
 conv=>whnf;arg 1;arg 4;arg 3;whnf
 refine ⟨?_,?_⟩
|apply zAL rfl rfl rfl rfl
 . conv=>lhs;whnf;arg 1;whnf
 . rfl
|exact trivial)
 apply s_pr (clS ts) (zP ts) rfl
 . rfl
 . conv=>lhs;whnf
 . rfl
 . conv=>lhs;whnf;arg 1;whnf
 . exact etaPz_s _
 . exact hdoc
 . exact fun _=>rfl
 . intro _ _;unfold VDc;simp only [renL,renV,ren_cells]
 . intro ee hq;cases hq
 intro aa xx hq
 cases hq
 repeat' (first
|refine zB ?_
|refine zH ?_
|apply aw_1
 conv=>whnf
 refine ⟨?_,trivial⟩
|apply zS rfl rfl rfl
 . conv=>lhs;whnf
 . conv=>lhs;whnf;arg 1;whnf
 . conv=>lhs;whnf;arg 1;whnf
 . exact ⟨by kernel_rfl,by kernel_rfl⟩
 . rfl)
 exact ⟨⟨rfl,rfl,rfl,trivial⟩,rfl,rfl,rfl,trivial⟩
theorem rest_pan_s {pas:Nat->Prop} {s0:Sg} {hp : ∀ k,k<EN5.G -> ¬ pas k} {dfs:List Deferred} (ts:List Tok) (x:Nat × Int)
 (hdoc:ACE EN5 Tryz.prog 25 [.bx (pn 0) 0] [boxS ts ⟨ts,false,0⟩] (outS ts (fun l=>VDc (zEC l)) (.error x))) :
 AW ⟨Tryz.prog,pas,s0,w0,EN5,he,hp,pkP_s x,dfs⟩ restP_s (HP3_s ts) (fun _ _=>False):=by
 unfold restP_s
 simp only [Tryz.f10]
 repeat' (first
|refine zA ?_
|refine zB ?_
|refine zH ?_
|apply aw_1
 conv=>whnf
 refine ⟨?_,trivial⟩
|apply s_1
 conv=>whnf;arg 1;arg 4;arg 3;whnf
 refine ⟨?_,?_⟩
|apply zAL rfl rfl rfl rfl
 . conv=>lhs;whnf;arg 1;whnf
 . rfl
|exact trivial)
 apply s_pr (clS ts) (zP ts) rfl
 . rfl
 . conv=>lhs;whnf
 . rfl
 . conv=>lhs;whnf;arg 1;whnf
 . exact etaPz_s _
 . exact hdoc
 . exact fun _=>rfl
 . intro _ _;unfold VDc;simp only [renL,renV,ren_cells]
 . intro ee hq
   cases hq
   exact ⟨rfl,⟨rfl,rfl,rfl,trivial⟩,rfl,rfl,rfl,trivial⟩
 intro aa xx hq
 cases hq
noncomputable def code4_s:Code:=match Tryz.f10.body with
 |some (.seq _ (.seq _ (.seq _ y)))=>y
 |_ => .skip
theorem zEb {ts:List Tok} {Q:Exit->Act->World->Prop} {s:Sg} {w:World} {a:Act} (hI:Inv (cx EN5 Tryz.prog σ w0 he) (HP2_s ts) s w a)
 (h : ∀ (s0:Sg) (p2 p3 p4:Value) (a':Act),s0.F=σ.F->Ptrs Tryz.prog s0 w p2 p3 p4->(∀ pk,∃ s',Inv ⟨Tryz.prog,fun _=>False,s0,w0,EN5,he,fun _ _ h=>h,pk,[zFg p2 p3 p4]⟩ (HP3_s ts) s' w a')->restP_s.wp Tryz.prog Q a' w):code4_s.wp Tryz.prog Q a w:=by
 unfold code4_s
 simp only [Tryz.f10]
 unfold restP_s at h
 simp only [Tryz.f10] at h
 refine wp_seq (wp_region_lit ?_)
 refine wpList_plain rfl fun K' hK' => ?_
 unfold Oper.wp
 have hrun : ∀ (ty:TypeId) (po:String),(execOp a.eval { dst:=some 20,op:=Op.makeFunc (Fn.func 24) #[] #[Operand.tmp 2,Operand.tmp 3,Operand.tmp 4],type:=ty,pos:=po,after:=#[],guard:=none }).run Tryz.prog w = .ok (.value (.func (.func 24) #[] #[a.tmps.getD 2 undef,a.tmps.getD 3 undef,a.tmps.getD 4 undef])) w:=fun ty po=>by simp [execOp,Instr.makeFunc,Act.eval]
 rw [hrun]
 rw [Oper.upon_value]
 refine hK' _ _ ?_
 refine wpList_plain rfl fun K2 hK2 => ?_
 unfold Oper.wp
 have hz:20<a.tmps.size:=by rw [hI.sz];omega
 have hev:(a.put (some 20) (.func (.func 24) #[] #[a.tmps.getD 2 undef,a.tmps.getD 3 undef,a.tmps.getD 4 undef])).eval (.tmp 20) = .func (.func 24) #[] #[a.tmps.getD 2 undef,a.tmps.getD 3 undef,a.tmps.getD 4 undef]:=by
  simp [Act.put,Act.eval,hz]
 simp only [execOp,resolve,hev,Deferred.ofValue,List.map_toArray,List.map_nil,Sem.run_bind,Sem.run_pure,Result.andThen_ok]
 rw [Oper.upon_defer]
 refine hK2 _ _ (wpList_nil ?_)
 have h20:=hI.put (some 20) (v:=.any) (u:=.func (.func 24) #[] #[a.tmps.getD 2 undef,a.tmps.getD 3 undef,a.tmps.getD 4 undef]) (by simp [rel])
 have hd:a.defers=[]:=hI.df
 refine h { s.hand [2,3,4] with F:=σ.F } (a.tmps.getD 2 undef) (a.tmps.getD 3 undef) (a.tmps.getD 4 undef) _ rfl ⟨?_,?_,?_⟩ (fun pk => ?_)
 . exact bx_ren (k:=2) (hI.tm 2 (by omega)) (zCP s [2,3,4] (i:=0) rfl).1
 . exact bx_ren (k:=3) (hI.tm 3 (by omega)) (zCP s [2,3,4] (i:=1) rfl).1
 . exact bx_ren (k:=4) (hI.tm 4 (by omega)) (zCP s [2,3,4] (i:=2) rfl).1
 . refine zIx (Sub.live (cs:=[(2,.bx (pn 0) 0),(3,.bx (pn 1) 0),(4,.bx (pn 2) 0),(5,zE6 ts)]) (R:=zCc zDoc 0 0) ?_ ?_) (Inv.handed h20 [2,3,4] (by decide) (ρs:=[.box 25 zDoc,.box 3 [.c (.int .i64 0)],.box 26 [.c (.int .i64 0)]]) rfl pk [zFg (a.tmps.getD 2 undef) (a.tmps.getD 3 undef) (a.tmps.getD 4 undef)] rfl ?_)
   . exact ⟨rfl,rfl,rfl,rfl,trivial⟩
   . exact ⟨rfl,rfl,rfl,trivial⟩
   . show zFg _ _ _::a.defers=_
     rw [hd]
theorem zH0 (s:List UInt8) (ts:List Tok) (hsc:AC EN5 Tryz.prog 23 [.c (.string (bs s))] (.tup [zE6 ts,.c (.int .i64 0),.c (.int .i64 0)])) (ops:List D) (x':PS)
 (hdoc:ACE EN5 Tryz.prog 25 [.bx (pn 0) 0] [boxS ts ⟨ts,false,0⟩] (outS ts (fun l=>VDc (zEC l)) (.ok (ops,x')))) :
 AC EN5 Tryz.prog 10 [.c (.string (bs s))] (.tup [.agg [.sl 45 ops],.c (.int .i64 0),.c (.int .i64 0)]):=by
 refine ac_by fun σ w us hus hfx he => ?_
 refine calls_of_wp_defers Tryz.func10 rfl ?_
 have hI:=zFQ (nn:=26) (fn:=Tryz.f10) he rfl hus hfx
 have hP : ∀ Q,PQ (cx EN5 Tryz.prog σ w he) 26 Q:=fun Q _ _ _ _ _ _ h=>h.elim
 refine zJh ?_ hI
 clear hI
 refine zCW (hP _) ?_
 repeat' (first
|refine zA ?_
|refine zB ?_
|apply s_1
 conv=>whnf;arg 1;arg 4;arg 3;whnf
 refine ⟨?_,?_⟩
|exact trivial)
 refine k_q ?_
 refine zCW (hP _) ?_
 repeat' (first
|refine zA ?_
|refine zB ?_
|apply s_1
 conv=>whnf;arg 1;arg 4;arg 3;whnf
 refine ⟨?_,?_⟩
|apply ze rfl
 . conv=>lhs;whnf
 . conv=>lhs;whnf
 . first | exact hsc
|exact trivial)
 refine k_q ?_
 refine zCW (hP _) ?_
 repeat' (first
|refine zA ?_
|refine zB ?_
|refine zH ?_
|apply aw_1
 conv=>whnf
 refine ⟨?_,trivial⟩
|apply s_1
 conv=>whnf;arg 1;arg 4;arg 3;whnf
 refine ⟨?_,?_⟩
|exact trivial)
 refine k_q (awq_sub (st':=HP2_s ts) (Sub.live ⟨rfl,rfl,rfl,rfl,trivial⟩ ⟨rfl,rfl,rfl,trivial⟩) (awq_by fun s1 w1 a1 hI1 => ?_))
 refine zEb hI1 fun s0 p2 p3 p4 a' hF hps hpk => ?_
 obtain ⟨s2,hI2⟩:=hpk fun _ _ _=>False
 refine Code.wp_mono (fun en a3 w3 ⟨st3,s3,hI3,hK⟩ => ?_) (zK1 (rest_ok_s ts ops x' hdoc) hI2)
 rcases hK with hK | ⟨_,_,hK⟩
 . cases en
   case ret =>
    obtain ⟨s4,hI4⟩:=zIx (Sub.live (cs:=slotsP) (R:=zCc [.sl 45 ops] 0 0) hK.1 hK.2) hI3
    show Leaves _ _ _ _ a3.defers .returning w3
    rw [hI3.df]
    exact zJJ ops 0 0 hF hps hI4 rfl
   all_goals exact hK.elim
 . exact hK.elim
theorem zJA (s:List UInt8) (ts:List Tok) (hsc:AC EN5 Tryz.prog 23 [.c (.string (bs s))] (.tup [zE6 ts,.c (.int .i64 0),.c (.int .i64 0)])) (x:Nat × Int) (hok:(Lit.int .i64 (x.1:Int)).wf=true/\(Lit.int .i64 x.2).wf=true)
 (hdoc:ACE EN5 Tryz.prog 25 [.bx (pn 0) 0] [boxS ts ⟨ts,false,0⟩] (outS ts (fun l=>VDc (zEC l)) (.error x))) :
 AC EN5 Tryz.prog 10 [.c (.string (bs s))] (.tup [.agg zDoc,.c (.int .i64 (x.1:Int)),.c (.int .i64 x.2)]):=by
 refine ac_by fun σ w us hus hfx he => ?_
 refine calls_of_wp_defers Tryz.func10 rfl ?_
 have hI:=zFQ (nn:=26) (fn:=Tryz.f10) he rfl hus hfx
 have hP : ∀ Q,PQ (cx EN5 Tryz.prog σ w he) 26 Q:=fun Q _ _ _ _ _ _ h=>h.elim
 refine zJh ?_ hI
 clear hI
 refine zCW (hP _) ?_
 repeat' (first
|refine zA ?_
|refine zB ?_
|apply s_1
 conv=>whnf;arg 1;arg 4;arg 3;whnf
 refine ⟨?_,?_⟩
|exact trivial)
 refine k_q ?_
 refine zCW (hP _) ?_
 repeat' (first
|refine zA ?_
|refine zB ?_
|apply s_1
 conv=>whnf;arg 1;arg 4;arg 3;whnf
 refine ⟨?_,?_⟩
|apply ze rfl
 . conv=>lhs;whnf
 . conv=>lhs;whnf
 . first | exact hsc
|exact trivial)
 refine k_q ?_
 refine zCW (hP _) ?_
 repeat' (first
|refine zA ?_
|refine zB ?_
|refine zH ?_
|apply aw_1
 conv=>whnf
 refine ⟨?_,trivial⟩
|apply s_1
 conv=>whnf;arg 1;arg 4;arg 3;whnf
 refine ⟨?_,?_⟩
|exact trivial)
 refine k_q (awq_sub (st':=HP2_s ts) (Sub.live ⟨rfl,rfl,rfl,rfl,trivial⟩ ⟨rfl,rfl,rfl,trivial⟩) (awq_by fun s1 w1 a1 hI1 => ?_))
 refine zEb hI1 fun s0 p2 p3 p4 a' hF hps hpk => ?_
 obtain ⟨s2,hI2⟩:=hpk (pkP_s x)
 refine Code.wp_mono (fun en a3 w3 ⟨st3,s3,hI3,hK⟩ => ?_) (zK1 (rest_pan_s ts x hdoc) hI2)
 rcases hK with hK | ⟨pv,rfl,hK⟩
 . exact hK.elim
 . obtain ⟨rfl,h1,h2⟩:=hK
   obtain ⟨s4,hI4⟩:=zIx (Sub.live (cs:=slotsP) (R:=zCc zDoc 0 0) h1 h2) hI3
   show Leaves _ _ _ _ a3.defers (.panicking _) w3
   rw [hI3.df]
   exact zJK 0 0 x.1 x.2 hok hF hps hI4
end
end
section
section
variable {al:List Tok}
theorem zG8 {el:PS->PR D} (hv : ∀ y,Sx al y->Mz (el y)) (hl : ∀ {y z a},Sx al y->el y = .ok (a,z)->Sx al z/\z.ts.length<y.ts.length) (s:List UInt8) (most:Nat) : ∀ (f:Nat) (acc:List D) (x:PS),Sx al x->x.ts.length<f->Mz (manyF el s most f acc x)
 |0,_,_,_,h=>by omega
 |f+1,acc,x,hx,h=>by
  unfold manyF
  exact .ite (fun _ => .okk _) fun _ => .ite (fun _ => .err (by decide)) fun _ => .then (hv x hx) fun _ y hq=>zG8 hv hl s most f _ y (hl hx hq).1 (by have:=(hl hx hq).2;omega)
theorem in_mz (x:PS) (h:Sx al x):Mz (inQ x):=by
 unfold inQ
 refine .then (zB4 x) fun n y h1 => .then (zDT _ y) fun u z h2 => .then (typ_mz z) fun t v h3 => .then (.ite (fun hs => ?_) fun _ => .okk _) fun d o h4 => .then (zHP o ?_) fun _ _ _ => .okk _
 . have a:=(((h.name h1).1.take h2).1.typ h3).1
   exact .then (zJm _ (a.sg hs).1.en) fun _ _ _ => .okk _
 . have a:=(((h.name h1).1.take h2).1.typ h3).1
   by_cases hs:isS v [61]=true
   . rw [if_pos hs] at h4
     obtain ⟨d',z',h5,h6⟩:=zAm h4
     cases h6
     exact ((a.sg hs).1.whole h5).1.en
   . rw [if_neg hs] at h4;cases h4;exact a.en
theorem ins_mz (s:List UInt8) (x:PS) (h:Sx al x):Mz (insQ s x):=zG8 in_mz (fun hy hq=>hy.inp hq) _ _ _ _ _ h (Nat.lt_succ_self _)
theorem fd_mz (x:PS) (h:Sx al x):Mz (fdQ x):=by
 unfold fdQ
 refine .then (zB4 x) fun n y h1 => .then (.ite (fun hs=>ins_mz _ _ ((h.name h1).1.sg hs).1) fun _ => .okk _) fun aa z h2 => .then (zDT _ z) fun u v h3 => .then (typ_mz v) fun t o h4 => .then (zHP o ?_) fun _ _ _ => .okk _
 have a:=(h.name h1).1
 have hz:Sx al z:=by
  by_cases hs:isS y [40]=true
  . rw [if_pos hs] at h2;exact ((a.sg hs).1.ins h2).1
  . rw [if_neg hs] at h2;cases h2;exact a
 exact ((hz.take h3).1.typ h4).1.en
theorem mb_mz (x:PS) (h:Sx al x):Mz (mbQ x):=.then (zB4 x) fun _ y h1 => .then (zHP y (h.name h1).1.en) fun _ _ _ => .okk _
theorem zID (s:List UInt8) : ∀ (f:Nat) (acc:List D) (x:PS),Sx al x->x.ts.length<f->Mz (namesF s f acc x)
 |0,_,_,_,h=>by omega
 |f+1,acc,x,hx,h=>by
  unfold namesF
  refine .ite (fun _ => .err (by decide)) fun _ => .then (zB4 x) fun n y h1 => .ite (fun hs => ?_) fun _ => .okk _
  have a:=hx.name h1
  have b:=a.1.sg hs
  exact zID s f _ _ b.1 (by omega)
theorem zKB (s:List UInt8) (x:PS) (h:Sx al x):Mz (zBl s x):=zID s _ _ x h (Nat.lt_succ_self _)
theorem faces_mz (k:Int) (x:PS) (h:Sx al x):Mz (zBT k x):=.ite (fun hs=>zKB _ _ (h.nx (by rw [hs.2.1];decide)).1) fun _ => .okk _
theorem body_mz (k:Int) (x:PS) (h:Sx al x):Mz (bodyQ k x):=by
 unfold bodyQ
 refine .ite (fun _ => .then (zDT _ x) fun _ y h1 => .then (zKB _ y (h.take h1).1) fun _ _ _ => .okk _) fun _ => .then (zDT _ x) fun _ y h1 => ?_
 have a:=(h.take h1).1
 exact .ite (fun _ => .then (ins_mz _ y a) fun _ _ _ => .okk _) fun _ => .ite (fun _ => .then (zG8 mb_mz (fun hy hq=>hy.mb hq) _ _ _ _ y a (Nat.lt_succ_self _)) fun _ _ _ => .okk _) fun _ => .then (zG8 fd_mz (fun hy hq=>hy.fd hq) _ _ _ _ y a (Nat.lt_succ_self _)) fun _ _ _ => .okk _
theorem sdef_mz (k:Int) (x:PS) (h:Sx al x):Mz (sdefQ k x):=
 .then (zB4 x) fun _ y h1 => .then (faces_mz k y (h.name h1).1) fun _ z h2 => .then (zHP z ((h.name h1).1.faces h2).1.en) fun _ u h3 => .then (body_mz k u (((h.name h1).1.faces h2).1.dirs h3).1) fun _ _ _ => .okk _
theorem zJx : ∀ (f:Nat) (acc:List D) (x:PS),Sx al x->x.ts.length<f->Mz (sdocF f acc x)
 |0,_,_,_,h=>by omega
 |f+1,acc,x,hx,h=>by
  unfold sdocF
  refine .ite (fun _ => .okk _) fun _ => .ite (fun _ => .err (by decide)) fun hw => .ite (fun _ => .err (by decide)) fun _ => ?_
  have hk:(hdT x).k=2:=by
   by_cases h2:(hdT x).k=2
   . exact h2
   . exact (hw fun hh=>h2 hh.1).elim
  have a:=hx.nx (by rw [hk];decide)
  exact .then (sdef_mz _ _ a.1) fun d y hq=>zJx f _ y (a.1.sdef hq).1 (by have:=(a.1.sdef hq).2;omega)
end
theorem sdoc_mz {ts:List Tok} (h:En ⟨ts,true,0⟩):Mz (sdocQ ts):=zJx _ _ _ (Sx.start h) (Nat.lt_succ_self _)
theorem sdoc_err {ts:List Tok} {N i:Nat} {e:Int} (h : ∀ t∈ts,t.i<=N) (hq:sdocQ ts = .error (i,e)):i<=N:=by
 have h1:=sdoc_rr (inT_tr N) (all2_in h)
 rw [hq] at h1
 exact h1.1.2
end
section
open Go.RowKit
set_option linter.unusedSectionVars false
attribute [local irreducible] wpList Calls Code.wp AW AWo OpOk seqK zz z8 loopK endK AC zl Yld Sub
attribute [local irreducible] ACB ACX ACE absLexG YldG
theorem zF9 : ∀ (f:Nat) (l:List UInt8) (i:Nat) (ts:List Tok),scanF f l i = .ok ts->ts.length<=l.length+1
 |0,_,_,_,h=>by cases h
 |f+1,l,i,ts,h=>by
  unfold scanF at h
  split at h
  . cases h
    simp
  . rename_i c r hl
    have hlen:(c::r).length=l.length-skipM false l:=by rw [<- hl,List.length_drop]
    have hsk:=zA2 false l
    split at h
    . cases h
    . rename_i t n ht
      have hn:=zG0 ht
      split at h
      . cases h
      . rename_i ts' hts
        cases h
        have:=zF9 f _ _ _ hts
        rw [List.length_drop] at this
        simp only [List.length_cons] at *
        omega
theorem scan_cntS {l:List UInt8} {ts:List Tok} (h:scanT l = .ok ts):ts.length<=65537:=by
 unfold scanT at h
 split at h
 . cases h
 . have:=zF9 _ _ _ _ h
   omega
noncomputable def parseV:Except (Nat × Int) D->V
 |.ok q => .tup [.agg [.sl 45 (q.f 0).l],.c (.int .i64 0),.c (.int .i64 0)]
 |.error x => .tup [.agg zDoc,.c (.int .i64 (x.1:Int)),.c (.int .i64 x.2)]
theorem i64_wfS {n:Int} (h : -9000000000<=n/\n<=9000000000):(Lit.int .i64 n).wf=true:=by
 rw [zCg]
 simp [IntKind.min,IntKind.max,IntKind.signed,IntKind.bits];omega
theorem parseD_ac (s:List UInt8) (hs:s.length<=4000000000):AC EN5 Tryz.prog 10 [.c (.string (bs s))] (parseV (parseD s)):=by
 have hsc:=scan_ac s hs
 unfold parseD
 cases h:scanT s with
 |error x =>
  rw [h] at hsc
  exact zJB s x.1 x.2 (scan_err (i:=x.1) h) hsc
 |ok ts =>
  rw [h] at hsc
  have hen:=scan_en h
  have hkd:=(scan_kd h).1
  have hd:=p_doc (al:=ts) (by have:=scan_cntS h;omega) hkd (Sx.start hen.1) (ts.length+1) (Nat.lt_succ_self _)
  have hd:ACE EN5 Tryz.prog 25 [.bx (pn 0) 0] [boxS ts ⟨ts,false,0⟩] (outS ts (fun l=>VDc (zEC l)) (sdocQ ts)):=hd
  dsimp only
  cases hq:sdocQ ts with
  |error x =>
   rw [hq] at hd
   have h1:=sdoc_mz hen.1 x.1 x.2 hq
   have h2:=sdoc_err hen.2 (i:=x.1) (e:=x.2) hq
   have hl:s.length<=65536:=by
    unfold scanT at h
    split at h
    . cases h
    . omega
   exact zJA s ts hsc x ⟨i64_wfS (by omega),i64_wfS (by omega)⟩ hd
  |ok r =>
   obtain ⟨l,x'⟩:=r
   rw [hq] at hd
   exact zH0 s ts hsc l x' hd
end
end Go.Proofs.YthppafnlnnpciaaGreatDoor
