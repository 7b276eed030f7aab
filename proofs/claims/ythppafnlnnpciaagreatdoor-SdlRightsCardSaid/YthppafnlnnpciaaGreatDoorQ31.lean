import Derived.Defers
import Derived.Recover
import Derived.WideLaws
import Derived.Test.YthppafnlnnpciaaGreatDoorRows
import Derived.Test.YthppafnlnnpciaaGreatDoorQ30
set_option maxHeartbeats 8000000
set_option maxRecDepth 100000
set_option linter.unusedVariables false
set_option linter.unusedSimpArgs false
namespace Go.Proofs.YthppafnlnnpciaaGreatDoor
section
open Go.RowKit
attribute [local irreducible] wpList Calls Code.wp
section
variable {X:Cx} {nn:Nat} {st:Vst nn} {s:Sg} {w:World} {a:Act}
def Sg.hand (s:Sg) (ns:List Nat):Sg:={ F:=s.F,bx:=fun n=>(φout ns n).bind s.bx,tb:=fun n=>(φout ns n).bind s.tb,tk:=fun n=>match φout ns n with | some m=>s.tk m | none=>(.tuple #[],0) }
theorem zCD (s:Sg) (ns:List Nat) {i q:Nat} (hq:ns[i]? = some q):(s.hand ns).bx (pn i)=s.bx q/\(s.hand ns).tb (pn i)=s.tb q/\(s.hand ns).tk (pn i)=s.tk q:=by
 have e:φout ns (pn i)=some q:=(φout_pn ns i).trans hq
 refine ⟨?_,?_,?_⟩
 . show (φout ns (pn i)).bind s.bx=_;rw [e];rfl
 . show (φout ns (pn i)).bind s.tb=_;rw [e];rfl
 . show (match φout ns (pn i) with | some m=>s.tk m | none=>(.tuple #[],0))=_;rw [e]
theorem Inv.handed (hI:Inv X st s w a) (ns:List Nat) (hnd:ns.Nodup) {ρs:List Res} (hρ:ns.map st.rs=ρs.map some) (pk:Value->(Nat->V)->(Nat->Option Res)->Prop) (ds:List Deferred) {a':Act} (ht:a'.tmps=a.tmps) (hd:a'.defers=ds) :
 Inv (nn:=nn) ⟨X.P,X.pas,{ s.hand ns with F:=X.s0.F },X.w0,X.e,X.he,X.hp,pk,ds⟩ ⟨fun i=>renV (φin ns) (st.tm i),rsOf (ρs.map (renR (φin ns)))⟩ (s.hand ns) w a':=by
 have hφ1 : ∀ n m,φin ns n=some m->(s.hand ns).bx m=s.bx n/\(s.hand ns).tk m=s.tk n:=fun n m hm=>by
  obtain ⟨i,hi,rfl⟩:=Option.map_eq_some_iff.1 hm
  exact ⟨(zCD s ns (zBE hi)).1,(zCD s ns (zBE hi)).2.2⟩
 have hbs : ∀ (i:Nat) (ρ:Res),(ρs.map (renR (φin ns)))[i]? = some ρ -> ∃ q ρ0,ns[i]? = some q/\st.rs q=some ρ0/\ρ=renR (φin ns) ρ0:=fun i ρ hi=>by
  rw [List.getElem?_map] at hi
  obtain ⟨ρ0,h1,rfl⟩:=Option.map_eq_some_iff.1 hi
  have h3:(ns.map st.rs)[i]? = (ρs.map some)[i]?:=by rw [hρ]
  rw [List.getElem?_map,List.getElem?_map,h1] at h3
  obtain ⟨q,hq,h4⟩:=Option.map_eq_some_iff.1 h3
  exact ⟨q,ρ0,hq,h4,rfl⟩
 refine ⟨by rw [ht];exact hI.sz,fun i hi => ?_,hd,hI.fr,hI.kp,hI.nf,⟨hI.mem.fx,fun n ρ hn => ?_,fun n ρ b hn hbk => ?_,fun n m ρ ρ' b hn hm hnb hmb => ?_⟩,fun i=>⟨rfl,.inl rfl⟩⟩
 . rw [ht]
   exact rel.ren (s:=s) (s2:=s.hand ns) rfl hφ1 _ _ (hI.tm i hi)
 . obtain ⟨i,rfl,hi⟩:=zAK hn
   obtain ⟨q,ρ0,hq,h3,rfl⟩:=hbs i ρ hi
   have hh:=zCD s ns hq
   exact Holds.ren (s:=s) (s2:=s.hand ns) rfl hφ1 hh.1 hh.2.1 hh.2.2 (hI.mem.ho q ρ0 h3)
 . obtain ⟨i,rfl,hi⟩:=zAK hn
   obtain ⟨q,ρ0,hq,h3,rfl⟩:=hbs i ρ hi
   have hh:=zCD s ns hq
   exact hI.mem.bs q ρ0 b h3 ((bk_ren hh.1 hh.2.1).1 hbk)
 . obtain ⟨i,rfl,hi⟩:=zAK hn
   obtain ⟨j,rfl,hj⟩:=zAK hm
   obtain ⟨q,ρ0,hq,h3,rfl⟩:=hbs i ρ hi
   obtain ⟨q',ρ1,hq',h3',rfl⟩:=hbs j ρ' hj
   have hh:=zCD s ns hq
   have hh':=zCD s ns hq'
   have e:=hI.mem.dj q q' _ _ b h3 h3' ((bk_ren hh.1 hh.2.1).1 hnb) ((bk_ren hh'.1 hh'.2.1).1 hmb)
   subst e
   have:=(zFN hnd hq).symm.trans (zFN hnd hq')
   cases this;rfl
theorem Inv.frame (hI:Inv X st s w a) {n2:Nat} (tm:Nat->V) (pk:Value->(Nat->V)->(Nat->Option Res)->Prop) (ds:List Deferred) {a':Act} (hz:a'.tmps.size=n2) (hd:a'.defers=ds) (ht : ∀ i,i<n2->rel X.P s w (tm i) (a'.tmps.getD i undef)) :
 Inv (nn:=n2) { X with pk:=pk,dfs:=ds } ⟨tm,st.rs⟩ s w a':=
 ⟨hz,ht,hd,hI.fr,hI.kp,hI.nf,hI.mem,hI.pe⟩
theorem Inv.named (hI:Inv X st s w a) (i:Nat):s.bx (pn i)=X.s0.bx (pn i):=(hI.pe i).1
variable {o:Oper} {K:Vst nn->Prop}
theorem opOk_isNil {t yt:TypeId} {x:Operand} (ho:o.op = .binOp .neq t x (.const .nilIface) yt) (hx:ev st x = .c .nilIface) (ht:X.P.underlying t=some (.interface (X.P.methodsAt t))) (hK:K (st.put o.dst (.c (.bool false)))):OpOk X o st K:=by
 intro s w a hI N Q hP hN
 have h1:=hI.ev x
 rw [hx,rel] at h1
 unfold Oper.wp
 have hrun:(execOp a.eval o).run X.P w = .ok (.value (.bool false)) w:=by
  simp only [execOp,ho,h1.1]
  show (do let u <- (do eqGuard .neq t x (.const .nilIface) .nilIface .nilIface;binOp .neq t .nilIface .nilIface:Sem Value);pure (.value u):Sem Next).run X.P w=_
  rw [eqGuard_nil_constR]
  simp only [Sem.run_bind,Sem.run_pure,Result.andThen_ok,run_neq_nil_nil w t ht]
 rw [hrun,Oper.upon_value]
 exact hN _ _ _ _ (hI.put o.dst (by rw [rel];exact ⟨rfl,trivial⟩)) hK
theorem zJj {t yt u:TypeId} {x:Operand} {y:Value} (ho:o.op = .binOp .neq t x (.const .nilIface) yt) (hx:ev st x = .c (.iface u y)) (ht:X.P.underlying t=some (.interface (X.P.methodsAt t))) (hK:K (st.put o.dst (.c (.bool true)))):OpOk X o st K:=by
 intro s w a hI N Q hP hN
 have h1:=hI.ev x
 rw [hx,rel] at h1
 unfold Oper.wp
 have hrun:(execOp a.eval o).run X.P w = .ok (.value (.bool true)) w:=by
  simp only [execOp,ho,h1.1]
  show (do let v <- (do eqGuard .neq t x (.const .nilIface) (.iface u y) .nilIface;binOp .neq t (.iface u y) .nilIface:Sem Value);pure (.value v):Sem Next).run X.P w=_
  have e:eqGuard .neq t x (.const .nilIface) (.iface u y) .nilIface=pure ():=rfl
  rw [e]
  simp only [Sem.run_bind,Sem.run_pure,Result.andThen_ok,run_neq_held_nil w t u y ht]
 rw [hrun,Oper.upon_value]
 exact hN _ _ _ _ (hI.put o.dst (by rw [rel];exact ⟨rfl,trivial⟩)) hK
end
section
variable {X:Cx} {nn:Nat} {st:Vst nn} {o:Oper} {ops:Array Oper} {l:List Oper} {KK:Vst nn->Prop} {d:Option Tmp}
theorem s_isNil {t yt:TypeId} {x:Operand} (hg:o.guard=none) (ho:o.op = .binOp .neq t x (.const .nilIface) yt) (hd:o.dst=d) (hx:ev st x = .c .nilIface) (ht:X.P.underlying t=some (.interface (X.P.methodsAt t))) (hK:AWo X ops l (st.put d (.c (.bool false))) KK):AWo X ops (o::l) st KK:=
 zt hg (opOk_isNil ho hx ht (by rw [hd];exact hK))
theorem s_notNil {t yt u:TypeId} {x:Operand} {y:Value} (hg:o.guard=none) (ho:o.op = .binOp .neq t x (.const .nilIface) yt) (hd:o.dst=d) (hx:ev st x = .c (.iface u y)) (ht:X.P.underlying t=some (.interface (X.P.methodsAt t))) (hK:AWo X ops l (st.put d (.c (.bool true))) KK):AWo X ops (o::l) st KK:=
 zt hg (zJj ho hx ht (by rw [hd];exact hK))
end
section
variable {X:Cx} {nn:Nat} {st:Vst nn}
theorem zJV {st':Vst nn} {s:Sg} {w:World} {a:Act} (h:Sub X st st') (hI:Inv X st s w a) : ∃ s',Inv X st' s' w a:=h s w a hI
theorem zLZ {c:Code} {K:Exit->Vst nn->Prop} {s:Sg} {w:World} {a:Act} (h:AW X c st K) (hI:Inv X st s w a):c.wp X.P (fun e a' w' => ∃ (st':Vst nn) (s':Sg),Inv X st' s' w' a'/\(K e st'\/PX X e st')) a w:=h s w a hI
def AWQ (X:Cx) (c:Code) (st:Vst nn) (Q:Exit->Act->World->Prop):Prop:=∀ s w a,Inv X st s w a->c.wp X.P Q a w
def qK (X:Cx) (y:Code) (Q:Exit->Act->World->Prop):Exit->Vst nn->Prop
 |.normal,st=>AWQ X y st Q
 |e,st => ∀ s w a,Inv X st s w a->Q e a w
theorem k_q {y:Code} {Q:Exit->Act->World->Prop} (h:AWQ X y st Q):qK X y Q .normal st:=h
theorem k_qr {y:Code} {Q:Exit->Act->World->Prop} (h : ∀ s w a,Inv X st s w a->Q .ret a w):qK X y Q .ret st:=h
theorem zJ6 {c:Code} {Q:Exit->Act->World->Prop} {s:Sg} {w:World} {a:Act} (h:AWQ X c st Q) (hI:Inv X st s w a):c.wp X.P Q a w:=h s w a hI
theorem awq_by {c:Code} {Q:Exit->Act->World->Prop} (h : ∀ s w a,Inv X st s w a->c.wp X.P Q a w):AWQ X c st Q:=h
theorem zCI {x y:Code} {Q:Exit->Act->World->Prop} (hP:PQ X nn Q) (h:AW X x st (qK X y Q)):AWQ X (.seq x y) st Q:=fun s w a hI =>
 wp_seq (Code.wp_mono (fun e a' w' ⟨st',s',hI',hK⟩=>by
  rcases hK with hK | ⟨pv,rfl,hp⟩
  . cases e
    case normal=>exact hK s' w' a' hI'
    all_goals exact hK s' w' a' hI'
  . exact hP pv st' s' w' a' hI' hp) (h s w a hI))
theorem awq_sub {c:Code} {st':Vst nn} {Q:Exit->Act->World->Prop} (hs:Sub X st st') (h:AWQ X c st' Q):AWQ X c st Q:=fun s w a hI=>by
 obtain ⟨s',hI'⟩:=hs s w a hI
 exact h s' w a hI'
theorem zFM {e:Ge} {P:Program} {fn:Func} {args:List V} {s:Sg} {w:World} {us:Array Value} (he:e.E w) (hnn:args.length+(fn.ntmps-args.length)=nn) (hus:relL P s w args us.toList) (hfx : ∀ b o,s.F b o->(w.cell? ⟨b,o,none⟩).isSome) :
 Inv (cx e P s w he) (st0 nn args) s w { tmps:=us++Array.replicate (fn.ntmps-us.size) undef,defers:=[] }:=by
 have hlen:=hus.length
 have hl2:us.toList.length=us.size:=by simp
 refine ⟨by simp;omega,fun i hi => ?_,rfl,Frm.refl _ _,Keeps.refl,fun _ _ _ _ h=>h,⟨hfx,fun n ρ h=>by simp [st0] at h,fun n ρ b h=>by simp [st0] at h,fun n m ρ ρ' b h=>by simp [st0] at h⟩,PE.refl _⟩
 show rel P s w (args.getD i .any) _
 by_cases hi2:i<args.length
 . have h1:args[i]? = some args[i]:=List.getElem?_eq_getElem hi2
   have hi3:i<us.size:=by omega
   have h2:us.toList[i]? = some us[i]:=by rw [Array.getElem?_toList];exact Array.getElem?_eq_getElem hi3
   rw [List.getD_eq_getElem?_getD,h1]
   have:(us++Array.replicate (fn.ntmps-us.size) undef).getD i undef=us[i]:=by
    rw [Array.getD_eq_getD_getElem?,Array.getElem?_append_left hi3,Array.getElem?_eq_getElem hi3];rfl
   rw [this]
   exact hus.get i _ _ h1 h2
 . rw [List.getD_eq_getElem?_getD,List.getElem?_eq_none (by omega)]
   simp [rel]
def acR (P:Program) (s:Sg) (w:World) (r:V):Ending->World->Prop:=fun en w' => ∃ v F',en = .returned v/\Frm (fun _=>False) w w'/\Keeps s.F F' w w'/\(∀ b o,F' b o->(w'.cell? ⟨b,o,none⟩).isSome)/\(∀ b o,b<w.heap.size->F' b o->s.F b o)/\rel P { s with F:=F' } w' r v
theorem ac_by {e:Ge} {P:Program} {f:FuncId} {args:List V} {r:V} (h : ∀ (s:Sg) (w:World) (us:Array Value),relL P s w args us.toList->(∀ b o,s.F b o->(w.cell? ⟨b,o,none⟩).isSome)->e.E w->Calls P f us w (acR P s w r)):AC e P f args r:=h
theorem ac_fin {P:Program} {s:Sg} {w:World} {fn:Func} {s':Sg} {w':World} {a':Act} {r:V} (hI:Inv X st s' w' a') (hP:X.P=P) (hpas:X.pas=fun _=>False) (hF:X.s0.F=s.F) (hw:X.w0=w) (hv:retV P st fn.results.toList r) (hr:r.pure=true) :
 ∃ v,(results fn a'.tmps).run P w' = .ok v w'/\acR P s w r (.returned v) w':=by
 subst hP
 subst hw
 obtain ⟨u,h1,h2⟩:=zG6 hv hI
 have hfr:=hI.fr
 rw [hpas] at hfr
 refine ⟨u,h1,u,s'.F,rfl,hfr,by rw [<- hF];exact hI.kp,hI.mem.fx,fun b o hb => ?_,rel.only (s:=s') (s':={ s with F:=s'.F }) (P:=X.P) rfl r u hr h2⟩
 rw [<- hF]
 exact hI.nf b o hb (by rw [hpas];exact fun h=>h)
end
end
section
open Go.RowKit
attribute [local irreducible] wpList Calls Code.wp AW AWo OpOk seqK zm zo loopK endK AC zh Yld Sub
attribute [local irreducible] ACB ACX ACE absLexG YldG AWQ qK
theorem ifT:Tryz.prog.underlying 20=some (.interface (Tryz.prog.methodsAt 20)):=by kernel_rfl
section
variable {pas:Nat->Prop} {s0:Sg} {w0:World} {he:EN5.E w0} {hp : ∀ k,k<EN5.G -> ¬ pas k} {pk:Value->(Nat->V)->(Nat->Option Res)->Prop} {dfs:List Deferred} {st:Vst 24} {s:Sg} {w:World} {a:Act}
def slotsP:List (Nat × V):=[(2,.bx (pn 0) 0),(3,.bx (pn 1) 0),(4,.bx (pn 2) 0)]
theorem zJ4 {P:Program} {s s':Sg} {w w':World} {k:Nat} {u:Value} (h:rel P s w (.bx k 0) u) (hs:s'.bx k=s.bx k):rel P s' w' (.bx k 0) u:=by
 rw [rel] at h |-;rw [hs];exact h
end
theorem bx_ren {P:Program} {s s':Sg} {w:World} {k k':Nat} {u:Value} (h:rel P s w (.bx k 0) u) (hs:s'.bx k'=s.bx k):rel P s' w (.bx k' 0) u:=by
 rw [rel] at h |-;rw [hs];exact h
theorem zEC {P:Program} {s s':Sg} {w w':World} {k:Nat} {u u':Value} (h:rel P s w (.bx k 0) u) (h':rel P s' w' (.bx k 0) u') (hs:s'.bx k=s.bx k):u=u':=by
 rw [rel] at h h'
 obtain ⟨b,h1,rfl⟩:=h
 obtain ⟨b',h2,rfl⟩:=h'
 rw [hs,h1] at h2
 cases h2;rfl
section
variable {σ:Sg} {w0:World} {he:EN5.E w0} {s0:Sg} {hp : ∀ k,k<EN5.G -> ¬ False} {pk:Value->(Nat->V)->(Nat->Option Res)->Prop} {s:Sg} {w:World} {a:Act}
structure Ptrs (P:Program) (s0:Sg) (w:World) (p2 p3 p4:Value):Prop where
 p2:rel P s0 w (.bx (pn 0) 0) p2
 p3:rel P s0 w (.bx (pn 1) 0) p3
 p4:rel P s0 w (.bx (pn 2) 0) p4
end
end
section
open Go.RowKit
section
variable {X:Cx} {nn:Nat} {st:Vst nn} {o:Oper} {K:Vst nn->Prop} {ops:Array Oper} {l:List Oper} {KK:Vst nn->Prop} {d:Option Tmp}
attribute [local irreducible] wpList Calls Code.wp in
theorem zIZ {t xt:TypeId} {x:Operand} {cs:Array Value} {fs:Array Field} (ho:o.op = .typeAssert x xt t true) (hx:ev st x = .c (.iface t (.agg cs))) (hok:cs.toList.all okB=true) (hu:X.P.underlying t=some (.struct fs)) (hK:K (st.put o.dst (.tup [.agg (cs.toList.map .c),.c (.bool true)]))):OpOk X o st K:=by
 intro s w a hI N Q hP hN
 have h1:=hI.ev x
 rw [hx,rel] at h1
 unfold Oper.wp
 have hrun:(execOp a.eval o).run X.P w = .ok (.value (.tuple #[.agg cs,.bool true])) w:=by
  simp only [execOp,ho,h1.1]
  simp [Instr.typeAssert,run_underlying hu]
 rw [hrun,Oper.upon_value]
 refine hN _ _ _ _ (hI.put o.dst ?_) hK
 have hcs:relL X.P s w (cs.toList.map V.c) cs.toList:=by
  clear hK hN hrun h1
  generalize cs.toList=l at *
  induction l with
  |nil=>simp [relL]
  |cons y l ih =>
   rw [List.all_cons,Bool.and_eq_true] at hok
   rw [List.map_cons,relL]
   exact ⟨by rw [rel];exact ⟨rfl,zKb hok.1⟩,ih hok.2⟩
 rw [rel]
 refine ⟨#[.agg cs,.bool true],rfl,?_⟩
 show relL _ _ _ [_,_] [_,_]
 rw [relL,relL,relL,rel,rel]
 exact ⟨⟨cs,rfl,hcs⟩,⟨rfl,trivial⟩,trivial⟩
attribute [local irreducible] wpList Calls Code.wp AW AWo OpOk in
theorem s_assert2 {t xt:TypeId} {x:Operand} {cs:Array Value} {fs:Array Field} (hg:o.guard=none) (ho:o.op = .typeAssert x xt t true) (hd:o.dst=d) (hx:ev st x = .c (.iface t (.agg cs))) (hok:cs.toList.all okB=true) (hu:X.P.underlying t=some (.struct fs)) (hK:AWo X ops l (st.put d (.tup [.agg (cs.toList.map .c),.c (.bool true)])) KK):AWo X ops (o::l) st KK:=
 zt hg (zIZ ho hx hok hu (by rw [hd];exact hK))
end
attribute [local irreducible] wpList Calls Code.wp AW AWo OpOk seqK zm zo loopK endK AC zh Yld Sub
attribute [local irreducible] ACB ACX ACE absLexG YldG AWQ qK
def zCL (q:List V) (i e:Int):List (Nat × Res):=[(pn 0,.box 25 q),(pn 1,.box 3 [.c (.int .i64 i)]),(pn 2,.box 26 [.c (.int .i64 e)])]
noncomputable def HR_s (nn:Nat) (cs:List (Nat × V)) (q:List V) (i e:Int):Vst nn:=stS nn cs (zCL q i e)
noncomputable def HC0_s (v:Value) (q:List V) (i e:Int):Vst 22:=HR_s 22 [(0,.bx (pn 0) 0),(1,.bx (pn 1) 0),(2,.bx (pn 2) 0),(3,.c v)] q i e
def doneC_s {nn:Nat} (q:List V) (i e:Int):Exit->Vst nn->Prop
 |.normal,st=>rsOk st (zCL q i e)
 |.ret,st=>rsOk st (zCL q i e)
 |_,_=>False
noncomputable def zHm:Code:=match Tryz.f24.body with
 |some (.seq _ y)=>y
 |_ => .skip
section
variable {pas:Nat->Prop} {s0:Sg} {w0:World} {he:EN5.E w0} {hp : ∀ k,k<EN5.G -> ¬ pas k}
theorem zJ0 (q:List V) (i e:Int):AW ⟨Tryz.prog,pas,s0,w0,EN5,he,hp,fun _ _ _=>False,[]⟩ zHm (HC0_s .nilIface q i e) (doneC_s q i e):=by
 unfold zHm
 simp only [Tryz.f24]
 refine zJG ?_
 refine zA ?_
 apply s_val rfl
 . rfl
 . conv=>lhs;whnf;arg 2;whnf
 rotate_left 1
 . trivial
 apply s_isNil rfl rfl rfl
 . conv=>lhs;whnf
 . exact ifT
 refine zB ?_
 refine zH ?_
 repeat' (first
|apply aw_1
 conv=>whnf
 refine ⟨?_,trivial⟩)
 all_goals exact ⟨rfl,rfl,rfl,trivial⟩
theorem zJz (i e i' e':Int) (hok:(Lit.int .i64 i').wf=true/\(Lit.int .i64 e').wf=true):AW ⟨Tryz.prog,pas,s0,w0,EN5,he,hp,fun _ _ _=>False,[]⟩ zHm (HC0_s (.iface 60 (.agg #[.int .i64 i',.int .i64 e'])) zDoc i e) (doneC_s zDoc i' e'):=by
 unfold zHm
 simp only [Tryz.f24]
 refine zJG ?_
 refine zA ?_
 apply s_val rfl
 . rfl
 . conv=>lhs;whnf;arg 2;whnf
 rotate_left 1
 . trivial
 apply s_notNil rfl rfl rfl
 . conv=>lhs;whnf
 . exact ifT
 refine zB ?_
 refine zH ?_
 refine ze (b:=true) rfl (fun _ => ?_) fun h=>by cases h
 refine zJG ?_
 refine zA ?_
 apply s_val rfl
 . rfl
 . conv=>lhs;whnf;arg 2;whnf
 rotate_left 1
 . trivial
 apply s_assert2 (fs:=Tryz.prog.fieldsOf 60) rfl rfl rfl
 . conv=>lhs;whnf
 . simp [okB,hok]
 . kernel_rfl
 have K:(!true)=true->False:=by decide
 repeat' (first
|apply zJH 8 ([(2,[4]),(4,[4])]) ([(5,[1000000]),(6,[1000001]),(7,[1000002])]) rfl (by kernel_rfl) (by kernel_rfl) (by kernel_rfl)
|apply zHc
|apply zHb rfl
 . conv=>lhs;whnf
 . conv=>lhs;whnf;arg 2;whnf
|apply zCE rfl rfl rfl
 . conv=>lhs;whnf
 . rfl
 . conv=>lhs;whnf;arg 1;whnf
 . conv=>lhs;whnf;arg 1;whnf
 . exact ⟨by kernel_rfl,by kernel_rfl⟩
 . rfl
|show inO _ _=true;rfl
|refine zA ?_
|refine zB ?_
|refine zH ?_
|apply aw_1
 conv=>whnf
 refine ⟨?_,trivial⟩
|apply s_1
 conv=>whnf;arg 1;arg 4;arg 3;whnf
 refine ⟨?_,?_⟩
|apply zT rfl rfl rfl
 . conv=>lhs;whnf
 . conv=>lhs;whnf;arg 1;whnf
 . conv=>lhs;whnf;arg 1;whnf
 . exact ⟨by kernel_rfl,by kernel_rfl⟩
 . rfl
|exact trivial)
 all_goals exact ⟨rfl,rfl,rfl,trivial⟩
end
section
variable {pas:Nat->Prop} {s0:Sg} {w0:World} {he:EN5.E w0} {hp : ∀ k,k<EN5.G -> ¬ pas k} {pk:Value->(Nat->V)->(Nat->Option Res)->Prop} {dfs:List Deferred} {st:Vst 26} {s:Sg} {w:World} {a:Act}
theorem rs_HR_s {nn:Nat} {st:Vst nn} {nn2:Nat} {cs:List (Nat × V)} {q:List V} {i e:Int} (h:rsOk st (zCL q i e)) : ∀ n ρ,(HR_s nn2 cs q i e).rs n=some ρ->st.rs n=some ρ:=fun n ρ hn=>by
 simp only [HR_s,stS] at hn
 split at hn
 . rename_i p hp
   have hm:=List.mem_of_find?_eq_some hp
   have he:=List.find?_some hp
   simp at he
   cases hn
   subst he
   exact zG4 h p hm
 . cases hn
theorem back_in_s {pk':Value->(Nat->V)->(Nat->Option Res)->Prop} {dfs':List Deferred} {n2:Nat} {st':Vst n2} {s':Sg} {w':World} {a':Act} {q q':List V} {i e i' e':Int}
 (hI:Inv ⟨Tryz.prog,pas,s0,w0,EN5,he,hp,pk,dfs⟩ (HR_s 26 slotsP q i e) s w a) (hI':Inv ⟨Tryz.prog,pas,s0,w0,EN5,he,hp,pk',dfs'⟩ st' s' w' a') (hr:rsOk st' (zCL q' i' e')) :
 Inv ⟨Tryz.prog,pas,s0,w0,EN5,he,hp,pk,dfs⟩ (HR_s 26 slotsP q' i' e') s' w' a:=by
 have hk : ∀ k,s'.bx (pn k)=s.bx (pn k):=fun k=>(hI'.named k).trans (hI.named k).symm
 refine ⟨hI.sz,fun j hj => ?_,hI.df,hI'.fr,hI'.kp,hI'.nf,hI'.mem.sub (rs_HR_s hr),hI'.pe⟩
 have ht:=hI.tm j hj
 by_cases h2:j=2
 . subst h2;exact zJ4 (k:=pn 0) ht (hk 0)
 by_cases h3:j=3
 . subst h3;exact zJ4 (k:=pn 1) ht (hk 1)
 by_cases h4:j=4
 . subst h4;exact zJ4 (k:=pn 2) ht (hk 2)
 have e:(HR_s 26 slotsP q' i' e').tm j = .any:=by
  simp [HR_s,stS,slotsP,List.find?,beq_eq_false_iff_ne.2 (Ne.symm h2),beq_eq_false_iff_ne.2 (Ne.symm h3),beq_eq_false_iff_ne.2 (Ne.symm h4)]
 rw [e];simp [rel]
theorem zKy {q:List V} {i e:Int} (hI:Inv ⟨Tryz.prog,pas,s0,w0,EN5,he,hp,pk,dfs⟩ (HR_s 26 slotsP q i e) s w a) (v:Value) (hv:okV v) {a1:Act} (hz:a1.tmps.size=22) (hd:a1.defers=[]) (h0:a1.tmps.getD 0 undef=a.tmps.getD 2 undef) (h1:a1.tmps.getD 1 undef=a.tmps.getD 3 undef) (h2:a1.tmps.getD 2 undef=a.tmps.getD 4 undef) (h3:a1.tmps.getD 3 undef=v) :
 Inv ⟨Tryz.prog,pas,s0,w0,EN5,he,hp,fun _ _ _=>False,[]⟩ (HC0_s v q i e) s w a1:=by
 refine ⟨hz,fun j hj => ?_,hd,hI.fr,hI.kp,hI.nf,hI.mem.sub fun n ρ hn=>hn,hI.pe⟩
 by_cases j0:j=0
 . subst j0;rw [h0];exact hI.tm 2 (by omega)
 by_cases j1:j=1
 . subst j1;rw [h1];exact hI.tm 3 (by omega)
 by_cases j2:j=2
 . subst j2;rw [h2];exact hI.tm 4 (by omega)
 by_cases j3:j=3
 . subst j3;rw [h3];show rel _ _ _ (.c v) v;rw [rel];exact ⟨rfl,hv⟩
 have e:(HC0_s v q i e).tm j = .any:=by
  simp [HC0_s,HR_s,stS,List.find?,beq_eq_false_iff_ne.2 (Ne.symm j0),beq_eq_false_iff_ne.2 (Ne.symm j1),beq_eq_false_iff_ne.2 (Ne.symm j2),beq_eq_false_iff_ne.2 (Ne.symm j3)]
 rw [e];simp [rel]
theorem call_ret_s (q:List V) (i e:Int) (hI:Inv ⟨Tryz.prog,pas,s0,w0,EN5,he,hp,pk,dfs⟩ (HR_s 26 slotsP q i e) s w a) :
 CallsD Tryz.prog 24 #[a.tmps.getD 2 undef,a.tmps.getD 3 undef,a.tmps.getD 4 undef] .returning w fun en u' w'=>en = .returned (.tuple #[])/\u' = .returning /\ ∃ s',Inv ⟨Tryz.prog,pas,s0,w0,EN5,he,hp,pk,dfs⟩ (HR_s 26 slotsP q i e) s' w' a:=by
 refine callsD_of_wpS Tryz.func24 rfl fun c₀ cs hu => ?_
 apply wpS_seq
 apply wpS_region
 simp [wpOpsS,go_sem,recoverD,hu,Exit.thenS]
 refine wpS_of_wp (Code.wp_mono (fun en a' w' ⟨st',s',hI',hK⟩ => ?_) (zLZ (zJ0 (pas:=pas) (s0:=s0) (w0:=w0) (he:=he) (hp:=hp) q i e) (zKy hI .nilIface trivial (by simp) rfl (by simp) (by simp) (by simp) (by simp))))
 have fin:rsOk st' (zCL q i e)->a'.defers=[] /\ ∃ u',c₀::cs = { c₀ with mode:=u' }::cs /\ ∃ v,(results Tryz.f24 a'.tmps).run Tryz.prog w' = .ok v w'/\(Ending.returned v = .returned (.tuple #[])/\u' = .returning /\ ∃ s',Inv ⟨Tryz.prog,pas,s0,w0,EN5,he,hp,pk,dfs⟩ (HR_s 26 slotsP q i e) s' w' a):=fun hr =>
  ⟨hI'.df,.returning,by cases c₀;simp_all,.tuple #[],by simp [results,Tryz.f24],rfl,rfl,s',back_in_s hI hI' hr⟩
 rcases hK with hK | ⟨_,_,hK⟩
 . cases en
   case normal=>exact fin hK
   case ret=>exact fin hK
   all_goals exact hK.elim
 . exact hK.elim
theorem call_pan_s (i e i' e':Int) (hok:(Lit.int .i64 i').wf=true/\(Lit.int .i64 e').wf=true) (hI:Inv ⟨Tryz.prog,pas,s0,w0,EN5,he,hp,pk,dfs⟩ (HR_s 26 slotsP zDoc i e) s w a) :
 CallsD Tryz.prog 24 #[a.tmps.getD 2 undef,a.tmps.getD 3 undef,a.tmps.getD 4 undef] (.panicking [{ v:=.iface 60 (.agg #[.int .i64 i',.int .i64 e']),recovered:=false }]) w fun en u' w'=>en = .returned (.tuple #[])/\settle u' = .returning /\ ∃ s',Inv ⟨Tryz.prog,pas,s0,w0,EN5,he,hp,pk,dfs⟩ (HR_s 26 slotsP zDoc i' e') s' w' a:=by
 refine callsD_of_wpS Tryz.func24 rfl fun c₀ cs hu => ?_
 apply wpS_seq
 apply wpS_region
 simp [wpOpsS,go_sem,recoverD,hu,Exit.thenS]
 refine wpS_of_wp (Code.wp_mono (fun en a' w' ⟨st',s',hI',hK⟩ => ?_) (zLZ (zJz (pas:=pas) (s0:=s0) (w0:=w0) (he:=he) (hp:=hp) i e i' e' hok) (zKy hI (.iface 60 (.agg #[.int .i64 i',.int .i64 e'])) trivial (by simp) rfl (by simp) (by simp) (by simp) (by simp))))
 have fin:rsOk st' (zCL zDoc i' e')->a'.defers=[] /\ ∃ u',{ c₀ with mode:=.panicking [{ v:=.iface 60 (.agg #[.int .i64 i',.int .i64 e']),recovered:=true }] }::cs = { c₀ with mode:=u' }::cs /\ ∃ v,(results Tryz.f24 a'.tmps).run Tryz.prog w' = .ok v w'/\(Ending.returned v = .returned (.tuple #[])/\settle u' = .returning /\ ∃ s',Inv ⟨Tryz.prog,pas,s0,w0,EN5,he,hp,pk,dfs⟩ (HR_s 26 slotsP zDoc i' e') s' w' a):=fun hr =>
  ⟨hI'.df,_,rfl,.tuple #[],by simp [results,Tryz.f24],rfl,rfl,s',back_in_s hI hI' hr⟩
 rcases hK with hK | ⟨_,_,hK⟩
 . cases en
   case normal=>exact fin hK
   case ret=>exact fin hK
   all_goals exact hK.elim
 . exact hK.elim
end
def zFZ (p q r:Value):Deferred:={ target:=.fn (.func 24) #[p,q,r],args:=#[] }
section
variable {σ:Sg} {w0:World} {he:EN5.E w0} {s0:Sg} {hp : ∀ k,k<EN5.G -> ¬ False} {pk:Value->(Nat->V)->(Nat->Option Res)->Prop} {s:Sg} {w:World} {a:Act}
theorem zJo {p2 p3 p4:Value} {w1:World} {r:V} (l1:List D) (i e:Int) (hF:s0.F=σ.F) (hps:Ptrs Tryz.prog s0 w1 p2 p3 p4) (hI:Inv ⟨Tryz.prog,fun _=>False,s0,w0,EN5,he,hp,pk,[zFZ p2 p3 p4]⟩ (HR_s 26 slotsP [.sl 45 l1] i e) s w a)
 (hr:r = .tup [.agg [.sl 45 l1],.c (.int .i64 i),.c (.int .i64 e)]):Leaves Tryz.prog Tryz.f10 a.tmps (acR Tryz.prog σ w0 r) [zFZ p2 p3 p4] .returning w:=by
 have e2:p2=a.tmps.getD 2 undef:=zEC hps.p2 (hI.tm 2 (by omega)) (hI.named 0)
 have e3:p3=a.tmps.getD 3 undef:=zEC hps.p3 (hI.tm 3 (by omega)) (hI.named 1)
 have e4:p4=a.tmps.getD 4 undef:=zEC hps.p4 (hI.tm 4 (by omega)) (hI.named 2)
 have hc:=call_ret_s _ i e hI
 rw [<- e2,<- e3,<- e4] at hc
 refine leaves_cons (f:=24) (args:=#[p2,p3,p4]) (by simp) (by simp [go_sem]) (hc.mono ?_)
 rintro en u' w' ⟨rfl,rfl,s',hI'⟩
 exact ac_fin hI' rfl rfl hF rfl ⟨_,_,_,rfl,rfl,rfl,hr⟩ (by rw [hr];rfl)
theorem zJp {p2 p3 p4:Value} {w1:World} (i e i' e':Int) (hok:(Lit.int .i64 i').wf=true/\(Lit.int .i64 e').wf=true) (hF:s0.F=σ.F) (hps:Ptrs Tryz.prog s0 w1 p2 p3 p4) (hI:Inv ⟨Tryz.prog,fun _=>False,s0,w0,EN5,he,hp,pk,[zFZ p2 p3 p4]⟩ (HR_s 26 slotsP zDoc i e) s w a) :
 Leaves Tryz.prog Tryz.f10 a.tmps (acR Tryz.prog σ w0 (.tup [.agg zDoc,.c (.int .i64 i'),.c (.int .i64 e')])) [zFZ p2 p3 p4] (.panicking [{ v:=.iface 60 (.agg #[.int .i64 i',.int .i64 e']),recovered:=false }]) w:=by
 have e2:p2=a.tmps.getD 2 undef:=zEC hps.p2 (hI.tm 2 (by omega)) (hI.named 0)
 have e3:p3=a.tmps.getD 3 undef:=zEC hps.p3 (hI.tm 3 (by omega)) (hI.named 1)
 have e4:p4=a.tmps.getD 4 undef:=zEC hps.p4 (hI.tm 4 (by omega)) (hI.named 2)
 have hc:=call_pan_s i e i' e' hok hI
 rw [<- e2,<- e3,<- e4] at hc
 refine leaves_cons (f:=24) (args:=#[p2,p3,p4]) (by simp) (by simp [go_sem]) (hc.mono ?_)
 rintro en u' w' ⟨rfl,hs,s',hI'⟩
 show Leaves _ _ _ _ [] (settle u') w'
 rw [hs]
 exact ac_fin hI' rfl rfl hF rfl ⟨_,_,_,rfl,rfl,rfl,rfl⟩ rfl
end
noncomputable abbrev zEt (ts:List Tok):V:=.sl 89 (ts.map tokD)
theorem etaPz_s (ts:List Tok):[V.sl 89 (ts.map tokD),.c (.int .i64 0)]=clS ts ⟨ts,false,0⟩:=by
 unfold clS
 rw [Nat.sub_self];rfl
noncomputable def HP2_s (ts:List Tok):Vst 26:=stS 26 [(2,.bx 2 0),(3,.bx 3 0),(4,.bx 4 0),(5,zEt ts)] [(2,.box 25 zDoc),(3,.box 3 [.c (.int .i64 0)]),(4,.box 26 [.c (.int .i64 0)])]
noncomputable def HP3_s (ts:List Tok):Vst 26:=HR_s 26 [(2,.bx (pn 0) 0),(3,.bx (pn 1) 0),(4,.bx (pn 2) 0),(5,zEt ts)] zDoc 0 0
section
variable {σ:Sg} {w0:World} {he:EN5.E w0}
theorem zJh (s:List UInt8) (i:Nat) (e:Int) (he0:e≠0) (hsc:AC EN5 Tryz.prog 23 [.c (.string (bs s))] (.tup [.c (.slice none 0 0),.c (.int .i64 (i:Int)),.c (.int .i64 e)])) :
 AC EN5 Tryz.prog 10 [.c (.string (bs s))] (.tup [.agg zDoc,.c (.int .i64 (i:Int)),.c (.int .i64 e)]):=by
 refine ac_by fun σ w us hus hfx he => ?_
 refine calls_of_wp_defers Tryz.func10 rfl ?_
 have hI:=zFM (nn:=26) (fn:=Tryz.f10) he rfl hus hfx
 have hP : ∀ Q,PQ (cx EN5 Tryz.prog σ w he) 26 Q:=fun Q _ _ _ _ _ _ h=>h.elim
 refine zJ6 ?_ hI
 clear hI
 refine zCI (hP _) ?_
 repeat' (first
|refine zA ?_
|refine zB ?_
|apply s_1
 conv=>whnf;arg 1;arg 4;arg 3;whnf
 refine ⟨?_,?_⟩
|exact trivial)
 refine k_q ?_
 refine zCI (hP _) ?_
 repeat' (first
|refine zA ?_
|refine zB ?_
|apply s_1
 conv=>whnf;arg 1;arg 4;arg 3;whnf
 refine ⟨?_,?_⟩
|apply zY rfl
 . conv=>lhs;whnf
 . conv=>lhs;whnf
 . first | exact hsc
|exact trivial)
 refine k_q ?_
 refine zCI (hP _) ?_
 repeat' (first
|refine zA ?_
|refine zB ?_
|refine zH ?_
|apply aw_1
 conv=>whnf
 refine ⟨?_,trivial⟩
|apply s_1
 conv=>whnf;arg 1;arg 4;arg 3;whnf
 refine ⟨?_,?_⟩
|apply zT rfl rfl rfl
 . conv=>lhs;whnf
 . conv=>lhs;whnf;arg 1;whnf
 . conv=>lhs;whnf;arg 1;whnf
 . exact ⟨by kernel_rfl,by kernel_rfl⟩
 . rfl
|refine ze (by conv=>lhs;whnf) ?_ ?_<;>intro hb
|exact trivial)
 . refine k_qr fun s' w' a' hI' => ?_
   show Leaves _ _ _ _ a'.defers .returning w'
   rw [hI'.df]
   exact ac_fin hI' rfl rfl rfl rfl ⟨_,_,_,rfl,rfl,rfl,rfl⟩ rfl
 . exact absurd hb (by simp [he0])
noncomputable def restP_s:Code:=match Tryz.f10.body with
 |some (.seq _ (.seq _ (.seq _ (.seq _ y))))=>y
 |_ => .skip
def endP_s (d:List D):Exit->Vst 26->Prop
 |.ret,st=>tmOk st slotsP/\rsOk st (zCL [.sl 45 d] 0 0)
 |_,_=>False
def pkP_s (x:Nat × Int) (pv:Value) (tm:Nat->V) (rs:Nat->Option Res):Prop:=
 pv=zEw x/\tmOk (⟨tm,rs⟩:Vst 26) slotsP/\rsOk (⟨tm,rs⟩:Vst 26) (zCL zDoc 0 0)
theorem rest_ok_s {pas:Nat->Prop} {s0:Sg} {hp : ∀ k,k<EN5.G -> ¬ pas k} {dfs:List Deferred} (ts:List Tok) (ops:List D) (x':PS)
 (hdoc:ACE EN5 Tryz.prog 25 [.bx (pn 0) 0] [boxS ts ⟨ts,false,0⟩] (outS ts (fun l=>VDc (zA2 l)) (.ok (ops,x')))) :
 AW ⟨Tryz.prog,pas,s0,w0,EN5,he,hp,fun _ _ _=>False,dfs⟩ restP_s (HP3_s ts) (endP_s ops):=by
 unfold restP_s
 simp only [Tryz.f10]
 repeat' (first
|refine zA ?_
|refine zB ?_
|refine zH ?_
|apply aw_1
 conv=>whnf
 refine ⟨?_,trivial⟩
|apply s_1
 conv=>whnf;arg 1;arg 4;arg 3;whnf
 refine ⟨?_,?_⟩
|apply zAF rfl rfl rfl rfl
 . conv=>lhs;whnf;arg 1;whnf
 . rfl
|exact trivial)
 apply s_pr (clS ts) (zU ts) rfl
 . rfl
 . conv=>lhs;whnf
 . rfl
 . conv=>lhs;whnf;arg 1;whnf
 . exact etaPz_s _
 . exact hdoc
 . exact fun _=>rfl
 . intro _ _;unfold VDc;simp only [renL,renV,ren_cells]
 . intro ee hq;cases hq
 intro aa xx hq
 cases hq
 repeat' (first
|refine zB ?_
|refine zH ?_
|apply aw_1
 conv=>whnf
 refine ⟨?_,trivial⟩
|apply zT rfl rfl rfl
 . conv=>lhs;whnf
 . conv=>lhs;whnf;arg 1;whnf
 . conv=>lhs;whnf;arg 1;whnf
 . exact ⟨by kernel_rfl,by kernel_rfl⟩
 . rfl)
 exact ⟨⟨rfl,rfl,rfl,trivial⟩,rfl,rfl,rfl,trivial⟩
theorem rest_pan_s {pas:Nat->Prop} {s0:Sg} {hp : ∀ k,k<EN5.G -> ¬ pas k} {dfs:List Deferred} (ts:List Tok) (x:Nat × Int)
 (hdoc:ACE EN5 Tryz.prog 25 [.bx (pn 0) 0] [boxS ts ⟨ts,false,0⟩] (outS ts (fun l=>VDc (zA2 l)) (.error x))) :
 AW ⟨Tryz.prog,pas,s0,w0,EN5,he,hp,pkP_s x,dfs⟩ restP_s (HP3_s ts) (fun _ _=>False):=by
 unfold restP_s
 simp only [Tryz.f10]
 repeat' (first
|refine zA ?_
|refine zB ?_
|refine zH ?_
|apply aw_1
 conv=>whnf
 refine ⟨?_,trivial⟩
|apply s_1
 conv=>whnf;arg 1;arg 4;arg 3;whnf
 refine ⟨?_,?_⟩
|apply zAF rfl rfl rfl rfl
 . conv=>lhs;whnf;arg 1;whnf
 . rfl
|exact trivial)
 apply s_pr (clS ts) (zU ts) rfl
 . rfl
 . conv=>lhs;whnf
 . rfl
 . conv=>lhs;whnf;arg 1;whnf
 . exact etaPz_s _
 . exact hdoc
 . exact fun _=>rfl
 . intro _ _;unfold VDc;simp only [renL,renV,ren_cells]
 . intro ee hq
   cases hq
   exact ⟨rfl,⟨rfl,rfl,rfl,trivial⟩,rfl,rfl,rfl,trivial⟩
 intro aa xx hq
 cases hq
noncomputable def code4_s:Code:=match Tryz.f10.body with
 |some (.seq _ (.seq _ (.seq _ y)))=>y
 |_ => .skip
theorem zEN {ts:List Tok} {Q:Exit->Act->World->Prop} {s:Sg} {w:World} {a:Act} (hI:Inv (cx EN5 Tryz.prog σ w0 he) (HP2_s ts) s w a)
 (h : ∀ (s0:Sg) (p2 p3 p4:Value) (a':Act),s0.F=σ.F->Ptrs Tryz.prog s0 w p2 p3 p4->(∀ pk,∃ s',Inv ⟨Tryz.prog,fun _=>False,s0,w0,EN5,he,fun _ _ h=>h,pk,[zFZ p2 p3 p4]⟩ (HP3_s ts) s' w a')->restP_s.wp Tryz.prog Q a' w):code4_s.wp Tryz.prog Q a w:=by
 unfold code4_s
 simp only [Tryz.f10]
 unfold restP_s at h
 simp only [Tryz.f10] at h
 refine wp_seq (wp_region_lit ?_)
 refine wpList_plain rfl fun K' hK' => ?_
 unfold Oper.wp
 have hrun : ∀ (ty:TypeId) (po:String),(execOp a.eval { dst:=some 20,op:=Op.makeFunc (Fn.func 24) #[] #[Operand.tmp 2,Operand.tmp 3,Operand.tmp 4],type:=ty,pos:=po,after:=#[],guard:=none }).run Tryz.prog w = .ok (.value (.func (.func 24) #[] #[a.tmps.getD 2 undef,a.tmps.getD 3 undef,a.tmps.getD 4 undef])) w:=fun ty po=>by simp [execOp,Instr.makeFunc,Act.eval]
 rw [hrun]
 rw [Oper.upon_value]
 refine hK' _ _ ?_
 refine wpList_plain rfl fun K2 hK2 => ?_
 unfold Oper.wp
 have hz:20<a.tmps.size:=by rw [hI.sz];omega
 have hev:(a.put (some 20) (.func (.func 24) #[] #[a.tmps.getD 2 undef,a.tmps.getD 3 undef,a.tmps.getD 4 undef])).eval (.tmp 20) = .func (.func 24) #[] #[a.tmps.getD 2 undef,a.tmps.getD 3 undef,a.tmps.getD 4 undef]:=by
  simp [Act.put,Act.eval,hz]
 simp only [execOp,resolve,hev,Deferred.ofValue,List.map_toArray,List.map_nil,Sem.run_bind,Sem.run_pure,Result.andThen_ok]
 rw [Oper.upon_defer]
 refine hK2 _ _ (wpList_nil ?_)
 have h20:=hI.put (some 20) (v:=.any) (u:=.func (.func 24) #[] #[a.tmps.getD 2 undef,a.tmps.getD 3 undef,a.tmps.getD 4 undef]) (by simp [rel])
 have hd:a.defers=[]:=hI.df
 refine h { s.hand [2,3,4] with F:=σ.F } (a.tmps.getD 2 undef) (a.tmps.getD 3 undef) (a.tmps.getD 4 undef) _ rfl ⟨?_,?_,?_⟩ (fun pk => ?_)
 . exact bx_ren (k:=2) (hI.tm 2 (by omega)) (zCD s [2,3,4] (i:=0) rfl).1
 . exact bx_ren (k:=3) (hI.tm 3 (by omega)) (zCD s [2,3,4] (i:=1) rfl).1
 . exact bx_ren (k:=4) (hI.tm 4 (by omega)) (zCD s [2,3,4] (i:=2) rfl).1
 . refine zJV (Sub.live (cs:=[(2,.bx (pn 0) 0),(3,.bx (pn 1) 0),(4,.bx (pn 2) 0),(5,zEt ts)]) (R:=zCL zDoc 0 0) ?_ ?_) (Inv.handed h20 [2,3,4] (by decide) (ρs:=[.box 25 zDoc,.box 3 [.c (.int .i64 0)],.box 26 [.c (.int .i64 0)]]) rfl pk [zFZ (a.tmps.getD 2 undef) (a.tmps.getD 3 undef) (a.tmps.getD 4 undef)] rfl ?_)
   . exact ⟨rfl,rfl,rfl,rfl,trivial⟩
   . exact ⟨rfl,rfl,rfl,trivial⟩
   . show zFZ _ _ _::a.defers=_
     rw [hd]
theorem zIS (s:List UInt8) (ts:List Tok) (hsc:AC EN5 Tryz.prog 23 [.c (.string (bs s))] (.tup [zEt ts,.c (.int .i64 0),.c (.int .i64 0)])) (ops:List D) (x':PS)
 (hdoc:ACE EN5 Tryz.prog 25 [.bx (pn 0) 0] [boxS ts ⟨ts,false,0⟩] (outS ts (fun l=>VDc (zA2 l)) (.ok (ops,x')))) :
 AC EN5 Tryz.prog 10 [.c (.string (bs s))] (.tup [.agg [.sl 45 ops],.c (.int .i64 0),.c (.int .i64 0)]):=by
 refine ac_by fun σ w us hus hfx he => ?_
 refine calls_of_wp_defers Tryz.func10 rfl ?_
 have hI:=zFM (nn:=26) (fn:=Tryz.f10) he rfl hus hfx
 have hP : ∀ Q,PQ (cx EN5 Tryz.prog σ w he) 26 Q:=fun Q _ _ _ _ _ _ h=>h.elim
 refine zJ6 ?_ hI
 clear hI
 refine zCI (hP _) ?_
 repeat' (first
|refine zA ?_
|refine zB ?_
|apply s_1
 conv=>whnf;arg 1;arg 4;arg 3;whnf
 refine ⟨?_,?_⟩
|exact trivial)
 refine k_q ?_
 refine zCI (hP _) ?_
 repeat' (first
|refine zA ?_
|refine zB ?_
|apply s_1
 conv=>whnf;arg 1;arg 4;arg 3;whnf
 refine ⟨?_,?_⟩
|apply zY rfl
 . conv=>lhs;whnf
 . conv=>lhs;whnf
 . first | exact hsc
|exact trivial)
 refine k_q ?_
 refine zCI (hP _) ?_
 repeat' (first
|refine zA ?_
|refine zB ?_
|refine zH ?_
|apply aw_1
 conv=>whnf
 refine ⟨?_,trivial⟩
|apply s_1
 conv=>whnf;arg 1;arg 4;arg 3;whnf
 refine ⟨?_,?_⟩
|exact trivial)
 refine k_q (awq_sub (st':=HP2_s ts) (Sub.live ⟨rfl,rfl,rfl,rfl,trivial⟩ ⟨rfl,rfl,rfl,trivial⟩) (awq_by fun s1 w1 a1 hI1 => ?_))
 refine zEN hI1 fun s0 p2 p3 p4 a' hF hps hpk => ?_
 obtain ⟨s2,hI2⟩:=hpk fun _ _ _=>False
 refine Code.wp_mono (fun en a3 w3 ⟨st3,s3,hI3,hK⟩ => ?_) (zLZ (rest_ok_s ts ops x' hdoc) hI2)
 rcases hK with hK | ⟨_,_,hK⟩
 . cases en
   case ret =>
    obtain ⟨s4,hI4⟩:=zJV (Sub.live (cs:=slotsP) (R:=zCL [.sl 45 ops] 0 0) hK.1 hK.2) hI3
    show Leaves _ _ _ _ a3.defers .returning w3
    rw [hI3.df]
    exact zJo ops 0 0 hF hps hI4 rfl
   all_goals exact hK.elim
 . exact hK.elim
theorem zJg (s:List UInt8) (ts:List Tok) (hsc:AC EN5 Tryz.prog 23 [.c (.string (bs s))] (.tup [zEt ts,.c (.int .i64 0),.c (.int .i64 0)])) (x:Nat × Int) (hok:(Lit.int .i64 (x.1:Int)).wf=true/\(Lit.int .i64 x.2).wf=true)
 (hdoc:ACE EN5 Tryz.prog 25 [.bx (pn 0) 0] [boxS ts ⟨ts,false,0⟩] (outS ts (fun l=>VDc (zA2 l)) (.error x))) :
 AC EN5 Tryz.prog 10 [.c (.string (bs s))] (.tup [.agg zDoc,.c (.int .i64 (x.1:Int)),.c (.int .i64 x.2)]):=by
 refine ac_by fun σ w us hus hfx he => ?_
 refine calls_of_wp_defers Tryz.func10 rfl ?_
 have hI:=zFM (nn:=26) (fn:=Tryz.f10) he rfl hus hfx
 have hP : ∀ Q,PQ (cx EN5 Tryz.prog σ w he) 26 Q:=fun Q _ _ _ _ _ _ h=>h.elim
 refine zJ6 ?_ hI
 clear hI
 refine zCI (hP _) ?_
 repeat' (first
|refine zA ?_
|refine zB ?_
|apply s_1
 conv=>whnf;arg 1;arg 4;arg 3;whnf
 refine ⟨?_,?_⟩
|exact trivial)
 refine k_q ?_
 refine zCI (hP _) ?_
 repeat' (first
|refine zA ?_
|refine zB ?_
|apply s_1
 conv=>whnf;arg 1;arg 4;arg 3;whnf
 refine ⟨?_,?_⟩
|apply zY rfl
 . conv=>lhs;whnf
 . conv=>lhs;whnf
 . first | exact hsc
|exact trivial)
 refine k_q ?_
 refine zCI (hP _) ?_
 repeat' (first
|refine zA ?_
|refine zB ?_
|refine zH ?_
|apply aw_1
 conv=>whnf
 refine ⟨?_,trivial⟩
|apply s_1
 conv=>whnf;arg 1;arg 4;arg 3;whnf
 refine ⟨?_,?_⟩
|exact trivial)
 refine k_q (awq_sub (st':=HP2_s ts) (Sub.live ⟨rfl,rfl,rfl,rfl,trivial⟩ ⟨rfl,rfl,rfl,trivial⟩) (awq_by fun s1 w1 a1 hI1 => ?_))
 refine zEN hI1 fun s0 p2 p3 p4 a' hF hps hpk => ?_
 obtain ⟨s2,hI2⟩:=hpk (pkP_s x)
 refine Code.wp_mono (fun en a3 w3 ⟨st3,s3,hI3,hK⟩ => ?_) (zLZ (rest_pan_s ts x hdoc) hI2)
 rcases hK with hK | ⟨pv,rfl,hK⟩
 . exact hK.elim
 . obtain ⟨rfl,h1,h2⟩:=hK
   obtain ⟨s4,hI4⟩:=zJV (Sub.live (cs:=slotsP) (R:=zCL zDoc 0 0) h1 h2) hI3
   show Leaves _ _ _ _ a3.defers (.panicking _) w3
   rw [hI3.df]
   exact zJp 0 0 x.1 x.2 hok hF hps hI4
end
end
section
set_option linter.unusedSectionVars false
def c1 (_:RS) (y:PS):Prop:=y.vr=false
section
variable {l:List Tok} {x:RS} {y:PS} (hE:Ed l) (hK:Kd l)
include hE
omit hE in
include hK
omit hK in
omit hK in
omit hK in
omit hK in
end
end
section
theorem Sx.start {ts:List Tok} (h:En ⟨ts,true,0⟩):Sx ts ⟨ts,false,0⟩:=⟨h,rfl,List.suffix_refl _⟩
section
variable {T:Tok->Tok->Prop} {I:Nat->Nat->Prop} (hT:TR T I)
include hT
theorem zHJ {el:PS->PR D} (hv : ∀ {x x':PS},XR T x x'->RR T I (el x) (el x')) (s:List UInt8) (most:Nat) : ∀ (f:Nat) (acc:List D) {x x':PS},XR T x x'->RR T I (manyF el s most f acc x) (manyF el s most f acc x')
 |0,_,_,_,h => .err hT h _
 |f+1,acc,x,x',h=>by
  unfold manyF
  rw [h.isS hT,(h.hd hT).1]
  exact .ite (fun _ => .okk (h.nx hT) _) fun _ => .ite (fun _ => .err hT h _) fun _ => .then (hv h) fun _ _ _ hy=>zHJ hv s most f _ hy
theorem in_rr {x x':PS} (h:XR T x x'):RR T I (inQ x) (inQ x'):=by
 unfold inQ
 refine .then (zBn hT h) fun _ _ _ hy => .then (zDH hT hy _) fun _ _ _ hz => .then (typ_rr hT hz) fun _ u u' hu => ?_
 rw [hu.isS hT]
 exact .then (.ite (fun _ => .then (zKA hT (hu.nx hT)) fun _ _ _ ho => .okk ho _) fun _ => .okk hu _) fun _ _ _ hv => .then (zHi hT hv) fun _ _ _ hw => .okk hw _
theorem ins_rr (s:List UInt8) {x x':PS} (h:XR T x x'):RR T I (insQ s x) (insQ s x'):=by
 unfold insQ
 rw [h.len]
 exact zHJ hT (in_rr hT) _ _ _ _ h
theorem fd_rr {x x':PS} (h:XR T x x'):RR T I (fdQ x) (fdQ x'):=by
 unfold fdQ
 refine .then (zBn hT h) fun _ y y' hy => ?_
 rw [hy.isS hT]
 exact .then (.ite (fun _=>ins_rr hT _ (hy.nx hT)) fun _ => .okk hy _) fun _ _ _ hz => .then (zDH hT hz _) fun _ _ _ hu => .then (typ_rr hT hu) fun _ _ _ hv => .then (zHi hT hv) fun _ _ _ hw => .okk hw _
theorem mb_rr {x x':PS} (h:XR T x x'):RR T I (mbQ x) (mbQ x'):=.then (zBn hT h) fun _ _ _ hy => .then (zHi hT hy) fun _ _ _ hz => .okk hz _
theorem fds_rr {x x':PS} (h:XR T x x'):RR T I (fdsQ x) (fdsQ x'):=by
 unfold fdsQ
 rw [h.len]
 exact zHJ hT (fd_rr hT) _ _ _ _ h
theorem mbs_rr {x x':PS} (h:XR T x x'):RR T I (mbsQ x) (mbsQ x'):=by
 unfold mbsQ
 rw [h.len]
 exact zHJ hT (mb_rr hT) _ _ _ _ h
theorem zIg (s:List UInt8) : ∀ (f:Nat) (acc:List D) {x x':PS},XR T x x'->RR T I (namesF s f acc x) (namesF s f acc x')
 |0,_,_,_,h => .err hT h _
 |f+1,acc,x,x',h=>by
  unfold namesF
  rw [(h.hd hT).1]
  refine .ite (fun _ => .err hT h _) fun _ => .then (zBn hT h) fun _ y y' hy => ?_
  rw [hy.isS hT]
  exact .ite (fun _=>zIg s f _ (hy.nx hT)) fun _ => .okk hy _
theorem zKh (s:List UInt8) {x x':PS} (h:XR T x x'):RR T I (zA0 s x) (zA0 s x'):=by
 unfold zA0
 rw [h.len]
 exact zIg hT s _ _ h
theorem faces_rr (k:Int) {x x':PS} (h:XR T x x'):RR T I (zAo k x) (zAo k x'):=by
 unfold zAo
 rw [(h.hd hT).1,(h.hd hT).2.1]
 exact .ite (fun _=>zKh hT _ (h.nx hT)) fun _ => .okk h _
theorem body_rr (k:Int) {x x':PS} (h:XR T x x'):RR T I (zBF k x) (zBF k x'):=by
 unfold zBF
 refine .ite (fun _ => .then (zDH hT h _) fun _ _ _ hy => .then (zKh hT _ hy) fun _ _ _ hz => .okk hz _) fun _ => .then (zDH hT h _) fun _ _ _ hy => ?_
 exact .ite (fun _ => .then (ins_rr hT _ hy) fun _ _ _ hz => .okk hz _) fun _ => .ite (fun _ => .then (mbs_rr hT hy) fun _ _ _ hz => .okk hz _) fun _ => .then (fds_rr hT hy) fun _ _ _ hz => .okk hz _
theorem sdef_rr (k:Int) {x x':PS} (h:XR T x x'):RR T I (zBQ k x) (zBQ k x'):=
 .then (zBn hT h) fun _ _ _ hy => .then (faces_rr hT k hy) fun _ _ _ hz => .then (zHi hT hz) fun _ _ _ hu => .then (body_rr hT k hu) fun _ _ _ hv => .okk hv _
theorem zKQ : ∀ (f:Nat) (acc:List D) {x x':PS},XR T x x'->RR T I (sdocF f acc x) (sdocF f acc x')
 |0,_,_,_,h => .err hT h _
 |f+1,acc,x,x',h=>by
  unfold sdocF
  rw [(h.hd hT).1,(h.hd hT).2.1]
  exact .ite (fun _ => .okk h _) fun _ => .ite (fun _ => .err hT h _) fun _ => .ite (fun _ => .err hT h _) fun _ => .then (sdef_rr hT _ (h.nx hT)) fun _ _ _ hy=>zKQ f _ hy
theorem sdoc_rr {ts ts':List Tok} (h:All2 T ts ts'):RR T I (sdocQ ts) (sdocQ ts'):=by
 unfold sdocQ
 rw [<- zDQ h]
 exact zKQ hT _ _ ⟨h,rfl,rfl⟩
end
end
section
def Mz {α:Type} (r:PR α):Prop:=∀ i e,r = .error (i,e)->0<e/\e<=100
section
variable {α β:Type}
theorem Mz.okk (p:α × PS):Mz (.ok p:PR α):=fun i e h=>by cases h
theorem Mz.err {i:Nat} {e:Int} (h:0<e/\e<=100):Mz (.error (i,e):PR α):=fun j e' hj=>by cases hj;exact h
theorem Mz.ite {c:Prop} [Decidable c] {a b:PR α} (h1:c->Mz a) (h2 : ¬ c->Mz b):Mz (if c then a else b):=by
 split
 . exact h1 ‹_›
 . exact h2 ‹_›
theorem Mz.then {r:PR α} {f:α->PS->PR β} (h:Mz r) (hf : ∀ a x,r = .ok (a,x)->Mz (f a x)):Mz (zb r f):=by
 cases hr:r with
 |error e =>
  rw [zl (r:=.error e) rfl]
  intro i e' hi
  cases hi
  exact h i e' hr
 |ok p =>
  obtain ⟨a,x⟩:=p
  rw [za (r:=.ok (a,x)) rfl]
  exact hf a x hr
theorem zDJ (s:List UInt8) (x:PS):Mz (takeQ s x):=by
 unfold takeQ
 exact .ite (fun _ => .okk _) fun _ => .err (by decide)
theorem zBp (x:PS):Mz (nameQ x):=by
 unfold nameQ
 exact .ite (fun _ => .okk _) fun _ => .err (by decide)
theorem zLV : ∀ (n:Nat) (w:List Int) (x:PS),Mz (closeQ n w x)
 |0,w,x=>by unfold closeQ;exact .okk _
 |n+1,w,x=>by unfold closeQ;exact .then (zDJ _ _) fun _ y _=>zLV n _ y
theorem inner_mz (x:PS):Mz (zAh x):=.then (zBp _) fun _ y _ => .then (zLV _ _ y) fun _ _ _ => .okk _
theorem typ_mz (x:PS):Mz (typQ x):=.then (inner_mz x) fun _ _ _ => .ite (fun _ => .err (by decide)) fun _ => .okk _
theorem zKx {v:PS->PR D} (hv : ∀ y,En y->Mz (v y)) (hl : ∀ {y z a},En y->v y = .ok (a,z)->En z/\z.ts.length<y.ts.length) : ∀ (f:Nat) (acc:List D) (x:PS),En x->x.ts.length<f->Mz (itemsQ v f acc x)
 |0,_,_,_,h=>by omega
 |f+1,acc,x,hx,h=>by
  unfold itemsQ
  exact .ite (fun _ => .okk _) fun _ => .then (hv x hx) fun _ y hq=>zKx hv hl f _ y (hl hx hq).1 (by have:=(hl hx hq).2;omega)
theorem zI4 {v:PS->PR D} (hv : ∀ y,En y->Mz (v y)) (hl : ∀ {y z a},En y->v y = .ok (a,z)->En z/\z.ts.length<y.ts.length) : ∀ (f:Nat) (ks:List (List UInt8)) (acc:List D) (x:PS),En x->x.ts.length<f->Mz (zu v f ks acc x)
 |0,_,_,_,_,h=>by omega
 |f+1,ks,acc,x,hx,h=>by
  unfold zu
  refine .ite (fun _ => .okk _) fun _ => .then (zBp x) fun k y hn => .ite (fun _ => .err (by decide)) fun _ => .then (zDJ _ y) fun u z ht => .then (hv z ?_) fun _ w hw=>zI4 hv hl f _ _ w ?_ ?_
  . exact ((hx.name hn).1.take ht).1
  . exact (hl ((hx.name hn).1.take ht).1 hw).1
  . have h1:=hx.name hn
    have h2:=h1.1.take ht
    have h3:=hl h2.1 hw
    omega
theorem zGk : ∀ (f lv:Nat) (x:PS),En x->lv<=25->26<=f+lv->Mz (valueQ f lv x)
 |0,lv,_,_,h1,h2=>by omega
 |f+1,lv,x,hx,h1,h2=>by
  have hy:En { nxT x with nd:=x.nd+1 }:=hx.nx0
  unfold valueQ
  refine .ite (fun _ => .err (by decide)) fun _ => .ite (fun _ => .err (by decide)) fun hlv => .ite (fun _ => .err (by decide)) fun _ => ?_
  dsimp only
  refine .ite (fun _ => .okk _) fun _ => .ite (fun _ => .okk _) fun _ => .ite (fun _ => .okk _) fun _ => .ite (fun _ => .then (zBp _) fun _ _ _ => .okk _) fun _ => .ite (fun _ => ?_) fun _ => ?_
  . exact .then (zKx (fun y hy=>zGk f (lv+1) y hy (by omega) (by omega)) (fun hy hq=>hy.valueL hq) _ _ _ hy (Nat.lt_succ_self _)) fun _ _ _ => .okk _
  . exact .then (zI4 (fun y hy=>zGk f (lv+1) y hy (by omega) (by omega)) (fun hy hq=>hy.valueL hq) _ _ _ _ hy (Nat.lt_succ_self _)) fun _ _ _ => .okk _
theorem zKC (x:PS) (h:En x):Mz (zAO x):=zGk 25 1 _ h (by omega) (by omega)
theorem zLe : ∀ (f:Nat) (acc:List D) (x:PS),En x->x.ts.length<=f->Mz (zC6 f acc x)
 |0,_,x,hx,h=>by obtain ⟨t,r,ht⟩:=hx.cons;rw [ht] at h;simp at h
 |f+1,acc,x,hx,h=>by
  unfold zC6
  refine .ite (fun _ => .okk _) fun _ => .ite (fun _ => .err (by decide)) fun _ => .then (zBp x) fun n y hn => .then (zDJ _ y) fun u z ht => .then (zKC z ?_) fun _ w hw=>zLe f _ w ?_ ?_
  . exact ((hx.name hn).1.take ht).1
  . exact (((hx.name hn).1.take ht).1.whole hw).1
  . have h1:=hx.name hn
    have h2:=h1.1.take ht
    have h3:=h2.1.whole hw
    omega
theorem args_mz (x:PS) (h:En x):Mz (zBc x):=.ite (fun hs=>zLe _ _ _ h.nx0 (by have:=(h.sg hs).2;omega)) fun _ => .okk _
theorem zLJ : ∀ (f:Nat) (acc:List D) (x:PS),En x->x.ts.length<f->Mz (dirsF f acc x)
 |0,_,_,_,h=>by omega
 |f+1,acc,x,hx,h=>by
  unfold dirsF
  refine .ite (fun hs => .ite (fun _ => .err (by decide)) fun _ => .then (zBp _) fun n y hn => .then (args_mz y ?_) fun _ z hz=>zLJ f _ z ?_ ?_) fun _ => .okk _
  . exact (hx.nx0.name hn).1
  . exact ((hx.nx0.name hn).1.args hz).1
  . have h1:=hx.sg hs
    have h2:=h1.1.name hn
    have h3:=h2.1.args hz
    omega
theorem zHk (x:PS) (h:En x):Mz (zAQ x):=zLJ _ _ _ h (Nat.lt_succ_self _)
end
end
section
section
variable {al:List Tok}
theorem zHL {el:PS->PR D} (hv : ∀ y,Sx al y->Mz (el y)) (hl : ∀ {y z a},Sx al y->el y = .ok (a,z)->Sx al z/\z.ts.length<y.ts.length) (s:List UInt8) (most:Nat) : ∀ (f:Nat) (acc:List D) (x:PS),Sx al x->x.ts.length<f->Mz (manyF el s most f acc x)
 |0,_,_,_,h=>by omega
 |f+1,acc,x,hx,h=>by
  unfold manyF
  exact .ite (fun _ => .okk _) fun _ => .ite (fun _ => .err (by decide)) fun _ => .then (hv x hx) fun _ y hq=>zHL hv hl s most f _ y (hl hx hq).1 (by have:=(hl hx hq).2;omega)
theorem in_mz (x:PS) (h:Sx al x):Mz (inQ x):=by
 unfold inQ
 refine .then (zBp x) fun n y h1 => .then (zDJ _ y) fun u z h2 => .then (typ_mz z) fun t v h3 => .then (.ite (fun hs => ?_) fun _ => .okk _) fun d o h4 => .then (zHk o ?_) fun _ _ _ => .okk _
 . have a:=(((h.name h1).1.take h2).1.typ h3).1
   exact .then (zKC _ (a.sg hs).1.en) fun _ _ _ => .okk _
 . have a:=(((h.name h1).1.take h2).1.typ h3).1
   by_cases hs:isS v [61]=true
   . rw [if_pos hs] at h4
     obtain ⟨d',z',h5,h6⟩:=zAJ h4
     cases h6
     exact ((a.sg hs).1.whole h5).1.en
   . rw [if_neg hs] at h4;cases h4;exact a.en
theorem ins_mz (s:List UInt8) (x:PS) (h:Sx al x):Mz (insQ s x):=zHL in_mz (fun hy hq=>hy.inp hq) _ _ _ _ _ h (Nat.lt_succ_self _)
theorem fd_mz (x:PS) (h:Sx al x):Mz (fdQ x):=by
 unfold fdQ
 refine .then (zBp x) fun n y h1 => .then (.ite (fun hs=>ins_mz _ _ ((h.name h1).1.sg hs).1) fun _ => .okk _) fun aa z h2 => .then (zDJ _ z) fun u v h3 => .then (typ_mz v) fun t o h4 => .then (zHk o ?_) fun _ _ _ => .okk _
 have a:=(h.name h1).1
 have hz:Sx al z:=by
  by_cases hs:isS y [40]=true
  . rw [if_pos hs] at h2;exact ((a.sg hs).1.ins h2).1
  . rw [if_neg hs] at h2;cases h2;exact a
 exact ((hz.take h3).1.typ h4).1.en
theorem mb_mz (x:PS) (h:Sx al x):Mz (mbQ x):=.then (zBp x) fun _ y h1 => .then (zHk y (h.name h1).1.en) fun _ _ _ => .okk _
theorem zIi (s:List UInt8) : ∀ (f:Nat) (acc:List D) (x:PS),Sx al x->x.ts.length<f->Mz (namesF s f acc x)
 |0,_,_,_,h=>by omega
 |f+1,acc,x,hx,h=>by
  unfold namesF
  refine .ite (fun _ => .err (by decide)) fun _ => .then (zBp x) fun n y h1 => .ite (fun hs => ?_) fun _ => .okk _
  have a:=hx.name h1
  have b:=a.1.sg hs
  exact zIi s f _ _ b.1 (by omega)
theorem zKj (s:List UInt8) (x:PS) (h:Sx al x):Mz (zA0 s x):=zIi s _ _ x h (Nat.lt_succ_self _)
theorem faces_mz (k:Int) (x:PS) (h:Sx al x):Mz (zAo k x):=.ite (fun hs=>zKj _ _ (h.nx (by rw [hs.2.1];decide)).1) fun _ => .okk _
theorem body_mz (k:Int) (x:PS) (h:Sx al x):Mz (zBF k x):=by
 unfold zBF
 refine .ite (fun _ => .then (zDJ _ x) fun _ y h1 => .then (zKj _ y (h.take h1).1) fun _ _ _ => .okk _) fun _ => .then (zDJ _ x) fun _ y h1 => ?_
 have a:=(h.take h1).1
 exact .ite (fun _ => .then (ins_mz _ y a) fun _ _ _ => .okk _) fun _ => .ite (fun _ => .then (zHL mb_mz (fun hy hq=>hy.mb hq) _ _ _ _ y a (Nat.lt_succ_self _)) fun _ _ _ => .okk _) fun _ => .then (zHL fd_mz (fun hy hq=>hy.fd hq) _ _ _ _ y a (Nat.lt_succ_self _)) fun _ _ _ => .okk _
theorem sdef_mz (k:Int) (x:PS) (h:Sx al x):Mz (zBQ k x):=
 .then (zBp x) fun _ y h1 => .then (faces_mz k y (h.name h1).1) fun _ z h2 => .then (zHk z ((h.name h1).1.faces h2).1.en) fun _ u h3 => .then (body_mz k u (((h.name h1).1.faces h2).1.dirs h3).1) fun _ _ _ => .okk _
theorem zKR : ∀ (f:Nat) (acc:List D) (x:PS),Sx al x->x.ts.length<f->Mz (sdocF f acc x)
 |0,_,_,_,h=>by omega
 |f+1,acc,x,hx,h=>by
  unfold sdocF
  refine .ite (fun _ => .okk _) fun _ => .ite (fun _ => .err (by decide)) fun hw => .ite (fun _ => .err (by decide)) fun _ => ?_
  have hk:(hdT x).k=2:=by
   by_cases h2:(hdT x).k=2
   . exact h2
   . exact (hw fun hh=>h2 hh.1).elim
  have a:=hx.nx (by rw [hk];decide)
  exact .then (sdef_mz _ _ a.1) fun d y hq=>zKR f _ y (a.1.sdef hq).1 (by have:=(a.1.sdef hq).2;omega)
end
theorem sdoc_mz {ts:List Tok} (h:En ⟨ts,true,0⟩):Mz (sdocQ ts):=zKR _ _ _ (Sx.start h) (Nat.lt_succ_self _)
theorem zKP {ts:List Tok} {N i:Nat} {e:Int} (h : ∀ t∈ts,t.i<=N) (hq:sdocQ ts = .error (i,e)):i<=N:=by
 have h1:=sdoc_rr (inT_tr N) (all2_in h)
 rw [hq] at h1
 exact h1.1.2
end
section
open Go.RowKit
set_option linter.unusedSectionVars false
attribute [local irreducible] wpList Calls Code.wp AW AWo OpOk seqK zm zo loopK endK AC zh Yld Sub
attribute [local irreducible] ACB ACX ACE absLexG YldG
theorem zGG : ∀ (f:Nat) (l:List UInt8) (i:Nat) (ts:List Tok),scanF f l i = .ok ts->ts.length<=l.length+1
 |0,_,_,_,h=>by cases h
 |f+1,l,i,ts,h=>by
  unfold scanF at h
  split at h
  . cases h
    simp
  . rename_i c r hl
    have hlen:(c::r).length=l.length-skipM false l:=by rw [<- hl,List.length_drop]
    have hsk:=zAb false l
    split at h
    . cases h
    . rename_i t n ht
      have hn:=zHA ht
      split at h
      . cases h
      . rename_i ts' hts
        cases h
        have:=zGG f _ _ _ hts
        rw [List.length_drop] at this
        simp only [List.length_cons] at *
        omega
theorem zIF {l:List UInt8} {ts:List Tok} (h:scanT l = .ok ts):ts.length<=65537:=by
 unfold scanT at h
 split at h
 . cases h
 . have:=zGG _ _ _ _ h
   omega
noncomputable def parseV:Except (Nat × Int) D->V
 |.ok q => .tup [.agg [.sl 45 (q.f 0).l],.c (.int .i64 0),.c (.int .i64 0)]
 |.error x => .tup [.agg zDoc,.c (.int .i64 (x.1:Int)),.c (.int .i64 x.2)]
theorem i64_wfS {n:Int} (h : -9000000000<=n/\n<=9000000000):(Lit.int .i64 n).wf=true:=by
 rw [zC8]
 simp [IntKind.min,IntKind.max,IntKind.signed,IntKind.bits];omega
theorem zBt (s:List UInt8) (hs:s.length<=4000000000):AC EN5 Tryz.prog 10 [.c (.string (bs s))] (parseV (parseD s)):=by
 have hsc:=scan_ac s hs
 unfold parseD
 cases h:scanT s with
 |error x =>
  rw [h] at hsc
  exact zJh s x.1 x.2 (zGz (i:=x.1) h) hsc
 |ok ts =>
  rw [h] at hsc
  have hen:=zE2 h
  have hkd:=(scan_kd h).1
  have hd:=p_doc (al:=ts) (by have:=zIF h;omega) hkd (Sx.start hen.1) (ts.length+1) (Nat.lt_succ_self _)
  have hd:ACE EN5 Tryz.prog 25 [.bx (pn 0) 0] [boxS ts ⟨ts,false,0⟩] (outS ts (fun l=>VDc (zA2 l)) (sdocQ ts)):=hd
  dsimp only
  cases hq:sdocQ ts with
  |error x =>
   rw [hq] at hd
   have h1:=sdoc_mz hen.1 x.1 x.2 hq
   have h2:=zKP hen.2 (i:=x.1) (e:=x.2) hq
   have hl:s.length<=65536:=by
    unfold scanT at h
    split at h
    . cases h
    . omega
   exact zJg s ts hsc x ⟨i64_wfS (by omega),i64_wfS (by omega)⟩ hd
  |ok r =>
   obtain ⟨l,x'⟩:=r
   rw [hq] at hd
   exact zIS s ts hsc l x' hd
end
section
open Go.RowKit
attribute [local irreducible] wpList Calls Code.wp
section
variable {P:Program} {s:Sg} {w w':World} {pas:Nat->Prop} {B:Nat} {rs:Nat->Option Res}
theorem zJr (h:MemOk P pas B rs s w) (cur:Array Value) (e:TypeId) (n:Nat):Keeps s.F (fun b o=>s.F b o\/(b=w.heap.size/\o<n)) w (w.alloc (.cells cur e)):=fun b o hF =>
 ⟨(zAd (w:=w) (h.fx b o hF)).trans rfl,.inl hF⟩
theorem MemOk.tokNew0 (h:MemOk P pas B rs s w) (hB:B<=w.heap.size) {k:Nat} (X:Nat->Prop) (hX : ∀ q,X q->q=k) (hf : ∀ q ρ,q≠k->rs q=some ρ -> ∀ n,X n->ρ.free n=true) {cur:Array Value} {e:TypeId} {c m:Nat} (hc:cur.size=c*P.cellsOf e) (hm:m<=c) (hmx:c<=maxLen)
 (hx:Ext X s w (s.tok k w.heap.size (m*P.cellsOf e) (.slice (some ⟨w.heap.size,0,none⟩) m c) m) (w.alloc (.cells cur e))) :
 MemOk P pas B (updR rs k (.tok e m)) (s.tok k w.heap.size (m*P.cellsOf e) (.slice (some ⟨w.heap.size,0,none⟩) m c) m) (w.alloc (.cells cur e)) where
 fx b o hF:=by
  rcases hF with hF | ⟨rfl,hF⟩
  . rw [zAd (w:=w) (h.fx b o hF)];exact h.fx b o hF
  . have:o<cur.size:=by rw [hc];exact Nat.lt_of_lt_of_le hF (Nat.mul_le_mul_right _ hm)
    have h2:=zBi (w:=w) (t:=e) (Array.getElem?_eq_getElem this)
    exact Option.isSome_iff_exists.2 ⟨_,h2⟩
 ho q ρ hq:=by
  by_cases e':q=k
  . subst e'
    simp only [updR,if_true] at hq
    cases hq
    refine ⟨by simp [Sg.tok],.inr ⟨w.heap.size,c,cur,by simp [Sg.tok],by simp [Sg.tok],heap_alloc_new w _,hm,hmx,hc,fun o ho hF => ?_⟩⟩
    rcases hF with hF | ⟨_,hF⟩
    . obtain ⟨v,hv⟩:=Option.isSome_iff_exists.1 (h.fx _ o hF)
      have:=block_lt_of_cell hv
      simp at this
    . omega
  . simp only [updR,if_neg e'] at hq
    refine (h.ho q ρ hq).keep hx (fun hXq=>e' (hX q hXq)) (by simp [Sg.tok,e']) (by simp [Sg.tok,e']) (fun n hn=>hf q ρ e' hq n hn) (fun b hb=>Below.heap_alloc w _ _ ((h.ho q ρ hq).lt hb)) (fun b o hb hF => ?_)
    rcases hF with hF | ⟨rfl,_⟩
    . exact hF
    . have:=(h.ho q ρ hq).lt hb;omega
 bs q ρ b hq hb:=by
  by_cases e':q=k
  . subst e'
    simp only [updR,if_true] at hq
    cases hq
    simp only [Sg.bk,Sg.tok,if_true] at hb
    cases hb;exact .inl hB
  . simp only [updR,if_neg e'] at hq
    rw [zBG e'] at hb
    exact h.bs q ρ b hq hb
 dj q r ρ ρ' b hq hr hqb hrb:=by
  by_cases e1:q=k<;>by_cases e2:r=k
  . rw [e1,e2]
  . simp only [updR,if_neg e2] at hr
    rw [zBG e2] at hrb
    subst e1
    simp only [updR,if_true] at hq
    cases hq
    simp only [Sg.bk,Sg.tok,if_true] at hqb
    cases hqb
    have:=(h.ho r ρ' hr).lt hrb
    omega
  . simp only [updR,if_neg e1] at hq
    rw [zBG e1] at hqb
    subst e2
    simp only [updR,if_true] at hr
    cases hr
    simp only [Sg.bk,Sg.tok,if_true] at hrb
    cases hrb
    have:=(h.ho q ρ hq).lt hqb
    omega
  . simp only [updR,if_neg e1] at hq
    simp only [updR,if_neg e2] at hr
    rw [zBG e1] at hqb
    rw [zBG e2] at hrb
    exact h.dj q r ρ ρ' b hq hr hqb hrb
end
section
variable {X:Cx} {nn:Nat} {st:Vst nn} {o:Oper} {K:Vst nn->Prop}
theorem opOk_lit0 {t e:TypeId} {by_ d:Nat} (ho:o.op = .buildSlice t 0 #[]) (hd:o.dst=some d) (hdl:Nat.ble d 999999=true) (he:zz X.P t=some (e,by_))
 (hK:K (((st.kill d).res d (.tok e 0)).put (some d) (.own d e []))):OpOk X o st K:=by
 intro s w a hI N Q hP hN
 obtain ⟨hu,hlay,i,z,hi,hz,hb,hpos,hzs,hsz⟩:=zBy he
 have ha:(Instr.buildSlice t 0 #[]).run X.P w = .ok (.slice (some ⟨w.heap.size,0,none⟩) 0 0) (w.alloc (.cells #[] e)):=by
  simp [Instr.buildSlice,run_underlying hu,sizeOf,typeInfo,hi,Instr.fill,newRow]
  have hr0:Array.map (fun _:Nat=>(default:Value)) (Array.range 0) = #[]:=by apply Array.ext<;>simp
  rw [hr0]
 unfold Oper.wp
 have hrun:(execOp a.eval o).run X.P w = .ok (.value (.slice (some ⟨w.heap.size,0,none⟩) 0 0)) (w.alloc (.cells #[] e)):=by simp [execOp,ho,ha]
 rw [hrun,Oper.upon_value,hd]
 have hI':=hI.kill d
 have hkeep:Keeps s.F (s.tok d w.heap.size (0*X.P.cellsOf e) (.slice (some ⟨w.heap.size,0,none⟩) 0 0) 0).F w (w.alloc (.cells #[] e)):=zJr hI.mem _ e _
 have hext:Ext (fun m=>m=d) s w (s.tok d w.heap.size (0*X.P.cellsOf e) (.slice (some ⟨w.heap.size,0,none⟩) 0 0) 0) (w.alloc (.cells #[] e)):=
  ⟨hkeep,fun _ _=>rfl,fun q hq => .inl (by simp only [Sg.tok];rw [if_neg hq])⟩
 have hmem:=hI'.mem.tokNew0 hI.base (k:=d) (fun m=>m=d) (fun _ h=>h) zIz (cur:=#[]) (c:=0) (m:=0) (by simp) (Nat.le_refl _) (Nat.zero_le _) hext
 refine hN _ _ _ _ (Inv.put (st:=(st.kill d).res d (.tok e 0)) (v:=.own d e []) ⟨hI.sz,fun i hi => ?_,hI.df,hI.fr.trans (zCf w _ _) (q:=fun _=>False) (fun _ h=>h.elim),hI.kp.trans hkeep,fun b o hb hnp hF => ?_,hmem,hI.pe.ext hext fun m hm=>by subst hm;exact Nat.le_of_ble_eq_true hdl⟩ (some d) ?_) hK
 . exact rel.ext hext _ _ (zAP (hI.tm i hi)).1 fun n hn=>by subst hn;exact (zAP (hI.tm i hi)).2
 . rcases hF with hF | ⟨rfl,_⟩
   . exact hI.nf b o hb hnp hF
   . have:=hI.base;omega
 . rw [rel]
   exact ⟨zBm (l:=[]) (Nat.le_refl _) (Nat.zero_le _) fun k hk=>absurd hk (Nat.not_lt_zero k),by simp [Sg.tok],fun _=>by simp [Sg.tok]⟩
theorem zEQ {t e:TypeId} {by_ k:Nat} {x y:Operand} {l:List D} (ho:o.op = .call { callee:=.builtin .append,args:=#[x,y],argTypes:=#[t,t] }) (he:zz X.P t=some (e,by_))
 (hx:ev st x = .own k e l) (hy:(ev st y).out = .sl e []) (hK:K (st.put o.dst (.own k e l))):OpOk X o st K:=by
 intro s w a hI N Q hP hN
 obtain ⟨hu,hlay,i,z,hi,hz,hb,hsp,hzs,hsz⟩:=zBy he
 have hxe:=hI.ev x
 rw [hx,rel] at hxe
 obtain ⟨k1,A,c1,hA,hc1,-,-,-⟩:=id hxe.1
 unfold Oper.wp
 have hye:=rel.out _ _ (hI.ev y)
 rw [hy,rel] at hye
 obtain ⟨k2,A2,c2,hy2,-,-,-,-⟩:=hye
 have hrun:(Builtin.append_ #[t,t] o.type #[a.eval x,a.eval y]).run X.P w = .ok (a.eval x) w:=by
  rw [hA,hy2]
  have hsz:(sizeOf e).run X.P w = .ok (X.P.cellsOf e) w:=by simp [sizeOf,typeInfo,hi,hsz]
  have hld : ∀ q,(loadCells q 0).run X.P w = .ok #[] w:=fun q=>by simp [loadCells,loadCellsFrom]
  cases A<;>cases A2<;>simp [Builtin.append_,run_underlying hu,hsz,Builtin.lenOf,Builtin.firstCells,storeCells,hld,Nat.not_lt.2 hc1]
 rw [zA3 ho hrun,Oper.upon_value]
 refine hN _ _ _ _ (hI.put o.dst ?_) hK
 rw [rel]
 exact hxe
theorem res_same0 {k:Nat} {ρ:Res} (h:st.rs k=some ρ):st.res k ρ=st:=by
 have e:(st.res k ρ).rs=st.rs:=funext fun m=>by
  show updR st.rs k ρ m=_
  unfold updR
  split
  . rename_i e;rw [e,h]
  . rfl
 calc st.res k ρ=⟨(st.res k ρ).tm,(st.res k ρ).rs⟩:=rfl
  _=st:=by rw [e];rfl
theorem zIa {t e:TypeId} {by_ k:Nat} {x y:Operand} {l l2:List D} (ho:o.op = .call { callee:=.builtin .append,args:=#[x,y],argTypes:=#[t,t] }) (he:zz X.P t=some (e,by_))
 (hleaf : ∀ d,(cellsV X.P 12 e d).all V.leaf=true) (hx:ev st x = .own k e l) (hr:st.rs k=some (.tok e l.length)) (hy:(ev st y).out = .sl e l2) (hlen:l.length+l2.length<=maxLen) (hby:(l.length+l2.length)*by_<=140737488355328)
 (hK:K ((st.res k (.tok e (l.length+l2.length))).put o.dst (.own k e (l++l2)))):OpOk X o st K:=by
 rcases Nat.eq_zero_or_pos l2.length with h0 | h0
 . have hl0:l2=[]:=List.eq_nil_of_length_eq_zero h0
   subst hl0
   rw [List.length_nil,Nat.add_zero,res_same0 hr,List.append_nil] at hK
   exact zEQ ho he hx hy hK
 . exact zAY ho he hleaf hx hr hy h0 hlen hby hK
end
end
section
open Go.RowKit
attribute [local irreducible] wpList Calls Code.wp
section
variable {X:Cx} {nn:Nat} {st:Vst nn} {ops:Array Oper} {o:Oper}
def Fresh (st:Vst nn) (d:Nat):Prop:=(∀ i,(st.tm i).free d=true) /\ ∀ m ρ,st.rs m=some ρ->m≠d/\ρ.free d=true
theorem zGW {d:Nat} (h:Fresh st d):st.kill d=st:=by
 have e1:(st.kill d).tm=st.tm:=funext fun i=>by
  show zJq d (st.tm i)=_
  unfold zJq;rw [if_pos (h.1 i)]
 have e2:(st.kill d).rs=st.rs:=funext fun m=>by
  unfold Vst.kill
  dsimp only
  cases hm:st.rs m with
  |none=>split<;>rfl
  |some ρ =>
   have:=h.2 m ρ hm
   rw [if_neg this.1]
   simp [this.2]
 calc st.kill d=⟨(st.kill d).tm,(st.kill d).rs⟩:=rfl
  _=st:=by rw [e1,e2]
theorem zJk {t:TypeId} {d:Nat} {vs:List V} {K:Vst nn->Prop} (ho:o.op = .alloc t) (hd:o.dst=some d) (hdl:Nat.ble d 999999=true) (hc:zFl X.P t=some vs) (hf:freeL d vs=true) (hfr:Fresh st d)
 (hK:K ((st.res d (.box t vs)).put (some d) (.bx d 0))):OpOk X o st K:=by
 refine zGN ho hd hdl hc hf ?_
 rw [zGW hfr];exact hK
theorem zIy {d:Nat} {t:Option Tmp} {v:V} {u:List (Nat × Res)} (h:Fresh st d) (hv:v.free d=true) (hu : ∀ p∈u,p.1≠d/\p.2.free d=true):Fresh (stp st t v u) d:=by
 unfold stp
 have hr : ∀ m ρ,updL st.rs u m=some ρ->m≠d/\ρ.free d=true:=by
  intro m ρ hm
  induction u with
  |nil=>exact h.2 m ρ hm
  |cons x u ih =>
   obtain ⟨k,ρ'⟩:=x
   change (if m=k then some ρ' else updL st.rs u m)=some ρ at hm
   split at hm
   . rename_i e
     cases hm
     have:=hu (k,ρ) (List.mem_cons_self ..)
     exact ⟨by rw [e];exact this.1,this.2⟩
   . exact ih (fun p hp=>hu p (List.mem_cons_of_mem _ hp)) hm
 cases t with
 |none=>exact ⟨h.1,hr⟩
 |some t =>
  refine ⟨fun i => ?_,hr⟩
  show (if i=t then v else st.tm i).free d=true
  split
  . exact hv
  . exact h.1 i
theorem fresh_put {d:Nat} {t:Option Tmp} {v:V} (h:Fresh st d) (hv:v.free d=true):Fresh (st.put t v) d:=zIy (u:=[]) h hv (fun _ hp=>by cases hp)
theorem fresh_res {d m:Nat} {ρ:Res} (h:Fresh st d) (hm:Nat.beq m d=false) (hv:ρ.free d=true):Fresh (st.res m ρ) d:=by
 refine ⟨h.1,fun q ρ' hq => ?_⟩
 change updR st.rs m ρ q=some ρ' at hq
 unfold updR at hq
 split at hq
 . rename_i e
   cases hq
   subst e
   exact ⟨fun e2=>by rw [e2] at hm;simp at hm,hv⟩
 . exact h.2 q ρ' hq
theorem fresh_S {d:Nat} {cs:List (Nat × V)} {R:List (Nat × Res)} (h:(cs.all (fun p=>p.2.free d)&&R.all fun p => !(Nat.beq p.1 d)&&p.2.free d)=true):Fresh (stS nn cs R) d:=by
 rw [Bool.and_eq_true,List.all_eq_true,List.all_eq_true] at h
 refine ⟨fun i => ?_,fun m ρ hm => ?_⟩
 . simp only [stS]
   split
   . rename_i p hp;exact h.1 p (List.mem_of_find?_eq_some hp)
   . rfl
 . simp only [stS] at hm
   split at hm
   . rename_i p hp
     have he:=List.find?_some hp
     simp at he
     cases hm
     have:=h.2 p (List.mem_of_find?_eq_some hp)
     rw [Bool.and_eq_true] at this
     refine ⟨fun e => ?_,this.2⟩
     rw [he,e] at this
     simp at this
   . cases hm
theorem opOk_lit0F {t e:TypeId} {by_ d:Nat} {K:Vst nn->Prop} (ho:o.op = .buildSlice t 0 #[]) (hd:o.dst=some d) (hdl:Nat.ble d 999999=true) (he:zz X.P t=some (e,by_)) (hfr:Fresh st d)
 (hK:K ((st.res d (.tok e 0)).put (some d) (.own d e []))):OpOk X o st K:=by
 refine opOk_lit0 ho hd hdl he ?_
 rw [zGW hfr];exact hK
def nfB (fr:List Nat) (v:V) (u:List (Nat × Res)):Bool:=fr.all fun d=>v.free d&&u.all fun p => !(Nat.beq p.1 d)&&p.2.free d
inductive YldA (X:Cx) (ops:Array Oper) (fr rd wr:List Nat) (o:Oper) (st:Vst nn):V->List (Nat × Res)->Prop where
 |old {v:V} {u:List (Nat × Res)} (h:YldG X ops rd wr o st v u) (hf:nfB fr v u=true):YldA X ops fr rd wr o st v u
 |alloc {t:TypeId} {d:Nat} {vs:List V} (hg:o.guard=none) (ho:o.op = .alloc t) (hd:o.dst=some d) (hdl:Nat.ble d 999999=true) (hc:zFl X.P t=some vs) (hfd:freeL d vs=true) (hw:wr.contains d=true) (hf:nfB fr (.bx d 0) [(d,.box t vs)]=true):YldA X ops fr rd wr o st (.bx d 0) [(d,.box t vs)]
 |lit0 {t e:TypeId} {by_ d:Nat} (hg:o.guard=none) (ho:o.op = .buildSlice t 0 #[]) (hd:o.dst=some d) (hdl:Nat.ble d 999999=true) (he:zz X.P t=some (e,by_)) (hw:wr.contains d=true) (hf:nfB fr (.own d e []) [(d,.tok e 0)]=true):YldA X ops fr rd wr o st (.own d e []) [(d,.tok e 0)]
 |app {t e:TypeId} {by_ k:Nat} {x y:Operand} {l l2:List D} (hg:o.guard=none) (hw:wr.contains k=true) (ho:o.op = .call { callee:=.builtin .append,args:=#[x,y],argTypes:=#[t,t] }) (he:zz X.P t=some (e,by_)) (hleaf : ∀ d,(cellsV X.P 12 e d).all V.leaf=true)
   (hx:ev st x = .own k e l) (hr:st.rs k=some (.tok e l.length)) (hy:(ev st y).out = .sl e l2) (hp:l.length+l2.length<=maxLen/\(l.length+l2.length)*by_<=140737488355328) (hf:nfB fr (.own k e (l++l2)) [(k,.tok e (l.length+l2.length))]=true) :
   YldA X ops fr rd wr o st (.own k e (l++l2)) [(k,.tok e (l.length+l2.length))]
theorem YldA.of {fr rd wr:List Nat} {d:Option Tmp} {v v':V} {u u':List (Nat × Res)} (hd : ∀ t,d=some t->t ∉ o.looksAt ops) (hu:Off rd wr u') :
 YldA X ops fr rd wr o (stp st d v' u') v u ↔ YldA X ops fr rd wr o st v u:=by
 have evs : ∀ x∈o.op.operands,ev (stp st d v' u') x=ev st x:=fun x hx=>zFT fun t ht hxt=>hd t ht (by
  subst hxt
  exact List.mem_append_left _ (List.mem_filterMap.2 ⟨.tmp t,by simpa using hx,rfl⟩))
 have hrs : ∀ n,wr.contains n=true->(stp st d v' u').rs n=st.rs n:=fun n hn=>by
  rw [zCS];exact zEY hu (.inr hn)
 constructor
 . intro h
   cases h with
   |old h hf=>exact .old ((YldG.of hd hu).1 h) hf
   |alloc hg ho hd' hdl hc hfd hw hf=>exact .alloc hg ho hd' hdl hc hfd hw hf
   |lit0 hg ho hd' hdl he hw hf=>exact .lit0 hg ho hd' hdl he hw hf
   |app hg hw ho he hleaf hx hr hy hp hf =>
    rw [evs _ (by rw [ho];simp [Op.operands,Call.operands])] at hx
    rw [evs _ (by rw [ho];simp [Op.operands,Call.operands])] at hy
    rw [hrs _ hw] at hr
    exact .app hg hw ho he hleaf hx hr hy hp hf
 . intro h
   cases h with
   |old h hf=>exact .old ((YldG.of hd hu).2 h) hf
   |alloc hg ho hd' hdl hc hfd hw hf=>exact .alloc hg ho hd' hdl hc hfd hw hf
   |lit0 hg ho hd' hdl he hw hf=>exact .lit0 hg ho hd' hdl he hw hf
   |app hg hw ho he hleaf hx hr hy hp hf =>
    rw [<- evs _ (by rw [ho];simp [Op.operands,Call.operands])] at hx
    rw [<- evs _ (by rw [ho];simp [Op.operands,Call.operands])] at hy
    rw [<- hrs _ hw] at hr
    exact .app hg hw ho he hleaf hx hr hy hp hf
theorem YldA.names {fr rd wr:List Nat} {v:V} {u:List (Nat × Res)} (h:YldA X ops fr rd wr o st v u) : ∀ p∈u,wr.contains p.1=true:=by
 cases h with
 |old h hf=>exact h.names
 |alloc hg ho hd' hdl hc hfd hw hf=>exact fun p hp=>by simp at hp;subst hp;exact hw
 |lit0 hg ho hd' hdl he hw hf=>exact fun p hp=>by simp at hp;subst hp;exact hw
 |app hg hw ho he hleaf hx hr hy hp hf=>exact fun p hp=>by simp at hp;subst hp;exact hw
theorem YldA.nf {fr rd wr:List Nat} {v:V} {u:List (Nat × Res)} (h:YldA X ops fr rd wr o st v u):nfB fr v u=true:=by
 cases h with
 |old h hf=>exact hf
 |alloc hg ho hd' hdl hc hfd hw hf=>exact hf
 |lit0 hg ho hd' hdl he hw hf=>exact hf
 |app hg hw ho he hleaf hx hr hy hp hf=>exact hf
theorem nfB_ok {fr:List Nat} {v:V} {u:List (Nat × Res)} (h:nfB fr v u=true) {d:Nat} (hd:d∈fr):v.free d=true /\ ∀ p∈u,p.1≠d/\p.2.free d=true:=by
 have:=List.all_eq_true.1 h d hd
 rw [Bool.and_eq_true,List.all_eq_true] at this
 refine ⟨this.1,fun p hp => ?_⟩
 have h2:=this.2 p hp
 rw [Bool.and_eq_true] at h2
 exact ⟨fun e=>by rw [e] at h2;simp at h2,h2.2⟩
variable {fr rd wr:Nat->List Nat}
def aOpH (X:Cx) (ops:Array Oper) (fr rd wr:Nat->List Nat) (i:Nat) (K:Vst nn->Prop) (st:Vst nn):Prop:=
 match ops[i]? with
 |none=>K st
 |some o => ∃ v u,YldA X ops (fr i) (rd i) (wr i) o st v u/\K (stp st o.dst v u)
theorem aOpH_mono {i:Nat} {K K':Vst nn->Prop} (h : ∀ st,K st->K' st) (hh:aOpH X ops fr rd wr i K st):aOpH X ops fr rd wr i K' st:=by
 unfold aOpH at *
 split
 . rename_i hn;simp only [hn] at hh;exact h _ hh
 . rename_i o ho
   simp only [ho] at hh
   obtain ⟨v,u,h1,h2⟩:=hh
   exact ⟨v,u,h1,h _ h2⟩
def absAnyH (X:Cx) (ops:Array Oper) (fr rd wr:Nat->List Nat) (Q:Vst nn->Prop):Nat->Array Bool->Vst nn->Prop
 |0,listed,st=>Region.ready .any ops listed=[]/\Q st
 |fuel+1,listed,st=>(Region.ready .any ops listed=[]->Q st) /\ ∀ i∈Region.ready .any ops listed,aOpH X ops fr rd wr i (absAnyH X ops fr rd wr Q fuel (listed.setIfInBounds i true)) st
theorem aOpH_put {i j:Nat} {oi oj:Oper} {v:V} {u:List (Nat × Res)} (hj:ops[j]? = some oj) (hap:oi.apart ops oj=true) (hn:zBd (wr i) (rd j)=true/\zBd (wr i) (wr j)=true/\zBd (wr j) (rd i)=true) {K:Vst nn->Prop} (hy:YldA X ops (fr i) (rd i) (wr i) oi st v u) (h:aOpH X ops fr rd wr j K (stp st oi.dst v u)) :
 aOpH X ops fr rd wr j (fun st'=>YldA X ops (fr i) (rd i) (wr i) oi st' v u/\K (stp st' oi.dst v u)) st:=by
 obtain ⟨h1,h2,h3⟩:=Oper.apart_spec hap
 unfold aOpH at *
 simp only [hj] at *
 obtain ⟨v',u',hy',hK⟩:=h
 have hu:Off (rd j) (wr j) u:=fun p hp=>by
  have hw:=hy.names p hp
  refine ⟨?_,?_⟩
  . cases hq:(rd j).contains p.1
    . rfl
    . exact (zAS hn.1 hw hq).elim
  . cases hq:(wr j).contains p.1
    . rfl
    . exact (zAS hn.2.1 hw hq).elim
 have hyj:YldA X ops (fr j) (rd j) (wr j) oj st v' u':=(YldA.of h1 hu).1 hy'
 have hu':Off (rd i) (wr i) u':=fun p hp=>by
  have hw:=hyj.names p hp
  refine ⟨?_,?_⟩
  . cases hq:(rd i).contains p.1
    . rfl
    . exact (zAS hn.2.2 hw hq).elim
  . cases hq:(wr i).contains p.1
    . rfl
    . exact (zAS hn.2.1 hq hw).elim
 have huu : ∀ p∈u,∀ q∈u',p.1≠q.1:=fun p hp q hq e=>by
  have h5:=hy.names p hp
  have h6:=hyj.names q hq
  rw [<- e] at h6
  exact zAS hn.2.1 h5 h6
 exact ⟨v',u',hyj,(YldA.of h3 hu').2 hy,by rw [<- zEv h2 huu];exact hK⟩
theorem zHw {Q:Vst nn->Prop} {i:Nat} {oi:Oper} {v:V} {u:List (Nat × Res)} (hi:ops[i]? = some oi) (hN:zBu ops rd wr=true) :
 ∀ (fuel:Nat) (listed:Array Bool) (st:Vst nn),Closed ops listed->(∀ j,j<i->listed.getD j false=true) ->
   (∀ j oj,ops[j]? = some oj->j≠i->listed.getD j true=false->(∀ e∈oj.after,Region.binds .any e=true->e.on≠i)->oi.apart ops oj=true) ->
   i∈Region.ready .any ops listed->YldA X ops (fr i) (rd i) (wr i) oi st v u ->
   absAnyH X ops fr rd wr Q fuel (listed.setIfInBounds i true) (stp st oi.dst v u)->absAnyH X ops fr rd wr Q (fuel+1) listed st:=by
 intro fuel
 induction fuel with
 |zero =>
  intro listed st _ _ _ hr hy H
  refine ⟨fun h=>(by rw [h] at hr;cases hr),fun j hj => ?_⟩
  by_cases hji:j=i
  . subst hji;unfold aOpH;simp only [hi];exact ⟨v,u,hy,H⟩
  . have:=ready_mono hj hji
    rw [H.1] at this
    cases this
 |succ fuel ih =>
  intro listed st hcl hlow hfree hr hy H
  refine ⟨fun h=>(by rw [h] at hr;cases hr),fun j hj => ?_⟩
  by_cases hji:j=i
  . subst hji;unfold aOpH;simp only [hi];exact ⟨v,u,hy,H⟩
  . have h1:=H.2 j (ready_mono hj hji)
    obtain ⟨hjun,oj,hoj,hall⟩:=mem_ready.1 hj
    have hiun:=(mem_ready.1 hr).1
    have hnot : ∀ e∈oj.after,Region.binds .any e=true->e.on≠i:=fun e he hb heq=>by
     have h1:=hall e he hb
     rw [heq] at h1
     exact zAM hiun h1
    have hij:i<j:=by
     rcases Nat.lt_trichotomy i j with h | h | h
     . exact h
     . exact absurd h.symm hji
     . exact (zAM hjun (hlow j h)).elim
    have hsz:j<ops.size:=(Array.getElem?_eq_some_iff.1 hoj).1
    have hnm:zBd (wr i) (rd j)=true/\zBd (wr i) (wr j)=true/\zBd (wr j) (rd i)=true:=by
     have h2:=List.all_eq_true.1 (List.all_eq_true.1 hN j (List.mem_range.2 hsz)) i (List.mem_range.2 hij)
     rw [Bool.or_eq_true] at h2
     rcases h2 with h2 | h2
     . simp only [Bool.and_eq_true] at h2;exact ⟨h2.1.1,h2.1.2,h2.2⟩
     . refine (zAM hiun (zDe hcl _ _ (fun k hk => ?_) i (by simpa using h2))).elim
       unfold zFm at hk
       rw [hoj] at hk
       obtain ⟨e,he,rfl⟩:=List.mem_map.1 hk
       obtain ⟨h2,h3⟩:=List.mem_filter.1 he
       exact hall e (by simpa using h2) h3
    have h2:=aOpH_put (i:=i) hoj (hfree j oj hoj hji hjun hnot) hnm hy h1
    have hfree' : ∀ k ok,ops[k]? = some ok->k≠i->(listed.setIfInBounds j true).getD k true=false ->
     (∀ e∈ok.after,Region.binds .any e=true->e.on≠i)->oi.apart ops ok=true:=fun k ok hk hki hun hno=>by
     refine hfree k ok hk hki ?_ hno
     by_cases hjk:j=k
     . subst hjk;exact hjun
     . rw [getD_set_ne true hjk] at hun;exact hun
    refine aOpH_mono (fun st' h3=>ih (listed.setIfInBounds j true) st' (hcl.set hj) (fun k hk=>getD_set_true (hlow k hk)) hfree' (ready_mono hr (Ne.symm hji)) h3.1 ?_) h2
    rw [Array.setIfInBounds_comm _ _ hji]
    exact h3.2
def absLexH (X:Cx) (ops:Array Oper) (fr rd wr:Nat->List Nat) (Q:Vst nn->Prop):Nat->List Oper->Vst nn->Prop
 |_,[],st=>Q st
 |k,o::rest,st => ∃ v u,YldA X ops (fr k) (rd k) (wr k) o st v u/\absLexH X ops fr rd wr Q (k+1) rest (stp st o.dst v u)
theorem zFk {Q:Vst nn->Prop} (hN:zBu ops rd wr=true) : ∀ (l:List Oper) (k:Nat) (listed:Array Bool) (st:Vst nn),(∀ j,l[j]? = ops[k+j]?)->Closed ops listed->(∀ j,j<k->listed.getD j false=true)->listed.size=ops.size ->
 Region.lexFrom .any ops l.length k listed=true->absLexH X ops fr rd wr Q k l st->absAnyH X ops fr rd wr Q l.length listed st
 |[],_,_,_,_,_,_,_,hB,h=>⟨by simpa [Region.lexFrom] using hB,h⟩
 |o::l,k,listed,st,hl,hcl,hlow,hsz,hB,h=>by
  have h0:ops[k]? = some o:=by simpa using (hl 0).symm
  have hk:k<ops.size:=(Array.getElem?_eq_some_iff.1 h0).1
  simp only [List.length_cons,Region.lexFrom,Bool.and_eq_true] at hB
  obtain ⟨⟨hr,hf⟩,hB'⟩:=hB
  have hr:k∈Region.ready .any ops listed:=by simpa using hr
  obtain ⟨v,u,hy,hK⟩:=h
  exact zHw h0 hN l.length listed st hcl hlow (Region.free_spec h0 hf) hr hy
   (zFk hN l (k+1) _ _ (fun j=>by have:=hl (j+1);simpa [Nat.add_assoc,Nat.add_comm 1 j] using this) (hcl.set hr) (fun j hj=>by
     by_cases e:j=k
     . subst e;exact zB9 (by omega)
     . exact getD_set_true (hlow j (by omega))) (by simpa using hsz) hB' hK)
def frOf (ops:Array Oper) (R:List (Nat × Nat)) (j:Nat):List Nat:=(R.filter fun p => !(Nat.beq p.1 j) && !(reachS ops ops.size (zFm ops j)).contains p.1).map (·.2)
theorem zDT (R:List (Nat × Nat)) (hR : ∀ i o t d,ops[i]? = some o->(o.op = .alloc t\/o.op = .buildSlice t 0 #[])->o.dst=some d->(i,d)∈R) {Q:Vst nn->Prop} {Q':Exit->Act->World->Prop} (hP:PQ X nn Q') (hQ : ∀ st' s' w' a',Inv X st' s' w' a'->Q st'->Q' .normal a' w') : ∀ (fuel:Nat) (listed:Array Bool) (st:Vst nn) (s:Sg) (w:World) (a:Act),Closed ops listed->(∀ p∈R,listed.getD p.1 true=false->Fresh st p.2)->Inv X st s w a ->
 absAnyH X ops (frOf ops R) rd wr Q fuel listed st->wpAny X.P .any ops Q' fuel listed a w
 |0,_,_,_,_,_,_,_,hI,h=>⟨h.1,hQ _ _ _ _ hI h.2⟩
 |fuel+1,listed,st,s,w,a,hcl,hfr,hI,h=>⟨fun h0=>hQ _ _ _ _ hI (h.1 h0),fun i hi=>by
  have h1:=h.2 i hi
  obtain ⟨hiun,oi,hoi,hall⟩:=mem_ready.1 hi
  unfold aOpH at h1
  unfold wpOp
  simp only [hoi] at h1 |-
  obtain ⟨v,u,hy,hK⟩:=h1
  have hnf:=hy.nf
  have hfr' : ∀ p∈R,(listed.setIfInBounds i true).getD p.1 true=false->Fresh (stp st oi.dst v u) p.2:=fun p hp hl=>by
   have hne:p.1≠i:=fun e=>by
    rw [e] at hl
    have hsz:i<listed.size \/ ¬ i<listed.size:=Nat.lt_or_ge i listed.size |>.imp id fun h=>by omega
    rw [Array.getD_eq_getD_getElem?,Array.getElem?_setIfInBounds] at hl
    rcases hsz with hsz | hsz
    . simp [hsz] at hl
    . simp [hsz] at hl
   have hl2:listed.getD p.1 true=false:=by rwa [getD_set_ne true (Ne.symm hne)] at hl
   have hmem:p.2∈frOf ops R i:=by
    refine List.mem_map.2 ⟨p,List.mem_filter.2 ⟨hp,?_⟩,rfl⟩
    rw [Bool.and_eq_true]
    refine ⟨by cases hb:Nat.beq p.1 i;rfl;exact (hne (Nat.eq_of_beq_eq_true hb)).elim,?_⟩
    rw [Bool.not_eq_true']
    cases hq:(reachS ops ops.size (zFm ops i)).contains p.1
    . rfl
    . refine (zAM hl2 (zDe hcl _ _ (fun k hk => ?_) p.1 (by simpa using hq))).elim
      unfold zFm at hk
      rw [hoi] at hk
      obtain ⟨e,he,rfl⟩:=List.mem_map.1 hk
      obtain ⟨h2,h3⟩:=List.mem_filter.1 he
      exact hall e (by simpa using h2) h3
   have:=nfB_ok hnf hmem
   exact zIy (hfr p hp hl2) this.1 this.2
  have go : ∀ {st':Vst nn} {s' w' a'},Inv X st' s' w' a'->(absAnyH X ops (frOf ops R) rd wr Q fuel (listed.setIfInBounds i true) st' /\ ∀ p∈R,(listed.setIfInBounds i true).getD p.1 true=false->Fresh st' p.2)->wpAny X.P .any ops Q' fuel (listed.setIfInBounds i true) a' w':=
   fun hI' hK'=>zDT R hR hP hQ fuel _ _ _ _ _ (hcl.set hi) hK'.2 hI' hK'.1
  cases hy with
  |old hy hf =>
   rcases hy with ⟨hg,hy⟩ | ⟨hg,rfl,rfl⟩
   . rw [if_pos (zHZ hg hI)]
     exact .inl (zIY (K:=fun st'=>absAnyH X ops (frOf ops R) rd wr Q fuel (listed.setIfInBounds i true) st' /\ ∀ p∈R,(listed.setIfInBounds i true).getD p.1 true=false->Fresh st' p.2) hy ⟨hK,hfr'⟩ s w a hI _ _ hP fun st' s' w' a' hI' hK'=>go hI' hK')
   . rw [if_neg (by rw [zHZ hg hI];simp)]
     exact go (hI.put oi.dst (by simp [rel])) ⟨hK,hfr'⟩
  |alloc hg ho hd hdl hc hfd hw hf =>
   rename_i t d vs
   rw [if_pos (zHZ (by simp [gw,hg]) hI)]
   have hst:stp st oi.dst (.bx d 0) [(d,.box t vs)]=((st.res d (.box t vs)).put (some d) (.bx d 0)):=by rw [zCT,hd]
   refine .inl (zJk (K:=fun st'=>absAnyH X ops (frOf ops R) rd wr Q fuel (listed.setIfInBounds i true) st' /\ ∀ p∈R,(listed.setIfInBounds i true).getD p.1 true=false->Fresh st' p.2) ho hd hdl hc hfd (hfr _ (hR i oi t d hoi (.inl ho) hd) hiun) ?_ s w a hI _ _ hP fun st' s' w' a' hI' hK'=>go hI' hK')
   rw [<- hst]
   exact ⟨hK,hfr'⟩
  |lit0 hg ho hd hdl he hw hf =>
   rename_i t e by_ d
   rw [if_pos (zHZ (by simp [gw,hg]) hI)]
   have hst:stp st oi.dst (.own d e []) [(d,.tok e 0)]=((st.res d (.tok e 0)).put (some d) (.own d e [])):=by rw [zCT,hd]
   refine .inl (opOk_lit0F (K:=fun st'=>absAnyH X ops (frOf ops R) rd wr Q fuel (listed.setIfInBounds i true) st' /\ ∀ p∈R,(listed.setIfInBounds i true).getD p.1 true=false->Fresh st' p.2) ho hd hdl he (hfr _ (hR i oi t d hoi (.inr ho) hd) hiun) ?_ s w a hI _ _ hP fun st' s' w' a' hI' hK'=>go hI' hK')
   rw [<- hst]
   exact ⟨hK,hfr'⟩
  |app hg hw ho he hleaf hx hr hy hp hf =>
   rename_i t e by_ k x y l l2
   rw [if_pos (zHZ (by simp [gw,hg]) hI)]
   have hst:stp st oi.dst (.own k e (l++l2)) [(k,.tok e (l.length+l2.length))]=((st.res k (.tok e (l.length+l2.length))).put oi.dst (.own k e (l++l2))):=zCT
   refine .inl (zIa (K:=fun st'=>absAnyH X ops (frOf ops R) rd wr Q fuel (listed.setIfInBounds i true) st' /\ ∀ p∈R,(listed.setIfInBounds i true).getD p.1 true=false->Fresh st' p.2) ho he hleaf hx hr hy hp.1 hp.2 ?_ s w a hI _ _ hP fun st' s' w' a' hI' hK'=>go hI' hK')
   rw [<- hst]
   exact ⟨hK,hfr'⟩⟩
theorem aw_drawH (r w:List (Nat × List Nat)) (R:List (Nat × Nat)) {id:Nat} {l:List Oper} {K:Exit->Vst nn->Prop} (hm:X.P.follows .mixedOrders=true) (hB:Region.lexB .any l.toArray=true) (hN:zBu l.toArray (nmf r) (nmf w)=true)
 (hR : ∀ i o t d,l.toArray[i]? = some o->(o.op = .alloc t\/o.op = .buildSlice t 0 #[])->o.dst=some d->(i,d)∈R) (hF : ∀ p∈R,Fresh st p.2) (h:absLexH X l.toArray (frOf l.toArray R) (nmf r) (nmf w) (K .normal) 0 l st):AW X (.region id l.toArray true) st K:=fun s wd a hI=>by
 simp only [Region.lexB,Bool.and_eq_true] at hB
 have hlow : ∀ k,(Array.replicate l.toArray.size false).getD k false=false:=fun k=>by
  rw [Array.getD_eq_getD_getElem?,Array.getElem?_replicate]
  split<;>rfl
 refine wp_region_any hm (zDT R hR (rd:=nmf r) (wr:=nmf w) (Q:=K .normal) (fun pv st' s' w' a' hI' hp=>⟨st',s',hI',.inr ⟨pv,rfl,hp⟩⟩) (fun st' s' w' a' hI' hK=>⟨st',s',hI',.inl hK⟩) _ _ st s _ a (fun k o _ hk=>by rw [hlow k] at hk;cases hk) (fun p hp _=>hF p hp) hI.drew ?_)
 have:=zFk (X:=X) (fr:=frOf l.toArray R) (rd:=nmf r) (wr:=nmf w) (Q:=K .normal) hN l 0 (Array.replicate l.toArray.size false) st (by simp) (fun k o _ hk=>by rw [hlow k] at hk;cases hk) (fun j hj=>absurd hj (Nat.not_lt_zero j)) (by simp) (by simpa using hB.2) h
 simpa using this
def allocsB (ops:Array Oper) (R:List (Nat × Nat)):Bool:=(List.range ops.size).all fun i=>match ops[i]? with
 |some o=>(match o.op,o.dst with | .alloc _,some d=>R.contains (i,d) | .buildSlice _ _ _,some d=>R.contains (i,d) | _,_=>true)
 |none=>true
theorem allocsB_ok {R:List (Nat × Nat)} (h:allocsB ops R=true) : ∀ i o t d,ops[i]? = some o->(o.op = .alloc t\/o.op = .buildSlice t 0 #[])->o.dst=some d->(i,d)∈R:=fun i o t d hi ho hd=>by
 have:=List.all_eq_true.1 h i (List.mem_range.2 (Array.getElem?_eq_some_iff.1 hi).1)
 rw [hi] at this
 rcases ho with ho | ho
 . simp only [ho,hd] at this
   simpa using this
 . simp only [ho,hd] at this
   simpa using this
theorem aw_drawA (r w:List (Nat × List Nat)) (R:List (Nat × Nat)) {id:Nat} {l:List Oper} {K:Exit->Vst nn->Prop} (hm:X.P.follows .mixedOrders=true) (hB:Region.lexB .any l.toArray=true) (hN:zBu l.toArray (nmf r) (nmf w)=true)
 (hA:allocsB l.toArray R=true) (hF : ∀ p∈R,Fresh st p.2) (h:absLexH X l.toArray (frOf l.toArray R) (nmf r) (nmf w) (K .normal) 0 l st):AW X (.region id l.toArray true) st K:=
 aw_drawH r w R hm hB hN (allocsB_ok hA) hF h
section
variable {l:List Oper} {Q:Vst nn->Prop} {d:Option Tmp} {k:Nat}
theorem h_nil (h:Q st):absLexH X ops fr rd wr Q k [] st:=h
theorem h_val {p:Prop} {v:V} (hg:o.guard=none) (hd:o.dst=d) (h:act1 X.P st.rs (ev st) o.op = .val p v) (hf:nfB (fr k) v []=true) (hK:absLexH X ops fr rd wr Q (k+1) l (st.put d v)) (hp:p) (hl:inO (rd k) (loads (ev st) o.op)=true):absLexH X ops fr rd wr Q k (o::l) st:=
 ⟨v,[],.old (.inl ⟨by simp [gw,hg],.val h hp hl⟩) hf,by rw [hd];exact hK⟩
theorem h_alloc {t:TypeId} {m:Nat} {vs:List V} (hg:o.guard=none) (ho:o.op = .alloc t) (hd:o.dst=some m) (hdl:Nat.ble m 999999=true) (hc:zFl X.P t=some vs) (hfd:freeL m vs=true) (hw:(wr k).contains m=true) (hf:nfB (fr k) (.bx m 0) [(m,.box t vs)]=true)
 (hK:absLexH X ops fr rd wr Q (k+1) l ((st.res m (.box t vs)).put (some m) (.bx m 0))):absLexH X ops fr rd wr Q k (o::l) st:=
 ⟨_,_,.alloc hg ho hd hdl hc hfd hw hf,by rw [zCT,hd];exact hK⟩
theorem h_store {t:TypeId} {x y:Operand} {m off:Nat} {t':TypeId} {vs xs:List V} (hg:o.guard=none) (ho:o.op = .store t x y) (hd:o.dst=none) (hx:ev st x = .bx m off) (hw:(wr k).contains m=true) (hr:st.rs m=some (.box t' vs)) (hc:cellsOf (ev st y)=some xs)
 (hs:X.P.cellsOf t=xs.length/\(X.P.info? t).isSome) (hl:Nat.ble (off+xs.length) vs.length=true) (hf:nfB (fr k) .any [(m,.box t' (splice vs off xs))]=true) (hK:absLexH X ops fr rd wr Q (k+1) l (st.res m (.box t' (splice vs off xs)))):absLexH X ops fr rd wr Q k (o::l) st:=
 ⟨_,_,.old (.inl ⟨by simp [gw,hg],.store hw ho hd hx hr hc hs (Nat.le_of_ble_eq_true hl)⟩) hf,by rw [hd,zCT];exact hK⟩
end
end
end
section
open Go.RowKit
attribute [local irreducible] wpList Calls Code.wp
mutual
def bulkD:D->Nat
 |.int _=>1
 |.bool _=>1
 |.str s=>s.size+1
 |.list l=>bulkL l+1
 |.obj l=>bulkL l+1
def bulkL:List D->Nat
 |[]=>0
 |d::r=>bulkD d+bulkL r
 end
def Fits (P:Program):Nat->TypeId->D->Prop
 |0,_,_=>False
 |k+1,t,d =>
  match P.underlying t with
  |some .bool => ∃ b,d = .bool b
  |some (.int _) => ∃ n,d = .int n
  |some .string => ∃ s,d = .str s
  |some (.slice e) => ∃ l,d = .list l /\ ∀ i,i<l.length->Fits P k e (gD l i)
  |some (.struct fs) => ∃ l,d = .obj l/\l.length=fs.size /\ ∀ j f,fs[j]? = some f->Fits P k f.type (gD l j)
  |_=>True
theorem bulk_pos {H:Type} (d:DataW H):1<=Rows.uptoBulk d:=by
 cases d with
 |lit x=>cases x<;>simp [Rows.uptoBulk]
 |_=>simp [Rows.uptoBulk]
theorem zED {H:Type} : ∀ (l:List D) (xs:List (DataW H × List MemPlace)),l.length=xs.length->(∀ i (h:i<xs.length),bulkD (gD l i)<=Rows.uptoBulk (xs[i]'h).1)->bulkL l<=Rows.uptoBulkAll (xs.map (·.1))
 |[],_,_,_=>by simp [bulkL]
 |d::r,[],h,_=>by simp at h
 |d::r,x::xs,h,hb=>by
  have h0:=hb 0 (by simp)
  have h1:=zED r xs (by simpa using h) fun i hi=>by
   have:=hb (i+1) (by simpa using hi)
   simpa [gD] using this
  simp only [List.map_cons,Rows.uptoBulkAll,bulkL]
  have e:gD (d::r) 0=d:=rfl
  rw [e] at h0
  have e2:(((x::xs)[0]'(by simp)).1)=x.1:=rfl
  rw [e2] at h0
  omega
theorem zCX {P:Program} {w:World} {H:Type} {enc:TypeId × Value->H} {held:Bool} {sp:Nat->Bool} : ∀ {k:Nat} {t:TypeId} {cs:List Value} {x:DataW H × List MemPlace},
 DataW.trod enc P w 0 sp held k t cs=some x -> ∃ d,Rep P w (fun b=>b<w.heap.size) k t cs d/\Fits P k t d/\bulkD d<=Rows.uptoBulk x.1
 |0,t,cs,x,h=>by simp [DataW.trod] at h
 |k+1,t,cs,x,h=>by
  have hpos:=bulk_pos x.1
  cases hu:P.underlying t with
  |none=>exact ⟨default,by unfold Rep;rw [hu];trivial,by unfold Fits;rw [hu];trivial,by show bulkD (.obj [])<=_;simpa [bulkD,bulkL] using hpos⟩
  |some ty =>
   cases ty
   case bool =>
    obtain ⟨b,rfl,_⟩:=DataW.trod_bool hu h
    exact ⟨.bool b,.mk_bool hu,by unfold Fits;rw [hu];exact ⟨b,rfl⟩,by simpa [bulkD] using hpos⟩
   case int q =>
    obtain ⟨n,rfl,_,hw⟩:=DataW.trod_int hu h
    exact ⟨.int n,.mk_int hu hw,by unfold Fits;rw [hu];exact ⟨n,rfl⟩,by simpa [bulkD] using hpos⟩
   case string =>
    obtain ⟨s,rfl,hx,hs⟩:=DataW.trod_string hu h
    refine ⟨.str s,.mk_str hu hs,by unfold Fits;rw [hu];exact ⟨s,rfl⟩,?_⟩
    rw [hx]
    simp [bulkD,Rows.uptoBulk]
   case slice e =>
    rcases DataW.trod_slice hu h with ⟨rfl,_⟩ | ⟨a,len,cap,elems,rest,n,hk,rfl,hx,_,hle,hcm,hlen,hel,_⟩
    . exact ⟨.list [],.mk_slice hu rfl (by simp) (by simp [maxLen]) (fun _=>rfl) (Sl.nil _ _ _),by unfold Fits;rw [hu];exact ⟨[],rfl,fun i hi=>by simp at hi⟩,by simpa [bulkD,bulkL] using hpos⟩
    . obtain rfl:n=k:=by omega
      have hx2 : ∀ i,i<len -> ∃ d,(∃ ys,w.cells? 0 (a.add (i*P.cellsOf e)) (P.cellsOf e)=some ys/\Rep P w (fun b=>b<w.heap.size) n e ys d)/\Fits P n e d /\ ∀ h:i<elems.length,bulkD d<=Rows.uptoBulk (elems[i]'h).1:=fun i hi=>by
       have h1:=hel i hi
       rw [List.getElem?_eq_getElem (by omega)] at h1
       obtain ⟨ys,y1,y2⟩:=Option.bind_eq_some_iff.1 h1
       obtain ⟨d,hd,hd2,hd3⟩:=zCX y2
       exact ⟨d,⟨ys,y1,hd⟩,hd2,fun _=>hd3⟩
      obtain ⟨l,hll,hl⟩:=zFe hx2
      refine ⟨.list l,.mk_slice hu hll.symm (by omega) hcm (fun h=>by cases h) ?_,by unfold Fits;rw [hu];exact ⟨l,rfl,fun i hi=>(hl i (by omega)).2.1⟩,?_⟩
      . intro h0 hc
        obtain ⟨b,off,spot⟩:=a
        obtain ⟨⟨ys,y1,_⟩,_⟩:=hl 0 (by omega)
        obtain ⟨_,y3,y4⟩:=World.cells?_some y1
        have y5:=y4 0 hc
        rw [List.getElem?_eq_getElem (by omega)] at y5
        have hspot:spot=none:=by simpa [Addr.add] using World.cell?_spot y5
        subst hspot
        have hbl:b<w.heap.size:=by simpa [Addr.add] using block_lt_of_cell y5
        refine ⟨b,off,rfl,hbl,fun i hi => ?_⟩
        obtain ⟨⟨ys,y1,y2⟩,_⟩:=hl i (by omega)
        obtain ⟨_,y3,y4⟩:=World.cells?_some y1
        refine ⟨ys,y3,fun j u hu => ?_,y2⟩
        have hj:j<P.cellsOf e:=by have:=(List.getElem?_eq_some_iff.1 hu).1;omega
        have:=y4 j hj
        rw [Go.WideShapes.add_plain,Go.WideShapes.add_plain,hu] at this
        exact this
      . have:=zED l elems (by omega) fun i hi=>(hl i (by omega)).2.2 hi
        rw [hx]
        simp only [bulkD,Rows.uptoBulk]
        omega
   case struct fs =>
    obtain ⟨xs,n,hk,hx,hcs,hxs,hf⟩:=DataW.trod_struct hu h
    obtain rfl:n=k:=by omega
    have hx2 : ∀ j,j<fs.size -> ∃ d,(∀ f,fs[j]? = some f->Rep P w (fun b=>b<w.heap.size) n f.type ((cs.drop f.offset).take (P.cellsOf f.type)) d/\Fits P n f.type d) /\ ∀ h:j<xs.length,bulkD d<=Rows.uptoBulk (xs[j]'h).1:=fun j hj=>by
     have h1:=hf j fs[j] (Array.getElem?_eq_getElem hj)
     rw [List.getElem?_eq_getElem (by omega)] at h1
     obtain ⟨d,hd,hd2,hd3⟩:=zCX h1
     refine ⟨d,fun f hf => ?_,fun _=>hd3⟩
     rw [Array.getElem?_eq_getElem hj] at hf
     cases hf;exact ⟨hd,hd2⟩
    obtain ⟨l,hll,hl⟩:=zFe hx2
    refine ⟨.obj l,.mk_struct hu hcs fun j f hjf=>((hl j (Array.getElem?_eq_some_iff.1 hjf).1).1 f hjf).1,by unfold Fits;rw [hu];exact ⟨l,rfl,hll,fun j f hjf=>((hl j (Array.getElem?_eq_some_iff.1 hjf).1).1 f hjf).2⟩,?_⟩
    have:=zED l xs (by omega) fun i hi=>(hl i (by omega)).2 hi
    rw [hx]
    simp only [bulkD,Rows.uptoBulk]
    omega
   all_goals exact ⟨default,by unfold Rep;rw [hu];trivial,by unfold Fits;rw [hu];trivial,by show bulkD (.obj [])<=_;simpa [bulkD,bulkL] using hpos⟩
end
section
def i64D (n:Int):Prop:=-9223372036854775808<=n/\n<=9223372036854775807
def Dp:Nat->D->Prop
 |0,_=>False
 |k+1,d => ∀ i,i<(d.f 3).l.length->Dp k (gD (d.f 3).l i)
mutual
def wideD:D->Prop
 |.int n=>i64D n
 |.bool _=>True
 |.str _=>True
 |.list l=>zHz l
 |.obj l=>zHz l
def zHz:List D->Prop
 |[]=>True
 |d::r=>wideD d/\zHz r
end
theorem zEo : ∀ {l:List D},zHz l -> ∀ i,wideD (gD l i)
 |[],_,i=>by show wideD (.obj []);simp [wideD,zHz]
 |d::r,h,i=>by
  rw [zHz] at h
  cases i with
  |zero=>exact h.1
  |succ i=>exact zEo h.2 i
theorem wideD.f {d:D} (h:wideD d) (i:Nat):wideD (d.f i):=by
 cases d with
 |obj l=>rw [wideD] at h;exact zEo h i
 |_=>show wideD (.obj []);simp [wideD,zHz]
theorem wideD.l {d:D} (h:wideD d) (i:Nat):wideD (gD d.l i):=by
 cases d with
 |list l=>rw [wideD] at h;exact zEo h i
 |_=>show wideD (.obj []);simp [wideD,zHz]
theorem wideD.n {d:D} (h:wideD d):i64D d.n:=by
 cases d with
 |int n=>rw [wideD] at h;exact h
 |_=>show i64D 0;unfold i64D;omega
def sumN (f:Nat->Nat):Nat->Nat
 |0=>0
 |n+1=>sumN f n+f n
theorem zGp {f g:Nat->Nat} : ∀ {n:Nat},(∀ i,i<n->f i<=g i)->sumN f n<=sumN g n
 |0,_=>Nat.le_refl _
 |n+1,h=>by
  have:=zGp (n:=n) fun i hi=>h i (by omega)
  have:=h n (by omega)
  simp only [sumN];omega
theorem zDX (f:Nat->Nat) {n m:Nat} (h:n<=m):sumN f n<=sumN f m:=by
 induction m with
 |zero=>have:n=0:=by omega
        subst this;exact Nat.le_refl _
 |succ m ih =>
  rcases Nat.lt_or_ge n (m+1) with h' | h'
  . have:=ih (by omega);simp only [sumN];omega
  . have:n=m+1:=by omega
    subst this;exact Nat.le_refl _
theorem zH7 (f:Nat->Nat) : ∀ n,sumN f (n+1)=f 0+sumN (fun i=>f (i+1)) n
 |0=>by simp [sumN]
 |n+1=>by rw [sumN,zH7 f n,sumN];omega
def wD (d:D):Nat:=bulkD d-1
theorem zCn (d:D):1<=bulkD d:=by cases d<;>simp [bulkD]
theorem zBj (d:D):bulkD d=wD d+1:=by unfold wD;have:=zCn d;omega
theorem zKD (d:D):d.s.size<=wD d:=by
 cases d with
 |str s=>simp [wD,bulkD,D.s]
 |_=>exact Nat.zero_le _
theorem zJQ (d:D):bulkL d.l<=wD d:=by cases d<;>simp [wD,bulkD,D.l,bulkL]
theorem zCm : ∀ (l:List D),bulkL l=sumN (fun i=>bulkD (gD l i)) l.length
 |[]=>rfl
 |d::r=>by
  rw [bulkL,zCm r,List.length_cons,zH7];rfl
theorem bulkL_out (l:List D) : ∀ n,sumN (fun i=>wD (gD l i)) n<=bulkL l:=by
 intro n
 have hout : ∀ i,l.length<=i->wD (gD l i)=0:=fun i hi=>by
  unfold gD
  rw [List.getD_eq_getElem?_getD,List.getElem?_eq_none hi];rfl
 have hin : ∀ m,m<=l.length->sumN (fun i=>wD (gD l i)) m<=bulkL l:=fun m hm=>by
  rw [zCm]
  refine Nat.le_trans (zDX _ hm) (zGp fun i hi => ?_)
  have:=zBj (gD l i);omega
 rcases Nat.le_total n l.length with h | h
 . exact hin n h
 . obtain ⟨m,rfl⟩:=Nat.exists_eq_add_of_le h
   clear h
   induction m with
   |zero=>exact hin _ (Nat.le_refl _)
   |succ m ih =>
    rw [<- Nat.add_assoc,sumN,hout (l.length+m) (by omega)]
    omega
theorem zH1 (d:D) (n:Nat):sumN (fun i=>wD (d.f i)) n<=wD d:=by
 cases d with
 |obj l=>exact bulkL_out l n
 |_ =>
  refine Nat.le_trans (zGp (g:=fun _=>0) fun i _ => ?_) (Nat.le_trans (Nat.le_of_eq ?_) (Nat.zero_le _))
  . show wD (.obj [])<=0
    simp [wD,bulkD,bulkL]
  . induction n with
    |zero=>rfl
    |succ n ih=>simp only [sumN,ih]
theorem wD_f (d:D) (i:Nat):wD (d.f i)<=wD d:=by
 have:=zH1 d (i+1)
 simp only [sumN] at this;omega
theorem zDs {l:List D} {i:Nat} (h:i<l.length):bulkD (gD l i)<=bulkL l:=by
 rw [zCm]
 have:=zDX (fun i=>bulkD (gD l i)) (show i+1<=l.length by omega)
 simp only [sumN] at this;omega
theorem bulk_item {d:D} {j i:Nat} (h:i<(d.f j).l.length):bulkD (gD (d.f j).l i)<=wD d:=by
 have h1:=zDs h
 have h2:=zJQ (d.f j)
 have h3:=wD_f d j
 omega
theorem zBY : ∀ (k:Nat) (d:D),bulkD d<=k->Dp k d
 |0,d,h=>by have:=zCn d;omega
 |k+1,d,h=>fun i hi=>zBY k _ (by have:=bulk_item hi;have:=zBj d;omega)
def maxN (f:Nat->Nat):Nat->Nat
 |0=>0
 |n+1=>max (maxN f n) (f n)
def sizeR:Nat->D->Nat
 |0,_=>1
 |k+1,d=>1+sumN (fun i=>sizeR k (gD (d.f 3).l i)) (d.f 3).l.length
def depthR:Nat->D->Nat
 |0,_=>1
 |k+1,d=>maxN (fun i=>depthR k (gD (d.f 3).l i)) (d.f 3).l.length+1
def strsR (d:D):List (List UInt8):=(d.f 4).l.map fun x=>x.s.data.toList
def zFv (s:ByteArray):Bool:=nameB s && !(s.data.toList==[116,114,117,101]) && !(s.data.toList==[102,97,108,115,101]) && !(s.data.toList==[110,117,108,108])
def zId (n i:Int) (t:Bool) (a b:Nat) (x v ks y:Bool):Bool:=
 (n==1||n==2||i==0)&&(n==3||n==4||n==7||t)&&(n==6||a==0)&&(n==6||n==5||b==0)&&decide (0<=n/\n<=7)&&(!(n==1)||i==0||i==1)&&(!(n==4)||x)&&(!(n==7)||v)&&(!(n==6)||(ks&&a==b&&y))
def nodeL (d:D):Bool:=
 zId (d.f 0).n (d.f 1).n ((d.f 2).s.data.toList==[]) (d.f 4).l.length (d.f 3).l.length (zFv (d.f 2).s) (nameB (d.f 2).s) (!((d.f 4).l.any fun x => !nameB x.s)) (decide (strsR d).Nodup)
def everyL:Nat->D->Bool
 |0,_=>false
 |k+1,d=>nodeL d && !((d.f 3).l.any fun x => !everyL k x)
def litR (d:D):Bool:=decide (sizeR (bulkD d) d<=4096)&&decide (depthR (bulkD d) d<=24)&&everyL (bulkD d) d
def bareR:Nat->D->Bool
 |0,_=>false
 |k+1,d => !((d.f 0).n==7) && !((d.f 3).l.any fun x => !bareR k x)
def argR (d:D):Bool:=nameB (d.f 0).s&&litR (d.f 1)
def argsR (l:List D):Bool:=decide (l.length<=16) && !(l.any fun x => !argR x)
def dirR (d:D):Bool:=nameB (d.f 0).s&&argsR (d.f 1).l
def dirsR (l:List D):Bool:=decide (l.length<=16) && !(l.any fun x => !dirR x)
def zAx:List Int->Bool
 |[]=>true
 |[w]=>w==1||w==2
 |w::v::r=>(w==1||w==2) && !(w==1&&v==1)&&zAx (v::r)
def refR (d:D):Bool:=nameB (d.f 0).s&&decide ((d.f 1).l.length<=24)&&zAx ((d.f 1).l.map D.n)
end
section
open Go.RowKit
set_option linter.unusedSectionVars false
attribute [local irreducible] wpList Calls Code.wp AW AWo OpOk seqK zm zo loopK endK AC zh Yld Sub
attribute [local irreducible] ACB ACX ACE absLexG YldG
def idxF (l:List D) (p:D->Bool):Int:=match l.findIdx? p with | some i=>(i:Int) | none => -1
theorem idxF_at {l:List D} {p:D->Bool} {i:Nat} (hi:i<l.length) (h : ∀ m,m<i->p (gD l m)=false) (he:p (gD l i)=true):idxF l p=i:=by
 unfold idxF
 have:l.findIdx? p=some i:=by
  rw [List.findIdx?_eq_some_iff_getElem]
  exact ⟨hi,by rw [<- zBx hi];exact he,fun j hj=>by rw [<- zBx (by omega),h j hj];decide⟩
 rw [this]
theorem idxF_no {l:List D} {p:D->Bool} (h : ∀ m,m<l.length->p (gD l m)=false):idxF l p = -1:=by
 unfold idxF
 have:l.findIdx? p=none:=by
  rw [List.findIdx?_eq_none_iff]
  intro x hx
  obtain ⟨i,hi,e⟩:=List.getElem_of_mem hx
  rw [<- e,<- zBx hi];exact h i hi
 rw [this]
theorem zK4 (l:List D) (p:D->Bool):decide (idxF l p>=0)=l.any p:=by
 unfold idxF
 cases h:l.findIdx? p with
 |none =>
  rw [List.findIdx?_eq_none_iff] at h
  have:l.any p=false:=by rw [List.any_eq_false];intro x hx;rw [h x hx];decide
  rw [this];rfl
 |some i =>
  rw [List.findIdx?_eq_some_iff_getElem] at h
  obtain ⟨hi,he,_⟩:=h
  have:l.any p=true:=List.any_eq_true.2 ⟨_,List.getElem_mem hi,he⟩
  rw [this]
  exact decide_eq_true (Int.natCast_nonneg i)
noncomputable def HiKey (l:List D) (i:Nat):Vst 19:=stS 19 [(0,.sl 9 l),(1,.c (.func (.func 250) #[] #[])),(7,.c (.int .i64 (l.length:Nat))),(8,.c (.int .i64 (i:Int)))] []
theorem zJs (l:List D) (p:D->Bool) (hn:l.length<=9223372036854775807) (hc : ∀ i,i<l.length->AC EN5 Tryz.prog 250 [.c (.string (gD l i).s)] (.c (.bool (p (gD l i))))):AC EN5 Tryz.prog 261 [.sl 9 l,.c (.func (.func 250) #[] #[])] (.c (.int .i64 (idxF l p))):=by
 refine zM 19 Tryz.func261 rfl rfl rfl rfl ?_
 intro s w he
 repeat' (first
|refine zA ?_
|refine zB ?_
|refine zH ?_
|apply aw_1
 conv=>whnf
 refine ⟨?_,trivial⟩
|apply s_1
 conv=>whnf;arg 1;arg 4;arg 3;whnf
 refine ⟨?_,?_⟩
|exact trivial)
 refine zf (fun j st => ∃ i,i+j=l.length/\(∀ m,m<i->p (gD l m)=false)/\Sub (cx EN5 Tryz.prog s w he) st (HiKey l i)) l.length ⟨0,by omega,fun m hm=>absurd hm (Nat.not_lt_zero m),Sub.live ⟨rfl,rfl,rfl,rfl,trivial⟩ trivial⟩ ?_
 rintro j st ⟨i,hij,hno,hs2⟩
 refine zi hs2 ?_
 clear hs2
 by_cases hi:i<l.length
 . have f0:decide ((i:Int)<(l.length:Nat))=true:=decide_eq_true (by omega)
   have hc2:=hc i hi
   repeat' (first
|apply zG
 . conv=>lhs;whnf
 . assumption
|refine zA ?_
|refine zB ?_
|refine zH ?_
|refine zW ?_
|apply aw_1
 conv=>whnf
 refine ⟨?_,trivial⟩
|apply s_1
 conv=>whnf;arg 1;arg 4;arg 3;whnf
 refine ⟨?_,?_⟩
|apply zY rfl
 . conv=>lhs;whnf
 . conv=>lhs;whnf
 . first | exact hc2
|refine ze (by conv=>lhs;whnf) ?_ ?_<;>intro hb
|refine zN ?_
|refine zP ?_
|refine zg ?_
|refine zE ?_
|refine ⟨_,by conv=>lhs;whnf;arg 2;whnf,?_⟩;conv=>rhs;whnf
|exact trivial)
   . show V.c _=V.c _
     rw [idxF_at hi hno hb]
   . refine zI (j':=j-1) (by omega) ⟨i+1,by omega,fun m hm => ?_,Sub.live ⟨rfl,rfl,rfl,rfl,trivial⟩ trivial⟩
     by_cases e:m=i
     . subst e;exact hb
     . exact hno m (by omega)
   all_goals first
    |exact zR (by omega)
    |exact ⟨by omega,by omega⟩
 . have f0:decide ((i:Int)<(l.length:Nat))=false:=decide_eq_false (by omega)
   repeat' (first
|apply zF
 . conv=>lhs;whnf
 . assumption
|refine zA ?_
|refine zB ?_
|refine zH ?_
|apply aw_1
 conv=>whnf
 refine ⟨?_,trivial⟩
|apply s_1
 conv=>whnf;arg 1;arg 4;arg 3;whnf
 refine ⟨?_,?_⟩
|refine zL ?_
|refine zJ rfl ?_
|refine zK ?_
|refine zE ?_
|refine ⟨_,by conv=>lhs;whnf;arg 2;whnf,?_⟩;conv=>rhs;whnf
|exact trivial)
   show V.c _=V.c _
   rw [idxF_no fun m hm=>hno m (by omega)]
theorem zFx (l:List D) (p:D->Bool) (hn:l.length<=9223372036854775807) (hc : ∀ i,i<l.length->AC EN5 Tryz.prog 250 [.c (.string (gD l i).s)] (.c (.bool (p (gD l i))))):AC EN5 Tryz.prog 249 [.sl 9 l,.c (.func (.func 250) #[] #[])] (.c (.bool (l.any p))):=by
 have h1:=zJs l p hn hc
 rw [<- zK4]
 refine zM 9 Tryz.func249 rfl rfl rfl rfl ?_
 intro s w he
 repeat' (first
|refine zA ?_
|refine zB ?_
|refine zH ?_
|apply aw_1
 conv=>whnf
 refine ⟨?_,trivial⟩
|apply s_1
 conv=>whnf;arg 1;arg 4;arg 3;whnf
 refine ⟨?_,?_⟩
|apply zY rfl
 . conv=>lhs;whnf
 . conv=>lhs;whnf
 . first | exact h1
|refine zE ?_
|refine ⟨_,by conv=>lhs;whnf;arg 2;whnf,?_⟩;conv=>rhs;whnf
|exact trivial)
noncomputable def HiEvery (lv:Bool) (l:List D) (i:Nat):Vst 19:=stS 19 [(0,.sl 53 l),(1,.clo 236 [.bx (pn 0) 0]),(7,.c (.int .i64 (l.length:Nat))),(8,.c (.int .i64 (i:Int)))] [(pn 0,.box 4 [.c (.bool lv)])]
theorem zFu (lv:Bool) (l:List D) (p:D->Bool) (hn:l.length<=9223372036854775807) (hc : ∀ i,i<l.length->ACB EN5 Tryz.prog 236 [.agg (cellsV Tryz.prog 12 53 (gD l i)),.bx (pn 0) 0] [.box 4 [.c (.bool lv)]] (.c (.bool (p (gD l i)))) [.box 4 [.c (.bool lv)]]):ACB EN5 Tryz.prog 252 [.sl 53 l,.clo 236 [.bx (pn 0) 0]] [.box 4 [.c (.bool lv)]] (.c (.int .i64 (idxF l p))) [.box 4 [.c (.bool lv)]]:=by
 refine zAZ (fn:=Tryz.f252) 19 Tryz.func252 rfl rfl ?_
 intro pas w0 w he hpp
 repeat' (first
|refine zA ?_
|refine zB ?_
|refine zH ?_
|apply aw_1
 conv=>whnf
 refine ⟨?_,trivial⟩
|apply s_1
 conv=>whnf;arg 1;arg 4;arg 3;whnf
 refine ⟨?_,?_⟩
|exact trivial)
 refine zf (fun j st => ∃ i,i+j=l.length/\(∀ m,m<i->p (gD l m)=false)/\Sub ⟨Tryz.prog,pas,w0,w,EN5,he,hpp,fun _ _ _=>False,[]⟩ st (HiEvery lv l i)) l.length ⟨0,by omega,fun m hm=>absurd hm (Nat.not_lt_zero m),Sub.live ⟨rfl,rfl,rfl,rfl,trivial⟩ ⟨rfl,trivial⟩⟩ ?_
 rintro j st ⟨i,hij,hno,hs2⟩
 refine zi hs2 ?_
 clear hs2
 by_cases hi:i<l.length
 . have f0:decide ((i:Int)<(l.length:Nat))=true:=decide_eq_true (by omega)
   have hc2:=hc i hi
   repeat' (first
|apply s_boxw (m:=pn 0) rfl
 . conv=>lhs;whnf
 . conv=>lhs;whnf
 . rfl
 . conv=>lhs;whnf;arg 1;whnf
 . exact fun _=>rfl
 . first | exact hc2
 . exact fun _=>rfl
 . exact fun _=>rfl
 . exact fun _=>rfl
|apply zG
 . conv=>lhs;whnf
 . assumption
|refine zA ?_
|refine zB ?_
|refine zH ?_
|refine zW ?_
|apply aw_1
 conv=>whnf
 refine ⟨?_,trivial⟩
|apply s_1
 conv=>whnf;arg 1;arg 4;arg 3;whnf
 refine ⟨?_,?_⟩
|refine ze (by conv=>lhs;whnf) ?_ ?_<;>intro hb
|refine zN ?_
|refine zP ?_
|refine zg ?_
|refine zCM ⟨?_,?_⟩
|refine ⟨_,by conv=>lhs;whnf;arg 2;whnf,?_⟩;conv=>rhs;whnf
|exact trivial)
   . show V.c _=V.c _
     rw [idxF_at hi hno hb]
   . exact ⟨rfl,trivial⟩
   . refine zI (j':=j-1) (by omega) ⟨i+1,by omega,fun m hm => ?_,Sub.live ⟨rfl,rfl,rfl,rfl,trivial⟩ ⟨rfl,trivial⟩⟩
     by_cases e:m=i
     . subst e;exact hb
     . exact hno m (by omega)
   all_goals first
    |exact zR (by omega)
    |exact ⟨by omega,by omega⟩
 . have f0:decide ((i:Int)<(l.length:Nat))=false:=decide_eq_false (by omega)
   repeat' (first
|apply zF
 . conv=>lhs;whnf
 . assumption
|refine zA ?_
|refine zB ?_
|refine zH ?_
|apply aw_1
 conv=>whnf
 refine ⟨?_,trivial⟩
|apply s_1
 conv=>whnf;arg 1;arg 4;arg 3;whnf
 refine ⟨?_,?_⟩
|refine zL ?_
|refine zJ rfl ?_
|refine zK ?_
|refine zCM ⟨?_,?_⟩
|refine ⟨_,by conv=>lhs;whnf;arg 2;whnf,?_⟩;conv=>rhs;whnf
|exact trivial)
   . show V.c _=V.c _
     rw [idxF_no fun m hm=>hno m (by omega)]
   . exact ⟨rfl,trivial⟩
theorem zEB (lv:Bool) (l:List D) (p:D->Bool) (hn:l.length<=9223372036854775807) (hc : ∀ i,i<l.length->ACB EN5 Tryz.prog 236 [.agg (cellsV Tryz.prog 12 53 (gD l i)),.bx (pn 0) 0] [.box 4 [.c (.bool lv)]] (.c (.bool (p (gD l i)))) [.box 4 [.c (.bool lv)]]):ACB EN5 Tryz.prog 235 [.sl 53 l,.clo 236 [.bx (pn 0) 0]] [.box 4 [.c (.bool lv)]] (.c (.bool (l.any p))) [.box 4 [.c (.bool lv)]]:=by
 have h1:=zFu lv l p hn hc
 rw [<- zK4]
 refine zAZ (fn:=Tryz.f235) 9 Tryz.func235 rfl rfl ?_
 intro pas w0 w he hpp
 repeat' (first
|apply s_boxw (m:=pn 0) rfl
 . conv=>lhs;whnf
 . conv=>lhs;whnf
 . rfl
 . conv=>lhs;whnf;arg 1;whnf
 . exact fun _=>rfl
 . first | exact h1
 . exact fun _=>rfl
 . exact fun _=>rfl
 . exact fun _=>rfl
|refine zA ?_
|refine zB ?_
|refine zH ?_
|apply aw_1
 conv=>whnf
 refine ⟨?_,trivial⟩
|apply s_1
 conv=>whnf;arg 1;arg 4;arg 3;whnf
 refine ⟨?_,?_⟩
|refine zCM ⟨?_,?_⟩
|refine ⟨_,by conv=>lhs;whnf;arg 2;whnf,?_⟩;conv=>rhs;whnf
|exact trivial)
 exact ⟨rfl,trivial⟩
end
end Go.Proofs.YthppafnlnnpciaaGreatDoor
