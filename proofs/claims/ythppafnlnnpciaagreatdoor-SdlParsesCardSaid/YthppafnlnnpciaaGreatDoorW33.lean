import Derived.Defers
import Derived.Recover
import Derived.WideLaws
import Derived.Test.YthppafnlnnpciaaGreatDoorW32
set_option maxHeartbeats 8000000
set_option maxRecDepth 100000
set_option linter.unusedVariables false
set_option linter.unusedSimpArgs false
namespace Go.Proofs.YthppafnlnnpciaaGreatDoor
section
open Go.RowKit
attribute [local irreducible] wpList Calls Code.wp
section
variable {X:Cx} {nn:Nat} {st:Vst nn} {s:Sg} {w:World} {a:Act}
def Sg.hand (s:Sg) (ns:List Nat):Sg:={ F:=s.F,bx:=fun n=>(φout ns n).bind s.bx,tb:=fun n=>(φout ns n).bind s.tb,tk:=fun n=>match φout ns n with | some m=>s.tk m | none=>(.tuple #[],0) }
theorem zCI (s:Sg) (ns:List Nat) {i q:Nat} (hq:ns[i]? = some q):(s.hand ns).bx (pn i)=s.bx q/\(s.hand ns).tb (pn i)=s.tb q/\(s.hand ns).tk (pn i)=s.tk q:=by
 have e:φout ns (pn i)=some q:=(φout_pn ns i).trans hq
 refine ⟨?_,?_,?_⟩
 . show (φout ns (pn i)).bind s.bx=_;rw [e];rfl
 . show (φout ns (pn i)).bind s.tb=_;rw [e];rfl
 . show (match φout ns (pn i) with | some m=>s.tk m | none=>(.tuple #[],0))=_;rw [e]
theorem Inv.handed (hI:Inv X st s w a) (ns:List Nat) (hnd:ns.Nodup) {ρs:List Res} (hρ:ns.map st.rs=ρs.map some) (pk:Value->(Nat->V)->(Nat->Option Res)->Prop) (ds:List Deferred) {a':Act} (ht:a'.tmps=a.tmps) (hd:a'.defers=ds) :
 Inv (nn:=nn) ⟨X.P,X.pas,{ s.hand ns with F:=X.s0.F },X.w0,X.e,X.he,X.hp,pk,ds⟩ ⟨fun i=>renV (φin ns) (st.tm i),rsOf (ρs.map (renR (φin ns)))⟩ (s.hand ns) w a':=by
 have hφ1 : ∀ n m,φin ns n=some m->(s.hand ns).bx m=s.bx n/\(s.hand ns).tk m=s.tk n:=fun n m hm=>by
  obtain ⟨i,hi,rfl⟩:=Option.map_eq_some_iff.1 hm
  exact ⟨(zCI s ns (zBL hi)).1,(zCI s ns (zBL hi)).2.2⟩
 have hbs : ∀ (i:Nat) (ρ:Res),(ρs.map (renR (φin ns)))[i]? = some ρ -> ∃ q ρ0,ns[i]? = some q/\st.rs q=some ρ0/\ρ=renR (φin ns) ρ0:=fun i ρ hi=>by
  rw [List.getElem?_map] at hi
  obtain ⟨ρ0,h1,rfl⟩:=Option.map_eq_some_iff.1 hi
  have h3:(ns.map st.rs)[i]? = (ρs.map some)[i]?:=by rw [hρ]
  rw [List.getElem?_map,List.getElem?_map,h1] at h3
  obtain ⟨q,hq,h4⟩:=Option.map_eq_some_iff.1 h3
  exact ⟨q,ρ0,hq,h4,rfl⟩
 refine ⟨by rw [ht];exact hI.sz,fun i hi => ?_,hd,hI.fr,hI.kp,hI.nf,⟨hI.mem.fx,fun n ρ hn => ?_,fun n ρ b hn hbk => ?_,fun n m ρ ρ' b hn hm hnb hmb => ?_⟩,fun i=>⟨rfl,.inl rfl⟩⟩
 . rw [ht]
   exact rel.ren (s:=s) (s2:=s.hand ns) rfl hφ1 _ _ (hI.tm i hi)
 . obtain ⟨i,rfl,hi⟩:=zAM hn
   obtain ⟨q,ρ0,hq,h3,rfl⟩:=hbs i ρ hi
   have hh:=zCI s ns hq
   exact Holds.ren (s:=s) (s2:=s.hand ns) rfl hφ1 hh.1 hh.2.1 hh.2.2 (hI.mem.ho q ρ0 h3)
 . obtain ⟨i,rfl,hi⟩:=zAM hn
   obtain ⟨q,ρ0,hq,h3,rfl⟩:=hbs i ρ hi
   have hh:=zCI s ns hq
   exact hI.mem.bs q ρ0 b h3 ((bk_ren hh.1 hh.2.1).1 hbk)
 . obtain ⟨i,rfl,hi⟩:=zAM hn
   obtain ⟨j,rfl,hj⟩:=zAM hm
   obtain ⟨q,ρ0,hq,h3,rfl⟩:=hbs i ρ hi
   obtain ⟨q',ρ1,hq',h3',rfl⟩:=hbs j ρ' hj
   have hh:=zCI s ns hq
   have hh':=zCI s ns hq'
   have e:=hI.mem.dj q q' _ _ b h3 h3' ((bk_ren hh.1 hh.2.1).1 hnb) ((bk_ren hh'.1 hh'.2.1).1 hmb)
   subst e
   have:=(zFB hnd hq).symm.trans (zFB hnd hq')
   cases this;rfl
theorem Inv.frame (hI:Inv X st s w a) {n2:Nat} (tm:Nat->V) (pk:Value->(Nat->V)->(Nat->Option Res)->Prop) (ds:List Deferred) {a':Act} (hz:a'.tmps.size=n2) (hd:a'.defers=ds) (ht : ∀ i,i<n2->rel X.P s w (tm i) (a'.tmps.getD i undef)) :
 Inv (nn:=n2) { X with pk:=pk,dfs:=ds } ⟨tm,st.rs⟩ s w a':=
 ⟨hz,ht,hd,hI.fr,hI.kp,hI.nf,hI.mem,hI.pe⟩
theorem Inv.named (hI:Inv X st s w a) (i:Nat):s.bx (pn i)=X.s0.bx (pn i):=(hI.pe i).1
variable {o:Oper} {K:Vst nn->Prop}
theorem opOk_isNil {t yt:TypeId} {x:Operand} (ho:o.op = .binOp .neq t x (.const .nilIface) yt) (hx:ev st x = .c .nilIface) (ht:X.P.underlying t=some (.interface (X.P.methodsAt t))) (hK:K (st.put o.dst (.c (.bool false)))):OpOk X o st K:=by
 intro s w a hI N Q hP hN
 have h1:=hI.ev x
 rw [hx,rel] at h1
 unfold Oper.wp
 have hrun:(execOp a.eval o).run X.P w = .ok (.value (.bool false)) w:=by
  simp only [execOp,ho,h1.1]
  show (do let u <- (do eqGuard .neq t x (.const .nilIface) .nilIface .nilIface;binOp .neq t .nilIface .nilIface:Sem Value);pure (.value u):Sem Next).run X.P w=_
  rw [eqGuard_nil_constR]
  simp only [Sem.run_bind,Sem.run_pure,Result.andThen_ok,run_neq_nil_nil w t ht]
 rw [hrun,Oper.upon_value]
 exact hN _ _ _ _ (hI.put o.dst (by rw [rel];exact ⟨rfl,trivial⟩)) hK
theorem zJF {t yt u:TypeId} {x:Operand} {y:Value} (ho:o.op = .binOp .neq t x (.const .nilIface) yt) (hx:ev st x = .c (.iface u y)) (ht:X.P.underlying t=some (.interface (X.P.methodsAt t))) (hK:K (st.put o.dst (.c (.bool true)))):OpOk X o st K:=by
 intro s w a hI N Q hP hN
 have h1:=hI.ev x
 rw [hx,rel] at h1
 unfold Oper.wp
 have hrun:(execOp a.eval o).run X.P w = .ok (.value (.bool true)) w:=by
  simp only [execOp,ho,h1.1]
  show (do let v <- (do eqGuard .neq t x (.const .nilIface) (.iface u y) .nilIface;binOp .neq t (.iface u y) .nilIface:Sem Value);pure (.value v):Sem Next).run X.P w=_
  have e:eqGuard .neq t x (.const .nilIface) (.iface u y) .nilIface=pure ():=rfl
  rw [e]
  simp only [Sem.run_bind,Sem.run_pure,Result.andThen_ok,run_neq_held_nil w t u y ht]
 rw [hrun,Oper.upon_value]
 exact hN _ _ _ _ (hI.put o.dst (by rw [rel];exact ⟨rfl,trivial⟩)) hK
end
section
variable {X:Cx} {nn:Nat} {st:Vst nn} {o:Oper} {ops:Array Oper} {l:List Oper} {KK:Vst nn->Prop} {d:Option Tmp}
theorem s_isNil {t yt:TypeId} {x:Operand} (hg:o.guard=none) (ho:o.op = .binOp .neq t x (.const .nilIface) yt) (hd:o.dst=d) (hx:ev st x = .c .nilIface) (ht:X.P.underlying t=some (.interface (X.P.methodsAt t))) (hK:AWo X ops l (st.put d (.c (.bool false))) KK):AWo X ops (o::l) st KK:=
 zAB hg (opOk_isNil ho hx ht (by rw [hd];exact hK))
theorem s_notNil {t yt u:TypeId} {x:Operand} {y:Value} (hg:o.guard=none) (ho:o.op = .binOp .neq t x (.const .nilIface) yt) (hd:o.dst=d) (hx:ev st x = .c (.iface u y)) (ht:X.P.underlying t=some (.interface (X.P.methodsAt t))) (hK:AWo X ops l (st.put d (.c (.bool true))) KK):AWo X ops (o::l) st KK:=
 zAB hg (zJF ho hx ht (by rw [hd];exact hK))
end
section
variable {X:Cx} {nn:Nat} {st:Vst nn}
theorem zI0 {st':Vst nn} {s:Sg} {w:World} {a:Act} (h:Sub X st st') (hI:Inv X st s w a) : ∃ s',Inv X st' s' w a:=h s w a hI
theorem zLG {c:Code} {K:Exit->Vst nn->Prop} {s:Sg} {w:World} {a:Act} (h:AW X c st K) (hI:Inv X st s w a):c.wp X.P (fun e a' w' => ∃ (st':Vst nn) (s':Sg),Inv X st' s' w' a'/\(K e st'\/PX X e st')) a w:=h s w a hI
def AWQ (X:Cx) (c:Code) (st:Vst nn) (Q:Exit->Act->World->Prop):Prop:=∀ s w a,Inv X st s w a->c.wp X.P Q a w
def qK (X:Cx) (y:Code) (Q:Exit->Act->World->Prop):Exit->Vst nn->Prop
 |.normal,st=>AWQ X y st Q
 |e,st => ∀ s w a,Inv X st s w a->Q e a w
theorem k_q {y:Code} {Q:Exit->Act->World->Prop} (h:AWQ X y st Q):qK X y Q .normal st:=h
theorem k_qr {y:Code} {Q:Exit->Act->World->Prop} (h : ∀ s w a,Inv X st s w a->Q .ret a w):qK X y Q .ret st:=h
theorem zJc {c:Code} {Q:Exit->Act->World->Prop} {s:Sg} {w:World} {a:Act} (h:AWQ X c st Q) (hI:Inv X st s w a):c.wp X.P Q a w:=h s w a hI
theorem awq_by {c:Code} {Q:Exit->Act->World->Prop} (h : ∀ s w a,Inv X st s w a->c.wp X.P Q a w):AWQ X c st Q:=h
theorem zCM {x y:Code} {Q:Exit->Act->World->Prop} (hP:PQ X nn Q) (h:AW X x st (qK X y Q)):AWQ X (.seq x y) st Q:=fun s w a hI =>
 wp_seq (Code.wp_mono (fun e a' w' ⟨st',s',hI',hK⟩=>by
  rcases hK with hK | ⟨pv,rfl,hp⟩
  . cases e
    case normal=>exact hK s' w' a' hI'
    all_goals exact hK s' w' a' hI'
  . exact hP pv st' s' w' a' hI' hp) (h s w a hI))
theorem awq_sub {c:Code} {st':Vst nn} {Q:Exit->Act->World->Prop} (hs:Sub X st st') (h:AWQ X c st' Q):AWQ X c st Q:=fun s w a hI=>by
 obtain ⟨s',hI'⟩:=hs s w a hI
 exact h s' w a hI'
theorem zFA {e:Ge} {P:Program} {fn:Func} {args:List V} {s:Sg} {w:World} {us:Array Value} (he:e.E w) (hnn:args.length+(fn.ntmps-args.length)=nn) (hus:relL P s w args us.toList) (hfx : ∀ b o,s.F b o->(w.cell? ⟨b,o,none⟩).isSome) :
 Inv (cx e P s w he) (st0 nn args) s w { tmps:=us++Array.replicate (fn.ntmps-us.size) undef,defers:=[] }:=by
 have hlen:=hus.length
 have hl2:us.toList.length=us.size:=by simp
 refine ⟨by simp;omega,fun i hi => ?_,rfl,Frm.refl _ _,Keeps.refl,fun _ _ _ _ h=>h,⟨hfx,fun n ρ h=>by simp [st0] at h,fun n ρ b h=>by simp [st0] at h,fun n m ρ ρ' b h=>by simp [st0] at h⟩,PE.refl _⟩
 show rel P s w (args.getD i .any) _
 by_cases hi2:i<args.length
 . have h1:args[i]? = some args[i]:=List.getElem?_eq_getElem hi2
   have hi3:i<us.size:=by omega
   have h2:us.toList[i]? = some us[i]:=by rw [Array.getElem?_toList];exact Array.getElem?_eq_getElem hi3
   rw [List.getD_eq_getElem?_getD,h1]
   have:(us++Array.replicate (fn.ntmps-us.size) undef).getD i undef=us[i]:=by
    rw [Array.getD_eq_getD_getElem?,Array.getElem?_append_left hi3,Array.getElem?_eq_getElem hi3];rfl
   rw [this]
   exact hus.get i _ _ h1 h2
 . rw [List.getD_eq_getElem?_getD,List.getElem?_eq_none (by omega)]
   simp [rel]
def acR (P:Program) (s:Sg) (w:World) (r:V):Ending->World->Prop:=fun en w' => ∃ v F',en = .returned v/\Frm (fun _=>False) w w'/\Keeps s.F F' w w'/\(∀ b o,F' b o->(w'.cell? ⟨b,o,none⟩).isSome)/\(∀ b o,b<w.heap.size->F' b o->s.F b o)/\rel P { s with F:=F' } w' r v
theorem ac_by {e:Ge} {P:Program} {f:FuncId} {args:List V} {r:V} (h : ∀ (s:Sg) (w:World) (us:Array Value),relL P s w args us.toList->(∀ b o,s.F b o->(w.cell? ⟨b,o,none⟩).isSome)->e.E w->Calls P f us w (acR P s w r)):AC e P f args r:=h
theorem ac_fin {P:Program} {s:Sg} {w:World} {fn:Func} {s':Sg} {w':World} {a':Act} {r:V} (hI:Inv X st s' w' a') (hP:X.P=P) (hpas:X.pas=fun _=>False) (hF:X.s0.F=s.F) (hw:X.w0=w) (hv:retV P st fn.results.toList r) (hr:r.pure=true) :
 ∃ v,(results fn a'.tmps).run P w' = .ok v w'/\acR P s w r (.returned v) w':=by
 subst hP
 subst hw
 obtain ⟨u,h1,h2⟩:=zGn hv hI
 have hfr:=hI.fr
 rw [hpas] at hfr
 refine ⟨u,h1,u,s'.F,rfl,hfr,by rw [<- hF];exact hI.kp,hI.mem.fx,fun b o hb => ?_,rel.only (s:=s') (s':={ s with F:=s'.F }) (P:=X.P) rfl r u hr h2⟩
 rw [<- hF]
 exact hI.nf b o hb (by rw [hpas];exact fun h=>h)
end
end
section
open Go.RowKit
attribute [local irreducible] wpList Calls Code.wp AW AWo OpOk seqK zq zu loopK endK AC zf Yld Sub
attribute [local irreducible] ACB ACX ACE absLexG YldG AWQ qK
theorem ifT:Tryz.prog.underlying 20=some (.interface (Tryz.prog.methodsAt 20)):=by kernel_rfl
section
variable {pas:Nat->Prop} {s0:Sg} {w0:World} {he:EN5.E w0} {hp : ∀ k,k<EN5.G -> ¬ pas k} {pk:Value->(Nat->V)->(Nat->Option Res)->Prop} {dfs:List Deferred} {st:Vst 24} {s:Sg} {w:World} {a:Act}
def slotsP:List (Nat × V):=[(2,.bx (pn 0) 0),(3,.bx (pn 1) 0),(4,.bx (pn 2) 0)]
theorem zJb {P:Program} {s s':Sg} {w w':World} {k:Nat} {u:Value} (h:rel P s w (.bx k 0) u) (hs:s'.bx k=s.bx k):rel P s' w' (.bx k 0) u:=by
 rw [rel] at h |-;rw [hs];exact h
end
theorem bx_ren {P:Program} {s s':Sg} {w:World} {k k':Nat} {u:Value} (h:rel P s w (.bx k 0) u) (hs:s'.bx k'=s.bx k):rel P s' w (.bx k' 0) u:=by
 rw [rel] at h |-;rw [hs];exact h
theorem zD4 {P:Program} {s s':Sg} {w w':World} {k:Nat} {u u':Value} (h:rel P s w (.bx k 0) u) (h':rel P s' w' (.bx k 0) u') (hs:s'.bx k=s.bx k):u=u':=by
 rw [rel] at h h'
 obtain ⟨b,h1,rfl⟩:=h
 obtain ⟨b',h2,rfl⟩:=h'
 rw [hs,h1] at h2
 cases h2;rfl
section
variable {σ:Sg} {w0:World} {he:EN5.E w0} {s0:Sg} {hp : ∀ k,k<EN5.G -> ¬ False} {pk:Value->(Nat->V)->(Nat->Option Res)->Prop} {s:Sg} {w:World} {a:Act}
structure Ptrs (P:Program) (s0:Sg) (w:World) (p2 p3 p4:Value):Prop where
 p2:rel P s0 w (.bx (pn 0) 0) p2
 p3:rel P s0 w (.bx (pn 1) 0) p3
 p4:rel P s0 w (.bx (pn 2) 0) p4
end
end
section
open Go.RowKit
section
variable {X:Cx} {nn:Nat} {st:Vst nn} {o:Oper} {K:Vst nn->Prop} {ops:Array Oper} {l:List Oper} {KK:Vst nn->Prop} {d:Option Tmp}
attribute [local irreducible] wpList Calls Code.wp in
theorem zH4 {t xt:TypeId} {x:Operand} {cs:Array Value} {fs:Array Field} (ho:o.op = .typeAssert x xt t true) (hx:ev st x = .c (.iface t (.agg cs))) (hok:cs.toList.all okB=true) (hu:X.P.underlying t=some (.struct fs)) (hK:K (st.put o.dst (.tup [.agg (cs.toList.map .c),.c (.bool true)]))):OpOk X o st K:=by
 intro s w a hI N Q hP hN
 have h1:=hI.ev x
 rw [hx,rel] at h1
 unfold Oper.wp
 have hrun:(execOp a.eval o).run X.P w = .ok (.value (.tuple #[.agg cs,.bool true])) w:=by
  simp only [execOp,ho,h1.1]
  simp [Instr.typeAssert,run_underlying hu]
 rw [hrun,Oper.upon_value]
 refine hN _ _ _ _ (hI.put o.dst ?_) hK
 have hcs:relL X.P s w (cs.toList.map V.c) cs.toList:=by
  clear hK hN hrun h1
  generalize cs.toList=l at *
  induction l with
  |nil=>simp [relL]
  |cons y l ih =>
   rw [List.all_cons,Bool.and_eq_true] at hok
   rw [List.map_cons,relL]
   exact ⟨by rw [rel];exact ⟨rfl,zKG hok.1⟩,ih hok.2⟩
 rw [rel]
 refine ⟨#[.agg cs,.bool true],rfl,?_⟩
 show relL _ _ _ [_,_] [_,_]
 rw [relL,relL,relL,rel,rel]
 exact ⟨⟨cs,rfl,hcs⟩,⟨rfl,trivial⟩,trivial⟩
attribute [local irreducible] wpList Calls Code.wp AW AWo OpOk in
theorem s_assert2 {t xt:TypeId} {x:Operand} {cs:Array Value} {fs:Array Field} (hg:o.guard=none) (ho:o.op = .typeAssert x xt t true) (hd:o.dst=d) (hx:ev st x = .c (.iface t (.agg cs))) (hok:cs.toList.all okB=true) (hu:X.P.underlying t=some (.struct fs)) (hK:AWo X ops l (st.put d (.tup [.agg (cs.toList.map .c),.c (.bool true)])) KK):AWo X ops (o::l) st KK:=
 zAB hg (zH4 ho hx hok hu (by rw [hd];exact hK))
end
attribute [local irreducible] wpList Calls Code.wp AW AWo OpOk seqK zq zu loopK endK AC zf Yld Sub
attribute [local irreducible] ACB ACX ACE absLexG YldG AWQ qK
def zCP (q:List V) (i e:Int):List (Nat × Res):=[(pn 0,.box 25 q),(pn 1,.box 3 [.c (.int .i64 i)]),(pn 2,.box 26 [.c (.int .i64 e)])]
noncomputable def HR_s (nn:Nat) (cs:List (Nat × V)) (q:List V) (i e:Int):Vst nn:=stS nn cs (zCP q i e)
noncomputable def HC0_s (v:Value) (q:List V) (i e:Int):Vst 22:=HR_s 22 [(0,.bx (pn 0) 0),(1,.bx (pn 1) 0),(2,.bx (pn 2) 0),(3,.c v)] q i e
def doneC_s {nn:Nat} (q:List V) (i e:Int):Exit->Vst nn->Prop
 |.normal,st=>rsOk st (zCP q i e)
 |.ret,st=>rsOk st (zCP q i e)
 |_,_=>False
noncomputable def zHO:Code:=match Tryz.f24.body with
 |some (.seq _ y)=>y
 |_ => .skip
section
variable {pas:Nat->Prop} {s0:Sg} {w0:World} {he:EN5.E w0} {hp : ∀ k,k<EN5.G -> ¬ pas k}
theorem zJX (q:List V) (i e:Int):AW ⟨Tryz.prog,pas,s0,w0,EN5,he,hp,fun _ _ _=>False,[]⟩ zHO (HC0_s .nilIface q i e) (doneC_s q i e):=by
 unfold zHO
 simp only [Tryz.f24]
 refine zIm ?_
 refine zA ?_
 apply s_val rfl
 . rfl
 . conv=>lhs;whnf;arg 2;whnf
 rotate_left 1
 . trivial
 apply s_isNil rfl rfl rfl
 . conv=>lhs;whnf
 . exact ifT
 refine zB ?_
 refine zF ?_
 repeat' (first
|apply aw_1
 conv=>whnf
 refine ⟨?_,trivial⟩)
 all_goals exact ⟨rfl,rfl,rfl,trivial⟩
theorem zJW (i e i' e':Int) (hok:(Lit.int .i64 i').wf=true/\(Lit.int .i64 e').wf=true):AW ⟨Tryz.prog,pas,s0,w0,EN5,he,hp,fun _ _ _=>False,[]⟩ zHO (HC0_s (.iface 60 (.agg #[.int .i64 i',.int .i64 e'])) zDoc i e) (doneC_s zDoc i' e'):=by
 unfold zHO
 simp only [Tryz.f24]
 refine zIm ?_
 refine zA ?_
 apply s_val rfl
 . rfl
 . conv=>lhs;whnf;arg 2;whnf
 rotate_left 1
 . trivial
 apply s_notNil rfl rfl rfl
 . conv=>lhs;whnf
 . exact ifT
 refine zB ?_
 refine zF ?_
 refine ze (b:=true) rfl (fun _ => ?_) fun h=>by cases h
 refine zIm ?_
 refine zA ?_
 apply s_val rfl
 . rfl
 . conv=>lhs;whnf;arg 2;whnf
 rotate_left 1
 . trivial
 apply s_assert2 (fs:=Tryz.prog.fieldsOf 60) rfl rfl rfl
 . conv=>lhs;whnf
 . simp [okB,hok]
 . kernel_rfl
 have K:(!true)=true->False:=by decide
 repeat' (first
|apply zIn 8 ([(2,[4]),(4,[4])]) ([(5,[1000000]),(6,[1000001]),(7,[1000002])]) rfl (by kernel_rfl) (by kernel_rfl) (by kernel_rfl)
|apply zHD
|apply zHC rfl
 . conv=>lhs;whnf
 . conv=>lhs;whnf;arg 2;whnf
|apply zCJ rfl rfl rfl
 . conv=>lhs;whnf
 . rfl
 . conv=>lhs;whnf;arg 1;whnf
 . conv=>lhs;whnf;arg 1;whnf
 . exact ⟨by kernel_rfl,by kernel_rfl⟩
 . rfl
|show inO _ _=true;rfl
|refine zA ?_
|refine zB ?_
|refine zF ?_
|apply aw_1
 conv=>whnf
 refine ⟨?_,trivial⟩
|apply s_1
 conv=>whnf;arg 1;arg 4;arg 3;whnf
 refine ⟨?_,?_⟩
|apply zI rfl rfl rfl
 . conv=>lhs;whnf
 . conv=>lhs;whnf;arg 1;whnf
 . conv=>lhs;whnf;arg 1;whnf
 . exact ⟨by kernel_rfl,by kernel_rfl⟩
 . rfl
|exact trivial)
 all_goals exact ⟨rfl,rfl,rfl,trivial⟩
end
section
variable {pas:Nat->Prop} {s0:Sg} {w0:World} {he:EN5.E w0} {hp : ∀ k,k<EN5.G -> ¬ pas k} {pk:Value->(Nat->V)->(Nat->Option Res)->Prop} {dfs:List Deferred} {st:Vst 26} {s:Sg} {w:World} {a:Act}
theorem rs_HR_s {nn:Nat} {st:Vst nn} {nn2:Nat} {cs:List (Nat × V)} {q:List V} {i e:Int} (h:rsOk st (zCP q i e)) : ∀ n ρ,(HR_s nn2 cs q i e).rs n=some ρ->st.rs n=some ρ:=fun n ρ hn=>by
 simp only [HR_s,stS] at hn
 split at hn
 . rename_i p hp
   have hm:=List.mem_of_find?_eq_some hp
   have he:=List.find?_some hp
   simp at he
   cases hn
   subst he
   exact zGl h p hm
 . cases hn
theorem back_in_s {pk':Value->(Nat->V)->(Nat->Option Res)->Prop} {dfs':List Deferred} {n2:Nat} {st':Vst n2} {s':Sg} {w':World} {a':Act} {q q':List V} {i e i' e':Int}
 (hI:Inv ⟨Tryz.prog,pas,s0,w0,EN5,he,hp,pk,dfs⟩ (HR_s 26 slotsP q i e) s w a) (hI':Inv ⟨Tryz.prog,pas,s0,w0,EN5,he,hp,pk',dfs'⟩ st' s' w' a') (hr:rsOk st' (zCP q' i' e')) :
 Inv ⟨Tryz.prog,pas,s0,w0,EN5,he,hp,pk,dfs⟩ (HR_s 26 slotsP q' i' e') s' w' a:=by
 have hk : ∀ k,s'.bx (pn k)=s.bx (pn k):=fun k=>(hI'.named k).trans (hI.named k).symm
 refine ⟨hI.sz,fun j hj => ?_,hI.df,hI'.fr,hI'.kp,hI'.nf,hI'.mem.sub (rs_HR_s hr),hI'.pe⟩
 have ht:=hI.tm j hj
 by_cases h2:j=2
 . subst h2;exact zJb (k:=pn 0) ht (hk 0)
 by_cases h3:j=3
 . subst h3;exact zJb (k:=pn 1) ht (hk 1)
 by_cases h4:j=4
 . subst h4;exact zJb (k:=pn 2) ht (hk 2)
 have e:(HR_s 26 slotsP q' i' e').tm j = .any:=by
  simp [HR_s,stS,slotsP,List.find?,beq_eq_false_iff_ne.2 (Ne.symm h2),beq_eq_false_iff_ne.2 (Ne.symm h3),beq_eq_false_iff_ne.2 (Ne.symm h4)]
 rw [e];simp [rel]
theorem zKZ {q:List V} {i e:Int} (hI:Inv ⟨Tryz.prog,pas,s0,w0,EN5,he,hp,pk,dfs⟩ (HR_s 26 slotsP q i e) s w a) (v:Value) (hv:okV v) {a1:Act} (hz:a1.tmps.size=22) (hd:a1.defers=[]) (h0:a1.tmps.getD 0 undef=a.tmps.getD 2 undef) (h1:a1.tmps.getD 1 undef=a.tmps.getD 3 undef) (h2:a1.tmps.getD 2 undef=a.tmps.getD 4 undef) (h3:a1.tmps.getD 3 undef=v) :
 Inv ⟨Tryz.prog,pas,s0,w0,EN5,he,hp,fun _ _ _=>False,[]⟩ (HC0_s v q i e) s w a1:=by
 refine ⟨hz,fun j hj => ?_,hd,hI.fr,hI.kp,hI.nf,hI.mem.sub fun n ρ hn=>hn,hI.pe⟩
 by_cases j0:j=0
 . subst j0;rw [h0];exact hI.tm 2 (by omega)
 by_cases j1:j=1
 . subst j1;rw [h1];exact hI.tm 3 (by omega)
 by_cases j2:j=2
 . subst j2;rw [h2];exact hI.tm 4 (by omega)
 by_cases j3:j=3
 . subst j3;rw [h3];show rel _ _ _ (.c v) v;rw [rel];exact ⟨rfl,hv⟩
 have e:(HC0_s v q i e).tm j = .any:=by
  simp [HC0_s,HR_s,stS,List.find?,beq_eq_false_iff_ne.2 (Ne.symm j0),beq_eq_false_iff_ne.2 (Ne.symm j1),beq_eq_false_iff_ne.2 (Ne.symm j2),beq_eq_false_iff_ne.2 (Ne.symm j3)]
 rw [e];simp [rel]
theorem call_ret_s (q:List V) (i e:Int) (hI:Inv ⟨Tryz.prog,pas,s0,w0,EN5,he,hp,pk,dfs⟩ (HR_s 26 slotsP q i e) s w a) :
 CallsD Tryz.prog 24 #[a.tmps.getD 2 undef,a.tmps.getD 3 undef,a.tmps.getD 4 undef] .returning w fun en u' w'=>en = .returned (.tuple #[])/\u' = .returning /\ ∃ s',Inv ⟨Tryz.prog,pas,s0,w0,EN5,he,hp,pk,dfs⟩ (HR_s 26 slotsP q i e) s' w' a:=by
 refine callsD_of_wpS Tryz.func24 rfl fun c₀ cs hu => ?_
 apply wpS_seq
 apply wpS_region
 simp [wpOpsS,go_sem,recoverD,hu,Exit.thenS]
 refine wpS_of_wp (Code.wp_mono (fun en a' w' ⟨st',s',hI',hK⟩ => ?_) (zLG (zJX (pas:=pas) (s0:=s0) (w0:=w0) (he:=he) (hp:=hp) q i e) (zKZ hI .nilIface trivial (by simp) rfl (by simp) (by simp) (by simp) (by simp))))
 have fin:rsOk st' (zCP q i e)->a'.defers=[] /\ ∃ u',c₀::cs = { c₀ with mode:=u' }::cs /\ ∃ v,(results Tryz.f24 a'.tmps).run Tryz.prog w' = .ok v w'/\(Ending.returned v = .returned (.tuple #[])/\u' = .returning /\ ∃ s',Inv ⟨Tryz.prog,pas,s0,w0,EN5,he,hp,pk,dfs⟩ (HR_s 26 slotsP q i e) s' w' a):=fun hr =>
  ⟨hI'.df,.returning,by cases c₀;simp_all,.tuple #[],by simp [results,Tryz.f24],rfl,rfl,s',back_in_s hI hI' hr⟩
 rcases hK with hK | ⟨_,_,hK⟩
 . cases en
   case normal=>exact fin hK
   case ret=>exact fin hK
   all_goals exact hK.elim
 . exact hK.elim
theorem call_pan_s (i e i' e':Int) (hok:(Lit.int .i64 i').wf=true/\(Lit.int .i64 e').wf=true) (hI:Inv ⟨Tryz.prog,pas,s0,w0,EN5,he,hp,pk,dfs⟩ (HR_s 26 slotsP zDoc i e) s w a) :
 CallsD Tryz.prog 24 #[a.tmps.getD 2 undef,a.tmps.getD 3 undef,a.tmps.getD 4 undef] (.panicking [{ v:=.iface 60 (.agg #[.int .i64 i',.int .i64 e']),recovered:=false }]) w fun en u' w'=>en = .returned (.tuple #[])/\settle u' = .returning /\ ∃ s',Inv ⟨Tryz.prog,pas,s0,w0,EN5,he,hp,pk,dfs⟩ (HR_s 26 slotsP zDoc i' e') s' w' a:=by
 refine callsD_of_wpS Tryz.func24 rfl fun c₀ cs hu => ?_
 apply wpS_seq
 apply wpS_region
 simp [wpOpsS,go_sem,recoverD,hu,Exit.thenS]
 refine wpS_of_wp (Code.wp_mono (fun en a' w' ⟨st',s',hI',hK⟩ => ?_) (zLG (zJW (pas:=pas) (s0:=s0) (w0:=w0) (he:=he) (hp:=hp) i e i' e' hok) (zKZ hI (.iface 60 (.agg #[.int .i64 i',.int .i64 e'])) trivial (by simp) rfl (by simp) (by simp) (by simp) (by simp))))
 have fin:rsOk st' (zCP zDoc i' e')->a'.defers=[] /\ ∃ u',{ c₀ with mode:=.panicking [{ v:=.iface 60 (.agg #[.int .i64 i',.int .i64 e']),recovered:=true }] }::cs = { c₀ with mode:=u' }::cs /\ ∃ v,(results Tryz.f24 a'.tmps).run Tryz.prog w' = .ok v w'/\(Ending.returned v = .returned (.tuple #[])/\settle u' = .returning /\ ∃ s',Inv ⟨Tryz.prog,pas,s0,w0,EN5,he,hp,pk,dfs⟩ (HR_s 26 slotsP zDoc i' e') s' w' a):=fun hr =>
  ⟨hI'.df,_,rfl,.tuple #[],by simp [results,Tryz.f24],rfl,rfl,s',back_in_s hI hI' hr⟩
 rcases hK with hK | ⟨_,_,hK⟩
 . cases en
   case normal=>exact fin hK
   case ret=>exact fin hK
   all_goals exact hK.elim
 . exact hK.elim
end
def zFN (p q r:Value):Deferred:={ target:=.fn (.func 24) #[p,q,r],args:=#[] }
section
variable {σ:Sg} {w0:World} {he:EN5.E w0} {s0:Sg} {hp : ∀ k,k<EN5.G -> ¬ False} {pk:Value->(Nat->V)->(Nat->Option Res)->Prop} {s:Sg} {w:World} {a:Act}
theorem zJJ {p2 p3 p4:Value} {w1:World} {r:V} (l1:List D) (i e:Int) (hF:s0.F=σ.F) (hps:Ptrs Tryz.prog s0 w1 p2 p3 p4) (hI:Inv ⟨Tryz.prog,fun _=>False,s0,w0,EN5,he,hp,pk,[zFN p2 p3 p4]⟩ (HR_s 26 slotsP [.sl 45 l1] i e) s w a)
 (hr:r = .tup [.agg [.sl 45 l1],.c (.int .i64 i),.c (.int .i64 e)]):Leaves Tryz.prog Tryz.f10 a.tmps (acR Tryz.prog σ w0 r) [zFN p2 p3 p4] .returning w:=by
 have e2:p2=a.tmps.getD 2 undef:=zD4 hps.p2 (hI.tm 2 (by omega)) (hI.named 0)
 have e3:p3=a.tmps.getD 3 undef:=zD4 hps.p3 (hI.tm 3 (by omega)) (hI.named 1)
 have e4:p4=a.tmps.getD 4 undef:=zD4 hps.p4 (hI.tm 4 (by omega)) (hI.named 2)
 have hc:=call_ret_s _ i e hI
 rw [<- e2,<- e3,<- e4] at hc
 refine leaves_cons (f:=24) (args:=#[p2,p3,p4]) (by simp) (by simp [go_sem]) (hc.mono ?_)
 rintro en u' w' ⟨rfl,rfl,s',hI'⟩
 exact ac_fin hI' rfl rfl hF rfl ⟨_,_,_,rfl,rfl,rfl,hr⟩ (by rw [hr];rfl)
theorem zJK {p2 p3 p4:Value} {w1:World} (i e i' e':Int) (hok:(Lit.int .i64 i').wf=true/\(Lit.int .i64 e').wf=true) (hF:s0.F=σ.F) (hps:Ptrs Tryz.prog s0 w1 p2 p3 p4) (hI:Inv ⟨Tryz.prog,fun _=>False,s0,w0,EN5,he,hp,pk,[zFN p2 p3 p4]⟩ (HR_s 26 slotsP zDoc i e) s w a) :
 Leaves Tryz.prog Tryz.f10 a.tmps (acR Tryz.prog σ w0 (.tup [.agg zDoc,.c (.int .i64 i'),.c (.int .i64 e')])) [zFN p2 p3 p4] (.panicking [{ v:=.iface 60 (.agg #[.int .i64 i',.int .i64 e']),recovered:=false }]) w:=by
 have e2:p2=a.tmps.getD 2 undef:=zD4 hps.p2 (hI.tm 2 (by omega)) (hI.named 0)
 have e3:p3=a.tmps.getD 3 undef:=zD4 hps.p3 (hI.tm 3 (by omega)) (hI.named 1)
 have e4:p4=a.tmps.getD 4 undef:=zD4 hps.p4 (hI.tm 4 (by omega)) (hI.named 2)
 have hc:=call_pan_s i e i' e' hok hI
 rw [<- e2,<- e3,<- e4] at hc
 refine leaves_cons (f:=24) (args:=#[p2,p3,p4]) (by simp) (by simp [go_sem]) (hc.mono ?_)
 rintro en u' w' ⟨rfl,hs,s',hI'⟩
 show Leaves _ _ _ _ [] (settle u') w'
 rw [hs]
 exact ac_fin hI' rfl rfl hF rfl ⟨_,_,_,rfl,rfl,rfl,rfl⟩ rfl
end
noncomputable abbrev zEp (ts:List Tok):V:=.sl 89 (ts.map tokD)
theorem etaPz_s (ts:List Tok):[V.sl 89 (ts.map tokD),.c (.int .i64 0)]=clS ts ⟨ts,false,0⟩:=by
 unfold clS
 rw [Nat.sub_self];rfl
noncomputable def HP2_s (ts:List Tok):Vst 26:=stS 26 [(2,.bx 2 0),(3,.bx 3 0),(4,.bx 4 0),(5,zEp ts)] [(2,.box 25 zDoc),(3,.box 3 [.c (.int .i64 0)]),(4,.box 26 [.c (.int .i64 0)])]
noncomputable def HP3_s (ts:List Tok):Vst 26:=HR_s 26 [(2,.bx (pn 0) 0),(3,.bx (pn 1) 0),(4,.bx (pn 2) 0),(5,zEp ts)] zDoc 0 0
section
variable {σ:Sg} {w0:World} {he:EN5.E w0}
theorem zJB (s:List UInt8) (i:Nat) (e:Int) (he0:e≠0) (hsc:AC EN5 Tryz.prog 23 [.c (.string (bs s))] (.tup [.c (.slice none 0 0),.c (.int .i64 (i:Int)),.c (.int .i64 e)])) :
 AC EN5 Tryz.prog 10 [.c (.string (bs s))] (.tup [.agg zDoc,.c (.int .i64 (i:Int)),.c (.int .i64 e)]):=by
 refine ac_by fun σ w us hus hfx he => ?_
 refine calls_of_wp_defers Tryz.func10 rfl ?_
 have hI:=zFA (nn:=26) (fn:=Tryz.f10) he rfl hus hfx
 have hP : ∀ Q,PQ (cx EN5 Tryz.prog σ w he) 26 Q:=fun Q _ _ _ _ _ _ h=>h.elim
 refine zJc ?_ hI
 clear hI
 refine zCM (hP _) ?_
 repeat' (first
|refine zA ?_
|refine zB ?_
|apply s_1
 conv=>whnf;arg 1;arg 4;arg 3;whnf
 refine ⟨?_,?_⟩
|exact trivial)
 refine k_q ?_
 refine zCM (hP _) ?_
 repeat' (first
|refine zA ?_
|refine zB ?_
|apply s_1
 conv=>whnf;arg 1;arg 4;arg 3;whnf
 refine ⟨?_,?_⟩
|apply zi rfl
 . conv=>lhs;whnf
 . conv=>lhs;whnf
 . first | exact hsc
|exact trivial)
 refine k_q ?_
 refine zCM (hP _) ?_
 repeat' (first
|refine zA ?_
|refine zB ?_
|refine zF ?_
|apply aw_1
 conv=>whnf
 refine ⟨?_,trivial⟩
|apply s_1
 conv=>whnf;arg 1;arg 4;arg 3;whnf
 refine ⟨?_,?_⟩
|apply zI rfl rfl rfl
 . conv=>lhs;whnf
 . conv=>lhs;whnf;arg 1;whnf
 . conv=>lhs;whnf;arg 1;whnf
 . exact ⟨by kernel_rfl,by kernel_rfl⟩
 . rfl
|refine ze (by conv=>lhs;whnf) ?_ ?_<;>intro hb
|exact trivial)
 . refine k_qr fun s' w' a' hI' => ?_
   show Leaves _ _ _ _ a'.defers .returning w'
   rw [hI'.df]
   exact ac_fin hI' rfl rfl rfl rfl ⟨_,_,_,rfl,rfl,rfl,rfl⟩ rfl
 . exact absurd hb (by simp [he0])
noncomputable def restP_s:Code:=match Tryz.f10.body with
 |some (.seq _ (.seq _ (.seq _ (.seq _ y))))=>y
 |_ => .skip
def endP_s (d:List D):Exit->Vst 26->Prop
 |.ret,st=>tmOk st slotsP/\rsOk st (zCP [.sl 45 d] 0 0)
 |_,_=>False
def pkP_s (x:Nat × Int) (pv:Value) (tm:Nat->V) (rs:Nat->Option Res):Prop:=
 pv=zEs x/\tmOk (⟨tm,rs⟩:Vst 26) slotsP/\rsOk (⟨tm,rs⟩:Vst 26) (zCP zDoc 0 0)
theorem rest_ok_s {pas:Nat->Prop} {s0:Sg} {hp : ∀ k,k<EN5.G -> ¬ pas k} {dfs:List Deferred} (ts:List Tok) (ops:List D) (x':PS)
 (hdoc:ACE EN5 Tryz.prog 25 [.bx (pn 0) 0] [boxS ts ⟨ts,false,0⟩] (outS ts (fun l=>VDc (zDL l)) (.ok (ops,x')))) :
 AW ⟨Tryz.prog,pas,s0,w0,EN5,he,hp,fun _ _ _=>False,dfs⟩ restP_s (HP3_s ts) (endP_s ops):=by
 unfold restP_s
 simp only [Tryz.f10]
 repeat' (first
|refine zA ?_
|refine zB ?_
|refine zF ?_
|apply aw_1
 conv=>whnf
 refine ⟨?_,trivial⟩
|apply s_1
 conv=>whnf;arg 1;arg 4;arg 3;whnf
 refine ⟨?_,?_⟩
|apply zAW rfl rfl rfl rfl
 . conv=>lhs;whnf;arg 1;whnf
 . rfl
|exact trivial)
 apply s_pr (clS ts) (zS ts) rfl
 . rfl
 . conv=>lhs;whnf
 . rfl
 . conv=>lhs;whnf;arg 1;whnf
 . exact etaPz_s _
 . exact hdoc
 . exact fun _=>rfl
 . intro _ _;unfold VDc;simp only [renL,renV,ren_cells]
 . intro ee hq;cases hq
 intro aa xx hq
 cases hq
 repeat' (first
|refine zB ?_
|refine zF ?_
|apply aw_1
 conv=>whnf
 refine ⟨?_,trivial⟩
|apply zI rfl rfl rfl
 . conv=>lhs;whnf
 . conv=>lhs;whnf;arg 1;whnf
 . conv=>lhs;whnf;arg 1;whnf
 . exact ⟨by kernel_rfl,by kernel_rfl⟩
 . rfl)
 exact ⟨⟨rfl,rfl,rfl,trivial⟩,rfl,rfl,rfl,trivial⟩
theorem rest_pan_s {pas:Nat->Prop} {s0:Sg} {hp : ∀ k,k<EN5.G -> ¬ pas k} {dfs:List Deferred} (ts:List Tok) (x:Nat × Int)
 (hdoc:ACE EN5 Tryz.prog 25 [.bx (pn 0) 0] [boxS ts ⟨ts,false,0⟩] (outS ts (fun l=>VDc (zDL l)) (.error x))) :
 AW ⟨Tryz.prog,pas,s0,w0,EN5,he,hp,pkP_s x,dfs⟩ restP_s (HP3_s ts) (fun _ _=>False):=by
 unfold restP_s
 simp only [Tryz.f10]
 repeat' (first
|refine zA ?_
|refine zB ?_
|refine zF ?_
|apply aw_1
 conv=>whnf
 refine ⟨?_,trivial⟩
|apply s_1
 conv=>whnf;arg 1;arg 4;arg 3;whnf
 refine ⟨?_,?_⟩
|apply zAW rfl rfl rfl rfl
 . conv=>lhs;whnf;arg 1;whnf
 . rfl
|exact trivial)
 apply s_pr (clS ts) (zS ts) rfl
 . rfl
 . conv=>lhs;whnf
 . rfl
 . conv=>lhs;whnf;arg 1;whnf
 . exact etaPz_s _
 . exact hdoc
 . exact fun _=>rfl
 . intro _ _;unfold VDc;simp only [renL,renV,ren_cells]
 . intro ee hq
   cases hq
   exact ⟨rfl,⟨rfl,rfl,rfl,trivial⟩,rfl,rfl,rfl,trivial⟩
 intro aa xx hq
 cases hq
noncomputable def code4_s:Code:=match Tryz.f10.body with
 |some (.seq _ (.seq _ (.seq _ y)))=>y
 |_ => .skip
theorem zEE {ts:List Tok} {Q:Exit->Act->World->Prop} {s:Sg} {w:World} {a:Act} (hI:Inv (cx EN5 Tryz.prog σ w0 he) (HP2_s ts) s w a)
 (h : ∀ (s0:Sg) (p2 p3 p4:Value) (a':Act),s0.F=σ.F->Ptrs Tryz.prog s0 w p2 p3 p4->(∀ pk,∃ s',Inv ⟨Tryz.prog,fun _=>False,s0,w0,EN5,he,fun _ _ h=>h,pk,[zFN p2 p3 p4]⟩ (HP3_s ts) s' w a')->restP_s.wp Tryz.prog Q a' w):code4_s.wp Tryz.prog Q a w:=by
 unfold code4_s
 simp only [Tryz.f10]
 unfold restP_s at h
 simp only [Tryz.f10] at h
 refine wp_seq (wp_region_lit ?_)
 refine wpList_plain rfl fun K' hK' => ?_
 unfold Oper.wp
 have hrun : ∀ (ty:TypeId) (po:String),(execOp a.eval { dst:=some 20,op:=Op.makeFunc (Fn.func 24) #[] #[Operand.tmp 2,Operand.tmp 3,Operand.tmp 4],type:=ty,pos:=po,after:=#[],guard:=none }).run Tryz.prog w = .ok (.value (.func (.func 24) #[] #[a.tmps.getD 2 undef,a.tmps.getD 3 undef,a.tmps.getD 4 undef])) w:=fun ty po=>by simp [execOp,Instr.makeFunc,Act.eval]
 rw [hrun]
 rw [Oper.upon_value]
 refine hK' _ _ ?_
 refine wpList_plain rfl fun K2 hK2 => ?_
 unfold Oper.wp
 have hz:20<a.tmps.size:=by rw [hI.sz];omega
 have hev:(a.put (some 20) (.func (.func 24) #[] #[a.tmps.getD 2 undef,a.tmps.getD 3 undef,a.tmps.getD 4 undef])).eval (.tmp 20) = .func (.func 24) #[] #[a.tmps.getD 2 undef,a.tmps.getD 3 undef,a.tmps.getD 4 undef]:=by
  simp [Act.put,Act.eval,hz]
 simp only [execOp,resolve,hev,Deferred.ofValue,List.map_toArray,List.map_nil,Sem.run_bind,Sem.run_pure,Result.andThen_ok]
 rw [Oper.upon_defer]
 refine hK2 _ _ (wpList_nil ?_)
 have h20:=hI.put (some 20) (v:=.any) (u:=.func (.func 24) #[] #[a.tmps.getD 2 undef,a.tmps.getD 3 undef,a.tmps.getD 4 undef]) (by simp [rel])
 have hd:a.defers=[]:=hI.df
 refine h { s.hand [2,3,4] with F:=σ.F } (a.tmps.getD 2 undef) (a.tmps.getD 3 undef) (a.tmps.getD 4 undef) _ rfl ⟨?_,?_,?_⟩ (fun pk => ?_)
 . exact bx_ren (k:=2) (hI.tm 2 (by omega)) (zCI s [2,3,4] (i:=0) rfl).1
 . exact bx_ren (k:=3) (hI.tm 3 (by omega)) (zCI s [2,3,4] (i:=1) rfl).1
 . exact bx_ren (k:=4) (hI.tm 4 (by omega)) (zCI s [2,3,4] (i:=2) rfl).1
 . refine zI0 (Sub.live (cs:=[(2,.bx (pn 0) 0),(3,.bx (pn 1) 0),(4,.bx (pn 2) 0),(5,zEp ts)]) (R:=zCP zDoc 0 0) ?_ ?_) (Inv.handed h20 [2,3,4] (by decide) (ρs:=[.box 25 zDoc,.box 3 [.c (.int .i64 0)],.box 26 [.c (.int .i64 0)]]) rfl pk [zFN (a.tmps.getD 2 undef) (a.tmps.getD 3 undef) (a.tmps.getD 4 undef)] rfl ?_)
   . exact ⟨rfl,rfl,rfl,rfl,trivial⟩
   . exact ⟨rfl,rfl,rfl,trivial⟩
   . show zFN _ _ _::a.defers=_
     rw [hd]
theorem zHy (s:List UInt8) (ts:List Tok) (hsc:AC EN5 Tryz.prog 23 [.c (.string (bs s))] (.tup [zEp ts,.c (.int .i64 0),.c (.int .i64 0)])) (ops:List D) (x':PS)
 (hdoc:ACE EN5 Tryz.prog 25 [.bx (pn 0) 0] [boxS ts ⟨ts,false,0⟩] (outS ts (fun l=>VDc (zDL l)) (.ok (ops,x')))) :
 AC EN5 Tryz.prog 10 [.c (.string (bs s))] (.tup [.agg [.sl 45 ops],.c (.int .i64 0),.c (.int .i64 0)]):=by
 refine ac_by fun σ w us hus hfx he => ?_
 refine calls_of_wp_defers Tryz.func10 rfl ?_
 have hI:=zFA (nn:=26) (fn:=Tryz.f10) he rfl hus hfx
 have hP : ∀ Q,PQ (cx EN5 Tryz.prog σ w he) 26 Q:=fun Q _ _ _ _ _ _ h=>h.elim
 refine zJc ?_ hI
 clear hI
 refine zCM (hP _) ?_
 repeat' (first
|refine zA ?_
|refine zB ?_
|apply s_1
 conv=>whnf;arg 1;arg 4;arg 3;whnf
 refine ⟨?_,?_⟩
|exact trivial)
 refine k_q ?_
 refine zCM (hP _) ?_
 repeat' (first
|refine zA ?_
|refine zB ?_
|apply s_1
 conv=>whnf;arg 1;arg 4;arg 3;whnf
 refine ⟨?_,?_⟩
|apply zi rfl
 . conv=>lhs;whnf
 . conv=>lhs;whnf
 . first | exact hsc
|exact trivial)
 refine k_q ?_
 refine zCM (hP _) ?_
 repeat' (first
|refine zA ?_
|refine zB ?_
|refine zF ?_
|apply aw_1
 conv=>whnf
 refine ⟨?_,trivial⟩
|apply s_1
 conv=>whnf;arg 1;arg 4;arg 3;whnf
 refine ⟨?_,?_⟩
|exact trivial)
 refine k_q (awq_sub (st':=HP2_s ts) (Sub.live ⟨rfl,rfl,rfl,rfl,trivial⟩ ⟨rfl,rfl,rfl,trivial⟩) (awq_by fun s1 w1 a1 hI1 => ?_))
 refine zEE hI1 fun s0 p2 p3 p4 a' hF hps hpk => ?_
 obtain ⟨s2,hI2⟩:=hpk fun _ _ _=>False
 refine Code.wp_mono (fun en a3 w3 ⟨st3,s3,hI3,hK⟩ => ?_) (zLG (rest_ok_s ts ops x' hdoc) hI2)
 rcases hK with hK | ⟨_,_,hK⟩
 . cases en
   case ret =>
    obtain ⟨s4,hI4⟩:=zI0 (Sub.live (cs:=slotsP) (R:=zCP [.sl 45 ops] 0 0) hK.1 hK.2) hI3
    show Leaves _ _ _ _ a3.defers .returning w3
    rw [hI3.df]
    exact zJJ ops 0 0 hF hps hI4 rfl
   all_goals exact hK.elim
 . exact hK.elim
theorem zJA (s:List UInt8) (ts:List Tok) (hsc:AC EN5 Tryz.prog 23 [.c (.string (bs s))] (.tup [zEp ts,.c (.int .i64 0),.c (.int .i64 0)])) (x:Nat × Int) (hok:(Lit.int .i64 (x.1:Int)).wf=true/\(Lit.int .i64 x.2).wf=true)
 (hdoc:ACE EN5 Tryz.prog 25 [.bx (pn 0) 0] [boxS ts ⟨ts,false,0⟩] (outS ts (fun l=>VDc (zDL l)) (.error x))) :
 AC EN5 Tryz.prog 10 [.c (.string (bs s))] (.tup [.agg zDoc,.c (.int .i64 (x.1:Int)),.c (.int .i64 x.2)]):=by
 refine ac_by fun σ w us hus hfx he => ?_
 refine calls_of_wp_defers Tryz.func10 rfl ?_
 have hI:=zFA (nn:=26) (fn:=Tryz.f10) he rfl hus hfx
 have hP : ∀ Q,PQ (cx EN5 Tryz.prog σ w he) 26 Q:=fun Q _ _ _ _ _ _ h=>h.elim
 refine zJc ?_ hI
 clear hI
 refine zCM (hP _) ?_
 repeat' (first
|refine zA ?_
|refine zB ?_
|apply s_1
 conv=>whnf;arg 1;arg 4;arg 3;whnf
 refine ⟨?_,?_⟩
|exact trivial)
 refine k_q ?_
 refine zCM (hP _) ?_
 repeat' (first
|refine zA ?_
|refine zB ?_
|apply s_1
 conv=>whnf;arg 1;arg 4;arg 3;whnf
 refine ⟨?_,?_⟩
|apply zi rfl
 . conv=>lhs;whnf
 . conv=>lhs;whnf
 . first | exact hsc
|exact trivial)
 refine k_q ?_
 refine zCM (hP _) ?_
 repeat' (first
|refine zA ?_
|refine zB ?_
|refine zF ?_
|apply aw_1
 conv=>whnf
 refine ⟨?_,trivial⟩
|apply s_1
 conv=>whnf;arg 1;arg 4;arg 3;whnf
 refine ⟨?_,?_⟩
|exact trivial)
 refine k_q (awq_sub (st':=HP2_s ts) (Sub.live ⟨rfl,rfl,rfl,rfl,trivial⟩ ⟨rfl,rfl,rfl,trivial⟩) (awq_by fun s1 w1 a1 hI1 => ?_))
 refine zEE hI1 fun s0 p2 p3 p4 a' hF hps hpk => ?_
 obtain ⟨s2,hI2⟩:=hpk (pkP_s x)
 refine Code.wp_mono (fun en a3 w3 ⟨st3,s3,hI3,hK⟩ => ?_) (zLG (rest_pan_s ts x hdoc) hI2)
 rcases hK with hK | ⟨pv,rfl,hK⟩
 . exact hK.elim
 . obtain ⟨rfl,h1,h2⟩:=hK
   obtain ⟨s4,hI4⟩:=zI0 (Sub.live (cs:=slotsP) (R:=zCP zDoc 0 0) h1 h2) hI3
   show Leaves _ _ _ _ a3.defers (.panicking _) w3
   rw [hI3.df]
   exact zJK 0 0 x.1 x.2 hok hF hps hI4
end
end
section
set_option linter.unusedSectionVars false
def c1 (_:RS) (y:PS):Prop:=y.vr=false
theorem cc_1:CC c1:=fun x y h=>by unfold c1;rw [(zKH y).1];exact h
section
variable {l:List Tok} {x:RS} {y:PS} (hE:Ed l) (hK:Kd l)
include hE
theorem zKQ {one:Nat->RS->D × RS} {oq:Nat->PS->PR D} (hm : ∀ n x,x.at'<l.length->Mw l x (one n x).2) (ho : ∀ n x y,Rl l c1 x y->Rf l c1 Eq (one n x) (oq n y)) (s:List UInt8) : ∀ (f:Nat) (acc:List D) (x:RS) (y:PS),Rl l c1 x y->Rf l c1 Eq (manyZ l one s f acc x) (manyQ oq s f acc y)
 |0,_,_,_,_=>fun h=>absurd rfl h
 |f+1,acc,x,y,h=>by
  unfold manyZ manyQ
  by_cases hE1:acc.length≠0/\isS y s=true
  . rw [if_pos hE1,if_neg (fun hh=>by rw [h.sg,hE1.2] at hh;exact hh.2.elim (fun h0=>hE1.1 h0) fun h0=>absurd h0 (by decide))]
    refine .okk rfl ?_
    show Rl l c1 (needZ l s x) _
    unfold needZ
    rw [if_pos (by rw [h.sg];exact hE1.2)]
    exact h.ups hE cc_1 hE1.2
  . have hgo:x.er=0/\(acc.length=0\/sgZ l s x=false):=⟨h.er,by
     rw [h.sg]
     rcases Nat.eq_zero_or_pos acc.length with h0 | h0
     . exact .inl h0
     . exact .inr (by
        cases hq:isS y s with
        |false=>rfl
        |true=>exact (hE1 ⟨by omega,hq⟩).elim)⟩
    rw [if_neg hE1,if_pos hgo]
    refine (ho acc.length x y h).then (zDv hE hm s f _ _ (hm _ _ h.lt).hi) fun a z _ ha hz => ?_
    rw [ha]
    exact zKQ hm ho s f _ _ z hz
theorem lim_rf {α β:Type} {φ:α->β->Prop} {g:RS->α × RS} {q:PS->PR β} (hm : ∀ y,y.at'<l.length->Mw l y (g y).2) (hq : ∀ x y,Rl l c1 x y->Rf l c1 φ (g x) (q y)) (h:Rl l c1 x y) (n most:Nat) :
 Rf l c1 φ (g (limZ l n most x)) (if (hdT y).k=2/\most<=n then .error ((hdT y).i,4) else q y):=by
 unfold limZ
 by_cases hL:(hdT y).k=2/\most<=n
 . rw [if_pos hL,if_pos ⟨hL.2,h.nmT hL.1⟩]
   exact .err h (hm _ (zFI h 4))
 . rw [if_neg hL,if_neg (fun hh=>hL ⟨by rw [h.nm] at hh;simpa using hh.2,hh.1⟩)]
   exact hq x y h
def oneLim (el:PS->PR D) (most n:Nat) (y:PS):PR D:=if (hdT y).k=2/\most<=n then .error ((hdT y).i,4) else el y
omit hE in
theorem zGA (el:PS->PR D) (s:List UInt8) (most:Nat) : ∀ (f:Nat) (acc:List D) (y:PS),manyF el s most f acc y=manyQ (oneLim el most) s f acc y
 |0,_,_=>rfl
 |f+1,acc,y=>by
  unfold manyF manyQ oneLim
  split
  . rfl
  split
  . rfl
  . congr 1
    funext a z
    exact zGA el s most f _ z
theorem zEV {b:RS->D × RS} {el:PS->PR D} (hm : ∀ y,y.at'<l.length->Mw l y (b y).2) (hq : ∀ x y,Rl l c1 x y->Rf l c1 Eq (b x) (el y)) (s:List UInt8) (most:Nat) (h:Rl l c1 x y) (f:Nat) :
 Rf l c1 Eq (manyZ l (fun n x=>b (limZ l n most x)) s f [] x) (manyF el s most f [] y):=by
 rw [zGA]
 exact zKQ hE (fun n x h=>(zAl hE n most h).trans (hm _ (zAl hE n most h).hi)) (fun n x y h=>lim_rf hE hm hq h n most) s f [] x y h
include hK
theorem zHc (h:Rl l c1 x y):Rf l c1 Eq (wholeZ l true x) (zAQ y):=
 (zGT hE hK true 25 1 { x with ct:=0,fx:=true } { y with nd:=0 } ⟨h.er,h.lt,h.ts,⟨rfl,rfl,h.c⟩⟩).mono (fun _ h=>h) fun _ _ h=>h.2.2
theorem argB1_rf (h:Rl l c1 x y):Rf l c1 Eq (argB1 l x) (argQ y):=by
 unfold argB1 argQ
 have m1:=(zy hE h.lt).mv
 have m2:=(zAA hE [58] m1.hi).mv
 have m3:=(zDV hE true m2.hi).mv
 refine (zBt hE cc_1 h).then (m2.trans m3) fun n z _ hn hz => ?_
 refine (zCA hE cc_1 hz [58]).then m3 fun _ u _ _ hu => ?_
 exact (zHc hE hK hu).then (.refl m3.hi) fun v o _ hv ho => .okk (by rw [<- hn,<- hv]) ho
theorem args1_rf (h:Rl l c1 x y):Rf l c1 Eq (if sgZ l [40] x=true then zB4 l (upZ x) else ([],x)) (zBe y):=by
 unfold zBe
 rw [h.sg]
 by_cases hs:isS y [40]=true
 . rw [if_pos hs,if_pos hs,zCN]
   unfold zB4
   have e:l.length+1-(upZ x).at'=y.ts.length:=by rw [h.len];show l.length+1-(x.at'+1)=_;omega
   rw [e]
   exact zEV hE (fun y hy=>(zHW hE hy).mv) (fun x y h=>argB1_rf hE hK h) _ _ (h.ups hE cc_1 hs) _
 . rw [if_neg hs,if_neg hs];exact .okk rfl h
omit hK in
theorem argsI_mw (h:x.at'<l.length):Mw l x (if sgZ l [40] x=true then zB4 l (upZ x) else ([],x)).2:=by
 by_cases hs:sgZ l [40] x=true
 . rw [if_pos hs]
   have h3:=(zAZ hE h hs).mv
   exact h3.trans (zIo hE h3.hi)
 . rw [if_neg hs];exact .refl h
theorem zIb : ∀ (f:Nat) (acc:List D) (x:RS) (y:PS),Rl l c1 x y->Rf l c1 Eq (dirsLT l f acc x) (dirsF f acc y)
 |0,_,_,_,_=>fun h=>absurd rfl h
 |f+1,acc,x,y,h=>by
  unfold dirsLT dirsF
  rw [h.sg]
  by_cases hs:isS y [64]=true
  . rw [if_pos hs,if_pos hs]
    by_cases hL:16<=acc.length
    . rw [if_pos hL,if_pos hL];exact .err h (.refl (zFI h 4))
    . rw [if_neg hL,if_neg hL]
      have h1:=h.ups hE cc_1 hs
      unfold oneDirT
      have m1:=(zy hE h1.lt).mv
      have m2:=argsI_mw hE m1.hi
      have m3:=zFL hE f (acc++[dirD (nameZ l (upZ x)).1 (if sgZ l [40] (nameZ l (upZ x)).2=true then zB4 l (upZ (nameZ l (upZ x)).2) else ([],(nameZ l (upZ x)).2)).1]) _ m2.hi
      refine (zBt hE cc_1 h1).then (m2.trans m3) fun n z _ hn hz => ?_
      refine (args1_rf hE hK hz).then m3 fun aa u _ ha hu => ?_
      dsimp only
      rw [hn,ha]
      exact zIb f _ _ u hu
  . rw [if_neg hs,if_neg hs];exact .okk rfl h
theorem zEc (h:Rl l c1 x y):Rf l c1 Eq (dirsZ1 l x) (zAS y):=by
 unfold dirsZ1 zAS
 have h1:=h.lt
 have e:l.length+1-x.at'=y.ts.length+1:=by rw [h.len];omega
 rw [e]
 exact zIb hE hK _ _ _ _ h
theorem defl1_rf (h:Rl l c1 x y):Rf l c1 Eq (zIf l x) (if isS y [61]=true then zY (zAQ (nxT y)) fun d o => .ok ((true,d),o) else .ok ((false,zA5),y)):=by
 unfold zIf
 rw [h.sg]
 by_cases hs:isS y [61]=true
 . rw [if_pos hs,if_pos hs]
   have h1:=h.ups hE cc_1 hs
   exact (zHc hE hK h1).then (.refl (zDV hE true h1.lt).mv.hi) fun d o _ hd ho => .okk (by rw [hd]) ho
 . rw [if_neg hs,if_neg hs];exact .okk rfl h
theorem inB_rf (h:Rl l c1 x y):Rf l c1 Eq (inB l x) (inQ y):=by
 unfold inB inQ
 have m1:=(zy hE h.lt).mv
 have m2:=(zAA hE [58] m1.hi).mv
 have m3:=(zEn hE m2.hi).mv
 have m4:=defl_mw hE m3.hi
 have m5:=zAO hE m4.hi
 refine (zBt hE cc_1 h).then (((m2.trans m3).trans m4).trans m5) fun n a _ hn ha => ?_
 refine (zCA hE cc_1 ha [58]).then ((m3.trans m4).trans m5) fun _ b _ _ hb => ?_
 refine (typ_rf hE cc_1 hb).then (m4.trans m5) fun t v _ ht hv => ?_
 refine (defl1_rf hE hK hv).then m5 fun d o _ hd ho => ?_
 exact (zEc hE hK ho).then (.refl m5.hi) fun s u _ hs hu => .okk (by rw [<- hn,<- hd,<- ht,<- hs]) hu
theorem insT_rf (s:List UInt8) (h:Rl l c1 x y):Rf l c1 Eq (insT l s x) (insQ s y):=by
 unfold insT insQ
 have h1:=h.lt
 have e:l.length+1-x.at'=y.ts.length+1:=by rw [h.len];omega
 rw [e]
 exact zEV hE (fun y hy=>(inB_pg hE hy).mv) (fun x y h=>inB_rf hE hK h) _ _ h _
theorem fdA_rf (h:Rl l c1 x y):Rf l c1 Eq (if sgZ l [40] x=true then insT l [41] (upZ x) else ([],x)) (if isS y [40]=true then insQ [41] (nxT y) else .ok ([],y)):=by
 rw [h.sg]
 by_cases hs:isS y [40]=true
 . rw [if_pos hs,if_pos hs];exact insT_rf hE hK _ (h.ups hE cc_1 hs)
 . rw [if_neg hs,if_neg hs];exact .okk rfl h
theorem fdB_rf (h:Rl l c1 x y):Rf l c1 Eq (fdB l x) (fdQ y):=by
 unfold fdB fdQ
 have m1:=(zy hE h.lt).mv
 have m2:=fdA_mw hE m1.hi
 have m3:=(zAA hE [58] m2.hi).mv
 have m4:=(zEn hE m3.hi).mv
 have m5:=zAO hE m4.hi
 refine (zBt hE cc_1 h).then (((m2.trans m3).trans m4).trans m5) fun n a _ hn ha => ?_
 refine (fdA_rf hE hK ha).then ((m3.trans m4).trans m5) fun aa b _ haa hb => ?_
 refine (zCA hE cc_1 hb [58]).then (m4.trans m5) fun _ u _ _ hu => ?_
 refine (typ_rf hE cc_1 hu).then m5 fun t v _ ht hv => ?_
 exact (zEc hE hK hv).then (.refl m5.hi) fun s o _ hs ho => .okk (by rw [<- hn,<- haa,<- ht,<- hs]) ho
theorem fdsT_rf (h:Rl l c1 x y):Rf l c1 Eq (fdsT l x) (fdsQ y):=by
 unfold fdsT fdsQ
 have h1:=h.lt
 have e:l.length+1-x.at'=y.ts.length+1:=by rw [h.len];omega
 rw [e]
 exact zEV hE (fun y hy=>(fdB_pg hE hy).mv) (fun x y h=>fdB_rf hE hK h) _ _ h _
theorem mbB_rf (h:Rl l c1 x y):Rf l c1 Eq (mbB l x) (mbQ y):=by
 unfold mbB mbQ
 have m1:=(zy hE h.lt).mv
 have m2:=zAO hE m1.hi
 refine (zBt hE cc_1 h).then m2 fun n a _ hn ha => ?_
 exact (zEc hE hK ha).then (.refl m2.hi) fun s o _ hs ho => .okk (by rw [<- hn,<- hs]) ho
theorem mbsT_rf (h:Rl l c1 x y):Rf l c1 Eq (mbsT l x) (mbsQ y):=by
 unfold mbsT mbsQ
 have h1:=h.lt
 have e:l.length+1-x.at'=y.ts.length+1:=by rw [h.len];omega
 rw [e]
 exact zEV hE (fun y hy=>(mbB_pg hE hy).mv) (fun x y h=>mbB_rf hE hK h) _ _ h _
omit hK in
theorem zIA (s:List UInt8) : ∀ (f:Nat) (acc:List D) (x:RS) (y:PS),Rl l c1 x y->Rf l c1 Eq (namesLT l s f acc x) (namesF s f acc y)
 |0,_,_,_,_=>fun h=>absurd rfl h
 |f+1,acc,x,y,h=>by
  unfold namesLT
  rw [if_pos h.er]
  exact lim_rf hE (α:=List D) (φ:=Eq) (g:=fun x=>if sgZ l s (nameZ l x).2=true then namesLT l s f (acc++[strD (nameZ l x).1]) (upZ (nameZ l x).2) else (acc++[strD (nameZ l x).1],(nameZ l x).2))
   (q:=fun y=>zY (nameQ y) fun n z=>if isS z s=true then namesF s f (acc++[strD n]) (nxT z) else .ok (acc++[strD n],z))
   (fun y hy=>by
     have h2:=(zy hE hy).mv
     by_cases hs:sgZ l s (nameZ l y).2=true
     . rw [if_pos hs]
       have h3:=h2.trans (zAZ hE h2.hi hs).mv
       exact h3.trans (zC1 hE s f _ _ h3.hi)
     . rw [if_neg hs];exact h2)
   (fun x y h=>by
     have h2:=(zy hE h.lt).mv
     refine (zBt hE cc_1 h).then ?_ fun n z _ hn hz => ?_
     . by_cases hs:sgZ l s (nameZ l x).2=true
       . rw [if_pos hs]
         have h3:=(zAZ hE h2.hi hs).mv
         exact h3.trans (zC1 hE s f _ _ h3.hi)
       . rw [if_neg hs];exact .refl h2.hi
     . rw [hz.sg,hn]
       by_cases hs:isS z s=true
       . rw [if_pos hs,if_pos hs];exact zIA s f _ _ _ (hz.ups hE cc_1 hs)
       . rw [if_neg hs,if_neg hs];exact .okk rfl hz)
   h acc.length 64
omit hK in
theorem zKM (s:List UInt8) (h:Rl l c1 x y):Rf l c1 Eq (namesT l s x) (zA7 s y):=by
 unfold namesT zA7
 have h1:=h.lt
 have e:l.length+1-x.at'=y.ts.length+1:=by rw [h.len];omega
 rw [e]
 exact zIA hE s _ _ _ _ h
omit hK in
theorem faces_rf (k:Int) (h:Rl l c1 x y):Rf l c1 Eq (zAf l k x) (zAs k y):=by
 unfold zAf zAs
 by_cases hs:k=1/\(hdT y).k=2/\(hdT y).s=zFj
 . rw [if_pos hs,if_pos ⟨hs.1,by rw [h.wd,hs.2.1,hs.2.2];rfl⟩]
   exact zKM hE _ (h.upn hE cc_1 hs.2.1)
 . rw [if_neg hs,if_neg (fun hh=>hs ⟨hh.1,by have:=hh.2;rw [h.wd] at this;simpa using this⟩)];exact .okk rfl h
theorem body_rf (k:Int) (h:Rl l c1 x y):Rf l c1 Eq (zFW l k x) (zBb k y):=by
 have m1:=(zAA hE [61] h.lt).mv
 have m2:=(zAA hE [123] h.lt).mv
 unfold zFW zBb
 by_cases k3:k=3
 . rw [if_pos k3,if_pos k3]
   have m3:=zDg hE [124] m1.hi
   refine (zCA hE cc_1 h [61]).then m3 fun _ z _ _ hz => ?_
   exact (zKM hE [124] hz).then (.refl m3.hi) fun a o _ ha ho => .okk (by rw [<- ha]) ho
 rw [if_neg k3,if_neg k3]
 by_cases k5:k=5
 . rw [if_pos k5]
   have m3:=zG8 hE [125] m2.hi
   refine (zCA hE cc_1 h [123]).then m3 fun _ z _ _ hz => ?_
   rw [if_pos k5]
   exact (insT_rf hE hK [125] hz).then (.refl m3.hi) fun a o _ ha ho => .okk (by rw [<- ha]) ho
 rw [if_neg k5]
 by_cases k4:k=4
 . rw [if_pos k4]
   have m3:=mbsT_mw hE m2.hi
   refine (zCA hE cc_1 h [123]).then m3 fun _ z _ _ hz => ?_
   rw [if_neg k5,if_pos k4]
   exact (mbsT_rf hE hK hz).then (.refl m3.hi) fun a o _ ha ho => .okk (by rw [<- ha]) ho
 . rw [if_neg k4]
   have m3:=fdsT_mw hE m2.hi
   refine (zCA hE cc_1 h [123]).then m3 fun _ z _ _ hz => ?_
   rw [if_neg k5,if_neg k4]
   exact (fdsT_rf hE hK hz).then (.refl m3.hi) fun a o _ ha ho => .okk (by rw [<- ha]) ho
theorem sdef_rf (k:Int) (h:Rl l c1 x y) (hn:(hdT y).k=2):Rf l c1 Eq (zAi l k x) (zBf k (nxT y)):=by
 have h1:=h.upn hE cc_1 hn
 have m1:=(zy hE h1.lt).mv
 have m2:=zIU hE k m1.hi
 have m3:=zAO hE m2.hi
 have m4:=zLE hE k m3.hi
 unfold zAi zBf
 refine (zBt hE cc_1 h1).then ((m2.trans m3).trans m4) fun n a _ hn ha => ?_
 refine (faces_rf hE k ha).then (m3.trans m4) fun f b _ hf hb => ?_
 refine (zEc hE hK hb).then m4 fun s c _ hs hc => ?_
 exact (body_rf hE hK k hc).then (.refl m4.hi) fun d o _ hd ho => .okk (by rw [<- hn,<- hf,<- hs,<- hd]) ho
theorem zJz : ∀ (f:Nat) (acc:List D) (x:RS) (y:PS),Rl l c1 x y->Rf l c1 Eq (sdocLT l f acc x) (sdocF f acc y)
 |0,_,_,_,_=>fun h=>absurd rfl h
 |f+1,acc,x,y,h=>by
  unfold sdocF
  by_cases hend:acc.length≠0/\(hdT y).k=5
  . rw [if_pos hend]
    unfold sdocLT
    rw [if_neg (fun hh=>by rw [h.hd] at hh;exact hh.2.elim (fun h1=>hend.1 h1) fun h1=>h1 hend.2)]
    exact .okk rfl h
  rw [if_neg hend]
  have hgo:x.er=0/\(acc.length=0\/(tkZ l x).k≠5):=⟨h.er,by
   rw [h.hd]
   rcases Nat.eq_zero_or_pos acc.length with h1 | h1
   . exact .inl h1
   . exact .inr fun h2=>hend ⟨by omega,h2⟩⟩
  have hkk:0<=kindS (hdT y).s:=(zEW _).1
  unfold sdocLT
  rw [if_pos hgo]
  by_cases hw:(hdT y).k=2/\0<kindS (hdT y).s
  . have hh1 : ¬ (nmZ l x=false\/kindS (tkZ l x).s=0):=fun hh=>by
     rw [h.nm,h.hd,hw.1] at hh
     rcases hh with hh | hh
     . cases hh
     . omega
    rw [if_neg hh1,if_neg (show ¬ ¬ ((hdT y).k=2/\0<kindS (hdT y).s) from fun hh=>hh hw)]
    by_cases h64:64<=acc.length
    . rw [if_pos h64,if_pos h64];exact .err h (.refl (zFI h 4))
    rw [if_neg h64,if_neg h64,h.hd]
    have m0:=(zGg hE (kindS (hdT y).s) h.lt (h.nmT hw.1)).mv
    refine (sdef_rf hE hK _ h hw.1).then (zHm hE f _ _ m0.hi) fun d z _ hd hz => ?_
    rw [hd]
    exact zJz f _ _ z hz
  . have hh1:nmZ l x=false\/kindS (tkZ l x).s=0:=by
     rw [h.nm,h.hd]
     by_cases h2:(hdT y).k=2
     . refine .inr ?_
       rcases Int.lt_or_le 0 (kindS (hdT y).s) with h3 | h3
       . exact (hw ⟨h2,h3⟩).elim
       . omega
     . exact .inl (by simpa using h2)
    rw [if_pos hh1,if_pos hw]
    exact .err h (.refl (zFI h 3))
end
end
section
section
variable {al:List Tok}
theorem zGz {el:PS->PR D} (hv : ∀ y,Sx al y->Nz (el y)) (hl : ∀ {y z a},Sx al y->el y = .ok (a,z)->Sx al z/\z.ts.length<y.ts.length) (s:List UInt8) (most:Nat) : ∀ (f:Nat) (acc:List D) (x:PS),Sx al x->x.ts.length<f->Nz (manyF el s most f acc x)
 |0,_,_,_,h=>by omega
 |f+1,acc,x,hx,h=>by
  unfold manyF
  exact .ite (fun _ => .okk _) fun _ => .ite (fun _ => .err (by decide)) fun _ => .then (hv x hx) fun _ y hq=>zGz hv hl s most f _ y (hl hx hq).1 (by have:=(hl hx hq).2;omega)
theorem in_nz (x:PS) (h:Sx al x):Nz (inQ x):=by
 unfold inQ
 refine .then (zBu x) fun n y h1 => .then (zDI _ y) fun u z h2 => .then (typ_nz z) fun t v h3 => .then (.ite (fun hs => ?_) fun _ => .okk _) fun d o h4 => .then (zHK o ?_) fun _ _ _ => .okk _
 . have a:=(((h.name h1).1.take h2).1.typ h3).1
   exact .then (zJk _ (a.sg hs).1.en) fun _ _ _ => .okk _
 . have a:=(((h.name h1).1.take h2).1.typ h3).1
   by_cases hs:isS v [61]=true
   . rw [if_pos hs] at h4
     obtain ⟨d',z',h5,h6⟩:=zAh h4
     cases h6
     exact ((a.sg hs).1.whole h5).1.en
   . rw [if_neg hs] at h4;cases h4;exact a.en
theorem ins_nz (s:List UInt8) (x:PS) (h:Sx al x):Nz (insQ s x):=zGz in_nz (fun hy hq=>hy.inp hq) _ _ _ _ _ h (Nat.lt_succ_self _)
theorem fd_nz (x:PS) (h:Sx al x):Nz (fdQ x):=by
 unfold fdQ
 refine .then (zBu x) fun n y h1 => .then (.ite (fun hs=>ins_nz _ _ ((h.name h1).1.sg hs).1) fun _ => .okk _) fun aa z h2 => .then (zDI _ z) fun u v h3 => .then (typ_nz v) fun t o h4 => .then (zHK o ?_) fun _ _ _ => .okk _
 have a:=(h.name h1).1
 have hz:Sx al z:=by
  by_cases hs:isS y [40]=true
  . rw [if_pos hs] at h2;exact ((a.sg hs).1.ins h2).1
  . rw [if_neg hs] at h2;cases h2;exact a
 exact ((hz.take h3).1.typ h4).1.en
theorem mb_nz (x:PS) (h:Sx al x):Nz (mbQ x):=.then (zBu x) fun _ y h1 => .then (zHK y (h.name h1).1.en) fun _ _ _ => .okk _
theorem zIC (s:List UInt8) : ∀ (f:Nat) (acc:List D) (x:PS),Sx al x->x.ts.length<f->Nz (namesF s f acc x)
 |0,_,_,_,h=>by omega
 |f+1,acc,x,hx,h=>by
  unfold namesF
  refine .ite (fun _ => .err (by decide)) fun _ => .then (zBu x) fun n y h1 => .ite (fun hs => ?_) fun _ => .okk _
  have a:=hx.name h1
  have b:=a.1.sg hs
  exact zIC s f _ _ b.1 (by omega)
theorem zKN (s:List UInt8) (x:PS) (h:Sx al x):Nz (zA7 s x):=zIC s _ _ x h (Nat.lt_succ_self _)
theorem faces_nz (k:Int) (x:PS) (h:Sx al x):Nz (zAs k x):=.ite (fun hs=>zKN _ _ (h.nx (by rw [hs.2.1];decide)).1) fun _ => .okk _
theorem body_nz (k:Int) (x:PS) (h:Sx al x):Nz (zBb k x):=by
 unfold zBb
 refine .ite (fun _ => .then (zDI _ x) fun _ y h1 => .then (zKN _ y (h.take h1).1) fun _ _ _ => .okk _) fun _ => .then (zDI _ x) fun _ y h1 => ?_
 have a:=(h.take h1).1
 exact .ite (fun _ => .then (ins_nz _ y a) fun _ _ _ => .okk _) fun _ => .ite (fun _ => .then (zGz mb_nz (fun hy hq=>hy.mb hq) _ _ _ _ y a (Nat.lt_succ_self _)) fun _ _ _ => .okk _) fun _ => .then (zGz fd_nz (fun hy hq=>hy.fd hq) _ _ _ _ y a (Nat.lt_succ_self _)) fun _ _ _ => .okk _
theorem sdef_nz (k:Int) (x:PS) (h:Sx al x):Nz (zBf k x):=
 .then (zBu x) fun _ y h1 => .then (faces_nz k y (h.name h1).1) fun _ z h2 => .then (zHK z ((h.name h1).1.faces h2).1.en) fun _ u h3 => .then (body_nz k u (((h.name h1).1.faces h2).1.dirs h3).1) fun _ _ _ => .okk _
theorem zJ1 : ∀ (f:Nat) (acc:List D) (x:PS),Sx al x->x.ts.length<f->Nz (sdocF f acc x)
 |0,_,_,_,h=>by omega
 |f+1,acc,x,hx,h=>by
  unfold sdocF
  refine .ite (fun _ => .okk _) fun _ => .ite (fun _ => .err (by decide)) fun hw => .ite (fun _ => .err (by decide)) fun _ => ?_
  have hk:(hdT x).k=2:=by
   by_cases h2:(hdT x).k=2
   . exact h2
   . exact (hw fun hh=>h2 hh.1).elim
  have a:=hx.nx (by rw [hk];decide)
  exact .then (sdef_nz _ _ a.1) fun d y hq=>zJ1 f _ y (a.1.sdef hq).1 (by have:=(a.1.sdef hq).2;omega)
end
theorem Sx.start {ts:List Tok} (h:En ⟨ts,true,0⟩):Sx ts ⟨ts,false,0⟩:=⟨h,rfl,List.suffix_refl _⟩
theorem sdoc_nz {ts:List Tok} (h:En ⟨ts,true,0⟩):Nz (zEv ts):=zJ1 _ _ _ (Sx.start h) (Nat.lt_succ_self _)
theorem zJC (s:List UInt8):zJD s=parseD s:=by
 unfold zJD parseD
 cases hs:zAp s with
 |error e=>rfl
 |ok ts =>
  dsimp only
  obtain ⟨hK,hE⟩:=zI6 hs
  have hEn:=(zGh hs).1
  have hne:=sdoc_nz hEn
  obtain ⟨a,e,hts,-⟩:=hEn
  have hts:ts=a++[e]:=hts
  have hlen:0<ts.length:=by rw [hts];simp
  have hR:Rl ts c1 ⟨0,0,true,0,0⟩ ⟨ts,false,0⟩:=⟨rfl,hlen,rfl,rfl⟩
  have h:Rf ts c1 Eq (sdocT ts) (zEv ts):=zJz hE hK (ts.length+1) [] _ _ hR
  cases hq:zEv ts with
  |error p =>
   obtain ⟨i,e⟩:=p
   rw [hq] at h hne
   have he:e≠0:=fun h0=>hne i (by rw [h0])
   have h1:=h he
   dsimp only at h1
   rw [if_pos (by rw [h1.1];exact he),h1.1,h1.2]
  |ok p =>
   obtain ⟨q,y⟩:=p
   rw [hq] at h
   rw [if_neg (fun hh=>hh h.2.er),h.1]
end
section
section
variable {T:Tok->Tok->Prop} {I:Nat->Nat->Prop} (hT:TR T I)
include hT
theorem zGy {el:PS->PR D} (hv : ∀ {x x':PS},XR T x x'->RR T I (el x) (el x')) (s:List UInt8) (most:Nat) : ∀ (f:Nat) (acc:List D) {x x':PS},XR T x x'->RR T I (manyF el s most f acc x) (manyF el s most f acc x')
 |0,_,_,_,h => .err hT h _
 |f+1,acc,x,x',h=>by
  unfold manyF
  rw [h.isS hT,(h.hd hT).1]
  exact .ite (fun _ => .okk (h.nx hT) _) fun _ => .ite (fun _ => .err hT h _) fun _ => .then (hv h) fun _ _ _ hy=>zGy hv s most f _ hy
theorem in_rr {x x':PS} (h:XR T x x'):RR T I (inQ x) (inQ x'):=by
 unfold inQ
 refine .then (zBs hT h) fun _ _ _ hy => .then (zDH hT hy _) fun _ _ _ hz => .then (typ_rr hT hz) fun _ u u' hu => ?_
 rw [hu.isS hT]
 exact .then (.ite (fun _ => .then (zJj hT (hu.nx hT)) fun _ _ _ ho => .okk ho _) fun _ => .okk hu _) fun _ _ _ hv => .then (zHJ hT hv) fun _ _ _ hw => .okk hw _
theorem ins_rr (s:List UInt8) {x x':PS} (h:XR T x x'):RR T I (insQ s x) (insQ s x'):=by
 unfold insQ
 rw [h.len]
 exact zGy hT (in_rr hT) _ _ _ _ h
theorem fd_rr {x x':PS} (h:XR T x x'):RR T I (fdQ x) (fdQ x'):=by
 unfold fdQ
 refine .then (zBs hT h) fun _ y y' hy => ?_
 rw [hy.isS hT]
 exact .then (.ite (fun _=>ins_rr hT _ (hy.nx hT)) fun _ => .okk hy _) fun _ _ _ hz => .then (zDH hT hz _) fun _ _ _ hu => .then (typ_rr hT hu) fun _ _ _ hv => .then (zHJ hT hv) fun _ _ _ hw => .okk hw _
theorem mb_rr {x x':PS} (h:XR T x x'):RR T I (mbQ x) (mbQ x'):=.then (zBs hT h) fun _ _ _ hy => .then (zHJ hT hy) fun _ _ _ hz => .okk hz _
theorem fds_rr {x x':PS} (h:XR T x x'):RR T I (fdsQ x) (fdsQ x'):=by
 unfold fdsQ
 rw [h.len]
 exact zGy hT (fd_rr hT) _ _ _ _ h
theorem mbs_rr {x x':PS} (h:XR T x x'):RR T I (mbsQ x) (mbsQ x'):=by
 unfold mbsQ
 rw [h.len]
 exact zGy hT (mb_rr hT) _ _ _ _ h
theorem zIB (s:List UInt8) : ∀ (f:Nat) (acc:List D) {x x':PS},XR T x x'->RR T I (namesF s f acc x) (namesF s f acc x')
 |0,_,_,_,h => .err hT h _
 |f+1,acc,x,x',h=>by
  unfold namesF
  rw [(h.hd hT).1]
  refine .ite (fun _ => .err hT h _) fun _ => .then (zBs hT h) fun _ y y' hy => ?_
  rw [hy.isS hT]
  exact .ite (fun _=>zIB s f _ (hy.nx hT)) fun _ => .okk hy _
theorem zKL (s:List UInt8) {x x':PS} (h:XR T x x'):RR T I (zA7 s x) (zA7 s x'):=by
 unfold zA7
 rw [h.len]
 exact zIB hT s _ _ h
theorem faces_rr (k:Int) {x x':PS} (h:XR T x x'):RR T I (zAs k x) (zAs k x'):=by
 unfold zAs
 rw [(h.hd hT).1,(h.hd hT).2.1]
 exact .ite (fun _=>zKL hT _ (h.nx hT)) fun _ => .okk h _
theorem body_rr (k:Int) {x x':PS} (h:XR T x x'):RR T I (zBb k x) (zBb k x'):=by
 unfold zBb
 refine .ite (fun _ => .then (zDH hT h _) fun _ _ _ hy => .then (zKL hT _ hy) fun _ _ _ hz => .okk hz _) fun _ => .then (zDH hT h _) fun _ _ _ hy => ?_
 exact .ite (fun _ => .then (ins_rr hT _ hy) fun _ _ _ hz => .okk hz _) fun _ => .ite (fun _ => .then (mbs_rr hT hy) fun _ _ _ hz => .okk hz _) fun _ => .then (fds_rr hT hy) fun _ _ _ hz => .okk hz _
theorem sdef_rr (k:Int) {x x':PS} (h:XR T x x'):RR T I (zBf k x) (zBf k x'):=
 .then (zBs hT h) fun _ _ _ hy => .then (faces_rr hT k hy) fun _ _ _ hz => .then (zHJ hT hz) fun _ _ _ hu => .then (body_rr hT k hu) fun _ _ _ hv => .okk hv _
theorem zJ0 : ∀ (f:Nat) (acc:List D) {x x':PS},XR T x x'->RR T I (sdocF f acc x) (sdocF f acc x')
 |0,_,_,_,h => .err hT h _
 |f+1,acc,x,x',h=>by
  unfold sdocF
  rw [(h.hd hT).1,(h.hd hT).2.1]
  exact .ite (fun _ => .okk h _) fun _ => .ite (fun _ => .err hT h _) fun _ => .ite (fun _ => .err hT h _) fun _ => .then (sdef_rr hT _ (h.nx hT)) fun _ _ _ hy=>zJ0 f _ hy
theorem sdoc_rr {ts ts':List Tok} (h:All2 T ts ts'):RR T I (zEv ts) (zEv ts'):=by
 unfold zEv
 rw [<- zDQ h]
 exact zJ0 hT _ _ ⟨h,rfl,rfl⟩
end
end
section
def Mz {α:Type} (r:PR α):Prop:=∀ i e,r = .error (i,e)->0<e/\e<=100
section
variable {α β:Type}
theorem Mz.okk (p:α × PS):Mz (.ok p:PR α):=fun i e h=>by cases h
theorem Mz.err {i:Nat} {e:Int} (h:0<e/\e<=100):Mz (.error (i,e):PR α):=fun j e' hj=>by cases hj;exact h
theorem Mz.ite {c:Prop} [Decidable c] {a b:PR α} (h1:c->Mz a) (h2 : ¬ c->Mz b):Mz (if c then a else b):=by
 split
 . exact h1 ‹_›
 . exact h2 ‹_›
theorem Mz.then {r:PR α} {f:α->PS->PR β} (h:Mz r) (hf : ∀ a x,r = .ok (a,x)->Mz (f a x)):Mz (zY r f):=by
 cases hr:r with
 |error e =>
  rw [zt (r:=.error e) rfl]
  intro i e' hi
  cases hi
  exact h i e' hr
 |ok p =>
  obtain ⟨a,x⟩:=p
  rw [za (r:=.ok (a,x)) rfl]
  exact hf a x hr
theorem zDJ (s:List UInt8) (x:PS):Mz (takeQ s x):=by
 unfold takeQ
 exact .ite (fun _ => .okk _) fun _ => .err (by decide)
theorem zBv (x:PS):Mz (nameQ x):=by
 unfold nameQ
 exact .ite (fun _ => .okk _) fun _ => .err (by decide)
theorem zLA : ∀ (n:Nat) (w:List Int) (x:PS),Mz (closeQ n w x)
 |0,w,x=>by unfold closeQ;exact .okk _
 |n+1,w,x=>by unfold closeQ;exact .then (zDJ _ _) fun _ y _=>zLA n _ y
theorem inner_mz (x:PS):Mz (zAX x):=.then (zBv _) fun _ y _ => .then (zLA _ _ y) fun _ _ _ => .okk _
theorem typ_mz (x:PS):Mz (typQ x):=.then (inner_mz x) fun _ _ _ => .ite (fun _ => .err (by decide)) fun _ => .okk _
theorem zKY {v:PS->PR D} (hv : ∀ y,En y->Mz (v y)) (hl : ∀ {y z a},En y->v y = .ok (a,z)->En z/\z.ts.length<y.ts.length) : ∀ (f:Nat) (acc:List D) (x:PS),En x->x.ts.length<f->Mz (itemsQ v f acc x)
 |0,_,_,_,h=>by omega
 |f+1,acc,x,hx,h=>by
  unfold itemsQ
  exact .ite (fun _ => .okk _) fun _ => .then (hv x hx) fun _ y hq=>zKY hv hl f _ y (hl hx hq).1 (by have:=(hl hx hq).2;omega)
theorem zIS {v:PS->PR D} (hv : ∀ y,En y->Mz (v y)) (hl : ∀ {y z a},En y->v y = .ok (a,z)->En z/\z.ts.length<y.ts.length) : ∀ (f:Nat) (ks:List (List UInt8)) (acc:List D) (x:PS),En x->x.ts.length<f->Mz (z7 v f ks acc x)
 |0,_,_,_,_,h=>by omega
 |f+1,ks,acc,x,hx,h=>by
  unfold z7
  refine .ite (fun _ => .okk _) fun _ => .then (zBv x) fun k y hn => .ite (fun _ => .err (by decide)) fun _ => .then (zDJ _ y) fun u z ht => .then (hv z ?_) fun _ w hw=>zIS hv hl f _ _ w ?_ ?_
  . exact ((hx.name hn).1.take ht).1
  . exact (hl ((hx.name hn).1.take ht).1 hw).1
  . have h1:=hx.name hn
    have h2:=h1.1.take ht
    have h3:=hl h2.1 hw
    omega
theorem zGV : ∀ (f lv:Nat) (x:PS),En x->lv<=25->26<=f+lv->Mz (valueQ f lv x)
 |0,lv,_,_,h1,h2=>by omega
 |f+1,lv,x,hx,h1,h2=>by
  have hy:En { nxT x with nd:=x.nd+1 }:=hx.nx0
  unfold valueQ
  refine .ite (fun _ => .err (by decide)) fun _ => .ite (fun _ => .err (by decide)) fun hlv => .ite (fun _ => .err (by decide)) fun _ => ?_
  dsimp only
  refine .ite (fun _ => .okk _) fun _ => .ite (fun _ => .okk _) fun _ => .ite (fun _ => .okk _) fun _ => .ite (fun _ => .then (zBv _) fun _ _ _ => .okk _) fun _ => .ite (fun _ => ?_) fun _ => ?_
  . exact .then (zKY (fun y hy=>zGV f (lv+1) y hy (by omega) (by omega)) (fun hy hq=>hy.valueL hq) _ _ _ hy (Nat.lt_succ_self _)) fun _ _ _ => .okk _
  . exact .then (zIS (fun y hy=>zGV f (lv+1) y hy (by omega) (by omega)) (fun hy hq=>hy.valueL hq) _ _ _ _ hy (Nat.lt_succ_self _)) fun _ _ _ => .okk _
theorem zJl (x:PS) (h:En x):Mz (zAQ x):=zGV 25 1 _ h (by omega) (by omega)
theorem zLL : ∀ (f:Nat) (acc:List D) (x:PS),En x->x.ts.length<=f->Mz (zDO f acc x)
 |0,_,x,hx,h=>by obtain ⟨t,r,ht⟩:=hx.cons;rw [ht] at h;simp at h
 |f+1,acc,x,hx,h=>by
  unfold zDO
  refine .ite (fun _ => .okk _) fun _ => .ite (fun _ => .err (by decide)) fun _ => .then (zBv x) fun n y hn => .then (zDJ _ y) fun u z ht => .then (zJl z ?_) fun _ w hw=>zLL f _ w ?_ ?_
  . exact ((hx.name hn).1.take ht).1
  . exact (((hx.name hn).1.take ht).1.whole hw).1
  . have h1:=hx.name hn
    have h2:=h1.1.take ht
    have h3:=h2.1.whole hw
    omega
theorem args_mz (x:PS) (h:En x):Mz (zBe x):=.ite (fun hs=>zLL _ _ _ h.nx0 (by have:=(h.sg hs).2;omega)) fun _ => .okk _
theorem zKy : ∀ (f:Nat) (acc:List D) (x:PS),En x->x.ts.length<f->Mz (dirsF f acc x)
 |0,_,_,_,h=>by omega
 |f+1,acc,x,hx,h=>by
  unfold dirsF
  refine .ite (fun hs => .ite (fun _ => .err (by decide)) fun _ => .then (zBv _) fun n y hn => .then (args_mz y ?_) fun _ z hz=>zKy f _ z ?_ ?_) fun _ => .okk _
  . exact (hx.nx0.name hn).1
  . exact ((hx.nx0.name hn).1.args hz).1
  . have h1:=hx.sg hs
    have h2:=h1.1.name hn
    have h3:=h2.1.args hz
    omega
theorem zHL (x:PS) (h:En x):Mz (zAS x):=zKy _ _ _ h (Nat.lt_succ_self _)
end
end
section
section
variable {al:List Tok}
theorem zG0 {el:PS->PR D} (hv : ∀ y,Sx al y->Mz (el y)) (hl : ∀ {y z a},Sx al y->el y = .ok (a,z)->Sx al z/\z.ts.length<y.ts.length) (s:List UInt8) (most:Nat) : ∀ (f:Nat) (acc:List D) (x:PS),Sx al x->x.ts.length<f->Mz (manyF el s most f acc x)
 |0,_,_,_,h=>by omega
 |f+1,acc,x,hx,h=>by
  unfold manyF
  exact .ite (fun _ => .okk _) fun _ => .ite (fun _ => .err (by decide)) fun _ => .then (hv x hx) fun _ y hq=>zG0 hv hl s most f _ y (hl hx hq).1 (by have:=(hl hx hq).2;omega)
theorem in_mz (x:PS) (h:Sx al x):Mz (inQ x):=by
 unfold inQ
 refine .then (zBv x) fun n y h1 => .then (zDJ _ y) fun u z h2 => .then (typ_mz z) fun t v h3 => .then (.ite (fun hs => ?_) fun _ => .okk _) fun d o h4 => .then (zHL o ?_) fun _ _ _ => .okk _
 . have a:=(((h.name h1).1.take h2).1.typ h3).1
   exact .then (zJl _ (a.sg hs).1.en) fun _ _ _ => .okk _
 . have a:=(((h.name h1).1.take h2).1.typ h3).1
   by_cases hs:isS v [61]=true
   . rw [if_pos hs] at h4
     obtain ⟨d',z',h5,h6⟩:=zAh h4
     cases h6
     exact ((a.sg hs).1.whole h5).1.en
   . rw [if_neg hs] at h4;cases h4;exact a.en
theorem ins_mz (s:List UInt8) (x:PS) (h:Sx al x):Mz (insQ s x):=zG0 in_mz (fun hy hq=>hy.inp hq) _ _ _ _ _ h (Nat.lt_succ_self _)
theorem fd_mz (x:PS) (h:Sx al x):Mz (fdQ x):=by
 unfold fdQ
 refine .then (zBv x) fun n y h1 => .then (.ite (fun hs=>ins_mz _ _ ((h.name h1).1.sg hs).1) fun _ => .okk _) fun aa z h2 => .then (zDJ _ z) fun u v h3 => .then (typ_mz v) fun t o h4 => .then (zHL o ?_) fun _ _ _ => .okk _
 have a:=(h.name h1).1
 have hz:Sx al z:=by
  by_cases hs:isS y [40]=true
  . rw [if_pos hs] at h2;exact ((a.sg hs).1.ins h2).1
  . rw [if_neg hs] at h2;cases h2;exact a
 exact ((hz.take h3).1.typ h4).1.en
theorem mb_mz (x:PS) (h:Sx al x):Mz (mbQ x):=.then (zBv x) fun _ y h1 => .then (zHL y (h.name h1).1.en) fun _ _ _ => .okk _
theorem zID (s:List UInt8) : ∀ (f:Nat) (acc:List D) (x:PS),Sx al x->x.ts.length<f->Mz (namesF s f acc x)
 |0,_,_,_,h=>by omega
 |f+1,acc,x,hx,h=>by
  unfold namesF
  refine .ite (fun _ => .err (by decide)) fun _ => .then (zBv x) fun n y h1 => .ite (fun hs => ?_) fun _ => .okk _
  have a:=hx.name h1
  have b:=a.1.sg hs
  exact zID s f _ _ b.1 (by omega)
theorem zKO (s:List UInt8) (x:PS) (h:Sx al x):Mz (zA7 s x):=zID s _ _ x h (Nat.lt_succ_self _)
theorem faces_mz (k:Int) (x:PS) (h:Sx al x):Mz (zAs k x):=.ite (fun hs=>zKO _ _ (h.nx (by rw [hs.2.1];decide)).1) fun _ => .okk _
theorem body_mz (k:Int) (x:PS) (h:Sx al x):Mz (zBb k x):=by
 unfold zBb
 refine .ite (fun _ => .then (zDJ _ x) fun _ y h1 => .then (zKO _ y (h.take h1).1) fun _ _ _ => .okk _) fun _ => .then (zDJ _ x) fun _ y h1 => ?_
 have a:=(h.take h1).1
 exact .ite (fun _ => .then (ins_mz _ y a) fun _ _ _ => .okk _) fun _ => .ite (fun _ => .then (zG0 mb_mz (fun hy hq=>hy.mb hq) _ _ _ _ y a (Nat.lt_succ_self _)) fun _ _ _ => .okk _) fun _ => .then (zG0 fd_mz (fun hy hq=>hy.fd hq) _ _ _ _ y a (Nat.lt_succ_self _)) fun _ _ _ => .okk _
theorem sdef_mz (k:Int) (x:PS) (h:Sx al x):Mz (zBf k x):=
 .then (zBv x) fun _ y h1 => .then (faces_mz k y (h.name h1).1) fun _ z h2 => .then (zHL z ((h.name h1).1.faces h2).1.en) fun _ u h3 => .then (body_mz k u (((h.name h1).1.faces h2).1.dirs h3).1) fun _ _ _ => .okk _
theorem zJ2 : ∀ (f:Nat) (acc:List D) (x:PS),Sx al x->x.ts.length<f->Mz (sdocF f acc x)
 |0,_,_,_,h=>by omega
 |f+1,acc,x,hx,h=>by
  unfold sdocF
  refine .ite (fun _ => .okk _) fun _ => .ite (fun _ => .err (by decide)) fun hw => .ite (fun _ => .err (by decide)) fun _ => ?_
  have hk:(hdT x).k=2:=by
   by_cases h2:(hdT x).k=2
   . exact h2
   . exact (hw fun hh=>h2 hh.1).elim
  have a:=hx.nx (by rw [hk];decide)
  exact .then (sdef_mz _ _ a.1) fun d y hq=>zJ2 f _ y (a.1.sdef hq).1 (by have:=(a.1.sdef hq).2;omega)
end
theorem sdoc_mz {ts:List Tok} (h:En ⟨ts,true,0⟩):Mz (zEv ts):=zJ2 _ _ _ (Sx.start h) (Nat.lt_succ_self _)
theorem sdoc_err {ts:List Tok} {N i:Nat} {e:Int} (h : ∀ t∈ts,t.i<=N) (hq:zEv ts = .error (i,e)):i<=N:=by
 have h1:=sdoc_rr (inT_tr N) (all2_in h)
 rw [hq] at h1
 exact h1.1.2
end
section
open Go.RowKit
set_option linter.unusedSectionVars false
attribute [local irreducible] wpList Calls Code.wp AW AWo OpOk seqK zq zu loopK endK AC zf Yld Sub
attribute [local irreducible] ACB ACX ACE absLexG YldG
theorem zFx : ∀ (f:Nat) (l:List UInt8) (i:Nat) (ts:List Tok),scanF f l i = .ok ts->ts.length<=l.length+1
 |0,_,_,_,h=>by cases h
 |f+1,l,i,ts,h=>by
  unfold scanF at h
  split at h
  . cases h
    simp
  . rename_i c r hl
    have hlen:(c::r).length=l.length-skipM false l:=by rw [<- hl,List.length_drop]
    have hsk:=zAo false l
    split at h
    . cases h
    . rename_i t n ht
      have hn:=zGq ht
      split at h
      . cases h
      . rename_i ts' hts
        cases h
        have:=zFx f _ _ _ hts
        rw [List.length_drop] at this
        simp only [List.length_cons] at *
        omega
theorem zHp {l:List UInt8} {ts:List Tok} (h:zAp l = .ok ts):ts.length<=65537:=by
 unfold zAp at h
 split at h
 . cases h
 . have:=zFx _ _ _ _ h
   omega
noncomputable def zKD:Except (Nat × Int) D->V
 |.ok q => .tup [.agg [.sl 45 (q.f 0).l],.c (.int .i64 0),.c (.int .i64 0)]
 |.error x => .tup [.agg zDoc,.c (.int .i64 (x.1:Int)),.c (.int .i64 x.2)]
theorem i64_wfS {n:Int} (h : -9000000000<=n/\n<=9000000000):(Lit.int .i64 n).wf=true:=by
 rw [zDB]
 simp [IntKind.min,IntKind.max,IntKind.signed,IntKind.bits];omega
theorem zEy (s:List UInt8) (hs:s.length<=4000000000):AC EN5 Tryz.prog 10 [.c (.string (bs s))] (zKD (parseD s)):=by
 have hsc:=scan_ac s hs
 unfold parseD
 cases h:zAp s with
 |error x =>
  rw [h] at hsc
  exact zJB s x.1 x.2 (zJ3 (i:=x.1) h) hsc
 |ok ts =>
  rw [h] at hsc
  have hen:=zGh h
  have hkd:=(zI6 h).1
  have hd:=p_doc (al:=ts) (by have:=zHp h;omega) hkd (Sx.start hen.1) (ts.length+1) (Nat.lt_succ_self _)
  have hd:ACE EN5 Tryz.prog 25 [.bx (pn 0) 0] [boxS ts ⟨ts,false,0⟩] (outS ts (fun l=>VDc (zDL l)) (zEv ts)):=hd
  dsimp only
  cases hq:zEv ts with
  |error x =>
   rw [hq] at hd
   have h1:=sdoc_mz hen.1 x.1 x.2 hq
   have h2:=sdoc_err hen.2 (i:=x.1) (e:=x.2) hq
   have hl:s.length<=65536:=by
    unfold zAp at h
    split at h
    . cases h
    . omega
   exact zJA s ts hsc x ⟨i64_wfS (by omega),i64_wfS (by omega)⟩ hd
  |ok r =>
   obtain ⟨l,x'⟩:=r
   rw [hq] at hd
   exact zHy s ts hsc l x' hd
end
section
open Go.RowKit
set_option linter.unusedSectionVars false
attribute [local irreducible] wpList Calls Code.wp AW AWo OpOk seqK zq zu loopK endK AC zf Yld Sub
attribute [local irreducible] ACB ACX ACE absLexG YldG absLexU YldU absLexH
noncomputable def HpS (l:List Tok) (y:RS) (acc:List D):Vst 97:=
 stS 97 [(2,.bx 2 0),(5,.sl 70 (l.map tokD)),(8,.bx 24 0),(9,.bx 9 0)]
  [(2,.box 25 [.c (.slice none 0 0)]),(24,boxF l y),(9,.box 25 [.own 901 45 acc]),(901,.tok 45 acc.length)]
section
variable {l:List Tok} {j:Nat} {acc:List D} {x:RS}
theorem sd_end (h : ¬ (x.er=0/\(acc.length=0\/(tkZ l x).k≠5))):sdocLT l (j+1) acc x=(acc,x):=by
 conv=>lhs;unfold sdocLT
 rw [if_neg h]
theorem sd_bad (h:x.er=0/\(acc.length=0\/(tkZ l x).k≠5)) (h2:nmZ l x=false\/kindS (tkZ l x).s=0):sdocLT l (j+1) acc x=(acc,zAG l 3 x):=by
 conv=>lhs;unfold sdocLT
 rw [if_pos h,if_pos h2]
theorem sd_big (h:x.er=0/\(acc.length=0\/(tkZ l x).k≠5)) (h2 : ¬ (nmZ l x=false\/kindS (tkZ l x).s=0)) (h3:64<=acc.length):sdocLT l (j+1) acc x=(acc,zAG l 4 x):=by
 conv=>lhs;unfold sdocLT
 rw [if_pos h,if_neg h2,if_pos h3]
theorem sd_go (h:x.er=0/\(acc.length=0\/(tkZ l x).k≠5)) (h2 : ¬ (nmZ l x=false\/kindS (tkZ l x).s=0)) (h3 : ¬ 64<=acc.length):sdocLT l (j+1) acc x=sdocLT l j (acc++[(zAi l (kindS (tkZ l x).s) x).1]) (zAi l (kindS (tkZ l x).s) x).2:=by
 conv=>lhs;unfold sdocLT
 rw [if_pos h,if_neg h2,if_neg h3]
end
noncomputable def rawS (R:List D × RS):V:=
 if R.2.er≠0 then .tup [.agg [.c (.slice none 0 0)],.c (.int .i64 (R.2.wr:Int)),.c (.int .i64 R.2.er)]
 else .tup [.agg [.sl 45 R.1],.c (.int .i64 0),.c (.int .i64 0)]
theorem rawS_pure (R:List D × RS):(rawS R).pure=true:=by unfold rawS;split<;>rfl
theorem zGr {acc:List D} {y:RS} (h:y.er≠0):rawS (acc,y) = .tup [.agg [.c (.slice none 0 0)],.c (.int .i64 (y.wr:Int)),.c (.int .i64 y.er)]:=by
 unfold rawS;rw [if_pos (show (acc,y).2.er≠0 from h)]
theorem rawS_ok {acc:List D} {y:RS} (h:y.er=0):rawS (acc,y) = .tup [.agg [.sl 45 acc],.c (.int .i64 0),.c (.int .i64 0)]:=by
 unfold rawS;rw [if_neg (show ¬ (acc,y).2.er≠0 from fun q=>q h)]
theorem parseBadS (s:List UInt8) {x:Nat × Int} (hs:zAp s = .error x):AC EN5 Tryz.prog 11 [.c (.string (bs s))] (.tup [.agg [.c (.slice none 0 0)],.c (.int .i64 (x.1:Int)),.c (.int .i64 x.2)]):=by
 have h1:=zJ5 s
 have hx:=zJ3 (i:=x.1) hs
 rw [hs] at h1
 have f1:(x.2 != 0)=true:=by simpa using hx
 refine zP 97 Tryz.func11 rfl rfl rfl rfl ?_
 intro s0 w he
 repeat' (first
|apply zG
 . conv=>lhs;whnf
 . assumption
|refine zA ?_
|refine zB ?_
|refine zF ?_
|apply aw_1
 conv=>whnf
 refine ⟨?_,trivial⟩
|apply s_1
 conv=>whnf;arg 1;arg 4;arg 3;whnf
 refine ⟨?_,?_⟩
|apply zi rfl
 . conv=>lhs;whnf
 . conv=>lhs;whnf
 . first | exact h1
|apply zI rfl rfl rfl
 . conv=>lhs;whnf
 . conv=>lhs;whnf;arg 1;whnf
 . conv=>lhs;whnf;arg 1;whnf
 . exact ⟨by kernel_rfl,by kernel_rfl⟩
 . rfl
|refine zQ ?_
|refine zE ?_
|exact trivial)
 all_goals first
  |exact ⟨_,_,_,rfl,rfl,rfl,rfl⟩
  |skip
theorem parseOkS (s:List UInt8) {ts:List Tok} (hs:zAp s = .ok ts):AC EN5 Tryz.prog 11 [.c (.string (bs s))] (rawS (sdocT ts)):=by
 have h1:=zJ5 s
 rw [hs] at h1
 have hcn:=zHp hs
 obtain ⟨hK,hE⟩:=zI6 hs
 have hen:=(zGh hs).1
 have hS : ∀ i,i<ts.length->(ts.getD i ⟨5,[],0⟩).s.length<=100000:=by
  obtain ⟨_,_,_,_,h⟩:=hen
  exact fun i hi=>h _ (zKe hi _)
 have hlen:0<ts.length:=by
  obtain ⟨a,e,h,-⟩:=hen
  have h:ts=a++[e]:=h
  rw [h];simp
 have hl:ts.length<=100000:=by omega
 have f1:((0:Int) != 0)=false:=rfl
 have hRd:sdocT ts=sdocLT ts (ts.length+1) [] ⟨0,0,true,0,0⟩:=rfl
 generalize sdocT ts=R at hRd |-
 refine zP 97 Tryz.func11 rfl rfl rfl (rawS_pure _) ?_
 intro s0 w he
 repeat' (first
|apply zD
 . conv=>lhs;whnf
 . assumption
|refine zA ?_
|refine zB ?_
|refine zF ?_
|apply aw_1
 conv=>whnf
 refine ⟨?_,trivial⟩
|apply s_1
 conv=>whnf;arg 1;arg 4;arg 3;whnf
 refine ⟨?_,?_⟩
|apply zi rfl
 . conv=>lhs;whnf
 . conv=>lhs;whnf
 . first | exact h1
|apply zAW rfl rfl rfl rfl
 . conv=>lhs;whnf;arg 1;whnf
 . rfl
|exact trivial)
 refine zg (Sub.live (cs:=[(2,.bx 2 0),(5,.sl 70 (ts.map tokD)),(8,.bx 24 0),(9,.bx 9 0)]) (R:=[(2,.box 25 [.c (.slice none 0 0)]),(24,boxF ts ⟨0,0,true,0,0⟩),(9,.box 25 [.c (.slice none 0 0)])]) ⟨rfl,rfl,rfl,rfl,trivial⟩ ⟨rfl,rfl,rfl,trivial⟩) ?_
 refine zg (Sub.ownF (m:=9) (q:=901) (i:=0) (e:=45) rfl (by decide) rfl rfl rfl) ?_
 refine zn (fun j st => ∃ y acc,sdocLT ts j acc y=R/\y.at'<ts.length/\0<j/\(y.er=0->ts.length-y.at'<j)/\acc.length<=64/\Sub (cx EN5 Tryz.prog s0 w he) st (HpS ts y acc)) (ts.length+1) ⟨⟨0,0,true,0,0⟩,[],hRd.symm,hlen,by omega,fun _=>by show ts.length-0<_;omega,by simp,?_⟩ ?_
 . exact Sub.live ⟨rfl,rfl,rfl,rfl,trivial⟩ ⟨rfl,rfl,rfl,rfl,trivial⟩
 clear hRd
 rintro j st ⟨y,acc,hR,hy,hj0,hj,hn,hs2⟩
 refine zg hs2 ?_
 clear hs2
 obtain ⟨j,rfl⟩ : ∃ q,j=q+1:=⟨j-1,by omega⟩
 have hgd:gD (ts.map tokD) ((y.at':Int)).toNat=tokD (tkZ ts y):=zA1 ts hy
 by_cases g0:y.er=0
 rotate_left 1
 . have f0:(y.er==0)=false:=by simpa using g0
   have g1:((y.er==0)==true)=false:=by rw [f0];rfl
   have f2:(y.er != 0)=true:=by simpa using g0
   rw [sd_end (fun h=>g0 h.1)] at hR
   subst hR
   rw [zGr g0]
   repeat' (first
|apply zAR 12 ([(4,[24]),(8,[24])]) ([(9,[2])]) rfl (by kernel_rfl) (by kernel_rfl) (by kernel_rfl)
|apply zFf
|apply zFe rfl
 . conv=>lhs;whnf
 . conv=>lhs;whnf;arg 2;whnf
|apply zCU rfl rfl rfl
 . conv=>lhs;whnf
 . rfl
 . conv=>lhs;whnf;arg 1;whnf
 . conv=>lhs;whnf;arg 1;whnf
 . exact ⟨by kernel_rfl,by kernel_rfl⟩
 . rfl
|show inO _ _=true;rfl
|apply zG
 . conv=>lhs;whnf
 . assumption
|apply zD
 . conv=>lhs;whnf
 . assumption
|refine zA ?_
|refine zB ?_
|refine zF ?_
|apply aw_1
 conv=>whnf
 refine ⟨?_,trivial⟩
|apply zT rfl rfl
 . conv=>lhs;whnf
 . conv=>lhs;whnf
 . first | exact bF1 ‹_› | exact bF2 ‹_›
|apply s_1
 conv=>whnf;arg 1;arg 4;arg 3;whnf
 refine ⟨?_,?_⟩
|apply zW rfl
 . conv=>lhs;whnf
 . conv=>lhs;whnf
 . first | rfl | assumption
|refine zO ?_
|refine zQ ?_
|refine zL rfl ?_
|refine zM ?_
|refine zE ?_
|exact trivial)
   all_goals first
    |exact zAr ts hy
    |exact ⟨_,_,_,rfl,rfl,rfl,rfl⟩
    |skip
 have f0:(y.er==0)=true:=by rw [g0];rfl
 have g1:((y.er==0)==true)=true:=by rw [f0];rfl
 have kF:((((gD (ts.map tokD) ((y.at':Int)).toNat).f 0).n != 5)=false) ↔ (tkZ ts y).k=5:=by
  rw [hgd]
  show ((tkZ ts y).k != 5)=false ↔ _
  simp
 by_cases hend:acc.length=0\/(tkZ ts y).k≠5
 rotate_left 1
 . have h0 : ¬ acc.length=0:=fun h=>hend (.inl h)
   have h5:(tkZ ts y).k=5:=Classical.byContradiction fun h=>hend (.inr h)
   have q0:=zA9 h0
   have q2:=kF.2 h5
   have f2:(y.er != 0)=false:=by rw [g0];rfl
   rw [sd_end (fun h=>hend h.2)] at hR
   subst hR
   rw [rawS_ok g0]
   repeat' (first
|apply zv rfl rfl rfl
 . conv=>lhs;whnf
 . first | rfl | assumption
 . conv=>lhs;whnf
 . first | exact bF1 ‹_› | exact bF2 ‹_› | rfl
|apply zD
 . conv=>lhs;whnf
 . assumption
|refine zA ?_
|refine zB ?_
|refine zF ?_
|apply aw_1
 conv=>whnf
 refine ⟨?_,trivial⟩
|apply zX rfl rfl
 . conv=>lhs;whnf
 . conv=>lhs;whnf
 . first | exact bT1 ‹_› | exact bT2 ‹_›
|apply s_1
 conv=>whnf;arg 1;arg 4;arg 3;whnf
 refine ⟨?_,?_⟩
|apply zI rfl rfl rfl
 . conv=>lhs;whnf
 . conv=>lhs;whnf;arg 1;whnf
 . conv=>lhs;whnf;arg 1;whnf
 . exact ⟨by kernel_rfl,by kernel_rfl⟩
 . rfl
|apply zC rfl
 . conv=>lhs;whnf
 . conv=>lhs;whnf
 . first | rfl | assumption
 . conv=>lhs;whnf;arg 2;whnf
|refine zO ?_
|refine zL rfl ?_
|refine zM ?_
|refine zE ?_
|exact trivial)
   all_goals first
    |exact zAr ts hy
    |exact ⟨_,_,_,rfl,rfl,rfl,rfl⟩
    |skip
 have hki:AC EN5 Tryz.prog 27 [.c (.string ((gD (ts.map tokD) ((y.at':Int)).toNat).f 1).s)] (.c (.int .i64 (kindS (tkZ ts y).s))):=by
  rw [hgd]
  exact zCH (tkZ ts y).s
 have k1:=zCb ts y hy
 have k2:=zBR ts y 3 hy
 have k3:=zDw ts y hy hl acc.length 64
 have hcs:acc.length=0\/(acc.length≠0/\(tkZ ts y).k≠5):=by
  by_cases ha:acc.length=0
  . exact .inl ha
  . exact .inr ⟨ha,hend.resolve_left ha⟩
 have hq2:(tkZ ts y).k≠5->(((gD (ts.map tokD) ((y.at':Int)).toNat).f 0).n != 5)=true:=fun h=>by
  cases hq:(((gD (ts.map tokD) ((y.at':Int)).toNat).f 0).n != 5) with
  |true=>rfl
  |false=>exact (h (kF.1 hq)).elim
 by_cases hbad:nmZ ts y=false\/kindS (tkZ ts y).s=0
 . rw [sd_bad ⟨g0,hend⟩ hbad] at hR
   subst hR
   have e3:zAG ts 3 y = { y with er:=3,wr:=(tkZ ts y).i }:=by unfold zAG zBg;rw [if_pos g0];rfl
   have f3:((zAG ts 3 y).er != 0)=true:=by rw [e3];rfl
   rw [zGr (by rw [e3];show (3:Int)≠0;decide)]
   cases hN:nmZ ts y with
   |false =>
    rw [hN] at k1
    rcases hcs with ha | ⟨ha,h5⟩
    have q0:=zDM ha
    have q1:=zCG ha
    rotate_left 1
    have q0:=zA9 ha
    have q2:=hq2 h5
    rotate_left 1
    all_goals
     repeat' (first
|apply zAR 12 ([(4,[24]),(8,[24])]) ([(9,[2])]) rfl (by kernel_rfl) (by kernel_rfl) (by kernel_rfl)
|apply zFf
|apply zFe rfl
 . conv=>lhs;whnf
 . conv=>lhs;whnf;arg 2;whnf
|apply zCU rfl rfl rfl
 . conv=>lhs;whnf
 . rfl
 . conv=>lhs;whnf;arg 1;whnf
 . conv=>lhs;whnf;arg 1;whnf
 . exact ⟨by kernel_rfl,by kernel_rfl⟩
 . rfl
|show inO _ _=true;rfl
|apply s_m (zj ts) (zN ts) rfl
 . conv=>lhs;whnf
 . conv=>lhs;whnf
 . rfl
 . conv=>lhs;whnf;arg 1;whnf
 . first | exact z6 _ _
 . first | exact k1 | exact k2
 . exact fun _=>rfl
 . exact fun _=>rfl
|apply zW rfl
 . conv=>lhs;whnf
 . conv=>lhs;whnf
 . first | rfl | assumption
|apply zz rfl rfl rfl
 . conv=>lhs;whnf
 . first | rfl | assumption
 . conv=>lhs;whnf
 . first | exact bT1 ‹_› | exact bT2 ‹_› | rfl
|apply zv rfl rfl rfl
 . conv=>lhs;whnf
 . first | rfl | assumption
 . conv=>lhs;whnf
 . first | exact bF1 ‹_› | exact bF2 ‹_› | rfl
|apply zG
 . conv=>lhs;whnf
 . assumption
|refine zA ?_
|refine zB ?_
|refine zF ?_
|apply aw_1
 conv=>whnf
 refine ⟨?_,trivial⟩
|apply zX rfl rfl
 . conv=>lhs;whnf
 . conv=>lhs;whnf
 . first | exact bT1 ‹_› | exact bT2 ‹_›
|apply s_1
 conv=>whnf;arg 1;arg 4;arg 3;whnf
 refine ⟨?_,?_⟩
|apply zC rfl
 . conv=>lhs;whnf
 . conv=>lhs;whnf
 . first | rfl | assumption
 . conv=>lhs;whnf;arg 2;whnf
|refine zO ?_
|refine zQ ?_
|refine zL rfl ?_
|refine zCe rfl ?_
|refine zM ?_
|refine zE ?_
|exact trivial)
     all_goals first
      |exact zAr ts hy
      |exact ⟨_,_,_,rfl,rfl,rfl,rfl⟩
      |skip
   |true =>
    have hk0:kindS (tkZ ts y).s=0:=hbad.resolve_left (by rw [hN];decide)
    rw [hN] at k1
    rw [hk0] at hki
    rcases hcs with ha | ⟨ha,h5⟩
    have q0:=zDM ha
    have q1:=zCG ha
    rotate_left 1
    have q0:=zA9 ha
    have q2:=hq2 h5
    rotate_left 1
    all_goals
     repeat' (first
|apply zAR 12 ([(4,[24]),(8,[24])]) ([(9,[2])]) rfl (by kernel_rfl) (by kernel_rfl) (by kernel_rfl)
|apply zFf
|apply zFe rfl
 . conv=>lhs;whnf
 . conv=>lhs;whnf;arg 2;whnf
|apply zCU rfl rfl rfl
 . conv=>lhs;whnf
 . rfl
 . conv=>lhs;whnf;arg 1;whnf
 . conv=>lhs;whnf;arg 1;whnf
 . exact ⟨by kernel_rfl,by kernel_rfl⟩
 . rfl
|show inO _ _=true;rfl
|apply s_m (zj ts) (zN ts) rfl
 . conv=>lhs;whnf
 . conv=>lhs;whnf
 . rfl
 . conv=>lhs;whnf;arg 1;whnf
 . first | exact z6 _ _
 . first | exact k1 | exact k2
 . exact fun _=>rfl
 . exact fun _=>rfl
|apply zW rfl
 . conv=>lhs;whnf
 . conv=>lhs;whnf
 . first | rfl | assumption
|apply zz rfl rfl rfl
 . conv=>lhs;whnf
 . first | rfl | assumption
 . conv=>lhs;whnf
 . first | exact bT1 ‹_› | exact bT2 ‹_› | rfl
|apply zv rfl rfl rfl
 . conv=>lhs;whnf
 . first | rfl | assumption
 . conv=>lhs;whnf
 . first | exact bF1 ‹_› | exact bF2 ‹_› | rfl
|apply zG
 . conv=>lhs;whnf
 . assumption
|refine zA ?_
|refine zB ?_
|refine zF ?_
|apply aw_1
 conv=>whnf
 refine ⟨?_,trivial⟩
|apply zX rfl rfl
 . conv=>lhs;whnf
 . conv=>lhs;whnf
 . first | exact bT1 ‹_› | exact bT2 ‹_›
|apply zT rfl rfl
 . conv=>lhs;whnf
 . conv=>lhs;whnf
 . first | exact bF1 ‹_› | exact bF2 ‹_›
|apply s_1
 conv=>whnf;arg 1;arg 4;arg 3;whnf
 refine ⟨?_,?_⟩
|apply zC rfl
 . conv=>lhs;whnf
 . conv=>lhs;whnf
 . first | rfl | assumption
 . conv=>lhs;whnf;arg 2;whnf
|apply zh rfl
 . conv=>lhs;whnf
 . conv=>lhs;whnf
 . first | rfl | assumption
 . conv=>lhs;whnf
 . first | exact hki
|refine zO ?_
|refine zQ ?_
|refine zL rfl ?_
|refine zCe rfl ?_
|refine zM ?_
|refine zE ?_
|exact trivial)
     all_goals first
      |exact zAr ts hy
      |exact ⟨_,_,_,rfl,rfl,rfl,rfl⟩
      |skip
 have hN:nmZ ts y=true:=by
  cases h:nmZ ts y with
  |true=>rfl
  |false=>exact (hbad (.inl h)).elim
 have hk0:kindS (tkZ ts y).s≠0:=fun h=>hbad (.inr h)
 have fk:(kindS (tkZ ts y).s==0)=false:=by simpa using hk0
 rw [hN] at k1
 by_cases hbig:64<=acc.length
 . have e4:limZ ts acc.length 64 y=zAG ts 4 y:=by unfold limZ;rw [if_pos ⟨hbig,hN⟩]
   rw [e4] at k3
   rw [sd_big ⟨g0,hend⟩ hbad hbig] at hR
   subst hR
   have e3:zAG ts 4 y = { y with er:=4,wr:=(tkZ ts y).i }:=by unfold zAG zBg;rw [if_pos g0];rfl
   have f3:((zAG ts 4 y).er != 0)=true:=by rw [e3];rfl
   rw [zGr (by rw [e3];show (4:Int)≠0;decide)]
   rcases hcs with ha | ⟨ha,h5⟩
   . omega
   have q0:=zA9 ha
   have q2:=hq2 h5
   repeat' (first
|apply zAR 12 ([(4,[24]),(8,[24])]) ([(9,[2])]) rfl (by kernel_rfl) (by kernel_rfl) (by kernel_rfl)
|apply zFf
|apply zFe rfl
 . conv=>lhs;whnf
 . conv=>lhs;whnf;arg 2;whnf
|apply zCU rfl rfl rfl
 . conv=>lhs;whnf
 . rfl
 . conv=>lhs;whnf;arg 1;whnf
 . conv=>lhs;whnf;arg 1;whnf
 . exact ⟨by kernel_rfl,by kernel_rfl⟩
 . rfl
|show inO _ _=true;rfl
|apply s_m (zj ts) (zN ts) rfl
 . conv=>lhs;whnf
 . conv=>lhs;whnf
 . rfl
 . conv=>lhs;whnf;arg 1;whnf
 . first | exact z6 _ _
 . first | exact k1 | exact k3
 . exact fun _=>rfl
 . exact fun _=>rfl
|apply zv rfl rfl rfl
 . conv=>lhs;whnf
 . first | rfl | assumption
 . conv=>lhs;whnf
 . first | exact bF1 ‹_› | exact bF2 ‹_› | rfl
|apply zG
 . conv=>lhs;whnf
 . assumption
|apply zD
 . conv=>lhs;whnf
 . assumption
|refine zA ?_
|refine zB ?_
|refine zF ?_
|apply aw_1
 conv=>whnf
 refine ⟨?_,trivial⟩
|apply zX rfl rfl
 . conv=>lhs;whnf
 . conv=>lhs;whnf
 . first | exact bT1 ‹_› | exact bT2 ‹_›
|apply zT rfl rfl
 . conv=>lhs;whnf
 . conv=>lhs;whnf
 . first | exact bF1 ‹_› | exact bF2 ‹_›
|apply s_1
 conv=>whnf;arg 1;arg 4;arg 3;whnf
 refine ⟨?_,?_⟩
|apply zC rfl
 . conv=>lhs;whnf
 . conv=>lhs;whnf
 . first | rfl | assumption
 . conv=>lhs;whnf;arg 2;whnf
|apply zh rfl
 . conv=>lhs;whnf
 . conv=>lhs;whnf
 . first | rfl | assumption
 . conv=>lhs;whnf
 . first | exact hki
|refine zO ?_
|refine zQ ?_
|refine zL rfl ?_
|refine zCe rfl ?_
|refine zM ?_
|refine zE ?_
|exact trivial)
   all_goals first
    |exact zAr ts hy
    |exact ⟨_,_,_,rfl,rfl,rfl,rfl⟩
    |skip
 have e4:limZ ts acc.length 64 y=y:=by unfold limZ;rw [if_neg (fun h=>hbig h.1)]
 rw [e4] at k3
 have f2:(y.er != 0)=false:=by rw [g0];rfl
 have hd:=defF_acb ts hE hl hS y hy hN hk0
 have hpg:=zGg hE (kindS (tkZ ts y).s) hy hN
 have hhi:=hpg.mv.hi
 have hup:=hpg.up
 rw [sd_go ⟨g0,hend⟩ hbad hbig] at hR
 clear hpg hbad
 generalize hO:zAi ts (kindS (tkZ ts y).s) y=O at *
 let vd:=O.1
 rcases hcs with ha | ⟨ha,h5⟩
 have q0:=zDM ha
 have q1:=zCG ha
 rotate_left 1
 have q0:=zA9 ha
 have q2:=hq2 h5
 rotate_left 1
 all_goals
  repeat' (first
|apply s_m (zj ts) (zN ts) rfl
 . conv=>lhs;whnf
 . conv=>lhs;whnf
 . rfl
 . conv=>lhs;whnf;arg 1;whnf
 . first | exact z6 _ _
 . first | exact k1 | exact k3 | exact hd
 . exact fun _=>rfl
 . exact fun _=>rfl
|apply zW rfl
 . conv=>lhs;whnf
 . conv=>lhs;whnf
 . first | rfl | assumption
|apply zBW [vd] rfl rfl
 . conv=>lhs;whnf
 . first | exact zIa | (conv=>lhs;whnf;arg 1;whnf)
 . rfl
 . rfl
 . repeat' (first | exact trivial | apply And.intro | rfl)
|apply zz rfl rfl rfl
 . conv=>lhs;whnf
 . first | rfl | assumption
 . conv=>lhs;whnf
 . first | exact bT1 ‹_› | exact bT2 ‹_› | rfl
|apply zv rfl rfl rfl
 . conv=>lhs;whnf
 . first | rfl | assumption
 . conv=>lhs;whnf
 . first | exact bF1 ‹_› | exact bF2 ‹_› | rfl
|apply zG
 . conv=>lhs;whnf
 . assumption
|apply zD
 . conv=>lhs;whnf
 . assumption
|refine zA ?_
|refine zB ?_
|refine zF ?_
|refine zZ ?_
|apply aw_1
 conv=>whnf
 refine ⟨?_,trivial⟩
|apply zX rfl rfl
 . conv=>lhs;whnf
 . conv=>lhs;whnf
 . first | exact bT1 ‹_› | exact bT2 ‹_›
|apply zT rfl rfl
 . conv=>lhs;whnf
 . conv=>lhs;whnf
 . first | exact bF1 ‹_› | exact bF2 ‹_›
|apply s_1
 conv=>whnf;arg 1;arg 4;arg 3;whnf
 refine ⟨?_,?_⟩
|apply zI rfl rfl rfl
 . conv=>lhs;whnf
 . conv=>lhs;whnf;arg 1;whnf
 . conv=>lhs;whnf;arg 1;whnf
 . exact ⟨by kernel_rfl,by kernel_rfl⟩
 . rfl
|apply zBK rfl rfl
 . conv=>lhs;whnf
 . first | exact zIa | (conv=>lhs;whnf;arg 1;whnf)
 . first | exact fun _=>rfl | (intro _;kernel_rfl)
 . conv=>lhs;whnf
 . conv=>lhs;whnf;arg 1;whnf
 . conv=>lhs;whnf
|apply zC rfl
 . conv=>lhs;whnf
 . conv=>lhs;whnf
 . first | rfl | assumption
 . conv=>lhs;whnf;arg 2;whnf
|apply zh rfl
 . conv=>lhs;whnf
 . conv=>lhs;whnf
 . first | rfl | assumption
 . conv=>lhs;whnf
 . first | exact hki
|exact trivial)
  all_goals first
   |exact zAr ts hy
   |(refine ⟨by simp,?_,?_⟩<;>simp only [List.length_cons,List.length_nil,maxLen]<;>omega)
   |skip
  refine zJ (Nat.lt_succ_self j) ⟨_,_,hR,hhi,by have:=hj g0;omega,fun h=>by have:=hup h;have:=hj g0;omega,by rw [List.length_append];simp only [List.length_cons,List.length_nil];omega,Sub.live ⟨rfl,rfl,rfl,rfl,trivial⟩ ⟨rfl,rfl,rfl,?_,trivial⟩⟩
  rw [List.length_append];rfl
theorem parseS_ac (s:List UInt8):AC EN5 Tryz.prog 11 [.c (.string (bs s))] (zKD (parseD s)):=by
 have e:=zJC s
 unfold zJD at e
 cases hs:zAp s with
 |error x =>
  rw [hs] at e
  rw [<- e]
  exact parseBadS s hs
 |ok ts =>
  have h:=parseOkS s hs
  rw [hs] at e
  dsimp only at e
  by_cases h0:(sdocT ts).2.er≠0
  . rw [if_pos h0] at e
    rw [<- e]
    unfold rawS at h
    rw [if_pos h0] at h
    exact h
  . rw [if_neg h0] at e
    rw [<- e]
    unfold rawS at h
    rw [if_neg h0] at h
    exact h
end
section
open Go.RowKit
set_option linter.unusedSectionVars false
attribute [local irreducible] wpList Calls Code.wp AW AWo OpOk seqK zq zu loopK endK AC zf Yld Sub
attribute [local irreducible] ACB ACX ACE absLexG YldG absLexH
theorem zAu {i n:Nat} (h:i<n):0<=(i:Int)/\(i:Int)<(n:Int):=⟨Int.natCast_nonneg i,Int.ofNat_lt.2 h⟩
noncomputable def HWr (l:List D) (i:Nat):Vst 26:=stS 26 [(0,.sl 3 l),(1,.sl 3 l),(5,.c (.int .i64 (i:Int)))] []
end
section
open Go.RowKit
attribute [local irreducible] wpList Calls Code.wp
def LenT (P:Program):Nat->TypeId->D->Prop
 |0,_,_=>True
 |n+1,t,d =>
  match P.underlying t with
  |some .string=>d.s.size<=maxLen
  |some (.slice e)=>d.l.length<=maxLen/\(0<P.cellsOf e -> ∀ i,i<d.l.length->LenT P n e (gD d.l i))
  |some (.struct fs) => ∀ j f,fs[j]? = some f->LenT P n f.type (d.f j)
  |_=>True
section
variable {P:Program} {s:Sg} {w:World}
theorem RepF.len {F:Nat->Nat->Prop} : ∀ (n:Nat) {k:Nat} {t:TypeId} {cs:List Value} {d:D},RepF P w F k t cs d->LenT P n t d
 |0,_,_,_,_,_=>trivial
 |n+1,0,_,_,_,h=>h.elim
 |n+1,k+1,t,cs,d,h=>by
  unfold RepF at h
  unfold LenT
  split<;>rename_i hu<;>try simp only [hu] at h
  . exact h.2
  . obtain ⟨A,c,h1,h2,h3,h4,h5⟩:=h
    refine ⟨Nat.le_trans h2 h3,fun hc i hi => ?_⟩
    obtain ⟨b,off,hA,hat⟩:=h5 (by omega) hc
    obtain ⟨ys,y1,y2,y3⟩:=hat i hi
    exact RepF.len n y3
  . exact fun j f hf=>RepF.len n (h.2 j f hf)
  . trivial
theorem SlV.len {F:Nat->Nat->Prop} (n:Nat) {e:TypeId} {l:List D} {u:Value} (h:SlV P w F e l u):l.length<=maxLen/\(0<P.cellsOf e -> ∀ i,i<l.length->LenT P n e (gD l i)):=by
 obtain ⟨k,A,c,h1,h2,h3,h4,h5⟩:=h
 refine ⟨Nat.le_trans h2 h3,fun hc i hi => ?_⟩
 obtain ⟨b,off,hA,hat⟩:=h5 (by omega) hc
 obtain ⟨ys,y1,y2,y3⟩:=hat i hi
 exact y3.len n
mutual
theorem zIj : ∀ (m n:Nat) (t:TypeId) (d:D) (cs:List Value),layB P m t=true->relL P s w (cellsV P m t d) cs->LenT P n t d
 |0,_,_,_,_,hb,_=>by simp [layB] at hb
 |m+1,0,_,_,_,_,_=>trivial
 |m+1,n+1,t,d,cs,hb,h=>by
  unfold LenT
  unfold layB at hb
  unfold cellsV at h
  split<;>rename_i hu<;>try simp only [hu] at h hb
  . cases cs with
    |nil=>simp [relL] at h
    |cons c cs=>rw [relL,rel] at h;exact h.1.2
  . cases cs with
    |nil=>simp [relL] at h
    |cons c cs=>rw [relL,rel] at h;exact h.1.len n
  . rename_i fs
    simp only [Bool.and_eq_true,beq_iff_eq] at hb
    intro j f hf
    have:=zGH m n fs.toList 0 d cs hb.2 h j f (by simpa using hf)
    simpa using this
  . trivial
theorem zGH : ∀ (m n:Nat) (fs:List Field) (j:Nat) (d:D) (cs:List Value),(fs.all fun f=>layB P m f.type)=true->relL P s w (zAm (cellsV P m) fs j d) cs -> ∀ i f,fs[i]? = some f->LenT P n f.type (d.f (j+i))
 |m,n,[],j,d,cs,_,_,i,f,hf=>by simp at hf
 |m,n,g::fs,j,d,cs,hb,h,i,f,hf=>by
  rw [zAm] at h
  simp only [List.all_cons,Bool.and_eq_true] at hb
  obtain ⟨h1,h2⟩:=relL.split h
  cases i with
  |zero =>
   simp at hf
   subst hf
   exact zIj m n g.type (d.f j) _ hb.1 h1
  |succ i =>
   have:=zGH m n fs (j+1) d _ hb.2 h2 i f (by simpa using hf)
   rwa [show j+1+i=j+(i+1) by omega] at this
end
end
theorem ac_pre {e:Ge} {P:Program} {f:FuncId} {args:List V} {r:V} {p:Prop} (hp : ∀ s w us,relL P s w args us->p) (h:p->AC e P f args r):AC e P f args r:=fun s w us hr hx he=>h (hp s w us.toList hr) s w us hr hx he
theorem zHX {e:Ge} {P:Program} {f:FuncId} {t:TypeId} {l:List D} {args:List V} {r:V} (n:Nat) (h:l.length<=maxLen/\(0<P.cellsOf t -> ∀ i,i<l.length->LenT P n t (gD l i))->AC e P f (.sl t l::args) r):AC e P f (.sl t l::args) r:=
 ac_pre (fun s w us hr=>by
  cases us with
  |nil=>simp [relL] at hr
  |cons u us=>rw [relL,rel] at hr;exact hr.1.len n) h
theorem zDF {e:Ge} {P:Program} {f:FuncId} {t:TypeId} {d:D} {args:List V} {r:V} (n:Nat) (hb:layB P 12 t=true) (h:LenT P n t d->AC e P f (.agg (cellsV P 12 t d)::args) r):AC e P f (.agg (cellsV P 12 t d)::args) r:=
 ac_pre (fun s w us hr=>by
  cases us with
  |nil=>simp [relL] at hr
  |cons u us =>
   rw [relL,rel] at hr
   obtain ⟨⟨cs,-,h1⟩,-⟩:=hr
   exact zIj 12 n t d cs.toList hb h1) h
end
section
open Go.RowKit
set_option linter.unusedSectionVars false
theorem LenT.fld {P:Program} {n:Nat} {t:TypeId} {d:D} {fs:Array Field} {f:Field} (j:Nat) (hu:P.underlying t=some (.struct fs)) (hf:fs[j]? = some f) (h:LenT P (n+1) t d):LenT P n f.type (d.f j):=by
 unfold LenT at h
 rw [hu] at h
 exact h j f hf
theorem LenT.lst {P:Program} {n:Nat} {t e:TypeId} {d:D} (hu:P.underlying t=some (.slice e)) (h:LenT P (n+1) t d):d.l.length<=maxLen/\(0<P.cellsOf e -> ∀ i,i<d.l.length->LenT P n e (gD d.l i)):=by
 unfold LenT at h
 rw [hu] at h
 exact h
theorem len_ref {n:Nat} {d:D} (h:LenT Tryz.prog (n+2) 48 d):(d.f 1).l.length<=maxLen:=(LenT.lst (t:=46) (e:=3) (by kernel_rfl) (LenT.fld 1 (fs:=Tryz.prog.fieldsOf 48) (f:=(Tryz.prog.fieldsOf 48)[1]!) (by kernel_rfl) (by kernel_rfl) h)).1
theorem zDx {n:Nat} {d:D} (h:LenT Tryz.prog (n+2) 53 d):(d.f 3).l.length<=maxLen/\(d.f 4).l.length<=maxLen:=
 ⟨(LenT.lst (t:=51) (e:=53) (by kernel_rfl) (LenT.fld 3 (fs:=Tryz.prog.fieldsOf 53) (f:=(Tryz.prog.fieldsOf 53)[3]!) (by kernel_rfl) (by kernel_rfl) h)).1,
  (LenT.lst (t:=39) (e:=9) (by kernel_rfl) (LenT.fld 4 (fs:=Tryz.prog.fieldsOf 53) (f:=(Tryz.prog.fieldsOf 53)[4]!) (by kernel_rfl) (by kernel_rfl) h)).1⟩
attribute [local irreducible] wpList Calls Code.wp AW AWo OpOk seqK zq zu loopK endK AC zf Yld Sub
attribute [local irreducible] ACB ACX ACE absLexG YldG absLexH
theorem wrapsU_ac (l:List D):AC EN5 Tryz.prog 130 [.sl 3 l,.sl 3 l] (.c (.bool true)):=by
 refine zHX 1 fun hl => ?_
 have hl:l.length<=9223372036854775807:=hl.1
 have f0:((l.length:Int) != (l.length:Int))=false:=by simp
 refine zP 26 Tryz.func130 rfl rfl rfl rfl ?_
 intro s w he
 repeat' (first
|apply zD
 . conv=>lhs;whnf
 . assumption
|refine zA ?_
|refine zB ?_
|refine zF ?_
|apply aw_1
 conv=>whnf
 refine ⟨?_,trivial⟩
|apply s_1
 conv=>whnf;arg 1;arg 4;arg 3;whnf
 refine ⟨?_,?_⟩
|exact trivial)
 refine zn (fun j st => ∃ i,i+j=l.length/\Sub (cx EN5 Tryz.prog s w he) st (HWr l i)) l.length ⟨0,by omega,Sub.live ⟨rfl,rfl,rfl,trivial⟩ trivial⟩ ?_
 rintro j st ⟨i,hij,hs2⟩
 refine zg hs2 ?_
 clear hs2
 by_cases hi:i<l.length
 . have f1:decide ((i:Int)<(l.length:Nat))=true:=decide_eq_true (by omega)
   have f2:((gD l i).n != (gD l i).n)=false:=by simp
   repeat' (first
|apply zG
 . conv=>lhs;whnf
 . assumption
|apply zD
 . conv=>lhs;whnf
 . assumption
|refine zA ?_
|refine zB ?_
|refine zF ?_
|refine zZ ?_
|apply aw_1
 conv=>whnf
 refine ⟨?_,trivial⟩
|apply s_1
 conv=>whnf;arg 1;arg 4;arg 3;whnf
 refine ⟨?_,?_⟩
|apply zA3 (by kernel_rfl) (by kernel_rfl)
|apply zDT
|apply zDS rfl
 . conv=>lhs;whnf
 . conv=>lhs;whnf;arg 2;whnf
|exact zAC
|exact zAk
|exact (1000000:Nat)
|exact trivial)
   all_goals first
    |exact zU (by omega)
    |exact zAu hi
    |exact zJ (j':=j-1) (by omega) ⟨i+1,by omega,Sub.live ⟨rfl,rfl,rfl,trivial⟩ trivial⟩
 . have f1:decide ((i:Int)<(l.length:Nat))=false:=decide_eq_false (by omega)
   repeat' (first
|apply zD
 . conv=>lhs;whnf
 . assumption
|refine zA ?_
|refine zB ?_
|refine zF ?_
|apply aw_1
 conv=>whnf
 refine ⟨?_,trivial⟩
|apply s_1
 conv=>whnf;arg 1;arg 4;arg 3;whnf
 refine ⟨?_,?_⟩
|refine zO ?_
|refine zL rfl ?_
|refine zM ?_
|refine zE ?_
|refine ⟨_,by conv=>lhs;whnf;arg 2;whnf,?_⟩;conv=>rhs;whnf
|exact trivial)
theorem refU_ac (d:D):AC EN5 Tryz.prog 65 [.agg (cellsV Tryz.prog 12 48 d),.agg (cellsV Tryz.prog 12 48 d)] (.c (.bool true)):=by
 have h:=wrapsU_ac (d.f 1).l
 have f0:((d.f 0).s.toList==(d.f 0).s.toList)=true:=by simp
 have k0:(((d.f 0).s.toList==(d.f 0).s.toList)==true)=false->False:=fun h=>by rw [f0] at h;cases h
 refine zP 17 Tryz.func65 rfl rfl rfl rfl ?_
 intro s w he
 repeat' (first
|exact (k0 ‹_›).elim
|refine zA ?_
|refine zB ?_
|refine zF ?_
|apply aw_1
 conv=>whnf
 refine ⟨?_,trivial⟩
|apply zX rfl rfl
 . conv=>lhs;whnf
 . conv=>lhs;whnf
 . first | exact bT1 ‹_› | exact bT2 ‹_›
|apply s_1
 conv=>whnf;arg 1;arg 4;arg 3;whnf
 refine ⟨?_,?_⟩
|apply zAW rfl rfl rfl rfl
 . conv=>lhs;whnf;arg 1;whnf
 . rfl
|apply zC rfl
 . conv=>lhs;whnf
 . conv=>lhs;whnf
 . first | rfl | assumption
 . conv=>lhs;whnf;arg 2;whnf
|apply zh rfl
 . conv=>lhs;whnf
 . conv=>lhs;whnf
 . first | rfl | assumption
 . conv=>lhs;whnf
 . first | exact h
|apply zH rfl
 . conv=>lhs;whnf
 . conv=>lhs;whnf
 . conv=>lhs;whnf;arg 2;whnf
|refine zE ?_
|refine ⟨_,by conv=>lhs;whnf;arg 2;whnf,?_⟩;conv=>rhs;whnf
|exact trivial
|intro hg)
noncomputable def HeK (d:D) (i:Nat):Vst 81:=stS 81 [(2,.bx 2 0),(3,.bx 3 0),(5,.c (.int .i64 (i:Int)))] [(2,.box 53 (cellsV Tryz.prog 12 53 d)),(3,.box 53 (cellsV Tryz.prog 12 53 d))]
noncomputable def HeI (d:D) (i:Nat):Vst 81:=stS 81 [(2,.bx 2 0),(3,.bx 3 0),(6,.c (.int .i64 (i:Int)))] [(2,.box 53 (cellsV Tryz.prog 12 53 d)),(3,.box 53 (cellsV Tryz.prog 12 53 d))]
theorem valU_ac : ∀ (k:Nat) (d:D),Dp k d->AC EN5 Tryz.prog 129 [.agg (cellsV Tryz.prog 12 53 d),.agg (cellsV Tryz.prog 12 53 d)] (.c (.bool true))
 |0,_,h=>h.elim
 |k+1,d,h=>by
  refine zDF 2 (by kernel_rfl) fun hL => ?_
  have hL:=zDx hL
  have hl3:(d.f 3).l.length<=9223372036854775807:=hL.1
  have hl4:(d.f 4).l.length<=9223372036854775807:=hL.2
  have ih:=fun i (hi:i<(d.f 3).l.length)=>valU_ac k (gD (d.f 3).l i) (h i hi)
  have f0:((d.f 0).n != (d.f 0).n)=false:=by simp
  have f1:((d.f 1).n != (d.f 1).n)=false:=by simp
  have f2:(!((d.f 2).s.toList==(d.f 2).s.toList))=false:=by simp
  have f3:(((d.f 3).l.length:Int) != ((d.f 3).l.length:Int))=false:=by simp
  have f4:(((d.f 4).l.length:Int) != ((d.f 4).l.length:Int))=false:=by simp
  have k0:(((d.f 0).n != (d.f 0).n)==false)=false->False:=fun h=>by rw [f0] at h;cases h
  have k1:(((d.f 1).n != (d.f 1).n)==false)=false->False:=fun h=>by rw [f1] at h;cases h
  have k2:((!((d.f 2).s.toList==(d.f 2).s.toList))==false)=false->False:=fun h=>by rw [f2] at h;cases h
  have k3:((((d.f 3).l.length:Int) != ((d.f 3).l.length:Int))==false)=false->False:=fun h=>by rw [f3] at h;cases h
  refine zP 81 Tryz.func129 rfl rfl rfl rfl ?_
  intro s w he
  repeat' (first
|apply zD
 . conv=>lhs;whnf
 . assumption
|exact (k0 ‹_›).elim
|exact (k1 ‹_›).elim
|exact (k2 ‹_›).elim
|exact (k3 ‹_›).elim
|refine zA ?_
|refine zB ?_
|refine zF ?_
|apply aw_1
 conv=>whnf
 refine ⟨?_,trivial⟩
|apply zT rfl rfl
 . conv=>lhs;whnf
 . conv=>lhs;whnf
 . first | exact bF1 ‹_› | exact bF2 ‹_›
|apply s_1
 conv=>whnf;arg 1;arg 4;arg 3;whnf
 refine ⟨?_,?_⟩
|apply zAW rfl rfl rfl rfl
 . conv=>lhs;whnf;arg 1;whnf
 . rfl
|apply zC rfl
 . conv=>lhs;whnf
 . conv=>lhs;whnf
 . first | rfl | assumption
 . conv=>lhs;whnf;arg 2;whnf
|apply zH rfl
 . conv=>lhs;whnf
 . conv=>lhs;whnf
 . conv=>lhs;whnf;arg 2;whnf
|exact trivial
|intro hg)
  refine zn (fun j st => ∃ i,i+j=(d.f 4).l.length/\Sub (cx EN5 Tryz.prog s w he) st (HeK d i)) (d.f 4).l.length ⟨0,by omega,Sub.live ⟨rfl,rfl,rfl,trivial⟩ ⟨rfl,rfl,trivial⟩⟩ ?_
  rintro j st ⟨i,hij,hs2⟩
  refine zg hs2 ?_
  clear hs2
  by_cases hi:i<(d.f 4).l.length
  . have g1:decide ((i:Int)<((d.f 4).l.length:Nat))=true:=decide_eq_true (by omega)
    have g2:(!((gD (d.f 4).l i).s.toList==(gD (d.f 4).l i).s.toList))=false:=by simp
    repeat' (first
|apply zG
 . conv=>lhs;whnf
 . assumption
|apply zD
 . conv=>lhs;whnf
 . assumption
|refine zA ?_
|refine zB ?_
|refine zF ?_
|refine zZ ?_
|apply aw_1
 conv=>whnf
 refine ⟨?_,trivial⟩
|apply s_1
 conv=>whnf;arg 1;arg 4;arg 3;whnf
 refine ⟨?_,?_⟩
|apply zA3 (by kernel_rfl) (by kernel_rfl)
|apply zDT
|apply zDS rfl
 . conv=>lhs;whnf
 . conv=>lhs;whnf;arg 2;whnf
|exact zAC
|exact zAk
|exact (1000000:Nat)
|exact trivial)
    all_goals first
     |exact zU (by omega)
     |exact zAu hi
     |exact zJ (j':=j-1) (by omega) ⟨i+1,by omega,Sub.live ⟨rfl,rfl,rfl,trivial⟩ ⟨rfl,rfl,trivial⟩⟩
  . have g1:decide ((i:Int)<((d.f 4).l.length:Nat))=false:=decide_eq_false (by omega)
    repeat' (first
|apply zD
 . conv=>lhs;whnf
 . assumption
|refine zA ?_
|refine zB ?_
|refine zF ?_
|apply aw_1
 conv=>whnf
 refine ⟨?_,trivial⟩
|apply s_1
 conv=>whnf;arg 1;arg 4;arg 3;whnf
 refine ⟨?_,?_⟩
|refine zO ?_
|refine zL rfl ?_
|refine zM ?_
|exact trivial)
    refine zn (fun j st => ∃ i,i+j=(d.f 3).l.length/\Sub (cx EN5 Tryz.prog s w he) st (HeI d i)) (d.f 3).l.length ⟨0,by omega,Sub.live ⟨rfl,rfl,rfl,trivial⟩ ⟨rfl,rfl,trivial⟩⟩ ?_
    rintro j st ⟨i,hij,hs2⟩
    refine zg hs2 ?_
    clear hs2
    by_cases hi:i<(d.f 3).l.length
    . have g1:decide ((i:Int)<((d.f 3).l.length:Nat))=true:=decide_eq_true (by omega)
      have ih2:=ih i hi
      repeat' (first
|apply zG
 . conv=>lhs;whnf
 . assumption
|refine zA ?_
|refine zB ?_
|refine zF ?_
|refine zZ ?_
|apply aw_1
 conv=>whnf
 refine ⟨?_,trivial⟩
|apply s_1
 conv=>whnf;arg 1;arg 4;arg 3;whnf
 refine ⟨?_,?_⟩
|apply zA3 (by kernel_rfl) (by kernel_rfl)
|apply zDT
|apply zDS rfl
 . conv=>lhs;whnf
 . conv=>lhs;whnf;arg 2;whnf
|apply y_call rfl
 . conv=>lhs;whnf
 . conv=>lhs;whnf
 . first | exact ih2
|exact zAC
|exact zAk
|exact (1000000:Nat)
|exact trivial)
      all_goals first
       |exact zU (by omega)
       |exact zAu hi
       |exact zJ (j':=j-1) (by omega) ⟨i+1,by omega,Sub.live ⟨rfl,rfl,rfl,trivial⟩ ⟨rfl,rfl,trivial⟩⟩
    . have g1:decide ((i:Int)<((d.f 3).l.length:Nat))=false:=decide_eq_false (by omega)
      repeat' (first
|apply zD
 . conv=>lhs;whnf
 . assumption
|refine zA ?_
|refine zB ?_
|refine zF ?_
|apply aw_1
 conv=>whnf
 refine ⟨?_,trivial⟩
|apply s_1
 conv=>whnf;arg 1;arg 4;arg 3;whnf
 refine ⟨?_,?_⟩
|refine zO ?_
|refine zL rfl ?_
|refine zM ?_
|refine zE ?_
|refine ⟨_,by conv=>lhs;whnf;arg 2;whnf,?_⟩;conv=>rhs;whnf
|exact trivial)
end
section
open Go.RowKit
set_option linter.unusedSectionVars false
theorem len_dir {n:Nat} {d:D} (h:LenT Tryz.prog (n+2) 108 d):(d.f 1).l.length<=maxLen:=(LenT.lst (t:=106) (e:=111) (by kernel_rfl) (LenT.fld 1 (fs:=Tryz.prog.fieldsOf 108) (f:=(Tryz.prog.fieldsOf 108)[1]!) (by kernel_rfl) (by kernel_rfl) h)).1
theorem len_def {n:Nat} {d:D} (h:LenT Tryz.prog (n+2) 45 d):(d.f 4).l.length<=maxLen/\(d.f 5).l.length<=maxLen:=
 ⟨(LenT.lst (t:=41) (e:=50) (by kernel_rfl) (LenT.fld 4 (fs:=Tryz.prog.fieldsOf 45) (f:=(Tryz.prog.fieldsOf 45)[4]!) (by kernel_rfl) (by kernel_rfl) h)).1,
  (LenT.lst (t:=42) (e:=79) (by kernel_rfl) (LenT.fld 5 (fs:=Tryz.prog.fieldsOf 45) (f:=(Tryz.prog.fieldsOf 45)[5]!) (by kernel_rfl) (by kernel_rfl) h)).1⟩
theorem len_doc {n:Nat} {d:D} (h:LenT Tryz.prog (n+2) 25 d):(d.f 0).l.length<=maxLen:=(LenT.lst (t:=23) (e:=45) (by kernel_rfl) (LenT.fld 0 (fs:=Tryz.prog.fieldsOf 25) (f:=(Tryz.prog.fieldsOf 25)[0]!) (by kernel_rfl) (by kernel_rfl) h)).1
theorem valE_ac (d:D):AC EN5 Tryz.prog 129 [.agg (cellsV Tryz.prog 12 53 d),.agg (cellsV Tryz.prog 12 53 d)] (.c (.bool true)):=valU_ac _ d (zCn (bulkD d) d (Nat.le_refl _))
attribute [local irreducible] wpList Calls Code.wp AW AWo OpOk seqK zq zu loopK endK AC zf Yld Sub
attribute [local irreducible] ACB ACX ACE absLexG YldG absLexH
theorem eqs_f (s:ByteArray):(!(s.toList==s.toList))=false:=by simp
theorem eqs_k (s:ByteArray) (h:((!(s.toList==s.toList))==false)=false):False:=by simp at h
theorem eqn_f (n:Int):(n != n)=false:=by simp
theorem eqn_k (n:Int) (h:((n != n)==false)=false):False:=by simp at h
theorem eqb_k (b:Bool) (h:((b != b)==false)=false):False:=by cases b<;>cases h
theorem eqt_k (h:((!true)==false)=false):False:=by cases h
theorem eqt_f:(!true)=false:=rfl
noncomputable def HtX (l:List D) (i:Nat):Vst 26:=stS 26 [(0,.sl 9 l),(1,.sl 9 l),(5,.c (.int .i64 (i:Int)))] []
theorem textsE_ac (l:List D):AC EN5 Tryz.prog 62 [.sl 9 l,.sl 9 l] (.c (.bool true)):=by
 refine zHX 1 fun hl => ?_
 have hl:l.length<=9223372036854775807:=hl.1
 have f0:=eqn_f (l.length:Int)
 refine zP 26 Tryz.func62 rfl rfl rfl rfl ?_
 intro s w he
 repeat' (first
|apply zD
 . conv=>lhs;whnf
 . assumption
|refine zA ?_
|refine zB ?_
|refine zF ?_
|apply aw_1
 conv=>whnf
 refine ⟨?_,trivial⟩
|apply s_1
 conv=>whnf;arg 1;arg 4;arg 3;whnf
 refine ⟨?_,?_⟩
|exact trivial)
 refine zn (fun j st => ∃ i,i+j=l.length/\Sub (cx EN5 Tryz.prog s w he) st (HtX l i)) l.length ⟨0,by omega,Sub.live ⟨rfl,rfl,rfl,trivial⟩ trivial⟩ ?_
 rintro j st ⟨i,hij,hs2⟩
 refine zg hs2 ?_
 clear hs2
 by_cases hi:i<l.length
 . have f1:decide ((i:Int)<(l.length:Nat))=true:=decide_eq_true (by omega)
   have f2:=eqs_f (gD l i).s
   repeat' (first
|apply zG
 . conv=>lhs;whnf
 . assumption
|apply zD
 . conv=>lhs;whnf
 . assumption
|refine zA ?_
|refine zB ?_
|refine zF ?_
|refine zZ ?_
|apply aw_1
 conv=>whnf
 refine ⟨?_,trivial⟩
|apply s_1
 conv=>whnf;arg 1;arg 4;arg 3;whnf
 refine ⟨?_,?_⟩
|apply zA3 (by kernel_rfl) (by kernel_rfl)
|apply zDT
|apply zDS rfl
 . conv=>lhs;whnf
 . conv=>lhs;whnf;arg 2;whnf
|exact zAC
|exact zAk
|exact (1000000:Nat)
|exact trivial)
   all_goals first
    |exact zU (by omega)
    |exact zAu hi
    |exact zJ (j':=j-1) (by omega) ⟨i+1,by omega,Sub.live ⟨rfl,rfl,rfl,trivial⟩ trivial⟩
 . have f1:decide ((i:Int)<(l.length:Nat))=false:=decide_eq_false (by omega)
   repeat' (first
|apply zD
 . conv=>lhs;whnf
 . assumption
|refine zA ?_
|refine zB ?_
|refine zF ?_
|apply aw_1
 conv=>whnf
 refine ⟨?_,trivial⟩
|apply s_1
 conv=>whnf;arg 1;arg 4;arg 3;whnf
 refine ⟨?_,?_⟩
|refine zO ?_
|refine zL rfl ?_
|refine zM ?_
|refine zE ?_
|refine ⟨_,by conv=>lhs;whnf;arg 2;whnf,?_⟩;conv=>rhs;whnf
|exact trivial)
noncomputable def HuD (l:List D) (i:Nat):Vst 95:=stS 95 [(0,.sl 108 l),(1,.sl 108 l),(5,.c (.int .i64 (i:Int)))] []
noncomputable def HuE (l:List D) (i k:Nat):Vst 95:=stS 95 [(0,.sl 108 l),(1,.sl 108 l),(5,.c (.int .i64 (i:Int))),(6,.c (.int .i64 (k:Int)))] []
theorem zEb (l:List D):AC EN5 Tryz.prog 63 [.sl 108 l,.sl 108 l] (.c (.bool true)):=by
 refine zHX 2 fun hL => ?_
 have hl:l.length<=9223372036854775807:=hL.1
 have hla : ∀ i,i<l.length->((gD l i).f 1).l.length<=9223372036854775807:=fun i hi=>len_dir (hL.2 (by decide +kernel) i hi)
 have f0:=eqn_f (l.length:Int)
 refine zP 95 Tryz.func63 rfl rfl rfl rfl ?_
 intro s w he
 repeat' (first
|apply zD
 . conv=>lhs;whnf
 . assumption
|refine zA ?_
|refine zB ?_
|refine zF ?_
|apply aw_1
 conv=>whnf
 refine ⟨?_,trivial⟩
|apply s_1
 conv=>whnf;arg 1;arg 4;arg 3;whnf
 refine ⟨?_,?_⟩
|exact trivial)
 refine zn (fun j st => ∃ i,i+j=l.length/\Sub (cx EN5 Tryz.prog s w he) st (HuD l i)) l.length ⟨0,by omega,Sub.live ⟨rfl,rfl,rfl,trivial⟩ trivial⟩ ?_
 rintro j st ⟨i,hij,hs2⟩
 refine zg hs2 ?_
 clear hs2
 by_cases hi:i<l.length
 . have f1:decide ((i:Int)<(l.length:Nat))=true:=decide_eq_true (by omega)
   have k1:=eqs_k ((gD l i).f 0).s
   have f2:=eqn_f (((gD l i).f 1).l.length:Int)
   have ha:=hla i hi
   repeat' (first
|apply zG
 . conv=>lhs;whnf
 . assumption
|apply zD
 . conv=>lhs;whnf
 . assumption
|exact (k1 ‹_›).elim
|refine zA ?_
|refine zB ?_
|refine zF ?_
|apply aw_1
 conv=>whnf
 refine ⟨?_,trivial⟩
|apply s_1
 conv=>whnf;arg 1;arg 4;arg 3;whnf
 refine ⟨?_,?_⟩
|apply zA3 (by kernel_rfl) (by kernel_rfl)
|apply zDT
|apply zCs rfl rfl
 . conv=>lhs;whnf
 . conv=>lhs;whnf
 . first | exact bF1 ‹_› | exact bF2 ‹_›
|apply zDS rfl
 . conv=>lhs;whnf
 . conv=>lhs;whnf;arg 2;whnf
|apply zAb rfl
 . conv=>lhs;whnf
 . conv=>lhs;whnf
 . first | rfl | assumption
 . conv=>lhs;whnf;arg 2;whnf
|apply zA8 rfl
 . conv=>lhs;whnf
 . conv=>lhs;whnf
 . conv=>lhs;whnf;arg 2;whnf
|exact zAC
|exact ([]:List Nat)
|exact (1000000:Nat)
|exact trivial
|intro hg)
   all_goals first
    |exact zU (by omega)
    |exact zAu hi
    |skip
   refine zn (fun j st => ∃ k,k+j=((gD l i).f 1).l.length/\Sub (cx EN5 Tryz.prog s w he) st (HuE l i k)) ((gD l i).f 1).l.length ⟨0,by omega,Sub.live ⟨rfl,rfl,rfl,rfl,trivial⟩ trivial⟩ ?_
   rintro j2 st2 ⟨k,hkj,hs3⟩
   refine zg hs3 ?_
   clear hs3
   by_cases hk:k<((gD l i).f 1).l.length
   . have g1:decide ((k:Int)<(((gD l i).f 1).l.length:Nat))=true:=decide_eq_true (by omega)
     have k2:=eqs_k ((gD ((gD l i).f 1).l k).f 0).s
     have hv:=valE_ac ((gD ((gD l i).f 1).l k).f 1)
     have f3:=eqt_f
     repeat' (first
|apply zG
 . conv=>lhs;whnf
 . assumption
|apply zD
 . conv=>lhs;whnf
 . assumption
|exact (k2 ‹_›).elim
|refine zA ?_
|refine zB ?_
|refine zF ?_
|refine zZ ?_
|apply aw_1
 conv=>whnf
 refine ⟨?_,trivial⟩
|apply s_1
 conv=>whnf;arg 1;arg 4;arg 3;whnf
 refine ⟨?_,?_⟩
|apply zA3 (by kernel_rfl) (by kernel_rfl)
|apply zDT
|apply zCs rfl rfl
 . conv=>lhs;whnf
 . conv=>lhs;whnf
 . first | exact bF1 ‹_› | exact bF2 ‹_›
|apply zDS rfl
 . conv=>lhs;whnf
 . conv=>lhs;whnf;arg 2;whnf
|apply zAb rfl
 . conv=>lhs;whnf
 . conv=>lhs;whnf
 . first | rfl | assumption
 . conv=>lhs;whnf;arg 2;whnf
|apply zB5 rfl
 . conv=>lhs;whnf
 . conv=>lhs;whnf
 . first | rfl | assumption
 . conv=>lhs;whnf
 . first | exact hv
|apply zA8 rfl
 . conv=>lhs;whnf
 . conv=>lhs;whnf
 . conv=>lhs;whnf;arg 2;whnf
|exact zAC
|exact ([]:List Nat)
|exact (1000000:Nat)
|exact trivial
|intro hg)
     all_goals first
      |exact zU (by omega)
      |exact zAu hi
      |exact zAu hk
      |exact zJ (j':=j2-1) (by omega) ⟨k+1,by omega,Sub.live ⟨rfl,rfl,rfl,rfl,trivial⟩ trivial⟩
      |skip
   . have g1:decide ((k:Int)<(((gD l i).f 1).l.length:Nat))=false:=decide_eq_false (by omega)
     repeat' (first
|apply zD
 . conv=>lhs;whnf
 . assumption
|refine zA ?_
|refine zB ?_
|refine zF ?_
|refine zZ ?_
|apply aw_1
 conv=>whnf
 refine ⟨?_,trivial⟩
|apply s_1
 conv=>whnf;arg 1;arg 4;arg 3;whnf
 refine ⟨?_,?_⟩
|refine zO ?_
|refine zL rfl ?_
|refine zM ?_
|exact trivial)
     all_goals first
      |exact zU (by omega)
      |exact zAu hi
      |exact zJ (j':=j-1) (by omega) ⟨i+1,by omega,Sub.live ⟨rfl,rfl,rfl,trivial⟩ trivial⟩
      |skip
 . have f1:decide ((i:Int)<(l.length:Nat))=false:=decide_eq_false (by omega)
   repeat' (first
|apply zD
 . conv=>lhs;whnf
 . assumption
|refine zA ?_
|refine zB ?_
|refine zF ?_
|apply aw_1
 conv=>whnf
 refine ⟨?_,trivial⟩
|apply s_1
 conv=>whnf;arg 1;arg 4;arg 3;whnf
 refine ⟨?_,?_⟩
|refine zO ?_
|refine zL rfl ?_
|refine zM ?_
|refine zE ?_
|refine ⟨_,by conv=>lhs;whnf;arg 2;whnf,?_⟩;conv=>rhs;whnf
|exact trivial)
end
section
open Go.RowKit
set_option linter.unusedSectionVars false
attribute [local irreducible] wpList Calls Code.wp AW AWo OpOk seqK zq zu loopK endK AC zf Yld Sub
attribute [local irreducible] ACB ACX ACE absLexG YldG absLexH
noncomputable def HuI (l:List D) (i:Nat):Vst 83:=stS 83 [(0,.sl 55 l),(1,.sl 55 l),(5,.c (.int .i64 (i:Int)))] []
theorem zGD (l:List D):AC EN5 Tryz.prog 64 [.sl 55 l,.sl 55 l] (.c (.bool true)):=by
 refine zHX 1 fun hL => ?_
 have hl:l.length<=9223372036854775807:=hL.1
 have f0:=eqn_f (l.length:Int)
 refine zP 83 Tryz.func64 rfl rfl rfl rfl ?_
 intro s w he
 repeat' (first
|apply zD
 . conv=>lhs;whnf
 . assumption
|refine zA ?_
|refine zB ?_
|refine zF ?_
|apply aw_1
 conv=>whnf
 refine ⟨?_,trivial⟩
|apply s_1
 conv=>whnf;arg 1;arg 4;arg 3;whnf
 refine ⟨?_,?_⟩
|exact trivial)
 refine zn (fun j st => ∃ i,i+j=l.length/\Sub (cx EN5 Tryz.prog s w he) st (HuI l i)) l.length ⟨0,by omega,Sub.live ⟨rfl,rfl,rfl,trivial⟩ trivial⟩ ?_
 rintro j st ⟨i,hij,hs2⟩
 refine zg hs2 ?_
 clear hs2
 by_cases hi:i<l.length
 . have f1:decide ((i:Int)<(l.length:Nat))=true:=decide_eq_true (by omega)
   have k1:=eqs_k ((gD l i).f 0).s
   have k2:=eqb_k ((gD l i).f 2).b
   have k3:=eqt_k
   have h1:=refU_ac ((gD l i).f 1)
   have h2:=valE_ac ((gD l i).f 3)
   have h3:=zEb ((gD l i).f 4).l
   have f3:=eqt_f
   repeat' (first
|apply zG
 . conv=>lhs;whnf
 . assumption
|apply zD
 . conv=>lhs;whnf
 . assumption
|exact (k1 ‹_›).elim
|exact (k2 ‹_›).elim
|refine zA ?_
|refine zB ?_
|refine zF ?_
|refine zZ ?_
|apply aw_1
 conv=>whnf
 refine ⟨?_,trivial⟩
|apply s_1
 conv=>whnf;arg 1;arg 4;arg 3;whnf
 refine ⟨?_,?_⟩
|apply zA3 (by kernel_rfl) (by kernel_rfl)
|apply zDT
|apply zCs rfl rfl
 . conv=>lhs;whnf
 . conv=>lhs;whnf
 . first | exact bF1 ‹_› | exact bF2 ‹_›
|apply zDS rfl
 . conv=>lhs;whnf
 . conv=>lhs;whnf;arg 2;whnf
|apply zAb rfl
 . conv=>lhs;whnf
 . conv=>lhs;whnf
 . first | rfl | assumption
 . conv=>lhs;whnf;arg 2;whnf
|apply zB5 rfl
 . conv=>lhs;whnf
 . conv=>lhs;whnf
 . first | rfl | assumption
 . conv=>lhs;whnf
 . first | exact h1 | exact h2 | exact h3
|apply zA8 rfl
 . conv=>lhs;whnf
 . conv=>lhs;whnf
 . conv=>lhs;whnf;arg 2;whnf
|exact zAC
|exact ([]:List Nat)
|exact (1000000:Nat)
|exact trivial
|intro hg)
   all_goals first
    |exact zU (by omega)
    |exact zAu hi
    |exact zJ (j':=j-1) (by omega) ⟨i+1,by omega,Sub.live ⟨rfl,rfl,rfl,trivial⟩ trivial⟩
    |kernel_rfl
 . have f1:decide ((i:Int)<(l.length:Nat))=false:=decide_eq_false (by omega)
   repeat' (first
|apply zD
 . conv=>lhs;whnf
 . assumption
|refine zA ?_
|refine zB ?_
|refine zF ?_
|apply aw_1
 conv=>whnf
 refine ⟨?_,trivial⟩
|apply s_1
 conv=>whnf;arg 1;arg 4;arg 3;whnf
 refine ⟨?_,?_⟩
|refine zO ?_
|refine zL rfl ?_
|refine zM ?_
|refine zE ?_
|refine ⟨_,by conv=>lhs;whnf;arg 2;whnf,?_⟩;conv=>rhs;whnf
|exact trivial)
noncomputable def HuF (d:D) (i:Nat):Vst 145:=stS 145 [(2,.bx 2 0),(3,.bx 3 0),(5,.c (.int .i64 (i:Int)))] [(2,.box 45 (cellsV Tryz.prog 12 45 d)),(3,.box 45 (cellsV Tryz.prog 12 45 d))]
noncomputable def HuM (d:D) (i:Nat):Vst 145:=stS 145 [(2,.bx 2 0),(3,.bx 3 0),(8,.c (.int .i64 (i:Int)))] [(2,.box 45 (cellsV Tryz.prog 12 45 d)),(3,.box 45 (cellsV Tryz.prog 12 45 d))]
noncomputable def HuX (d:D) (i:Nat):Vst 145:=stS 145 [(2,.bx 2 0),(3,.bx 3 0),(5,.c (.int .i64 (i:Int))),(6,.bx 6 0),(7,.bx 7 0)] [(2,.box 45 (cellsV Tryz.prog 12 45 d)),(3,.box 45 (cellsV Tryz.prog 12 45 d)),(6,.box 50 (cellsV Tryz.prog 12 50 (gD (d.f 4).l i))),(7,.box 50 (cellsV Tryz.prog 12 50 (gD (d.f 4).l i)))]
theorem defE_ac (d:D):AC EN5 Tryz.prog 31 [.agg (cellsV Tryz.prog 12 45 d),.agg (cellsV Tryz.prog 12 45 d)] (.c (.bool true)):=by
 refine zDF 2 (by kernel_rfl) fun hL => ?_
 have hL:=len_def hL
 have hl4:(d.f 4).l.length<=9223372036854775807:=hL.1
 have hl5:(d.f 5).l.length<=9223372036854775807:=hL.2
 have k1:=eqn_k (d.f 0).n
 have k2:=eqs_k (d.f 1).s
 have k3:=eqt_k
 have k4:=eqn_k ((d.f 4).l.length:Int)
 have k5:=eqn_k ((d.f 5).l.length:Int)
 have h1:=textsE_ac (d.f 2).l
 have h2:=zEb (d.f 3).l
 have h3:=zGD (d.f 6).l
 have f3:=eqt_f
 refine zP 145 Tryz.func31 rfl rfl rfl rfl ?_
 intro s w he
 repeat' (first
|apply zD
 . conv=>lhs;whnf
 . assumption
|exact (k1 ‹_›).elim
|exact (k2 ‹_›).elim
|exact (k4 ‹_›).elim
|exact (k5 ‹_›).elim
|refine zA ?_
|refine zB ?_
|refine zF ?_
|apply aw_1
 conv=>whnf
 refine ⟨?_,trivial⟩
|apply zT rfl rfl
 . conv=>lhs;whnf
 . conv=>lhs;whnf
 . first | exact bF1 ‹_› | exact bF2 ‹_›
|apply s_1
 conv=>whnf;arg 1;arg 4;arg 3;whnf
 refine ⟨?_,?_⟩
|apply zAW rfl rfl rfl rfl
 . conv=>lhs;whnf;arg 1;whnf
 . rfl
|apply zC rfl
 . conv=>lhs;whnf
 . conv=>lhs;whnf
 . first | rfl | assumption
 . conv=>lhs;whnf;arg 2;whnf
|apply zh rfl
 . conv=>lhs;whnf
 . conv=>lhs;whnf
 . first | rfl | assumption
 . conv=>lhs;whnf
 . first | exact h1 | exact h2 | exact h3
|apply zH rfl
 . conv=>lhs;whnf
 . conv=>lhs;whnf
 . conv=>lhs;whnf;arg 2;whnf
|exact trivial
|intro hg)
 clear h1 h2 h3 k1 k2 k4 k5
 refine zn (fun j st => ∃ i,i+j=(d.f 4).l.length/\Sub (cx EN5 Tryz.prog s w he) st (HuF d i)) (d.f 4).l.length ⟨0,by omega,Sub.live ⟨rfl,rfl,rfl,trivial⟩ ⟨rfl,rfl,trivial⟩⟩ ?_
 rintro j st ⟨i,hij,hs2⟩
 refine zg hs2 ?_
 clear hs2
 by_cases hi:i<(d.f 4).l.length
 . have g1:decide ((i:Int)<((d.f 4).l.length:Nat))=true:=decide_eq_true (by omega)
   have k1:=eqs_k ((gD (d.f 4).l i).f 0).s
   have h1:=zGD ((gD (d.f 4).l i).f 1).l
   have h2:=refU_ac ((gD (d.f 4).l i).f 2)
   have h4:=zEb ((gD (d.f 4).l i).f 3).l
   repeat' (first
|apply zBp ([(1,[2]),(6,[3])]) ([(10,[6]),(11,[7]),(12,[6]),(13,[7])]) ([(10,6),(11,7)]) rfl (by kernel_rfl) (by kernel_rfl) (by kernel_rfl) (by intro p hp;simp only [List.mem_cons,List.not_mem_nil,or_false] at hp;rcases hp with rfl | rfl<;>(repeat' (first | exact fresh_S rfl | refine fresh_put ?_ rfl | refine fresh_res ?_ rfl rfl)))
|apply zIK
|apply zCg rfl rfl rfl rfl
 . conv=>lhs;whnf;arg 1;whnf
 . rfl
 . rfl
 . kernel_rfl
|apply zIJ rfl
 . conv=>lhs;whnf
 . conv=>lhs;whnf;arg 2;whnf
 . kernel_rfl
|apply zCf rfl rfl rfl
 . conv=>lhs;whnf
 . rfl
 . conv=>lhs;whnf;arg 1;whnf
 . conv=>lhs;whnf;arg 1;whnf
 . exact ⟨by kernel_rfl,by kernel_rfl⟩
 . rfl
 . kernel_rfl
|show inO _ _=true;rfl
|apply zG
 . conv=>lhs;whnf
 . assumption
|apply zD
 . conv=>lhs;whnf
 . assumption
|exact (k1 ‹_›).elim
|apply zo 7 (HuX d i) rfl
|refine zBA ?_
|refine zA ?_
|refine zB ?_
|refine zF ?_
|refine zZ ?_
|apply aw_1
 conv=>whnf
 refine ⟨?_,trivial⟩
|apply zT rfl rfl
 . conv=>lhs;whnf
 . conv=>lhs;whnf
 . first | exact bF1 ‹_› | exact bF2 ‹_›
|apply s_1
 conv=>whnf;arg 1;arg 4;arg 3;whnf
 refine ⟨?_,?_⟩
|apply zC rfl
 . conv=>lhs;whnf
 . conv=>lhs;whnf
 . first | rfl | assumption
 . conv=>lhs;whnf;arg 2;whnf
|apply zh rfl
 . conv=>lhs;whnf
 . conv=>lhs;whnf
 . first | rfl | assumption
 . conv=>lhs;whnf
 . first | exact h1 | exact h2 | exact h4
|apply zH rfl
 . conv=>lhs;whnf
 . conv=>lhs;whnf
 . conv=>lhs;whnf;arg 2;whnf
|exact trivial
|intro hg)
   all_goals first
    |exact zU (by omega)
    |exact zAu hi
    |exact Sub.live ⟨rfl,rfl,rfl,rfl,rfl,trivial⟩ ⟨rfl,rfl,rfl,rfl,trivial⟩
    |exact zJ (j':=j-1) (by omega) ⟨i+1,by omega,Sub.live ⟨rfl,rfl,rfl,trivial⟩ ⟨rfl,rfl,trivial⟩⟩
    |skip
 . have g1:decide ((i:Int)<((d.f 4).l.length:Nat))=false:=decide_eq_false (by omega)
   repeat' (first
|apply zD
 . conv=>lhs;whnf
 . assumption
|refine zA ?_
|refine zB ?_
|refine zF ?_
|apply aw_1
 conv=>whnf
 refine ⟨?_,trivial⟩
|apply s_1
 conv=>whnf;arg 1;arg 4;arg 3;whnf
 refine ⟨?_,?_⟩
|refine zO ?_
|refine zL rfl ?_
|refine zM ?_
|exact trivial)
   refine zn (fun j st => ∃ i,i+j=(d.f 5).l.length/\Sub (cx EN5 Tryz.prog s w he) st (HuM d i)) (d.f 5).l.length ⟨0,by omega,Sub.live ⟨rfl,rfl,rfl,trivial⟩ ⟨rfl,rfl,trivial⟩⟩ ?_
   rintro j st ⟨i,hij,hs2⟩
   refine zg hs2 ?_
   clear hs2
   by_cases hi:i<(d.f 5).l.length
   . have g1:decide ((i:Int)<((d.f 5).l.length:Nat))=true:=decide_eq_true (by omega)
     have k1:=eqs_k ((gD (d.f 5).l i).f 0).s
     have h4:=zEb ((gD (d.f 5).l i).f 1).l
     repeat' (first
|apply zG
 . conv=>lhs;whnf
 . assumption
|apply zD
 . conv=>lhs;whnf
 . assumption
|exact (k1 ‹_›).elim
|refine zA ?_
|refine zB ?_
|refine zF ?_
|refine zZ ?_
|apply aw_1
 conv=>whnf
 refine ⟨?_,trivial⟩
|apply s_1
 conv=>whnf;arg 1;arg 4;arg 3;whnf
 refine ⟨?_,?_⟩
|apply zA3 (by kernel_rfl) (by kernel_rfl)
|apply zDT
|apply zCs rfl rfl
 . conv=>lhs;whnf
 . conv=>lhs;whnf
 . first | exact bF1 ‹_› | exact bF2 ‹_›
|apply zDS rfl
 . conv=>lhs;whnf
 . conv=>lhs;whnf;arg 2;whnf
|apply zAb rfl
 . conv=>lhs;whnf
 . conv=>lhs;whnf
 . first | rfl | assumption
 . conv=>lhs;whnf;arg 2;whnf
|apply zB5 rfl
 . conv=>lhs;whnf
 . conv=>lhs;whnf
 . first | rfl | assumption
 . conv=>lhs;whnf
 . first | exact h4
|apply zA8 rfl
 . conv=>lhs;whnf
 . conv=>lhs;whnf
 . conv=>lhs;whnf;arg 2;whnf
|exact zAC
|exact zAk
|exact ([]:List Nat)
|exact (1000000:Nat)
|exact trivial
|intro hg)
     all_goals first
      |exact zU (by omega)
      |exact zAu hi
      |exact zJ (j':=j-1) (by omega) ⟨i+1,by omega,Sub.live ⟨rfl,rfl,rfl,trivial⟩ ⟨rfl,rfl,trivial⟩⟩
      |skip
   . have g1:decide ((i:Int)<((d.f 5).l.length:Nat))=false:=decide_eq_false (by omega)
     repeat' (first
|apply zD
 . conv=>lhs;whnf
 . assumption
|refine zA ?_
|refine zB ?_
|refine zF ?_
|apply aw_1
 conv=>whnf
 refine ⟨?_,trivial⟩
|apply s_1
 conv=>whnf;arg 1;arg 4;arg 3;whnf
 refine ⟨?_,?_⟩
|refine zO ?_
|refine zL rfl ?_
|refine zM ?_
|refine zE ?_
|refine ⟨_,by conv=>lhs;whnf;arg 2;whnf,?_⟩;conv=>rhs;whnf
|exact trivial)
noncomputable def HuQ (d:D) (i:Nat):Vst 32:=stS 32 [(2,.bx 2 0),(3,.bx 3 0),(5,.c (.int .i64 (i:Int)))] [(2,.box 25 (cellsV Tryz.prog 12 25 d)),(3,.box 25 (cellsV Tryz.prog 12 25 d))]
theorem equalE_ac (d:D):AC EN5 Tryz.prog 12 [.agg (cellsV Tryz.prog 12 25 d),.agg (cellsV Tryz.prog 12 25 d)] (.c (.bool true)):=by
 refine zDF 2 (by kernel_rfl) fun hL => ?_
 have hl:(d.f 0).l.length<=9223372036854775807:=len_doc hL
 have f0:=eqn_f ((d.f 0).l.length:Int)
 refine zP 32 Tryz.func12 rfl rfl rfl rfl ?_
 intro s w he
 repeat' (first
|apply zD
 . conv=>lhs;whnf
 . assumption
|refine zA ?_
|refine zB ?_
|refine zF ?_
|apply aw_1
 conv=>whnf
 refine ⟨?_,trivial⟩
|apply s_1
 conv=>whnf;arg 1;arg 4;arg 3;whnf
 refine ⟨?_,?_⟩
|apply zAW rfl rfl rfl rfl
 . conv=>lhs;whnf;arg 1;whnf
 . rfl
|exact trivial)
 refine zn (fun j st => ∃ i,i+j=(d.f 0).l.length/\Sub (cx EN5 Tryz.prog s w he) st (HuQ d i)) (d.f 0).l.length ⟨0,by omega,Sub.live ⟨rfl,rfl,rfl,trivial⟩ ⟨rfl,rfl,trivial⟩⟩ ?_
 rintro j st ⟨i,hij,hs2⟩
 refine zg hs2 ?_
 clear hs2
 by_cases hi:i<(d.f 0).l.length
 . have g1:decide ((i:Int)<((d.f 0).l.length:Nat))=true:=decide_eq_true (by omega)
   have h1:=defE_ac (gD (d.f 0).l i)
   have f3:=eqt_f
   repeat' (first
|apply zG
 . conv=>lhs;whnf
 . assumption
|apply zD
 . conv=>lhs;whnf
 . assumption
|refine zA ?_
|refine zB ?_
|refine zF ?_
|refine zZ ?_
|apply aw_1
 conv=>whnf
 refine ⟨?_,trivial⟩
|apply s_1
 conv=>whnf;arg 1;arg 4;arg 3;whnf
 refine ⟨?_,?_⟩
|apply zA3 (by kernel_rfl) (by kernel_rfl)
|apply zDT
|apply zDS rfl
 . conv=>lhs;whnf
 . conv=>lhs;whnf;arg 2;whnf
|apply y_call rfl
 . conv=>lhs;whnf
 . conv=>lhs;whnf
 . first | exact h1
|exact zAC
|exact zAk
|exact (1000000:Nat)
|exact trivial)
   all_goals first
    |exact zU (by omega)
    |exact zAu hi
    |exact zJ (j':=j-1) (by omega) ⟨i+1,by omega,Sub.live ⟨rfl,rfl,rfl,trivial⟩ ⟨rfl,rfl,trivial⟩⟩
    |skip
 . have g1:decide ((i:Int)<((d.f 0).l.length:Nat))=false:=decide_eq_false (by omega)
   repeat' (first
|apply zD
 . conv=>lhs;whnf
 . assumption
|refine zA ?_
|refine zB ?_
|refine zF ?_
|apply aw_1
 conv=>whnf
 refine ⟨?_,trivial⟩
|apply s_1
 conv=>whnf;arg 1;arg 4;arg 3;whnf
 refine ⟨?_,?_⟩
|refine zO ?_
|refine zL rfl ?_
|refine zM ?_
|refine zE ?_
|refine ⟨_,by conv=>lhs;whnf;arg 2;whnf,?_⟩;conv=>rhs;whnf
|exact trivial)
end
section
structure XN (M:Prop) (V:Bool) (T:Tok->Tok->Prop) (x x':PS):Prop where
 ts:All2 T x.ts x'.ts
 vr:x.vr=V
 vr':x'.vr=V
 nd:M->x.nd=x'.nd
def RN (M:Prop) (V:Bool) (T:Tok->Tok->Prop) (I:Nat->Nat->Prop) {α:Type}:PR α->PR α->Prop
 |.ok (a,x),.ok (a',x')=>a=a'/\XN M V T x x'
 |.error e,.error e'=>I e.1 e'.1/\e.2=e'.2
 |_,_=>False
section
variable {M:Prop} {V W:Bool} {T:Tok->Tok->Prop} {I:Nat->Nat->Prop} {α β:Type}
theorem XN.hd (hT:TR T I) {x x':PS} (h:XN M V T x x'):(hdT x').k=(hdT x).k/\(hdT x').s=(hdT x).s/\I (hdT x).i (hdT x').i:=by
 obtain ⟨h1,-,-,-⟩:=h
 unfold hdT
 generalize x.ts=a at h1
 generalize x'.ts=b at h1
 cases h1 with
 |nil=>exact ⟨rfl,rfl,hT.z⟩
 |cons h2 h3=>exact ⟨(hT.k h2).symm,(hT.s h2).symm,hT.i h2⟩
theorem XN.isS (hT:TR T I) {x x':PS} (h:XN M V T x x') (s:List UInt8):isS x' s=isS x s:=by
 obtain ⟨h1,h2,-⟩:=h.hd hT
 unfold Go.Proofs.YthppafnlnnpciaaGreatDoor.isS
 rw [h1,h2]
theorem XN.nx (hT:TR T I) {x x':PS} (h:XN M V T x x'):XN M V T (nxT x) (nxT x'):=by
 obtain ⟨h1,-,-⟩:=h.hd hT
 unfold nxT
 rw [h1]
 split
 . exact h
 . exact ⟨zIr h.ts 1,h.vr,h.vr',h.nd⟩
theorem XN.len {x x':PS} (h:XN M V T x x'):x'.ts.length=x.ts.length:=(zDQ h.ts).symm
theorem RN.err (hT:TR T I) {x x':PS} (h:XN M V T x x') (e:Int):RN M V T I (α:=α) (.error ((hdT x).i,e)) (.error ((hdT x').i,e)):=⟨(h.hd hT).2.2,rfl⟩
theorem RN.okk {x x':PS} (h:XN M V T x x') (a:α):RN M V T I (.ok (a,x)) (.ok (a,x')):=⟨rfl,h⟩
theorem RN.ite {c:Prop} [Decidable c] {a b a' b':PR α} (h1:c->RN M V T I a a') (h2 : ¬ c->RN M V T I b b'):RN M V T I (if c then a else b) (if c then a' else b'):=by
 split
 . rename_i h;exact h1 h
 . rename_i h;exact h2 h
theorem RN.then {r r':PR α} {f f':α->PS->PR β} (h:RN M V T I r r') (hf : ∀ a x x',XN M V T x x'->RN M W T I (f a x) (f' a x')):RN M W T I (zY r f) (zY r' f'):=by
 unfold zY
 cases r with
 |error e=>cases r' with | error e'=>exact h | ok a'=>exact h.elim
 |ok a =>
  cases r' with
  |error e'=>exact h.elim
  |ok a' =>
   obtain ⟨a,x⟩:=a
   obtain ⟨a',x'⟩:=a'
   obtain ⟨rfl,hx⟩:=h
   exact hf _ _ _ hx
variable (hT:TR T I)
include hT
end
end
section
def LN (e:Tok) (r:List Tok) {α:Type} (a:List Tok) (p p':PR α):Prop:=
 ∀ v y,p = .ok (v,y) -> ∃ b y',(∃ d,a=d++b)/\p' = .ok (v,y')/\J e r b y y'
section
variable {e:Tok} {r:List Tok} {α β:Type}
theorem LN.okk {a:List Tok} {x x':PS} (h:J e r a x x') (v:α):LN e r a (.ok (v,x)) (.ok (v,x')):=fun w y hp=>by
 cases hp
 exact ⟨a,x',⟨[],rfl⟩,rfl,h⟩
theorem LN.mono {a b:List Tok} {p p':PR α} (h:LN e r b p p') (hab : ∃ d,a=d++b):LN e r a p p':=fun v y hp=>by
 obtain ⟨c,y',⟨d,hd⟩,h1⟩:=h v y hp
 obtain ⟨d2,hd2⟩:=hab
 exact ⟨c,y',⟨d2++d,by rw [hd2,hd,List.append_assoc]⟩,h1⟩
theorem LN.ite {a:List Tok} {c c':Prop} [Decidable c] [Decidable c'] {A A' B B':PR α} (hc:c ↔ c') (h1:c->LN e r a A A') (h2 : ¬ c->LN e r a B B'):LN e r a (if c then A else B) (if c' then A' else B'):=by
 by_cases h:c
 . rw [if_pos h,if_pos (hc.1 h)];exact h1 h
 . rw [if_neg h,if_neg fun h'=>h (hc.2 h')];exact h2 h
variable (hE:Ends e r) (hN : ∃ t r',r=t::r'/\t.k=2)
include hE hN
end
end
section
section
variable (lit:D->Bool)
def valY (v:D):Bool:=lit v&&bareR (bulkD v) v
def argY (a:D):Bool:=nameB (a.f 0).s&&valY lit (a.f 1)
def zIp (l:List D):Bool:=decide (l.length<=16)&&l.all (argY lit)
def dirY (x:D):Bool:=nameB (x.f 0).s&&zIp lit (x.f 1).l
def dirsY (l:List D):Bool:=decide (l.length<=16)&&l.all (dirY lit)
def inY (x:D):Bool:=nameB (x.f 0).s&&refR (x.f 1)&&dirsY lit (x.f 4).l&&valY lit (x.f 3)&&((x.f 2).b||((x.f 3).f 0).n==0)
def insY (l:List D):Bool:=decide (l.length<=16)&&l.all (inY lit)
def fdY (x:D):Bool:=nameB (x.f 0).s&&insY lit (x.f 1).l&&refR (x.f 2)&&dirsY lit (x.f 3).l
def fdsY (l:List D):Bool:=decide (l.length<=64)&&l.all (fdY lit)
def mbY (u:Bool) (x:D):Bool:=nameB (x.f 0).s&&dirsY lit (x.f 1).l&&(!u||decide ((x.f 1).l.length=0))
def mbsY (u:Bool) (l:List D):Bool:=decide (l.length<=64)&&l.all (mbY lit u)
def imY (l:List D):Bool:=decide (l.length<=64)&&l.all fun x=>nameB x.s
def kindY (k:Int) (a b c e:Nat):Bool:=
 decide (1<=k/\k<=5)&&(decide (e=0)||k==1)&&((k==1||k==2)==decide (0<a))&&((k==3||k==4)==decide (0<b))&&((k==5)==decide (0<c))
def defY (d:D):Bool:=
 kindY (d.f 0).n (d.f 4).l.length (d.f 5).l.length (d.f 6).l.length (d.f 2).l.length&&nameB (d.f 1).s&&dirsY lit (d.f 3).l&&imY (d.f 2).l &&
 fdsY lit (d.f 4).l&&mbsY lit ((d.f 0).n==3) (d.f 5).l&&insY lit (d.f 6).l
def docY (l:List D):Bool:=decide (1<=l.length/\l.length<=64)&&l.all (defY lit)
end
structure ValP (v:D):Prop where
 lit:litR v=true
 bare:bareR (bulkD v) v=true
structure ArgP (a:D):Prop where
 name:nameB (a.f 0).s=true
 val:ValP (a.f 1)
structure DirP (x:D):Prop where
 name:nameB (x.f 0).s=true
 len:(x.f 1).l.length<=16
 args : ∀ i,i<(x.f 1).l.length->ArgP (gD (x.f 1).l i)
structure DirsP (l:List D):Prop where
 len:l.length<=16
 dirs : ∀ i,i<l.length->DirP (gD l i)
structure InP (x:D):Prop where
 name:nameB (x.f 0).s=true
 rname:nameB ((x.f 1).f 0).s=true
 rlen:((x.f 1).f 1).l.length<=24
 wraps:zBE (((x.f 1).f 1).l.map D.n)=true
 dirs:DirsP (x.f 4).l
 val:ValP (x.f 3)
 has:(x.f 2).b=true\/((x.f 3).f 0).n=0
structure InsP (l:List D):Prop where
 len:l.length<=16
 ins : ∀ i,i<l.length->InP (gD l i)
structure FdP (x:D):Prop where
 name:nameB (x.f 0).s=true
 args:InsP (x.f 1).l
 rname:nameB ((x.f 2).f 0).s=true
 rlen:((x.f 2).f 1).l.length<=24
 wraps:zBE (((x.f 2).f 1).l.map D.n)=true
 dirs:DirsP (x.f 3).l
structure MbP (u:Bool) (x:D):Prop where
 name:nameB (x.f 0).s=true
 dirs:DirsP (x.f 1).l
 no:u=true->(x.f 1).l.length=0
structure DefP (d:D):Prop where
 kind:1<=(d.f 0).n/\(d.f 0).n<=5
 name:nameB (d.f 1).s=true
 dirs:DirsP (d.f 3).l
 ilen:(d.f 2).l.length<=64
 im : ∀ i,i<(d.f 2).l.length->nameB (gD (d.f 2).l i).s=true
 im0:(d.f 2).l.length=0\/(d.f 0).n=1
 f0:((d.f 0).n=1\/(d.f 0).n=2) ↔ 0<(d.f 4).l.length
 m0:((d.f 0).n=3\/(d.f 0).n=4) ↔ 0<(d.f 5).l.length
 i0:(d.f 0).n=5 ↔ 0<(d.f 6).l.length
 flen:(d.f 4).l.length<=64
 fds : ∀ i,i<(d.f 4).l.length->FdP (gD (d.f 4).l i)
 mlen:(d.f 5).l.length<=64
 mbs : ∀ i,i<(d.f 5).l.length->MbP ((d.f 0).n==3) (gD (d.f 5).l i)
 ins:InsP (d.f 6).l
end
section
def tw:List Tok->Nat
 |[]=>0
 |t::r=>t.s.length+40+tw r
def Bd {α:Type} (μ:α->Nat) (N:Nat) (r:PR α):Prop:=∀ v y,r = .ok (v,y)->μ v+tw y.ts<=N
section
variable {α β:Type} {μ:α->Nat} {ν:β->Nat} {N M:Nat}
theorem Bd.okk {v:α} {y:PS} (h:μ v+tw y.ts<=N):Bd μ N (.ok (v,y):PR α):=fun _ _ e=>by cases e;exact h
theorem Bd.err {e:Nat × Int}:Bd μ N (.error e:PR α):=fun _ _ h=>by cases h
theorem Bd.ite {c:Prop} [Decidable c] {a b:PR α} (h1:c->Bd μ N a) (h2 : ¬ c->Bd μ N b):Bd μ N (if c then a else b):=by
 split
 . exact h1 ‹_›
 . exact h2 ‹_›
theorem Bd.then {r:PR α} {f:α->PS->PR β} (h:Bd μ N r) (hf : ∀ a x,μ a+tw x.ts<=N->Bd ν M (f a x)):Bd ν M (zY r f):=by
 cases hr:r with
 |error e =>
  rw [zt (r:=.error e) rfl]
  exact .err
 |ok p =>
  obtain ⟨a,x⟩:=p
  rw [za (r:=.ok (a,x)) rfl]
  exact hf a x (h a x hr)
end
def sl (s:List UInt8):Nat:=s.length+40
section
variable {v:PS->PR D} (hv : ∀ y,Bd bulkD (tw y.ts) (v y))
include hv
end
end
section
open Go.RowKit
def zGu (n i:Int) (t:Bool) (a b:Nat) (x v y:Bool):Bool:=
 if n=0 then i==0&&t&&b==0&&a==0
 else if n=1 then (i==0||i==1)&&t&&b==0&&a==0
 else if n=2 then t&&b==0&&a==0
 else if n=3 then i==0&&b==0&&a==0
 else if n=4 then i==0&&b==0&&a==0&&x
 else if n=5 then i==0&&t&&a==0
 else if n=6 then i==0&&t&&a==b&&y
 else if n=7 then i==0&&b==0&&a==0&&v
 else false
theorem nodeF_K (n i:Int) (t:Bool) (a b:Nat) (x v ks y:Bool) (hks:a=0->ks=true):(zGu n i t a b x v y&&ks)=nodeK n i t a b x v ks y:=by
 have h0:(a==0)=true->ks=true:=fun h=>hks (by simpa using h)
 unfold zGu nodeK
 by_cases n0:n=0
 . subst n0;cases ks<;>simp_all
   try ac_rfl
 by_cases n1:n=1
 . subst n1;cases ks<;>simp_all
   try ac_rfl
 by_cases n2:n=2
 . subst n2;cases ks<;>simp_all
   try ac_rfl
 by_cases n3:n=3
 . subst n3;cases ks<;>simp_all
   try ac_rfl
 by_cases n4:n=4
 . subst n4;cases ks<;>simp_all
   try ac_rfl
 by_cases n5:n=5
 . subst n5;cases ks<;>simp_all
   try ac_rfl
 by_cases n6:n=6
 . subst n6;cases ks<;>simp_all
   try ac_rfl
 by_cases n7:n=7
 . subst n7;cases ks<;>simp_all
   try ac_rfl
 have hd:decide (0<=n/\n<=7)=false:=decide_eq_false (by omega)
 rw [hd]
 simp [n0,n1,n2,n3,n4,n5,n6,n7]
def zGv (d:D):Bool:=zGu (d.f 0).n (d.f 1).n ((d.f 2).s.data.toList==[]) (d.f 4).l.length (d.f 3).l.length (zJU (d.f 2).s) (nameB (d.f 2).s) (decide (strsR d).Nodup)
theorem zDu (d:D):(zGv d && !((d.f 4).l.any fun x => !nameB x.s))=nodeL d:=
 nodeF_K _ _ _ _ _ _ _ _ _ fun h=>by rw [List.eq_nil_of_length_eq_zero h];rfl
end
section
def Hr {α:Type} (Q:α->PS->Prop) (r:PR α):Prop:=∀ v z,r = .ok (v,z)->Q v z
section
variable {α β:Type} {Q:α->PS->Prop} {R:β->PS->Prop}
theorem Hr.okk {v:α} {z:PS} (h:Q v z):Hr Q (.ok (v,z):PR α):=fun _ _ e=>by cases e;exact h
theorem Hr.err {e:Nat × Int}:Hr Q (.error e:PR α):=fun _ _ h=>by cases h
theorem Hr.ite {c:Prop} [Decidable c] {a b:PR α} (h1:c->Hr Q a) (h2 : ¬ c->Hr Q b):Hr Q (if c then a else b):=by
 split
 . exact h1 ‹_›
 . exact h2 ‹_›
theorem Hr.then {r:PR α} {f:α->PS->PR β} (h:Hr Q r) (hf : ∀ a x,Q a x->Hr R (f a x)):Hr R (zY r f):=by
 cases hr:r with
 |error e =>
  rw [zt (r:=.error e) rfl]
  exact .err
 |ok p =>
  obtain ⟨a,x⟩:=p
  rw [za (r:=.ok (a,x)) rfl]
  exact hf a x (h a x hr)
theorem Hr.mono {r:PR α} {Q':α->PS->Prop} (h:Hr Q r) (hq : ∀ a x,Q a x->Q' a x):Hr Q' r:=fun v z e=>hq v z (h v z e)
end
def GT (x:PS):Prop:=∀ t∈x.ts,(t.k=2->nameB ⟨t.s.toArray⟩=true)/\1<=t.k/\t.k<=5
theorem GT.nx {x:PS} (h:GT x):GT (nxT x):=fun t ht=>by
 unfold nxT at ht
 split at ht
 . exact h t ht
 . exact h t (List.mem_of_mem_drop ht)
theorem zE1 (x:PS):(nxT x).vr=x.vr:=by unfold nxT;split<;>rfl
theorem zF6 (x:PS):(nxT x).nd=x.nd:=by unfold nxT;split<;>rfl
theorem GT.hd {x:PS} (h:GT x):((hdT x).k=2->nameB ⟨(hdT x).s.toArray⟩=true)/\1<=(hdT x).k/\(hdT x).k<=5:=by
 unfold hdT
 cases hx:x.ts with
 |nil=>exact ⟨fun h=>absurd h (by decide),by decide,by decide⟩
 |cons t r=>exact h t (by rw [hx];exact List.mem_cons_self ..)
structure Pv (x z:PS):Prop where
 gt:GT z
 vr:z.vr=x.vr
theorem Pv.trans {x y z:PS} (h1:Pv x y) (h2:Pv y z):Pv x z:=⟨h2.gt,h2.vr.trans h1.vr⟩
theorem GT.pv {x:PS} (h:GT x):Pv x x:=⟨h,rfl⟩
theorem GT.pvn {x:PS} (h:GT x):Pv x (nxT x):=⟨h.nx,zE1 x⟩
theorem Pv.nx {x y:PS} (h:Pv x y):Pv x (nxT y):=h.trans h.gt.pvn
theorem zCV {s:List UInt8} {x:PS} (h:GT x):Hr (fun _ z=>Pv x z/\z.nd=x.nd) (takeQ s x):=by
 unfold takeQ
 exact .ite (fun _ => .okk ⟨h.pvn,zF6 x⟩) fun _ => .err
theorem zE4 {x:PS} (h:GT x):Hr (fun n z=>nameB ⟨n.toArray⟩=true/\Pv x z/\z.nd=x.nd) (nameQ x):=by
 unfold nameQ
 exact .ite (fun hk => .okk ⟨h.hd.1 hk,h.pvn,zF6 x⟩) fun _ => .err
theorem open_rt : ∀ (f:Nat) {x:PS},GT x->Pv x (openQ f x).2
 |0,x,h=>h.pv
 |f+1,x,h=>by
  unfold openQ
  by_cases hs:isS x [91]=true
  . rw [if_pos hs]
    exact h.pvn.trans (open_rt f h.nx)
  . rw [if_neg hs];exact h.pv
theorem zEf {w:List Int} (h:zBE w=true) (hh:w.head? ≠ some 1):zBE (1::w)=true:=by
 cases w with
 |nil=>rfl
 |cons v r =>
  have hv:v≠1:=fun e=>hh (by rw [e];rfl)
  simp [zBE,hv]
  exact h
theorem zEe {w:List Int} (h:zBE w=true):zBE (2::w)=true:=by
 cases w with
 |nil=>rfl
 |cons v r=>simpa [zBE] using h
theorem zHQ : ∀ (n:Nat) (w:List Int) {x:PS},GT x->zBE w=true->w.head? ≠ some 1->Hr (fun v z=>zBE v=true/\Pv x z) (closeQ n w x)
 |0,w,x,h,hw,hh=>by
  unfold closeQ
  by_cases hs:isS x [33]=true
  . rw [if_pos hs];exact .okk ⟨zEf hw hh,h.pvn⟩
  . rw [if_neg hs];exact .okk ⟨hw,h.pv⟩
 |n+1,w,x,h,hw,hh=>by
  unfold closeQ
  by_cases hs:isS x [33]=true
  . rw [if_pos hs,if_pos hs]
    exact .then (zCV h.nx) fun _ y hy=>(zHQ n _ hy.1.gt (zEe (zEf hw hh)) (fun h=>by simp at h)).mono fun v z hv=>⟨hv.1,(h.pvn.trans hy.1).trans hv.2⟩
  . rw [if_neg hs,if_neg hs]
    exact .then (zCV h) fun _ y hy=>(zHQ n _ hy.1.gt (zEe hw) (fun h=>by simp at h)).mono fun v z hv=>⟨hv.1,hy.1.trans hv.2⟩
theorem map_n (w:List Int):(w.map D.int).map D.n=w:=by
 rw [List.map_map]
 exact (List.map_congr_left fun x _=>rfl).trans (List.map_id w)
theorem typ_rt {x:PS} (h:GT x):Hr (fun t z=>refR t=true/\Pv x z) (typQ x):=by
 have ho:=open_rt x.ts.length h
 refine .then (Q:=fun t z=>nameB ⟨t.1.toArray⟩=true/\zBE t.2=true/\Pv x z) (.then (zE4 ho.gt) fun n y hn => .then (zHQ _ [] hn.2.1.gt rfl (by decide)) fun w z hw => .okk ⟨hn.1,hw.1,(ho.trans hn.2.1).trans hw.2⟩) fun t z ht => .ite (fun _ => .err) fun hl => .okk ⟨?_,ht.2.2⟩
 show (nameB ⟨t.1.toArray⟩&&decide ((t.2.map D.int).length<=24)&&zBE ((t.2.map D.int).map D.n))=true
 rw [map_n,ht.1,ht.2.1,List.length_map,decide_eq_true (by omega)]
 rfl
structure VOk (lv:Nat) (vr:Bool) (n0:Nat) (v:D) (n1:Nat):Prop where
 sz : ∀ k,Dp k v->sizeR k v+n0=n1
 dp : ∀ k,Dp k v->depthR k v+lv<=25
 ev : ∀ k,Dp k v->everyL k v=true
 br:vr=false -> ∀ k,Dp k v->bareR k v=true
structure CH (lv:Nat) (vr:Bool) (n0:Nat) (l:List D) (n1:Nat):Prop where
 sz : ∀ k,(∀ i,i<l.length->Dp k (gD l i))->sumN (fun i=>sizeR k (gD l i)) l.length+n0=n1
 dp : ∀ i,i<l.length -> ∀ k,Dp k (gD l i)->depthR k (gD l i)+lv<=25
 ev : ∀ i,i<l.length -> ∀ k,Dp k (gD l i)->everyL k (gD l i)=true
 br:vr=false -> ∀ i,i<l.length -> ∀ k,Dp k (gD l i)->bareR k (gD l i)=true
theorem CH.nil {lv:Nat} {vr:Bool} {n:Nat}:CH lv vr n [] n:=
 ⟨fun k _=>by simp [sumN],fun i hi=>absurd hi (Nat.not_lt_zero i),fun i hi=>absurd hi (Nat.not_lt_zero i),fun _ i hi=>absurd hi (Nat.not_lt_zero i)⟩
theorem gD_lst (l:List D) (v:D):gD (l++[v]) l.length=v:=by unfold gD;simp
theorem gD_l {l:List D} {v:D} {i:Nat} (h:i<l.length):gD (l++[v]) i=gD l i:=by
 unfold gD;rw [List.getD_eq_getElem?_getD,List.getElem?_append_left h,<- List.getD_eq_getElem?_getD]
theorem zGe {l:List D} {v:D} {p:D->Prop} (h1 : ∀ i,i<l.length->p (gD l i)) (h2:p v) : ∀ i,i<(l++[v]).length->p (gD (l++[v]) i):=fun i hi=>by
 rw [List.length_append,List.length_singleton] at hi
 rcases Nat.lt_or_ge i l.length with h | h
 . rw [gD_l h];exact h1 i h
 . obtain rfl:i=l.length:=by omega
   rw [gD_lst];exact h2
theorem zFt {f g:Nat->Nat} : ∀ {n:Nat},(∀ i,i<n->f i=g i)->sumN f n=sumN g n
 |0,_=>rfl
 |n+1,h=>by rw [sumN,sumN,zFt fun i hi=>h i (by omega),h n (by omega)]
theorem CH.snoc {lv:Nat} {vr:Bool} {n0 n1 n2:Nat} {l:List D} {v:D} (h:CH lv vr n0 l n1) (hv:VOk lv vr n1 v n2):CH lv vr n0 (l++[v]) n2 where
 sz k hk:=by
  have h1:=h.sz k fun i hi=>by have:=hk i (by simp;omega);rwa [gD_l hi] at this
  have h2:=hv.sz k (by have:=hk l.length (by simp);rwa [gD_lst] at this)
  rw [List.length_append,List.length_singleton,sumN,gD_lst,zFt (g:=fun i=>sizeR k (gD l i)) fun i hi=>by rw [gD_l hi]]
  omega
 dp:=zGe (p:=fun d => ∀ k,Dp k d->depthR k d+lv<=25) h.dp hv.dp
 ev:=zGe (p:=fun d => ∀ k,Dp k d->everyL k d=true) h.ev hv.ev
 br hb:=zGe (p:=fun d => ∀ k,Dp k d->bareR k d=true) (h.br hb) (hv.br hb)
theorem zIq {p:D->Bool} {l:List D} (h : ∀ i,i<l.length->p (gD l i)=true):(l.any fun x => !p x)=false:=by
 rw [Bool.eq_false_iff]
 intro hc
 obtain ⟨x,hx,hp⟩:=List.any_eq_true.1 hc
 obtain ⟨i,hi,rfl⟩:=List.getElem_of_mem hx
 have:=h i hi
 rw [gD,List.getD_eq_getElem?_getD,List.getElem?_eq_getElem hi] at this
 rw [show p l[i]=true from this] at hp
 cases hp
theorem zC0 {lv n0 n1:Nat} {vr:Bool} {v:D} (hn:nodeL v=true) (h7:vr=false->(v.f 0).n≠7) (hlv:lv<=24) (hc:CH (lv+1) vr (n0+1) (v.f 3).l n1):VOk lv vr n0 v n1 where
 sz k hk:=by
  cases k with
  |zero=>exact hk.elim
  |succ k =>
   have:=hc.sz k hk
   show 1+sumN (fun i=>sizeR k (gD (v.f 3).l i)) (v.f 3).l.length+n0=n1
   omega
 dp k hk:=by
  cases k with
  |zero=>exact hk.elim
  |succ k =>
   have:maxN (fun i=>depthR k (gD (v.f 3).l i)) (v.f 3).l.length<=24-lv:=maxN_le fun i hi=>by
    have:=hc.dp i hi k (hk i hi)
    omega
   show maxN (fun i=>depthR k (gD (v.f 3).l i)) (v.f 3).l.length+1+lv<=25
   omega
 ev k hk:=by
  cases k with
  |zero=>exact hk.elim
  |succ k =>
   show (nodeL v && !((v.f 3).l.any fun x => !everyL k x))=true
   rw [hn,zIq fun i hi=>hc.ev i hi k (hk i hi)];rfl
 br hb k hk:=by
  cases k with
  |zero=>exact hk.elim
  |succ k =>
   show (!((v.f 0).n==7) && !((v.f 3).l.any fun x => !bareR k x))=true
   rw [zIq fun i hi=>hc.br hb i hi k (hk i hi)]
   have:((v.f 0).n==7)=false:=by simpa using h7 hb
   rw [this];rfl
section
variable {val:PS->PR D} {lv n0:Nat} {vr:Bool} (hv : ∀ y,GT y->y.vr=vr->y.nd<=4096->Hr (fun v z=>Pv y z/\VOk lv vr y.nd v z.nd/\z.nd<=4096) (val y))
include hv
theorem zKV : ∀ (f:Nat) (acc:List D) {x:PS},GT x->x.vr=vr->x.nd<=4096->CH lv vr n0 acc x.nd->Hr (fun l z=>Pv x z/\CH lv vr n0 l z.nd/\z.nd<=4096) (itemsQ val f acc x)
 |0,_,_,_,_,_,_ => .err
 |f+1,acc,x,h,hx,hnd,hc=>by
  unfold itemsQ
  refine .ite (fun _ => .okk ⟨h.pvn,by rw [zF6];exact hc,by rw [zF6];exact hnd⟩) fun _ => .then (hv x h hx hnd) fun a y hy => ?_
  exact (zKV f _ hy.1.gt (hy.1.vr.trans hx) hy.2.2 (hc.snoc hy.2.1)).mono fun l z hz=>⟨hy.1.trans hz.1,hz.2⟩
theorem zIO : ∀ (f:Nat) (ks:List (List UInt8)) (acc:List D) {x:PS},GT x->x.vr=vr->x.nd<=4096->CH lv vr n0 acc x.nd->(∀ k∈ks,nameB ⟨k.toArray⟩=true)->ks.Nodup->ks.length=acc.length ->
 Hr (fun p z=>Pv x z/\CH lv vr n0 p.2 z.nd/\z.nd<=4096/\(∀ k∈p.1,nameB ⟨k.toArray⟩=true)/\p.1.Nodup/\p.1.length=p.2.length) (z7 val f ks acc x)
 |0,_,_,_,_,_,_,_,_,_,_ => .err
 |f+1,ks,acc,x,h,hx,hnd,hc,hk,hd,hl=>by
  unfold z7
  refine .ite (fun _ => .okk ⟨h.pvn,by rw [zF6];exact hc,by rw [zF6];exact hnd,hk,hd,hl⟩) fun _ => .then (zE4 h) fun k y hy => .ite (fun _ => .err) fun hks => .then (zCV hy.2.1.gt) fun _ z hz => ?_
  have hxz:=hy.2.1.trans hz.1
  have hn:z.nd=x.nd:=hz.2.trans hy.2.2
  refine .then (hv z hz.1.gt (hxz.vr.trans hx) (by omega)) fun a u hu => ?_
  rw [hn] at hu
  have hks':k ∉ ks:=fun hm=>hks (List.contains_iff_mem.2 hm)
  refine (zIO f _ _ hu.1.gt ((hxz.trans hu.1).vr.trans hx) hu.2.2 (hc.snoc hu.2.1) (fun q hq => ?_) ?_ (by simp [hl])).mono fun l w hw=>⟨(hxz.trans hu.1).trans hw.1,hw.2⟩
  . rcases List.mem_append.1 hq with hq | hq
    . exact hk q hq
    . rw [List.mem_singleton] at hq;subst hq;exact hy.1
  . rw [List.nodup_append]
    refine ⟨hd,by simp,fun a ha b hb => ?_⟩
    rw [List.mem_singleton] at hb
    subst hb
    exact fun e=>hks' (e ▸ ha)
end
theorem strsR_val (k n:Int) (s:List UInt8) (items:List D) (keys:List (List UInt8)):strsR (valD k n s items keys)=keys:=by
 show (keys.map strD).map (fun x=>x.s.data.toList)=keys
 rw [List.map_map]
 exact (List.map_congr_left fun x _=>rfl).trans (List.map_id keys)
theorem keys_names {keys:List (List UInt8)} (h : ∀ k∈keys,nameB ⟨k.toArray⟩=true):((keys.map strD).any fun x => !nameB x.s)=false:=by
 rw [Bool.eq_false_iff]
 intro hc
 obtain ⟨x,hx,hp⟩:=List.any_eq_true.1 hc
 obtain ⟨k,hk,rfl⟩:=List.mem_map.1 hx
 rw [show nameB (strD k).s=true from h k hk] at hp
 cases hp
theorem word_node {s:List UInt8} (h:nameB ⟨s.toArray⟩=true):nodeL (zB6 s)=true/\((zB6 s).f 3).l=[]/\((zB6 s).f 0).n≠7:=by
 unfold zB6 zA5
 split
 . exact ⟨by decide,rfl,by decide⟩
 . split
   . exact ⟨by decide,rfl,by decide⟩
   . split
     . exact ⟨by decide,rfl,by decide⟩
     . rename_i h1 h2 h3
       refine ⟨?_,rfl,by show (4:Int)≠7;decide⟩
       rw [<- zDu]
       have e:zGv (valD 4 0 s [] [])=zJU ⟨s.toArray⟩:=by
        unfold zGv zGu
        show (if (4:Int)=0 then _ else if (4:Int)=1 then _ else if (4:Int)=2 then _ else if (4:Int)=3 then _ else if (4:Int)=4 then ((0:Int)==0&&(0:Nat)==0&&(0:Nat)==0&&zJU ⟨s.toArray⟩) else _)=_
        simp
       rw [e]
       unfold zJU
       rw [h]
       have a1:(((⟨s.toArray⟩:ByteArray).data.toList)==[116,114,117,101])=false:=by simpa using h1
       have a2:(((⟨s.toArray⟩:ByteArray).data.toList)==[102,97,108,115,101])=false:=by simpa using h2
       have a3:(((⟨s.toArray⟩:ByteArray).data.toList)==[110,117,108,108])=false:=by simpa using h3
       rw [a1,a2,a3]
       rfl
theorem zJn : ∀ (f lv:Nat) {x:PS},GT x->x.nd<=4096->Hr (fun v z=>Pv x z/\VOk lv x.vr x.nd v z.nd/\z.nd<=4096) (valueQ f lv x)
 |0,_,_,_,_ => .err
 |f+1,lv,x,h,hnd=>by
  have ih : ∀ y,GT y->y.vr=x.vr->y.nd<=4096->Hr (fun v z=>Pv y z/\VOk (lv+1) x.vr y.nd v z.nd/\z.nd<=4096) (valueQ f (lv+1) y):=fun y hy hvr hn=>by rw [<- hvr];exact zJn f (lv+1) hy hn
  have hy:GT { nxT x with nd:=x.nd+1 }:=h.nx
  have pvy:Pv x { nxT x with nd:=x.nd+1 }:=⟨h.nx,zE1 x⟩
  unfold valueQ
  refine .ite (fun _ => .err) fun hno => .ite (fun _ => .err) fun hlv => .ite (fun _ => .err) fun hn => ?_
  dsimp only
  refine .ite (fun _ => .okk ⟨pvy,?_,?_⟩) fun k3 => .ite (fun _ => .okk ⟨pvy,?_,?_⟩) fun k4 => .ite (fun hk => .okk ⟨pvy,?_,?_⟩) fun k2 => .ite (fun hd => .then (zE4 hy) fun n z hz => .okk ⟨pvy.trans hz.2.1,?_,?_⟩) fun _ =>
   .ite (fun _ => .then (zKV ih _ [] hy (zE1 x) (by show x.nd+1<=4096;omega) CH.nil) fun l z hz => .okk ⟨pvy.trans hz.1,?_,hz.2.2⟩) fun _ =>
   .then (zIO ih _ [] [] hy (zE1 x) (by show x.nd+1<=4096;omega) CH.nil (fun k hk=>by cases hk) List.nodup_nil rfl) fun p z hz => .okk ⟨pvy.trans hz.1,?_,hz.2.2.1⟩
  . refine zC0 ?_ (fun _=>by show (2:Int)≠7;decide) (by omega) CH.nil
    rw [<- zDu];simp [zGv,zGu,valD,strD,D.f,gD,D.n,D.s,D.l]
  . show x.nd+1<=4096;omega
  . refine zC0 ?_ (fun _=>by show (3:Int)≠7;decide) (by omega) CH.nil
    rw [<- zDu];simp [zGv,zGu,valD,strD,D.f,gD,D.n,D.s,D.l]
  . show x.nd+1<=4096;omega
  . have hw:=word_node (h.hd.1 hk)
    exact zC0 hw.1 (fun _=>hw.2.2) (by omega) (by rw [hw.2.1];exact CH.nil)
  . show x.nd+1<=4096;omega
  . have hkd:=h.hd.2
    have hk1:(hdT x).k=1:=by
     have h5:(hdT x).k≠5:=fun e=>hno (by unfold zBQ;simp [e])
     omega
    have hvr:x.vr=true:=by
     cases hvx:x.vr with
     |true=>rfl
     |false =>
      exfalso
      refine hno ?_
      unfold zBQ isS
      rw [hk1,hd,hvx]
      rfl
    rw [show z.nd=x.nd+1 from hz.2.2]
    refine zC0 ?_ (fun hb=>by rw [hvr] at hb;cases hb) (by omega) CH.nil
    rw [<- zDu]
    have:nameB (strD n).s=true:=hz.1
    have this2:nameB ⟨n.toArray⟩=true:=hz.1
    simp [zGv,zGu,valD,strD,D.f,gD,D.n,D.s,D.l,this2]
  . rw [show z.nd=x.nd+1 from hz.2.2];omega
  . refine zC0 ?_ (fun _=>by show (5:Int)≠7;decide) (by omega) hz.2.1
    rw [<- zDu];simp [zGv,zGu,valD,strD,D.f,gD,D.n,D.s,D.l]
  . refine zC0 ?_ (fun _=>by show (6:Int)≠7;decide) (by omega) hz.2.1
    obtain ⟨-,-,-,q1,q2,q3⟩:=hz
    rw [<- zDu]
    have e1:zGv (valD 6 0 [] p.2 p.1)=true:=by
     unfold zGv zGu
     rw [strsR_val]
     show (if (6:Int)=0 then _ else if (6:Int)=1 then _ else if (6:Int)=2 then _ else if (6:Int)=3 then _ else if (6:Int)=4 then _ else if (6:Int)=5 then _ else if (6:Int)=6 then ((0:Int)==0&&((strD []).s.data.toList==[])&&(p.1.map strD).length==p.2.length&&decide p.1.Nodup) else _)=true
     simp [q2,q3,strD,D.s]
    rw [e1,Bool.true_and]
    show (!((p.1.map strD).any fun x => !nameB x.s))=true
    rw [keys_names q1];rfl
theorem zJi {x:PS} (h:GT x):Hr (fun v z=>Pv x z/\litR v=true/\(x.vr=false->bareR (bulkD v) v=true)) (zAQ x):=by
 have h0:GT { x with nd:=0 }:=h
 refine (zJn 25 1 h0 (Nat.zero_le _)).mono fun v z hz=>⟨⟨hz.1.gt,hz.1.vr⟩,?_,fun hb=>hz.2.1.br hb _ (zCn _ _ (Nat.le_refl _))⟩
 have hd:=zCn (bulkD v) v (Nat.le_refl _)
 have h1:=hz.2.1.sz _ hd
 have h2:=hz.2.1.dp _ hd
 have h3:=hz.2.1.ev _ hd
 have h1:sizeR (bulkD v) v+0=z.nd:=h1
 unfold litR
 rw [h3,decide_eq_true (show sizeR (bulkD v) v<=4096 by have:=hz.2.2;omega),decide_eq_true (show depthR (bulkD v) v<=24 by omega)]
 rfl
def Al (p:D->Bool) (l:List D):Prop:=∀ i,i<l.length->p (gD l i)=true
theorem Al.nil {p:D->Bool}:Al p []:=fun i hi=>absurd hi (Nat.not_lt_zero i)
theorem Al.snoc {p:D->Bool} {l:List D} {v:D} (h:Al p l) (hv:p v=true):Al p (l++[v]):=zGe (p:=fun d=>p d=true) h hv
theorem hd_k2 {x:PS} {s:List UInt8} {n:List UInt8} {z:PS} (h:nameQ x = .ok (n,z)):(hdT x).k=2:=by
 unfold nameQ at h
 split at h
 . assumption
 . cases h
theorem Hr.name {β:Type} {R:β->PS->Prop} {x:PS} {f:List UInt8->PS->PR β} (h:GT x) (hf : ∀ n z,(hdT x).k=2->nameB ⟨n.toArray⟩=true->Pv x z->Hr R (f n z)):Hr R (zY (nameQ x) f):=by
 by_cases hk:(hdT x).k=2
 . exact .then (zE4 h) fun n z hz=>hf n z hk hz.1 hz.2.1
 . unfold nameQ
   rw [if_neg hk]
   exact .err
theorem let_B : ∀ c:UInt8,letU c=true->digB (c.toNat:Int)=false/\letB (c.toNat:Int)=true:=fun c =>
 zGP (p:=fun c=>letU c=true->digB (c.toNat:Int)=false/\letB (c.toNat:Int)=true) (by decide +kernel) c
theorem wrd_B : ∀ c:UInt8,wrdU c=true->(letB (c.toNat:Int)||digB (c.toNat:Int))=true:=fun c =>
 zGP (p:=fun c=>wrdU c=true->(letB (c.toNat:Int)||digB (c.toNat:Int))=true) (by decide +kernel) c
theorem name_tok {c:UInt8} {q:List UInt8} (hc:letU c=true) (hq:q.all wrdU=true) (hl:q.length<64):nameB ⟨(c::q).toArray⟩=true:=by
 refine zIF (s:=⟨(c::q).toArray⟩) (by simp [ByteArray.size]) (by simp [ByteArray.size];omega) (let_B c hc).1 fun i hi => ?_
 have hi:i<(c::q).length:=by simpa [ByteArray.size] using hi
 show (letB ((((c::q).getD i 0).toNat:Nat):Int)||digB ((((c::q).getD i 0).toNat:Nat):Int))=true
 refine wrd_B _ ?_
 cases i with
 |zero=>show wrdU c=true;unfold wrdU;rw [hc];rfl
 |succ i =>
  rw [List.getD_cons_succ,List.getD_eq_getElem?_getD,List.getElem?_eq_getElem (by simpa using hi)]
  exact List.all_eq_true.1 hq _ (List.getElem_mem _)
theorem readU_name {l:List UInt8} {s:List UInt8} {n:Nat} (h:readU l = .ok (2,s,n)):nameB ⟨s.toArray⟩=true:=by
 unfold readU at h
 split at h
 . cases h
 . rename_i c r
   have hs:=zEt (p:=wrdU) r
   split at h
   . cases h
   split at h
   . split at h
     . cases h
     . cases h
   split at h
   . split at h
     . cases h
     . cases h
   split at h
   . rename_i hl
     split at h
     . cases h
     . cases h
       exact name_tok hl hs.1 (by rw [hs.2];omega)
   split at h
   . split at h
     . cases h
     . split at h
       . cases h
       . cases h
   . cases h
theorem zJ8 : ∀ (f:Nat) (l:List UInt8) (i:Nat) (ts:List Tok),scanF f l i = .ok ts -> ∀ t∈ts,(t.k=2->nameB ⟨t.s.toArray⟩=true)/\1<=t.k/\t.k<=5
 |0,_,_,_,h=>by cases h
 |f+1,l,i,ts,h=>by
  unfold scanF at h
  split at h
  . cases h
    intro t ht
    rw [List.mem_singleton] at ht
    subst ht
    exact ⟨fun h=>absurd (show (5:Int)=2 from h) (by decide),show (1:Int)<=5 by decide,show (5:Int)<=5 by decide⟩
  . split at h
    . cases h
    . rename_i t n ht
      have hu:=zER ht
      have hle:=zCF hu.1
      split at h
      . cases h
      . rename_i ts' hts
        cases h
        intro u hu'
        rcases List.mem_cons.1 hu' with rfl | hu'
        . refine ⟨fun hk => ?_,hle.2.2.1,by omega⟩
          have h1:=hu.1
          rw [hk] at h1
          exact readU_name h1
        . exact zJ8 f _ _ _ hts u hu'
end
section
theorem zFZ {p:D->Bool} {l:List D} (h:Al p l):l.all p=true:=by
 rw [List.all_eq_true]
 intro x hx
 obtain ⟨i,hi,rfl⟩:=List.getElem_of_mem hx
 rw [<- zB2 hi];exact h i hi
theorem zE5 {el:PS->PR D} {p:D->Bool} (he : ∀ {y:PS},GT y->y.vr=false->Hr (fun d z=>Pv y z/\p d=true) (el y)) (hk : ∀ y d z,el y = .ok (d,z)->(hdT y).k=2) (e:List UInt8) (most:Nat) : ∀ (f:Nat) (acc:List D) {x:PS},GT x->x.vr=false->Al p acc->acc.length<=most->Hr (fun l z=>Pv x z/\Al p l/\1<=l.length/\l.length<=most) (manyF el e most f acc x)
 |0,_,_,_,_,_,_ => .err
 |f+1,acc,x,h,hv,ha,hl=>by
  unfold manyF
  refine .ite (fun hE => .okk ⟨h.pvn,ha,by have:=hE.1;omega,hl⟩) fun _ => .ite (fun _ => .err) fun hlim => ?_
  by_cases hk2:(hdT x).k=2
  . refine .then (he h hv) fun d y hy => ?_
    have hl2:acc.length<most:=Nat.lt_of_not_le fun h16=>hlim ⟨hk2,h16⟩
    exact (zE5 he hk e most f _ hy.1.gt (hy.1.vr.trans hv) (ha.snoc hy.2) (by simp;omega)).mono fun l w hw=>⟨hy.1.trans hw.1,hw.2⟩
  . intro l z hq
    cases hx:el x with
    |error q=>rw [hx] at hq;cases hq
    |ok q=>obtain ⟨d,y⟩:=q;exact (hk2 (hk x d y hx)).elim
theorem zET {α:Type} {f:List UInt8->PS->PR α} {y:PS} {d:α} {z:PS} (h:zY (nameQ y) f = .ok (d,z)):(hdT y).k=2:=by
 cases hx:nameQ y with
 |error q=>rw [hx] at h;cases h
 |ok q=>obtain ⟨n,w⟩:=q;exact hd_k2 (s:=[]) hx
theorem arg_rty {x:PS} (h:GT x) (hv:x.vr=false):Hr (fun d z=>Pv x z/\argY litR d=true) (argQ x):=by
 unfold argQ
 refine .name h fun n y hk hn hy => .then (zCV hy.gt) fun _ z hz => .then (zJi hz.1.gt) fun v u hu => .okk ⟨(hy.trans hz.1).trans hu.1,?_⟩
 show (nameB ⟨n.toArray⟩&&(litR v&&bareR (bulkD v) v))=true
 rw [hn,hu.2.1,hu.2.2 (hz.1.vr.trans (hy.vr.trans hv))];rfl
theorem args_rty {x:PS} (h:GT x) (hv:x.vr=false):Hr (fun l z=>Pv x z/\zIp litR l=true) (zBe x):=by
 unfold zBe
 refine .ite (fun _ => ?_) fun _ => .okk ⟨h.pv,rfl⟩
 rw [zCN]
 refine (zE5 (fun h hv=>arg_rty h hv) (fun y d z hq=>zET hq) _ _ _ [] h.nx ((zE1 x).trans hv) Al.nil (by decide)).mono fun l z hz=>⟨h.pvn.trans hz.1,?_⟩
 unfold zIp
 rw [zFZ hz.2.1,decide_eq_true hz.2.2.2];rfl
theorem zIc : ∀ (f:Nat) (acc:List D) {x:PS},GT x->x.vr=false->Al (dirY litR) acc->acc.length<=16->Hr (fun l z=>Pv x z/\Al (dirY litR) l/\l.length<=16) (dirsF f acc x)
 |0,_,_,_,_,_,_ => .err
 |f+1,acc,x,h,hv,ha,hl=>by
  unfold dirsF
  refine .ite (fun _ => .ite (fun _ => .err) fun hlim => .then (zE4 h.nx) fun n y hy => .then (args_rty hy.2.1.gt (hy.2.1.vr.trans ((zE1 x).trans hv))) fun aa z hz => ?_) fun _ => .okk ⟨h.pv,ha,hl⟩
  have hd:dirY litR (dirD n aa)=true:=by
   show (nameB ⟨n.toArray⟩&&zIp litR aa)=true
   rw [hy.1,hz.2];rfl
  exact (zIc f _ hz.1.gt (hz.1.vr.trans (hy.2.1.vr.trans ((zE1 x).trans hv))) (ha.snoc hd) (by simp;omega)).mono fun l w hw=>⟨((h.pvn.trans hy.2.1).trans hz.1).trans hw.1,hw.2⟩
theorem zEa {x:PS} (h:GT x) (hv:x.vr=false):Hr (fun l z=>Pv x z/\dirsY litR l=true) (zAS x):=by
 refine (zIc _ [] h hv Al.nil (by decide)).mono fun l z hz=>⟨hz.1,?_⟩
 unfold dirsY
 rw [zFZ hz.2.1,decide_eq_true hz.2.2];rfl
theorem null_valY:valY litR zA5=true:=by kernel_rfl
theorem in_rty {x:PS} (h:GT x) (hv:x.vr=false):Hr (fun d z=>Pv x z/\inY litR d=true) (inQ x):=by
 unfold inQ
 refine .name h fun n y hk hn hy => .then (zCV hy.gt) fun _ z hz => .then (typ_rt hz.1.gt) fun t u hu => ?_
 have hvu:u.vr=false:=hu.2.vr.trans (hz.1.vr.trans (hy.vr.trans hv))
 refine .then (Q:=fun d o=>Pv u o/\valY litR d.2=true/\(d.1=true\/(d.2.f 0).n=0)) (.ite (fun _ => .then (zJi hu.2.gt.nx) fun v o ho => .okk ⟨hu.2.gt.pvn.trans ho.1,?_,.inl rfl⟩) fun _ => .okk ⟨hu.2.gt.pv,null_valY,.inr rfl⟩) fun d o ho => .then (zEa ho.1.gt (ho.1.vr.trans hvu)) fun ds w hw => .okk ⟨(((hy.trans hz.1).trans hu.2).trans ho.1).trans hw.1,?_⟩
 . show (litR v&&bareR (bulkD v) v)=true
   rw [ho.2.1,ho.2.2 ((zE1 u).trans hvu)];rfl
 . show (nameB ⟨n.toArray⟩&&refR t&&dirsY litR ds&&valY litR d.2&&(d.1||(d.2.f 0).n==0))=true
   rw [hn,hu.1,hw.2,ho.2.1]
   rcases ho.2.2 with h1 | h1
   . rw [h1];rfl
   . rw [h1];simp
theorem ins_rty (e:List UInt8) {x:PS} (h:GT x) (hv:x.vr=false):Hr (fun l z=>Pv x z/\insY litR l=true/\1<=l.length) (insQ e x):=
 (zE5 (fun h hv=>in_rty h hv) (fun y d z hq=>zET hq) _ _ _ [] h hv Al.nil (by decide)).mono fun l z hz=>⟨hz.1,by unfold insY;rw [zFZ hz.2.1,decide_eq_true hz.2.2.2];rfl,hz.2.2.1⟩
theorem fd_rty {x:PS} (h:GT x) (hv:x.vr=false):Hr (fun d z=>Pv x z/\fdY litR d=true) (fdQ x):=by
 unfold fdQ
 refine .name h fun n y hk hn hy => ?_
 refine .then (Q:=fun aa z=>Pv y z/\insY litR aa=true) (.ite (fun _=>(ins_rty _ hy.gt.nx ((zE1 y).trans (hy.vr.trans hv))).mono fun l z hz=>⟨hy.gt.pvn.trans hz.1,hz.2.1⟩) fun _ => .okk ⟨hy.gt.pv,rfl⟩) fun aa z hz => .then (zCV hz.1.gt) fun _ u hu => .then (typ_rt hu.1.gt) fun t v hv' => .then (zEa hv'.2.gt (hv'.2.vr.trans (hu.1.vr.trans (hz.1.vr.trans (hy.vr.trans hv))))) fun ds w hw => .okk ⟨(((hy.trans hz.1).trans hu.1).trans hv'.2).trans hw.1,?_⟩
 show (nameB ⟨n.toArray⟩&&insY litR aa&&refR t&&dirsY litR ds)=true
 rw [hn,hz.2,hv'.1,hw.2];rfl
theorem mb_rty {x:PS} (h:GT x) (hv:x.vr=false):Hr (fun d z=>Pv x z/\mbY litR false d=true) (mbQ x):=by
 unfold mbQ
 refine .name h fun n y hk hn hy => .then (zEa hy.gt (hy.vr.trans hv)) fun ds w hw => .okk ⟨hy.trans hw.1,?_⟩
 show (nameB ⟨n.toArray⟩&&dirsY litR ds&&(!false||_))=true
 rw [hn,hw.2];rfl
def nmY (d:D):Bool:=nameB d.s
theorem zF8 (s:List UInt8) : ∀ (f:Nat) (acc:List D) {x:PS},GT x->Al nmY acc->acc.length<=64->Hr (fun l z=>Pv x z/\Al nmY l/\1<=l.length/\l.length<=64) (namesF s f acc x)
 |0,_,_,_,_,_ => .err
 |f+1,acc,x,h,ha,hl=>by
  unfold namesF
  refine .ite (fun _ => .err) fun hlim => .name h fun n y hk hn hy => ?_
  have hl2:acc.length<64:=Nat.lt_of_not_le fun h16=>hlim ⟨hk,h16⟩
  have hd:nmY (strD n)=true:=hn
  exact .ite (fun _=>(zF8 s f _ hy.gt.nx (ha.snoc hd) (by simp;omega)).mono fun l z hz=>⟨hy.nx.trans hz.1,hz.2⟩) fun _ => .okk ⟨hy,ha.snoc hd,by simp,by simp;omega⟩
theorem zH8 (s:List UInt8) {x:PS} (h:GT x):Hr (fun l z=>Pv x z/\imY l=true/\1<=l.length) (zA7 s x):=
 (zF8 s _ [] h Al.nil (by decide)).mono fun l z hz=>⟨hz.1,by unfold imY;rw [decide_eq_true hz.2.2.2,show (l.all fun x=>nameB x.s)=true from zFZ hz.2.1];rfl,hz.2.2.1⟩
theorem faces_rty (k:Int) {x:PS} (h:GT x):Hr (fun l z=>Pv x z/\imY l=true/\(l.length=0\/k=1)) (zAs k x):=by
 unfold zAs
 exact .ite (fun hk=>(zH8 _ h.nx).mono fun l z hz=>⟨h.pvn.trans hz.1,hz.2.1,.inr hk.1⟩) fun _ => .okk ⟨h.pv,rfl,.inl rfl⟩
theorem zIG {l:List D} (h:imY l=true):mbsY litR true (l.map mbOf)=true:=by
 unfold imY at h
 unfold mbsY
 rw [Bool.and_eq_true] at h |-
 refine ⟨by rw [List.length_map];exact h.1,?_⟩
 rw [List.all_map,List.all_eq_true]
 intro x hx
 have h1:nameB x.s=true:=List.all_eq_true.1 h.2 x hx
 show (nameB x.s&&dirsY litR []&&(!true||decide (([]:List D).length=0)))=true
 rw [h1];rfl
def bodY (k:Int) (b:List D × List D × List D):Prop:=
 fdsY litR b.1=true/\mbsY litR (k==3) b.2.1=true/\insY litR b.2.2=true/\((k=1\/k=2) ↔ 0<b.1.length)/\((k=3\/k=4) ↔ 0<b.2.1.length)/\(k=5 ↔ 0<b.2.2.length)
theorem body_rty {k:Int} (hk:1<=k/\k<=5) {x:PS} (h:GT x) (hv:x.vr=false):Hr (fun b z=>Pv x z/\bodY k b) (zBb k x):=by
 unfold zBb
 refine .ite (fun k3 => .then (zCV h) fun _ y hy => .then (zH8 _ hy.1.gt) fun l z hz => .okk ⟨hy.1.trans hz.1,?_⟩) fun k3 => .then (zCV h) fun _ y hy => ?_
 . subst k3
   refine ⟨rfl,zIG hz.2.1,rfl,by simp,?_,by simp⟩
   have:=hz.2.2
   simp only [List.length_map]
   exact ⟨fun _=>by omega,fun _ => .inl trivial⟩
 have hvy:y.vr=false:=hy.1.vr.trans hv
 refine .ite (fun k5 => .then (ins_rty _ hy.1.gt hvy) fun l z hz => .okk ⟨hy.1.trans hz.1,?_⟩) fun k5 => .ite (fun k4 => .then (Q:=fun l z=>Pv y z/\mbsY litR false l=true/\1<=l.length) ?_ fun l z hz => .okk ⟨hy.1.trans hz.1,?_⟩) fun k4 => .then (Q:=fun l z=>Pv y z/\fdsY litR l=true/\1<=l.length) ?_ fun l z hz => .okk ⟨hy.1.trans hz.1,?_⟩
 . subst k5
   have:=hz.2.2
   exact ⟨rfl,rfl,hz.2.1,by simp,by simp,⟨fun _=>by show 0<l.length;omega,fun _=>rfl⟩⟩
 . exact (zE5 (fun h hv=>mb_rty h hv) (fun y d z hq=>zET hq) _ _ _ [] hy.1.gt hvy Al.nil (by decide)).mono fun l z hz=>⟨hz.1,by unfold mbsY;rw [zFZ hz.2.1,decide_eq_true hz.2.2.2];rfl,hz.2.2.1⟩
 . subst k4
   have:=hz.2.2
   exact ⟨rfl,hz.2.1,rfl,by simp,⟨fun _=>by show 0<l.length;omega,fun _ => .inr rfl⟩,by simp⟩
 . exact (zE5 (fun h hv=>fd_rty h hv) (fun y d z hq=>zET hq) _ _ _ [] hy.1.gt hvy Al.nil (by decide)).mono fun l z hz=>⟨hz.1,by unfold fdsY;rw [zFZ hz.2.1,decide_eq_true hz.2.2.2];rfl,hz.2.2.1⟩
 . have:=hz.2.2
   have e3:(k==3)=false:=by simpa using k3
   refine ⟨hz.2.1,by rw [e3];rfl,rfl,⟨fun _=>by show 0<l.length;omega,fun _=>by omega⟩,?_,?_⟩
   . simp;omega
   . simp;exact k5
theorem sdef_rty {k:Int} (hk:1<=k/\k<=5) {x:PS} (h:GT x) (hv:x.vr=false):Hr (fun d z=>Pv x z/\defY litR d=true) (zBf k x):=by
 unfold zBf
 refine .name h fun n y _ hn hy => .then (faces_rty k hy.gt) fun im z hz => .then (zEa hz.1.gt (hz.1.vr.trans (hy.vr.trans hv))) fun ds u hu => .then (body_rty hk hu.1.gt (hu.1.vr.trans (hz.1.vr.trans (hy.vr.trans hv)))) fun b w hw => .okk ⟨((hy.trans hz.1).trans hu.1).trans hw.1,?_⟩
 obtain ⟨b1,b2,b3,b4,b5,b6⟩:=hw.2
 show (kindY k b.1.length b.2.1.length b.2.2.length im.length&&nameB ⟨n.toArray⟩&&dirsY litR ds&&imY im&&fdsY litR b.1&&mbsY litR (k==3) b.2.1&&insY litR b.2.2)=true
 have hky:kindY k b.1.length b.2.1.length b.2.2.length im.length=true:=by
  unfold kindY
  simp only [Bool.and_eq_true,decide_eq_true_eq,Bool.or_eq_true,beq_iff_eq]
  refine ⟨⟨⟨⟨hk,hz.2.2⟩,?_⟩,?_⟩,?_⟩
  . rw [Bool.eq_iff_iff];simpa using b4
  . rw [Bool.eq_iff_iff];simpa using b5
  . rw [Bool.eq_iff_iff];simpa using b6
 rw [hky,hn,hu.2,hz.2.1,b1,b2,b3];rfl
theorem zHn : ∀ (f:Nat) (acc:List D) {x:PS},GT x->x.vr=false->Al (defY litR) acc->acc.length<=64->Hr (fun l _=>Al (defY litR) l/\1<=l.length/\l.length<=64) (sdocF f acc x)
 |0,_,_,_,_,_,_ => .err
 |f+1,acc,x,h,hv,ha,hl=>by
  unfold sdocF
  refine .ite (fun hE => .okk ⟨ha,by have:=hE.1;omega,hl⟩) fun _ => .ite (fun _ => .err) fun hw => .ite (fun _ => .err) fun hlim => ?_
  have hk:0<kindS (hdT x).s:=by
   by_cases h2:0<kindS (hdT x).s
   . exact h2
   . exact (hw fun hh=>h2 hh.2).elim
  have hk5:=(zEW (hdT x).s).2
  refine .then (sdef_rty ⟨by omega,hk5⟩ h.nx ((zE1 x).trans hv)) fun d y hy => ?_
  exact zHn f _ hy.1.gt (hy.1.vr.trans ((zE1 x).trans hv)) (ha.snoc hy.2) (by simp;omega)
theorem zH0 {l:List UInt8} {q:D} (h:parseD l = .ok q) : ∃ ds,q=zDL ds/\docY litR ds=true:=by
 unfold parseD at h
 split at h
 . cases h
 . rename_i ts hs
   split at h
   . cases h
   . rename_i p z hd
     cases h
     have hg:GT ⟨ts,false,0⟩:=by
      unfold zAp at hs
      split at hs
      . cases hs
      . exact zJ8 _ _ _ _ hs
     obtain ⟨h1,h2,h3⟩:=zHn _ [] hg rfl Al.nil (by decide) _ _ hd
     refine ⟨p,rfl,?_⟩
     unfold docY
     rw [zFZ h1,decide_eq_true ⟨h2,h3⟩];rfl
end
section
open Go.RowKit
set_option linter.unusedSectionVars false
def dfs6:Except (Nat × Int) D->List D
 |.ok q=>(q.f 0).l
 |.error _=>[]
def at6:Except (Nat × Int) D->Nat
 |.ok _=>0
 |.error x=>x.1
def er6:Except (Nat × Int) D->Int
 |.ok _=>0
 |.error x=>x.2
theorem parse6_ac (s:List UInt8) (hs:s.length<=4000000000):AC EN5 Tryz.prog 10 [.c (.string (bs s))] (.tup [.agg [.sl 45 (dfs6 (parseD s))],.c (.int .i64 (at6 (parseD s):Int)),.c (.int .i64 (er6 (parseD s)))]):=by
 refine (zEy s hs).res ?_
 cases parseD s with
 |ok q=>exact .refl _
 |error x=>exact .tup (.cons (.agg (.cons (.nil _) .nil)) (.cons (.refl _) (.cons (.refl _) .nil)))
theorem zGJ:Tryz.prog.underlying 9=some TypeDesc.string:=by kernel_rfl
attribute [local irreducible] wpList Calls Code.wp AW AWo OpOk seqK zq zu loopK endK AC zf Yld Sub
attribute [local irreducible] ACB ACX ACE absLexG YldG absLexH
section
variable (hEx:AC EN5 Tryz.prog 9 [] (.c (.bool true)))
include hEx
section
variable (s t:List UInt8) (hs:s.length<=4000) (ht:t.length<=4000)
include hs ht
end
end
end
section
open Go.RowKit
set_option linter.unusedSectionVars false
theorem any_no {p:D->Bool} {l:List D} (h : ∀ m,m<l.length->p (gD l m)=false):l.any p=false:=by
 rw [List.any_eq_false]
 intro x hx
 obtain ⟨i,hi,rfl⟩:=List.getElem_of_mem hx
 rw [<- zB2 hi,h i hi];decide
theorem any_at {p:D->Bool} {l:List D} {i:Nat} (hi:i<l.length) (h:p (gD l i)=true):l.any p=true:=by
 rw [List.any_eq_true]
 exact ⟨_,List.getElem_mem hi,by rw [<- zB2 hi];exact h⟩
theorem zDP {p:D->Bool} {l:List D} (h : ∀ m,m<l.length->p (gD l m)=true):l.all p=true:=by
 rw [List.all_eq_true]
 intro x hx
 obtain ⟨i,hi,rfl⟩:=List.getElem_of_mem hx
 rw [<- zB2 hi];exact h i hi
theorem zFY {p:D->Bool} {l:List D} {i:Nat} (hi:i<l.length) (h:p (gD l i)=false):l.all p=false:=by
 rw [List.all_eq_false]
 exact ⟨_,List.getElem_mem hi,by rw [<- zB2 hi,h];decide⟩
theorem zFX : ∀ (k k':Nat) (d:D),Dp k d->Dp k' d->bareR k d=bareR k' d
 |0,_,_,h,_=>h.elim
 |_+1,0,_,_,h=>h.elim
 |k+1,k'+1,d,h,h'=>by
  unfold bareR
  congr 2
  by_cases hx : ∃ i,i<(d.f 3).l.length/\bareR k (gD (d.f 3).l i)=false
  . obtain ⟨i,hi,hb⟩:=hx
    rw [any_at (p:=fun x => !bareR k x) hi (by rw [hb];rfl),any_at (p:=fun x => !bareR k' x) hi (by rw [<- zFX k k' _ (h i hi) (h' i hi),hb];rfl)]
  . have hb : ∀ i,i<(d.f 3).l.length->bareR k (gD (d.f 3).l i)=true:=fun i hi=>by
     cases hq:bareR k (gD (d.f 3).l i) with
     |true=>rfl
     |false=>exact (hx ⟨i,hi,hq⟩).elim
    rw [any_no (p:=fun x => !bareR k x) fun i hi=>by rw [hb i hi];rfl,any_no (p:=fun x => !bareR k' x) fun i hi=>by rw [<- zFX k k' _ (h i hi) (h' i hi),hb i hi];rfl]
attribute [local irreducible] wpList Calls Code.wp AW AWo OpOk seqK zq zu loopK endK AC zf Yld Sub
attribute [local irreducible] ACB ACX ACE absLexG YldG absLexH
noncomputable def HvD (d:D) (i:Nat):Vst 18:=stS 18 [(1,.bx 1 0),(6,.sl 53 (d.f 3).l),(7,.c (.int .i64 ((d.f 3).l.length:Int))),(8,.c (.int .i64 (i:Int)))] [(1,.box 53 (cellsV Tryz.prog 12 53 d))]
theorem zD7 : ∀ (k:Nat) (d:D),Dp k d->AC EN5 Tryz.prog 183 [.agg (cellsV Tryz.prog 12 53 d)] (.c (.bool (!bareR k d)))
 |0,_,h=>h.elim
 |k+1,d,h=>by
  refine zDF 2 (by kernel_rfl) fun hL => ?_
  have hl3:(d.f 3).l.length<=9223372036854775807:=(zDx hL).1
  have ih:=fun i (hi:i<(d.f 3).l.length)=>zD7 k (gD (d.f 3).l i) (h i hi)
  refine zP 18 Tryz.func183 rfl rfl rfl rfl ?_
  intro s w he
  repeat' (first
|refine zA ?_
|refine zB ?_
|refine zF ?_
|apply aw_1
 conv=>whnf
 refine ⟨?_,trivial⟩
|apply s_1
 conv=>whnf;arg 1;arg 4;arg 3;whnf
 refine ⟨?_,?_⟩
|apply zAW rfl rfl rfl rfl
 . conv=>lhs;whnf;arg 1;whnf
 . rfl
|exact trivial)
  refine zn (fun j st => ∃ i,i+j=(d.f 3).l.length/\(∀ m,m<i->bareR k (gD (d.f 3).l m)=true)/\Sub (cx EN5 Tryz.prog s w he) st (HvD d i)) (d.f 3).l.length ⟨0,by omega,fun m hm=>absurd hm (Nat.not_lt_zero m),Sub.live ⟨rfl,rfl,rfl,rfl,trivial⟩ ⟨rfl,trivial⟩⟩ ?_
  rintro j st ⟨i,hij,hno,hs2⟩
  refine zg hs2 ?_
  clear hs2
  by_cases hi:i<(d.f 3).l.length
  . have g1:decide ((i:Int)<((d.f 3).l.length:Nat))=true:=decide_eq_true (by omega)
    have ih2:=ih i hi
    cases hb:bareR k (gD (d.f 3).l i) with
    |false =>
     have hr:(!bareR (k+1) d)=true:=by
      unfold bareR
      rw [any_at (p:=fun x => !bareR k x) hi (by rw [hb];rfl)]
      simp
     rw [hr]
     rw [hb] at ih2
     have f3:(!false)=true:=rfl
     repeat' (first
|apply zG
 . conv=>lhs;whnf
 . assumption
|refine zA ?_
|refine zB ?_
|refine zF ?_
|apply aw_1
 conv=>whnf
 refine ⟨?_,trivial⟩
|apply s_1
 conv=>whnf;arg 1;arg 4;arg 3;whnf
 refine ⟨?_,?_⟩
|apply zi rfl
 . conv=>lhs;whnf
 . conv=>lhs;whnf
 . first | exact ih2
|apply zI rfl rfl rfl
 . conv=>lhs;whnf
 . conv=>lhs;whnf;arg 1;whnf
 . conv=>lhs;whnf;arg 1;whnf
 . exact ⟨by kernel_rfl,by kernel_rfl⟩
 . rfl
|refine zQ ?_
|refine zV ?_
|refine zw ?_
|refine zE ?_
|refine ⟨_,by conv=>lhs;whnf;arg 2;whnf,?_⟩;conv=>rhs;whnf
|exact trivial)
     all_goals first
      |exact zU (by omega)
      |exact zAu hi
      |rfl
    |true =>
     rw [hb] at ih2
     have f3:(!true)=false:=rfl
     repeat' (first
|apply zG
 . conv=>lhs;whnf
 . assumption
|apply zD
 . conv=>lhs;whnf
 . assumption
|refine zA ?_
|refine zB ?_
|refine zF ?_
|refine zZ ?_
|apply aw_1
 conv=>whnf
 refine ⟨?_,trivial⟩
|apply s_1
 conv=>whnf;arg 1;arg 4;arg 3;whnf
 refine ⟨?_,?_⟩
|apply zi rfl
 . conv=>lhs;whnf
 . conv=>lhs;whnf
 . first | exact ih2
|apply zI rfl rfl rfl
 . conv=>lhs;whnf
 . conv=>lhs;whnf;arg 1;whnf
 . conv=>lhs;whnf;arg 1;whnf
 . exact ⟨by kernel_rfl,by kernel_rfl⟩
 . rfl
|exact trivial)
     all_goals first
      |exact zU (by omega)
      |exact zAu hi
      |skip
     refine zJ (j':=j-1) (by omega) ⟨i+1,by omega,fun m hm => ?_,Sub.live ⟨rfl,rfl,rfl,rfl,trivial⟩ ⟨rfl,trivial⟩⟩
     by_cases e:m=i
     . subst e;exact hb
     . exact hno m (by omega)
  . have g1:decide ((i:Int)<((d.f 3).l.length:Nat))=false:=decide_eq_false (by omega)
    have hr:(!bareR (k+1) d)=((d.f 0).n==7):=by
     unfold bareR
     rw [any_no (p:=fun x => !bareR k x) fun m hm=>by rw [hno m (by omega)];rfl]
     simp
    rw [hr]
    repeat' (first
|apply zD
 . conv=>lhs;whnf
 . assumption
|refine zA ?_
|refine zB ?_
|refine zF ?_
|apply aw_1
 conv=>whnf
 refine ⟨?_,trivial⟩
|apply s_1
 conv=>whnf;arg 1;arg 4;arg 3;whnf
 refine ⟨?_,?_⟩
|refine zO ?_
|refine zL rfl ?_
|refine zM ?_
|refine zE ?_
|refine ⟨_,by conv=>lhs;whnf;arg 2;whnf,?_⟩;conv=>rhs;whnf
|exact trivial)
    all_goals first
     |rfl
     |skip
section
variable {lit:D->Bool} (hN : ∀ s:ByteArray,AC EN5 Tryz.prog 67 [.c (.string s)] (.c (.bool (nameB s)))) (hL : ∀ d:D,AC EN5 Tryz.prog 182 [.agg (cellsV Tryz.prog 12 53 d)] (.c (.bool (lit d))))
include hL
theorem zDC (d:D):AC EN5 Tryz.prog 131 [.agg (cellsV Tryz.prog 12 53 d)] (.c (.bool (valY lit d))):=by
 have h1:=hL d
 have h2:=zD7 _ d (zCn (bulkD d) d (Nat.le_refl _))
 rw [zFX _ (bulkD d) d (zCn (bulkD d) d (Nat.le_refl _)) (zCn (bulkD d) d (Nat.le_refl _))] at h2
 refine zP 10 Tryz.func131 rfl rfl rfl rfl ?_
 intro s w he
 repeat' (first
|refine zA ?_
|refine zB ?_
|refine zF ?_
|apply aw_1
 conv=>whnf
 refine ⟨?_,trivial⟩
|apply zX rfl rfl
 . conv=>lhs;whnf
 . conv=>lhs;whnf
 . first | exact bT1 ‹_› | exact bT2 ‹_›
|apply zT rfl rfl
 . conv=>lhs;whnf
 . conv=>lhs;whnf
 . first | exact bF1 ‹_› | exact bF2 ‹_›
|apply s_1
 conv=>whnf;arg 1;arg 4;arg 3;whnf
 refine ⟨?_,?_⟩
|apply zi rfl
 . conv=>lhs;whnf
 . conv=>lhs;whnf
 . first | exact h1 | exact h2
|apply zAW rfl rfl rfl rfl
 . conv=>lhs;whnf;arg 1;whnf
 . rfl
|apply zC rfl
 . conv=>lhs;whnf
 . conv=>lhs;whnf
 . first | rfl | assumption
 . conv=>lhs;whnf;arg 2;whnf
|apply zh rfl
 . conv=>lhs;whnf
 . conv=>lhs;whnf
 . first | rfl | assumption
 . conv=>lhs;whnf
 . first | exact h1 | exact h2
|apply zW rfl
 . conv=>lhs;whnf
 . conv=>lhs;whnf
 . first | rfl | assumption
|apply zH rfl
 . conv=>lhs;whnf
 . conv=>lhs;whnf
 . conv=>lhs;whnf;arg 2;whnf
|refine zE ?_
|refine ⟨_,by conv=>lhs;whnf;arg 2;whnf,?_⟩;conv=>rhs;whnf
|exact trivial
|intro hg)
 . rw [valY,bT1 hg,Bool.not_not];rfl
 . rw [valY,bF1 hg];rfl
include hN
noncomputable def HrD (l:List D) (i:Nat):Vst 45:=stS 45 [(0,.sl 108 l),(7,.sl 108 l),(8,.c (.int .i64 (l.length:Int))),(9,.c (.int .i64 (i:Int)))] []
noncomputable def HrA (l:List D) (i k:Nat):Vst 45:=stS 45 [(0,.sl 108 l),(7,.sl 108 l),(8,.c (.int .i64 (l.length:Int))),(9,.c (.int .i64 (i:Int))),(24,.sl 111 ((gD l i).f 1).l),(25,.c (.int .i64 (((gD l i).f 1).l.length:Int))),(26,.c (.int .i64 (k:Int)))] []
theorem zBP (l:List D):AC EN5 Tryz.prog 68 [.sl 108 l] (.c (.bool (dirsY lit l))):=by
 refine zHX 2 fun hL2 => ?_
 have hl:l.length<=9223372036854775807:=hL2.1
 have hla : ∀ i,i<l.length->((gD l i).f 1).l.length<=9223372036854775807:=fun i hi=>len_dir (hL2.2 (by decide +kernel) i hi)
 refine zP 45 Tryz.func68 rfl rfl rfl rfl ?_
 intro s w he
 repeat' (first
|refine zA ?_
|refine zB ?_
|refine zF ?_
|apply aw_1
 conv=>whnf
 refine ⟨?_,trivial⟩
|apply s_1
 conv=>whnf;arg 1;arg 4;arg 3;whnf
 refine ⟨?_,?_⟩
|exact trivial)
 refine zn (fun j st => ∃ i,i+j=l.length/\(∀ m,m<i->dirY lit (gD l m)=true)/\Sub (cx EN5 Tryz.prog s w he) st (HrD l i)) l.length ⟨0,by omega,fun m hm=>absurd hm (Nat.not_lt_zero m),Sub.live ⟨rfl,rfl,rfl,rfl,trivial⟩ trivial⟩ ?_
 rintro j st ⟨i,hij,hno,hs2⟩
 refine zg hs2 ?_
 clear hs2
 by_cases hi:i<l.length
 . have g1:decide ((i:Int)<(l.length:Nat))=true:=decide_eq_true (by omega)
   have ha:=hla i hi
   have hn:=hN ((gD l i).f 0).s
   have hbad:dirY lit (gD l i)=false->dirsY lit l=false:=fun h=>by unfold dirsY;rw [zFY hi h,Bool.and_false]
   cases hnb:nameB ((gD l i).f 0).s with
   |false =>
    rw [hbad (by unfold dirY;rw [hnb];rfl)]
    rw [hnb] at hn
    have K:((!false)==false)=true->False:=by decide
    repeat' (first
|apply zG
 . conv=>lhs;whnf
 . assumption
|refine zA ?_
|refine zB ?_
|refine zF ?_
|apply aw_1
 conv=>whnf
 refine ⟨?_,trivial⟩
|apply s_1
 conv=>whnf;arg 1;arg 4;arg 3;whnf
 refine ⟨?_,?_⟩
|apply zi rfl
 . conv=>lhs;whnf
 . conv=>lhs;whnf
 . first | exact hn
|apply zI rfl rfl rfl
 . conv=>lhs;whnf
 . conv=>lhs;whnf;arg 1;whnf
 . conv=>lhs;whnf;arg 1;whnf
 . exact ⟨by kernel_rfl,by kernel_rfl⟩
 . rfl
|refine zQ ?_
|refine zV ?_
|refine zw ?_
|refine zE ?_
|refine ⟨_,by conv=>lhs;whnf;arg 2;whnf,?_⟩;conv=>rhs;whnf
|exact trivial)
    all_goals first
     |exact zU (by omega)
     |exact zAu hi
     |rfl
     |skip
   |true =>
    rw [hnb] at hn
    have K:((!true)==false)=false->False:=by decide
    by_cases h16:16<((gD l i).f 1).l.length
    . have f4:decide ((((gD l i).f 1).l.length:Int)>16)=true:=decide_eq_true (by omega)
      rw [hbad (by unfold dirY zIp;rw [decide_eq_false (by omega)];simp)]
      repeat' (first
|apply zG
 . conv=>lhs;whnf
 . assumption
|refine zA ?_
|refine zB ?_
|refine zF ?_
|apply aw_1
 conv=>whnf
 refine ⟨?_,trivial⟩
|apply s_1
 conv=>whnf;arg 1;arg 4;arg 3;whnf
 refine ⟨?_,?_⟩
|apply zi rfl
 . conv=>lhs;whnf
 . conv=>lhs;whnf
 . first | exact hn
|apply zI rfl rfl rfl
 . conv=>lhs;whnf
 . conv=>lhs;whnf;arg 1;whnf
 . conv=>lhs;whnf;arg 1;whnf
 . exact ⟨by kernel_rfl,by kernel_rfl⟩
 . rfl
|refine zQ ?_
|refine zV ?_
|refine zw ?_
|refine zE ?_
|refine ⟨_,by conv=>lhs;whnf;arg 2;whnf,?_⟩;conv=>rhs;whnf
|exact trivial)
      all_goals first
       |exact zU (by omega)
       |exact zAu hi
       |rfl
       |skip
    . have f4:decide ((((gD l i).f 1).l.length:Int)>16)=false:=decide_eq_false (by omega)
      repeat' (first
|apply zG
 . conv=>lhs;whnf
 . assumption
|apply zD
 . conv=>lhs;whnf
 . assumption
|refine zA ?_
|refine zB ?_
|refine zF ?_
|apply aw_1
 conv=>whnf
 refine ⟨?_,trivial⟩
|apply s_1
 conv=>whnf;arg 1;arg 4;arg 3;whnf
 refine ⟨?_,?_⟩
|apply zi rfl
 . conv=>lhs;whnf
 . conv=>lhs;whnf
 . first | exact hn
|apply zI rfl rfl rfl
 . conv=>lhs;whnf
 . conv=>lhs;whnf;arg 1;whnf
 . conv=>lhs;whnf;arg 1;whnf
 . exact ⟨by kernel_rfl,by kernel_rfl⟩
 . rfl
|exact trivial)
      all_goals first
       |exact zU (by omega)
       |exact zAu hi
       |skip
      refine zn (fun j st => ∃ k,k+j=((gD l i).f 1).l.length/\(∀ m,m<k->argY lit (gD ((gD l i).f 1).l m)=true)/\Sub (cx EN5 Tryz.prog s w he) st (HrA l i k)) ((gD l i).f 1).l.length ⟨0,by omega,fun m hm=>absurd hm (Nat.not_lt_zero m),Sub.live ⟨rfl,rfl,rfl,rfl,rfl,rfl,rfl,trivial⟩ trivial⟩ ?_
      rintro j2 st2 ⟨k,hkj,hno2,hs3⟩
      refine zg hs3 ?_
      clear hs3
      by_cases hk:k<((gD l i).f 1).l.length
      . have g2:decide ((k:Int)<(((gD l i).f 1).l.length:Nat))=true:=decide_eq_true (by omega)
        have hn2:=hN ((gD ((gD l i).f 1).l k).f 0).s
        have hv2:=zDC hL ((gD ((gD l i).f 1).l k).f 1)
        have hbad2:argY lit (gD ((gD l i).f 1).l k)=false->dirsY lit l=false:=fun h=>hbad (by unfold dirY zIp;rw [zFY hk h];simp)
        cases hnb2:nameB ((gD ((gD l i).f 1).l k).f 0).s with
        |false =>
         rw [hbad2 (by unfold argY;rw [hnb2];rfl)]
         rw [hnb2] at hn2
         have K3:((!false)==false)=true->False:=by decide
         repeat' (first
|apply zG
 . conv=>lhs;whnf
 . assumption
|refine zA ?_
|refine zB ?_
|refine zF ?_
|apply aw_1
 conv=>whnf
 refine ⟨?_,trivial⟩
|apply s_1
 conv=>whnf;arg 1;arg 4;arg 3;whnf
 refine ⟨?_,?_⟩
|apply zi rfl
 . conv=>lhs;whnf
 . conv=>lhs;whnf
 . first | exact hn2
|apply zI rfl rfl rfl
 . conv=>lhs;whnf
 . conv=>lhs;whnf;arg 1;whnf
 . conv=>lhs;whnf;arg 1;whnf
 . exact ⟨by kernel_rfl,by kernel_rfl⟩
 . rfl
|refine zQ ?_
|refine zV ?_
|refine zw ?_
|refine zE ?_
|refine ⟨_,by conv=>lhs;whnf;arg 2;whnf,?_⟩;conv=>rhs;whnf
|exact trivial)
         all_goals first
          |exact zU (by omega)
          |exact zAu hk
          |rfl
          |skip
        |true =>
         rw [hnb2] at hn2
         cases hvb:valY lit ((gD ((gD l i).f 1).l k).f 1) with
         |false =>
          rw [hbad2 (by unfold argY;rw [hnb2,hvb];rfl)]
          rw [hvb] at hv2
          have f5:(!false)=true:=rfl
          repeat' (first
|apply zG
 . conv=>lhs;whnf
 . assumption
|refine zA ?_
|refine zB ?_
|refine zF ?_
|apply aw_1
 conv=>whnf
 refine ⟨?_,trivial⟩
|apply zT rfl rfl
 . conv=>lhs;whnf
 . conv=>lhs;whnf
 . first | exact bF1 ‹_› | exact bF2 ‹_›
|apply s_1
 conv=>whnf;arg 1;arg 4;arg 3;whnf
 refine ⟨?_,?_⟩
|apply zi rfl
 . conv=>lhs;whnf
 . conv=>lhs;whnf
 . first | exact hn2 | exact hv2
|apply zI rfl rfl rfl
 . conv=>lhs;whnf
 . conv=>lhs;whnf;arg 1;whnf
 . conv=>lhs;whnf;arg 1;whnf
 . exact ⟨by kernel_rfl,by kernel_rfl⟩
 . rfl
|apply zh rfl
 . conv=>lhs;whnf
 . conv=>lhs;whnf
 . first | rfl | assumption
 . conv=>lhs;whnf
 . first | exact hn2 | exact hv2
|refine zQ ?_
|refine zV ?_
|refine zw ?_
|refine zE ?_
|refine ⟨_,by conv=>lhs;whnf;arg 2;whnf,?_⟩;conv=>rhs;whnf
|exact trivial)
          all_goals first
           |exact zU (by omega)
           |exact zAu hk
           |rfl
           |skip
         |true =>
          rw [hvb] at hv2
          have f5:(!true)=false:=rfl
          repeat' (first
|apply zG
 . conv=>lhs;whnf
 . assumption
|apply zD
 . conv=>lhs;whnf
 . assumption
|refine zA ?_
|refine zB ?_
|refine zF ?_
|refine zZ ?_
|apply aw_1
 conv=>whnf
 refine ⟨?_,trivial⟩
|apply zT rfl rfl
 . conv=>lhs;whnf
 . conv=>lhs;whnf
 . first | exact bF1 ‹_› | exact bF2 ‹_›
|apply s_1
 conv=>whnf;arg 1;arg 4;arg 3;whnf
 refine ⟨?_,?_⟩
|apply zi rfl
 . conv=>lhs;whnf
 . conv=>lhs;whnf
 . first | exact hn2 | exact hv2
|apply zI rfl rfl rfl
 . conv=>lhs;whnf
 . conv=>lhs;whnf;arg 1;whnf
 . conv=>lhs;whnf;arg 1;whnf
 . exact ⟨by kernel_rfl,by kernel_rfl⟩
 . rfl
|apply zh rfl
 . conv=>lhs;whnf
 . conv=>lhs;whnf
 . first | rfl | assumption
 . conv=>lhs;whnf
 . first | exact hn2 | exact hv2
|exact trivial)
          all_goals first
           |exact zU (by omega)
           |exact zAu hk
           |skip
          refine zJ (j':=j2-1) (by omega) ⟨k+1,by omega,fun m hm => ?_,Sub.live ⟨rfl,rfl,rfl,rfl,rfl,rfl,rfl,trivial⟩ trivial⟩
          by_cases e:m=k
          . subst e;unfold argY;rw [hnb2,hvb];rfl
          . exact hno2 m (by omega)
      . have g2:decide ((k:Int)<(((gD l i).f 1).l.length:Nat))=false:=decide_eq_false (by omega)
        have hd:dirY lit (gD l i)=true:=by
         unfold dirY zIp
         rw [hnb,decide_eq_true (by omega),zDP fun m hm=>hno2 m (by omega)];rfl
        repeat' (first
|apply zD
 . conv=>lhs;whnf
 . assumption
|refine zA ?_
|refine zB ?_
|refine zF ?_
|refine zZ ?_
|apply aw_1
 conv=>whnf
 refine ⟨?_,trivial⟩
|apply s_1
 conv=>whnf;arg 1;arg 4;arg 3;whnf
 refine ⟨?_,?_⟩
|refine zO ?_
|refine zL rfl ?_
|refine zM ?_
|exact trivial)
        all_goals first
         |exact zU (by omega)
         |skip
        refine zJ (j':=j-1) (by omega) ⟨i+1,by omega,fun m hm => ?_,Sub.live ⟨rfl,rfl,rfl,rfl,trivial⟩ trivial⟩
        by_cases e:m=i
        . subst e;exact hd
        . exact hno m (by omega)
 . have g1:decide ((i:Int)<(l.length:Nat))=false:=decide_eq_false (by omega)
   have hr:dirsY lit l=decide ((l.length:Int)<=16):=by
    unfold dirsY
    rw [zDP fun m hm=>hno m (by omega),Bool.and_true]
    exact decide_eq_decide.2 (by omega)
   rw [hr]
   repeat' (first
|apply zD
 . conv=>lhs;whnf
 . assumption
|refine zA ?_
|refine zB ?_
|refine zF ?_
|apply aw_1
 conv=>whnf
 refine ⟨?_,trivial⟩
|apply s_1
 conv=>whnf;arg 1;arg 4;arg 3;whnf
 refine ⟨?_,?_⟩
|refine zO ?_
|refine zL rfl ?_
|refine zM ?_
|refine zE ?_
|refine ⟨_,by conv=>lhs;whnf;arg 2;whnf,?_⟩;conv=>rhs;whnf
|exact trivial)
   all_goals first
    |rfl
    |skip
end
end
section
open Go.RowKit
set_option linter.unusedSectionVars false
theorem nb1 {x:Bool} (h:((!x)==false)=true):x=true:=by cases x<;>simp_all
theorem nb0 {x:Bool} (h:((!x)==false)=false):x=false:=by cases x<;>simp_all
theorem nc1 {x:Bool} (h:((!x)==true)=true):x=false:=by cases x<;>simp_all
theorem nc0 {x:Bool} (h:((!x)==true)=false):x=true:=by cases x<;>simp_all
theorem nz1 {n:Int} (h:(n != 0)=true):(n==0)=false:=by simp_all
theorem nz0 {n:Int} (h:(n != 0)=false):(n==0)=true:=by simp_all
theorem cB {a b:Bool} (h:a=b):V.c (.bool a)=V.c (.bool b):=by rw [h]
attribute [local irreducible] wpList Calls Code.wp AW AWo OpOk seqK zq zu loopK endK AC zf Yld Sub
attribute [local irreducible] ACB ACX ACE absLexG YldG absLexH
section
variable {lit:D->Bool} (hN : ∀ s:ByteArray,AC EN5 Tryz.prog 67 [.c (.string s)] (.c (.bool (nameB s)))) (hL : ∀ d:D,AC EN5 Tryz.prog 182 [.agg (cellsV Tryz.prog 12 53 d)] (.c (.bool (lit d)))) (hR : ∀ d:D,AC EN5 Tryz.prog 132 [.agg (cellsV Tryz.prog 12 48 d)] (.c (.bool (refR d))))
include hN hL hR
noncomputable def HrI (l:List D) (i:Nat):Vst 48:=stS 48 [(0,.sl 55 l),(5,.sl 55 l),(6,.c (.int .i64 (l.length:Int))),(7,.c (.int .i64 (i:Int)))] []
theorem zCX (l:List D):AC EN5 Tryz.prog 71 [.sl 55 l] (.c (.bool (insY lit l))):=by
 refine zHX 1 fun hL2 => ?_
 have hl:l.length<=9223372036854775807:=hL2.1
 refine zP 48 Tryz.func71 rfl rfl rfl rfl ?_
 intro s w he
 repeat' (first
|refine zA ?_
|refine zB ?_
|refine zF ?_
|apply aw_1
 conv=>whnf
 refine ⟨?_,trivial⟩
|apply s_1
 conv=>whnf;arg 1;arg 4;arg 3;whnf
 refine ⟨?_,?_⟩
|exact trivial)
 refine zn (fun j st => ∃ i,i+j=l.length/\(∀ m,m<i->inY lit (gD l m)=true)/\Sub (cx EN5 Tryz.prog s w he) st (HrI l i)) l.length ⟨0,by omega,fun m hm=>absurd hm (Nat.not_lt_zero m),Sub.live ⟨rfl,rfl,rfl,rfl,trivial⟩ trivial⟩ ?_
 rintro j st ⟨i,hij,hno,hs2⟩
 refine zg hs2 ?_
 clear hs2
 by_cases hi:i<l.length
 . have g1:decide ((i:Int)<(l.length:Nat))=true:=decide_eq_true (by omega)
   have hn:=hN ((gD l i).f 0).s
   have hr:=hR ((gD l i).f 1)
   have hd:=zBP hN hL ((gD l i).f 4).l
   have hv:=zDC hL ((gD l i).f 3)
   have hbad:inY lit (gD l i)=false->insY lit l=false:=fun h=>by unfold insY;rw [zFY hi h,Bool.and_false]
   have hY:inY lit (gD l i)=(nameB ((gD l i).f 0).s&&refR ((gD l i).f 1)&&dirsY lit ((gD l i).f 4).l&&valY lit ((gD l i).f 3)&&(((gD l i).f 2).b||(((gD l i).f 3).f 0).n==0)):=rfl
   generalize nameB ((gD l i).f 0).s=a at hn hY
   generalize refR ((gD l i).f 1)=b at hr hY
   generalize dirsY lit ((gD l i).f 4).l=c at hd hY
   generalize valY lit ((gD l i).f 3)=v at hv hY
   repeat' (first
|apply zz rfl rfl rfl
 . conv=>lhs;whnf
 . first | rfl | assumption
 . conv=>lhs;whnf
 . first | exact bT1 ‹_› | exact bT2 ‹_› | rfl
|apply zv rfl rfl rfl
 . conv=>lhs;whnf
 . first | rfl | assumption
 . conv=>lhs;whnf
 . first | exact bF1 ‹_› | exact bF2 ‹_› | rfl
|apply zG
 . conv=>lhs;whnf
 . assumption
|refine zA ?_
|refine zB ?_
|refine zF ?_
|refine zZ ?_
|apply aw_1
 conv=>whnf
 refine ⟨?_,trivial⟩
|apply zX rfl rfl
 . conv=>lhs;whnf
 . conv=>lhs;whnf
 . first | exact bT1 ‹_› | exact bT2 ‹_›
|apply zT rfl rfl
 . conv=>lhs;whnf
 . conv=>lhs;whnf
 . first | exact bF1 ‹_› | exact bF2 ‹_›
|apply s_1
 conv=>whnf;arg 1;arg 4;arg 3;whnf
 refine ⟨?_,?_⟩
|apply zi rfl
 . conv=>lhs;whnf
 . conv=>lhs;whnf
 . first | exact hn | exact hr | exact hd | exact hv
|apply zI rfl rfl rfl
 . conv=>lhs;whnf
 . conv=>lhs;whnf;arg 1;whnf
 . conv=>lhs;whnf;arg 1;whnf
 . exact ⟨by kernel_rfl,by kernel_rfl⟩
 . rfl
|apply zC rfl
 . conv=>lhs;whnf
 . conv=>lhs;whnf
 . first | rfl | assumption
 . conv=>lhs;whnf;arg 2;whnf
|apply zh rfl
 . conv=>lhs;whnf
 . conv=>lhs;whnf
 . first | rfl | assumption
 . conv=>lhs;whnf
 . first | exact hn | exact hr | exact hd | exact hv
|apply zW rfl
 . conv=>lhs;whnf
 . conv=>lhs;whnf
 . first | rfl | assumption
|apply zH rfl
 . conv=>lhs;whnf
 . conv=>lhs;whnf
 . conv=>lhs;whnf;arg 2;whnf
|refine ze (by conv=>lhs;whnf) ?_ ?_<;>intro hb
|refine zQ ?_
|refine zV ?_
|refine zw ?_
|refine zE ?_
|refine ⟨_,by conv=>lhs;whnf;arg 2;whnf,?_⟩;conv=>rhs;whnf
|exact trivial
|intro hg)
   all_goals first
    |exact zU (by omega)
    |exact zAu hi
    |exact cB (hbad (by rw [hY,nb0 (x:=a) ‹_›];rfl))
    |exact cB (hbad (by rw [hY,nb1 (x:=a) ‹_›,nb0 (x:=b) ‹_›];rfl))
    |exact cB (hbad (by rw [hY,nb1 (x:=a) ‹_›,nb1 (x:=b) ‹_›,nb0 (x:=c) ‹_›];rfl))
    |exact cB (hbad (by rw [hY,nb1 (x:=a) ‹_›,nb1 (x:=b) ‹_›,nb1 (x:=c) ‹_›,nb0 (x:=v) ‹_›];rfl))
    |exact cB (hbad (by rw [hY,nb1 (x:=a) ‹_›,nb1 (x:=b) ‹_›,nb1 (x:=c) ‹_›,nb1 (x:=v) ‹_›,show ((gD l i).f 2).b=false from nc1 hg,show ((((gD l i).f 3).f 0).n==0)=false from nz1 hb];rfl))
    |skip
   all_goals
    have hok:inY lit (gD l i)=true:=by
     rw [hY,nb1 (x:=a) ‹_›,nb1 (x:=b) ‹_›,nb1 (x:=c) ‹_›,nb1 (x:=v) ‹_›]
     first
      |(rw [show ((gD l i).f 2).b=true from nc0 hg];rfl)
      |(rw [show ((gD l i).f 2).b=false from nc1 hg,show ((((gD l i).f 3).f 0).n==0)=true from nz0 hb];rfl)
    refine zJ (j':=j-1) (by omega) ⟨i+1,by omega,fun m hm => ?_,Sub.live ⟨rfl,rfl,rfl,rfl,trivial⟩ trivial⟩
    by_cases e:m=i
    . subst e;exact hok
    . exact hno m (by omega)
 . have g1:decide ((i:Int)<(l.length:Nat))=false:=decide_eq_false (by omega)
   have hr:insY lit l=decide ((l.length:Int)<=16):=by
    unfold insY
    rw [zDP fun m hm=>hno m (by omega),Bool.and_true]
    exact decide_eq_decide.2 (by omega)
   rw [hr]
   repeat' (first
|apply zD
 . conv=>lhs;whnf
 . assumption
|refine zA ?_
|refine zB ?_
|refine zF ?_
|apply aw_1
 conv=>whnf
 refine ⟨?_,trivial⟩
|apply s_1
 conv=>whnf;arg 1;arg 4;arg 3;whnf
 refine ⟨?_,?_⟩
|refine zO ?_
|refine zL rfl ?_
|refine zM ?_
|refine zE ?_
|refine ⟨_,by conv=>lhs;whnf;arg 2;whnf,?_⟩;conv=>rhs;whnf
|exact trivial)
   all_goals first
    |rfl
    |skip
noncomputable def HrF (l:List D) (i:Nat):Vst 37:=stS 37 [(0,.sl 50 l),(5,.sl 50 l),(6,.c (.int .i64 (l.length:Int))),(7,.c (.int .i64 (i:Int)))] []
theorem zEx (l:List D):AC EN5 Tryz.prog 69 [.sl 50 l] (.c (.bool (fdsY lit l))):=by
 refine zHX 1 fun hL2 => ?_
 have hl:l.length<=9223372036854775807:=hL2.1
 refine zP 37 Tryz.func69 rfl rfl rfl rfl ?_
 intro s w he
 repeat' (first
|refine zA ?_
|refine zB ?_
|refine zF ?_
|apply aw_1
 conv=>whnf
 refine ⟨?_,trivial⟩
|apply s_1
 conv=>whnf;arg 1;arg 4;arg 3;whnf
 refine ⟨?_,?_⟩
|exact trivial)
 refine zn (fun j st => ∃ i,i+j=l.length/\(∀ m,m<i->fdY lit (gD l m)=true)/\Sub (cx EN5 Tryz.prog s w he) st (HrF l i)) l.length ⟨0,by omega,fun m hm=>absurd hm (Nat.not_lt_zero m),Sub.live ⟨rfl,rfl,rfl,rfl,trivial⟩ trivial⟩ ?_
 rintro j st ⟨i,hij,hno,hs2⟩
 refine zg hs2 ?_
 clear hs2
 by_cases hi:i<l.length
 . have g1:decide ((i:Int)<(l.length:Nat))=true:=decide_eq_true (by omega)
   have hn:=hN ((gD l i).f 0).s
   have hv:=zCX hN hL hR ((gD l i).f 1).l
   have hr:=hR ((gD l i).f 2)
   have hd:=zBP hN hL ((gD l i).f 3).l
   have hbad:fdY lit (gD l i)=false->fdsY lit l=false:=fun h=>by unfold fdsY;rw [zFY hi h,Bool.and_false]
   have hY:fdY lit (gD l i)=(nameB ((gD l i).f 0).s&&insY lit ((gD l i).f 1).l&&refR ((gD l i).f 2)&&dirsY lit ((gD l i).f 3).l):=rfl
   generalize nameB ((gD l i).f 0).s=a at hn hY
   generalize refR ((gD l i).f 2)=b at hr hY
   generalize dirsY lit ((gD l i).f 3).l=c at hd hY
   generalize insY lit ((gD l i).f 1).l=v at hv hY
   repeat' (first
|apply zG
 . conv=>lhs;whnf
 . assumption
|refine zA ?_
|refine zB ?_
|refine zF ?_
|refine zZ ?_
|apply aw_1
 conv=>whnf
 refine ⟨?_,trivial⟩
|apply zX rfl rfl
 . conv=>lhs;whnf
 . conv=>lhs;whnf
 . first | exact bT1 ‹_› | exact bT2 ‹_›
|apply zT rfl rfl
 . conv=>lhs;whnf
 . conv=>lhs;whnf
 . first | exact bF1 ‹_› | exact bF2 ‹_›
|apply s_1
 conv=>whnf;arg 1;arg 4;arg 3;whnf
 refine ⟨?_,?_⟩
|apply zi rfl
 . conv=>lhs;whnf
 . conv=>lhs;whnf
 . first | exact hn | exact hr | exact hd | exact hv
|apply zI rfl rfl rfl
 . conv=>lhs;whnf
 . conv=>lhs;whnf;arg 1;whnf
 . conv=>lhs;whnf;arg 1;whnf
 . exact ⟨by kernel_rfl,by kernel_rfl⟩
 . rfl
|apply zC rfl
 . conv=>lhs;whnf
 . conv=>lhs;whnf
 . first | rfl | assumption
 . conv=>lhs;whnf;arg 2;whnf
|apply zh rfl
 . conv=>lhs;whnf
 . conv=>lhs;whnf
 . first | rfl | assumption
 . conv=>lhs;whnf
 . first | exact hn | exact hr | exact hd | exact hv
|apply zW rfl
 . conv=>lhs;whnf
 . conv=>lhs;whnf
 . first | rfl | assumption
|apply zH rfl
 . conv=>lhs;whnf
 . conv=>lhs;whnf
 . conv=>lhs;whnf;arg 2;whnf
|refine ze (by conv=>lhs;whnf) ?_ ?_<;>intro hb
|refine zQ ?_
|refine zV ?_
|refine zw ?_
|refine zE ?_
|refine ⟨_,by conv=>lhs;whnf;arg 2;whnf,?_⟩;conv=>rhs;whnf
|exact trivial
|intro hg)
   all_goals first
    |exact zU (by omega)
    |exact zAu hi
    |exact cB (hbad (by rw [hY,nb0 (x:=a) ‹_›];rfl))
    |exact cB (hbad (by rw [hY,nb1 (x:=a) ‹_›,nb0 (x:=b) ‹_›];cases v<;>rfl))
    |exact cB (hbad (by rw [hY,nb1 (x:=a) ‹_›,nb1 (x:=b) ‹_›,nb0 (x:=c) ‹_›];cases v<;>rfl))
    |exact cB (hbad (by rw [hY,nb1 (x:=a) ‹_›,nb1 (x:=b) ‹_›,nb1 (x:=c) ‹_›,show v=false by simpa using hb];rfl))
    |skip
   all_goals
    have hok:fdY lit (gD l i)=true:=by
     rw [hY,nb1 (x:=a) ‹_›,nb1 (x:=b) ‹_›,nb1 (x:=c) ‹_›,show v=true by simpa using hb];rfl
    refine zJ (j':=j-1) (by omega) ⟨i+1,by omega,fun m hm => ?_,Sub.live ⟨rfl,rfl,rfl,rfl,trivial⟩ trivial⟩
    by_cases e:m=i
    . subst e;exact hok
    . exact hno m (by omega)
 . have g1:decide ((i:Int)<(l.length:Nat))=false:=decide_eq_false (by omega)
   have hr:fdsY lit l=decide ((l.length:Int)<=64):=by
    unfold fdsY
    rw [zDP fun m hm=>hno m (by omega),Bool.and_true]
    exact decide_eq_decide.2 (by omega)
   rw [hr]
   repeat' (first
|apply zD
 . conv=>lhs;whnf
 . assumption
|refine zA ?_
|refine zB ?_
|refine zF ?_
|apply aw_1
 conv=>whnf
 refine ⟨?_,trivial⟩
|apply s_1
 conv=>whnf;arg 1;arg 4;arg 3;whnf
 refine ⟨?_,?_⟩
|refine zO ?_
|refine zL rfl ?_
|refine zM ?_
|refine zE ?_
|refine ⟨_,by conv=>lhs;whnf;arg 2;whnf,?_⟩;conv=>rhs;whnf
|exact trivial)
   all_goals first
    |rfl
    |skip
end
end
section
open Go.RowKit
set_option linter.unusedSectionVars false
attribute [local irreducible] wpList Calls Code.wp AW AWo OpOk seqK zq zu loopK endK AC zf Yld Sub
attribute [local irreducible] ACB ACX ACE absLexG YldG absLexH
section
variable {lit:D->Bool} (hN : ∀ s:ByteArray,AC EN5 Tryz.prog 67 [.c (.string s)] (.c (.bool (nameB s)))) (hL : ∀ d:D,AC EN5 Tryz.prog 182 [.agg (cellsV Tryz.prog 12 53 d)] (.c (.bool (lit d))))
include hN hL
noncomputable def HrM (l:List D) (u:Bool) (i:Nat):Vst 36:=stS 36 [(0,.sl 79 l),(1,.c (.bool u)),(7,.sl 79 l),(8,.c (.int .i64 (l.length:Int))),(9,.c (.int .i64 (i:Int)))] []
theorem zEH (l:List D) (u:Bool):AC EN5 Tryz.prog 70 [.sl 79 l,.c (.bool u)] (.c (.bool (mbsY lit u l))):=by
 refine zHX 1 fun hL2 => ?_
 have hl:l.length<=9223372036854775807:=hL2.1
 refine zP 36 Tryz.func70 rfl rfl rfl rfl ?_
 intro s w he
 repeat' (first
|refine zA ?_
|refine zB ?_
|refine zF ?_
|apply aw_1
 conv=>whnf
 refine ⟨?_,trivial⟩
|apply s_1
 conv=>whnf;arg 1;arg 4;arg 3;whnf
 refine ⟨?_,?_⟩
|exact trivial)
 refine zn (fun j st => ∃ i,i+j=l.length/\(∀ m,m<i->mbY lit u (gD l m)=true)/\Sub (cx EN5 Tryz.prog s w he) st (HrM l u i)) l.length ⟨0,by omega,fun m hm=>absurd hm (Nat.not_lt_zero m),Sub.live ⟨rfl,rfl,rfl,rfl,rfl,trivial⟩ trivial⟩ ?_
 rintro j st ⟨i,hij,hno,hs2⟩
 refine zg hs2 ?_
 clear hs2
 by_cases hi:i<l.length
 . have g1:decide ((i:Int)<(l.length:Nat))=true:=decide_eq_true (by omega)
   have hn:=hN ((gD l i).f 0).s
   have hd:=zBP hN hL ((gD l i).f 1).l
   have hbad:mbY lit u (gD l i)=false->mbsY lit u l=false:=fun h=>by unfold mbsY;rw [zFY hi h,Bool.and_false]
   have hz:decide (((gD l i).f 1).l.length=0) = !(decide ((((gD l i).f 1).l.length:Int)>0)):=by
    by_cases h0:((gD l i).f 1).l.length=0
    . rw [decide_eq_true h0,decide_eq_false (by omega)];rfl
    . rw [decide_eq_false h0,decide_eq_true (by omega)];rfl
   have hY:mbY lit u (gD l i)=(nameB ((gD l i).f 0).s&&dirsY lit ((gD l i).f 1).l&&(!u || !(decide ((((gD l i).f 1).l.length:Int)>0)))):=by unfold mbY;rw [hz]
   generalize nameB ((gD l i).f 0).s=a at hn hY
   generalize dirsY lit ((gD l i).f 1).l=c at hd hY
   cases u with
   |false =>
    have K:(false==true)=true->False:=by decide
    repeat' (first
|apply zv rfl rfl rfl
 . conv=>lhs;whnf
 . first | rfl | assumption
 . conv=>lhs;whnf
 . first | exact bF1 ‹_› | exact bF2 ‹_› | rfl
|apply zG
 . conv=>lhs;whnf
 . assumption
|refine zA ?_
|refine zB ?_
|refine zF ?_
|refine zZ ?_
|apply aw_1
 conv=>whnf
 refine ⟨?_,trivial⟩
|apply zX rfl rfl
 . conv=>lhs;whnf
 . conv=>lhs;whnf
 . first | exact bT1 ‹_› | exact bT2 ‹_›
|apply zT rfl rfl
 . conv=>lhs;whnf
 . conv=>lhs;whnf
 . first | exact bF1 ‹_› | exact bF2 ‹_›
|apply s_1
 conv=>whnf;arg 1;arg 4;arg 3;whnf
 refine ⟨?_,?_⟩
|apply zi rfl
 . conv=>lhs;whnf
 . conv=>lhs;whnf
 . first | exact hn | exact hd
|apply zI rfl rfl rfl
 . conv=>lhs;whnf
 . conv=>lhs;whnf;arg 1;whnf
 . conv=>lhs;whnf;arg 1;whnf
 . exact ⟨by kernel_rfl,by kernel_rfl⟩
 . rfl
|apply zC rfl
 . conv=>lhs;whnf
 . conv=>lhs;whnf
 . first | rfl | assumption
 . conv=>lhs;whnf;arg 2;whnf
|apply zh rfl
 . conv=>lhs;whnf
 . conv=>lhs;whnf
 . first | rfl | assumption
 . conv=>lhs;whnf
 . first | exact hn | exact hd
|apply zW rfl
 . conv=>lhs;whnf
 . conv=>lhs;whnf
 . first | rfl | assumption
|apply zH rfl
 . conv=>lhs;whnf
 . conv=>lhs;whnf
 . conv=>lhs;whnf;arg 2;whnf
|refine zQ ?_
|refine zV ?_
|refine zw ?_
|refine zE ?_
|refine ⟨_,by conv=>lhs;whnf;arg 2;whnf,?_⟩;conv=>rhs;whnf
|exact trivial
|intro hg)
    all_goals first
     |exact zU (by omega)
     |exact zAu hi
     |exact cB (hbad (by rw [hY,nb0 (x:=a) ‹_›];rfl))
     |exact cB (hbad (by rw [hY,nb1 (x:=a) ‹_›,nb0 (x:=c) ‹_›];rfl))
     |skip
    all_goals
     have hok:mbY lit false (gD l i)=true:=by
      rw [hY,nb1 (x:=a) ‹_›,nb1 (x:=c) ‹_›];rfl
     refine zJ (j':=j-1) (by omega) ⟨i+1,by omega,fun m hm => ?_,Sub.live ⟨rfl,rfl,rfl,rfl,rfl,trivial⟩ trivial⟩
     by_cases e:m=i
     . subst e;exact hok
     . exact hno m (by omega)
   |true =>
    have K:(true==true)=false->False:=by decide
    repeat' (first
|apply zz rfl rfl rfl
 . conv=>lhs;whnf
 . first | rfl | assumption
 . conv=>lhs;whnf
 . first | exact bT1 ‹_› | exact bT2 ‹_› | rfl
|apply zG
 . conv=>lhs;whnf
 . assumption
|refine zA ?_
|refine zB ?_
|refine zF ?_
|refine zZ ?_
|apply aw_1
 conv=>whnf
 refine ⟨?_,trivial⟩
|apply zX rfl rfl
 . conv=>lhs;whnf
 . conv=>lhs;whnf
 . first | exact bT1 ‹_› | exact bT2 ‹_›
|apply zT rfl rfl
 . conv=>lhs;whnf
 . conv=>lhs;whnf
 . first | exact bF1 ‹_› | exact bF2 ‹_›
|apply s_1
 conv=>whnf;arg 1;arg 4;arg 3;whnf
 refine ⟨?_,?_⟩
|apply zi rfl
 . conv=>lhs;whnf
 . conv=>lhs;whnf
 . first | exact hn | exact hd
|apply zI rfl rfl rfl
 . conv=>lhs;whnf
 . conv=>lhs;whnf;arg 1;whnf
 . conv=>lhs;whnf;arg 1;whnf
 . exact ⟨by kernel_rfl,by kernel_rfl⟩
 . rfl
|apply zC rfl
 . conv=>lhs;whnf
 . conv=>lhs;whnf
 . first | rfl | assumption
 . conv=>lhs;whnf;arg 2;whnf
|apply zh rfl
 . conv=>lhs;whnf
 . conv=>lhs;whnf
 . first | rfl | assumption
 . conv=>lhs;whnf
 . first | exact hn | exact hd
|apply zW rfl
 . conv=>lhs;whnf
 . conv=>lhs;whnf
 . first | rfl | assumption
|apply zH rfl
 . conv=>lhs;whnf
 . conv=>lhs;whnf
 . conv=>lhs;whnf;arg 2;whnf
|refine ze (by conv=>lhs;whnf) ?_ ?_<;>intro hb
|refine zQ ?_
|refine zV ?_
|refine zw ?_
|refine zE ?_
|refine ⟨_,by conv=>lhs;whnf;arg 2;whnf,?_⟩;conv=>rhs;whnf
|exact trivial
|intro hg)
    all_goals first
     |exact zU (by omega)
     |exact zAu hi
     |exact cB (hbad (by rw [hY,nb0 (x:=a) ‹_›];rfl))
     |exact cB (hbad (by rw [hY,nb1 (x:=a) ‹_›,nb0 (x:=c) ‹_›];rfl))
     |exact cB (hbad (by rw [hY,nb1 (x:=a) ‹_›,nb1 (x:=c) ‹_›,show decide ((((gD l i).f 1).l.length:Int)>0)=true from hb];rfl))
     |skip
    all_goals
     have hok:mbY lit true (gD l i)=true:=by
      rw [hY,nb1 (x:=a) ‹_›,nb1 (x:=c) ‹_›,show decide ((((gD l i).f 1).l.length:Int)>0)=false from hb];rfl
     refine zJ (j':=j-1) (by omega) ⟨i+1,by omega,fun m hm => ?_,Sub.live ⟨rfl,rfl,rfl,rfl,rfl,trivial⟩ trivial⟩
     by_cases e:m=i
     . subst e;exact hok
     . exact hno m (by omega)
 . have g1:decide ((i:Int)<(l.length:Nat))=false:=decide_eq_false (by omega)
   have hr:mbsY lit u l=decide ((l.length:Int)<=64):=by
    unfold mbsY
    rw [zDP fun m hm=>hno m (by omega),Bool.and_true]
    exact decide_eq_decide.2 (by omega)
   rw [hr]
   repeat' (first
|apply zD
 . conv=>lhs;whnf
 . assumption
|refine zA ?_
|refine zB ?_
|refine zF ?_
|apply aw_1
 conv=>whnf
 refine ⟨?_,trivial⟩
|apply s_1
 conv=>whnf;arg 1;arg 4;arg 3;whnf
 refine ⟨?_,?_⟩
|refine zO ?_
|refine zL rfl ?_
|refine zM ?_
|refine zE ?_
|refine ⟨_,by conv=>lhs;whnf;arg 2;whnf,?_⟩;conv=>rhs;whnf
|exact trivial)
   all_goals first
    |rfl
    |skip
end
end
section
open Go.RowKit
set_option linter.unusedSectionVars false
theorem kind_dec (k:Int):decide (1<=k/\k<=5)=((k==1||k==2)||(k==3||k==4)||k==5):=by
 by_cases h1:k=1
 . subst h1;rfl
 by_cases h2:k=2
 . subst h2;rfl
 by_cases h3:k=3
 . subst h3;rfl
 by_cases h4:k=4
 . subst h4;rfl
 by_cases h5:k=5
 . subst h5;rfl
 rw [decide_eq_false (by omega),beq_eq_false_iff_ne.2 h1,beq_eq_false_iff_ne.2 h2,beq_eq_false_iff_ne.2 h3,beq_eq_false_iff_ne.2 h4,beq_eq_false_iff_ne.2 h5];rfl
theorem zI9 (n:Nat):decide (0<n)=decide ((n:Int)>0):=decide_eq_decide.2 (by omega)
theorem defY_eq (lit:D->Bool) (d:D):defY lit d =
 ((((d.f 0).n==1||(d.f 0).n==2)||((d.f 0).n==3||(d.f 0).n==4)||(d.f 0).n==5)&&(decide ((d.f 2).l.length=0)||(d.f 0).n==1)&&(((d.f 0).n==1||(d.f 0).n==2)==decide (((d.f 4).l.length:Int)>0))&&(((d.f 0).n==3||(d.f 0).n==4)==decide (((d.f 5).l.length:Int)>0))&&(((d.f 0).n==5)==decide (((d.f 6).l.length:Int)>0))&&nameB (d.f 1).s&&dirsY lit (d.f 3).l&&(decide (((d.f 2).l.length:Int)<=64)&&(d.f 2).l.all fun x=>nameB x.s)&&fdsY lit (d.f 4).l&&mbsY lit ((d.f 0).n==3) (d.f 5).l&&insY lit (d.f 6).l):=by
 unfold defY kindY imY
 rw [kind_dec,zI9,zI9,zI9,show decide ((d.f 2).l.length<=64)=decide (((d.f 2).l.length:Int)<=64) from decide_eq_decide.2 (by omega)]
attribute [local irreducible] wpList Calls Code.wp AW AWo OpOk seqK zq zu loopK endK AC zf Yld Sub
attribute [local irreducible] ACB ACX ACE absLexG YldG absLexH absLexU YldU
noncomputable def HdR (d:D) (F M I:Bool):Vst 109:=stS 109 [(1,.bx 1 0),(3,.c (.bool F)),(4,.c (.bool M)),(5,.c (.bool I))] [(1,.box 45 (cellsV Tryz.prog 12 45 d))]
noncomputable def HdS (d:D) (i:Nat):Vst 109:=stS 109 [(1,.bx 1 0),(72,.sl 9 (d.f 2).l),(73,.c (.int .i64 ((d.f 2).l.length:Int))),(74,.c (.int .i64 (i:Int)))] [(1,.box 45 (cellsV Tryz.prog 12 45 d))]
section
variable {lit:D->Bool} (hN : ∀ s:ByteArray,AC EN5 Tryz.prog 67 [.c (.string s)] (.c (.bool (nameB s)))) (hL : ∀ d:D,AC EN5 Tryz.prog 182 [.agg (cellsV Tryz.prog 12 53 d)] (.c (.bool (lit d)))) (hR : ∀ d:D,AC EN5 Tryz.prog 132 [.agg (cellsV Tryz.prog 12 48 d)] (.c (.bool (refR d))))
include hN hL hR
theorem zHu (d:D) (hl:(d.f 2).l.length<=9223372036854775807):AC EN5 Tryz.prog 34 [.agg (cellsV Tryz.prog 12 45 d)] (.c (.bool (defY lit d))):=by
 have hn:=hN (d.f 1).s
 have hd:=zBP hN hL (d.f 3).l
 have hfs:=zEx hN hL hR (d.f 4).l
 have hms:=zEH hN hL (d.f 5).l ((d.f 0).n==3)
 have his:=zCX hN hL hR (d.f 6).l
 have hY:=defY_eq lit d
 obtain ⟨r,hr⟩ : ∃ r,r=defY lit d:=⟨_,rfl⟩
 rw [<- hr]
 rw [<- hr] at hY
 clear hr
 generalize nameB (d.f 1).s=a at hn hY
 generalize dirsY lit (d.f 3).l=c at hd hY
 generalize fdsY lit (d.f 4).l=fs at hfs hY
 generalize mbsY lit ((d.f 0).n==3) (d.f 5).l=ms at hms hY
 generalize insY lit (d.f 6).l=is at his hY
 obtain ⟨F,hF⟩ : ∃ F,F=((d.f 0).n==1||(d.f 0).n==2):=⟨_,rfl⟩
 obtain ⟨M,hM⟩ : ∃ M,M=((d.f 0).n==3||(d.f 0).n==4):=⟨_,rfl⟩
 obtain ⟨I,hI⟩ : ∃ I,I=((d.f 0).n==5):=⟨_,rfl⟩
 refine zP 109 Tryz.func34 rfl rfl rfl rfl ?_
 intro s w he
 repeat' (first
|apply zAR 22 ([(1,[1]),(5,[1]),(9,[1]),(13,[1]),(17,[1])]) ([]) rfl (by kernel_rfl) (by kernel_rfl) (by kernel_rfl)
|apply zFf
|apply zEQ rfl rfl
 . conv=>lhs;whnf
 . conv=>lhs;whnf
 . first | exact bT1 ‹_› | exact bT2 ‹_›
|apply zGY rfl rfl
 . conv=>lhs;whnf
 . conv=>lhs;whnf
 . first | exact bF1 ‹_› | exact bF2 ‹_›
|apply zFe rfl
 . conv=>lhs;whnf
 . conv=>lhs;whnf;arg 2;whnf
|apply zBF rfl
 . conv=>lhs;whnf
 . conv=>lhs;whnf
 . first | rfl | assumption
 . conv=>lhs;whnf;arg 2;whnf
|apply zJq rfl
 . conv=>lhs;whnf
 . conv=>lhs;whnf
 . first | rfl | assumption
|apply zEm rfl
 . conv=>lhs;whnf
 . conv=>lhs;whnf
 . conv=>lhs;whnf;arg 2;whnf
|show inO _ _=true;rfl
|apply zo 2 (HdR d F M I) rfl
|refine zBA ?_
|refine zA ?_
|refine zB ?_
|refine zF ?_
|apply aw_1
 conv=>whnf
 refine ⟨?_,trivial⟩
|apply zX rfl rfl
 . conv=>lhs;whnf
 . conv=>lhs;whnf
 . first | exact bT1 ‹_› | exact bT2 ‹_›
|apply zT rfl rfl
 . conv=>lhs;whnf
 . conv=>lhs;whnf
 . first | exact bF1 ‹_› | exact bF2 ‹_›
|apply s_1
 conv=>whnf;arg 1;arg 4;arg 3;whnf
 refine ⟨?_,?_⟩
|apply zAW rfl rfl rfl rfl
 . conv=>lhs;whnf;arg 1;whnf
 . rfl
|apply zC rfl
 . conv=>lhs;whnf
 . conv=>lhs;whnf
 . first | rfl | assumption
 . conv=>lhs;whnf;arg 2;whnf
|apply zh rfl
 . conv=>lhs;whnf
 . conv=>lhs;whnf
 . first | rfl | assumption
 . conv=>lhs;whnf
 . first | exact hn | exact hd | exact hfs | exact hms | exact his
|apply zW rfl
 . conv=>lhs;whnf
 . conv=>lhs;whnf
 . first | rfl | assumption
|apply zH rfl
 . conv=>lhs;whnf
 . conv=>lhs;whnf
 . conv=>lhs;whnf;arg 2;whnf
|refine ze (by conv=>lhs;whnf) ?_ ?_<;>intro hb
|refine zQ ?_
|refine zE ?_
|refine ⟨_,by conv=>lhs;whnf;arg 2;whnf,?_⟩;conv=>rhs;whnf
|exact trivial
|intro hg)
 all_goals first
  |exact zU (by omega)
  |exact (show Tryz.prog.underlying 4=some TypeDesc.bool by kernel_rfl)
  |(refine Sub.live ⟨rfl,cB ?_,cB ?_,cB ?_,trivial⟩ ⟨rfl,trivial⟩<;>clear hn hd hfs hms his hN hL hR he hY<;>simp_all;done)
  |(refine cB ?_;clear hn hd hfs hms his hN hL hR he;rw [hY,<- hF,<- hM,<- hI];clear hF hM hI hY;simp_all;done)
  |skip
 all_goals
  clear hn hd
  refine zn (fun j st => ∃ i,i+j=(d.f 2).l.length/\(∀ m,m<i->((d.f 0).n==1)=true/\nameB (gD (d.f 2).l m).s=true)/\Sub (cx EN5 Tryz.prog s w he) st (HdS d i)) (d.f 2).l.length ⟨0,by omega,fun m hm=>absurd hm (Nat.not_lt_zero m),Sub.live ⟨rfl,rfl,rfl,rfl,trivial⟩ ⟨rfl,trivial⟩⟩ ?_
  rintro j st ⟨i,hij,hno,hs2⟩
  refine zg hs2 ?_
  clear hs2
  by_cases hi:i<(d.f 2).l.length
  . have g1:decide ((i:Int)<((d.f 2).l.length:Nat))=true:=decide_eq_true (by omega)
    have he0:decide ((d.f 2).l.length=0)=false:=decide_eq_false (by omega)
    cases hk1:((d.f 0).n==1) with
    |false =>
     have hrf:r=false:=by
      rw [hY,he0,hk1]
      simp
     have K:((d.f 0).n != 1)=false->False:=fun h=>by
      have h:(!((d.f 0).n==1))=false:=h
      rw [hk1] at h;cases h
     have K2:(((d.f 0).n != 1)==false)=true->False:=fun h=>by
      have h:((!((d.f 0).n==1))==false)=true:=h
      rw [hk1] at h;cases h
     rw [hrf]
     repeat' (first
|apply zG
 . conv=>lhs;whnf
 . assumption
|exact (K2 ‹_›).elim
|refine zA ?_
|refine zB ?_
|refine zF ?_
|apply aw_1
 conv=>whnf
 refine ⟨?_,trivial⟩
|apply zX rfl rfl
 . conv=>lhs;whnf
 . conv=>lhs;whnf
 . first | exact bT1 ‹_› | exact bT2 ‹_›
|apply s_1
 conv=>whnf;arg 1;arg 4;arg 3;whnf
 refine ⟨?_,?_⟩
|apply zW rfl
 . conv=>lhs;whnf
 . conv=>lhs;whnf
 . first | rfl | assumption
|apply zH rfl
 . conv=>lhs;whnf
 . conv=>lhs;whnf
 . conv=>lhs;whnf;arg 2;whnf
|refine zQ ?_
|refine zV ?_
|refine zw ?_
|refine zE ?_
|refine ⟨_,by conv=>lhs;whnf;arg 2;whnf,?_⟩;conv=>rhs;whnf
|exact trivial
|intro hg)
     all_goals first
      |exact zU (by omega)
      |exact zAu hi
      |rfl
      |skip
    |true =>
     have K:((d.f 0).n != 1)=true->False:=fun h=>by
      have h:(!((d.f 0).n==1))=true:=h
      rw [hk1] at h;cases h
     have K2:(((d.f 0).n != 1)==false)=false->False:=fun h=>by
      have h:((!((d.f 0).n==1))==false)=false:=h
      rw [hk1] at h;cases h
     have hn2:=hN (gD (d.f 2).l i).s
     cases hnb:nameB (gD (d.f 2).l i).s with
     |false =>
      have hrf:r=false:=by
       rw [hY,zFY (p:=fun x=>nameB x.s) hi hnb]
       simp
      rw [hrf]
      rw [hnb] at hn2
      have f5:(!false)=true:=rfl
      repeat' (first
|apply zG
 . conv=>lhs;whnf
 . assumption
|exact (K2 ‹_›).elim
|refine zA ?_
|refine zB ?_
|refine zF ?_
|apply aw_1
 conv=>whnf
 refine ⟨?_,trivial⟩
|apply zT rfl rfl
 . conv=>lhs;whnf
 . conv=>lhs;whnf
 . first | exact bF1 ‹_› | exact bF2 ‹_›
|apply s_1
 conv=>whnf;arg 1;arg 4;arg 3;whnf
 refine ⟨?_,?_⟩
|apply zC rfl
 . conv=>lhs;whnf
 . conv=>lhs;whnf
 . first | rfl | assumption
 . conv=>lhs;whnf;arg 2;whnf
|apply zh rfl
 . conv=>lhs;whnf
 . conv=>lhs;whnf
 . first | rfl | assumption
 . conv=>lhs;whnf
 . first | exact hn2
|apply zH rfl
 . conv=>lhs;whnf
 . conv=>lhs;whnf
 . conv=>lhs;whnf;arg 2;whnf
|refine zQ ?_
|refine zV ?_
|refine zw ?_
|refine zE ?_
|refine ⟨_,by conv=>lhs;whnf;arg 2;whnf,?_⟩;conv=>rhs;whnf
|exact trivial
|intro hg)
      all_goals first
       |exact zU (by omega)
       |exact zAu hi
       |rfl
       |skip
     |true =>
      rw [hnb] at hn2
      have f5:(!true)=false:=rfl
      repeat' (first
|apply zG
 . conv=>lhs;whnf
 . assumption
|apply zD
 . conv=>lhs;whnf
 . assumption
|exact (K2 ‹_›).elim
|refine zA ?_
|refine zB ?_
|refine zF ?_
|refine zZ ?_
|apply aw_1
 conv=>whnf
 refine ⟨?_,trivial⟩
|apply zT rfl rfl
 . conv=>lhs;whnf
 . conv=>lhs;whnf
 . first | exact bF1 ‹_› | exact bF2 ‹_›
|apply s_1
 conv=>whnf;arg 1;arg 4;arg 3;whnf
 refine ⟨?_,?_⟩
|apply zC rfl
 . conv=>lhs;whnf
 . conv=>lhs;whnf
 . first | rfl | assumption
 . conv=>lhs;whnf;arg 2;whnf
|apply zh rfl
 . conv=>lhs;whnf
 . conv=>lhs;whnf
 . first | rfl | assumption
 . conv=>lhs;whnf
 . first | exact hn2
|apply zH rfl
 . conv=>lhs;whnf
 . conv=>lhs;whnf
 . conv=>lhs;whnf;arg 2;whnf
|exact trivial
|intro hg)
      all_goals first
       |exact zU (by omega)
       |exact zAu hi
       |skip
      refine zJ (j':=j-1) (by omega) ⟨i+1,by omega,fun m hm => ?_,Sub.live ⟨rfl,rfl,rfl,rfl,trivial⟩ ⟨rfl,trivial⟩⟩
      by_cases e:m=i
      . subst e;exact ⟨rfl,hnb⟩
      . exact ⟨rfl,(hno m (by omega)).2⟩
  . have g1:decide ((i:Int)<((d.f 2).l.length:Nat))=false:=decide_eq_false (by omega)
    have hall:((d.f 2).l.all fun x=>nameB x.s)=true:=zDP fun m hm=>(hno m (by omega)).2
    have hei:(decide ((d.f 2).l.length=0)||(d.f 0).n==1)=true:=by
     by_cases h0:(d.f 2).l.length=0
     . rw [decide_eq_true h0];rfl
     . rw [(hno 0 (by omega)).1];simp
    rw [hall,hei] at hY
    repeat' (first
|apply zD
 . conv=>lhs;whnf
 . assumption
|refine zA ?_
|refine zB ?_
|refine zF ?_
|apply aw_1
 conv=>whnf
 refine ⟨?_,trivial⟩
|apply zX rfl rfl
 . conv=>lhs;whnf
 . conv=>lhs;whnf
 . first | exact bT1 ‹_› | exact bT2 ‹_›
|apply zT rfl rfl
 . conv=>lhs;whnf
 . conv=>lhs;whnf
 . first | exact bF1 ‹_› | exact bF2 ‹_›
|apply s_1
 conv=>whnf;arg 1;arg 4;arg 3;whnf
 refine ⟨?_,?_⟩
|apply zC rfl
 . conv=>lhs;whnf
 . conv=>lhs;whnf
 . first | rfl | assumption
 . conv=>lhs;whnf;arg 2;whnf
|apply zh rfl
 . conv=>lhs;whnf
 . conv=>lhs;whnf
 . first | rfl | assumption
 . conv=>lhs;whnf
 . first | exact hfs | exact hms | exact his
|apply zW rfl
 . conv=>lhs;whnf
 . conv=>lhs;whnf
 . first | rfl | assumption
|apply zH rfl
 . conv=>lhs;whnf
 . conv=>lhs;whnf
 . conv=>lhs;whnf;arg 2;whnf
|refine zO ?_
|refine zL rfl ?_
|refine zM ?_
|refine zE ?_
|refine ⟨_,by conv=>lhs;whnf;arg 2;whnf,?_⟩;conv=>rhs;whnf
|exact trivial
|intro hg)
    all_goals first
     |(refine cB ?_;rw [hY,show decide (((d.f 2).l.length:Int)<=64)=false from bF1 hg];simp;done)
     |(refine cB ?_;clear hfs hms his hN hL hR he hno hall hei hij g1 hl;rw [hY,<- hF,<- hM,<- hI];clear hF hM hI hY;simp_all;done)
     |skip
end
end
section
open Go.RowKit
set_option linter.unusedSectionVars false
theorem len_im {n:Nat} {d:D} (h:LenT Tryz.prog (n+2) 45 d):(d.f 2).l.length<=maxLen:=
 (LenT.lst (t:=39) (e:=9) (by kernel_rfl) (LenT.fld 2 (fs:=Tryz.prog.fieldsOf 45) (f:=(Tryz.prog.fieldsOf 45)[2]!) (by kernel_rfl) (by kernel_rfl) h)).1
theorem len_defs {n:Nat} {d:D} (h:LenT Tryz.prog (n+2) 25 d) : ∀ i,i<(d.f 0).l.length->LenT Tryz.prog n 45 (gD (d.f 0).l i):=
 (LenT.lst (t:=23) (e:=45) (by kernel_rfl) (LenT.fld 0 (fs:=Tryz.prog.fieldsOf 25) (f:=(Tryz.prog.fieldsOf 25)[0]!) (by kernel_rfl) (by kernel_rfl) h)).2 (by decide +kernel)
theorem docY_eq (lit:D->Bool) (l:List D) (h:l.all (defY lit)=true):docY lit l=(decide ((l.length:Int)>=1)&&decide ((l.length:Int)<=64)):=by
 unfold docY
 rw [h,Bool.and_true,Bool.decide_and]
 congr 1
 . exact decide_eq_decide.2 (by omega)
 . exact decide_eq_decide.2 (by omega)
attribute [local irreducible] wpList Calls Code.wp AW AWo OpOk seqK zq zu loopK endK AC zf Yld Sub
attribute [local irreducible] ACB ACX ACE absLexG YldG absLexH absLexU YldU
noncomputable def HrQ (d:D) (i:Nat):Vst 26:=stS 26 [(1,.bx 1 0),(6,.sl 45 (d.f 0).l),(7,.c (.int .i64 ((d.f 0).l.length:Int))),(8,.c (.int .i64 (i:Int)))] [(1,.box 25 (cellsV Tryz.prog 12 25 d))]
section
variable {lit:D->Bool} (hN : ∀ s:ByteArray,AC EN5 Tryz.prog 67 [.c (.string s)] (.c (.bool (nameB s)))) (hL : ∀ d:D,AC EN5 Tryz.prog 182 [.agg (cellsV Tryz.prog 12 53 d)] (.c (.bool (lit d)))) (hR : ∀ d:D,AC EN5 Tryz.prog 132 [.agg (cellsV Tryz.prog 12 48 d)] (.c (.bool (refR d))))
include hN hL hR
theorem zHo (d:D):AC EN5 Tryz.prog 14 [.agg (cellsV Tryz.prog 12 25 d)] (.c (.bool (docY lit (d.f 0).l))):=by
 refine zDF 4 (by kernel_rfl) fun hL2 => ?_
 have hl:(d.f 0).l.length<=9223372036854775807:=len_doc hL2
 have hd:=fun i (hi:i<(d.f 0).l.length)=>zHu hN hL hR (gD (d.f 0).l i) (len_im (len_defs hL2 i hi))
 refine zP 26 Tryz.func14 rfl rfl rfl rfl ?_
 intro s w he
 repeat' (first
|refine zA ?_
|refine zB ?_
|refine zF ?_
|apply aw_1
 conv=>whnf
 refine ⟨?_,trivial⟩
|apply s_1
 conv=>whnf;arg 1;arg 4;arg 3;whnf
 refine ⟨?_,?_⟩
|apply zAW rfl rfl rfl rfl
 . conv=>lhs;whnf;arg 1;whnf
 . rfl
|exact trivial)
 refine zn (fun j st => ∃ i,i+j=(d.f 0).l.length/\(∀ m,m<i->defY lit (gD (d.f 0).l m)=true)/\Sub (cx EN5 Tryz.prog s w he) st (HrQ d i)) (d.f 0).l.length ⟨0,by omega,fun m hm=>absurd hm (Nat.not_lt_zero m),Sub.live ⟨rfl,rfl,rfl,rfl,trivial⟩ ⟨rfl,trivial⟩⟩ ?_
 rintro j st ⟨i,hij,hno,hs2⟩
 refine zg hs2 ?_
 clear hs2
 by_cases hi:i<(d.f 0).l.length
 . have g1:decide ((i:Int)<((d.f 0).l.length:Nat))=true:=decide_eq_true (by omega)
   have h1:=hd i hi
   cases hY:defY lit (gD (d.f 0).l i) with
   |false =>
    rw [hY] at h1
    rw [show docY lit (d.f 0).l=false by unfold docY;rw [zFY hi hY,Bool.and_false]]
    have f5:(!false)=true:=rfl
    repeat' (first
|apply zG
 . conv=>lhs;whnf
 . assumption
|refine zA ?_
|refine zB ?_
|refine zF ?_
|apply aw_1
 conv=>whnf
 refine ⟨?_,trivial⟩
|apply s_1
 conv=>whnf;arg 1;arg 4;arg 3;whnf
 refine ⟨?_,?_⟩
|apply zi rfl
 . conv=>lhs;whnf
 . conv=>lhs;whnf
 . first | exact h1
|apply zI rfl rfl rfl
 . conv=>lhs;whnf
 . conv=>lhs;whnf;arg 1;whnf
 . conv=>lhs;whnf;arg 1;whnf
 . exact ⟨by kernel_rfl,by kernel_rfl⟩
 . rfl
|refine zQ ?_
|refine zV ?_
|refine zw ?_
|refine zE ?_
|refine ⟨_,by conv=>lhs;whnf;arg 2;whnf,?_⟩;conv=>rhs;whnf
|exact trivial)
    all_goals first
     |exact zU (by omega)
     |exact zAu hi
     |rfl
     |skip
   |true =>
    rw [hY] at h1
    have f5:(!true)=false:=rfl
    repeat' (first
|apply zG
 . conv=>lhs;whnf
 . assumption
|apply zD
 . conv=>lhs;whnf
 . assumption
|refine zA ?_
|refine zB ?_
|refine zF ?_
|refine zZ ?_
|apply aw_1
 conv=>whnf
 refine ⟨?_,trivial⟩
|apply s_1
 conv=>whnf;arg 1;arg 4;arg 3;whnf
 refine ⟨?_,?_⟩
|apply zi rfl
 . conv=>lhs;whnf
 . conv=>lhs;whnf
 . first | exact h1
|apply zI rfl rfl rfl
 . conv=>lhs;whnf
 . conv=>lhs;whnf;arg 1;whnf
 . conv=>lhs;whnf;arg 1;whnf
 . exact ⟨by kernel_rfl,by kernel_rfl⟩
 . rfl
|exact trivial)
    all_goals first
     |exact zU (by omega)
     |exact zAu hi
     |skip
    refine zJ (j':=j-1) (by omega) ⟨i+1,by omega,fun m hm => ?_,Sub.live ⟨rfl,rfl,rfl,rfl,trivial⟩ ⟨rfl,trivial⟩⟩
    by_cases e:m=i
    . subst e;exact hY
    . exact hno m (by omega)
 . have g1:decide ((i:Int)<((d.f 0).l.length:Nat))=false:=decide_eq_false (by omega)
   rw [docY_eq lit _ (zDP fun m hm=>hno m (by omega))]
   repeat' (first
|apply zD
 . conv=>lhs;whnf
 . assumption
|refine zA ?_
|refine zB ?_
|refine zF ?_
|apply aw_1
 conv=>whnf
 refine ⟨?_,trivial⟩
|apply zX rfl rfl
 . conv=>lhs;whnf
 . conv=>lhs;whnf
 . first | exact bT1 ‹_› | exact bT2 ‹_›
|apply zT rfl rfl
 . conv=>lhs;whnf
 . conv=>lhs;whnf
 . first | exact bF1 ‹_› | exact bF2 ‹_›
|apply s_1
 conv=>whnf;arg 1;arg 4;arg 3;whnf
 refine ⟨?_,?_⟩
|apply zC rfl
 . conv=>lhs;whnf
 . conv=>lhs;whnf
 . first | rfl | assumption
 . conv=>lhs;whnf;arg 2;whnf
|apply zW rfl
 . conv=>lhs;whnf
 . conv=>lhs;whnf
 . first | rfl | assumption
|apply zH rfl
 . conv=>lhs;whnf
 . conv=>lhs;whnf
 . conv=>lhs;whnf;arg 2;whnf
|refine zO ?_
|refine zL rfl ?_
|refine zM ?_
|refine zE ?_
|refine ⟨_,by conv=>lhs;whnf;arg 2;whnf,?_⟩;conv=>rhs;whnf
|exact trivial
|intro hg)
   all_goals first
    |exact cB (by rw [show decide (((d.f 0).l.length:Int)>=1)=true from bT1 hg];rfl)
    |exact cB (by rw [show decide (((d.f 0).l.length:Int)>=1)=false from bF1 hg];rfl)
    |skip
end
end
section
open Go.RowKit
set_option linter.unusedSectionVars false
def exT6:List UInt8:=[116,121,112,101,32,65,32,123,32,120,40,97,58,32,73,110,116,32,61,32,49,41,58,32,91,73,110,116,33,93,32,64,98,32,125]
def exB6:List UInt8:=[116,121,112,101,32,65,32,123,32,125]
def exS:D:=match parseD exT6 with
 |.ok q=>q
 |.error _=>default
theorem zIV:parseD exT6 = .ok exS:=by kernel_rfl
theorem ex6_bad:parseD exB6 = .error (9,3):=by kernel_rfl
theorem of_dec6 {p:Prop} [Decidable p] (h:decide p=true):p:=of_decide_eq_true h
theorem ff_t6 {b:Bool} (h:b=false) (h2:b=true):False:=by rw [h] at h2;cases h2
theorem AC.arg6 {e:Ge} {P:Program} {f:FuncId} {args args':List V} {r:V} (hle:VLeL args' args) (h:AC e P f args r):AC e P f args' r:=fun s w us hr hx he=>h s w us (zDp hle hr) hx he
attribute [local irreducible] wpList Calls Code.wp AW AWo OpOk seqK zq zu loopK endK AC zf Yld Sub
attribute [local irreducible] ACB ACX ACE absLexG YldG absLexH
theorem example_ac {lit:D->Bool} (hRt : ∀ d:D,AC EN5 Tryz.prog 14 [.agg (cellsV Tryz.prog 12 25 d)] (.c (.bool (docY lit (d.f 0).l)))) (hX:docY lit (exS.f 0).l=true):AC EN5 Tryz.prog 9 [] (.c (.bool true)):=by
 have h1:AC EN5 Tryz.prog 10 [.c (.string { data:=#[116,121,112,101,32,65,32,123,32,120,40,97,58,32,73,110,116,32,61,32,49,41,58,32,91,73,110,116,33,93,32,64,98,32,125] })] (zKD (.ok exS)):=by
  have:=zEy exT6 (by decide)
  rw [zIV] at this
  exact this
 have h2:AC EN5 Tryz.prog 10 [.c (.string { data:=#[116,121,112,101,32,65,32,123,32,125] })] (zKD (.error (9,3))):=by
  have:=zEy exB6 (by decide)
  rw [ex6_bad] at this
  exact this
 have h3:=hRt exS
 rw [hX] at h3
 have h4:AC EN5 Tryz.prog 14 [.agg [.c (.slice none 0 0)]] (.c (.bool false)):=by
  have h5:=hRt (zDL [])
  rw [show docY lit ((zDL []).f 0).l=false from rfl] at h5
  exact AC.arg6 (.cons (.agg (.cons (.nil _) .nil)) .nil) h5
 refine zP 115 Tryz.func9 rfl rfl rfl rfl ?_
 intro s w he
 repeat' (first
|refine zA ?_
|refine zB ?_
|refine zF ?_
|apply aw_1
 conv=>whnf
 refine ⟨?_,trivial⟩
|apply zX rfl rfl
 . conv=>lhs;whnf
 . conv=>lhs;whnf
 . first | exact bT1 ‹_› | exact bT2 ‹_›
|apply zT rfl rfl
 . conv=>lhs;whnf
 . conv=>lhs;whnf
 . first | exact bF1 ‹_› | exact bF2 ‹_›
|apply s_1
 conv=>whnf;arg 1;arg 4;arg 3;whnf
 refine ⟨?_,?_⟩
|apply zi rfl
 . conv=>lhs;whnf
 . conv=>lhs;whnf
 . first | exact h1 | exact h2 | exact h3 | exact h4
|apply zI rfl rfl rfl
 . conv=>lhs;whnf
 . conv=>lhs;whnf;arg 1;whnf
 . conv=>lhs;whnf;arg 1;whnf
 . exact ⟨by kernel_rfl,by kernel_rfl⟩
 . rfl
|apply zC rfl
 . conv=>lhs;whnf
 . conv=>lhs;whnf
 . first | rfl | assumption
 . conv=>lhs;whnf;arg 2;whnf
|apply zh rfl
 . conv=>lhs;whnf
 . conv=>lhs;whnf
 . first | rfl | assumption
 . conv=>lhs;whnf
 . first | exact h1 | exact h2 | exact h3 | exact h4
|apply zW rfl
 . conv=>lhs;whnf
 . conv=>lhs;whnf
 . first | rfl | assumption
|apply zH rfl
 . conv=>lhs;whnf
 . conv=>lhs;whnf
 . conv=>lhs;whnf;arg 2;whnf
|refine zE ?_
|refine ⟨_,by conv=>lhs;whnf;arg 2;whnf,?_⟩;conv=>rhs;whnf
|exact trivial
|intro hg)
 all_goals first
  |exact of_dec6 (by kernel_rfl)
  |exact (ff_t6 ‹_› (by kernel_rfl)).elim
  |exact cB (by kernel_rfl)
  |skip
end
section
open Go.RowKit
set_option linter.unusedSectionVars false
def wrapsI (l:List D):Nat->Nat->Bool
 |0,_=>true
 |j+1,i=>((gD l i).n==1||(gD l i).n==2) && !((gD l i).n==1&&decide (0<i)&&(gD l (i-1)).n==(gD l i).n)&&wrapsI l j (i+1)
theorem zEg (x:D) (l:List D) : ∀ (j i:Nat),wrapsI (x::l) j (i+2)=wrapsI l j (i+1)
 |0,_=>rfl
 |j+1,i=>by
  unfold wrapsI
  rw [zEg x l j (i+1)]
  have e1:gD (x::l) (i+2)=gD l (i+1):=rfl
  have e2:gD (x::l) (i+2-1)=gD l (i+1-1):=rfl
  have e3:decide (0<i+2)=decide (0<i+1):=by simp
  rw [e1,e2,e3]
theorem zJf : ∀ l:List D,wrapsI l l.length 0=zBE (l.map D.n)
 |[]=>rfl
 |[x]=>by
  show (((x.n==1||x.n==2) && !(x.n==1&&decide (0<0)&&_))&&true)=(x.n==1||x.n==2)
  simp
 |x::y::r=>by
  have ih:=zJf (y::r)
  show (((x.n==1||x.n==2) && !(x.n==1&&decide (0<0)&&_))&&wrapsI (x::y::r) (r.length+1) 1)=((x.n==1||x.n==2) && !(x.n==1&&y.n==1)&&zBE (y.n::r.map D.n))
  have e:wrapsI (x::y::r) (r.length+1) 1=(((y.n==1||y.n==2) && !(y.n==1&&true&&(x.n==y.n)))&&wrapsI (y::r) r.length 1):=by
   show (((y.n==1||y.n==2) && !(y.n==1&&true&&(x.n==y.n)))&&wrapsI (x::y::r) r.length 2)=_
   rw [zEg]
  have e2:wrapsI (y::r) (y::r).length 0=(((y.n==1||y.n==2) && !(y.n==1&&decide (0<0)&&false))&&wrapsI (y::r) r.length 1):=by
   show (((y.n==1||y.n==2) && !(y.n==1&&decide (0<0)&&_))&&wrapsI (y::r) r.length 1)=_
   simp
  rw [e]
  rw [e2] at ih
  have ih2:zBE (y.n::r.map D.n)=(((y.n==1||y.n==2) && !(y.n==1&&decide (0<0)&&false))&&wrapsI (y::r) r.length 1):=ih.symm
  rw [ih2]
  generalize wrapsI (y::r) r.length 1=q
  cases hy:(y.n==1)
  . generalize (x.n==1)=a1
    generalize (x.n==2)=a2
    generalize (y.n==2)=a3
    generalize (x.n==y.n)=a4
    cases a1<;>cases a2<;>cases a3<;>cases a4<;>cases q<;>rfl
  . have hy':y.n=1:=by simpa using hy
    rw [hy']
    generalize (x.n==1)=a1
    generalize (x.n==2)=a2
    cases a1<;>cases a2<;>cases q<;>rfl
noncomputable def HTr (d:D) (i:Nat):Vst 48:=stS 48 [(1,.bx 1 0),(16,.sl 3 (d.f 1).l),(17,.c (.int .i64 ((d.f 1).l.length:Nat))),(18,.c (.int .i64 (i:Int)))] [(1,.box 48 (cellsV Tryz.prog 12 48 d))]
end
section
open Go.RowKit
set_option linter.unusedSectionVars false
attribute [local irreducible] wpList Calls Code.wp AW AWo OpOk seqK zq zu loopK endK AC zf Yld Sub
attribute [local irreducible] ACB ACX ACE absLexG YldG absLexH
theorem zEU (s:ByteArray):AC EN5 Tryz.prog 67 [.c (.string s)] (.c (.bool (nameB s))):=by
 refine zDm (u:=.bool (nameB s)) fun σ w us hus he => ?_
 obtain ⟨rfl,hs⟩:=zEq hus
 refine ⟨fun s' w'=>rel_b,(nameP s w hs).mono ?_⟩
 rintro e w' ⟨rfl,rfl⟩
 exact ⟨rfl,Below.refl _ _⟩
theorem zHw (d:D):AC EN5 Tryz.prog 132 [.agg (cellsV Tryz.prog 12 48 d)] (.c (.bool (refR d))):=by
 refine zDF 2 (by kernel_rfl) fun hL2 => ?_
 have hl:(d.f 1).l.length<=9223372036854775807:=len_ref hL2
 clear hL2
 have hn:=zEU (d.f 0).s
 have hR:refR d=(nameB (d.f 0).s&&decide ((d.f 1).l.length<=24)&&wrapsI (d.f 1).l (d.f 1).l.length 0):=by rw [zJf];rfl
 generalize refR d=R at hR |-
 have e:decide (((d.f 1).l.length:Int)>24) = !decide ((d.f 1).l.length<=24):=by
  rw [Bool.eq_iff_iff]
  simp only [decide_eq_true_eq,Bool.not_eq_true',decide_eq_false_iff_not]
  omega
 refine zP 48 Tryz.func132 rfl rfl rfl rfl ?_
 intro s w he
 repeat' (first
|refine zA ?_
|refine zB ?_
|refine zF ?_
|apply aw_1
 conv=>whnf
 refine ⟨?_,trivial⟩
|apply zX rfl rfl
 . conv=>lhs;whnf
 . conv=>lhs;whnf
 . first | exact bT1 ‹_› | exact bT2 ‹_›
|apply zT rfl rfl
 . conv=>lhs;whnf
 . conv=>lhs;whnf
 . first | exact bF1 ‹_› | exact bF2 ‹_›
|apply s_1
 conv=>whnf;arg 1;arg 4;arg 3;whnf
 refine ⟨?_,?_⟩
|apply zi rfl
 . conv=>lhs;whnf
 . conv=>lhs;whnf
 . first | exact hn
|apply zAW rfl rfl rfl rfl
 . conv=>lhs;whnf;arg 1;whnf
 . rfl
|apply zC rfl
 . conv=>lhs;whnf
 . conv=>lhs;whnf
 . first | rfl | assumption
 . conv=>lhs;whnf;arg 2;whnf
|apply zW rfl
 . conv=>lhs;whnf
 . conv=>lhs;whnf
 . first | rfl | assumption
|apply zH rfl
 . conv=>lhs;whnf
 . conv=>lhs;whnf
 . conv=>lhs;whnf;arg 2;whnf
|refine ze (by conv=>lhs;whnf) ?_ ?_<;>intro hb
|refine zQ ?_
|refine zE ?_
|refine ⟨_,by conv=>lhs;whnf;arg 2;whnf,?_⟩;conv=>rhs;whnf
|exact trivial
|intro hg)
 . simp_all
   intros
   omega
 . have hR2:R=wrapsI (d.f 1).l (d.f 1).l.length 0:=by simp_all
   clear hR hn
   refine zn (fun j st => ∃ i,i+j=(d.f 1).l.length/\R=wrapsI (d.f 1).l j i/\Sub (cx EN5 Tryz.prog s w he) st (HTr d i)) (d.f 1).l.length ⟨0,by omega,hR2,Sub.live ⟨rfl,rfl,rfl,rfl,trivial⟩ ⟨rfl,trivial⟩⟩ ?_
   clear hR2 hg hb e
   rintro j st ⟨i,hij,hR,hs2⟩
   refine zg hs2 ?_
   clear hs2
   by_cases hi:i<(d.f 1).l.length
   . obtain ⟨j,rfl⟩ : ∃ q,j=q+1:=⟨j-1,by omega⟩
     have f1:decide ((i:Int)<((d.f 1).l.length:Nat))=true:=decide_eq_true (by omega)
     have e1:decide ((i:Int)>0)=decide (0<i):=decide_eq_decide.2 (by omega)
     have eT:((i:Int)-1).toNat=i-1:=by omega
     have hR':R=(((gD (d.f 1).l (i:Int).toNat).n==1||(gD (d.f 1).l (i:Int).toNat).n==2) && !((gD (d.f 1).l (i:Int).toNat).n==1&&decide ((i:Int)>0)&&((gD (d.f (0+1)).l ((i:Int)-1).toNat).n==(gD (d.f 1).l (i:Int).toNat).n))&&wrapsI (d.f 1).l j (i+1)):=by
      rw [hR,e1,eT,Int.toNat_natCast];rfl
     clear hR e1
     repeat' (first
|apply zz rfl rfl rfl
 . conv=>lhs;whnf
 . first | rfl | assumption
 . conv=>lhs;whnf
 . first | exact bT1 ‹_› | exact bT2 ‹_› | rfl
|apply zv rfl rfl rfl
 . conv=>lhs;whnf
 . first | rfl | assumption
 . conv=>lhs;whnf
 . first | exact bF1 ‹_› | exact bF2 ‹_› | rfl
|apply zG
 . conv=>lhs;whnf
 . assumption
|refine zA ?_
|refine zB ?_
|refine zF ?_
|refine zZ ?_
|apply aw_1
 conv=>whnf
 refine ⟨?_,trivial⟩
|apply zX rfl rfl
 . conv=>lhs;whnf
 . conv=>lhs;whnf
 . first | exact bT1 ‹_› | exact bT2 ‹_›
|apply zT rfl rfl
 . conv=>lhs;whnf
 . conv=>lhs;whnf
 . first | exact bF1 ‹_› | exact bF2 ‹_›
|apply s_1
 conv=>whnf;arg 1;arg 4;arg 3;whnf
 refine ⟨?_,?_⟩
|apply zC rfl
 . conv=>lhs;whnf
 . conv=>lhs;whnf
 . first | rfl | assumption
 . conv=>lhs;whnf;arg 2;whnf
|apply zW rfl
 . conv=>lhs;whnf
 . conv=>lhs;whnf
 . first | rfl | assumption
|apply zH rfl
 . conv=>lhs;whnf
 . conv=>lhs;whnf
 . conv=>lhs;whnf;arg 2;whnf
|refine ze (by conv=>lhs;whnf) ?_ ?_<;>intro hb
|refine zQ ?_
|refine zV ?_
|refine zw ?_
|refine zE ?_
|refine ⟨_,by conv=>lhs;whnf;arg 2;whnf,?_⟩;conv=>rhs;whnf
|exact trivial
|intro hg)
     all_goals first
      |exact zU (by omega)
      |(have h0:(i:Int)>0:=by simp_all
        exact (show 0<=(i:Int)-1/\(i:Int)-1<(((d.f 1).l.length:Nat):Int) from ⟨by omega,by omega⟩))
      |exact zAu hi
      |(have h0:(i:Int)>0:=by simp_all
        exact zU (by omega))
      |(have hN:R=wrapsI (d.f 1).l j (i+1):=by simp_all
        exact zJ (j':=j) (by omega) ⟨i+1,by omega,hN,Sub.live ⟨rfl,rfl,rfl,rfl,trivial⟩ ⟨rfl,trivial⟩⟩)
      |skip
     all_goals
      refine congrArg (fun b=>V.c (.bool b)) ?_
      clear eT f1 hi hij he
      simp_all
   . obtain rfl:j=0:=by omega
     have f1:decide ((i:Int)<((d.f 1).l.length:Nat))=false:=decide_eq_false (by omega)
     repeat' (first
|apply zD
 . conv=>lhs;whnf
 . assumption
|refine zA ?_
|refine zB ?_
|refine zF ?_
|apply aw_1
 conv=>whnf
 refine ⟨?_,trivial⟩
|apply s_1
 conv=>whnf;arg 1;arg 4;arg 3;whnf
 refine ⟨?_,?_⟩
|refine zO ?_
|refine zL rfl ?_
|refine zM ?_
|refine zE ?_
|refine ⟨_,by conv=>lhs;whnf;arg 2;whnf,?_⟩;conv=>rhs;whnf
|exact trivial)
     rw [hR];rfl
 . simp_all
end
end Go.Proofs.YthppafnlnnpciaaGreatDoor
