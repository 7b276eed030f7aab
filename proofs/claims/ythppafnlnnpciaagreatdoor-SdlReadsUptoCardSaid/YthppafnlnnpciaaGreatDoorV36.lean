import Derived.Defers
import Derived.Recover
import Derived.WideLaws
import Derived.Test.YthppafnlnnpciaaGreatDoorV35
set_option maxHeartbeats 20000000
set_option maxRecDepth 100000
set_option linter.unusedVariables false
set_option linter.unusedSimpArgs false
namespace Go.Proofs.YthppafnlnnpciaaGreatDoor
section
open Go.RowKit
attribute [local irreducible] wpList Calls Code.wp
section
variable {X:Cx} {nn:Nat} {st:Vst nn} {s:Sg} {w:World} {a:Act}
def Sg.hand (s:Sg) (ns:List Nat):Sg:={ F:=s.F,bx:=fun n=>(φout ns n).bind s.bx,tb:=fun n=>(φout ns n).bind s.tb,tk:=fun n=>match φout ns n with | some m=>s.tk m | none=>(.tuple #[],0) }
theorem zCN (s:Sg) (ns:List Nat) {i q:Nat} (hq:ns[i]? = some q):(s.hand ns).bx (pn i)=s.bx q/\(s.hand ns).tb (pn i)=s.tb q/\(s.hand ns).tk (pn i)=s.tk q:=by
 have e:φout ns (pn i)=some q:=(φout_pn ns i).trans hq
 refine ⟨?_,?_,?_⟩
 . show (φout ns (pn i)).bind s.bx=_;rw [e];rfl
 . show (φout ns (pn i)).bind s.tb=_;rw [e];rfl
 . show (match φout ns (pn i) with | some m=>s.tk m | none=>(.tuple #[],0))=_;rw [e]
theorem Inv.handed (hI:Inv X st s w a) (ns:List Nat) (hnd:ns.Nodup) {ρs:List Res} (hρ:ns.map st.rs=ρs.map some) (pk:Value->(Nat->V)->(Nat->Option Res)->Prop) (ds:List Deferred) {a':Act} (ht:a'.tmps=a.tmps) (hd:a'.defers=ds) :
 Inv (nn:=nn) ⟨X.P,X.pas,{ s.hand ns with F:=X.s0.F },X.w0,X.e,X.he,X.hp,pk,ds⟩ ⟨fun i=>renV (φin ns) (st.tm i),rsOf (ρs.map (renR (φin ns)))⟩ (s.hand ns) w a':=by
 have hφ1 : ∀ n m,φin ns n=some m->(s.hand ns).bx m=s.bx n/\(s.hand ns).tk m=s.tk n:=fun n m hm=>by
  obtain ⟨i,hi,rfl⟩:=Option.map_eq_some_iff.1 hm
  exact ⟨(zCN s ns (zBO hi)).1,(zCN s ns (zBO hi)).2.2⟩
 have hbs : ∀ (i:Nat) (ρ:Res),(ρs.map (renR (φin ns)))[i]? = some ρ -> ∃ q ρ0,ns[i]? = some q/\st.rs q=some ρ0/\ρ=renR (φin ns) ρ0:=fun i ρ hi=>by
  rw [List.getElem?_map] at hi
  obtain ⟨ρ0,h1,rfl⟩:=Option.map_eq_some_iff.1 hi
  have h3:(ns.map st.rs)[i]? = (ρs.map some)[i]?:=by rw [hρ]
  rw [List.getElem?_map,List.getElem?_map,h1] at h3
  obtain ⟨q,hq,h4⟩:=Option.map_eq_some_iff.1 h3
  exact ⟨q,ρ0,hq,h4,rfl⟩
 refine ⟨by rw [ht];exact hI.sz,fun i hi => ?_,hd,hI.fr,hI.kp,hI.nf,⟨hI.mem.fx,fun n ρ hn => ?_,fun n ρ b hn hbk => ?_,fun n m ρ ρ' b hn hm hnb hmb => ?_⟩,fun i=>⟨rfl,.inl rfl⟩⟩
 . rw [ht]
   exact rel.ren (s:=s) (s2:=s.hand ns) rfl hφ1 _ _ (hI.tm i hi)
 . obtain ⟨i,rfl,hi⟩:=zAO hn
   obtain ⟨q,ρ0,hq,h3,rfl⟩:=hbs i ρ hi
   have hh:=zCN s ns hq
   exact Holds.ren (s:=s) (s2:=s.hand ns) rfl hφ1 hh.1 hh.2.1 hh.2.2 (hI.mem.ho q ρ0 h3)
 . obtain ⟨i,rfl,hi⟩:=zAO hn
   obtain ⟨q,ρ0,hq,h3,rfl⟩:=hbs i ρ hi
   have hh:=zCN s ns hq
   exact hI.mem.bs q ρ0 b h3 ((bk_ren hh.1 hh.2.1).1 hbk)
 . obtain ⟨i,rfl,hi⟩:=zAO hn
   obtain ⟨j,rfl,hj⟩:=zAO hm
   obtain ⟨q,ρ0,hq,h3,rfl⟩:=hbs i ρ hi
   obtain ⟨q',ρ1,hq',h3',rfl⟩:=hbs j ρ' hj
   have hh:=zCN s ns hq
   have hh':=zCN s ns hq'
   have e:=hI.mem.dj q q' _ _ b h3 h3' ((bk_ren hh.1 hh.2.1).1 hnb) ((bk_ren hh'.1 hh'.2.1).1 hmb)
   subst e
   have:=(zFZ hnd hq).symm.trans (zFZ hnd hq')
   cases this;rfl
theorem Inv.frame (hI:Inv X st s w a) {n2:Nat} (tm:Nat->V) (pk:Value->(Nat->V)->(Nat->Option Res)->Prop) (ds:List Deferred) {a':Act} (hz:a'.tmps.size=n2) (hd:a'.defers=ds) (ht : ∀ i,i<n2->rel X.P s w (tm i) (a'.tmps.getD i undef)) :
 Inv (nn:=n2) { X with pk:=pk,dfs:=ds } ⟨tm,st.rs⟩ s w a':=
 ⟨hz,ht,hd,hI.fr,hI.kp,hI.nf,hI.mem,hI.pe⟩
theorem Inv.named (hI:Inv X st s w a) (i:Nat):s.bx (pn i)=X.s0.bx (pn i):=(hI.pe i).1
variable {o:Oper} {K:Vst nn->Prop}
theorem opOk_isNil {t yt:TypeId} {x:Operand} (ho:o.op = .binOp .neq t x (.const .nilIface) yt) (hx:ev st x = .c .nilIface) (ht:X.P.underlying t=some (.interface (X.P.methodsAt t))) (hK:K (st.put o.dst (.c (.bool false)))):OpOk X o st K:=by
 intro s w a hI N Q hP hN
 have h1:=hI.ev x
 rw [hx,rel] at h1
 unfold Oper.wp
 have hrun:(execOp a.eval o).run X.P w = .ok (.value (.bool false)) w:=by
  simp only [execOp,ho,h1.1]
  show (do let u <- (do eqGuard .neq t x (.const .nilIface) .nilIface .nilIface;binOp .neq t .nilIface .nilIface:Sem Value);pure (.value u):Sem Next).run X.P w=_
  rw [eqGuard_nil_constR]
  simp only [Sem.run_bind,Sem.run_pure,Result.andThen_ok,run_neq_nil_nil w t ht]
 rw [hrun,Oper.upon_value]
 exact hN _ _ _ _ (hI.put o.dst (by rw [rel];exact ⟨rfl,trivial⟩)) hK
theorem zJj {t yt u:TypeId} {x:Operand} {y:Value} (ho:o.op = .binOp .neq t x (.const .nilIface) yt) (hx:ev st x = .c (.iface u y)) (ht:X.P.underlying t=some (.interface (X.P.methodsAt t))) (hK:K (st.put o.dst (.c (.bool true)))):OpOk X o st K:=by
 intro s w a hI N Q hP hN
 have h1:=hI.ev x
 rw [hx,rel] at h1
 unfold Oper.wp
 have hrun:(execOp a.eval o).run X.P w = .ok (.value (.bool true)) w:=by
  simp only [execOp,ho,h1.1]
  show (do let v <- (do eqGuard .neq t x (.const .nilIface) (.iface u y) .nilIface;binOp .neq t (.iface u y) .nilIface:Sem Value);pure (.value v):Sem Next).run X.P w=_
  have e:eqGuard .neq t x (.const .nilIface) (.iface u y) .nilIface=pure ():=rfl
  rw [e]
  simp only [Sem.run_bind,Sem.run_pure,Result.andThen_ok,run_neq_held_nil w t u y ht]
 rw [hrun,Oper.upon_value]
 exact hN _ _ _ _ (hI.put o.dst (by rw [rel];exact ⟨rfl,trivial⟩)) hK
end
section
variable {X:Cx} {nn:Nat} {st:Vst nn} {o:Oper} {ops:Array Oper} {l:List Oper} {KK:Vst nn->Prop} {d:Option Tmp}
theorem s_isNil {t yt:TypeId} {x:Operand} (hg:o.guard=none) (ho:o.op = .binOp .neq t x (.const .nilIface) yt) (hd:o.dst=d) (hx:ev st x = .c .nilIface) (ht:X.P.underlying t=some (.interface (X.P.methodsAt t))) (hK:AWo X ops l (st.put d (.c (.bool false))) KK):AWo X ops (o::l) st KK:=
 zy hg (opOk_isNil ho hx ht (by rw [hd];exact hK))
theorem s_notNil {t yt u:TypeId} {x:Operand} {y:Value} (hg:o.guard=none) (ho:o.op = .binOp .neq t x (.const .nilIface) yt) (hd:o.dst=d) (hx:ev st x = .c (.iface u y)) (ht:X.P.underlying t=some (.interface (X.P.methodsAt t))) (hK:AWo X ops l (st.put d (.c (.bool true))) KK):AWo X ops (o::l) st KK:=
 zy hg (zJj ho hx ht (by rw [hd];exact hK))
end
section
variable {X:Cx} {nn:Nat} {st:Vst nn}
theorem zJV {st':Vst nn} {s:Sg} {w:World} {a:Act} (h:Sub X st st') (hI:Inv X st s w a) : ∃ s',Inv X st' s' w a:=h s w a hI
theorem zLh {c:Code} {K:Exit->Vst nn->Prop} {s:Sg} {w:World} {a:Act} (h:AW X c st K) (hI:Inv X st s w a):c.wp X.P (fun e a' w' => ∃ (st':Vst nn) (s':Sg),Inv X st' s' w' a'/\(K e st'\/PX X e st')) a w:=h s w a hI
def AWQ (X:Cx) (c:Code) (st:Vst nn) (Q:Exit->Act->World->Prop):Prop:=∀ s w a,Inv X st s w a->c.wp X.P Q a w
def qK (X:Cx) (y:Code) (Q:Exit->Act->World->Prop):Exit->Vst nn->Prop
 |.normal,st=>AWQ X y st Q
 |e,st => ∀ s w a,Inv X st s w a->Q e a w
theorem k_q {y:Code} {Q:Exit->Act->World->Prop} (h:AWQ X y st Q):qK X y Q .normal st:=h
theorem k_qr {y:Code} {Q:Exit->Act->World->Prop} (h : ∀ s w a,Inv X st s w a->Q .ret a w):qK X y Q .ret st:=h
theorem zKD {c:Code} {Q:Exit->Act->World->Prop} {s:Sg} {w:World} {a:Act} (h:AWQ X c st Q) (hI:Inv X st s w a):c.wp X.P Q a w:=h s w a hI
theorem awq_by {c:Code} {Q:Exit->Act->World->Prop} (h : ∀ s w a,Inv X st s w a->c.wp X.P Q a w):AWQ X c st Q:=h
theorem zCU {x y:Code} {Q:Exit->Act->World->Prop} (hP:PQ X nn Q) (h:AW X x st (qK X y Q)):AWQ X (.seq x y) st Q:=fun s w a hI =>
 wp_seq (Code.wp_mono (fun e a' w' ⟨st',s',hI',hK⟩=>by
  rcases hK with hK | ⟨pv,rfl,hp⟩
  . cases e
    case normal=>exact hK s' w' a' hI'
    all_goals exact hK s' w' a' hI'
  . exact hP pv st' s' w' a' hI' hp) (h s w a hI))
theorem awq_sub {c:Code} {st':Vst nn} {Q:Exit->Act->World->Prop} (hs:Sub X st st') (h:AWQ X c st' Q):AWQ X c st Q:=fun s w a hI=>by
 obtain ⟨s',hI'⟩:=hs s w a hI
 exact h s' w a hI'
theorem zFX {e:Ge} {P:Program} {fn:Func} {args:List V} {s:Sg} {w:World} {us:Array Value} (he:e.E w) (hnn:args.length+(fn.ntmps-args.length)=nn) (hus:relL P s w args us.toList) (hfx : ∀ b o,s.F b o->(w.cell? ⟨b,o,none⟩).isSome) :
 Inv (cx e P s w he) (st0 nn args) s w { tmps:=us++Array.replicate (fn.ntmps-us.size) undef,defers:=[] }:=by
 have hlen:=hus.length
 have hl2:us.toList.length=us.size:=by simp
 refine ⟨by simp;omega,fun i hi => ?_,rfl,Frm.refl _ _,Keeps.refl,fun _ _ _ _ h=>h,⟨hfx,fun n ρ h=>by simp [st0] at h,fun n ρ b h=>by simp [st0] at h,fun n m ρ ρ' b h=>by simp [st0] at h⟩,PE.refl _⟩
 show rel P s w (args.getD i .any) _
 by_cases hi2:i<args.length
 . have h1:args[i]? = some args[i]:=List.getElem?_eq_getElem hi2
   have hi3:i<us.size:=by omega
   have h2:us.toList[i]? = some us[i]:=by rw [Array.getElem?_toList];exact Array.getElem?_eq_getElem hi3
   rw [List.getD_eq_getElem?_getD,h1]
   have:(us++Array.replicate (fn.ntmps-us.size) undef).getD i undef=us[i]:=by
    rw [Array.getD_eq_getD_getElem?,Array.getElem?_append_left hi3,Array.getElem?_eq_getElem hi3];rfl
   rw [this]
   exact hus.get i _ _ h1 h2
 . rw [List.getD_eq_getElem?_getD,List.getElem?_eq_none (by omega)]
   simp [rel]
def acR (P:Program) (s:Sg) (w:World) (r:V):Ending->World->Prop:=fun en w' => ∃ v F',en = .returned v/\Frm (fun _=>False) w w'/\Keeps s.F F' w w'/\(∀ b o,F' b o->(w'.cell? ⟨b,o,none⟩).isSome)/\(∀ b o,b<w.heap.size->F' b o->s.F b o)/\rel P { s with F:=F' } w' r v
theorem ac_by {e:Ge} {P:Program} {f:FuncId} {args:List V} {r:V} (h : ∀ (s:Sg) (w:World) (us:Array Value),relL P s w args us.toList->(∀ b o,s.F b o->(w.cell? ⟨b,o,none⟩).isSome)->e.E w->Calls P f us w (acR P s w r)):AC e P f args r:=h
theorem ac_fin {P:Program} {s:Sg} {w:World} {fn:Func} {s':Sg} {w':World} {a':Act} {r:V} (hI:Inv X st s' w' a') (hP:X.P=P) (hpas:X.pas=fun _=>False) (hF:X.s0.F=s.F) (hw:X.w0=w) (hv:retV P st fn.results.toList r) (hr:r.pure=true) :
 ∃ v,(results fn a'.tmps).run P w' = .ok v w'/\acR P s w r (.returned v) w':=by
 subst hP
 subst hw
 obtain ⟨u,h1,h2⟩:=zHC hv hI
 have hfr:=hI.fr
 rw [hpas] at hfr
 refine ⟨u,h1,u,s'.F,rfl,hfr,by rw [<- hF];exact hI.kp,hI.mem.fx,fun b o hb => ?_,rel.only (s:=s') (s':={ s with F:=s'.F }) (P:=X.P) rfl r u hr h2⟩
 rw [<- hF]
 exact hI.nf b o hb (by rw [hpas];exact fun h=>h)
end
end
section
open Go.RowKit
attribute [local irreducible] wpList Calls Code.wp AW AWo OpOk seqK zq zt loopK endK AC zg Yld Sub
attribute [local irreducible] ACB ACX ACE absLexG YldG AWQ qK
theorem ifT:Tryz.prog.underlying 20=some (.interface (Tryz.prog.methodsAt 20)):=by kernel_rfl
section
variable {pas:Nat->Prop} {s0:Sg} {w0:World} {he:EN5.E w0} {hp : ∀ k,k<EN5.G -> ¬ pas k} {pk:Value->(Nat->V)->(Nat->Option Res)->Prop} {dfs:List Deferred} {st:Vst 24} {s:Sg} {w:World} {a:Act}
def slotsP:List (Nat × V):=[(2,.bx (pn 0) 0),(3,.bx (pn 1) 0),(4,.bx (pn 2) 0)]
theorem zKC {P:Program} {s s':Sg} {w w':World} {k:Nat} {u:Value} (h:rel P s w (.bx k 0) u) (hs:s'.bx k=s.bx k):rel P s' w' (.bx k 0) u:=by
 rw [rel] at h |-;rw [hs];exact h
end
theorem bx_ren {P:Program} {s s':Sg} {w:World} {k k':Nat} {u:Value} (h:rel P s w (.bx k 0) u) (hs:s'.bx k'=s.bx k):rel P s' w (.bx k' 0) u:=by
 rw [rel] at h |-;rw [hs];exact h
theorem zEF {P:Program} {s s':Sg} {w w':World} {k:Nat} {u u':Value} (h:rel P s w (.bx k 0) u) (h':rel P s' w' (.bx k 0) u') (hs:s'.bx k=s.bx k):u=u':=by
 rw [rel] at h h'
 obtain ⟨b,h1,rfl⟩:=h
 obtain ⟨b',h2,rfl⟩:=h'
 rw [hs,h1] at h2
 cases h2;rfl
section
variable {σ:Sg} {w0:World} {he:EN5.E w0} {s0:Sg} {hp : ∀ k,k<EN5.G -> ¬ False} {pk:Value->(Nat->V)->(Nat->Option Res)->Prop} {s:Sg} {w:World} {a:Act}
structure Ptrs (P:Program) (s0:Sg) (w:World) (p2 p3 p4:Value):Prop where
 p2:rel P s0 w (.bx (pn 0) 0) p2
 p3:rel P s0 w (.bx (pn 1) 0) p3
 p4:rel P s0 w (.bx (pn 2) 0) p4
end
end
section
open Go.RowKit
section
variable {X:Cx} {nn:Nat} {st:Vst nn} {o:Oper} {K:Vst nn->Prop} {ops:Array Oper} {l:List Oper} {KK:Vst nn->Prop} {d:Option Tmp}
attribute [local irreducible] wpList Calls Code.wp in
theorem zId {t xt:TypeId} {x:Operand} {cs:Array Value} {fs:Array Field} (ho:o.op = .typeAssert x xt t true) (hx:ev st x = .c (.iface t (.agg cs))) (hok:cs.toList.all okB=true) (hu:X.P.underlying t=some (.struct fs)) (hK:K (st.put o.dst (.tup [.agg (cs.toList.map .c),.c (.bool true)]))):OpOk X o st K:=by
 intro s w a hI N Q hP hN
 have h1:=hI.ev x
 rw [hx,rel] at h1
 unfold Oper.wp
 have hrun:(execOp a.eval o).run X.P w = .ok (.value (.tuple #[.agg cs,.bool true])) w:=by
  simp only [execOp,ho,h1.1]
  simp [Instr.typeAssert,run_underlying hu]
 rw [hrun,Oper.upon_value]
 refine hN _ _ _ _ (hI.put o.dst ?_) hK
 have hcs:relL X.P s w (cs.toList.map V.c) cs.toList:=by
  clear hK hN hrun h1
  generalize cs.toList=l at *
  induction l with
  |nil=>simp [relL]
  |cons y l ih =>
   rw [List.all_cons,Bool.and_eq_true] at hok
   rw [List.map_cons,relL]
   exact ⟨by rw [rel];exact ⟨rfl,zKj hok.1⟩,ih hok.2⟩
 rw [rel]
 refine ⟨#[.agg cs,.bool true],rfl,?_⟩
 show relL _ _ _ [_,_] [_,_]
 rw [relL,relL,relL,rel,rel]
 exact ⟨⟨cs,rfl,hcs⟩,⟨rfl,trivial⟩,trivial⟩
attribute [local irreducible] wpList Calls Code.wp AW AWo OpOk in
theorem s_assert2 {t xt:TypeId} {x:Operand} {cs:Array Value} {fs:Array Field} (hg:o.guard=none) (ho:o.op = .typeAssert x xt t true) (hd:o.dst=d) (hx:ev st x = .c (.iface t (.agg cs))) (hok:cs.toList.all okB=true) (hu:X.P.underlying t=some (.struct fs)) (hK:AWo X ops l (st.put d (.tup [.agg (cs.toList.map .c),.c (.bool true)])) KK):AWo X ops (o::l) st KK:=
 zy hg (zId ho hx hok hu (by rw [hd];exact hK))
end
attribute [local irreducible] wpList Calls Code.wp AW AWo OpOk seqK zq zt loopK endK AC zg Yld Sub
attribute [local irreducible] ACB ACX ACE absLexG YldG AWQ qK
def zCa (q:List V) (i e:Int):List (Nat × Res):=[(pn 0,.box 25 q),(pn 1,.box 3 [.c (.int .i64 i)]),(pn 2,.box 26 [.c (.int .i64 e)])]
noncomputable def HR_s (nn:Nat) (cs:List (Nat × V)) (q:List V) (i e:Int):Vst nn:=stS nn cs (zCa q i e)
noncomputable def HC0_s (v:Value) (q:List V) (i e:Int):Vst 22:=HR_s 22 [(0,.bx (pn 0) 0),(1,.bx (pn 1) 0),(2,.bx (pn 2) 0),(3,.c v)] q i e
def doneC_s {nn:Nat} (q:List V) (i e:Int):Exit->Vst nn->Prop
 |.normal,st=>rsOk st (zCa q i e)
 |.ret,st=>rsOk st (zCa q i e)
 |_,_=>False
noncomputable def zHp:Code:=match Tryz.f24.body with
 |some (.seq _ y)=>y
 |_ => .skip
section
variable {pas:Nat->Prop} {s0:Sg} {w0:World} {he:EN5.E w0} {hp : ∀ k,k<EN5.G -> ¬ pas k}
theorem zJ8 (q:List V) (i e:Int):AW ⟨Tryz.prog,pas,s0,w0,EN5,he,hp,fun _ _ _=>False,[]⟩ zHp (HC0_s .nilIface q i e) (doneC_s q i e):=by
 unfold zHp
 simp only [Tryz.f24]
 refine zJJ ?_
 refine zA ?_
 apply zJZ rfl
 . rfl
 . conv=>lhs;whnf;arg 2;whnf
 rotate_left 1
 . trivial
 apply s_isNil rfl rfl rfl
 . conv=>lhs;whnf
 . exact ifT
 refine zB ?_
 refine zK ?_
 repeat' (first
|apply aw_1
 conv=>whnf
 refine ⟨?_,trivial⟩)
 all_goals exact ⟨rfl,rfl,rfl,trivial⟩
theorem zJ7 (i e i' e':Int) (hok:(Lit.int .i64 i').wf=true/\(Lit.int .i64 e').wf=true):AW ⟨Tryz.prog,pas,s0,w0,EN5,he,hp,fun _ _ _=>False,[]⟩ zHp (HC0_s (.iface 60 (.agg #[.int .i64 i',.int .i64 e'])) zDoc i e) (doneC_s zDoc i' e'):=by
 unfold zHp
 simp only [Tryz.f24]
 refine zJJ ?_
 refine zA ?_
 apply zJZ rfl
 . rfl
 . conv=>lhs;whnf;arg 2;whnf
 rotate_left 1
 . trivial
 apply s_notNil rfl rfl rfl
 . conv=>lhs;whnf
 . exact ifT
 refine zB ?_
 refine zK ?_
 refine zZ (b:=true) rfl (fun _ => ?_) fun h=>by cases h
 refine zJJ ?_
 refine zA ?_
 apply zJZ rfl
 . rfl
 . conv=>lhs;whnf;arg 2;whnf
 rotate_left 1
 . trivial
 apply s_assert2 (fs:=Tryz.prog.fieldsOf 60) rfl rfl rfl
 . conv=>lhs;whnf
 . simp [okB,hok]
 . kernel_rfl
 have K:(!true)=true->False:=by decide
 repeat' (first
|apply zJL 8 ([(2,[4]),(4,[4])]) ([(5,[1000000]),(6,[1000001]),(7,[1000002])]) rfl (by kernel_rfl) (by kernel_rfl) (by kernel_rfl)
|apply zHh
|apply zHg rfl
 . conv=>lhs;whnf
 . conv=>lhs;whnf;arg 2;whnf
|apply zCO rfl rfl rfl
 . conv=>lhs;whnf
 . rfl
 . conv=>lhs;whnf;arg 1;whnf
 . conv=>lhs;whnf;arg 1;whnf
 . exact ⟨by kernel_rfl,by kernel_rfl⟩
 . rfl
|show inO _ _=true;rfl
|refine zA ?_
|refine zB ?_
|refine zK ?_
|apply aw_1
 conv=>whnf
 refine ⟨?_,trivial⟩
|apply s_1
 conv=>whnf;arg 1;arg 4;arg 3;whnf
 refine ⟨?_,?_⟩
|apply zV rfl rfl rfl
 . conv=>lhs;whnf
 . conv=>lhs;whnf;arg 1;whnf
 . conv=>lhs;whnf;arg 1;whnf
 . exact ⟨by kernel_rfl,by kernel_rfl⟩
 . rfl
|exact trivial)
 all_goals exact ⟨rfl,rfl,rfl,trivial⟩
end
section
variable {pas:Nat->Prop} {s0:Sg} {w0:World} {he:EN5.E w0} {hp : ∀ k,k<EN5.G -> ¬ pas k} {pk:Value->(Nat->V)->(Nat->Option Res)->Prop} {dfs:List Deferred} {st:Vst 26} {s:Sg} {w:World} {a:Act}
theorem rs_HR_s {nn:Nat} {st:Vst nn} {nn2:Nat} {cs:List (Nat × V)} {q:List V} {i e:Int} (h:rsOk st (zCa q i e)) : ∀ n ρ,(HR_s nn2 cs q i e).rs n=some ρ->st.rs n=some ρ:=fun n ρ hn=>by
 simp only [HR_s,stS] at hn
 split at hn
 . rename_i p hp
   have hm:=List.mem_of_find?_eq_some hp
   have he:=List.find?_some hp
   simp at he
   cases hn
   subst he
   exact zHB h p hm
 . cases hn
theorem back_in_s {pk':Value->(Nat->V)->(Nat->Option Res)->Prop} {dfs':List Deferred} {n2:Nat} {st':Vst n2} {s':Sg} {w':World} {a':Act} {q q':List V} {i e i' e':Int}
 (hI:Inv ⟨Tryz.prog,pas,s0,w0,EN5,he,hp,pk,dfs⟩ (HR_s 26 slotsP q i e) s w a) (hI':Inv ⟨Tryz.prog,pas,s0,w0,EN5,he,hp,pk',dfs'⟩ st' s' w' a') (hr:rsOk st' (zCa q' i' e')) :
 Inv ⟨Tryz.prog,pas,s0,w0,EN5,he,hp,pk,dfs⟩ (HR_s 26 slotsP q' i' e') s' w' a:=by
 have hk : ∀ k,s'.bx (pn k)=s.bx (pn k):=fun k=>(hI'.named k).trans (hI.named k).symm
 refine ⟨hI.sz,fun j hj => ?_,hI.df,hI'.fr,hI'.kp,hI'.nf,hI'.mem.sub (rs_HR_s hr),hI'.pe⟩
 have ht:=hI.tm j hj
 by_cases h2:j=2
 . subst h2;exact zKC (k:=pn 0) ht (hk 0)
 by_cases h3:j=3
 . subst h3;exact zKC (k:=pn 1) ht (hk 1)
 by_cases h4:j=4
 . subst h4;exact zKC (k:=pn 2) ht (hk 2)
 have e:(HR_s 26 slotsP q' i' e').tm j = .any:=by
  simp [HR_s,stS,slotsP,List.find?,beq_eq_false_iff_ne.2 (Ne.symm h2),beq_eq_false_iff_ne.2 (Ne.symm h3),beq_eq_false_iff_ne.2 (Ne.symm h4)]
 rw [e];simp [rel]
theorem zK5 {q:List V} {i e:Int} (hI:Inv ⟨Tryz.prog,pas,s0,w0,EN5,he,hp,pk,dfs⟩ (HR_s 26 slotsP q i e) s w a) (v:Value) (hv:okV v) {a1:Act} (hz:a1.tmps.size=22) (hd:a1.defers=[]) (h0:a1.tmps.getD 0 undef=a.tmps.getD 2 undef) (h1:a1.tmps.getD 1 undef=a.tmps.getD 3 undef) (h2:a1.tmps.getD 2 undef=a.tmps.getD 4 undef) (h3:a1.tmps.getD 3 undef=v) :
 Inv ⟨Tryz.prog,pas,s0,w0,EN5,he,hp,fun _ _ _=>False,[]⟩ (HC0_s v q i e) s w a1:=by
 refine ⟨hz,fun j hj => ?_,hd,hI.fr,hI.kp,hI.nf,hI.mem.sub fun n ρ hn=>hn,hI.pe⟩
 by_cases j0:j=0
 . subst j0;rw [h0];exact hI.tm 2 (by omega)
 by_cases j1:j=1
 . subst j1;rw [h1];exact hI.tm 3 (by omega)
 by_cases j2:j=2
 . subst j2;rw [h2];exact hI.tm 4 (by omega)
 by_cases j3:j=3
 . subst j3;rw [h3];show rel _ _ _ (.c v) v;rw [rel];exact ⟨rfl,hv⟩
 have e:(HC0_s v q i e).tm j = .any:=by
  simp [HC0_s,HR_s,stS,List.find?,beq_eq_false_iff_ne.2 (Ne.symm j0),beq_eq_false_iff_ne.2 (Ne.symm j1),beq_eq_false_iff_ne.2 (Ne.symm j2),beq_eq_false_iff_ne.2 (Ne.symm j3)]
 rw [e];simp [rel]
theorem call_ret_s (q:List V) (i e:Int) (hI:Inv ⟨Tryz.prog,pas,s0,w0,EN5,he,hp,pk,dfs⟩ (HR_s 26 slotsP q i e) s w a) :
 CallsD Tryz.prog 24 #[a.tmps.getD 2 undef,a.tmps.getD 3 undef,a.tmps.getD 4 undef] .returning w fun en u' w'=>en = .returned (.tuple #[])/\u' = .returning /\ ∃ s',Inv ⟨Tryz.prog,pas,s0,w0,EN5,he,hp,pk,dfs⟩ (HR_s 26 slotsP q i e) s' w' a:=by
 refine callsD_of_wpS Tryz.func24 rfl fun c₀ cs hu => ?_
 apply wpS_seq
 apply wpS_region
 simp [wpOpsS,go_sem,recoverD,hu,Exit.thenS]
 refine wpS_of_wp (Code.wp_mono (fun en a' w' ⟨st',s',hI',hK⟩ => ?_) (zLh (zJ8 (pas:=pas) (s0:=s0) (w0:=w0) (he:=he) (hp:=hp) q i e) (zK5 hI .nilIface trivial (by simp) rfl (by simp) (by simp) (by simp) (by simp))))
 have fin:rsOk st' (zCa q i e)->a'.defers=[] /\ ∃ u',c₀::cs = { c₀ with mode:=u' }::cs /\ ∃ v,(results Tryz.f24 a'.tmps).run Tryz.prog w' = .ok v w'/\(Ending.returned v = .returned (.tuple #[])/\u' = .returning /\ ∃ s',Inv ⟨Tryz.prog,pas,s0,w0,EN5,he,hp,pk,dfs⟩ (HR_s 26 slotsP q i e) s' w' a):=fun hr =>
  ⟨hI'.df,.returning,by cases c₀;simp_all,.tuple #[],by simp [results,Tryz.f24],rfl,rfl,s',back_in_s hI hI' hr⟩
 rcases hK with hK | ⟨_,_,hK⟩
 . cases en
   case normal=>exact fin hK
   case ret=>exact fin hK
   all_goals exact hK.elim
 . exact hK.elim
theorem call_pan_s (i e i' e':Int) (hok:(Lit.int .i64 i').wf=true/\(Lit.int .i64 e').wf=true) (hI:Inv ⟨Tryz.prog,pas,s0,w0,EN5,he,hp,pk,dfs⟩ (HR_s 26 slotsP zDoc i e) s w a) :
 CallsD Tryz.prog 24 #[a.tmps.getD 2 undef,a.tmps.getD 3 undef,a.tmps.getD 4 undef] (.panicking [{ v:=.iface 60 (.agg #[.int .i64 i',.int .i64 e']),recovered:=false }]) w fun en u' w'=>en = .returned (.tuple #[])/\settle u' = .returning /\ ∃ s',Inv ⟨Tryz.prog,pas,s0,w0,EN5,he,hp,pk,dfs⟩ (HR_s 26 slotsP zDoc i' e') s' w' a:=by
 refine callsD_of_wpS Tryz.func24 rfl fun c₀ cs hu => ?_
 apply wpS_seq
 apply wpS_region
 simp [wpOpsS,go_sem,recoverD,hu,Exit.thenS]
 refine wpS_of_wp (Code.wp_mono (fun en a' w' ⟨st',s',hI',hK⟩ => ?_) (zLh (zJ7 (pas:=pas) (s0:=s0) (w0:=w0) (he:=he) (hp:=hp) i e i' e' hok) (zK5 hI (.iface 60 (.agg #[.int .i64 i',.int .i64 e'])) trivial (by simp) rfl (by simp) (by simp) (by simp) (by simp))))
 have fin:rsOk st' (zCa zDoc i' e')->a'.defers=[] /\ ∃ u',{ c₀ with mode:=.panicking [{ v:=.iface 60 (.agg #[.int .i64 i',.int .i64 e']),recovered:=true }] }::cs = { c₀ with mode:=u' }::cs /\ ∃ v,(results Tryz.f24 a'.tmps).run Tryz.prog w' = .ok v w'/\(Ending.returned v = .returned (.tuple #[])/\settle u' = .returning /\ ∃ s',Inv ⟨Tryz.prog,pas,s0,w0,EN5,he,hp,pk,dfs⟩ (HR_s 26 slotsP zDoc i' e') s' w' a):=fun hr =>
  ⟨hI'.df,_,rfl,.tuple #[],by simp [results,Tryz.f24],rfl,rfl,s',back_in_s hI hI' hr⟩
 rcases hK with hK | ⟨_,_,hK⟩
 . cases en
   case normal=>exact fin hK
   case ret=>exact fin hK
   all_goals exact hK.elim
 . exact hK.elim
end
def zFm (p q r:Value):Deferred:={ target:=.fn (.func 24) #[p,q,r],args:=#[] }
section
variable {σ:Sg} {w0:World} {he:EN5.E w0} {s0:Sg} {hp : ∀ k,k<EN5.G -> ¬ False} {pk:Value->(Nat->V)->(Nat->Option Res)->Prop} {s:Sg} {w:World} {a:Act}
theorem zJr {p2 p3 p4:Value} {w1:World} {r:V} (l1:List D) (i e:Int) (hF:s0.F=σ.F) (hps:Ptrs Tryz.prog s0 w1 p2 p3 p4) (hI:Inv ⟨Tryz.prog,fun _=>False,s0,w0,EN5,he,hp,pk,[zFm p2 p3 p4]⟩ (HR_s 26 slotsP [.sl 45 l1] i e) s w a)
 (hr:r = .tup [.agg [.sl 45 l1],.c (.int .i64 i),.c (.int .i64 e)]):Leaves Tryz.prog Tryz.f10 a.tmps (acR Tryz.prog σ w0 r) [zFm p2 p3 p4] .returning w:=by
 have e2:p2=a.tmps.getD 2 undef:=zEF hps.p2 (hI.tm 2 (by omega)) (hI.named 0)
 have e3:p3=a.tmps.getD 3 undef:=zEF hps.p3 (hI.tm 3 (by omega)) (hI.named 1)
 have e4:p4=a.tmps.getD 4 undef:=zEF hps.p4 (hI.tm 4 (by omega)) (hI.named 2)
 have hc:=call_ret_s _ i e hI
 rw [<- e2,<- e3,<- e4] at hc
 refine leaves_cons (f:=24) (args:=#[p2,p3,p4]) (by simp) (by simp [go_sem]) (hc.mono ?_)
 rintro en u' w' ⟨rfl,rfl,s',hI'⟩
 exact ac_fin hI' rfl rfl hF rfl ⟨_,_,_,rfl,rfl,rfl,hr⟩ (by rw [hr];rfl)
theorem zJs {p2 p3 p4:Value} {w1:World} (i e i' e':Int) (hok:(Lit.int .i64 i').wf=true/\(Lit.int .i64 e').wf=true) (hF:s0.F=σ.F) (hps:Ptrs Tryz.prog s0 w1 p2 p3 p4) (hI:Inv ⟨Tryz.prog,fun _=>False,s0,w0,EN5,he,hp,pk,[zFm p2 p3 p4]⟩ (HR_s 26 slotsP zDoc i e) s w a) :
 Leaves Tryz.prog Tryz.f10 a.tmps (acR Tryz.prog σ w0 (.tup [.agg zDoc,.c (.int .i64 i'),.c (.int .i64 e')])) [zFm p2 p3 p4] (.panicking [{ v:=.iface 60 (.agg #[.int .i64 i',.int .i64 e']),recovered:=false }]) w:=by
 have e2:p2=a.tmps.getD 2 undef:=zEF hps.p2 (hI.tm 2 (by omega)) (hI.named 0)
 have e3:p3=a.tmps.getD 3 undef:=zEF hps.p3 (hI.tm 3 (by omega)) (hI.named 1)
 have e4:p4=a.tmps.getD 4 undef:=zEF hps.p4 (hI.tm 4 (by omega)) (hI.named 2)
 have hc:=call_pan_s i e i' e' hok hI
 rw [<- e2,<- e3,<- e4] at hc
 refine leaves_cons (f:=24) (args:=#[p2,p3,p4]) (by simp) (by simp [go_sem]) (hc.mono ?_)
 rintro en u' w' ⟨rfl,hs,s',hI'⟩
 show Leaves _ _ _ _ [] (settle u') w'
 rw [hs]
 exact ac_fin hI' rfl rfl hF rfl ⟨_,_,_,rfl,rfl,rfl,rfl⟩ rfl
end
noncomputable abbrev zFB (ts:List Tok):V:=.sl 89 (ts.map tokD)
theorem etaPz_s (ts:List Tok):[V.sl 89 (ts.map tokD),.c (.int .i64 0)]=clS ts ⟨ts,false,0⟩:=by
 unfold clS
 rw [Nat.sub_self];rfl
noncomputable def HP2_s (ts:List Tok):Vst 26:=stS 26 [(2,.bx 2 0),(3,.bx 3 0),(4,.bx 4 0),(5,zFB ts)] [(2,.box 25 zDoc),(3,.box 3 [.c (.int .i64 0)]),(4,.box 26 [.c (.int .i64 0)])]
noncomputable def HP3_s (ts:List Tok):Vst 26:=HR_s 26 [(2,.bx (pn 0) 0),(3,.bx (pn 1) 0),(4,.bx (pn 2) 0),(5,zFB ts)] zDoc 0 0
section
variable {σ:Sg} {w0:World} {he:EN5.E w0}
theorem zJh (s:List UInt8) (i:Nat) (e:Int) (he0:e≠0) (hsc:AC EN5 Tryz.prog 23 [.c (.string (bs s))] (.tup [.c (.slice none 0 0),.c (.int .i64 (i:Int)),.c (.int .i64 e)])) :
 AC EN5 Tryz.prog 10 [.c (.string (bs s))] (.tup [.agg zDoc,.c (.int .i64 (i:Int)),.c (.int .i64 e)]):=by
 refine ac_by fun σ w us hus hfx he => ?_
 refine calls_of_wp_defers Tryz.func10 rfl ?_
 have hI:=zFX (nn:=26) (fn:=Tryz.f10) he rfl hus hfx
 have hP : ∀ Q,PQ (cx EN5 Tryz.prog σ w he) 26 Q:=fun Q _ _ _ _ _ _ h=>h.elim
 refine zKD ?_ hI
 clear hI
 refine zCU (hP _) ?_
 repeat' (first
|refine zA ?_
|refine zB ?_
|apply s_1
 conv=>whnf;arg 1;arg 4;arg 3;whnf
 refine ⟨?_,?_⟩
|exact trivial)
 refine k_q ?_
 refine zCU (hP _) ?_
 repeat' (first
|refine zA ?_
|refine zB ?_
|apply s_1
 conv=>whnf;arg 1;arg 4;arg 3;whnf
 refine ⟨?_,?_⟩
|apply zb rfl
 . conv=>lhs;whnf
 . conv=>lhs;whnf
 . first | exact hsc
|exact trivial)
 refine k_q ?_
 refine zCU (hP _) ?_
 repeat' (first
|refine zA ?_
|refine zB ?_
|refine zK ?_
|apply aw_1
 conv=>whnf
 refine ⟨?_,trivial⟩
|apply s_1
 conv=>whnf;arg 1;arg 4;arg 3;whnf
 refine ⟨?_,?_⟩
|apply zV rfl rfl rfl
 . conv=>lhs;whnf
 . conv=>lhs;whnf;arg 1;whnf
 . conv=>lhs;whnf;arg 1;whnf
 . exact ⟨by kernel_rfl,by kernel_rfl⟩
 . rfl
|refine zZ (by conv=>lhs;whnf) ?_ ?_<;>intro hb
|exact trivial)
 . refine k_qr fun s' w' a' hI' => ?_
   show Leaves _ _ _ _ a'.defers .returning w'
   rw [hI'.df]
   exact ac_fin hI' rfl rfl rfl rfl ⟨_,_,_,rfl,rfl,rfl,rfl⟩ rfl
 . exact absurd hb (by simp [he0])
noncomputable def restP_s:Code:=match Tryz.f10.body with
 |some (.seq _ (.seq _ (.seq _ (.seq _ y))))=>y
 |_ => .skip
def endP_s (d:List D):Exit->Vst 26->Prop
 |.ret,st=>tmOk st slotsP/\rsOk st (zCa [.sl 45 d] 0 0)
 |_,_=>False
def pkP_s (x:Nat × Int) (pv:Value) (tm:Nat->V) (rs:Nat->Option Res):Prop:=
 pv=zFE x/\tmOk (⟨tm,rs⟩:Vst 26) slotsP/\rsOk (⟨tm,rs⟩:Vst 26) (zCa zDoc 0 0)
theorem rest_ok_s {pas:Nat->Prop} {s0:Sg} {hp : ∀ k,k<EN5.G -> ¬ pas k} {dfs:List Deferred} (ts:List Tok) (ops:List D) (x':PS)
 (hdoc:ACE EN5 Tryz.prog 25 [.bx (pn 0) 0] [boxS ts ⟨ts,false,0⟩] (outS ts (fun l=>VDc (zCl l)) (.ok (ops,x')))) :
 AW ⟨Tryz.prog,pas,s0,w0,EN5,he,hp,fun _ _ _=>False,dfs⟩ restP_s (HP3_s ts) (endP_s ops):=by
 unfold restP_s
 simp only [Tryz.f10]
 repeat' (first
|refine zA ?_
|refine zB ?_
|refine zK ?_
|apply aw_1
 conv=>whnf
 refine ⟨?_,trivial⟩
|apply s_1
 conv=>whnf;arg 1;arg 4;arg 3;whnf
 refine ⟨?_,?_⟩
|apply zAA rfl rfl rfl rfl
 . conv=>lhs;whnf;arg 1;whnf
 . rfl
|exact trivial)
 apply s_pr (clS ts) (zR ts) rfl
 . rfl
 . conv=>lhs;whnf
 . rfl
 . conv=>lhs;whnf;arg 1;whnf
 . exact etaPz_s _
 . exact hdoc
 . exact fun _=>rfl
 . intro _ _;unfold VDc;simp only [renL,renV,ren_cells]
 . intro ee hq;cases hq
 intro aa xx hq
 cases hq
 repeat' (first
|refine zB ?_
|refine zK ?_
|apply aw_1
 conv=>whnf
 refine ⟨?_,trivial⟩
|apply zV rfl rfl rfl
 . conv=>lhs;whnf
 . conv=>lhs;whnf;arg 1;whnf
 . conv=>lhs;whnf;arg 1;whnf
 . exact ⟨by kernel_rfl,by kernel_rfl⟩
 . rfl)
 exact ⟨⟨rfl,rfl,rfl,trivial⟩,rfl,rfl,rfl,trivial⟩
theorem rest_pan_s {pas:Nat->Prop} {s0:Sg} {hp : ∀ k,k<EN5.G -> ¬ pas k} {dfs:List Deferred} (ts:List Tok) (x:Nat × Int)
 (hdoc:ACE EN5 Tryz.prog 25 [.bx (pn 0) 0] [boxS ts ⟨ts,false,0⟩] (outS ts (fun l=>VDc (zCl l)) (.error x))) :
 AW ⟨Tryz.prog,pas,s0,w0,EN5,he,hp,pkP_s x,dfs⟩ restP_s (HP3_s ts) (fun _ _=>False):=by
 unfold restP_s
 simp only [Tryz.f10]
 repeat' (first
|refine zA ?_
|refine zB ?_
|refine zK ?_
|apply aw_1
 conv=>whnf
 refine ⟨?_,trivial⟩
|apply s_1
 conv=>whnf;arg 1;arg 4;arg 3;whnf
 refine ⟨?_,?_⟩
|apply zAA rfl rfl rfl rfl
 . conv=>lhs;whnf;arg 1;whnf
 . rfl
|exact trivial)
 apply s_pr (clS ts) (zR ts) rfl
 . rfl
 . conv=>lhs;whnf
 . rfl
 . conv=>lhs;whnf;arg 1;whnf
 . exact etaPz_s _
 . exact hdoc
 . exact fun _=>rfl
 . intro _ _;unfold VDc;simp only [renL,renV,ren_cells]
 . intro ee hq
   cases hq
   exact ⟨rfl,⟨rfl,rfl,rfl,trivial⟩,rfl,rfl,rfl,trivial⟩
 intro aa xx hq
 cases hq
noncomputable def code4_s:Code:=match Tryz.f10.body with
 |some (.seq _ (.seq _ (.seq _ y)))=>y
 |_ => .skip
theorem zES {ts:List Tok} {Q:Exit->Act->World->Prop} {s:Sg} {w:World} {a:Act} (hI:Inv (cx EN5 Tryz.prog σ w0 he) (HP2_s ts) s w a)
 (h : ∀ (s0:Sg) (p2 p3 p4:Value) (a':Act),s0.F=σ.F->Ptrs Tryz.prog s0 w p2 p3 p4->(∀ pk,∃ s',Inv ⟨Tryz.prog,fun _=>False,s0,w0,EN5,he,fun _ _ h=>h,pk,[zFm p2 p3 p4]⟩ (HP3_s ts) s' w a')->restP_s.wp Tryz.prog Q a' w):code4_s.wp Tryz.prog Q a w:=by
 unfold code4_s
 simp only [Tryz.f10]
 unfold restP_s at h
 simp only [Tryz.f10] at h
 refine wp_seq (wp_region_lit ?_)
 refine wpList_plain rfl fun K' hK' => ?_
 unfold Oper.wp
 have hrun : ∀ (ty:TypeId) (po:String),(execOp a.eval { dst:=some 20,op:=Op.makeFunc (Fn.func 24) #[] #[Operand.tmp 2,Operand.tmp 3,Operand.tmp 4],type:=ty,pos:=po,after:=#[],guard:=none }).run Tryz.prog w = .ok (.value (.func (.func 24) #[] #[a.tmps.getD 2 undef,a.tmps.getD 3 undef,a.tmps.getD 4 undef])) w:=fun ty po=>by simp [execOp,Instr.makeFunc,Act.eval]
 rw [hrun]
 rw [Oper.upon_value]
 refine hK' _ _ ?_
 refine wpList_plain rfl fun K2 hK2 => ?_
 unfold Oper.wp
 have hz:20<a.tmps.size:=by rw [hI.sz];omega
 have hev:(a.put (some 20) (.func (.func 24) #[] #[a.tmps.getD 2 undef,a.tmps.getD 3 undef,a.tmps.getD 4 undef])).eval (.tmp 20) = .func (.func 24) #[] #[a.tmps.getD 2 undef,a.tmps.getD 3 undef,a.tmps.getD 4 undef]:=by
  simp [Act.put,Act.eval,hz]
 simp only [execOp,resolve,hev,Deferred.ofValue,List.map_toArray,List.map_nil,Sem.run_bind,Sem.run_pure,Result.andThen_ok]
 rw [Oper.upon_defer]
 refine hK2 _ _ (wpList_nil ?_)
 have h20:=hI.put (some 20) (v:=.any) (u:=.func (.func 24) #[] #[a.tmps.getD 2 undef,a.tmps.getD 3 undef,a.tmps.getD 4 undef]) (by simp [rel])
 have hd:a.defers=[]:=hI.df
 refine h { s.hand [2,3,4] with F:=σ.F } (a.tmps.getD 2 undef) (a.tmps.getD 3 undef) (a.tmps.getD 4 undef) _ rfl ⟨?_,?_,?_⟩ (fun pk => ?_)
 . exact bx_ren (k:=2) (hI.tm 2 (by omega)) (zCN s [2,3,4] (i:=0) rfl).1
 . exact bx_ren (k:=3) (hI.tm 3 (by omega)) (zCN s [2,3,4] (i:=1) rfl).1
 . exact bx_ren (k:=4) (hI.tm 4 (by omega)) (zCN s [2,3,4] (i:=2) rfl).1
 . refine zJV (Sub.live (cs:=[(2,.bx (pn 0) 0),(3,.bx (pn 1) 0),(4,.bx (pn 2) 0),(5,zFB ts)]) (R:=zCa zDoc 0 0) ?_ ?_) (Inv.handed h20 [2,3,4] (by decide) (ρs:=[.box 25 zDoc,.box 3 [.c (.int .i64 0)],.box 26 [.c (.int .i64 0)]]) rfl pk [zFm (a.tmps.getD 2 undef) (a.tmps.getD 3 undef) (a.tmps.getD 4 undef)] rfl ?_)
   . exact ⟨rfl,rfl,rfl,rfl,trivial⟩
   . exact ⟨rfl,rfl,rfl,trivial⟩
   . show zFm _ _ _::a.defers=_
     rw [hd]
theorem zIW (s:List UInt8) (ts:List Tok) (hsc:AC EN5 Tryz.prog 23 [.c (.string (bs s))] (.tup [zFB ts,.c (.int .i64 0),.c (.int .i64 0)])) (ops:List D) (x':PS)
 (hdoc:ACE EN5 Tryz.prog 25 [.bx (pn 0) 0] [boxS ts ⟨ts,false,0⟩] (outS ts (fun l=>VDc (zCl l)) (.ok (ops,x')))) :
 AC EN5 Tryz.prog 10 [.c (.string (bs s))] (.tup [.agg [.sl 45 ops],.c (.int .i64 0),.c (.int .i64 0)]):=by
 refine ac_by fun σ w us hus hfx he => ?_
 refine calls_of_wp_defers Tryz.func10 rfl ?_
 have hI:=zFX (nn:=26) (fn:=Tryz.f10) he rfl hus hfx
 have hP : ∀ Q,PQ (cx EN5 Tryz.prog σ w he) 26 Q:=fun Q _ _ _ _ _ _ h=>h.elim
 refine zKD ?_ hI
 clear hI
 refine zCU (hP _) ?_
 repeat' (first
|refine zA ?_
|refine zB ?_
|apply s_1
 conv=>whnf;arg 1;arg 4;arg 3;whnf
 refine ⟨?_,?_⟩
|exact trivial)
 refine k_q ?_
 refine zCU (hP _) ?_
 repeat' (first
|refine zA ?_
|refine zB ?_
|apply s_1
 conv=>whnf;arg 1;arg 4;arg 3;whnf
 refine ⟨?_,?_⟩
|apply zb rfl
 . conv=>lhs;whnf
 . conv=>lhs;whnf
 . first | exact hsc
|exact trivial)
 refine k_q ?_
 refine zCU (hP _) ?_
 repeat' (first
|refine zA ?_
|refine zB ?_
|refine zK ?_
|apply aw_1
 conv=>whnf
 refine ⟨?_,trivial⟩
|apply s_1
 conv=>whnf;arg 1;arg 4;arg 3;whnf
 refine ⟨?_,?_⟩
|exact trivial)
 refine k_q (awq_sub (st':=HP2_s ts) (Sub.live ⟨rfl,rfl,rfl,rfl,trivial⟩ ⟨rfl,rfl,rfl,trivial⟩) (awq_by fun s1 w1 a1 hI1 => ?_))
 refine zES hI1 fun s0 p2 p3 p4 a' hF hps hpk => ?_
 obtain ⟨s2,hI2⟩:=hpk fun _ _ _=>False
 refine Code.wp_mono (fun en a3 w3 ⟨st3,s3,hI3,hK⟩ => ?_) (zLh (rest_ok_s ts ops x' hdoc) hI2)
 rcases hK with hK | ⟨_,_,hK⟩
 . cases en
   case ret =>
    obtain ⟨s4,hI4⟩:=zJV (Sub.live (cs:=slotsP) (R:=zCa [.sl 45 ops] 0 0) hK.1 hK.2) hI3
    show Leaves _ _ _ _ a3.defers .returning w3
    rw [hI3.df]
    exact zJr ops 0 0 hF hps hI4 rfl
   all_goals exact hK.elim
 . exact hK.elim
theorem zJg (s:List UInt8) (ts:List Tok) (hsc:AC EN5 Tryz.prog 23 [.c (.string (bs s))] (.tup [zFB ts,.c (.int .i64 0),.c (.int .i64 0)])) (x:Nat × Int) (hok:(Lit.int .i64 (x.1:Int)).wf=true/\(Lit.int .i64 x.2).wf=true)
 (hdoc:ACE EN5 Tryz.prog 25 [.bx (pn 0) 0] [boxS ts ⟨ts,false,0⟩] (outS ts (fun l=>VDc (zCl l)) (.error x))) :
 AC EN5 Tryz.prog 10 [.c (.string (bs s))] (.tup [.agg zDoc,.c (.int .i64 (x.1:Int)),.c (.int .i64 x.2)]):=by
 refine ac_by fun σ w us hus hfx he => ?_
 refine calls_of_wp_defers Tryz.func10 rfl ?_
 have hI:=zFX (nn:=26) (fn:=Tryz.f10) he rfl hus hfx
 have hP : ∀ Q,PQ (cx EN5 Tryz.prog σ w he) 26 Q:=fun Q _ _ _ _ _ _ h=>h.elim
 refine zKD ?_ hI
 clear hI
 refine zCU (hP _) ?_
 repeat' (first
|refine zA ?_
|refine zB ?_
|apply s_1
 conv=>whnf;arg 1;arg 4;arg 3;whnf
 refine ⟨?_,?_⟩
|exact trivial)
 refine k_q ?_
 refine zCU (hP _) ?_
 repeat' (first
|refine zA ?_
|refine zB ?_
|apply s_1
 conv=>whnf;arg 1;arg 4;arg 3;whnf
 refine ⟨?_,?_⟩
|apply zb rfl
 . conv=>lhs;whnf
 . conv=>lhs;whnf
 . first | exact hsc
|exact trivial)
 refine k_q ?_
 refine zCU (hP _) ?_
 repeat' (first
|refine zA ?_
|refine zB ?_
|refine zK ?_
|apply aw_1
 conv=>whnf
 refine ⟨?_,trivial⟩
|apply s_1
 conv=>whnf;arg 1;arg 4;arg 3;whnf
 refine ⟨?_,?_⟩
|exact trivial)
 refine k_q (awq_sub (st':=HP2_s ts) (Sub.live ⟨rfl,rfl,rfl,rfl,trivial⟩ ⟨rfl,rfl,rfl,trivial⟩) (awq_by fun s1 w1 a1 hI1 => ?_))
 refine zES hI1 fun s0 p2 p3 p4 a' hF hps hpk => ?_
 obtain ⟨s2,hI2⟩:=hpk (pkP_s x)
 refine Code.wp_mono (fun en a3 w3 ⟨st3,s3,hI3,hK⟩ => ?_) (zLh (rest_pan_s ts x hdoc) hI2)
 rcases hK with hK | ⟨pv,rfl,hK⟩
 . exact hK.elim
 . obtain ⟨rfl,h1,h2⟩:=hK
   obtain ⟨s4,hI4⟩:=zJV (Sub.live (cs:=slotsP) (R:=zCa zDoc 0 0) h1 h2) hI3
   show Leaves _ _ _ _ a3.defers (.panicking _) w3
   rw [hI3.df]
   exact zJs 0 0 x.1 x.2 hok hF hps hI4
end
end
section
section
variable {al:List Tok}
theorem zHQ {el:PS->PR D} (hv : ∀ y,Sx al y->Mz (el y)) (hl : ∀ {y z a},Sx al y->el y = .ok (a,z)->Sx al z/\z.ts.length<y.ts.length) (s:List UInt8) (most:Nat) : ∀ (f:Nat) (acc:List D) (x:PS),Sx al x->x.ts.length<f->Mz (manyF el s most f acc x)
 |0,_,_,_,h=>by omega
 |f+1,acc,x,hx,h=>by
  unfold manyF
  exact .ite (fun _ => .okk _) fun _ => .ite (fun _ => .err (by decide)) fun _ => .then (hv x hx) fun _ y hq=>zHQ hv hl s most f _ y (hl hx hq).1 (by have:=(hl hx hq).2;omega)
theorem in_mz (x:PS) (h:Sx al x):Mz (inQ x):=by
 unfold inQ
 refine .then (zBu x) fun n y h1 => .then (zDT _ y) fun u z h2 => .then (typ_mz z) fun t v h3 => .then (.ite (fun hs => ?_) fun _ => .okk _) fun d o h4 => .then (zHn o ?_) fun _ _ _ => .okk _
 . have a:=(((h.name h1).1.take h2).1.typ h3).1
   exact .then (zKJ _ (a.sg hs).1.en) fun _ _ _ => .okk _
 . have a:=(((h.name h1).1.take h2).1.typ h3).1
   by_cases hs:isS v [61]=true
   . rw [if_pos hs] at h4
     obtain ⟨d',z',h5,h6⟩:=zAf h4
     cases h6
     exact ((a.sg hs).1.whole h5).1.en
   . rw [if_neg hs] at h4;cases h4;exact a.en
theorem ins_mz (s:List UInt8) (x:PS) (h:Sx al x):Mz (insQ s x):=zHQ in_mz (fun hy hq=>hy.inp hq) _ _ _ _ _ h (Nat.lt_succ_self _)
theorem fd_mz (x:PS) (h:Sx al x):Mz (fdQ x):=by
 unfold fdQ
 refine .then (zBu x) fun n y h1 => .then (.ite (fun hs=>ins_mz _ _ ((h.name h1).1.sg hs).1) fun _ => .okk _) fun aa z h2 => .then (zDT _ z) fun u v h3 => .then (typ_mz v) fun t o h4 => .then (zHn o ?_) fun _ _ _ => .okk _
 have a:=(h.name h1).1
 have hz:Sx al z:=by
  by_cases hs:isS y [40]=true
  . rw [if_pos hs] at h2;exact ((a.sg hs).1.ins h2).1
  . rw [if_neg hs] at h2;cases h2;exact a
 exact ((hz.take h3).1.typ h4).1.en
theorem mb_mz (x:PS) (h:Sx al x):Mz (mbQ x):=.then (zBu x) fun _ y h1 => .then (zHn y (h.name h1).1.en) fun _ _ _ => .okk _
theorem zIl (s:List UInt8) : ∀ (f:Nat) (acc:List D) (x:PS),Sx al x->x.ts.length<f->Mz (namesF s f acc x)
 |0,_,_,_,h=>by omega
 |f+1,acc,x,hx,h=>by
  unfold namesF
  refine .ite (fun _ => .err (by decide)) fun _ => .then (zBu x) fun n y h1 => .ite (fun hs => ?_) fun _ => .okk _
  have a:=hx.name h1
  have b:=a.1.sg hs
  exact zIl s f _ _ b.1 (by omega)
theorem zKp (s:List UInt8) (x:PS) (h:Sx al x):Mz (zBR s x):=zIl s _ _ x h (Nat.lt_succ_self _)
theorem faces_mz (k:Int) (x:PS) (h:Sx al x):Mz (zA3 k x):=.ite (fun hs=>zKp _ _ (h.nx (by rw [hs.2.1];decide)).1) fun _ => .okk _
theorem body_mz (k:Int) (x:PS) (h:Sx al x):Mz (bodyQ k x):=by
 unfold bodyQ
 refine .ite (fun _ => .then (zDT _ x) fun _ y h1 => .then (zKp _ y (h.take h1).1) fun _ _ _ => .okk _) fun _ => .then (zDT _ x) fun _ y h1 => ?_
 have a:=(h.take h1).1
 exact .ite (fun _ => .then (ins_mz _ y a) fun _ _ _ => .okk _) fun _ => .ite (fun _ => .then (zHQ mb_mz (fun hy hq=>hy.mb hq) _ _ _ _ y a (Nat.lt_succ_self _)) fun _ _ _ => .okk _) fun _ => .then (zHQ fd_mz (fun hy hq=>hy.fd hq) _ _ _ _ y a (Nat.lt_succ_self _)) fun _ _ _ => .okk _
theorem sdef_mz (k:Int) (x:PS) (h:Sx al x):Mz (sdefQ k x):=
 .then (zBu x) fun _ y h1 => .then (faces_mz k y (h.name h1).1) fun _ z h2 => .then (zHn z ((h.name h1).1.faces h2).1.en) fun _ u h3 => .then (body_mz k u (((h.name h1).1.faces h2).1.dirs h3).1) fun _ _ _ => .okk _
theorem zKX : ∀ (f:Nat) (acc:List D) (x:PS),Sx al x->x.ts.length<f->Mz (sdocF f acc x)
 |0,_,_,_,h=>by omega
 |f+1,acc,x,hx,h=>by
  unfold sdocF
  refine .ite (fun _ => .okk _) fun _ => .ite (fun _ => .err (by decide)) fun hw => .ite (fun _ => .err (by decide)) fun _ => ?_
  have hk:(hdT x).k=2:=by
   by_cases h2:(hdT x).k=2
   . exact h2
   . exact (hw fun hh=>h2 hh.1).elim
  have a:=hx.nx (by rw [hk];decide)
  exact .then (sdef_mz _ _ a.1) fun d y hq=>zKX f _ y (a.1.sdef hq).1 (by have:=(a.1.sdef hq).2;omega)
end
theorem sdoc_mz {ts:List Tok} (h:En ⟨ts,true,0⟩):Mz (sdocQ ts):=zKX _ _ _ (Sx.start h) (Nat.lt_succ_self _)
theorem sdoc_err {ts:List Tok} {N i:Nat} {e:Int} (h : ∀ t∈ts,t.i<=N) (hq:sdocQ ts = .error (i,e)):i<=N:=by
 have h1:=sdoc_rr (inT_tr N) (all2_in h)
 rw [hq] at h1
 exact h1.1.2
end
section
open Go.RowKit
set_option linter.unusedSectionVars false
attribute [local irreducible] wpList Calls Code.wp AW AWo OpOk seqK zq zt loopK endK AC zg Yld Sub
attribute [local irreducible] ACB ACX ACE absLexG YldG
theorem zGN : ∀ (f:Nat) (l:List UInt8) (i:Nat) (ts:List Tok),scanF f l i = .ok ts->ts.length<=l.length+1
 |0,_,_,_,h=>by cases h
 |f+1,l,i,ts,h=>by
  unfold scanF at h
  split at h
  . cases h
    simp
  . rename_i c r hl
    have hlen:(c::r).length=l.length-skipM false l:=by rw [<- hl,List.length_drop]
    have hsk:=zAv false l
    split at h
    . cases h
    . rename_i t n ht
      have hn:=zHG ht
      split at h
      . cases h
      . rename_i ts' hts
        cases h
        have:=zGN f _ _ _ hts
        rw [List.length_drop] at this
        simp only [List.length_cons] at *
        omega
theorem scan_cntS {l:List UInt8} {ts:List Tok} (h:scanT l = .ok ts):ts.length<=65537:=by
 unfold scanT at h
 split at h
 . cases h
 . have:=zGN _ _ _ _ h
   omega
noncomputable def parseV:Except (Nat × Int) D->V
 |.ok q => .tup [.agg [.sl 45 (q.f 0).l],.c (.int .i64 0),.c (.int .i64 0)]
 |.error x => .tup [.agg zDoc,.c (.int .i64 (x.1:Int)),.c (.int .i64 x.2)]
theorem i64_wfS {n:Int} (h : -9000000000<=n/\n<=9000000000):(Lit.int .i64 n).wf=true:=by
 rw [zCg]
 simp [IntKind.min,IntKind.max,IntKind.signed,IntKind.bits];omega
theorem zFL (s:List UInt8) (hs:s.length<=4000000000):AC EN5 Tryz.prog 10 [.c (.string (bs s))] (parseV (parseD s)):=by
 have hsc:=scan_ac s hs
 unfold parseD
 cases h:scanT s with
 |error x =>
  rw [h] at hsc
  exact zJh s x.1 x.2 (scan_err (i:=x.1) h) hsc
 |ok ts =>
  rw [h] at hsc
  have hen:=scan_en h
  have hkd:=(scan_kd h).1
  have hd:=p_doc (al:=ts) (by have:=scan_cntS h;omega) hkd (Sx.start hen.1) (ts.length+1) (Nat.lt_succ_self _)
  have hd:ACE EN5 Tryz.prog 25 [.bx (pn 0) 0] [boxS ts ⟨ts,false,0⟩] (outS ts (fun l=>VDc (zCl l)) (sdocQ ts)):=hd
  dsimp only
  cases hq:sdocQ ts with
  |error x =>
   rw [hq] at hd
   have h1:=sdoc_mz hen.1 x.1 x.2 hq
   have h2:=sdoc_err hen.2 (i:=x.1) (e:=x.2) hq
   have hl:s.length<=65536:=by
    unfold scanT at h
    split at h
    . cases h
    . omega
   exact zJg s ts hsc x ⟨i64_wfS (by omega),i64_wfS (by omega)⟩ hd
  |ok r =>
   obtain ⟨l,x'⟩:=r
   rw [hq] at hd
   exact zIW s ts hsc l x' hd
end
section
open Go.RowKit
set_option linter.unusedSectionVars false
attribute [local irreducible] wpList Calls Code.wp AW AWo OpOk seqK zq zt loopK endK AC zg Yld Sub
attribute [local irreducible] ACB ACX ACE absLexG YldG absLexH
noncomputable def HuI (l:List D) (i:Nat):Vst 83:=stS 83 [(0,.sl 55 l),(1,.sl 55 l),(5,.c (.int .i64 (i:Int)))] []
theorem zGc (l:List D):AC EN5 Tryz.prog 64 [.sl 55 l,.sl 55 l] (.c (.bool true)):=by
 refine zDL 1 fun hL => ?_
 have hl:l.length<=9223372036854775807:=hL.1
 have f0:=eqn_f (l.length:Int)
 refine zN 83 Tryz.func64 rfl rfl rfl rfl ?_
 intro s w he
 repeat' (first
|apply zD
 . conv=>lhs;whnf
 . assumption
|refine zA ?_
|refine zB ?_
|refine zK ?_
|apply aw_1
 conv=>whnf
 refine ⟨?_,trivial⟩
|apply s_1
 conv=>whnf;arg 1;arg 4;arg 3;whnf
 refine ⟨?_,?_⟩
|exact trivial)
 refine za (fun j st => ∃ i,i+j=l.length/\Sub (cx EN5 Tryz.prog s w he) st (HuI l i)) l.length ⟨0,by omega,Sub.live ⟨rfl,rfl,rfl,trivial⟩ trivial⟩ ?_
 rintro j st ⟨i,hij,hs2⟩
 refine zi hs2 ?_
 clear hs2
 by_cases hi:i<l.length
 . have f1:decide ((i:Int)<(l.length:Nat))=true:=decide_eq_true (by omega)
   have k1:=eqs_k ((gD l i).f 0).s
   have k2:=eqb_k ((gD l i).f 2).b
   have k3:=eqt_k
   have h1:=refU_ac ((gD l i).f 1)
   have h2:=valE_ac ((gD l i).f 3)
   have h3:=zEw ((gD l i).f 4).l
   have f3:=eqt_f
   repeat' (first
|apply zG
 . conv=>lhs;whnf
 . assumption
|apply zD
 . conv=>lhs;whnf
 . assumption
|exact (k1 ‹_›).elim
|exact (k2 ‹_›).elim
|refine zA ?_
|refine zB ?_
|refine zK ?_
|refine zP ?_
|apply aw_1
 conv=>whnf
 refine ⟨?_,trivial⟩
|apply s_1
 conv=>whnf;arg 1;arg 4;arg 3;whnf
 refine ⟨?_,?_⟩
|apply zAC (by kernel_rfl) (by kernel_rfl)
|apply zAs
|apply zEg rfl rfl
 . conv=>lhs;whnf
 . conv=>lhs;whnf
 . first | exact bF1 ‹_› | exact bF2 ‹_›
|apply zAr rfl
 . conv=>lhs;whnf
 . conv=>lhs;whnf;arg 2;whnf
|apply zBG rfl
 . conv=>lhs;whnf
 . conv=>lhs;whnf
 . first | rfl | assumption
 . conv=>lhs;whnf;arg 2;whnf
|apply zB7 rfl
 . conv=>lhs;whnf
 . conv=>lhs;whnf
 . first | rfl | assumption
 . conv=>lhs;whnf
 . first | exact h1 | exact h2 | exact h3
|apply zB8 rfl
 . conv=>lhs;whnf
 . conv=>lhs;whnf
 . conv=>lhs;whnf;arg 2;whnf
|exact zj
|exact ([]:List Nat)
|exact (1000000:Nat)
|exact trivial
|intro hg)
   all_goals first
    |exact zS (by omega)
    |exact zu hi
    |exact zH (j':=j-1) (by omega) ⟨i+1,by omega,Sub.live ⟨rfl,rfl,rfl,trivial⟩ trivial⟩
    |kernel_rfl
 . have f1:decide ((i:Int)<(l.length:Nat))=false:=decide_eq_false (by omega)
   repeat' (first
|apply zD
 . conv=>lhs;whnf
 . assumption
|refine zA ?_
|refine zB ?_
|refine zK ?_
|apply aw_1
 conv=>whnf
 refine ⟨?_,trivial⟩
|apply s_1
 conv=>whnf;arg 1;arg 4;arg 3;whnf
 refine ⟨?_,?_⟩
|refine zL ?_
|refine zJ rfl ?_
|refine zI ?_
|refine zE ?_
|refine ⟨_,by conv=>lhs;whnf;arg 2;whnf,?_⟩;conv=>rhs;whnf
|exact trivial)
noncomputable def HuF (d:D) (i:Nat):Vst 145:=stS 145 [(2,.bx 2 0),(3,.bx 3 0),(5,.c (.int .i64 (i:Int)))] [(2,.box 45 (cellsV Tryz.prog 12 45 d)),(3,.box 45 (cellsV Tryz.prog 12 45 d))]
noncomputable def HuM (d:D) (i:Nat):Vst 145:=stS 145 [(2,.bx 2 0),(3,.bx 3 0),(8,.c (.int .i64 (i:Int)))] [(2,.box 45 (cellsV Tryz.prog 12 45 d)),(3,.box 45 (cellsV Tryz.prog 12 45 d))]
noncomputable def HuX (d:D) (i:Nat):Vst 145:=stS 145 [(2,.bx 2 0),(3,.bx 3 0),(5,.c (.int .i64 (i:Int))),(6,.bx 6 0),(7,.bx 7 0)] [(2,.box 45 (cellsV Tryz.prog 12 45 d)),(3,.box 45 (cellsV Tryz.prog 12 45 d)),(6,.box 50 (cellsV Tryz.prog 12 50 (gD (d.f 4).l i))),(7,.box 50 (cellsV Tryz.prog 12 50 (gD (d.f 4).l i)))]
theorem defE_ac (d:D):AC EN5 Tryz.prog 31 [.agg (cellsV Tryz.prog 12 45 d),.agg (cellsV Tryz.prog 12 45 d)] (.c (.bool true)):=by
 refine zA9 2 (by kernel_rfl) fun hL => ?_
 have hL:=len_def hL
 have hl4:(d.f 4).l.length<=9223372036854775807:=hL.1
 have hl5:(d.f 5).l.length<=9223372036854775807:=hL.2
 have k1:=eqn_k (d.f 0).n
 have k2:=eqs_k (d.f 1).s
 have k3:=eqt_k
 have k4:=eqn_k ((d.f 4).l.length:Int)
 have k5:=eqn_k ((d.f 5).l.length:Int)
 have h1:=textsE_ac (d.f 2).l
 have h2:=zEw (d.f 3).l
 have h3:=zGc (d.f 6).l
 have f3:=eqt_f
 refine zN 145 Tryz.func31 rfl rfl rfl rfl ?_
 intro s w he
 repeat' (first
|apply zD
 . conv=>lhs;whnf
 . assumption
|exact (k1 ‹_›).elim
|exact (k2 ‹_›).elim
|exact (k4 ‹_›).elim
|exact (k5 ‹_›).elim
|refine zA ?_
|refine zB ?_
|refine zK ?_
|apply aw_1
 conv=>whnf
 refine ⟨?_,trivial⟩
|apply zQ rfl rfl
 . conv=>lhs;whnf
 . conv=>lhs;whnf
 . first | exact bF1 ‹_› | exact bF2 ‹_›
|apply s_1
 conv=>whnf;arg 1;arg 4;arg 3;whnf
 refine ⟨?_,?_⟩
|apply zAA rfl rfl rfl rfl
 . conv=>lhs;whnf;arg 1;whnf
 . rfl
|apply zF rfl
 . conv=>lhs;whnf
 . conv=>lhs;whnf
 . first | rfl | assumption
 . conv=>lhs;whnf;arg 2;whnf
|apply zU rfl
 . conv=>lhs;whnf
 . conv=>lhs;whnf
 . first | rfl | assumption
 . conv=>lhs;whnf
 . first | exact h1 | exact h2 | exact h3
|apply zC rfl
 . conv=>lhs;whnf
 . conv=>lhs;whnf
 . conv=>lhs;whnf;arg 2;whnf
|exact trivial
|intro hg)
 clear h1 h2 h3 k1 k2 k4 k5
 refine za (fun j st => ∃ i,i+j=(d.f 4).l.length/\Sub (cx EN5 Tryz.prog s w he) st (HuF d i)) (d.f 4).l.length ⟨0,by omega,Sub.live ⟨rfl,rfl,rfl,trivial⟩ ⟨rfl,rfl,trivial⟩⟩ ?_
 rintro j st ⟨i,hij,hs2⟩
 refine zi hs2 ?_
 clear hs2
 by_cases hi:i<(d.f 4).l.length
 . have g1:decide ((i:Int)<((d.f 4).l.length:Nat))=true:=decide_eq_true (by omega)
   have k1:=eqs_k ((gD (d.f 4).l i).f 0).s
   have h1:=zGc ((gD (d.f 4).l i).f 1).l
   have h2:=refU_ac ((gD (d.f 4).l i).f 2)
   have h4:=zEw ((gD (d.f 4).l i).f 3).l
   repeat' (first
|apply aw_drawA ([(1,[2]),(6,[3])]) ([(10,[6]),(11,[7]),(12,[6]),(13,[7])]) ([(10,6),(11,7)]) rfl (by kernel_rfl) (by kernel_rfl) (by kernel_rfl) (by intro p hp;simp only [List.mem_cons,List.not_mem_nil,or_false] at hp;rcases hp with rfl | rfl<;>(repeat' (first | exact fresh_S rfl | refine fresh_put ?_ rfl | refine fresh_res ?_ rfl rfl)))
|apply h_nil
|apply h_alloc rfl rfl rfl rfl
 . conv=>lhs;whnf;arg 1;whnf
 . rfl
 . rfl
 . kernel_rfl
|apply h_val rfl
 . conv=>lhs;whnf
 . conv=>lhs;whnf;arg 2;whnf
 . kernel_rfl
|apply h_store rfl rfl rfl
 . conv=>lhs;whnf
 . rfl
 . conv=>lhs;whnf;arg 1;whnf
 . conv=>lhs;whnf;arg 1;whnf
 . exact ⟨by kernel_rfl,by kernel_rfl⟩
 . rfl
 . kernel_rfl
|show inO _ _=true;rfl
|apply zG
 . conv=>lhs;whnf
 . assumption
|apply zD
 . conv=>lhs;whnf
 . assumption
|exact (k1 ‹_›).elim
|apply zv 7 (HuX d i) rfl
|refine zB3 ?_
|refine zA ?_
|refine zB ?_
|refine zK ?_
|refine zP ?_
|apply aw_1
 conv=>whnf
 refine ⟨?_,trivial⟩
|apply zQ rfl rfl
 . conv=>lhs;whnf
 . conv=>lhs;whnf
 . first | exact bF1 ‹_› | exact bF2 ‹_›
|apply s_1
 conv=>whnf;arg 1;arg 4;arg 3;whnf
 refine ⟨?_,?_⟩
|apply zF rfl
 . conv=>lhs;whnf
 . conv=>lhs;whnf
 . first | rfl | assumption
 . conv=>lhs;whnf;arg 2;whnf
|apply zU rfl
 . conv=>lhs;whnf
 . conv=>lhs;whnf
 . first | rfl | assumption
 . conv=>lhs;whnf
 . first | exact h1 | exact h2 | exact h4
|apply zC rfl
 . conv=>lhs;whnf
 . conv=>lhs;whnf
 . conv=>lhs;whnf;arg 2;whnf
|exact trivial
|intro hg)
   all_goals first
    |exact zS (by omega)
    |exact zu hi
    |exact Sub.live ⟨rfl,rfl,rfl,rfl,rfl,trivial⟩ ⟨rfl,rfl,rfl,rfl,trivial⟩
    |exact zH (j':=j-1) (by omega) ⟨i+1,by omega,Sub.live ⟨rfl,rfl,rfl,trivial⟩ ⟨rfl,rfl,trivial⟩⟩
    |skip
 . have g1:decide ((i:Int)<((d.f 4).l.length:Nat))=false:=decide_eq_false (by omega)
   repeat' (first
|apply zD
 . conv=>lhs;whnf
 . assumption
|refine zA ?_
|refine zB ?_
|refine zK ?_
|apply aw_1
 conv=>whnf
 refine ⟨?_,trivial⟩
|apply s_1
 conv=>whnf;arg 1;arg 4;arg 3;whnf
 refine ⟨?_,?_⟩
|refine zL ?_
|refine zJ rfl ?_
|refine zI ?_
|exact trivial)
   refine za (fun j st => ∃ i,i+j=(d.f 5).l.length/\Sub (cx EN5 Tryz.prog s w he) st (HuM d i)) (d.f 5).l.length ⟨0,by omega,Sub.live ⟨rfl,rfl,rfl,trivial⟩ ⟨rfl,rfl,trivial⟩⟩ ?_
   rintro j st ⟨i,hij,hs2⟩
   refine zi hs2 ?_
   clear hs2
   by_cases hi:i<(d.f 5).l.length
   . have g1:decide ((i:Int)<((d.f 5).l.length:Nat))=true:=decide_eq_true (by omega)
     have k1:=eqs_k ((gD (d.f 5).l i).f 0).s
     have h4:=zEw ((gD (d.f 5).l i).f 1).l
     repeat' (first
|apply zG
 . conv=>lhs;whnf
 . assumption
|apply zD
 . conv=>lhs;whnf
 . assumption
|exact (k1 ‹_›).elim
|refine zA ?_
|refine zB ?_
|refine zK ?_
|refine zP ?_
|apply aw_1
 conv=>whnf
 refine ⟨?_,trivial⟩
|apply s_1
 conv=>whnf;arg 1;arg 4;arg 3;whnf
 refine ⟨?_,?_⟩
|apply zAC (by kernel_rfl) (by kernel_rfl)
|apply zAs
|apply zEg rfl rfl
 . conv=>lhs;whnf
 . conv=>lhs;whnf
 . first | exact bF1 ‹_› | exact bF2 ‹_›
|apply zAr rfl
 . conv=>lhs;whnf
 . conv=>lhs;whnf;arg 2;whnf
|apply zBG rfl
 . conv=>lhs;whnf
 . conv=>lhs;whnf
 . first | rfl | assumption
 . conv=>lhs;whnf;arg 2;whnf
|apply zB7 rfl
 . conv=>lhs;whnf
 . conv=>lhs;whnf
 . first | rfl | assumption
 . conv=>lhs;whnf
 . first | exact h4
|apply zB8 rfl
 . conv=>lhs;whnf
 . conv=>lhs;whnf
 . conv=>lhs;whnf;arg 2;whnf
|exact zj
|exact zr
|exact ([]:List Nat)
|exact (1000000:Nat)
|exact trivial
|intro hg)
     all_goals first
      |exact zS (by omega)
      |exact zu hi
      |exact zH (j':=j-1) (by omega) ⟨i+1,by omega,Sub.live ⟨rfl,rfl,rfl,trivial⟩ ⟨rfl,rfl,trivial⟩⟩
      |skip
   . have g1:decide ((i:Int)<((d.f 5).l.length:Nat))=false:=decide_eq_false (by omega)
     repeat' (first
|apply zD
 . conv=>lhs;whnf
 . assumption
|refine zA ?_
|refine zB ?_
|refine zK ?_
|apply aw_1
 conv=>whnf
 refine ⟨?_,trivial⟩
|apply s_1
 conv=>whnf;arg 1;arg 4;arg 3;whnf
 refine ⟨?_,?_⟩
|refine zL ?_
|refine zJ rfl ?_
|refine zI ?_
|refine zE ?_
|refine ⟨_,by conv=>lhs;whnf;arg 2;whnf,?_⟩;conv=>rhs;whnf
|exact trivial)
noncomputable def HuQ (d:D) (i:Nat):Vst 32:=stS 32 [(2,.bx 2 0),(3,.bx 3 0),(5,.c (.int .i64 (i:Int)))] [(2,.box 25 (cellsV Tryz.prog 12 25 d)),(3,.box 25 (cellsV Tryz.prog 12 25 d))]
theorem equalE_ac (d:D):AC EN5 Tryz.prog 12 [.agg (cellsV Tryz.prog 12 25 d),.agg (cellsV Tryz.prog 12 25 d)] (.c (.bool true)):=by
 refine zA9 2 (by kernel_rfl) fun hL => ?_
 have hl:(d.f 0).l.length<=9223372036854775807:=zHU hL
 have f0:=eqn_f ((d.f 0).l.length:Int)
 refine zN 32 Tryz.func12 rfl rfl rfl rfl ?_
 intro s w he
 repeat' (first
|apply zD
 . conv=>lhs;whnf
 . assumption
|refine zA ?_
|refine zB ?_
|refine zK ?_
|apply aw_1
 conv=>whnf
 refine ⟨?_,trivial⟩
|apply s_1
 conv=>whnf;arg 1;arg 4;arg 3;whnf
 refine ⟨?_,?_⟩
|apply zAA rfl rfl rfl rfl
 . conv=>lhs;whnf;arg 1;whnf
 . rfl
|exact trivial)
 refine za (fun j st => ∃ i,i+j=(d.f 0).l.length/\Sub (cx EN5 Tryz.prog s w he) st (HuQ d i)) (d.f 0).l.length ⟨0,by omega,Sub.live ⟨rfl,rfl,rfl,trivial⟩ ⟨rfl,rfl,trivial⟩⟩ ?_
 rintro j st ⟨i,hij,hs2⟩
 refine zi hs2 ?_
 clear hs2
 by_cases hi:i<(d.f 0).l.length
 . have g1:decide ((i:Int)<((d.f 0).l.length:Nat))=true:=decide_eq_true (by omega)
   have h1:=defE_ac (gD (d.f 0).l i)
   have f3:=eqt_f
   repeat' (first
|apply zG
 . conv=>lhs;whnf
 . assumption
|apply zD
 . conv=>lhs;whnf
 . assumption
|refine zA ?_
|refine zB ?_
|refine zK ?_
|refine zP ?_
|apply aw_1
 conv=>whnf
 refine ⟨?_,trivial⟩
|apply s_1
 conv=>whnf;arg 1;arg 4;arg 3;whnf
 refine ⟨?_,?_⟩
|apply zAC (by kernel_rfl) (by kernel_rfl)
|apply zAs
|apply zAr rfl
 . conv=>lhs;whnf
 . conv=>lhs;whnf;arg 2;whnf
|apply zCX rfl
 . conv=>lhs;whnf
 . conv=>lhs;whnf
 . first | exact h1
|exact zj
|exact zr
|exact (1000000:Nat)
|exact trivial)
   all_goals first
    |exact zS (by omega)
    |exact zu hi
    |exact zH (j':=j-1) (by omega) ⟨i+1,by omega,Sub.live ⟨rfl,rfl,rfl,trivial⟩ ⟨rfl,rfl,trivial⟩⟩
    |skip
 . have g1:decide ((i:Int)<((d.f 0).l.length:Nat))=false:=decide_eq_false (by omega)
   repeat' (first
|apply zD
 . conv=>lhs;whnf
 . assumption
|refine zA ?_
|refine zB ?_
|refine zK ?_
|apply aw_1
 conv=>whnf
 refine ⟨?_,trivial⟩
|apply s_1
 conv=>whnf;arg 1;arg 4;arg 3;whnf
 refine ⟨?_,?_⟩
|refine zL ?_
|refine zJ rfl ?_
|refine zI ?_
|refine zE ?_
|refine ⟨_,by conv=>lhs;whnf;arg 2;whnf,?_⟩;conv=>rhs;whnf
|exact trivial)
end
section
theorem zFw {p:D->Bool} {l:List D} (h:Al p l):l.all p=true:=by
 rw [List.all_eq_true]
 intro x hx
 obtain ⟨i,hi,rfl⟩:=List.getElem_of_mem hx
 rw [<- zA2 hi];exact h i hi
theorem zFS {el:PS->PR D} {p:D->Bool} (he : ∀ {y:PS},GT y->y.vr=false->Hr (fun d z=>Pv y z/\p d=true) (el y)) (hk : ∀ y d z,el y = .ok (d,z)->(hdT y).k=2) (e:List UInt8) (most:Nat) : ∀ (f:Nat) (acc:List D) {x:PS},GT x->x.vr=false->Al p acc->acc.length<=most->Hr (fun l z=>Pv x z/\Al p l/\1<=l.length/\l.length<=most) (manyF el e most f acc x)
 |0,_,_,_,_,_,_ => .err
 |f+1,acc,x,h,hv,ha,hl=>by
  unfold manyF
  refine .ite (fun hE => .okk ⟨h.pvn,ha,by have:=hE.1;omega,hl⟩) fun _ => .ite (fun _ => .err) fun hlim => ?_
  by_cases hk2:(hdT x).k=2
  . refine .then (he h hv) fun d y hy => ?_
    have hl2:acc.length<most:=Nat.lt_of_not_le fun h16=>hlim ⟨hk2,h16⟩
    exact (zFS he hk e most f _ hy.1.gt (hy.1.vr.trans hv) (ha.snoc hy.2) (by simp;omega)).mono fun l w hw=>⟨hy.1.trans hw.1,hw.2⟩
  . intro l z hq
    cases hx:el x with
    |error q=>rw [hx] at hq;cases hq
    |ok q=>obtain ⟨d,y⟩:=q;exact (hk2 (hk x d y hx)).elim
theorem zEn {α:Type} {f:List UInt8->PS->PR α} {y:PS} {d:α} {z:PS} (h:thenQ (nameQ y) f = .ok (d,z)):(hdT y).k=2:=by
 cases hx:nameQ y with
 |error q=>rw [hx] at h;cases h
 |ok q=>obtain ⟨n,w⟩:=q;exact hd_k2 (s:=[]) hx
theorem arg_rty {x:PS} (h:GT x) (hv:x.vr=false):Hr (fun d z=>Pv x z/\argY litR d=true) (argQ x):=by
 unfold argQ
 refine .name h fun n y hk hn hy => .then (zCi hy.gt) fun _ z hz => .then (zKH hz.1.gt) fun v u hu => .okk ⟨(hy.trans hz.1).trans hu.1,?_⟩
 show (nameB ⟨n.toArray⟩&&(litR v&&bareR (bulkD v) v))=true
 rw [hn,hu.2.1,hu.2.2 (hz.1.vr.trans (hy.vr.trans hv))];rfl
theorem args_rty {x:PS} (h:GT x) (hv:x.vr=false):Hr (fun l z=>Pv x z/\zEf litR l=true) (argsQ x):=by
 unfold argsQ
 refine .ite (fun _ => ?_) fun _ => .okk ⟨h.pv,rfl⟩
 rw [zCV]
 refine (zFS (fun h hv=>arg_rty h hv) (fun y d z hq=>zEn hq) _ _ _ [] h.nx ((zFP x).trans hv) Al.nil (by decide)).mono fun l z hz=>⟨h.pvn.trans hz.1,?_⟩
 unfold zEf
 rw [zFw hz.2.1,decide_eq_true hz.2.2.2];rfl
theorem zI9 : ∀ (f:Nat) (acc:List D) {x:PS},GT x->x.vr=false->Al (dirY litR) acc->acc.length<=16->Hr (fun l z=>Pv x z/\Al (dirY litR) l/\l.length<=16) (dirsF f acc x)
 |0,_,_,_,_,_,_ => .err
 |f+1,acc,x,h,hv,ha,hl=>by
  unfold dirsF
  refine .ite (fun _ => .ite (fun _ => .err) fun hlim => .then (zFQ h.nx) fun n y hy => .then (args_rty hy.2.1.gt (hy.2.1.vr.trans ((zFP x).trans hv))) fun aa z hz => ?_) fun _ => .okk ⟨h.pv,ha,hl⟩
  have hd:dirY litR (dirD n aa)=true:=by
   show (nameB ⟨n.toArray⟩&&zEf litR aa)=true
   rw [hy.1,hz.2];rfl
  exact (zI9 f _ hz.1.gt (hz.1.vr.trans (hy.2.1.vr.trans ((zFP x).trans hv))) (ha.snoc hd) (by simp;omega)).mono fun l w hw=>⟨((h.pvn.trans hy.2.1).trans hz.1).trans hw.1,hw.2⟩
theorem zEt {x:PS} (h:GT x) (hv:x.vr=false):Hr (fun l z=>Pv x z/\dirsY litR l=true) (dirsQ x):=by
 refine (zI9 _ [] h hv Al.nil (by decide)).mono fun l z hz=>⟨hz.1,?_⟩
 unfold dirsY
 rw [zFw hz.2.1,decide_eq_true hz.2.2];rfl
theorem null_valY:valY litR zDK=true:=by kernel_rfl
theorem in_rty {x:PS} (h:GT x) (hv:x.vr=false):Hr (fun d z=>Pv x z/\inY litR d=true) (inQ x):=by
 unfold inQ
 refine .name h fun n y hk hn hy => .then (zCi hy.gt) fun _ z hz => .then (typ_rt hz.1.gt) fun t u hu => ?_
 have hvu:u.vr=false:=hu.2.vr.trans (hz.1.vr.trans (hy.vr.trans hv))
 refine .then (Q:=fun d o=>Pv u o/\valY litR d.2=true/\(d.1=true\/(d.2.f 0).n=0)) (.ite (fun _ => .then (zKH hu.2.gt.nx) fun v o ho => .okk ⟨hu.2.gt.pvn.trans ho.1,?_,.inl rfl⟩) fun _ => .okk ⟨hu.2.gt.pv,null_valY,.inr rfl⟩) fun d o ho => .then (zEt ho.1.gt (ho.1.vr.trans hvu)) fun ds w hw => .okk ⟨(((hy.trans hz.1).trans hu.2).trans ho.1).trans hw.1,?_⟩
 . show (litR v&&bareR (bulkD v) v)=true
   rw [ho.2.1,ho.2.2 ((zFP u).trans hvu)];rfl
 . show (nameB ⟨n.toArray⟩&&refR t&&dirsY litR ds&&valY litR d.2&&(d.1||(d.2.f 0).n==0))=true
   rw [hn,hu.1,hw.2,ho.2.1]
   rcases ho.2.2 with h1 | h1
   . rw [h1];rfl
   . rw [h1];simp
theorem ins_rty (e:List UInt8) {x:PS} (h:GT x) (hv:x.vr=false):Hr (fun l z=>Pv x z/\insY litR l=true/\1<=l.length) (insQ e x):=
 (zFS (fun h hv=>in_rty h hv) (fun y d z hq=>zEn hq) _ _ _ [] h hv Al.nil (by decide)).mono fun l z hz=>⟨hz.1,by unfold insY;rw [zFw hz.2.1,decide_eq_true hz.2.2.2];rfl,hz.2.2.1⟩
theorem fd_rty {x:PS} (h:GT x) (hv:x.vr=false):Hr (fun d z=>Pv x z/\fdY litR d=true) (fdQ x):=by
 unfold fdQ
 refine .name h fun n y hk hn hy => ?_
 refine .then (Q:=fun aa z=>Pv y z/\insY litR aa=true) (.ite (fun _=>(ins_rty _ hy.gt.nx ((zFP y).trans (hy.vr.trans hv))).mono fun l z hz=>⟨hy.gt.pvn.trans hz.1,hz.2.1⟩) fun _ => .okk ⟨hy.gt.pv,rfl⟩) fun aa z hz => .then (zCi hz.1.gt) fun _ u hu => .then (typ_rt hu.1.gt) fun t v hv' => .then (zEt hv'.2.gt (hv'.2.vr.trans (hu.1.vr.trans (hz.1.vr.trans (hy.vr.trans hv))))) fun ds w hw => .okk ⟨(((hy.trans hz.1).trans hu.1).trans hv'.2).trans hw.1,?_⟩
 show (nameB ⟨n.toArray⟩&&insY litR aa&&refR t&&dirsY litR ds)=true
 rw [hn,hz.2,hv'.1,hw.2];rfl
theorem mb_rty {x:PS} (h:GT x) (hv:x.vr=false):Hr (fun d z=>Pv x z/\mbY litR false d=true) (mbQ x):=by
 unfold mbQ
 refine .name h fun n y hk hn hy => .then (zEt hy.gt (hy.vr.trans hv)) fun ds w hw => .okk ⟨hy.trans hw.1,?_⟩
 show (nameB ⟨n.toArray⟩&&dirsY litR ds&&(!false||_))=true
 rw [hn,hw.2];rfl
def nmY (d:D):Bool:=nameB d.s
theorem zGX (s:List UInt8) : ∀ (f:Nat) (acc:List D) {x:PS},GT x->Al nmY acc->acc.length<=64->Hr (fun l z=>Pv x z/\Al nmY l/\1<=l.length/\l.length<=64) (namesF s f acc x)
 |0,_,_,_,_,_ => .err
 |f+1,acc,x,h,ha,hl=>by
  unfold namesF
  refine .ite (fun _ => .err) fun hlim => .name h fun n y hk hn hy => ?_
  have hl2:acc.length<64:=Nat.lt_of_not_le fun h16=>hlim ⟨hk,h16⟩
  have hd:nmY (strD n)=true:=hn
  exact .ite (fun _=>(zGX s f _ hy.gt.nx (ha.snoc hd) (by simp;omega)).mono fun l z hz=>⟨hy.nx.trans hz.1,hz.2⟩) fun _ => .okk ⟨hy,ha.snoc hd,by simp,by simp;omega⟩
theorem zIh (s:List UInt8) {x:PS} (h:GT x):Hr (fun l z=>Pv x z/\imY l=true/\1<=l.length) (zBR s x):=
 (zGX s _ [] h Al.nil (by decide)).mono fun l z hz=>⟨hz.1,by unfold imY;rw [decide_eq_true hz.2.2.2,show (l.all fun x=>nameB x.s)=true from zFw hz.2.1];rfl,hz.2.2.1⟩
theorem faces_rty (k:Int) {x:PS} (h:GT x):Hr (fun l z=>Pv x z/\imY l=true/\(l.length=0\/k=1)) (zA3 k x):=by
 unfold zA3
 exact .ite (fun hk=>(zIh _ h.nx).mono fun l z hz=>⟨h.pvn.trans hz.1,hz.2.1,.inr hk.1⟩) fun _ => .okk ⟨h.pv,rfl,.inl rfl⟩
theorem zIo {l:List D} (h:imY l=true):mbsY litR true (l.map mbOf)=true:=by
 unfold imY at h
 unfold mbsY
 rw [Bool.and_eq_true] at h |-
 refine ⟨by rw [List.length_map];exact h.1,?_⟩
 rw [List.all_map,List.all_eq_true]
 intro x hx
 have h1:nameB x.s=true:=List.all_eq_true.1 h.2 x hx
 show (nameB x.s&&dirsY litR []&&(!true||decide (([]:List D).length=0)))=true
 rw [h1];rfl
def bodY (k:Int) (b:List D × List D × List D):Prop:=
 fdsY litR b.1=true/\mbsY litR (k==3) b.2.1=true/\insY litR b.2.2=true/\((k=1\/k=2) ↔ 0<b.1.length)/\((k=3\/k=4) ↔ 0<b.2.1.length)/\(k=5 ↔ 0<b.2.2.length)
theorem body_rty {k:Int} (hk:1<=k/\k<=5) {x:PS} (h:GT x) (hv:x.vr=false):Hr (fun b z=>Pv x z/\bodY k b) (bodyQ k x):=by
 unfold bodyQ
 refine .ite (fun k3 => .then (zCi h) fun _ y hy => .then (zIh _ hy.1.gt) fun l z hz => .okk ⟨hy.1.trans hz.1,?_⟩) fun k3 => .then (zCi h) fun _ y hy => ?_
 . subst k3
   refine ⟨rfl,zIo hz.2.1,rfl,by simp,?_,by simp⟩
   have:=hz.2.2
   simp only [List.length_map]
   exact ⟨fun _=>by omega,fun _ => .inl trivial⟩
 have hvy:y.vr=false:=hy.1.vr.trans hv
 refine .ite (fun k5 => .then (ins_rty _ hy.1.gt hvy) fun l z hz => .okk ⟨hy.1.trans hz.1,?_⟩) fun k5 => .ite (fun k4 => .then (Q:=fun l z=>Pv y z/\mbsY litR false l=true/\1<=l.length) ?_ fun l z hz => .okk ⟨hy.1.trans hz.1,?_⟩) fun k4 => .then (Q:=fun l z=>Pv y z/\fdsY litR l=true/\1<=l.length) ?_ fun l z hz => .okk ⟨hy.1.trans hz.1,?_⟩
 . subst k5
   have:=hz.2.2
   exact ⟨rfl,rfl,hz.2.1,by simp,by simp,⟨fun _=>by show 0<l.length;omega,fun _=>rfl⟩⟩
 . exact (zFS (fun h hv=>mb_rty h hv) (fun y d z hq=>zEn hq) _ _ _ [] hy.1.gt hvy Al.nil (by decide)).mono fun l z hz=>⟨hz.1,by unfold mbsY;rw [zFw hz.2.1,decide_eq_true hz.2.2.2];rfl,hz.2.2.1⟩
 . subst k4
   have:=hz.2.2
   exact ⟨rfl,hz.2.1,rfl,by simp,⟨fun _=>by show 0<l.length;omega,fun _ => .inr rfl⟩,by simp⟩
 . exact (zFS (fun h hv=>fd_rty h hv) (fun y d z hq=>zEn hq) _ _ _ [] hy.1.gt hvy Al.nil (by decide)).mono fun l z hz=>⟨hz.1,by unfold fdsY;rw [zFw hz.2.1,decide_eq_true hz.2.2.2];rfl,hz.2.2.1⟩
 . have:=hz.2.2
   have e3:(k==3)=false:=by simpa using k3
   refine ⟨hz.2.1,by rw [e3];rfl,rfl,⟨fun _=>by show 0<l.length;omega,fun _=>by omega⟩,?_,?_⟩
   . simp;omega
   . simp;exact k5
theorem sdef_rty {k:Int} (hk:1<=k/\k<=5) {x:PS} (h:GT x) (hv:x.vr=false):Hr (fun d z=>Pv x z/\defY litR d=true) (sdefQ k x):=by
 unfold sdefQ
 refine .name h fun n y _ hn hy => .then (faces_rty k hy.gt) fun im z hz => .then (zEt hz.1.gt (hz.1.vr.trans (hy.vr.trans hv))) fun ds u hu => .then (body_rty hk hu.1.gt (hu.1.vr.trans (hz.1.vr.trans (hy.vr.trans hv)))) fun b w hw => .okk ⟨((hy.trans hz.1).trans hu.1).trans hw.1,?_⟩
 obtain ⟨b1,b2,b3,b4,b5,b6⟩:=hw.2
 show (zJt k b.1.length b.2.1.length b.2.2.length im.length&&nameB ⟨n.toArray⟩&&dirsY litR ds&&imY im&&fdsY litR b.1&&mbsY litR (k==3) b.2.1&&insY litR b.2.2)=true
 have hky:zJt k b.1.length b.2.1.length b.2.2.length im.length=true:=by
  unfold zJt
  simp only [Bool.and_eq_true,decide_eq_true_eq,Bool.or_eq_true,beq_iff_eq]
  refine ⟨⟨⟨⟨hk,hz.2.2⟩,?_⟩,?_⟩,?_⟩
  . rw [Bool.eq_iff_iff];simpa using b4
  . rw [Bool.eq_iff_iff];simpa using b5
  . rw [Bool.eq_iff_iff];simpa using b6
 rw [hky,hn,hu.2,hz.2.1,b1,b2,b3];rfl
theorem zIG : ∀ (f:Nat) (acc:List D) {x:PS},GT x->x.vr=false->Al (defY litR) acc->acc.length<=64->Hr (fun l _=>Al (defY litR) l/\1<=l.length/\l.length<=64) (sdocF f acc x)
 |0,_,_,_,_,_,_ => .err
 |f+1,acc,x,h,hv,ha,hl=>by
  unfold sdocF
  refine .ite (fun hE => .okk ⟨ha,by have:=hE.1;omega,hl⟩) fun _ => .ite (fun _ => .err) fun hw => .ite (fun _ => .err) fun hlim => ?_
  have hk:0<zA0 (hdT x).s:=by
   by_cases h2:0<zA0 (hdT x).s
   . exact h2
   . exact (hw fun hh=>h2 hh.2).elim
  have hk5:=(zKy (hdT x).s).2
  refine .then (sdef_rty ⟨by omega,hk5⟩ h.nx ((zFP x).trans hv)) fun d y hy => ?_
  exact zIG f _ hy.1.gt (hy.1.vr.trans ((zFP x).trans hv)) (ha.snoc hy.2) (by simp;omega)
theorem zIY {l:List UInt8} {q:D} (h:parseD l = .ok q) : ∃ ds,q=zCl ds/\docY litR ds=true:=by
 unfold parseD at h
 split at h
 . cases h
 . rename_i ts hs
   split at h
   . cases h
   . rename_i p z hd
     cases h
     have hg:GT ⟨ts,false,0⟩:=by
      unfold scanT at hs
      split at hs
      . cases hs
      . exact zKa _ _ _ _ hs
     obtain ⟨h1,h2,h3⟩:=zIG _ [] hg rfl Al.nil (by decide) _ _ hd
     refine ⟨p,rfl,?_⟩
     unfold docY
     rw [zFw h1,decide_eq_true ⟨h2,h3⟩];rfl
end
section
open Go.RowKit
set_option linter.unusedSectionVars false
def dfs6:Except (Nat × Int) D->List D
 |.ok q=>(q.f 0).l
 |.error _=>[]
def at6:Except (Nat × Int) D->Nat
 |.ok _=>0
 |.error x=>x.1
def er6:Except (Nat × Int) D->Int
 |.ok _=>0
 |.error x=>x.2
theorem parse6_ac (s:List UInt8) (hs:s.length<=4000000000):AC EN5 Tryz.prog 10 [.c (.string (bs s))] (.tup [.agg [.sl 45 (dfs6 (parseD s))],.c (.int .i64 (at6 (parseD s):Int)),.c (.int .i64 (er6 (parseD s)))]):=by
 refine (zFL s hs).res ?_
 cases parseD s with
 |ok q=>exact .refl _
 |error x=>exact .tup (.cons (.agg (.cons (.nil _) .nil)) (.cons (.refl _) (.cons (.refl _) .nil)))
attribute [local irreducible] wpList Calls Code.wp AW AWo OpOk seqK zq zt loopK endK AC zg Yld Sub
attribute [local irreducible] ACB ACX ACE absLexG YldG absLexH
section
variable (hEx:AC EN5 Tryz.prog 9 [] (.c (.bool true)))
include hEx
section
variable (s t:List UInt8) (hs:s.length<=4000) (ht:t.length<=4000)
include hs ht
end
end
end
section
open Go.RowKit
set_option linter.unusedSectionVars false
def exT6:List UInt8:=[116,121,112,101,32,65,32,123,32,120,40,97,58,32,73,110,116,32,61,32,49,41,58,32,91,73,110,116,33,93,32,64,98,32,125]
def exB6:List UInt8:=[116,121,112,101,32,65,32,123,32,125]
def exS:D:=match parseD exT6 with
 |.ok q=>q
 |.error _=>default
theorem zI6:parseD exT6 = .ok exS:=by kernel_rfl
theorem ex6_bad:parseD exB6 = .error (9,3):=by kernel_rfl
theorem of_dec6 {p:Prop} [Decidable p] (h:decide p=true):p:=of_decide_eq_true h
theorem ff_t6 {b:Bool} (h:b=false) (h2:b=true):False:=by rw [h] at h2;cases h2
theorem AC.arg6 {e:Ge} {P:Program} {f:FuncId} {args args':List V} {r:V} (hle:VLeL args' args) (h:AC e P f args r):AC e P f args' r:=fun s w us hr hx he=>h s w us (zD7 hle hr) hx he
attribute [local irreducible] wpList Calls Code.wp AW AWo OpOk seqK zq zt loopK endK AC zg Yld Sub
attribute [local irreducible] ACB ACX ACE absLexG YldG absLexH
theorem example_ac {lit:D->Bool} (hRt : ∀ d:D,AC EN5 Tryz.prog 14 [.agg (cellsV Tryz.prog 12 25 d)] (.c (.bool (docY lit (d.f 0).l)))) (hX:docY lit (exS.f 0).l=true):AC EN5 Tryz.prog 9 [] (.c (.bool true)):=by
 have h1:AC EN5 Tryz.prog 10 [.c (.string { data:=#[116,121,112,101,32,65,32,123,32,120,40,97,58,32,73,110,116,32,61,32,49,41,58,32,91,73,110,116,33,93,32,64,98,32,125] })] (parseV (.ok exS)):=by
  have:=zFL exT6 (by decide)
  rw [zI6] at this
  exact this
 have h2:AC EN5 Tryz.prog 10 [.c (.string { data:=#[116,121,112,101,32,65,32,123,32,125] })] (parseV (.error (9,3))):=by
  have:=zFL exB6 (by decide)
  rw [ex6_bad] at this
  exact this
 have h3:=hRt exS
 rw [hX] at h3
 have h4:AC EN5 Tryz.prog 14 [.agg [.c (.slice none 0 0)]] (.c (.bool false)):=by
  have h5:=hRt (zCl [])
  rw [show docY lit ((zCl []).f 0).l=false from rfl] at h5
  exact AC.arg6 (.cons (.agg (.cons (.nil _) .nil)) .nil) h5
 refine zN 115 Tryz.func9 rfl rfl rfl rfl ?_
 intro s w he
 repeat' (first
|refine zA ?_
|refine zB ?_
|refine zK ?_
|apply aw_1
 conv=>whnf
 refine ⟨?_,trivial⟩
|apply zT rfl rfl
 . conv=>lhs;whnf
 . conv=>lhs;whnf
 . first | exact bT1 ‹_› | exact bT2 ‹_›
|apply zQ rfl rfl
 . conv=>lhs;whnf
 . conv=>lhs;whnf
 . first | exact bF1 ‹_› | exact bF2 ‹_›
|apply s_1
 conv=>whnf;arg 1;arg 4;arg 3;whnf
 refine ⟨?_,?_⟩
|apply zb rfl
 . conv=>lhs;whnf
 . conv=>lhs;whnf
 . first | exact h1 | exact h2 | exact h3 | exact h4
|apply zV rfl rfl rfl
 . conv=>lhs;whnf
 . conv=>lhs;whnf;arg 1;whnf
 . conv=>lhs;whnf;arg 1;whnf
 . exact ⟨by kernel_rfl,by kernel_rfl⟩
 . rfl
|apply zF rfl
 . conv=>lhs;whnf
 . conv=>lhs;whnf
 . first | rfl | assumption
 . conv=>lhs;whnf;arg 2;whnf
|apply zU rfl
 . conv=>lhs;whnf
 . conv=>lhs;whnf
 . first | rfl | assumption
 . conv=>lhs;whnf
 . first | exact h1 | exact h2 | exact h3 | exact h4
|apply zX rfl
 . conv=>lhs;whnf
 . conv=>lhs;whnf
 . first | rfl | assumption
|apply zC rfl
 . conv=>lhs;whnf
 . conv=>lhs;whnf
 . conv=>lhs;whnf;arg 2;whnf
|refine zE ?_
|refine ⟨_,by conv=>lhs;whnf;arg 2;whnf,?_⟩;conv=>rhs;whnf
|exact trivial
|intro hg)
 all_goals first
  |exact of_dec6 (by kernel_rfl)
  |exact (ff_t6 ‹_› (by kernel_rfl)).elim
  |exact cB (by kernel_rfl)
  |skip
end
section
open Go.RowKit
attribute [local irreducible] wpList Calls Code.wp
def sg0 (W:World):Sg:=⟨fun b o=>(W.cell? ⟨b,o,none⟩).isSome,fun _=>none,fun _=>none,fun _=>(undef,0)⟩
theorem zGv {P:Program} {w:World} {n:String} {g:Nat} {cs:Array Value} (hg:P.globalNamed n=some g) (h:w.var? P n=some cs):g+1<=w.heap.size:=by
 unfold World.var? at h
 rw [hg] at h
 simp only [Option.bind_some] at h
 rcases Nat.lt_or_ge g w.heap.size with h' | h'
 . exact h'
 . rw [Array.getElem?_eq_none h'] at h;cases h
theorem en5_of {W:World} (h:Env W):EN5.E W:=by
 obtain ⟨h1,⟨tp,p,h2⟩,⟨tp',p',h3⟩⟩:=id h
 have a1:=zGv gPow h1
 have a2:=zGv gErrR h2
 have a3:=zGv gErrS h3
 exact ⟨h,Nat.max_le.2 ⟨a1,Nat.max_le.2 ⟨a2,a3⟩⟩⟩
theorem zJH {f:FuncId} {args:List V} {W:World} {us:Array Value} (h:AC EN5 Tryz.prog f args (.c (.bool true))) (hr:relL Tryz.prog (sg0 W) W args us.toList) (he:Env W):Calls Tryz.prog f us W fun e W'=>e = .returned (.bool true)/\Below W.heap.size W W':=by
 refine (h (sg0 W) W us hr (fun b o h=>h) (en5_of he)).mono ?_
 rintro e W' ⟨v,F',rfl,hfr,-,-,-,hv⟩
 rw [rel] at hv
 obtain ⟨rfl,-⟩:=hv
 exact ⟨rfl,hfr.below⟩
theorem relL1 {P:Program} {s:Sg} {w:World} {v:V} {u:Value} (h:rel P s w v u):relL P s w [v] (#[u]:Array Value).toList:=by
 show relL P s w [v] [u]
 rw [relL];exact ⟨h,by simp [relL]⟩
end
section
open Go.RowKit
set_option linter.unusedSectionVars false
section
variable {lit lit':D->Bool} (h : ∀ v,lit v=true->lit' v=true)
theorem zDI {p q:D->Bool} (h : ∀ x,p x=true->q x=true) {l:List D} (hl:l.all p=true):l.all q=true:=by
 rw [List.all_eq_true] at hl |-
 exact fun x hx=>h x (hl x hx)
include h
theorem zH5 (v:D) (hv:valY lit v=true):valY lit' v=true:=by
 unfold valY at *
 rw [Bool.and_eq_true] at *
 exact ⟨h v hv.1,hv.2⟩
theorem argY_mono (v:D) (hv:argY lit v=true):argY lit' v=true:=by
 unfold argY at *
 rw [Bool.and_eq_true] at *
 exact ⟨hv.1,zH5 h _ hv.2⟩
theorem dirY_mono (v:D) (hv:dirY lit v=true):dirY lit' v=true:=by
 unfold dirY zEf at *
 simp only [Bool.and_eq_true] at *
 exact ⟨hv.1,hv.2.1,zDI (argY_mono h) hv.2.2⟩
theorem zDE {l:List D} (hv:dirsY lit l=true):dirsY lit' l=true:=by
 unfold dirsY at *
 rw [Bool.and_eq_true] at *
 exact ⟨hv.1,zDI (dirY_mono h) hv.2⟩
theorem inY_mono (v:D) (hv:inY lit v=true):inY lit' v=true:=by
 unfold inY at *
 simp only [Bool.and_eq_true] at *
 exact ⟨⟨⟨hv.1.1.1,zDE h hv.1.1.2⟩,zH5 h _ hv.1.2⟩,hv.2⟩
theorem zIu {l:List D} (hv:insY lit l=true):insY lit' l=true:=by
 unfold insY at *
 rw [Bool.and_eq_true] at *
 exact ⟨hv.1,zDI (inY_mono h) hv.2⟩
theorem fdY_mono (v:D) (hv:fdY lit v=true):fdY lit' v=true:=by
 unfold fdY at *
 simp only [Bool.and_eq_true] at *
 exact ⟨⟨⟨hv.1.1.1,zIu h hv.1.1.2⟩,hv.1.2⟩,zDE h hv.2⟩
theorem mbY_mono (u:Bool) (v:D) (hv:mbY lit u v=true):mbY lit' u v=true:=by
 unfold mbY at *
 rw [Bool.and_eq_true,Bool.and_eq_true] at *
 exact ⟨⟨hv.1.1,zDE h hv.1.2⟩,hv.2⟩
theorem defY_mono (v:D) (hv:defY lit v=true):defY lit' v=true:=by
 unfold defY fdsY mbsY at *
 simp only [Bool.and_eq_true] at *
 exact ⟨⟨⟨⟨⟨⟨hv.1.1.1.1.1.1,hv.1.1.1.1.1.2⟩,zDE h hv.1.1.1.1.2⟩,hv.1.1.1.2⟩,⟨hv.1.1.2.1,zDI (fdY_mono h) hv.1.1.2.2⟩⟩,⟨hv.1.2.1,zDI (mbY_mono h _) hv.1.2.2⟩⟩,zIu h hv.2⟩
theorem docY_mono {l:List D} (hv:docY lit l=true):docY lit' l=true:=by
 unfold docY at *
 rw [Bool.and_eq_true] at *
 exact ⟨hv.1,zDI (defY_mono h) hv.2⟩
end
theorem parseD_ok {s:List UInt8} {q:D} (h:parseD s = .ok q) : ∃ ds,q=zCl ds/\docY litW ds=true/\1<=ds.length/\ds.length<=64:=by
 obtain ⟨ds,h1,h2⟩:=zIY h
 refine ⟨ds,h1,docY_mono (fun v=>lit_W) h2,?_⟩
 unfold docY at h2
 simp only [Bool.and_eq_true,decide_eq_true_eq] at h2
 exact h2.1
theorem exS_right:docY litW (exS.f 0).l=true:=by
 obtain ⟨ds,h1,h2,-⟩:=parseD_ok zI6
 rw [h1];exact h2
attribute [local irreducible] wpList Calls Code.wp
theorem zJY (d:D):AC EN5 Tryz.prog 14 [.agg (cellsV Tryz.prog 12 25 d)] (.c (.bool (docY litW (d.f 0).l))):=zII zEo litU_ac zIS d
theorem ex6_ac:AC EN5 Tryz.prog 9 [] (.c (.bool true)):=example_ac zJY exS_right
end
section
open Go.RowKit
set_option linter.unusedSectionVars false
theorem len_fdm {n:Nat} {d:D} (h:LenT Tryz.prog (n+2) 45 d):(d.f 4).l.length<=maxLen/\(d.f 5).l.length<=maxLen:=
 ⟨(LenT.lst (t:=41) (e:=50) (by kernel_rfl) (LenT.fld 4 (fs:=Tryz.prog.fieldsOf 45) (f:=(Tryz.prog.fieldsOf 45)[4]!) (by kernel_rfl) (by kernel_rfl) h)).1,
  (LenT.lst (t:=42) (e:=79) (by kernel_rfl) (LenT.fld 5 (fs:=Tryz.prog.fieldsOf 45) (f:=(Tryz.prog.fieldsOf 45)[5]!) (by kernel_rfl) (by kernel_rfl) h)).1⟩
attribute [local irreducible] wpList Calls Code.wp AW AWo OpOk seqK zq zt loopK endK AC zg Yld Sub
attribute [local irreducible] ACB ACX ACE absLexG YldG absLexH
noncomputable def HWo (d:D) (n:Int) (i:Nat):Vst 110:=stS 110 [(1,.c (.int .i64 2000)),(2,.bx 2 0),(5,.c (.int .i64 n)),(6,.c (.int .i64 (i:Int)))] [(2,.box 25 (cellsV Tryz.prog 12 25 d))]
noncomputable def HWf (d t:D) (n:Int) (i k:Nat):Vst 110:=stS 110 [(1,.c (.int .i64 2000)),(2,.bx 2 0),(5,.c (.int .i64 n)),(6,.c (.int .i64 (i:Int))),(7,.bx 7 0),(8,.c (.int .i64 (k:Int)))] [(2,.box 25 (cellsV Tryz.prog 12 25 d)),(7,.box 45 (cellsV Tryz.prog 12 45 t))]
noncomputable def HWm (d t:D) (n:Int) (i k:Nat):Vst 110:=stS 110 [(1,.c (.int .i64 2000)),(2,.bx 2 0),(5,.c (.int .i64 n)),(6,.c (.int .i64 (i:Int))),(7,.bx 7 0),(9,.c (.int .i64 (k:Int)))] [(2,.box 25 (cellsV Tryz.prog 12 25 d)),(7,.box 45 (cellsV Tryz.prog 12 45 t))]
theorem docWt_ac (d:D):AC EN Tryz.prog 13 [.agg (cellsV Tryz.prog 12 25 d),.c (.int .i64 2000)] (.c (.int .i64 (docWt (d.f 0).l))):=by
 refine zA9 4 (by kernel_rfl) fun hL2 => ?_
 have hl:(d.f 0).l.length<=9223372036854775807:=zHU hL2
 have hld:=fun i (hi:i<(d.f 0).l.length)=>len_fdm (zHW hL2 i hi)
 clear hL2
 obtain ⟨R,hR⟩ : ∃ R,docWt (d.f 0).l=R:=⟨_,rfl⟩
 rw [hR]
 unfold docWt at hR
 refine zN 110 Tryz.func13 rfl rfl rfl rfl ?_
 intro s w he
 repeat' (first
|refine zA ?_
|refine zB ?_
|refine zK ?_
|apply aw_1
 conv=>whnf
 refine ⟨?_,trivial⟩
|apply s_1
 conv=>whnf;arg 1;arg 4;arg 3;whnf
 refine ⟨?_,?_⟩
|apply zAA rfl rfl rfl rfl
 . conv=>lhs;whnf;arg 1;whnf
 . rfl
|exact trivial)
 refine za (fun j st => ∃ i n,i+j=(d.f 0).l.length/\stepW (fun i n=>defWt (gD (d.f 0).l i) n) j i n=R/\Sub (cx EN Tryz.prog s w he) st (HWo d n i)) (d.f 0).l.length ⟨0,_,by omega,hR,Sub.live ⟨rfl,rfl,rfl,rfl,trivial⟩ ⟨rfl,trivial⟩⟩ ?_
 clear hR
 rintro j st ⟨i,n,hij,hR,hs2⟩
 refine zi hs2 ?_
 clear hs2
 have h3:(i<(d.f 0).l.length/\n<=2000)\/(i<(d.f 0).l.length /\ ¬ n<=2000) \/ ¬ i<(d.f 0).l.length:=by omega
 rcases h3 with ⟨hi,hn⟩ | ⟨hi,hn⟩ | hi
 . obtain ⟨j,rfl⟩ : ∃ q,j=q+1:=⟨j-1,by omega⟩
   have f1:decide ((i:Int)<((d.f 0).l.length:Nat))=true:=decide_eq_true (by omega)
   have f2:decide (n<=2000)=true:=decide_eq_true hn
   have K1:(decide ((i:Int)<((d.f 0).l.length:Nat))==true)=false->False:=fun h=>by rw [f1] at h;cases h
   have hR:=zBD hR hn
   obtain ⟨h4,h5⟩:=hld i hi
   have h4:((gD (d.f 0).l i).f 4).l.length<=9223372036854775807:=h4
   have h5:((gD (d.f 0).l i).f 5).l.length<=9223372036854775807:=h5
   obtain ⟨RF,hRF⟩ : ∃ R,stepW (fdWt (gD (d.f 0).l i)) ((gD (d.f 0).l i).f 4).l.length 0 (wrW (wrW (wrW (n+((gD (d.f 0).l i).f 2).l.length)+dirsWt ((gD (d.f 0).l i).f 3).l)+insWt ((gD (d.f 0).l i).f 6).l))=R:=⟨_,rfl⟩
   obtain ⟨RM,hRM⟩ : ∃ R,stepW (mbWt (gD (d.f 0).l i)) ((gD (d.f 0).l i).f 5).l.length 0 RF=R:=⟨_,rfl⟩
   have hR:stepW (fun i n=>defWt (gD (d.f 0).l i) n) j (i+1) RM=R:=by
    rw [<- hR,<- hRM,<- hRF];rfl
   have hd1:=zCy ((gD (d.f 0).l i).f 3).l
   have hi1:=zK6 ((gD (d.f 0).l i).f 6).l
   repeat' (first
|apply y_addW rfl rfl rfl
 . conv=>lhs;whnf
 . conv=>lhs;whnf
|apply zG
 . conv=>lhs;whnf
 . assumption
|exact (K1 ‹_›).elim
|refine zA ?_
|refine zB ?_
|refine zK ?_
|apply aw_1
 conv=>whnf
 refine ⟨?_,trivial⟩
|apply zT rfl rfl
 . conv=>lhs;whnf
 . conv=>lhs;whnf
 . first | exact bT1 ‹_› | exact bT2 ‹_›
|apply s_1
 conv=>whnf;arg 1;arg 4;arg 3;whnf
 refine ⟨?_,?_⟩
|apply zV rfl rfl rfl
 . conv=>lhs;whnf
 . conv=>lhs;whnf;arg 1;whnf
 . conv=>lhs;whnf;arg 1;whnf
 . exact ⟨by kernel_rfl,by kernel_rfl⟩
 . rfl
|apply zF rfl
 . conv=>lhs;whnf
 . conv=>lhs;whnf
 . first | rfl | assumption
 . conv=>lhs;whnf;arg 2;whnf
|apply zC rfl
 . conv=>lhs;whnf
 . conv=>lhs;whnf
 . conv=>lhs;whnf;arg 2;whnf
|apply zAC (by kernel_rfl) (by kernel_rfl)
|apply zAs
|apply zAr rfl
 . conv=>lhs;whnf
 . conv=>lhs;whnf;arg 2;whnf
|apply zCX rfl
 . conv=>lhs;whnf
 . conv=>lhs;whnf
 . first | exact hd1 | exact hi1
|exact zj
|exact zr
|exact (1000000:Nat)
|exact trivial
|intro hg)
   all_goals first
    |exact zS (by omega)
    |exact zu hi
    |skip
   clear K1 f2 hd1 hi1
   refine za (fun jj st => ∃ k m,k+jj=((gD (d.f 0).l i).f 4).l.length/\stepW (fdWt (gD (d.f 0).l i)) jj k m=RF/\Sub (cx EN Tryz.prog s w he) st (HWf d (gD (d.f 0).l i) m i k)) ((gD (d.f 0).l i).f 4).l.length ⟨0,_,by omega,hRF,Sub.live ⟨rfl,rfl,rfl,rfl,rfl,rfl,trivial⟩ ⟨rfl,rfl,trivial⟩⟩ ?_
   clear hRF
   rintro jj st2 ⟨k,m,hkj,hRF,hs3⟩
   refine zi hs3 ?_
   clear hs3
   have h6:(k<((gD (d.f 0).l i).f 4).l.length/\m<=2000)\/(k<((gD (d.f 0).l i).f 4).l.length /\ ¬ m<=2000) \/ ¬ k<((gD (d.f 0).l i).f 4).l.length:=by omega
   rcases h6 with ⟨hk,hm⟩ | ⟨hk,hm⟩ | hk
   . obtain ⟨jj,rfl⟩ : ∃ q,jj=q+1:=⟨jj-1,by omega⟩
     have g1:decide ((k:Int)<(((gD (d.f 0).l i).f 4).l.length:Nat))=true:=decide_eq_true (by omega)
     have g2:decide (m<=2000)=true:=decide_eq_true hm
     have K2:(decide ((k:Int)<(((gD (d.f 0).l i).f 4).l.length:Nat))==true)=false->False:=fun h=>by rw [g1] at h;cases h
     have hd1:=zCy ((gD ((gD (d.f 0).l i).f 4).l k).f 3).l
     have hi1:=zK6 ((gD ((gD (d.f 0).l i).f 4).l k).f 1).l
     repeat' (first
|apply zA8 rfl rfl rfl
 . conv=>lhs;whnf
 . conv=>lhs;whnf
|apply y_addW rfl rfl rfl
 . conv=>lhs;whnf
 . conv=>lhs;whnf
|apply zG
 . conv=>lhs;whnf
 . assumption
|exact (K2 ‹_›).elim
|refine zA ?_
|refine zB ?_
|refine zK ?_
|refine zP ?_
|apply aw_1
 conv=>whnf
 refine ⟨?_,trivial⟩
|apply zT rfl rfl
 . conv=>lhs;whnf
 . conv=>lhs;whnf
 . first | exact bT1 ‹_› | exact bT2 ‹_›
|apply s_1
 conv=>whnf;arg 1;arg 4;arg 3;whnf
 refine ⟨?_,?_⟩
|apply zF rfl
 . conv=>lhs;whnf
 . conv=>lhs;whnf
 . first | rfl | assumption
 . conv=>lhs;whnf;arg 2;whnf
|apply zC rfl
 . conv=>lhs;whnf
 . conv=>lhs;whnf
 . conv=>lhs;whnf;arg 2;whnf
|apply zAC (by kernel_rfl) (by kernel_rfl)
|apply zAs
|apply zAr rfl
 . conv=>lhs;whnf
 . conv=>lhs;whnf;arg 2;whnf
|apply zCX rfl
 . conv=>lhs;whnf
 . conv=>lhs;whnf
 . first | exact hd1 | exact hi1
|exact zj
|exact zr
|exact (1000000:Nat)
|exact trivial
|intro hg)
     all_goals first
      |exact zS (by omega)
      |exact zu hi
      |exact zu hk
      |exact zH (j':=jj) (by omega) ⟨k+1,_,by omega,zBD hRF hm,Sub.live ⟨rfl,rfl,rfl,rfl,rfl,wr1 (by omega),trivial⟩ ⟨rfl,rfl,trivial⟩⟩
      |skip
   . have g1:decide ((k:Int)<(((gD (d.f 0).l i).f 4).l.length:Nat))=true:=decide_eq_true (by omega)
     have g2:decide (m<=2000)=false:=decide_eq_false hm
     have K2:(decide ((k:Int)<(((gD (d.f 0).l i).f 4).l.length:Nat))==true)=false->False:=fun h=>by rw [g1] at h;cases h
     have hE:=zAB hRF (.inl hm)
     repeat' (first
|apply zD
 . conv=>lhs;whnf
 . assumption
|exact (K2 ‹_›).elim
|refine zA ?_
|refine zB ?_
|refine zK ?_
|apply aw_1
 conv=>whnf
 refine ⟨?_,trivial⟩
|apply zT rfl rfl
 . conv=>lhs;whnf
 . conv=>lhs;whnf
 . first | exact bT1 ‹_› | exact bT2 ‹_›
|apply s_1
 conv=>whnf;arg 1;arg 4;arg 3;whnf
 refine ⟨?_,?_⟩
|apply zF rfl
 . conv=>lhs;whnf
 . conv=>lhs;whnf
 . first | rfl | assumption
 . conv=>lhs;whnf;arg 2;whnf
|apply zC rfl
 . conv=>lhs;whnf
 . conv=>lhs;whnf
 . conv=>lhs;whnf;arg 2;whnf
|refine zL ?_
|refine zJ rfl ?_
|refine zI ?_
|exact trivial
|intro hg)
     rw [<- hE] at hRM
     clear K2 hRF hE
     refine za (fun jj st => ∃ k x,k+jj=((gD (d.f 0).l i).f 5).l.length/\stepW (mbWt (gD (d.f 0).l i)) jj k x=RM/\Sub (cx EN Tryz.prog s w he) st (HWm d (gD (d.f 0).l i) x i k)) ((gD (d.f 0).l i).f 5).l.length ⟨0,_,by omega,hRM,Sub.live ⟨rfl,rfl,rfl,rfl,rfl,rfl,trivial⟩ ⟨rfl,rfl,trivial⟩⟩ ?_
     clear hRM
     rintro j3 st3 ⟨q,x,hqj,hRM,hs4⟩
     refine zi hs4 ?_
     clear hs4
     have h7:(q<((gD (d.f 0).l i).f 5).l.length/\x<=2000)\/(q<((gD (d.f 0).l i).f 5).l.length /\ ¬ x<=2000) \/ ¬ q<((gD (d.f 0).l i).f 5).l.length:=by omega
     rcases h7 with ⟨hq,hx⟩ | ⟨hq,hx⟩ | hq
     . obtain ⟨j3,rfl⟩ : ∃ q,j3=q+1:=⟨j3-1,by omega⟩
       have e1:decide ((q:Int)<(((gD (d.f 0).l i).f 5).l.length:Nat))=true:=decide_eq_true (by omega)
       have e2:decide (x<=2000)=true:=decide_eq_true hx
       have K3:(decide ((q:Int)<(((gD (d.f 0).l i).f 5).l.length:Nat))==true)=false->False:=fun h=>by rw [e1] at h;cases h
       have hd1:=zCy ((gD ((gD (d.f 0).l i).f 5).l q).f 1).l
       repeat' (first
|apply zA8 rfl rfl rfl
 . conv=>lhs;whnf
 . conv=>lhs;whnf
|apply zG
 . conv=>lhs;whnf
 . assumption
|exact (K3 ‹_›).elim
|refine zA ?_
|refine zB ?_
|refine zK ?_
|refine zP ?_
|apply aw_1
 conv=>whnf
 refine ⟨?_,trivial⟩
|apply zT rfl rfl
 . conv=>lhs;whnf
 . conv=>lhs;whnf
 . first | exact bT1 ‹_› | exact bT2 ‹_›
|apply s_1
 conv=>whnf;arg 1;arg 4;arg 3;whnf
 refine ⟨?_,?_⟩
|apply zb rfl
 . conv=>lhs;whnf
 . conv=>lhs;whnf
 . first | exact hd1
|apply zF rfl
 . conv=>lhs;whnf
 . conv=>lhs;whnf
 . first | rfl | assumption
 . conv=>lhs;whnf;arg 2;whnf
|apply zC rfl
 . conv=>lhs;whnf
 . conv=>lhs;whnf
 . conv=>lhs;whnf;arg 2;whnf
|exact trivial
|intro hg)
       all_goals first
        |exact zS (by omega)
        |exact zu hi
        |exact zu hq
        |exact zH (j':=j3) (by omega) ⟨q+1,_,by omega,zBD hRM hx,Sub.live ⟨rfl,rfl,rfl,rfl,rfl,wr1 (by omega),trivial⟩ ⟨rfl,rfl,trivial⟩⟩
        |skip
     . have e1:decide ((q:Int)<(((gD (d.f 0).l i).f 5).l.length:Nat))=true:=decide_eq_true (by omega)
       have e2:decide (x<=2000)=false:=decide_eq_false hx
       have K3:(decide ((q:Int)<(((gD (d.f 0).l i).f 5).l.length:Nat))==true)=false->False:=fun h=>by rw [e1] at h;cases h
       have hE:=zAB hRM (.inl hx)
       rw [<- hE] at hR
       repeat' (first
|apply zA8 rfl rfl rfl
 . conv=>lhs;whnf
 . conv=>lhs;whnf
|apply zD
 . conv=>lhs;whnf
 . assumption
|exact (K3 ‹_›).elim
|refine zA ?_
|refine zB ?_
|refine zK ?_
|refine zP ?_
|apply aw_1
 conv=>whnf
 refine ⟨?_,trivial⟩
|apply zT rfl rfl
 . conv=>lhs;whnf
 . conv=>lhs;whnf
 . first | exact bT1 ‹_› | exact bT2 ‹_›
|apply s_1
 conv=>whnf;arg 1;arg 4;arg 3;whnf
 refine ⟨?_,?_⟩
|apply zF rfl
 . conv=>lhs;whnf
 . conv=>lhs;whnf
 . first | rfl | assumption
 . conv=>lhs;whnf;arg 2;whnf
|apply zC rfl
 . conv=>lhs;whnf
 . conv=>lhs;whnf
 . conv=>lhs;whnf;arg 2;whnf
|refine zL ?_
|refine zJ rfl ?_
|refine zI ?_
|exact trivial
|intro hg)
       all_goals first
        |exact zS (by omega)
        |exact zH (j':=j) (by omega) ⟨i+1,_,by omega,hR,Sub.live ⟨rfl,rfl,rfl,wr1 (by omega),trivial⟩ ⟨rfl,trivial⟩⟩
        |skip
     . have e1:decide ((q:Int)<(((gD (d.f 0).l i).f 5).l.length:Nat))=false:=decide_eq_false (by omega)
       have K3:(decide ((q:Int)<(((gD (d.f 0).l i).f 5).l.length:Nat))==true)=true->False:=fun h=>by rw [e1] at h;cases h
       have hE:=zAB hRM (.inr (by omega))
       rw [<- hE] at hR
       repeat' (first
|apply zA8 rfl rfl rfl
 . conv=>lhs;whnf
 . conv=>lhs;whnf
|exact (K3 ‹_›).elim
|refine zA ?_
|refine zB ?_
|refine zK ?_
|refine zP ?_
|apply aw_1
 conv=>whnf
 refine ⟨?_,trivial⟩
|apply zQ rfl rfl
 . conv=>lhs;whnf
 . conv=>lhs;whnf
 . first | exact bF1 ‹_› | exact bF2 ‹_›
|apply s_1
 conv=>whnf;arg 1;arg 4;arg 3;whnf
 refine ⟨?_,?_⟩
|apply zX rfl
 . conv=>lhs;whnf
 . conv=>lhs;whnf
 . first | rfl | assumption
|apply zC rfl
 . conv=>lhs;whnf
 . conv=>lhs;whnf
 . conv=>lhs;whnf;arg 2;whnf
|refine zL ?_
|refine zJ rfl ?_
|refine zI ?_
|exact trivial
|intro hg)
       all_goals first
        |exact zS (by omega)
        |exact zH (j':=j) (by omega) ⟨i+1,_,by omega,hR,Sub.live ⟨rfl,rfl,rfl,wr1 (by omega),trivial⟩ ⟨rfl,trivial⟩⟩
        |skip
   . have g1:decide ((k:Int)<(((gD (d.f 0).l i).f 4).l.length:Nat))=false:=decide_eq_false (by omega)
     have K2:(decide ((k:Int)<(((gD (d.f 0).l i).f 4).l.length:Nat))==true)=true->False:=fun h=>by rw [g1] at h;cases h
     have hE:=zAB hRF (.inr (by omega))
     repeat' (first
|exact (K2 ‹_›).elim
|refine zA ?_
|refine zB ?_
|refine zK ?_
|apply aw_1
 conv=>whnf
 refine ⟨?_,trivial⟩
|apply zQ rfl rfl
 . conv=>lhs;whnf
 . conv=>lhs;whnf
 . first | exact bF1 ‹_› | exact bF2 ‹_›
|apply s_1
 conv=>whnf;arg 1;arg 4;arg 3;whnf
 refine ⟨?_,?_⟩
|apply zX rfl
 . conv=>lhs;whnf
 . conv=>lhs;whnf
 . first | rfl | assumption
|apply zC rfl
 . conv=>lhs;whnf
 . conv=>lhs;whnf
 . conv=>lhs;whnf;arg 2;whnf
|refine zL ?_
|refine zJ rfl ?_
|refine zI ?_
|exact trivial
|intro hg)
     rw [<- hE] at hRM
     clear K2 hRF hE
     refine za (fun jj st => ∃ k x,k+jj=((gD (d.f 0).l i).f 5).l.length/\stepW (mbWt (gD (d.f 0).l i)) jj k x=RM/\Sub (cx EN Tryz.prog s w he) st (HWm d (gD (d.f 0).l i) x i k)) ((gD (d.f 0).l i).f 5).l.length ⟨0,_,by omega,hRM,Sub.live ⟨rfl,rfl,rfl,rfl,rfl,rfl,trivial⟩ ⟨rfl,rfl,trivial⟩⟩ ?_
     clear hRM
     rintro j3 st3 ⟨q,x,hqj,hRM,hs4⟩
     refine zi hs4 ?_
     clear hs4
     have h7:(q<((gD (d.f 0).l i).f 5).l.length/\x<=2000)\/(q<((gD (d.f 0).l i).f 5).l.length /\ ¬ x<=2000) \/ ¬ q<((gD (d.f 0).l i).f 5).l.length:=by omega
     rcases h7 with ⟨hq,hx⟩ | ⟨hq,hx⟩ | hq
     . obtain ⟨j3,rfl⟩ : ∃ q,j3=q+1:=⟨j3-1,by omega⟩
       have e1:decide ((q:Int)<(((gD (d.f 0).l i).f 5).l.length:Nat))=true:=decide_eq_true (by omega)
       have e2:decide (x<=2000)=true:=decide_eq_true hx
       have K3:(decide ((q:Int)<(((gD (d.f 0).l i).f 5).l.length:Nat))==true)=false->False:=fun h=>by rw [e1] at h;cases h
       have hd1:=zCy ((gD ((gD (d.f 0).l i).f 5).l q).f 1).l
       repeat' (first
|apply zA8 rfl rfl rfl
 . conv=>lhs;whnf
 . conv=>lhs;whnf
|apply zG
 . conv=>lhs;whnf
 . assumption
|exact (K3 ‹_›).elim
|refine zA ?_
|refine zB ?_
|refine zK ?_
|refine zP ?_
|apply aw_1
 conv=>whnf
 refine ⟨?_,trivial⟩
|apply zT rfl rfl
 . conv=>lhs;whnf
 . conv=>lhs;whnf
 . first | exact bT1 ‹_› | exact bT2 ‹_›
|apply s_1
 conv=>whnf;arg 1;arg 4;arg 3;whnf
 refine ⟨?_,?_⟩
|apply zb rfl
 . conv=>lhs;whnf
 . conv=>lhs;whnf
 . first | exact hd1
|apply zF rfl
 . conv=>lhs;whnf
 . conv=>lhs;whnf
 . first | rfl | assumption
 . conv=>lhs;whnf;arg 2;whnf
|apply zC rfl
 . conv=>lhs;whnf
 . conv=>lhs;whnf
 . conv=>lhs;whnf;arg 2;whnf
|exact trivial
|intro hg)
       all_goals first
        |exact zS (by omega)
        |exact zu hi
        |exact zu hq
        |exact zH (j':=j3) (by omega) ⟨q+1,_,by omega,zBD hRM hx,Sub.live ⟨rfl,rfl,rfl,rfl,rfl,wr1 (by omega),trivial⟩ ⟨rfl,rfl,trivial⟩⟩
        |skip
     . have e1:decide ((q:Int)<(((gD (d.f 0).l i).f 5).l.length:Nat))=true:=decide_eq_true (by omega)
       have e2:decide (x<=2000)=false:=decide_eq_false hx
       have K3:(decide ((q:Int)<(((gD (d.f 0).l i).f 5).l.length:Nat))==true)=false->False:=fun h=>by rw [e1] at h;cases h
       have hE:=zAB hRM (.inl hx)
       rw [<- hE] at hR
       repeat' (first
|apply zA8 rfl rfl rfl
 . conv=>lhs;whnf
 . conv=>lhs;whnf
|apply zD
 . conv=>lhs;whnf
 . assumption
|exact (K3 ‹_›).elim
|refine zA ?_
|refine zB ?_
|refine zK ?_
|refine zP ?_
|apply aw_1
 conv=>whnf
 refine ⟨?_,trivial⟩
|apply zT rfl rfl
 . conv=>lhs;whnf
 . conv=>lhs;whnf
 . first | exact bT1 ‹_› | exact bT2 ‹_›
|apply s_1
 conv=>whnf;arg 1;arg 4;arg 3;whnf
 refine ⟨?_,?_⟩
|apply zF rfl
 . conv=>lhs;whnf
 . conv=>lhs;whnf
 . first | rfl | assumption
 . conv=>lhs;whnf;arg 2;whnf
|apply zC rfl
 . conv=>lhs;whnf
 . conv=>lhs;whnf
 . conv=>lhs;whnf;arg 2;whnf
|refine zL ?_
|refine zJ rfl ?_
|refine zI ?_
|exact trivial
|intro hg)
       all_goals first
        |exact zS (by omega)
        |exact zH (j':=j) (by omega) ⟨i+1,_,by omega,hR,Sub.live ⟨rfl,rfl,rfl,wr1 (by omega),trivial⟩ ⟨rfl,trivial⟩⟩
        |skip
     . have e1:decide ((q:Int)<(((gD (d.f 0).l i).f 5).l.length:Nat))=false:=decide_eq_false (by omega)
       have K3:(decide ((q:Int)<(((gD (d.f 0).l i).f 5).l.length:Nat))==true)=true->False:=fun h=>by rw [e1] at h;cases h
       have hE:=zAB hRM (.inr (by omega))
       rw [<- hE] at hR
       repeat' (first
|apply zA8 rfl rfl rfl
 . conv=>lhs;whnf
 . conv=>lhs;whnf
|exact (K3 ‹_›).elim
|refine zA ?_
|refine zB ?_
|refine zK ?_
|refine zP ?_
|apply aw_1
 conv=>whnf
 refine ⟨?_,trivial⟩
|apply zQ rfl rfl
 . conv=>lhs;whnf
 . conv=>lhs;whnf
 . first | exact bF1 ‹_› | exact bF2 ‹_›
|apply s_1
 conv=>whnf;arg 1;arg 4;arg 3;whnf
 refine ⟨?_,?_⟩
|apply zX rfl
 . conv=>lhs;whnf
 . conv=>lhs;whnf
 . first | rfl | assumption
|apply zC rfl
 . conv=>lhs;whnf
 . conv=>lhs;whnf
 . conv=>lhs;whnf;arg 2;whnf
|refine zL ?_
|refine zJ rfl ?_
|refine zI ?_
|exact trivial
|intro hg)
       all_goals first
        |exact zS (by omega)
        |exact zH (j':=j) (by omega) ⟨i+1,_,by omega,hR,Sub.live ⟨rfl,rfl,rfl,wr1 (by omega),trivial⟩ ⟨rfl,trivial⟩⟩
        |skip
 . have f1:decide ((i:Int)<((d.f 0).l.length:Nat))=true:=decide_eq_true (by omega)
   have f2:decide (n<=2000)=false:=decide_eq_false hn
   have K1:(decide ((i:Int)<((d.f 0).l.length:Nat))==true)=false->False:=fun h=>by rw [f1] at h;cases h
   have hE:=zAB hR (.inl hn)
   repeat' (first
|apply zD
 . conv=>lhs;whnf
 . assumption
|exact (K1 ‹_›).elim
|refine zA ?_
|refine zB ?_
|refine zK ?_
|apply aw_1
 conv=>whnf
 refine ⟨?_,trivial⟩
|apply zT rfl rfl
 . conv=>lhs;whnf
 . conv=>lhs;whnf
 . first | exact bT1 ‹_› | exact bT2 ‹_›
|apply s_1
 conv=>whnf;arg 1;arg 4;arg 3;whnf
 refine ⟨?_,?_⟩
|apply zF rfl
 . conv=>lhs;whnf
 . conv=>lhs;whnf
 . first | rfl | assumption
 . conv=>lhs;whnf;arg 2;whnf
|apply zC rfl
 . conv=>lhs;whnf
 . conv=>lhs;whnf
 . conv=>lhs;whnf;arg 2;whnf
|refine zL ?_
|refine zJ rfl ?_
|refine zI ?_
|refine zE ?_
|refine ⟨_,by conv=>lhs;whnf;arg 2;whnf,?_⟩;conv=>rhs;whnf
|exact trivial
|intro hg)
   all_goals first
    |(rw [hE];done)
    |skip
 . have f1:decide ((i:Int)<((d.f 0).l.length:Nat))=false:=decide_eq_false (by omega)
   have K1:(decide ((i:Int)<((d.f 0).l.length:Nat))==true)=true->False:=fun h=>by rw [f1] at h;cases h
   have hE:=zAB hR (.inr (by omega))
   repeat' (first
|exact (K1 ‹_›).elim
|refine zA ?_
|refine zB ?_
|refine zK ?_
|apply aw_1
 conv=>whnf
 refine ⟨?_,trivial⟩
|apply zQ rfl rfl
 . conv=>lhs;whnf
 . conv=>lhs;whnf
 . first | exact bF1 ‹_› | exact bF2 ‹_›
|apply s_1
 conv=>whnf;arg 1;arg 4;arg 3;whnf
 refine ⟨?_,?_⟩
|apply zX rfl
 . conv=>lhs;whnf
 . conv=>lhs;whnf
 . first | rfl | assumption
|apply zC rfl
 . conv=>lhs;whnf
 . conv=>lhs;whnf
 . conv=>lhs;whnf;arg 2;whnf
|refine zL ?_
|refine zJ rfl ?_
|refine zI ?_
|refine zE ?_
|refine ⟨_,by conv=>lhs;whnf;arg 2;whnf,?_⟩;conv=>rhs;whnf
|exact trivial
|intro hg)
   all_goals first
    |(rw [hE];done)
    |skip
end
section
open Go.RowKit
set_option linter.unusedSectionVars false
attribute [local irreducible] wpList Calls Code.wp AW AWo OpOk seqK zq zt loopK endK AC zg Yld Sub
attribute [local irreducible] ACB ACX ACE absLexG YldG absLexH
theorem reads6_ac {j:Nat} (d:D) (hf:Fits Tryz.prog j 25 d) (hw:wideD d) (hb:bulkD d<=1048576):AC EN5 Tryz.prog 6 [.agg (cellsV Tryz.prog 12 25 d)] (.c (.bool true)):=by
 have h1:=(docWt_ac d).five
 have h2:=(zG9 d).five
 have hEx:=ex6_ac
 generalize docWt (d.f 0).l=n at h1
 by_cases hn:n>2000
 . have f1:decide (n>2000)=true:=decide_eq_true hn
   have K1:(decide (n>2000)==false)=true->False:=fun h=>by rw [f1] at h;cases h
   refine zN 42 Tryz.func6 rfl rfl rfl rfl ?_
   intro s w he
   repeat' (first
|exact (K1 ‹_›).elim
|refine zA ?_
|refine zB ?_
|refine zK ?_
|apply aw_1
 conv=>whnf
 refine ⟨?_,trivial⟩
|apply zT rfl rfl
 . conv=>lhs;whnf
 . conv=>lhs;whnf
 . first | exact bT1 ‹_› | exact bT2 ‹_›
|apply s_1
 conv=>whnf;arg 1;arg 4;arg 3;whnf
 refine ⟨?_,?_⟩
|apply zb rfl
 . conv=>lhs;whnf
 . conv=>lhs;whnf
 . first | exact h1 | exact h2 | exact hEx
|apply zAA rfl rfl rfl rfl
 . conv=>lhs;whnf;arg 1;whnf
 . rfl
|apply zX rfl
 . conv=>lhs;whnf
 . conv=>lhs;whnf
 . first | rfl | assumption
|apply zC rfl
 . conv=>lhs;whnf
 . conv=>lhs;whnf
 . conv=>lhs;whnf;arg 2;whnf
|refine zM ?_
|refine zE ?_
|refine ⟨_,by conv=>lhs;whnf;arg 2;whnf,?_⟩;conv=>rhs;whnf
|exact trivial
|intro hg)
   all_goals first
    |rfl
    |exact (show Tryz.prog.underlying 4=some TypeDesc.bool by kernel_rfl)
    |skip
 have f1:decide (n>2000)=false:=decide_eq_false hn
 have K1:decide (n>2000)=true->False:=fun h=>by rw [f1] at h;cases h
 cases hR:docY litW (d.f 0).l with
 |false =>
  rw [hR] at h2
  refine zN 42 Tryz.func6 rfl rfl rfl rfl ?_
  intro s w he
  repeat' (first
|refine zA ?_
|refine zB ?_
|refine zK ?_
|apply aw_1
 conv=>whnf
 refine ⟨?_,trivial⟩
|apply zT rfl rfl
 . conv=>lhs;whnf
 . conv=>lhs;whnf
 . first | exact bT1 ‹_› | exact bT2 ‹_›
|apply zQ rfl rfl
 . conv=>lhs;whnf
 . conv=>lhs;whnf
 . first | exact bF1 ‹_› | exact bF2 ‹_›
|apply s_1
 conv=>whnf;arg 1;arg 4;arg 3;whnf
 refine ⟨?_,?_⟩
|apply zb rfl
 . conv=>lhs;whnf
 . conv=>lhs;whnf
 . first | exact h1 | exact h2 | exact hEx
|apply zAA rfl rfl rfl rfl
 . conv=>lhs;whnf;arg 1;whnf
 . rfl
|apply zF rfl
 . conv=>lhs;whnf
 . conv=>lhs;whnf
 . first | rfl | assumption
 . conv=>lhs;whnf;arg 2;whnf
|apply zU rfl
 . conv=>lhs;whnf
 . conv=>lhs;whnf
 . first | rfl | assumption
 . conv=>lhs;whnf
 . first | exact h1 | exact h2 | exact hEx
|apply zX rfl
 . conv=>lhs;whnf
 . conv=>lhs;whnf
 . first | rfl | assumption
|apply zC rfl
 . conv=>lhs;whnf
 . conv=>lhs;whnf
 . conv=>lhs;whnf;arg 2;whnf
|refine zM ?_
|refine zE ?_
|refine ⟨_,by conv=>lhs;whnf;arg 2;whnf,?_⟩;conv=>rhs;whnf
|exact trivial
|intro hg)
  all_goals first
   |rfl
   |exact (show Tryz.prog.underlying 4=some TypeDesc.bool by kernel_rfl)
   |skip
 |true =>
  rw [hR] at h2
  have hbl:bulkL (d.f 0).l<=1048576:=bk_l (bk_f hb 0)
  have hY:=docY_small hbl hR
  obtain ⟨-,-,hp⟩:=docP hY
  have h3:=(writeW_ac d hp hw hb).five
  by_cases hlen:65536<(docS (d.f 0).l).length
  . have f2:decide (((bs (docS (d.f 0).l)).size:Int)>65536)=true:=decide_eq_true (by rw [ze];omega)
    refine zN 42 Tryz.func6 rfl rfl rfl rfl ?_
    intro s w he
    repeat' (first
|apply zG
 . conv=>lhs;whnf
 . assumption
|refine zA ?_
|refine zB ?_
|refine zK ?_
|apply aw_1
 conv=>whnf
 refine ⟨?_,trivial⟩
|apply zT rfl rfl
 . conv=>lhs;whnf
 . conv=>lhs;whnf
 . first | exact bT1 ‹_› | exact bT2 ‹_›
|apply zQ rfl rfl
 . conv=>lhs;whnf
 . conv=>lhs;whnf
 . first | exact bF1 ‹_› | exact bF2 ‹_›
|apply s_1
 conv=>whnf;arg 1;arg 4;arg 3;whnf
 refine ⟨?_,?_⟩
|apply zb rfl
 . conv=>lhs;whnf
 . conv=>lhs;whnf
 . first | exact h1 | exact h2 | exact h3 | exact hEx
|apply zAA rfl rfl rfl rfl
 . conv=>lhs;whnf;arg 1;whnf
 . rfl
|apply zF rfl
 . conv=>lhs;whnf
 . conv=>lhs;whnf
 . first | rfl | assumption
 . conv=>lhs;whnf;arg 2;whnf
|apply zU rfl
 . conv=>lhs;whnf
 . conv=>lhs;whnf
 . first | rfl | assumption
 . conv=>lhs;whnf
 . first | exact h1 | exact h2 | exact h3 | exact hEx
|apply zX rfl
 . conv=>lhs;whnf
 . conv=>lhs;whnf
 . first | rfl | assumption
|apply zC rfl
 . conv=>lhs;whnf
 . conv=>lhs;whnf
 . conv=>lhs;whnf;arg 2;whnf
|refine zM ?_
|refine zE ?_
|refine ⟨_,by conv=>lhs;whnf;arg 2;whnf,?_⟩;conv=>rhs;whnf
|exact trivial
|intro hg)
    all_goals first
     |rfl
     |exact (show Tryz.prog.underlying 4=some TypeDesc.bool by kernel_rfl)
     |skip
  have f2:decide (((bs (docS (d.f 0).l)).size:Int)>65536)=false:=decide_eq_false (by rw [ze];omega)
  have hpd:=parse_docS hY (hw.f 0).l (by omega)
  rw [<- doc_id hf hY] at hpd
  have h4:=parse6_ac (docS (d.f 0).l) (by omega)
  rw [hpd] at h4
  have h4:AC EN5 Tryz.prog 10 [.c (.string (bs (docS (d.f 0).l)))] (.tup [.agg (cellsV Tryz.prog 12 25 d),.c (.int .i64 0),.c (.int .i64 0)]):=h4
  have h5:=equalE_ac d
  refine zN 42 Tryz.func6 rfl rfl rfl rfl ?_
  intro s w he
  repeat' (first
|apply zD
 . conv=>lhs;whnf
 . assumption
|refine zA ?_
|refine zB ?_
|refine zK ?_
|apply aw_1
 conv=>whnf
 refine ⟨?_,trivial⟩
|apply zT rfl rfl
 . conv=>lhs;whnf
 . conv=>lhs;whnf
 . first | exact bT1 ‹_› | exact bT2 ‹_›
|apply zQ rfl rfl
 . conv=>lhs;whnf
 . conv=>lhs;whnf
 . first | exact bF1 ‹_› | exact bF2 ‹_›
|apply s_1
 conv=>whnf;arg 1;arg 4;arg 3;whnf
 refine ⟨?_,?_⟩
|apply zb rfl
 . conv=>lhs;whnf
 . conv=>lhs;whnf
 . first | exact h1 | exact h2 | exact h3 | exact h4 | exact h5 | exact hEx
|apply zAA rfl rfl rfl rfl
 . conv=>lhs;whnf;arg 1;whnf
 . rfl
|apply zV rfl rfl rfl
 . conv=>lhs;whnf
 . conv=>lhs;whnf;arg 1;whnf
 . conv=>lhs;whnf;arg 1;whnf
 . exact ⟨by kernel_rfl,by kernel_rfl⟩
 . rfl
|apply zF rfl
 . conv=>lhs;whnf
 . conv=>lhs;whnf
 . first | rfl | assumption
 . conv=>lhs;whnf;arg 2;whnf
|apply zU rfl
 . conv=>lhs;whnf
 . conv=>lhs;whnf
 . first | rfl | assumption
 . conv=>lhs;whnf
 . first | exact h1 | exact h2 | exact h3 | exact h4 | exact h5 | exact hEx
|apply zX rfl
 . conv=>lhs;whnf
 . conv=>lhs;whnf
 . first | rfl | assumption
|apply zC rfl
 . conv=>lhs;whnf
 . conv=>lhs;whnf
 . conv=>lhs;whnf;arg 2;whnf
|refine zM ?_
|refine zE ?_
|refine ⟨_,by conv=>lhs;whnf;arg 2;whnf,?_⟩;conv=>rhs;whnf
|exact trivial
|intro hg)
  all_goals first
   |rfl
   |exact (show Tryz.prog.underlying 4=some TypeDesc.bool by kernel_rfl)
   |skip
end
section
open Go.ChangeShapes Go.WideShapes Go.ChangeAt Go.RowKit
attribute [local irreducible] wpList Calls Code.wp
def closedB (P:Program) (S:List TypeId):Bool:=S.all fun t=>match P.underlying t with
 |some .bool=>true
 |some .string=>true
 |some (.int q)=>match q with | .i64=>true | _=>false
 |some (.slice e)=>S.contains e&&Nat.blt 0 (P.cellsOf e)
 |some (.struct fs)=>fs.toList.all fun f=>S.contains f.type
 |_=>false
theorem zGu : ∀ {l:List D},(∀ i,i<l.length->wideD (gD l i))->wideL l
 |[],_=>trivial
 |d::r,h=>⟨h 0 (by simp),zGu fun i hi=>by
  have:=h (i+1) (by simpa using hi)
  simpa [gD] using this⟩
theorem zJQ {P:Program} {w:World} {I:Nat->Prop} {S:List TypeId} (hS:closedB P S=true) : ∀ {k:Nat} {t:TypeId} {cs:List Value} {d:D},S.contains t=true->Rep P w I k t cs d->Fits P k t d->wideD d
 |0,_,_,_,_,h,_=>h.elim
 |k+1,t,cs,d,ht,hr,hf=>by
  have hc:=List.all_eq_true.1 hS t (List.contains_iff_mem.1 ht)
  unfold Rep at hr
  unfold Fits at hf
  split at hr
  . rename_i hu
    rw [hu] at hf
    obtain ⟨b,rfl⟩:=hf
    trivial
  . rename_i q hu
    rw [hu] at hf hc
    obtain ⟨n,rfl⟩:=hf
    obtain ⟨-,hw⟩:=hr
    cases q<;>simp at hc
    have hw:(Lit.int IntKind.i64 n).wf=true:=hw
    show i64D n
    rw [zCg] at hw
    simp [IntKind.min,IntKind.max,IntKind.signed,IntKind.bits] at hw
    unfold i64D
    omega
  . rename_i hu
    rw [hu] at hf
    obtain ⟨s,rfl⟩:=hf
    trivial
  . rename_i e hu
    rw [hu] at hf hc
    obtain ⟨l,rfl,hfl⟩:=hf
    simp only [Bool.and_eq_true] at hc
    obtain ⟨A,c,-,-,-,-,hi⟩:=hr
    show wideL l
    refine zGu fun i hl => ?_
    obtain ⟨b,off,-,-,hel⟩:=hi (by show 0<l.length;omega) (Nat.le_of_ble_eq_true hc.2)
    obtain ⟨ys,-,-,hy⟩:=hel i hl
    exact zJQ hS hc.1 hy (hfl i hl)
  . rename_i fs hu
    rw [hu] at hf hc
    obtain ⟨l,rfl,hl,hfl⟩:=hf
    show wideL l
    refine zGu fun i hi => ?_
    have hfi:fs[i]? = some (fs[i]'(by omega)):=Array.getElem?_eq_getElem (by omega)
    have hmem:=List.all_eq_true.1 hc (fs[i]'(by omega)) (by simp)
    exact zJQ hS hmem (hr.2 i _ hfi) (hfl i _ hfi)
  . rename_i h1 h2 h3 h4 h5
    exfalso
    split at hc
    . exact h1 ‹_›
    . exact h3 ‹_›
    . exact h2 _ ‹_›
    . exact h4 _ ‹_›
    . exact h5 _ ‹_›
    . cases hc
theorem arg_in {H:Type} {enc:TypeId × Value->H} {W:World} {v:Value} {base:Nat} {dw:DataW H} {ps:List MemPlace} {t:TypeId} {fs:Array Field} (ht:Tryz.prog.underlying t=some (.struct fs)) (hv:Value.okWide Tryz.prog W .any base t v)
 (hd:DataW.Trod enc Tryz.prog W 0 (fun _=>true) true t v dw ps) :
 ∃ (k:Nat) (cs:Array Value) (d:D),v = .agg cs/\Rep Tryz.prog W (fun b=>b<W.heap.size) k t cs.toList d/\Fits Tryz.prog k t d/\bulkD d<=Rows.uptoBulk dw:=by
 obtain ⟨cs,rfl,_⟩:=okWide_struct ht hv
 obtain ⟨k,hk⟩:=hd
 obtain ⟨d,h1,h2,h3⟩:=zCn hk
 exact ⟨k,cs,d,rfl,by simpa [Value.cells] using h1,h2,h3⟩
theorem rep_len {P:Program} {w:World} {I:Nat->Prop} {k:Nat} {t:TypeId} {cs:List Value} {d:D} {fs:Array Field} (ht:P.underlying t=some (.struct fs)) (h:Rep P w I k t cs d):cs.length=P.cellsOf t:=by
 cases k with
 |zero=>exact h.elim
 |succ k=>unfold Rep at h;rw [ht] at h;exact h.1
theorem cells0 {W:World} {k:Nat} {t:TypeId} {cs:Array Value} {d:D} {fs:Array Field} (ht:Tryz.prog.underlying t=some (.struct fs)) (hl:layB Tryz.prog 12 t=true) (hr:Rep Tryz.prog W (fun b=>b<W.heap.size) k t cs.toList d):rel Tryz.prog (sg0 W) W (.agg (cellsV Tryz.prog 12 t d)) (.agg cs):=by
 rw [rel]
 exact ⟨cs,rfl,zD0 (s:=sg0 W) 12 k t cs.toList d (RepF.of_rep hr fun b o _ h=>h) (rep_len ht hr) hl⟩
theorem upto_one {H:Type} {d:DataW H} {gs:List (DataW H)} (h:Rows.uptoSmall H (d::gs)=true):Rows.uptoBulk d<=1048576:=by
 have h1:Rows.uptoBulkAll (d::gs)<=1048576:=of_decide_eq_true h
 rw [Rows.uptoBulkAll] at h1
 omega
def docSet:List TypeId:=[25,23,45,41,50,42,79,43,55,106,111,40,108,51,53,39,9,48,46,3,4]
theorem doc_closed:closedB Tryz.prog docSet=true:=by kernel_rfl
theorem rowReads6 {H:Type} {enc:TypeId × Value->H} {W:World} {v:Value} {base:Nat} {dw:DataW H} {ps:List MemPlace} (hv:Value.okWide Tryz.prog W .any base 25 v) (hd:DataW.Trod enc Tryz.prog W 0 (fun _=>true) true 25 v dw ps) (hb:Rows.uptoBulk dw<=1048576) (he:Env W) :
 Calls Tryz.prog 6 #[v] W fun e W'=>e = .returned (.bool true)/\Below W.heap.size W W':=by
 obtain ⟨k,cs,d,rfl,hr,hf,hbk⟩:=arg_in Tryz.underlying25 hv hd
 have hw:=zJQ doc_closed (by decide) hr hf
 exact zJH (reads6_ac d hf hw (by omega)) (relL1 (cells0 Tryz.underlying25 (by kernel_rfl) hr)) he
theorem zEd (H:Type) (enc:TypeId × Value->H) (W:World) (base:Nat) (args:Array Value) (ds gs:List (DataW H)) (before:List MemPlace)
 (hval : ∀ (j:Nat) t v,Tryz.f6.params[j]? = some t->args[j]? = some v->Value.okWide Tryz.prog W .any base t v)
 (hW:DataW.Whole enc Tryz.prog Tryz.f6.params.toList Rows.sdlReadsSpec.vars false W args.toList ds gs before) (hL:laidMetH Tryz.prog Rows.sdlReadsUptoRow.laid W)
 (hcond : ∀ k,(Rows.OpenSpec.upto Rows.sdlReadsSpec).cond=some k->k H (ds++gs)=true)
 (hR:(DataW.weightsEach Tryz.prog (Tryz.f6.params.toList++(Rows.OpenSpec.upto Rows.sdlReadsSpec).bare.plain.varTypes Tryz.prog) (ds++gs)).all (· <= reachBytes)=true) :
 Calls Tryz.prog 6 args W fun e W' => ∃ v,e = .returned v/\Rows.sdlReadsSpec.post enc Tryz.prog Tryz.f6 false true false false W args v W':=by
 have hW':=hW
 obtain ⟨p,q,hA0,hV,rfl,hfz,hnd⟩:=hW
 have hA:DataW.TrodAll enc Tryz.prog W 0 (fun _=>true) true Tryz.f6.params.toList args.toList ds p:=hA0
 rw [Tryz.params6] at hA hval hR
 obtain ⟨v0,vs0,d0,ds0,p0,q0,hargs,rfl,rfl,h0,r0⟩:=trodAll_cons hA
 obtain ⟨rfl,rfl,rfl⟩:=trodAll_nil r0
 obtain rfl:args = #[v0]:=by cases args;simp_all
 refine (rowReads6 (hval 0 25 v0 rfl rfl) h0 (upto_one (hcond _ rfl)) (zJ2 hL)).mono fun e W' ⟨he,hbel⟩ => ?_
 subst he
 exact ⟨_,rfl,post_true laidOut' (types_ok _ (by kernel_rfl)) Tryz.underlying4 rfl rfl hW' hbel (fun gs h=>by subst h;rfl)⟩
theorem laid_metSdlReads (os:Os):laidMet Tryz.prog Rows.sdlReadsUptoRow.laid ((laidWorld os).forCall (fun _ _=>0) ⟨#[],#[.agg #[.slice none 0 0]],[]⟩).memory:=
 laidMet_of_run' 8 (by kernel_rfl) (by kernel_rfl)
theorem zHF (os:Os) {H:Type} (enc:TypeId × Value->H) : ∃ places,DataW.whole enc Tryz.prog ((laidWorld os).forCall (fun _ _=>0) ⟨#[],#[.agg #[.slice none 0 0]],[]⟩).memory Tryz.f6.params.toList Rows.sdlReadsSpec.vars false (#[.agg #[.slice none 0 0]]:Array Value).toList 8=some ([.agg [.nil]],[],places):=
 ⟨[],by kernel_rfl⟩
theorem zF4 (os:Os) (started:os.Started) (H:Type) (enc:TypeId × Value->H) (F:Stop.Interp) :
 ReturnsInHanded {} Tryz.checked os 6 .any ((Rows.OpenSpec.upto Rows.sdlReadsSpec).preRow enc Tryz.prog Tryz.f6 Rows.sdlReadsUptoRow.domain false Rows.sdlReadsUptoRow.laid) (((Rows.OpenSpec.upto Rows.sdlReadsSpec).at F).post enc Tryz.prog Tryz.f6 false true false false):=by
 obtain ⟨places,hx⟩:=zHF os enc
 refine returnsInHanded_of_row (C:=Tryz.checked) (s:=Rows.OpenSpec.upto Rows.sdlReadsSpec) own started (by kernel_rfl) Tryz.func6
  (witness_row_at (enc:=enc) (C:=Tryz.checked) false (laidWorld os) #[.agg #[.slice none 0 0]] rfl (by kernel_rfl) (by kernel_rfl) (by kernel_rfl)
    (OpenSpec.preRow_of_cond 8 hx (by kernel_rfl) (fun k hk=>by cases hk;kernel_rfl) (by kernel_rfl) (laid_metSdlReads os))) ?_
 intro W base args ds gs before hval hW _ hcond hR hL _ _
 exact zEd H enc W base args ds gs before hval hW hL hcond hR
theorem zHx {a b:Bool} (h1:a=true) (h2:b=true):(a&&b)=true:=by rw [h1,h2];rfl
theorem zF5:joinedFacts Tryz.prog 6 Tryz.f6 (Rows.OpenSpec.upto Rows.sdlReadsSpec).bare Rows.sdlReadsUptoRow=true:=by
 unfold joinedFacts
 repeat' (with_reducible apply zHx)
 all_goals as_aux_lemma=>kernel_rfl
theorem zIK:Rows.SdlReadsUptoSaid:=
 OpenClaim.holds_of_cond 6 Tryz.f6 rfl rfl rfl rfl rfl rfl rfl ⟨rfl,rfl,rfl,rfl,rfl⟩ rfl rfl rfl rfl rfl (by kernel_rfl) Tryz.func6 zF5
  (of_decide_eq_true (by kernel_rfl)) (by unfold Func.isWrapper;first | (rw [if_pos (by decide +kernel)];kernel_rfl) | (rw [if_neg (by decide +kernel)];exact ⟨rfl,rfl⟩))
  (fun os started H enc _ F=>by rw [OpenClaim.pre_eq_preRow];exact zF4 os started H enc F)
theorem zHI (f : FuncId) (fn : Func) (hf : Tryz.pinned.checked.prog.funcNamed "supergraph/supergraphlaw06.SdlReads" = some f) (hfn : Tryz.pinned.checked.prog.funcs[f]? = some fn) :
 true=Tryz.pinned.checked.prog.looks [] /\ ∀ (j:Nat) t,fn.params[j]? = some t->Tryz.pinned.checked.prog.wantsStandIn t=false:=by
 obtain rfl : f = 6 := Option.some.inj ((show Tryz.prog.funcNamed "supergraph/supergraphlaw06.SdlReads" = some 6 by kernel_rfl).symm.trans hf) |>.symm
 obtain rfl:fn=Tryz.f6:=(Option.some.inj (Tryz.func6.symm.trans hfn)).symm
 refine ⟨by kernel_rfl,fun j t ht => ?_⟩
 rw [Tryz.params6] at ht
 have hm:=Array.mem_of_getElem? ht
 simp only [List.mem_toArray,List.mem_cons,List.not_mem_nil,or_false] at hm
 rcases hm with rfl
 . exact (show Tryz.prog.wantsStandIn 25=false by kernel_rfl)
end
end Go.Proofs.YthppafnlnnpciaaGreatDoor
