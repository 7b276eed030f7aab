import Derived.Defers
import Derived.Recover
import Derived.WideLaws
import Derived.Test.YthjiclhfhjdjpaaGreatDoorQ36
set_option maxHeartbeats 20000000
set_option maxRecDepth 100000
set_option linter.unusedVariables false
set_option linter.unusedSimpArgs false
namespace Go.Proofs.YthjiclhfhjdjpaaGreatDoor
section
open Go.RowKit
attribute [local irreducible] wpList Calls Code.wp
section
variable {X:Cx} {nn:Nat} {st:Vst nn} {s:Sg} {w:World} {a:Act}
def Sg.hand (s:Sg) (ns:List Nat):Sg:={ F:=s.F,bx:=fun n=>(φout ns n).bind s.bx,tb:=fun n=>(φout ns n).bind s.tb,tk:=fun n=>match φout ns n with | some m=>s.tk m | none=>(.tuple #[],0) }
theorem zCj (s:Sg) (ns:List Nat) {i q:Nat} (hq:ns[i]? = some q):(s.hand ns).bx (pn i)=s.bx q/\(s.hand ns).tb (pn i)=s.tb q/\(s.hand ns).tk (pn i)=s.tk q:=by
 have e:φout ns (pn i)=some q:=(φout_pn ns i).trans hq
 refine ⟨?_,?_,?_⟩
 . show (φout ns (pn i)).bind s.bx=_;rw [e];rfl
 . show (φout ns (pn i)).bind s.tb=_;rw [e];rfl
 . show (match φout ns (pn i) with | some m=>s.tk m | none=>(.tuple #[],0))=_;rw [e]
theorem Inv.handed (hI:Inv X st s w a) (ns:List Nat) (hnd:ns.Nodup) {ρs:List Res} (hρ:ns.map st.rs=ρs.map some) (pk:Value->(Nat->V)->(Nat->Option Res)->Prop) (ds:List Deferred) {a':Act} (ht:a'.tmps=a.tmps) (hd:a'.defers=ds) :
 Inv (nn:=nn) ⟨X.P,X.pas,{ s.hand ns with F:=X.s0.F },X.w0,X.e,X.he,X.hp,pk,ds⟩ ⟨fun i=>renV (φin ns) (st.tm i),rsOf (ρs.map (renR (φin ns)))⟩ (s.hand ns) w a':=by
 have hφ1 : ∀ n m,φin ns n=some m->(s.hand ns).bx m=s.bx n/\(s.hand ns).tk m=s.tk n:=fun n m hm=>by
  obtain ⟨i,hi,rfl⟩:=Option.map_eq_some_iff.1 hm
  exact ⟨(zCj s ns (zB5 hi)).1,(zCj s ns (zB5 hi)).2.2⟩
 have hbs : ∀ (i:Nat) (ρ:Res),(ρs.map (renR (φin ns)))[i]? = some ρ -> ∃ q ρ0,ns[i]? = some q/\st.rs q=some ρ0/\ρ=renR (φin ns) ρ0:=fun i ρ hi=>by
  rw [List.getElem?_map] at hi
  obtain ⟨ρ0,h1,rfl⟩:=Option.map_eq_some_iff.1 hi
  have h3:(ns.map st.rs)[i]? = (ρs.map some)[i]?:=by rw [hρ]
  rw [List.getElem?_map,List.getElem?_map,h1] at h3
  obtain ⟨q,hq,h4⟩:=Option.map_eq_some_iff.1 h3
  exact ⟨q,ρ0,hq,h4,rfl⟩
 refine ⟨by rw [ht];exact hI.sz,fun i hi => ?_,hd,hI.fr,hI.kp,hI.nf,⟨hI.mem.fx,fun n ρ hn => ?_,fun n ρ b hn hbk => ?_,fun n m ρ ρ' b hn hm hnb hmb => ?_⟩,fun i=>⟨rfl,.inl rfl⟩⟩
 . rw [ht]
   exact rel.ren (s:=s) (s2:=s.hand ns) rfl hφ1 _ _ (hI.tm i hi)
 . obtain ⟨i,rfl,hi⟩:=zAA hn
   obtain ⟨q,ρ0,hq,h3,rfl⟩:=hbs i ρ hi
   have hh:=zCj s ns hq
   exact Holds.ren (s:=s) (s2:=s.hand ns) rfl hφ1 hh.1 hh.2.1 hh.2.2 (hI.mem.ho q ρ0 h3)
 . obtain ⟨i,rfl,hi⟩:=zAA hn
   obtain ⟨q,ρ0,hq,h3,rfl⟩:=hbs i ρ hi
   have hh:=zCj s ns hq
   exact hI.mem.bs q ρ0 b h3 ((bk_ren hh.1 hh.2.1).1 hbk)
 . obtain ⟨i,rfl,hi⟩:=zAA hn
   obtain ⟨j,rfl,hj⟩:=zAA hm
   obtain ⟨q,ρ0,hq,h3,rfl⟩:=hbs i ρ hi
   obtain ⟨q',ρ1,hq',h3',rfl⟩:=hbs j ρ' hj
   have hh:=zCj s ns hq
   have hh':=zCj s ns hq'
   have e:=hI.mem.dj q q' _ _ b h3 h3' ((bk_ren hh.1 hh.2.1).1 hnb) ((bk_ren hh'.1 hh'.2.1).1 hmb)
   subst e
   have:=(zFs hnd hq).symm.trans (zFs hnd hq')
   cases this;rfl
theorem Inv.named (hI:Inv X st s w a) (i:Nat):s.bx (pn i)=X.s0.bx (pn i):=(hI.pe i).1
variable {o:Oper} {K:Vst nn->Prop}
theorem opOk_isNil {t yt:TypeId} {x:Operand} (ho:o.op = .binOp .neq t x (.const .nilIface) yt) (hx:ev st x = .c .nilIface) (ht:X.P.underlying t=some (.interface (X.P.methodsAt t))) (hK:K (st.put o.dst (.c (.bool false)))):OpOk X o st K:=by
 intro s w a hI N Q hP hN
 have h1:=hI.ev x
 rw [hx,rel] at h1
 unfold Oper.wp
 have hrun:(execOp a.eval o).run X.P w = .ok (.value (.bool false)) w:=by
  simp only [execOp,ho,h1.1]
  show (do let u <- (do eqGuard .neq t x (.const .nilIface) .nilIface .nilIface;binOp .neq t .nilIface .nilIface:Sem Value);pure (.value u):Sem Next).run X.P w=_
  rw [eqGuard_nil_constR]
  simp only [Sem.run_bind,Sem.run_pure,Result.andThen_ok,run_neq_nil_nil w t ht]
 rw [hrun,Oper.upon_value]
 exact hN _ _ _ _ (hI.put o.dst (by rw [rel];exact ⟨rfl,trivial⟩)) hK
end
section
variable {X:Cx} {nn:Nat} {st:Vst nn} {o:Oper} {ops:Array Oper} {l:List Oper} {KK:Vst nn->Prop} {d:Option Tmp}
theorem s_isNil {t yt:TypeId} {x:Operand} (hg:o.guard=none) (ho:o.op = .binOp .neq t x (.const .nilIface) yt) (hd:o.dst=d) (hx:ev st x = .c .nilIface) (ht:X.P.underlying t=some (.interface (X.P.methodsAt t))) (hK:AWo X ops l (st.put d (.c (.bool false))) KK):AWo X ops (o::l) st KK:=
 zAO hg (opOk_isNil ho hx ht (by rw [hd];exact hK))
end
section
variable {X:Cx} {nn:Nat} {st:Vst nn}
theorem sub_run {st':Vst nn} {s:Sg} {w:World} {a:Act} (h:Sub X st st') (hI:Inv X st s w a) : ∃ s',Inv X st' s' w a:=h s w a hI
theorem aw_run {c:Code} {K:Exit->Vst nn->Prop} {s:Sg} {w:World} {a:Act} (h:AW X c st K) (hI:Inv X st s w a):c.wp X.P (fun e a' w' => ∃ (st':Vst nn) (s':Sg),Inv X st' s' w' a'/\(K e st'\/PX X e st')) a w:=h s w a hI
def AWQ (X:Cx) (c:Code) (st:Vst nn) (Q:Exit->Act->World->Prop):Prop:=∀ s w a,Inv X st s w a->c.wp X.P Q a w
def qK (X:Cx) (y:Code) (Q:Exit->Act->World->Prop):Exit->Vst nn->Prop
 |.normal,st=>AWQ X y st Q
 |e,st => ∀ s w a,Inv X st s w a->Q e a w
theorem k_q {y:Code} {Q:Exit->Act->World->Prop} (h:AWQ X y st Q):qK X y Q .normal st:=h
theorem awq_run {c:Code} {Q:Exit->Act->World->Prop} {s:Sg} {w:World} {a:Act} (h:AWQ X c st Q) (hI:Inv X st s w a):c.wp X.P Q a w:=h s w a hI
theorem awq_by {c:Code} {Q:Exit->Act->World->Prop} (h : ∀ s w a,Inv X st s w a->c.wp X.P Q a w):AWQ X c st Q:=h
theorem zJz {x y:Code} {Q:Exit->Act->World->Prop} (hP:PQ X nn Q) (h:AW X x st (qK X y Q)):AWQ X (.seq x y) st Q:=fun s w a hI =>
 wp_seq (Code.wp_mono (fun e a' w' ⟨st',s',hI',hK⟩=>by
  rcases hK with hK | ⟨pv,rfl,hp⟩
  . cases e
    case normal=>exact hK s' w' a' hI'
    all_goals exact hK s' w' a' hI'
  . exact hP pv st' s' w' a' hI' hp) (h s w a hI))
theorem awq_sub {c:Code} {st':Vst nn} {Q:Exit->Act->World->Prop} (hs:Sub X st st') (h:AWQ X c st' Q):AWQ X c st Q:=fun s w a hI=>by
 obtain ⟨s',hI'⟩:=hs s w a hI
 exact h s' w a hI'
theorem inv_enter {e:Ge} {P:Program} {fn:Func} {args:List V} {s:Sg} {w:World} {us:Array Value} (he:e.E w) (hnn:args.length+(fn.ntmps-args.length)=nn) (hus:relL P s w args us.toList) (hfx : ∀ b o,s.F b o->(w.cell? ⟨b,o,none⟩).isSome) :
 Inv (cx e P s w he) (st0 nn args) s w { tmps:=us++Array.replicate (fn.ntmps-us.size) undef,defers:=[] }:=by
 have hlen:=hus.length
 have hl2:us.toList.length=us.size:=by simp
 refine ⟨by simp;omega,fun i hi => ?_,rfl,Frm.refl _ _,Keeps.refl,fun _ _ _ _ h=>h,⟨hfx,fun n ρ h=>by simp [st0] at h,fun n ρ b h=>by simp [st0] at h,fun n m ρ ρ' b h=>by simp [st0] at h⟩,PE.refl _⟩
 show rel P s w (args.getD i .any) _
 by_cases hi2:i<args.length
 . have h1:args[i]? = some args[i]:=List.getElem?_eq_getElem hi2
   have hi3:i<us.size:=by omega
   have h2:us.toList[i]? = some us[i]:=by rw [Array.getElem?_toList];exact Array.getElem?_eq_getElem hi3
   rw [List.getD_eq_getElem?_getD,h1]
   have:(us++Array.replicate (fn.ntmps-us.size) undef).getD i undef=us[i]:=by
    rw [Array.getD_eq_getD_getElem?,Array.getElem?_append_left hi3,Array.getElem?_eq_getElem hi3];rfl
   rw [this]
   exact hus.get i _ _ h1 h2
 . rw [List.getD_eq_getElem?_getD,List.getElem?_eq_none (by omega)]
   simp [rel]
def acR (P:Program) (s:Sg) (w:World) (r:V):Ending->World->Prop:=fun en w' => ∃ v F',en = .returned v/\Frm (fun _=>False) w w'/\Keeps s.F F' w w'/\(∀ b o,F' b o->(w'.cell? ⟨b,o,none⟩).isSome)/\(∀ b o,b<w.heap.size->F' b o->s.F b o)/\rel P { s with F:=F' } w' r v
theorem ac_by {e:Ge} {P:Program} {f:FuncId} {args:List V} {r:V} (h : ∀ (s:Sg) (w:World) (us:Array Value),relL P s w args us.toList->(∀ b o,s.F b o->(w.cell? ⟨b,o,none⟩).isSome)->e.E w->Calls P f us w (acR P s w r)):AC e P f args r:=h
theorem ac_fin {P:Program} {s:Sg} {w:World} {fn:Func} {s':Sg} {w':World} {a':Act} {r:V} (hI:Inv X st s' w' a') (hP:X.P=P) (hpas:X.pas=fun _=>False) (hF:X.s0.F=s.F) (hw:X.w0=w) (hv:retV P st fn.results.toList r) (hr:r.pure=true) :
 ∃ v,(results fn a'.tmps).run P w' = .ok v w'/\acR P s w r (.returned v) w':=by
 subst hP
 subst hw
 obtain ⟨u,h1,h2⟩:=zFm hv hI
 have hfr:=hI.fr
 rw [hpas] at hfr
 refine ⟨u,h1,u,s'.F,rfl,hfr,by rw [<- hF];exact hI.kp,hI.mem.fx,fun b o hb => ?_,rel.only (s:=s') (s':={ s with F:=s'.F }) (P:=X.P) rfl r u hr h2⟩
 rw [<- hF]
 exact hI.nf b o hb (by rw [hpas];exact fun h=>h)
end
end
section
open Go.RowKit
attribute [local irreducible] wpList Calls Code.wp AW AWo OpOk seqK zAG zAP loopK endK AC zt Yld Sub
attribute [local irreducible] ACB ACX ACE absLexG YldG AWQ qK
def zQ:List V:=[.c (.slice none 0 0),.c (.slice none 0 0)]
def resP (q:List V) (i e:Int):List (Nat × Res):=[(pn 0,.box 41 q),(pn 1,.box 3 [.c (.int .i64 i)]),(pn 2,.box 49 [.c (.int .i64 e)])]
noncomputable def HR (nn:Nat) (cs:List (Nat × V)) (q:List V) (i e:Int):Vst nn:=stS nn cs (resP q i e)
noncomputable def HC0 (v:Value) (q:List V) (i e:Int):Vst 15:=HR 15 [(0,.bx (pn 0) 0),(1,.bx (pn 1) 0),(2,.bx (pn 2) 0),(3,.c v)] q i e
def doneC {nn:Nat} (q:List V) (i e:Int):Exit->Vst nn->Prop
 |.normal,st=>rsOk st (resP q i e)
 |.ret,st=>rsOk st (resP q i e)
 |_,_=>False
theorem ifT:Tryz.prog.underlying 20=some (.interface (Tryz.prog.methodsAt 20)):=by kernel_rfl
noncomputable def codeC:Code:=match Tryz.f52.body with
 |some (.seq _ y)=>y
 |_ => .skip
section
variable {pas:Nat->Prop} {s0:Sg} {w0:World} {he:EN5.E w0} {hp : ∀ k,k<EN5.G -> ¬ pas k}
theorem close_nil (q:List V) (i e:Int):AW ⟨Tryz.prog,pas,s0,w0,EN5,he,hp,fun _ _ _=>False,[]⟩ codeC (HC0 .nilIface q i e) (doneC q i e):=by
 unfold codeC
 simp only [Tryz.f52]
 refine zA0 ?_
 refine zB ?_
 apply zCf rfl
 . rfl
 . conv=>lhs;whnf;arg 2;whnf
 rotate_left 1
 . trivial
 apply s_isNil rfl rfl rfl
 . conv=>lhs;whnf
 . exact ifT
 refine zC ?_
 refine zI ?_
 repeat' (first
|apply aw_1
 conv=>whnf
 refine ⟨?_,trivial⟩)
 all_goals exact ⟨rfl,rfl,rfl,trivial⟩
end
section
variable {pas:Nat->Prop} {s0:Sg} {w0:World} {he:EN5.E w0} {hp : ∀ k,k<EN5.G -> ¬ pas k} {pk:Value->(Nat->V)->(Nat->Option Res)->Prop} {dfs:List Deferred} {st:Vst 24} {s:Sg} {w:World} {a:Act}
def slotsP:List (Nat × V):=[(2,.bx (pn 0) 0),(3,.bx (pn 1) 0),(4,.bx (pn 2) 0)]
theorem zJw {P:Program} {s s':Sg} {w w':World} {k:Nat} {u:Value} (h:rel P s w (.bx k 0) u) (hs:s'.bx k=s.bx k):rel P s' w' (.bx k 0) u:=by
 rw [rel] at h |-;rw [hs];exact h
theorem rs_HR {nn:Nat} {st:Vst nn} {nn2:Nat} {cs:List (Nat × V)} {q:List V} {i e:Int} (h:rsOk st (resP q i e)) : ∀ n ρ,(HR nn2 cs q i e).rs n=some ρ->st.rs n=some ρ:=fun n ρ hn=>by
 simp only [HR,stS] at hn
 split at hn
 . rename_i p hp
   have hm:=List.mem_of_find?_eq_some hp
   have he:=List.find?_some hp
   simp at he
   cases hn
   subst he
   exact zHF h p hm
 . cases hn
theorem back_in {pk':Value->(Nat->V)->(Nat->Option Res)->Prop} {dfs':List Deferred} {n2:Nat} {st':Vst n2} {s':Sg} {w':World} {a':Act} {q q':List V} {i e i' e':Int}
 (hI:Inv ⟨Tryz.prog,pas,s0,w0,EN5,he,hp,pk,dfs⟩ (HR 24 slotsP q i e) s w a) (hI':Inv ⟨Tryz.prog,pas,s0,w0,EN5,he,hp,pk',dfs'⟩ st' s' w' a') (hr:rsOk st' (resP q' i' e')) :
 Inv ⟨Tryz.prog,pas,s0,w0,EN5,he,hp,pk,dfs⟩ (HR 24 slotsP q' i' e') s' w' a:=by
 have hk : ∀ k,s'.bx (pn k)=s.bx (pn k):=fun k=>(hI'.named k).trans (hI.named k).symm
 refine ⟨hI.sz,fun j hj => ?_,hI.df,hI'.fr,hI'.kp,hI'.nf,hI'.mem.sub (rs_HR hr),hI'.pe⟩
 have ht:=hI.tm j hj
 by_cases h2:j=2
 . subst h2;exact zJw (k:=pn 0) ht (hk 0)
 by_cases h3:j=3
 . subst h3;exact zJw (k:=pn 1) ht (hk 1)
 by_cases h4:j=4
 . subst h4;exact zJw (k:=pn 2) ht (hk 2)
 have e:(HR 24 slotsP q' i' e').tm j = .any:=by
  simp [HR,stS,slotsP,List.find?,beq_eq_false_iff_ne.2 (Ne.symm h2),beq_eq_false_iff_ne.2 (Ne.symm h3),beq_eq_false_iff_ne.2 (Ne.symm h4)]
 rw [e];simp [rel]
theorem into_c {q:List V} {i e:Int} (hI:Inv ⟨Tryz.prog,pas,s0,w0,EN5,he,hp,pk,dfs⟩ (HR 24 slotsP q i e) s w a) (v:Value) (hv:okV v) {a1:Act} (hz:a1.tmps.size=15) (hd:a1.defers=[]) (h0:a1.tmps.getD 0 undef=a.tmps.getD 2 undef) (h1:a1.tmps.getD 1 undef=a.tmps.getD 3 undef) (h2:a1.tmps.getD 2 undef=a.tmps.getD 4 undef) (h3:a1.tmps.getD 3 undef=v) :
 Inv ⟨Tryz.prog,pas,s0,w0,EN5,he,hp,fun _ _ _=>False,[]⟩ (HC0 v q i e) s w a1:=by
 refine ⟨hz,fun j hj => ?_,hd,hI.fr,hI.kp,hI.nf,hI.mem.sub fun n ρ hn=>hn,hI.pe⟩
 by_cases j0:j=0
 . subst j0;rw [h0];exact hI.tm 2 (by omega)
 by_cases j1:j=1
 . subst j1;rw [h1];exact hI.tm 3 (by omega)
 by_cases j2:j=2
 . subst j2;rw [h2];exact hI.tm 4 (by omega)
 by_cases j3:j=3
 . subst j3;rw [h3];show rel _ _ _ (.c v) v;rw [rel];exact ⟨rfl,hv⟩
 have e:(HC0 v q i e).tm j = .any:=by
  simp [HC0,HR,stS,List.find?,beq_eq_false_iff_ne.2 (Ne.symm j0),beq_eq_false_iff_ne.2 (Ne.symm j1),beq_eq_false_iff_ne.2 (Ne.symm j2),beq_eq_false_iff_ne.2 (Ne.symm j3)]
 rw [e];simp [rel]
theorem call_ret (q:List V) (i e:Int) (hI:Inv ⟨Tryz.prog,pas,s0,w0,EN5,he,hp,pk,dfs⟩ (HR 24 slotsP q i e) s w a) :
 CallsD Tryz.prog 52 #[a.tmps.getD 2 undef,a.tmps.getD 3 undef,a.tmps.getD 4 undef] .returning w fun en u' w'=>en = .returned (.tuple #[])/\u' = .returning /\ ∃ s',Inv ⟨Tryz.prog,pas,s0,w0,EN5,he,hp,pk,dfs⟩ (HR 24 slotsP q i e) s' w' a:=by
 refine callsD_of_wpS Tryz.func52 rfl fun c₀ cs hu => ?_
 apply wpS_seq
 apply wpS_region
 simp [wpOpsS,go_sem,recoverD,hu,Exit.thenS]
 refine wpS_of_wp (Code.wp_mono (fun en a' w' ⟨st',s',hI',hK⟩ => ?_) (aw_run (close_nil (pas:=pas) (s0:=s0) (w0:=w0) (he:=he) (hp:=hp) q i e) (into_c hI .nilIface trivial (by simp) rfl (by simp) (by simp) (by simp) (by simp))))
 have fin:rsOk st' (resP q i e)->a'.defers=[] /\ ∃ u',c₀::cs = { c₀ with mode:=u' }::cs /\ ∃ v,(results Tryz.f52 a'.tmps).run Tryz.prog w' = .ok v w'/\(Ending.returned v = .returned (.tuple #[])/\u' = .returning /\ ∃ s',Inv ⟨Tryz.prog,pas,s0,w0,EN5,he,hp,pk,dfs⟩ (HR 24 slotsP q i e) s' w' a):=fun hr =>
  ⟨hI'.df,.returning,by cases c₀;simp_all,.tuple #[],by simp [results,Tryz.f52],rfl,rfl,s',back_in hI hI' hr⟩
 rcases hK with hK | ⟨_,_,hK⟩
 . cases en
   case normal=>exact fin hK
   case ret=>exact fin hK
   all_goals exact hK.elim
 . exact hK.elim
end
theorem bx_ren {P:Program} {s s':Sg} {w:World} {k k':Nat} {u:Value} (h:rel P s w (.bx k 0) u) (hs:s'.bx k'=s.bx k):rel P s' w (.bx k' 0) u:=by
 rw [rel] at h |-;rw [hs];exact h
theorem zJv {P:Program} {s s':Sg} {w w':World} {k:Nat} {u u':Value} (h:rel P s w (.bx k 0) u) (h':rel P s' w' (.bx k 0) u') (hs:s'.bx k=s.bx k):u=u':=by
 rw [rel] at h h'
 obtain ⟨b,h1,rfl⟩:=h
 obtain ⟨b',h2,rfl⟩:=h'
 rw [hs,h1] at h2
 cases h2;rfl
def defP (p q r:Value):Deferred:={ target:=.fn (.func 52) #[p,q,r],args:=#[] }
section
variable {σ:Sg} {w0:World} {he:EN5.E w0} {s0:Sg} {hp : ∀ k,k<EN5.G -> ¬ False} {pk:Value->(Nat->V)->(Nat->Option Res)->Prop} {s:Sg} {w:World} {a:Act}
structure Ptrs (P:Program) (s0:Sg) (w:World) (p2 p3 p4:Value):Prop where
 p2:rel P s0 w (.bx (pn 0) 0) p2
 p3:rel P s0 w (.bx (pn 1) 0) p3
 p4:rel P s0 w (.bx (pn 2) 0) p4
theorem leave_ret {p2 p3 p4:Value} {w1:World} {r:V} (l1 l2:List D) (i e:Int) (hF:s0.F=σ.F) (hps:Ptrs Tryz.prog s0 w1 p2 p3 p4) (hI:Inv ⟨Tryz.prog,fun _=>False,s0,w0,EN5,he,hp,pk,[defP p2 p3 p4]⟩ (HR 24 slotsP [.sl 57 l1,.sl 116 l2] i e) s w a)
 (hr:r = .tup [.agg [.sl 57 l1,.sl 116 l2],.c (.int .i64 i),.c (.int .i64 e)]):Leaves Tryz.prog Tryz.f23 a.tmps (acR Tryz.prog σ w0 r) [defP p2 p3 p4] .returning w:=by
 have e2:p2=a.tmps.getD 2 undef:=zJv hps.p2 (hI.tm 2 (by omega)) (hI.named 0)
 have e3:p3=a.tmps.getD 3 undef:=zJv hps.p3 (hI.tm 3 (by omega)) (hI.named 1)
 have e4:p4=a.tmps.getD 4 undef:=zJv hps.p4 (hI.tm 4 (by omega)) (hI.named 2)
 have hc:=call_ret _ i e hI
 rw [<- e2,<- e3,<- e4] at hc
 refine leaves_cons (f:=52) (args:=#[p2,p3,p4]) (by simp) (by simp [go_sem]) (hc.mono ?_)
 rintro en u' w' ⟨rfl,rfl,s',hI'⟩
 exact ac_fin hI' rfl rfl hF rfl ⟨_,_,_,rfl,rfl,rfl,hr⟩ (by rw [hr];rfl)
end
noncomputable abbrev VP (p:List D × List D):V:=.agg (cellsV Tryz.prog 12 41 (queD p.1 p.2))
noncomputable abbrev toksV (ts:List Tok):V:=.sl 143 (ts.map tokD)
theorem etaPz (ts:List Tok):[V.sl 143 (ts.map tokD),.c (.bool true),.c (.int .i64 0)]=zq ⟨ts,true,0⟩:=rfl
noncomputable def HP2 (ts:List Tok):Vst 24:=stS 24 [(2,.bx 2 0),(3,.bx 3 0),(4,.bx 4 0),(5,toksV ts)] [(2,.box 41 zQ),(3,.box 3 [.c (.int .i64 0)]),(4,.box 49 [.c (.int .i64 0)])]
noncomputable def HP3 (ts:List Tok):Vst 24:=HR 24 [(2,.bx (pn 0) 0),(3,.bx (pn 1) 0),(4,.bx (pn 2) 0),(5,toksV ts)] zQ 0 0
section
variable {σ:Sg} {w0:World} {he:EN5.E w0}
noncomputable def restP:Code:=match Tryz.f23.body with
 |some (.seq _ (.seq _ (.seq _ (.seq _ y))))=>y
 |_ => .skip
def endP (d:List D) (d2:List D):Exit->Vst 24->Prop
 |.ret,st=>tmOk st slotsP/\rsOk st (resP [.sl 57 d,.sl 116 d2] 0 0)
 |_,_=>False
theorem rest_ok {pas:Nat->Prop} {s0:Sg} {hp : ∀ k,k<EN5.G -> ¬ pas k} {dfs:List Deferred} (ts:List Tok) (ops frs:List D) (x':PS)
 (hdoc:ACE EN5 Tryz.prog 53 [.bx (pn 0) 0] [boxP ⟨ts,true,0⟩] (outQ (fun p=>VP p) (.ok ((ops,frs),x')))) :
 AW ⟨Tryz.prog,pas,s0,w0,EN5,he,hp,fun _ _ _=>False,dfs⟩ restP (HP3 ts) (endP ops frs):=by
 unfold restP
 simp only [Tryz.f23]
 repeat' (first
|refine zB ?_
|refine zC ?_
|refine zI ?_
|apply aw_1
 conv=>whnf
 refine ⟨?_,trivial⟩
|apply s_1
 conv=>whnf;arg 1;arg 4;arg 3;whnf
 refine ⟨?_,?_⟩
|apply zAE rfl rfl rfl rfl
 . conv=>lhs;whnf;arg 1;whnf
 . rfl
|exact trivial)
 apply s_pr zq zR rfl
 . rfl
 . conv=>lhs;whnf
 . rfl
 . conv=>lhs;whnf;arg 1;whnf
 . exact etaPz _
 . exact hdoc
 . exact fun _=>rfl
 . intro _ _;simp only [renL,renV,ren_cells]
 . intro ee hq;cases hq
 intro aa xx hq
 cases hq
 repeat' (first
|refine zC ?_
|refine zI ?_
|apply aw_1
 conv=>whnf
 refine ⟨?_,trivial⟩
|apply zX rfl rfl rfl
 . conv=>lhs;whnf
 . conv=>lhs;whnf;arg 1;whnf
 . conv=>lhs;whnf;arg 1;whnf
 . exact ⟨by kernel_rfl,by kernel_rfl⟩
 . rfl)
 exact ⟨⟨rfl,rfl,rfl,trivial⟩,rfl,rfl,rfl,trivial⟩
noncomputable def code4:Code:=match Tryz.f23.body with
 |some (.seq _ (.seq _ (.seq _ y)))=>y
 |_ => .skip
theorem defer_step {ts:List Tok} {Q:Exit->Act->World->Prop} {s:Sg} {w:World} {a:Act} (hI:Inv (cx EN5 Tryz.prog σ w0 he) (HP2 ts) s w a)
 (h : ∀ (s0:Sg) (p2 p3 p4:Value) (a':Act),s0.F=σ.F->Ptrs Tryz.prog s0 w p2 p3 p4->(∀ pk,∃ s',Inv ⟨Tryz.prog,fun _=>False,s0,w0,EN5,he,fun _ _ h=>h,pk,[defP p2 p3 p4]⟩ (HP3 ts) s' w a')->restP.wp Tryz.prog Q a' w):code4.wp Tryz.prog Q a w:=by
 unfold code4
 simp only [Tryz.f23]
 unfold restP at h
 simp only [Tryz.f23] at h
 refine wp_seq (wp_region_lit ?_)
 refine wpList_plain rfl fun K' hK' => ?_
 unfold Oper.wp
 have hrun : ∀ (ty:TypeId) (po:String),(execOp a.eval { dst:=some 18,op:=Op.makeFunc (Fn.func 52) #[] #[Operand.tmp 2,Operand.tmp 3,Operand.tmp 4],type:=ty,pos:=po,after:=#[],guard:=none }).run Tryz.prog w = .ok (.value (.func (.func 52) #[] #[a.tmps.getD 2 undef,a.tmps.getD 3 undef,a.tmps.getD 4 undef])) w:=fun ty po=>by simp [execOp,Instr.makeFunc,Act.eval]
 rw [hrun]
 rw [Oper.upon_value]
 refine hK' _ _ ?_
 refine wpList_plain rfl fun K2 hK2 => ?_
 unfold Oper.wp
 have hz:18<a.tmps.size:=by rw [hI.sz];omega
 have hev:(a.put (some 18) (.func (.func 52) #[] #[a.tmps.getD 2 undef,a.tmps.getD 3 undef,a.tmps.getD 4 undef])).eval (.tmp 18) = .func (.func 52) #[] #[a.tmps.getD 2 undef,a.tmps.getD 3 undef,a.tmps.getD 4 undef]:=by
  simp [Act.put,Act.eval,hz]
 simp only [execOp,resolve,hev,Deferred.ofValue,List.map_toArray,List.map_nil,Sem.run_bind,Sem.run_pure,Result.andThen_ok]
 rw [Oper.upon_defer]
 refine hK2 _ _ (wpList_nil ?_)
 have h18:=hI.put (some 18) (v:=.any) (u:=.func (.func 52) #[] #[a.tmps.getD 2 undef,a.tmps.getD 3 undef,a.tmps.getD 4 undef]) (by simp [rel])
 have hd:a.defers=[]:=hI.df
 refine h { s.hand [2,3,4] with F:=σ.F } (a.tmps.getD 2 undef) (a.tmps.getD 3 undef) (a.tmps.getD 4 undef) _ rfl ⟨?_,?_,?_⟩ (fun pk => ?_)
 . exact bx_ren (k:=2) (hI.tm 2 (by omega)) (zCj s [2,3,4] (i:=0) rfl).1
 . exact bx_ren (k:=3) (hI.tm 3 (by omega)) (zCj s [2,3,4] (i:=1) rfl).1
 . exact bx_ren (k:=4) (hI.tm 4 (by omega)) (zCj s [2,3,4] (i:=2) rfl).1
 . refine sub_run (Sub.live (cs:=[(2,.bx (pn 0) 0),(3,.bx (pn 1) 0),(4,.bx (pn 2) 0),(5,toksV ts)]) (R:=resP zQ 0 0) ?_ ?_) (Inv.handed h18 [2,3,4] (by decide) (ρs:=[.box 41 zQ,.box 3 [.c (.int .i64 0)],.box 49 [.c (.int .i64 0)]]) rfl pk [defP (a.tmps.getD 2 undef) (a.tmps.getD 3 undef) (a.tmps.getD 4 undef)] rfl ?_)
   . exact ⟨rfl,rfl,rfl,rfl,trivial⟩
   . exact ⟨rfl,rfl,rfl,trivial⟩
   . show defP _ _ _::a.defers=_
     rw [hd]
theorem parse_good (s:List UInt8) (ts:List Tok) (hsc:AC EN5 Tryz.prog 37 [.c (.string (bs s))] (.tup [toksV ts,.c (.int .i64 0),.c (.int .i64 0)])) (ops frs:List D) (x':PS)
 (hdoc:ACE EN5 Tryz.prog 53 [.bx (pn 0) 0] [boxP ⟨ts,true,0⟩] (outQ (fun p=>VP p) (.ok ((ops,frs),x')))) :
 AC EN5 Tryz.prog 23 [.c (.string (bs s))] (.tup [.agg [.sl 57 ops,.sl 116 frs],.c (.int .i64 0),.c (.int .i64 0)]):=by
 refine ac_by fun σ w us hus hfx he => ?_
 refine calls_of_wp_defers Tryz.func23 rfl ?_
 have hI:=inv_enter (nn:=24) (fn:=Tryz.f23) he rfl hus hfx
 have hP : ∀ Q,PQ (cx EN5 Tryz.prog σ w he) 24 Q:=fun Q _ _ _ _ _ _ h=>h.elim
 refine awq_run ?_ hI
 clear hI
 refine zJz (hP _) ?_
 repeat' (first
|refine zB ?_
|refine zC ?_
|apply s_1
 conv=>whnf;arg 1;arg 4;arg 3;whnf
 refine ⟨?_,?_⟩
|exact trivial)
 refine k_q ?_
 refine zJz (hP _) ?_
 repeat' (first
|refine zB ?_
|refine zC ?_
|apply s_1
 conv=>whnf;arg 1;arg 4;arg 3;whnf
 refine ⟨?_,?_⟩
|apply zd rfl
 . conv=>lhs;whnf
 . conv=>lhs;whnf
 . first | exact hsc
|apply zX rfl rfl rfl
 . conv=>lhs;whnf
 . conv=>lhs;whnf;arg 1;whnf
 . conv=>lhs;whnf;arg 1;whnf
 . exact ⟨by kernel_rfl,by kernel_rfl⟩
 . rfl
|exact trivial)
 refine k_q ?_
 refine zJz (hP _) ?_
 repeat' (first
|refine zB ?_
|refine zC ?_
|refine zI ?_
|apply aw_1
 conv=>whnf
 refine ⟨?_,trivial⟩
|apply s_1
 conv=>whnf;arg 1;arg 4;arg 3;whnf
 refine ⟨?_,?_⟩
|exact trivial)
 refine k_q (awq_sub (st':=HP2 ts) (Sub.live ⟨rfl,rfl,rfl,rfl,trivial⟩ ⟨rfl,rfl,rfl,trivial⟩) (awq_by fun s1 w1 a1 hI1 => ?_))
 refine defer_step hI1 fun s0 p2 p3 p4 a' hF hps hpk => ?_
 obtain ⟨s2,hI2⟩:=hpk fun _ _ _=>False
 refine Code.wp_mono (fun en a3 w3 ⟨st3,s3,hI3,hK⟩ => ?_) (aw_run (rest_ok ts ops frs x' hdoc) hI2)
 rcases hK with hK | ⟨_,_,hK⟩
 . cases en
   case ret =>
    obtain ⟨s4,hI4⟩:=sub_run (Sub.live (cs:=slotsP) (R:=resP [.sl 57 ops,.sl 116 frs] 0 0) hK.1 hK.2) hI3
    show Leaves _ _ _ _ a3.defers .returning w3
    rw [hI3.df]
    exact leave_ret ops frs 0 0 hF hps hI4 rfl
   all_goals exact hK.elim
 . exact hK.elim
end
end
section
open Go.RowKit
set_option linter.unusedSectionVars false
attribute [local irreducible] wpList Calls Code.wp AW AWo OpOk seqK zAG zAP loopK endK AC zt Yld Sub
attribute [local irreducible] ACB ACX ACE absLexG YldG
theorem zH7 : ∀ (f:Nat) (l:List UInt8) (i:Nat) (ts:List Tok),scanF f l i = .ok ts->ts.length<=l.length+1
 |0,_,_,_,h=>by cases h
 |f+1,l,i,ts,h=>by
  unfold scanF at h
  split at h
  . cases h
    simp
  . rename_i c r hl
    have hlen:(c::r).length=l.length-skipM false l:=by rw [<- hl,List.length_drop]
    have hsk:=zBu false l
    split at h
    . cases h
    . rename_i t n ht
      have hn:=zKX ht
      split at h
      . cases h
      . rename_i ts' hts
        cases h
        have:=zH7 f _ _ _ hts
        rw [List.length_drop] at this
        simp only [List.length_cons] at *
        omega
theorem scan_cnt {l:List UInt8} {ts:List Tok} (h:zEA l = .ok ts):ts.length<=65537:=by
 unfold zEA at h
 split at h
 . cases h
 . have:=zH7 _ _ _ _ h
   omega
end
section
open Go.RowKit
set_option linter.unusedSectionVars false
attribute [local irreducible] wpList Calls Code.wp AW AWo OpOk seqK zAG zAP loopK endK AC zt Yld Sub
attribute [local irreducible] ACB ACX ACE absLexG YldG absLexH
noncomputable def HVs (l:List D) (i:Nat):Vst 69:=stS 69 [(0,.sl 88 l),(1,.sl 88 l),(5,.c (.int .i64 (i:Int)))] []
theorem zJI (l:List D) (hw:bulkL l<=1000000000):AC EN5 Tryz.prog 70 [.sl 88 l,.sl 88 l] (.c (.bool true)):=by
 have hl:=zAM l
 have f0:((l.length:Int) != (l.length:Int))=false:=by simp
 refine zG 69 Tryz.func70 rfl rfl rfl rfl ?_
 intro s w he
 repeat' (first
|apply zH
 . conv=>lhs;whnf
 . assumption
|refine zB ?_
|refine zC ?_
|refine zI ?_
|apply aw_1
 conv=>whnf
 refine ⟨?_,trivial⟩
|apply s_1
 conv=>whnf;arg 1;arg 4;arg 3;whnf
 refine ⟨?_,?_⟩
|exact trivial)
 refine zi (fun j st => ∃ i,i+j=l.length/\Sub (cx EN5 Tryz.prog s w he) st (HVs l i)) l.length ⟨0,by omega,Sub.live ⟨rfl,rfl,rfl,trivial⟩ trivial⟩ ?_
 rintro j st ⟨i,hij,hs2⟩
 refine zf hs2 ?_
 clear hs2
 by_cases hi:i<l.length
 . have f1:decide ((i:Int)<(l.length:Nat))=true:=decide_eq_true (by omega)
   have b0:=zu hi
   have b1:=zW (gD l i)
   have b4:=wD_f (gD l i) 1;have b4':=wD_f ((gD l i).f 1) 1;have b4'':=zr (((gD l i).f 1).f 1);have b44:=zAM (((gD l i).f 1).f 1).l
   have b5:=wD_f (gD l i) 3;have b5':=zW ((gD l i).f 3)
   have h1:=sameRef_ac ((gD l i).f 1) (by omega)
   have h2:=same_ac ((gD l i).f 3) (by omega)
   have f2:(!(((gD l i).f 0).s.toList==((gD l i).f 0).s.toList))=false:=by simp
   have f3:(!(((gD l i).f 2).b==((gD l i).f 2).b))=false:=by simp
   have g2:((!(((gD l i).f 0).s.toList==((gD l i).f 0).s.toList))==false)=true:=by simp
   have g3:((!(((gD l i).f 2).b==((gD l i).f 2).b))==false)=true:=by simp
   repeat' (first
|apply zM
 . conv=>lhs;whnf
 . assumption
|refine zB ?_
|refine zC ?_
|refine zI ?_
|refine zY ?_
|apply aw_1
 conv=>whnf
 refine ⟨?_,trivial⟩
|apply s_1
 conv=>whnf;arg 1;arg 4;arg 3;whnf
 refine ⟨?_,?_⟩
|apply zAD (by kernel_rfl) (by kernel_rfl)
|apply zAq
|apply zDy rfl rfl
 . conv=>lhs;whnf
 . conv=>lhs;whnf
 . first | exact bF1 ‹_› | exact bF2 ‹_›
|apply zAp rfl
 . conv=>lhs;whnf
 . conv=>lhs;whnf;arg 2;whnf
|apply zAe rfl
 . conv=>lhs;whnf
 . conv=>lhs;whnf
 . first | rfl | assumption
 . conv=>lhs;whnf;arg 2;whnf
|apply zBs rfl
 . conv=>lhs;whnf
 . conv=>lhs;whnf
 . first | rfl | assumption
 . conv=>lhs;whnf
 . first | exact h1 | exact h2
|exact zj
|exact zx
|exact (1000000:Nat)
|exact trivial)
   all_goals first
    |exact za (by omega)
    |exact zBL hi
    |exact (show Tryz.prog.underlying _=some .bool by kernel_rfl)
    |exact zE (j':=j-1) (by omega) ⟨i+1,by omega,Sub.live ⟨rfl,rfl,rfl,trivial⟩ trivial⟩
 . have f1:decide ((i:Int)<(l.length:Nat))=false:=decide_eq_false (by omega)
   repeat' (first
|apply zH
 . conv=>lhs;whnf
 . assumption
|refine zB ?_
|refine zC ?_
|refine zI ?_
|apply aw_1
 conv=>whnf
 refine ⟨?_,trivial⟩
|apply s_1
 conv=>whnf;arg 1;arg 4;arg 3;whnf
 refine ⟨?_,?_⟩
|refine zN ?_
|refine zJ rfl ?_
|refine zK ?_
|refine zD ?_
|refine ⟨_,by conv=>lhs;whnf;arg 2;whnf,?_⟩;conv=>rhs;whnf
|exact trivial)
noncomputable def HAk (a b:List D) (i:Nat):Vst 109:=stS 109 [(2,.bx 2 0),(3,.bx 3 0),(5,.c (.int .i64 (i:Int)))] [(2,.box 41 [.sl 57 a,.sl 116 b]),(3,.box 41 [.sl 57 a,.sl 116 b])]
noncomputable def HAf (a b:List D) (i:Nat):Vst 109:=stS 109 [(2,.bx 2 0),(3,.bx 3 0),(8,.c (.int .i64 (i:Int)))] [(2,.box 41 [.sl 57 a,.sl 116 b]),(3,.box 41 [.sl 57 a,.sl 116 b])]
theorem alike_ac (a b:List D) (hwa:bulkL a<=1000000000) (hwb:bulkL b<=1000000000):AC EN5 Tryz.prog 33 [.agg [.sl 57 a,.sl 116 b],.agg [.sl 57 a,.sl 116 b]] (.c (.bool true)):=by
 have hla:=zAM a
 have hlb:=zAM b
 have f0:((a.length:Int) != (a.length:Int))=false:=by simp
 have f01:((b.length:Int) != (b.length:Int))=false:=by simp
 have k0:(((a.length:Int) != (a.length:Int))==false)=false->False:=fun h=>by rw [f0] at h;cases h
 refine zG 109 Tryz.func33 rfl rfl rfl rfl ?_
 intro s w he
 repeat' (first
|apply zH
 . conv=>lhs;whnf
 . assumption
|exact (k0 ‹_›).elim
|refine zB ?_
|refine zC ?_
|refine zI ?_
|apply aw_1
 conv=>whnf
 refine ⟨?_,trivial⟩
|apply zZ rfl rfl
 . conv=>lhs;whnf
 . conv=>lhs;whnf
 . first | exact bF1 ‹_› | exact bF2 ‹_›
|apply s_1
 conv=>whnf;arg 1;arg 4;arg 3;whnf
 refine ⟨?_,?_⟩
|apply zAE rfl rfl rfl rfl
 . conv=>lhs;whnf;arg 1;whnf
 . rfl
|apply zF rfl
 . conv=>lhs;whnf
 . conv=>lhs;whnf
 . first | rfl | assumption
 . conv=>lhs;whnf;arg 2;whnf
|apply zL rfl
 . conv=>lhs;whnf
 . conv=>lhs;whnf
 . conv=>lhs;whnf;arg 2;whnf
|exact trivial
|intro hg)
 refine zi (fun j st => ∃ i,i+j=a.length/\Sub (cx EN5 Tryz.prog s w he) st (HAk a b i)) a.length ⟨0,by omega,Sub.live ⟨rfl,rfl,rfl,trivial⟩ ⟨rfl,rfl,trivial⟩⟩ ?_
 rintro j st ⟨i,hij,hs2⟩
 refine zf hs2 ?_
 clear hs2
 by_cases hi:i<a.length
 . have f1:decide ((i:Int)<(a.length:Nat))=true:=decide_eq_true (by omega)
   have b0:=zu hi
   have b1:=zW (gD a i)
   have b2:=wD_f (gD a i) 2;have b2':=zr ((gD a i).f 2)
   have b3:=wD_f (gD a i) 3;have b3':=zr ((gD a i).f 3)
   have h1:=zJI ((gD a i).f 2).l (by omega)
   have h2:=zFf _ ((gD a i).f 3).l (Nat.le_refl _) (by omega)
   have q0:(((gD a i).f 0).n != ((gD a i).f 0).n)=false:=by simp
   have q1:(!(((gD a i).f 1).s.toList==((gD a i).f 1).s.toList))=false:=by simp
   have k1:((((gD a i).f 0).n != ((gD a i).f 0).n)==false)=false->False:=fun h=>by rw [q0] at h;cases h
   have k2:((!(((gD a i).f 1).s.toList==((gD a i).f 1).s.toList))==false)=false->False:=fun h=>by rw [q1] at h;cases h
   repeat' (first
|apply zDT ([(1,[2]),(6,[3])]) ([(10,[6]),(11,[7]),(12,[6]),(13,[7])]) ([(10,6),(11,7)]) rfl (by kernel_rfl) (by kernel_rfl) (by kernel_rfl) (by intro p hp;simp only [List.mem_cons,List.not_mem_nil,or_false] at hp;rcases hp with rfl | rfl<;>(repeat' (first | exact fresh_S rfl | refine fresh_put ?_ rfl | refine fresh_res ?_ rfl rfl)))
|apply h_nil
|apply zEn rfl rfl rfl rfl
 . conv=>lhs;whnf;arg 1;whnf
 . rfl
 . rfl
 . kernel_rfl
|apply h_val rfl
 . conv=>lhs;whnf
 . conv=>lhs;whnf;arg 2;whnf
 . kernel_rfl
|apply zEm rfl rfl rfl
 . conv=>lhs;whnf
 . rfl
 . conv=>lhs;whnf;arg 1;whnf
 . conv=>lhs;whnf;arg 1;whnf
 . exact ⟨by kernel_rfl,by kernel_rfl⟩
 . rfl
 . kernel_rfl
|show inO _ _=true;rfl
|apply zM
 . conv=>lhs;whnf
 . assumption
|exact (k1 ‹_›).elim
|exact (k2 ‹_›).elim
|refine zB ?_
|refine zC ?_
|refine zI ?_
|refine zY ?_
|apply aw_1
 conv=>whnf
 refine ⟨?_,trivial⟩
|apply zZ rfl rfl
 . conv=>lhs;whnf
 . conv=>lhs;whnf
 . first | exact bF1 ‹_› | exact bF2 ‹_›
|apply s_1
 conv=>whnf;arg 1;arg 4;arg 3;whnf
 refine ⟨?_,?_⟩
|apply zF rfl
 . conv=>lhs;whnf
 . conv=>lhs;whnf
 . first | rfl | assumption
 . conv=>lhs;whnf;arg 2;whnf
|apply zm rfl
 . conv=>lhs;whnf
 . conv=>lhs;whnf
 . first | rfl | assumption
 . conv=>lhs;whnf
 . first | exact h1 | exact h2
|apply zL rfl
 . conv=>lhs;whnf
 . conv=>lhs;whnf
 . conv=>lhs;whnf;arg 2;whnf
|exact trivial
|intro hg)
   all_goals first
    |exact za (by omega)
    |exact zBL hi
    |exact zE (j':=j-1) (by omega) ⟨i+1,by omega,Sub.live ⟨rfl,rfl,rfl,trivial⟩ ⟨rfl,rfl,trivial⟩⟩
    |skip
 . have f1:decide ((i:Int)<(a.length:Nat))=false:=decide_eq_false (by omega)
   repeat' (first
|apply zH
 . conv=>lhs;whnf
 . assumption
|refine zB ?_
|refine zC ?_
|refine zI ?_
|apply aw_1
 conv=>whnf
 refine ⟨?_,trivial⟩
|apply s_1
 conv=>whnf;arg 1;arg 4;arg 3;whnf
 refine ⟨?_,?_⟩
|refine zN ?_
|refine zJ rfl ?_
|refine zK ?_
|exact trivial)
   refine zi (fun j st => ∃ i,i+j=b.length/\Sub (cx EN5 Tryz.prog s w he) st (HAf a b i)) b.length ⟨0,by omega,Sub.live ⟨rfl,rfl,rfl,trivial⟩ ⟨rfl,rfl,trivial⟩⟩ ?_
   rintro j2 st2 ⟨i2,hij2,hs2⟩
   refine zf hs2 ?_
   clear hs2
   by_cases hi2:i2<b.length
   . have f2:decide ((i2:Int)<(b.length:Nat))=true:=decide_eq_true (by omega)
     have b0:=zu hi2
     have b1:=zW (gD b i2)
     have b2:=wD_f (gD b i2) 2;have b2':=zr ((gD b i2).f 2)
     have h2:=zFf _ ((gD b i2).f 2).l (Nat.le_refl _) (by omega)
     have q : ∀ a:ByteArray,(!(a.toList==a.toList))=false:=fun a=>by simp
     have q1:=q ((gD b i2).f 0).s
     have q2:=q ((gD b i2).f 1).s
     have k1:((!(((gD b i2).f 0).s.toList==((gD b i2).f 0).s.toList))==false)=false->False:=fun h=>by rw [q1] at h;cases h
     have k2:((!(((gD b i2).f 1).s.toList==((gD b i2).f 1).s.toList))==false)=false->False:=fun h=>by rw [q2] at h;cases h
     repeat' (first
|apply zDT ([(1,[2]),(6,[3])]) ([(10,[9]),(11,[10]),(12,[9]),(13,[10])]) ([(10,9),(11,10)]) rfl (by kernel_rfl) (by kernel_rfl) (by kernel_rfl) (by intro p hp;simp only [List.mem_cons,List.not_mem_nil,or_false] at hp;rcases hp with rfl | rfl<;>(repeat' (first | exact fresh_S rfl | refine fresh_put ?_ rfl | refine fresh_res ?_ rfl rfl)))
|apply h_nil
|apply zEn rfl rfl rfl rfl
 . conv=>lhs;whnf;arg 1;whnf
 . rfl
 . rfl
 . kernel_rfl
|apply h_val rfl
 . conv=>lhs;whnf
 . conv=>lhs;whnf;arg 2;whnf
 . kernel_rfl
|apply zEm rfl rfl rfl
 . conv=>lhs;whnf
 . rfl
 . conv=>lhs;whnf;arg 1;whnf
 . conv=>lhs;whnf;arg 1;whnf
 . exact ⟨by kernel_rfl,by kernel_rfl⟩
 . rfl
 . kernel_rfl
|show inO _ _=true;rfl
|apply zM
 . conv=>lhs;whnf
 . assumption
|exact (k1 ‹_›).elim
|exact (k2 ‹_›).elim
|refine zB ?_
|refine zC ?_
|refine zI ?_
|refine zY ?_
|apply aw_1
 conv=>whnf
 refine ⟨?_,trivial⟩
|apply zZ rfl rfl
 . conv=>lhs;whnf
 . conv=>lhs;whnf
 . first | exact bF1 ‹_› | exact bF2 ‹_›
|apply s_1
 conv=>whnf;arg 1;arg 4;arg 3;whnf
 refine ⟨?_,?_⟩
|apply zF rfl
 . conv=>lhs;whnf
 . conv=>lhs;whnf
 . first | rfl | assumption
 . conv=>lhs;whnf;arg 2;whnf
|apply zm rfl
 . conv=>lhs;whnf
 . conv=>lhs;whnf
 . first | rfl | assumption
 . conv=>lhs;whnf
 . first | exact h2
|apply zL rfl
 . conv=>lhs;whnf
 . conv=>lhs;whnf
 . conv=>lhs;whnf;arg 2;whnf
|exact trivial
|intro hg)
     all_goals first
      |exact za (by omega)
      |exact zBL hi2
      |exact zE (j':=j2-1) (by omega) ⟨i2+1,by omega,Sub.live ⟨rfl,rfl,rfl,trivial⟩ ⟨rfl,rfl,trivial⟩⟩
      |skip
   . have f2:decide ((i2:Int)<(b.length:Nat))=false:=decide_eq_false (by omega)
     repeat' (first
|apply zH
 . conv=>lhs;whnf
 . assumption
|refine zB ?_
|refine zC ?_
|refine zI ?_
|apply aw_1
 conv=>whnf
 refine ⟨?_,trivial⟩
|apply s_1
 conv=>whnf;arg 1;arg 4;arg 3;whnf
 refine ⟨?_,?_⟩
|refine zN ?_
|refine zJ rfl ?_
|refine zK ?_
|refine zD ?_
|refine ⟨_,by conv=>lhs;whnf;arg 2;whnf,?_⟩;conv=>rhs;whnf
|exact trivial)
end
section
open Go.ChangeShapes Go.WideShapes Go.ChangeAt Go.RowKit
set_option linter.unusedSectionVars false
attribute [local irreducible] wpList Calls Code.wp AW AWo OpOk seqK zAG zAP loopK endK AC zt Yld Sub
attribute [local irreducible] ACB ACX ACE absLexG YldG absLexH
theorem self9_ac (a b:List D) (hwa:bulkL a<=1000000000) (hwb:bulkL b<=1000000000):AC EN5 Tryz.prog 16 [.agg [.sl 57 a,.sl 116 b],.agg [.sl 57 a,.sl 116 b]] (.c (.bool true)):=by
 have h:=alike_ac a b hwa hwb
 refine zG 8 Tryz.func16 rfl rfl rfl rfl ?_
 intro s w he
 repeat' (first
|refine zB ?_
|refine zC ?_
|refine zI ?_
|apply aw_1
 conv=>whnf
 refine ⟨?_,trivial⟩
|apply s_1
 conv=>whnf;arg 1;arg 4;arg 3;whnf
 refine ⟨?_,?_⟩
|apply zd rfl
 . conv=>lhs;whnf
 . conv=>lhs;whnf
 . first | exact h
|apply zAE rfl rfl rfl rfl
 . conv=>lhs;whnf;arg 1;whnf
 . rfl
|refine zD ?_
|refine ⟨_,by conv=>lhs;whnf;arg 2;whnf,?_⟩;conv=>rhs;whnf
|exact trivial)
theorem doc_read {f:D} {kind:Int} (hF:FetIn f) (hk:i64D kind) (hr:queR (.obj [.list (fetchO 8 f kind),.list []])=true) (hl:(docF31 kind f).length<=65536):zIH (docF31 kind f) = .ok (.obj [.list (fetchO 8 f kind),.list []]):=by
 have hok:=zIa hF hk hr
 obtain ⟨k,hfe⟩:=fetchO_fe (f:=f) (kind:=kind) hF.pk 8
 have hp:=parse_docT hr hok hl
 rw [cDoc_id (hfe k (Nat.le_refl k)) (fun i hi=>(hok.sels i hi).sdp) (fun i hi=>(hok.frag i hi).sdp)] at hp
 exact hp
theorem zJS (s:List UInt8) (hs:s.length<=65536) {q:D} (hq:zIH s = .ok q):AC EN5 Tryz.prog 23 [.c (.string (bs s))] (.tup [.agg [.sl 57 (q.f 0).l,.sl 116 (q.f 1).l],.c (.int .i64 0),.c (.int .i64 0)]):=by
 have hsc:=scan_ac s (by omega)
 unfold zIH at hq
 cases h:zEA s with
 |error x=>rw [h] at hq;cases hq
 |ok ts =>
  rw [h] at hsc hq
  have hen:=scan_en h
  have hd:=doc_ace ⟨ts,true,0⟩ hen.1 (by have:=scan_cnt h;show ts.length<=100000;omega)
  have hd:ACE EN5 Tryz.prog 53 [.bx (pn 0) 0] [boxP ⟨ts,true,0⟩] (outQ (fun p=>VP p) (docQ ts)):=hd
  dsimp only at hq
  cases hr:docQ ts with
  |error x=>rw [hr] at hq;cases hq
  |ok r =>
   obtain ⟨⟨ops,frs⟩,x'⟩:=r
   rw [hr] at hd hq
   cases hq
   exact parse_good s ts hsc ops frs x' hd
theorem texts_ac (s0 f:D) (kind:Int) (hgb:bulkL (s0.f 0).l<=1048576) (hk:i64D kind) (hF:FetIn f) :
 AC EN5 Tryz.prog 5 [.agg (cellsV Tryz.prog 12 29 s0),.agg (cellsV Tryz.prog 12 34 f),.c (.int .i64 kind)] (.c (.bool true)):=by
 have h1:=example31_ac.five
 have hx:=(fits31_ac s0 f kind (szOk_of hgb hF.bulk) fun hl=>⟨zK7 hF hl,by have:=zDN hF kind;omega⟩).five
 rcases hb:fitsB (s0.f 0).l f kind with _ | _
 . rw [hb] at hx
   refine zG 50 Tryz.func5 rfl rfl rfl rfl ?_
   intro s w he
   repeat' (first
|refine zB ?_
|refine zC ?_
|refine zI ?_
|apply aw_1
 conv=>whnf
 refine ⟨?_,trivial⟩
|apply s_1
 conv=>whnf;arg 1;arg 4;arg 3;whnf
 refine ⟨?_,?_⟩
|apply zd rfl
 . conv=>lhs;whnf
 . conv=>lhs;whnf
 . first | exact hx | exact h1
|apply zAE rfl rfl rfl rfl
 . conv=>lhs;whnf;arg 1;whnf
 . rfl
|refine zO ?_
|refine zD ?_
|refine ⟨_,by conv=>lhs;whnf;arg 2;whnf,?_⟩;conv=>rhs;whnf
|exact trivial)
   all_goals rfl
 rw [hb] at hx
 obtain ⟨q1,q2,q3,q4⟩:=fitsB_of hb
 have hok:=zIa hF hk q3
 have hcp:=zK7 hF q1
 have h2:=(zKE s0 f kind hcp hok).five
 have h3:=(textR31_ac s0 f kind hcp hok).five
 have h4:=(zF0 EN 7 s0 f kind hcp).five
 have hbk:=zDN hF kind
 have h5:=self9_ac (fetchO 8 f kind) [] (by omega) (by decide)
 have hread:=doc_read hF hk q3
 have hlen:=fetIn_len hF hk
 generalize docF31 kind f=T at h2 h3 hread hlen
 have hz:=zS T
 have g1:=nself31 (bs T)
 by_cases hl:T.length<=65536
 . have h6:=zJS T hl (hread hl)
   have h6:AC EN5 Tryz.prog 23 [.c (.string (bs T))] (.tup [.agg [.sl 57 (fetchO 8 f kind),.sl 116 []],.c (.int .i64 0),.c (.int .i64 0)]):=h6
   have f0:decide (((bs T).size:Int)>65536)=false:=decide_eq_false (by omega)
   refine zG 50 Tryz.func5 rfl rfl rfl rfl ?_
   intro s w he
   repeat' (first
|apply zH
 . conv=>lhs;whnf
 . assumption
|refine zB ?_
|refine zC ?_
|refine zI ?_
|apply aw_1
 conv=>whnf
 refine ⟨?_,trivial⟩
|apply s_1
 conv=>whnf;arg 1;arg 4;arg 3;whnf
 refine ⟨?_,?_⟩
|apply zd rfl
 . conv=>lhs;whnf
 . conv=>lhs;whnf
 . first | exact hx | exact h1 | exact h2 | exact h3 | exact h4 | exact h5 | exact h6
|apply zAE rfl rfl rfl rfl
 . conv=>lhs;whnf;arg 1;whnf
 . rfl
|apply zX rfl rfl rfl
 . conv=>lhs;whnf
 . conv=>lhs;whnf;arg 1;whnf
 . conv=>lhs;whnf;arg 1;whnf
 . exact ⟨by kernel_rfl,by kernel_rfl⟩
 . rfl
|apply zAD (by kernel_rfl) (by kernel_rfl)
|apply zAq
|apply zAp rfl
 . conv=>lhs;whnf
 . conv=>lhs;whnf;arg 2;whnf
|apply zAe rfl
 . conv=>lhs;whnf
 . conv=>lhs;whnf
 . first | rfl | assumption
 . conv=>lhs;whnf;arg 2;whnf
|apply zBs rfl
 . conv=>lhs;whnf
 . conv=>lhs;whnf
 . first | rfl | assumption
 . conv=>lhs;whnf
 . first | exact hx | exact h1 | exact h2 | exact h3 | exact h4 | exact h5 | exact h6
|exact zj
|exact zx
|exact (1000000:Nat)
|refine zD ?_
|refine ⟨_,by conv=>lhs;whnf;arg 2;whnf,?_⟩;conv=>rhs;whnf
|exact trivial)
   all_goals rfl
 . have f0:decide (((bs T).size:Int)>65536)=true:=decide_eq_true (by omega)
   refine zG 50 Tryz.func5 rfl rfl rfl rfl ?_
   intro s w he
   repeat' (first
|apply zM
 . conv=>lhs;whnf
 . assumption
|apply zH
 . conv=>lhs;whnf
 . assumption
|refine zB ?_
|refine zC ?_
|refine zI ?_
|apply aw_1
 conv=>whnf
 refine ⟨?_,trivial⟩
|apply s_1
 conv=>whnf;arg 1;arg 4;arg 3;whnf
 refine ⟨?_,?_⟩
|apply zd rfl
 . conv=>lhs;whnf
 . conv=>lhs;whnf
 . first | exact hx | exact h1 | exact h2 | exact h3
|apply zAE rfl rfl rfl rfl
 . conv=>lhs;whnf;arg 1;whnf
 . rfl
|refine zO ?_
|refine zD ?_
|refine ⟨_,by conv=>lhs;whnf;arg 2;whnf,?_⟩;conv=>rhs;whnf
|exact trivial)
   all_goals rfl
theorem relL3_31 {P:Program} {s:Sg} {w:World} {v v2 v3:V} {u u2 u3:Value} (h:rel P s w v u) (h2:rel P s w v2 u2) (h3:rel P s w v3 u3):relL P s w [v,v2,v3] (#[u,u2,u3]:Array Value).toList:=by
 show relL P s w [v,v2,v3] [u,u2,u3]
 rw [relL,relL,relL];exact ⟨h,h2,h3,by simp [relL]⟩
theorem upto_texts {H:Type} {d d2 d3:DataW H} {gs:List (DataW H)} (h:Rows.uptoSmall H (d::d2::d3::gs)=true):Rows.uptoBulk d<=1048576/\Rows.uptoBulk d2<=1048576:=upto_two31 h
theorem rowTexts {H:Type} {enc:TypeId × Value->H} {W:World} {v v2:Value} {base base2:Nat} {dw dw2:DataW H} {ps ps2:List MemPlace} (n:Int) (hn : -9223372036854775808<=n/\n<=9223372036854775807) (hv:Value.okWide Tryz.prog W .any base 29 v) (hd:DataW.Trod enc Tryz.prog W 0 (fun _=>true) true 29 v dw ps)
 (hv2:Value.okWide Tryz.prog W .any base2 34 v2) (hd2:DataW.Trod enc Tryz.prog W 0 (fun _=>true) true 34 v2 dw2 ps2) (hb:Rows.uptoBulk dw<=1048576/\Rows.uptoBulk dw2<=1048576) (he:Env W) :
 Calls Tryz.prog 5 #[v,v2,.int .i64 n] W fun e W'=>e = .returned (.bool true)/\Below W.heap.size W W':=by
 obtain ⟨cs,s0,rfl,hr,hg⟩:=super_in hv hd hb.1
 obtain ⟨k,cs2,f,rfl,hr2,hf,hF⟩:=fetch_in hv2 hd2 hb.2
 exact zIq (texts_ac s0 f n hg hn hF) (relL3_31 hr hr2 (zFn hn)) he
end
section
open Go.ChangeShapes Go.WideShapes Go.ChangeAt Go.RowKit
attribute [local irreducible] wpList Calls Code.wp
theorem zCu (H:Type) (enc:TypeId × Value->H) (W:World) (base:Nat) (args:Array Value) (ds gs:List (DataW H)) (before:List MemPlace)
 (hval : ∀ (j:Nat) t v,Tryz.f5.params[j]? = some t->args[j]? = some v->Value.okWide Tryz.prog W .any base t v)
 (hW:DataW.Whole enc Tryz.prog Tryz.f5.params.toList Rows.fetchtextTextsSpec.vars false W args.toList ds gs before) (hL:laidMetH Tryz.prog Rows.fetchtextTextsUptoRow.laid W)
 (hcond : ∀ k,(Rows.OpenSpec.upto Rows.fetchtextTextsSpec).cond=some k->k H (ds++gs)=true)
 (hR:(DataW.weightsEach Tryz.prog (Tryz.f5.params.toList++(Rows.OpenSpec.upto Rows.fetchtextTextsSpec).bare.plain.varTypes Tryz.prog) (ds++gs)).all (· <= reachBytes)=true) :
 Calls Tryz.prog 5 args W fun e W' => ∃ v,e = .returned v/\Rows.fetchtextTextsSpec.post enc Tryz.prog Tryz.f5 false true false false W args v W':=by
 have hW':=hW
 obtain ⟨p,q,hA0,hV,rfl,hfz,hnd⟩:=hW
 have hA:DataW.TrodAll enc Tryz.prog W 0 (fun _=>true) true Tryz.f5.params.toList args.toList ds p:=hA0
 rw [Tryz.params5] at hA hval hR
 obtain ⟨v0,vs0,d0,ds0,p0,q0,hargs,rfl,rfl,h0,r0⟩:=trodAll_cons hA
 obtain ⟨v1,vs1,d1,ds1,p1,q1,e1,rfl,rfl,h1,r1⟩:=trodAll_cons r0
 subst e1
 obtain ⟨v2,vs2,d2,ds2,p2,q2,e2,rfl,rfl,h2,r2⟩:=trodAll_cons r1
 subst e2
 obtain ⟨rfl,rfl,rfl⟩:=trodAll_nil r2
 obtain rfl:args = #[v0,v1,v2]:=by cases args;simp_all
 obtain ⟨n2,rfl,hn2⟩:=int_arg Tryz.underlying3 (hval 2 3 v2 rfl rfl) h2
 refine (rowTexts n2 hn2 (hval 0 29 v0 rfl rfl) h0 (hval 1 34 v1 rfl rfl) h1 (upto_texts (hcond _ rfl)) (zJl hL)).mono fun e W' ⟨he,hbel⟩ => ?_
 subst he
 exact ⟨_,rfl,post_true laidOut' (types_ok _ (by kernel_rfl)) Tryz.underlying4 rfl rfl hW' hbel (fun gs h=>by subst h;rfl)⟩
theorem laid_metFetchtextTexts (os:Os):laidMet Tryz.prog Rows.fetchtextTextsUptoRow.laid ((laidWorld os).forCall (fun _ _=>0) ⟨#[],#[.agg #[.slice none 0 0,.slice none 0 0,.slice none 0 0,.slice none 0 0],.agg #[.int .i64 0,.int .i64 0,.slice none 0 0,.string ⟨#[]⟩,.slice none 0 0,.int .i64 0,.slice none 0 0,.slice none 0 0],.int .i64 0],[]⟩).memory:=
 laidMet_of_run' 8 (by kernel_rfl) (by kernel_rfl)
theorem zDi (os:Os) {H:Type} (enc:TypeId × Value->H) : ∃ places,DataW.whole enc Tryz.prog ((laidWorld os).forCall (fun _ _=>0) ⟨#[],#[.agg #[.slice none 0 0,.slice none 0 0,.slice none 0 0,.slice none 0 0],.agg #[.int .i64 0,.int .i64 0,.slice none 0 0,.string ⟨#[]⟩,.slice none 0 0,.int .i64 0,.slice none 0 0,.slice none 0 0],.int .i64 0],[]⟩).memory Tryz.f5.params.toList Rows.fetchtextTextsSpec.vars false (#[.agg #[.slice none 0 0,.slice none 0 0,.slice none 0 0,.slice none 0 0],.agg #[.int .i64 0,.int .i64 0,.slice none 0 0,.string ⟨#[]⟩,.slice none 0 0,.int .i64 0,.slice none 0 0,.slice none 0 0],.int .i64 0]:Array Value).toList 8=some ([.agg [.nil,.agg [.nil],.nil,.nil],.agg [.lit (.int .i64 0),.lit (.int .i64 0),.nil,.lit (.string []),.nil,.lit (.int .i64 0),.nil,.nil],.lit (.int .i64 0)],[],places):=
 ⟨[],by kernel_rfl⟩
theorem zDW (os:Os) (started:os.Started) (H:Type) (enc:TypeId × Value->H) (F:Stop.Interp) :
 ReturnsInHanded {} Tryz.checked os 5 .any ((Rows.OpenSpec.upto Rows.fetchtextTextsSpec).preRow enc Tryz.prog Tryz.f5 Rows.fetchtextTextsUptoRow.domain false Rows.fetchtextTextsUptoRow.laid) (((Rows.OpenSpec.upto Rows.fetchtextTextsSpec).at F).post enc Tryz.prog Tryz.f5 false true false false):=by
 obtain ⟨places,hx⟩:=zDi os enc
 refine returnsInHanded_of_row (C:=Tryz.checked) (s:=Rows.OpenSpec.upto Rows.fetchtextTextsSpec) own started (by kernel_rfl) Tryz.func5
  (witness_row_at (enc:=enc) (C:=Tryz.checked) false (laidWorld os) #[.agg #[.slice none 0 0,.slice none 0 0,.slice none 0 0,.slice none 0 0],.agg #[.int .i64 0,.int .i64 0,.slice none 0 0,.string ⟨#[]⟩,.slice none 0 0,.int .i64 0,.slice none 0 0,.slice none 0 0],.int .i64 0] rfl (by kernel_rfl) (by kernel_rfl) (by kernel_rfl)
    (OpenSpec.preRow_of_cond 8 hx (by kernel_rfl) (fun k hk=>by cases hk;kernel_rfl) (by kernel_rfl) (laid_metFetchtextTexts os))) ?_
 intro W base args ds gs before hval hW _ hcond hR hL _ _
 exact zCu H enc W base args ds gs before hval hW hL hcond hR
theorem zDv {a b:Bool} (h1:a=true) (h2:b=true):(a&&b)=true:=by rw [h1,h2];rfl
theorem zDX:joinedFacts Tryz.prog 5 Tryz.f5 (Rows.OpenSpec.upto Rows.fetchtextTextsSpec).bare Rows.fetchtextTextsUptoRow=true:=by
 unfold joinedFacts
 repeat' (with_reducible apply zDv)
 all_goals as_aux_lemma=>kernel_rfl
theorem zEB:Rows.FetchtextTextsUptoSaid:=
 OpenClaim.holds_of_cond 5 Tryz.f5 rfl rfl rfl rfl rfl rfl rfl ⟨rfl,rfl,rfl,rfl,rfl⟩ rfl rfl rfl rfl rfl (by kernel_rfl) Tryz.func5 zDX
  (of_decide_eq_true (by kernel_rfl)) (by unfold Func.isWrapper;first | (rw [if_pos (by decide +kernel)];kernel_rfl) | (rw [if_neg (by decide +kernel)];exact ⟨rfl,rfl⟩))
  (fun os started H enc _ F=>by rw [OpenClaim.pre_eq_preRow];exact zDW os started H enc F)
theorem zDj (f : FuncId) (fn : Func) (hf : Tryz.pinned.checked.prog.funcNamed "supergraph/supergraphlaw31.FetchtextTexts" = some f) (hfn : Tryz.pinned.checked.prog.funcs[f]? = some fn) :
 true=Tryz.pinned.checked.prog.looks [] /\ ∀ (j:Nat) t,fn.params[j]? = some t->Tryz.pinned.checked.prog.wantsStandIn t=false:=by
 obtain rfl : f = 5 := Option.some.inj ((show Tryz.prog.funcNamed "supergraph/supergraphlaw31.FetchtextTexts" = some 5 by kernel_rfl).symm.trans hf) |>.symm
 obtain rfl:fn=Tryz.f5:=(Option.some.inj (Tryz.func5.symm.trans hfn)).symm
 refine ⟨by kernel_rfl,fun j t ht => ?_⟩
 rw [Tryz.params5] at ht
 have hm:=Array.mem_of_getElem? ht
 simp only [List.mem_toArray,List.mem_cons,List.not_mem_nil,or_false] at hm
 rcases hm with rfl | rfl | rfl
 . exact (show Tryz.prog.wantsStandIn 29=false by kernel_rfl)
 . exact (show Tryz.prog.wantsStandIn 34=false by kernel_rfl)
 . exact (show Tryz.prog.wantsStandIn 3=false by kernel_rfl)
end
end Go.Proofs.YthjiclhfhjdjpaaGreatDoor
