import Derived.Maps.OwnSet
import Derived.Test.YthppafnlnnpciaaGreatDoorV34
set_option maxHeartbeats 8000000
set_option maxRecDepth 100000
set_option linter.unusedVariables false
set_option linter.unusedSimpArgs false
namespace Go.Proofs.YthppafnlnnpciaaGreatDoor
section
open Go.RowKit Go.WideMaps Go.Maps
attribute [local irreducible] wpList Calls Code.wp
def mapR (P:Program) (q:Bool) (e:TypeId):Value->Option (DataW Unit × List MemPlace):=if q then plainElem P e else unitElem
def SetB (P:Program) (q:Bool) (k e:TypeId) (l:List (List UInt8)) (w:World) (b:Nat):Prop:=
 ∃ M:DataW Unit,w.ownsMap P k (mapR P q e) b l.length M/\IsMap M/\(∀ u:List UInt8,has M (.string u)=decide (u∈l)) /\ ∀ u:List UInt8,q=true->M.atKey (.string u) (.lit (.bool false)) = .lit (.bool (decide (u∈l)))
def setK (P:Program) (q:Bool) (k e:TypeId) (l:List (List UInt8)):Res:=.blk (SetB P q k e l)
structure MapOk (P:Program) (t k e:TypeId) (q:Bool):Prop where
 ht:P.underlying t=some (.map k e)
 hk:P.underlying k=some .string
 hz : ∀ w,(zeroValue e).run P w = .ok (if q then .bool false else .agg #[]) w
 he:q=true->P.underlying e=some .bool
section
variable {P:Program} {q:Bool} {k e:TypeId} {l:List (List UInt8)} {w w1 w2:World} {b:Nat}
theorem zIE (h:w2.heap[b]? = w1.heap[b]?):SetB P q k e l w1 b->SetB P q k e l w2 b:=fun ⟨M,⟨es,clock,hb,r⟩,hM⟩=>⟨M,⟨es,clock,h.trans hb,r⟩,hM⟩
theorem setB_nil:SetB P q k e [] (w.alloc (.map #[] 0)) w.heap.size:=
 ⟨.map [],World.ownsMap_made _ _ _ _,isMap_empty,fun u=>by rw [decide_eq_false (by simp)];rfl,fun u _=>by rw [decide_eq_false (by simp)];rfl⟩
theorem has_put {M:DataW Unit} (hM:IsMap M) (hh : ∀ u:List UInt8,has M (.string u)=decide (u∈l)) (u:List UInt8) (d:DataW Unit) (v:List UInt8):has (M.put (.string u) d) (.string v)=decide (v∈l++[u]):=by
 by_cases e:v=u
 . subst e
   rw [has_put_same hM (show WideAt.IsKeyLit (.string v) from trivial),decide_eq_true (by simp)]
 . rw [has_put_other (fun h=>e (by injection h)),hh v]
   congr 1
   simp [e]
theorem at_put {M:DataW Unit} (hM:IsMap M) (hh : ∀ u:List UInt8,M.atKey (.string u) (.lit (.bool false)) = .lit (.bool (decide (u∈l)))) (u v:List UInt8):(M.put (.string u) (.lit (.bool true))).atKey (.string v) (.lit (.bool false)) = .lit (.bool (decide (v∈l++[u]))):=by
 by_cases e:v=u
 . subst e
   rw [atKey_put_same hM (show WideAt.IsKeyLit (.string v) from trivial),decide_eq_true (by simp)]
 . rw [atKey_put_other (fun h=>e (by injection h)),hh v]
   congr 2
   simp [e]
variable {pas:Nat->Prop} {B:Nat} {rs:Nat->Option Res} {s:Sg}
theorem MemOk.nameK (h:MemOk P pas B rs s w) (hB:B<=w.heap.size) (n:Nat) (o:Obj) (H:World->Nat->Prop) (hH:H (w.alloc o) w.heap.size) (hst : ∀ w1 w2:World,w2.heap[w.heap.size]? = w1.heap[w.heap.size]? -> H w1 w.heap.size->H w2 w.heap.size) (hf : ∀ m ρ,m≠n->rs m=some ρ->ρ.free n=true) :
 MemOk P pas B (updR rs n (.blk H)) (s.name n w.heap.size) (w.alloc o) where
 fx b i hb:=by rw [zAh (h.fx b i hb)];exact h.fx b i hb
 ho m ρ hm:=by
  by_cases e:m=n
  . subst e
    simp only [updR,if_true] at hm
    cases hm
    refine ⟨w.heap.size,by simp [Sg.name],by simp,hH,hst,fun i hi => ?_⟩
    obtain ⟨v,hv⟩:=Option.isSome_iff_exists.1 (h.fx _ i hi)
    have:=block_lt_of_cell hv
    simp at this
  . simp only [updR,if_neg e] at hm
    exact (h.ho m ρ hm).keep (zDu h n _) e rfl rfl (fun k hk=>by subst hk;exact hf m ρ e hm) (fun b hb=>Below.heap_alloc _ _ _ ((h.ho m ρ hm).lt hb)) (fun _ _ _ h=>h)
 bs m ρ b hm hb:=by
  by_cases e:m=n
  . subst e
    simp only [updR,if_true] at hm
    cases hm
    simp only [Sg.bk,Sg.name,if_true] at hb
    cases hb;exact .inl hB
  . simp only [updR,if_neg e] at hm
    rw [zBF e] at hb
    exact h.bs m ρ b hm hb
 dj m k ρ ρ' b hm hk hmb hkb:=by
  by_cases e:m=n<;>by_cases e':k=n
  . rw [e,e']
  . simp only [updR,if_neg e'] at hk
    rw [zBF e'] at hkb
    subst e
    simp only [updR,if_true] at hm
    cases hm
    simp only [Sg.bk,Sg.name,if_true] at hmb
    cases hmb
    have:=(h.ho k ρ' hk).lt hkb
    omega
  . simp only [updR,if_neg e] at hm
    rw [zBF e] at hmb
    subst e'
    simp only [updR,if_true] at hk
    cases hk
    simp only [Sg.bk,Sg.name,if_true] at hkb
    cases hkb
    have:=(h.ho m ρ hm).lt hmb
    omega
  . simp only [updR,if_neg e] at hm
    simp only [updR,if_neg e'] at hk
    rw [zBF e] at hmb
    rw [zBF e'] at hkb
    exact h.dj m k ρ ρ' b hm hk hmb hkb
theorem MemOk.writeK (h:MemOk P pas B rs s w) {n b:Nat} {H H':World->Nat->Prop} {w':World} (hn:rs n=some (.blk H)) (hb:s.bx n=some b) (hH:H' w' b) (hst : ∀ w1 w2:World,w2.heap[b]? = w1.heap[b]? -> H' w1 b->H' w2 b) (hlt:b<w'.heap.size)
 (hsame : ∀ k,k≠b->w'.heap[k]? = w.heap[k]?):Ext (fun _=>False) s w s w'/\MemOk P pas B (updR rs n (.blk H')) s w':=by
 obtain ⟨b',h1,h2,h3,h4,h5⟩:=h.ho n _ hn
 rw [h1] at hb;cases hb
 have hcell : ∀ k o,s.F k o->w'.cell? ⟨k,o,none⟩=w.cell? ⟨k,o,none⟩:=fun k o hF=>World.cell?_of_block (w:=w) (hsame k fun e=>by subst e;exact h5 o hF)
 have hx:Ext (fun _=>False) s w s w':=⟨fun k o hF=>⟨hcell k o hF,hF⟩,fun _ _=>rfl,fun _ _ => .inl rfl⟩
 have this : ∀ q ρ,updR rs n (.blk H') q=some ρ -> ∃ ρ',rs q=some ρ'/\s.bk q ρ'=s.bk q ρ:=fun q ρ hq=>by
  by_cases e:q=n
  . subst e
    simp only [updR,if_true] at hq
    cases hq;exact ⟨_,hn,rfl⟩
  . simp only [updR,if_neg e] at hq;exact ⟨_,hq,rfl⟩
 refine ⟨hx,?_,?_,?_,?_⟩
 . intro k o hF;rw [hcell k o hF];exact h.fx k o hF
 . intro m ρ hm
   by_cases e:m=n
   . subst e
     simp only [updR,if_true] at hm
     cases hm
     exact ⟨b,h1,hlt,hH,hst,h5⟩
   . simp only [updR,if_neg e] at hm
     refine (h.ho m ρ hm).keep hx (fun h=>h) rfl rfl (fun _ h=>h.elim) (fun k hk=>hsame k fun e' => ?_) (fun _ _ _ h=>h)
     subst e'
     exact e (h.dj m n _ _ k hm hn hk h1)
 . intro m ρ k hm hk
   obtain ⟨r1,hr1,e1⟩:=this m ρ hm
   exact h.bs m r1 k hr1 (by rw [e1];exact hk)
 . intro m k ρ ρ' j hm hk hmj hkj
   obtain ⟨r1,hr1,e1⟩:=this m ρ hm
   obtain ⟨r2,hr2,e2⟩:=this k ρ' hk
   exact h.dj m k _ _ j hr1 hr2 (by rw [e1];exact hmj) (by rw [e2];exact hkj)
end
section
variable {X:Cx} {nn:Nat} {st:Vst nn} {o:Oper} {K:Vst nn->Prop} {t k e:TypeId} {q:Bool} {l:List (List UInt8)}
theorem opOk_mkmap {d:Nat} (ho:o.op = .makeMap t none) (hd:o.dst=some d) (hdl:Nat.ble d 999999=true) (q:Bool) (k e:TypeId) (hK:K (((st.kill d).res d (setK X.P q k e [])).put (some d) (.mp d))):OpOk X o st K:=by
 intro s w a hI N Q hP hN
 have hrun:(execOp a.eval o).run X.P w = .ok (.value (.map (some w.heap.size))) (w.alloc (.map #[] 0)):=by
  simp [execOp,ho,run_makeMap]
 unfold Oper.wp
 rw [hrun,Oper.upon_value,hd]
 have hI':=hI.kill d
 refine hN _ (s.name d w.heap.size) _ _ (Inv.put (v:=.mp d) ?_ (some d) (by rw [rel];exact ⟨w.heap.size,by simp [Sg.name],rfl⟩)) hK
 have hx:=zDu hI'.mem d (.map #[] 0)
 refine ⟨hI.sz,fun i hi => ?_,hI.df,hI.fr.trans (zCu w _ (fun _=>False)) (fun _ h=>h.elim),hI.kp.trans hx.keeps,hI.nf,?_,hI.pe.ext hx fun m hm=>by subst hm;exact Nat.le_of_ble_eq_true hdl⟩
 . exact rel.ext hx _ _ (zAS (hI.tm i hi)).1 fun n hn=>by subst hn;exact (zAS (hI.tm i hi)).2
 . exact hI'.mem.nameK hI.base d _ _ setB_nil (fun w1 w2 h=>zIE h) fun m ρ _ hm=>zCs st d m hm
theorem opOk_look {m x:Operand} {n:Nat} {u:ByteArray} (ho:o.op = .lookup t m x true) (hm:ev st m = .mp n) (hr:st.rs n=some (setK X.P false k e l)) (hx:ev st x = .c (.string u)) (hk:MapOk X.P t k e false)
 (hK:K (st.put o.dst (.tup [.agg [],.c (.bool (decide (u.data.toList∈l)))]))):OpOk X o st K:=by
 intro s w a hI N Q hP hN
 have h1:=hI.ev m
 rw [hm,rel] at h1
 obtain ⟨b,hb,hb2⟩:=h1
 have h2:=hI.ev x
 rw [hx,rel] at h2
 obtain ⟨h2,hsz⟩:=h2
 obtain ⟨b',q1,q2,⟨M,hown,hM,hhas,-⟩,q4,q5⟩:=hI.mem.ho n _ hr
 rw [hb] at q1;cases q1
 have hkey:keyOf X.P k (.string u)=some (.string u.data.toList):=keyOf_string_mk hk.hk hsz
 obtain ⟨v,ps,hrun,hv⟩:=hown.look_ok (string_keyed hk.hk) hk.ht (hk.hz w) (zd:=.agg []) (zp:=[]) rfl hkey
 obtain ⟨rfl,-⟩:=unitElem_inv hv
 have hrun2:(execOp a.eval o).run X.P w = .ok (.value (.tuple #[.agg #[],.bool (has M (.string u.data.toList))])) w:=by
  simp [execOp,ho,hb2,h2,hrun,Result.andThen]
 unfold Oper.wp
 rw [hrun2,Oper.upon_value]
 refine hN _ _ _ _ (hI.put o.dst ?_) hK
 rw [hhas,rel]
 exact ⟨_,rfl,by simp [relL,rel,okV]⟩
theorem opOk_mput {m x y:Operand} {n:Nat} {u:ByteArray} (ho:o.op = .mapUpdate t m x y) (hd:o.dst=none) (hm:ev st m = .mp n) (hr:st.rs n=some (setK X.P q k e l)) (hx:ev st x = .c (.string u)) (hy:ev st y=if q then .c (.bool true) else .agg []) (hk:MapOk X.P t k e q) (hl:l.length<maxLen)
 (hK:K (st.res n (setK X.P q k e (l++[u.data.toList])))):OpOk X o st K:=by
 intro s w a hI N Q hP hN
 have h1:=hI.ev m
 rw [hm,rel] at h1
 obtain ⟨b,hb,hb2⟩:=h1
 have h2:=hI.ev x
 rw [hx,rel] at h2
 obtain ⟨h2,hsz⟩:=h2
 have h3:=hI.ev y
 obtain ⟨b',q1,q2,⟨M,hown,hM,hhas,hat⟩,q4,q5⟩:=hI.mem.ho n _ hr
 rw [hb] at q1;cases q1
 have hkey:keyOf X.P k (.string u)=some (.string u.data.toList):=keyOf_string_mk hk.hk hsz
 have hval:mapR X.P q e (a.eval y)=some (if q then .lit (.bool true) else .agg [],[]):=by
  rw [hy] at h3
  cases q with
  |true =>
   have h3:rel X.P s w (.c (.bool true)) (a.eval y):=h3
   rw [rel] at h3
   rw [h3.1]
   exact plainElem_bool (hk.he rfl) true
  |false =>
   have h3:rel X.P s w (.agg []) (a.eval y):=h3
   rw [rel] at h3
   obtain ⟨cs,hcs,hr⟩:=h3
   have:cs = #[]:=by
    have:=hr.length
    exact Array.eq_empty_of_size_eq_zero (by simpa using this.symm)
   rw [hcs,this]
   rfl
 obtain ⟨w',hrun,hown',hturn⟩:=hown.store (string_keyed hk.hk) hk.ht hl hkey hval
 have hset:SetB X.P q k e (l++[u.data.toList]) w' b:=by
  refine ⟨_,by rw [List.length_append];exact hown',hM.put _ _,has_put hM hhas _ _,fun v hq => ?_⟩
  subst hq
  exact at_put hM (fun u=>hat u rfl) _ v
 have hrun2:(execOp a.eval o).run X.P w = .ok .skip w':=by
  simp [execOp,ho,hb2,h2,hrun,Result.andThen]
 have hgr:=hturn.grown
 have hsame : ∀ i,i≠b->w'.heap[i]? = w.heap[i]?:=fun i hi=>by
  obtain ⟨es,clock,es',clock',hbb,rfl⟩:=hturn
  exact Go.ChangeMaps.heap_setBlock_other hbb _ hi
 have hsz':w'.heap.size=w.heap.size:=by
  obtain ⟨es,clock,es',clock',hbb,rfl⟩:=hturn
  simp [Go.ChangeMaps.setBlock]
 have hos:w'.os=w.os/\w'.tape=w.tape/\w'.output=w.output:=by
  obtain ⟨es,clock,es',clock',hbb,rfl⟩:=hturn
  exact ⟨rfl,rfl,rfl⟩
 unfold Oper.wp
 rw [hrun2,Oper.upon_skip,hd]
 have hm:=hI.mem.writeK hr hb hset (fun w1 w2 h=>zIE h) (by rw [hsz'];exact q2) hsame
 refine hN _ s _ _ ?_ hK
 have hfr:Frm (fun b=>X.w0.heap.size<=b\/X.pas b) w w':=⟨hos.1,hos.2.1,hos.2.2,by omega,fun i _ hi=>hsame i fun e=>hi (by subst e;exact hI.mem.bs n _ _ hr hb)⟩
 exact ⟨hI.sz,fun i hi=>(hI.tm i hi).ext0 hm.1,hI.df,hI.fr.trans hfr fun _ h=>h,hI.kp.trans hm.1.keeps,hI.nf,hm.2,hI.pe.ext0 hm.1⟩
variable {ops:Array Oper} {ol:List Oper} {d:Option Tmp} {KK:Vst nn->Prop}
theorem s_mkmap {d:Nat} (hg:o.guard=none) (ho:o.op = .makeMap t none) (hd:o.dst=some d) (hdl:Nat.ble d 999999=true) (q:Bool) (k e:TypeId) (hK:AWo X ops ol (((st.kill d).res d (setK X.P q k e [])).put (some d) (.mp d)) KK):AWo X ops (o::ol) st KK:=zy hg (opOk_mkmap ho hd hdl q k e hK)
theorem s_look {m x:Operand} {n:Nat} {u:ByteArray} (hg:o.guard=none) (hd:o.dst=d) (ho:o.op = .lookup t m x true) (hm:ev st m = .mp n) (hr:st.rs n=some (setK X.P false k e l)) (hx:ev st x = .c (.string u)) (hk:MapOk X.P t k e false)
 (hK:AWo X ops ol (st.put d (.tup [.agg [],.c (.bool (decide (u.data.toList∈l)))])) KK):AWo X ops (o::ol) st KK:=zy hg (opOk_look ho hm hr hx hk (by rw [hd];exact hK))
theorem s_mput {m x y:Operand} {n:Nat} {u:ByteArray} (hg:o.guard=none) (ho:o.op = .mapUpdate t m x y) (hd:o.dst=none) (hm:ev st m = .mp n) (hr:st.rs n=some (setK X.P q k e l)) (hx:ev st x = .c (.string u)) (hy:ev st y=if q then .c (.bool true) else .agg []) (hk:MapOk X.P t k e q)
 (hK:AWo X ops ol (st.res n (setK X.P q k e (l++[u.data.toList]))) KK) (hl:l.length<maxLen):AWo X ops (o::ol) st KK:=zy hg (opOk_mput ho hd hm hr hx hy hk hl hK)
end
end
section
open Go.RowKit
attribute [local irreducible] wpList Calls Code.wp AW AWo OpOk seqK zq zt loopK endK AC zg Yld Sub
attribute [local irreducible] ACB ACX ACE absLexG YldG absLexU YldU
def boxN (n:Nat):Res:=.box 190 [.bx (pn 1) 0,.c (.int .i64 ((Nat.min n 4096:Nat):Int))]
def bsV (al:List Tok) (x:PS):List Res:=[boxN x.nd,boxS al x]
noncomputable def outV (al:List Tok) (r:PR D):Out:=zIb (bsV al) VV zFE r
theorem nx_nd0 (x:PS):(nxT x).nd=x.nd:=by unfold nxT;split<;>rfl
theorem take_nd {s:List UInt8} {x y:PS} {u:Unit} (h:takeQ s x = .ok (u,y)):y.nd=x.nd:=by
 unfold takeQ at h
 split at h
 . cases h;exact nx_nd0 x
 . cases h
theorem out_nx {al:List Tok} (v:D) (z:PS):outV al (.ok (v,nxT z))=Out.ret (VV v) [boxN z.nd,boxS al (nxT z)]:=by
 show Out.ret (VV v) [boxN (nxT z).nd,boxS al (nxT z)]=_
 rw [nx_nd0]
theorem p_word (s:List UInt8):AC EN5 Tryz.prog 229 [.c (.string (bs s))] (VV (zCd s)):=by
 have hve:=vEnum_ac s
 have hvb:=vBool_ac
 refine zN 15 Tryz.func229 rfl rfl rfl rfl ?_
 intro s0 w he
 repeat' (first
|apply zBI (VV zDK) rfl rfl
 . conv=>lhs;whnf;arg 2;whnf
 . repeat' (first | exact VLe.refl _ | exact VLe.nil _ | exact VLe.lit _ _ | exact VLe.own _ _ _ | apply VLe.agg | apply VLeL.cons | exact VLeL.nil)
|refine zA ?_
|refine zB ?_
|refine zK ?_
|refine zP ?_
|apply aw_1
 conv=>whnf
 refine ⟨?_,trivial⟩
|apply s_1
 conv=>whnf;arg 1;arg 4;arg 3;whnf
 refine ⟨?_,?_⟩
|apply zb rfl
 . conv=>lhs;whnf
 . conv=>lhs;whnf
 . first | exact hve | exact hvb _
|apply zV rfl rfl rfl
 . conv=>lhs;whnf
 . conv=>lhs;whnf;arg 1;whnf
 . conv=>lhs;whnf;arg 1;whnf
 . exact ⟨by kernel_rfl,by kernel_rfl⟩
 . rfl
|refine zZ (by conv=>lhs;whnf) ?_ ?_<;>intro hb
|refine zM ?_
|refine zO ?_
|refine zE ?_
|refine ⟨_,by conv=>lhs;whnf;arg 2;whnf,?_⟩;conv=>rhs;whnf
|exact trivial)
 all_goals first
  |(exact (w_no (a:=(bs s).toList==(⟨#[116,114,117,101]⟩:ByteArray).toList) ‹_› ‹_›).elim)
  |(rw [w_true ‹_›];rfl)
  |(rw [w_false ‹_› ‹_›];rfl)
  |(rw [w_null ‹_› ‹_› ‹_›];rfl)
  |(rw [w_enum ‹_› ‹_› ‹_›];rfl)
  |skip
noncomputable def HlL (al:List Tok) (lv:Nat) (y:PS) (acc:List D):Vst 23:=
 stS 23 [(0,.bx (pn 0) 0),(1,.c (.int .i64 (lv:Int))),(4,.bx 4 0),(5,.bx 5 0)] [(pn 0,boxN y.nd),(pn 1,boxS al y),(4,.box 53 zVal),(5,.box 53 [.c (.int .i64 5),.c (.int .i64 0),.c (.string ⟨#[]⟩),.own 901 53 acc,.c (.slice none 0 0)]),(901,.tok 53 acc.length)]
section
variable {al:List Tok} {f lv:Nat} {y:PS}
theorem p_list (ih : ∀ z,Sx al z->ACE EN5 Tryz.prog 202 [.bx (pn 0) 0,.c (.int .i64 ((lv+1:Nat):Int))] (bsV al z) (outV al (valueQ f (lv+1) z))) (hlv:lv<=25) (hy:Sx al y) (hal:al.length<=100000) :
 ACE EN5 Tryz.prog 230 [.bx (pn 0) 0,.c (.int .i64 (lv:Int))] (bsV al y) (outV al (thenQ (itemsQ (valueQ f (lv+1)) (y.ts.length+1) [] y) fun l z => .ok (valD 5 0 [] l [],z))):=by
 have hyl:=hy.len
 refine zk (fn:=Tryz.f230) 23 Tryz.func230 rfl rfl ?_
 intro pas w0 w he hp
 repeat' (first
|refine zA ?_
|refine zB ?_
|refine zK ?_
|apply aw_1
 conv=>whnf
 refine ⟨?_,trivial⟩
|apply s_1
 conv=>whnf;arg 1;arg 4;arg 3;whnf
 refine ⟨?_,?_⟩
|apply zV rfl rfl rfl
 . conv=>lhs;whnf
 . conv=>lhs;whnf;arg 1;whnf
 . conv=>lhs;whnf;arg 1;whnf
 . exact ⟨by kernel_rfl,by kernel_rfl⟩
 . rfl
|exact trivial)
 refine zi (Sub.ownF (m:=5) (q:=901) (i:=3) (e:=53) rfl (by decide) rfl rfl rfl) ?_
 refine za (fun j st => ∃ z acc,Sx al z/\z.ts.length<j/\acc.length+z.ts.length<=y.ts.length/\itemsQ (valueQ f (lv+1)) (y.ts.length+1) [] y=itemsQ (valueQ f (lv+1)) j acc z/\Sub (cxE EN5 Tryz.prog pas w0 w he hp (outV al (thenQ (itemsQ (valueQ f (lv+1)) (y.ts.length+1) [] y) fun l z => .ok (valD 5 0 [] l [],z)))) st (HlL al lv z acc)) (y.ts.length+1) ⟨y,[],hy,by omega,by simp,rfl,?_⟩ ?_
 . exact Sub.live ⟨rfl,rfl,rfl,rfl,trivial⟩ ⟨rfl,rfl,rfl,rfl,rfl,trivial⟩
 rintro j st ⟨z,acc,hz,hzj,hzl,hI,hsub⟩
 refine zi hsub ?_
 clear hsub
 rw [hI]
 clear hI
 cases j with
 |zero=>omega
 |succ j =>
 by_cases hs:isS z [93]=true
 . have ha:=zFM hz hal hs
   rw [items_end (by rw [hs];rfl)]
   repeat' (first
|apply zBI (VV (valD 5 0 [] acc [])) rfl rfl
 . conv=>lhs;whnf;arg 2;whnf
 . repeat' (first | exact VLe.refl _ | exact VLe.nil _ | exact VLe.lit _ _ | exact VLe.own _ _ _ | apply VLe.agg | apply VLeL.cons | exact VLeL.nil)
|apply s_m (clS al) (zR al) rfl
 . conv=>lhs;whnf
 . conv=>lhs;whnf
 . rfl
 . conv=>lhs;whnf;arg 1;whnf
 . first | exact zm _ _
 . first | exact ha
 . exact fun _=>rfl
 . exact fun _=>rfl
|refine zA ?_
|refine zB ?_
|refine zK ?_
|apply aw_1
 conv=>whnf
 refine ⟨?_,trivial⟩
|apply s_1
 conv=>whnf;arg 1;arg 4;arg 3;whnf
 refine ⟨?_,?_⟩
|apply zV rfl rfl rfl
 . conv=>lhs;whnf
 . conv=>lhs;whnf;arg 1;whnf
 . conv=>lhs;whnf;arg 1;whnf
 . exact ⟨by kernel_rfl,by kernel_rfl⟩
 . rfl
|refine zL ?_
|refine zJ rfl ?_
|refine zI ?_
|apply zHa rfl
 . conv=>lhs;whnf;arg 2;whnf
|exact trivial)
   exact ⟨[boxN z.nd,boxS al (nxT z)],out_nx _ z,rfl,rfl,trivial⟩
 have hs:isS z [93]=false:=by simpa using hs
 have ha:=zDo hz hal hs
 have hv:=ih z hz
 rw [items_go (by rw [hs];rfl)]
 repeat' (first
|apply zBh 10 ([(1,[5])]) ([(5,[1000000,1000001]),(7,[901]),(9,[5])]) rfl (by kernel_rfl) (by kernel_rfl) (by kernel_rfl)
|apply zHh
|apply zHg rfl
 . conv=>lhs;whnf
 . conv=>lhs;whnf;arg 2;whnf
|apply zIx rfl rfl
 . conv=>lhs;whnf
 . first | exact zCx | (conv=>lhs;whnf;arg 1;whnf)
 . first | exact fun _=>rfl | (intro _;kernel_rfl)
 . conv=>lhs;whnf
 . rfl
 . conv=>lhs;whnf;arg 1;whnf
 . conv=>lhs;whnf
|apply zCO rfl rfl rfl
 . conv=>lhs;whnf
 . rfl
 . conv=>lhs;whnf;arg 1;whnf
 . conv=>lhs;whnf;arg 1;whnf
 . exact ⟨by kernel_rfl,by kernel_rfl⟩
 . rfl
|exact Or.inl ⟨pn 0,_,rfl⟩
|refine Or.inr ?_
|apply g_prN [pn 0,pn 1] (default:D) [.box 0 [.c (.tuple #[])],.box 0 [.c (.tuple #[])]] rfl
 . conv=>lhs;whnf
 . conv=>lhs;whnf
 . first | exact hv
 . decide
 . rfl
 . rfl
 . exact fun _=>rfl
 . rfl
 . rfl
 refine fun ee hq tm rs => ?_
 change _=Out.die _
 rotate_left 1
 refine fun aa xx hq => ?_
 first | (cases hq;have hq:=True.intro) | skip
 rotate_left 1
 refine fun ee hq => ?_
 first | (cases hq;done) | skip
|show inO _ _=true;rfl
|apply zDr [aa] rfl rfl
 . conv=>lhs;whnf
 . first | exact zCx | (conv=>lhs;whnf;arg 1;whnf)
 . rfl
 . rfl
 . repeat' (first | exact trivial | apply And.intro | rfl)
|apply zDr [default] rfl rfl
 . conv=>lhs;whnf
 . first | exact zCx | (conv=>lhs;whnf;arg 1;whnf)
 . rfl
 . rfl
 . repeat' (first | exact trivial | apply And.intro | rfl)
|apply s_m (clS al) (zR al) rfl
 . conv=>lhs;whnf
 . conv=>lhs;whnf
 . rfl
 . conv=>lhs;whnf;arg 1;whnf
 . first | exact zm _ _
 . first | exact ha
 . exact fun _=>rfl
 . exact fun _=>rfl
|refine zA ?_
|refine zB ?_
|refine zK ?_
|refine zP ?_
|apply aw_1
 conv=>whnf
 refine ⟨?_,trivial⟩
|apply s_1
 conv=>whnf;arg 1;arg 4;arg 3;whnf
 refine ⟨?_,?_⟩
|exact trivial)
 all_goals first
  |exact zS (by omega)
  |(refine ⟨by simp,?_,?_⟩<;>simp only [List.length_cons,List.length_nil,maxLen]<;>omega)
  |(rw [zn hq];rfl)
  |skip
 have hx:=hz.value hq
 refine zH (j':=j) (by omega) ⟨xx,acc++[aa],hx.1,by omega,by rw [List.length_append];simp only [List.length_cons,List.length_nil];omega,by rw [zY hq],Sub.live ⟨rfl,rfl,rfl,rfl,trivial⟩ ⟨rfl,rfl,rfl,rfl,?_,trivial⟩⟩
 show some (Res.tok _ (acc.length+1))=some (Res.tok _ (acc++[aa]).length)
 rw [List.length_append];rfl
noncomputable def HlO (al:List Tok) (lv:Nat) (y:PS) (ks:List (List UInt8)) (acc:List D):Vst 69:=
 stS 69 [(0,.bx (pn 0) 0),(1,.c (.int .i64 (lv:Int))),(4,.bx 4 0),(5,.bx 5 0),(6,.mp 11)] [(pn 0,boxN y.nd),(pn 1,boxS al y),(4,.box 53 zVal),(5,.box 53 [.c (.int .i64 6),.c (.int .i64 0),.c (.string ⟨#[]⟩),.own 901 53 acc,.own 902 9 (ks.map strD)]),(901,.tok 53 acc.length),(902,.tok 9 (ks.map strD).length),(11,setK Tryz.prog false 9 222 ks)]
theorem mapOk_:MapOk Tryz.prog 221 9 222 false where
 ht:=by kernel_rfl
 hk:=by kernel_rfl
 hz _:=rfl
 he h:=by cases h
theorem fl_go {v:PS->PR D} {j:Nat} {ks:List (List UInt8)} {acc:List D} {z:PS} (h:isS z [125]=false) (hk:(hdT z).k=2):z7 v (j+1) ks acc z=if (hdT z).s∈ks then .error ((hdT z).i,7) else thenQ (takeQ [58] (nxT z)) fun _ u=>thenQ (v u) fun a o=>z7 v j (ks++[(hdT z).s]) (acc++[a]) o:=by
 rw [zI4 (by rw [h];rfl),zY (a:=(hdT z).s) (x:=nxT z) (by rw [nameQ,if_pos hk])]
 by_cases hm:(hdT z).s∈ks
 . rw [if_pos (by simpa using hm),if_pos hm]
 . rw [if_neg (by simpa using hm),if_neg hm]
theorem p_object (ih : ∀ z,Sx al z->ACE EN5 Tryz.prog 202 [.bx (pn 0) 0,.c (.int .i64 ((lv+1:Nat):Int))] (bsV al z) (outV al (valueQ f (lv+1) z))) (hlv:lv<=25) (hy:Sx al y) (hal:al.length<=100000) :
 ACE EN5 Tryz.prog 231 [.bx (pn 0) 0,.c (.int .i64 (lv:Int))] (bsV al y) (outV al (thenQ (z7 (valueQ f (lv+1)) (y.ts.length+1) [] [] y) fun l z => .ok (valD 6 0 [] l.2 l.1,z))):=by
 have hyl:=hy.len
 refine zk (fn:=Tryz.f231) 69 Tryz.func231 rfl rfl ?_
 intro pas w0 w he hp
 repeat' (first
|apply s_mkmap rfl rfl rfl rfl false 9 222
|refine zA ?_
|refine zB ?_
|refine zK ?_
|apply aw_1
 conv=>whnf
 refine ⟨?_,trivial⟩
|apply s_1
 conv=>whnf;arg 1;arg 4;arg 3;whnf
 refine ⟨?_,?_⟩
|apply zV rfl rfl rfl
 . conv=>lhs;whnf
 . conv=>lhs;whnf;arg 1;whnf
 . conv=>lhs;whnf;arg 1;whnf
 . exact ⟨by kernel_rfl,by kernel_rfl⟩
 . rfl
|exact trivial)
 refine zi (Sub.ownF (m:=5) (q:=901) (i:=3) (e:=53) rfl (by decide) rfl rfl rfl) ?_
 refine zi (Sub.ownF (m:=5) (q:=902) (i:=4) (e:=9) rfl (by decide) rfl rfl rfl) ?_
 refine za (fun j st => ∃ z ks acc,Sx al z/\z.ts.length<j/\acc.length+z.ts.length<=y.ts.length/\acc.length=ks.length/\z7 (valueQ f (lv+1)) (y.ts.length+1) [] [] y=z7 (valueQ f (lv+1)) j ks acc z/\Sub (cxE EN5 Tryz.prog pas w0 w he hp (outV al (thenQ (z7 (valueQ f (lv+1)) (y.ts.length+1) [] [] y) fun l z => .ok (valD 6 0 [] l.2 l.1,z)))) st (HlO al lv z ks acc)) (y.ts.length+1) ⟨y,[],[],hy,by omega,by simp,rfl,rfl,?_⟩ ?_
 . exact Sub.live ⟨rfl,rfl,rfl,rfl,rfl,trivial⟩ ⟨rfl,rfl,rfl,rfl,rfl,rfl,rfl,trivial⟩
 rintro j st ⟨z,ks,acc,hz,hzj,hzl,hka,hI,hsub⟩
 refine zi hsub ?_
 clear hsub
 rw [hI]
 clear hI
 cases j with
 |zero=>omega
 |succ j =>
 by_cases hs:isS z [125]=true
 . have ha:=zFM hz hal hs
   rw [fields_end (by rw [hs];rfl)]
   repeat' (first
|apply zBI (VV (valD 6 0 [] acc ks)) rfl rfl
 . conv=>lhs;whnf;arg 2;whnf
 . repeat' (first | exact VLe.refl _ | exact VLe.nil _ | exact VLe.lit _ _ | exact VLe.own _ _ _ | apply VLe.agg | apply VLeL.cons | exact VLeL.nil)
|apply s_m (clS al) (zR al) rfl
 . conv=>lhs;whnf
 . conv=>lhs;whnf
 . rfl
 . conv=>lhs;whnf;arg 1;whnf
 . first | exact zm _ _
 . first | exact ha
 . exact fun _=>rfl
 . exact fun _=>rfl
|refine zA ?_
|refine zB ?_
|refine zK ?_
|apply aw_1
 conv=>whnf
 refine ⟨?_,trivial⟩
|apply s_1
 conv=>whnf;arg 1;arg 4;arg 3;whnf
 refine ⟨?_,?_⟩
|apply zV rfl rfl rfl
 . conv=>lhs;whnf
 . conv=>lhs;whnf;arg 1;whnf
 . conv=>lhs;whnf;arg 1;whnf
 . exact ⟨by kernel_rfl,by kernel_rfl⟩
 . rfl
|refine zL ?_
|refine zJ rfl ?_
|refine zI ?_
|apply zHa rfl
 . conv=>lhs;whnf;arg 2;whnf
|exact trivial)
   exact ⟨[boxN z.nd,boxS al (nxT z)],out_nx _ z,rfl,rfl,trivial⟩
 have hs:isS z [125]=false:=by simpa using hs
 have ha:=zDo hz hal hs
 have hm:=zD8 hz hal
 have hf:=zCp hz hal 7
 have hnm:=zDn hz hal
 have hno:=zHJ hz hal
 by_cases hk:(hdT z).k=2
 . rw [show ((hdT z).k==2)=true by simpa using hk] at hm
   rw [fl_go hs hk]
   by_cases hd:(hdT z).s∈ks
   . have K:(decide ((bs (hdT z).s).data.toList∈ks))=false->False:=fun h=>of_decide_eq_false h hd
     rw [if_pos hd]
     repeat' (first
|apply s_look rfl rfl rfl
 . conv=>lhs;whnf
 . rfl
 . conv=>lhs;whnf
 . exact mapOk_
|apply s_m (clS al) (zR al) rfl
 . conv=>lhs;whnf
 . conv=>lhs;whnf
 . rfl
 . conv=>lhs;whnf;arg 1;whnf
 . first | exact zm _ _
 . first | exact ha | exact hm | exact hno
 . exact fun _=>rfl
 . exact fun _=>rfl
|apply zB0 [pn 1] rfl
 . conv=>lhs;whnf
 . first | exact hf
 . decide
 . rfl
 . rfl
 change _=Out.die _
|exact (K ‹_›).elim
|refine zA ?_
|refine zB ?_
|refine zK ?_
|apply aw_1
 conv=>whnf
 refine ⟨?_,trivial⟩
|apply s_1
 conv=>whnf;arg 1;arg 4;arg 3;whnf
 refine ⟨?_,?_⟩
|apply zV rfl rfl rfl
 . conv=>lhs;whnf
 . conv=>lhs;whnf;arg 1;whnf
 . conv=>lhs;whnf;arg 1;whnf
 . exact ⟨by kernel_rfl,by kernel_rfl⟩
 . rfl
|refine zZ (by conv=>lhs;whnf) ?_ ?_<;>intro hb
|exact trivial)
     rfl
   . have K:(decide ((bs (hdT z).s).data.toList∈ks))=true->False:=fun h=>hd (of_decide_eq_true h)
     rw [if_neg hd]
     have hnq:nameQ z = .ok ((hdT z).s,nxT z):=by rw [nameQ,if_pos hk]
     rw [hnq] at hnm
     have l1:=hz.name hnq
     have hex:=zBE l1.1 hal [58]
     have hv : ∀ {u:PS},takeQ [58] (nxT z) = .ok ((),u)->ACE EN5 Tryz.prog 202 [.bx (pn 0) 0,.c (.int .i64 ((lv+1:Nat):Int))] [boxN z.nd,boxS al u] (outV al (valueQ f (lv+1) u)):=fun {u} h=>by
      have h1:=ih _ (l1.1.take h).1
      have h2:u.nd=z.nd:=(take_nd h).trans (nx_nd0 z)
      rw [<- h2];exact h1
     repeat' (first
|apply s_look rfl rfl rfl
 . conv=>lhs;whnf
 . rfl
 . conv=>lhs;whnf
 . exact mapOk_
|apply s_mput rfl rfl rfl
 . conv=>lhs;whnf
 . rfl
 . conv=>lhs;whnf
 . rfl
 . exact mapOk_
|apply zBh 10 ([(1,[5])]) ([(5,[1000000,1000001]),(7,[901]),(9,[5])]) rfl (by kernel_rfl) (by kernel_rfl) (by kernel_rfl)
|apply zHh
|apply zHg rfl
 . conv=>lhs;whnf
 . conv=>lhs;whnf;arg 2;whnf
|apply zIx rfl rfl
 . conv=>lhs;whnf
 . first | exact zCx | exact zBx | (conv=>lhs;whnf;arg 1;whnf)
 . first | exact fun _=>rfl | (intro _;kernel_rfl)
 . conv=>lhs;whnf
 . rfl
 . conv=>lhs;whnf;arg 1;whnf
 . conv=>lhs;whnf
|apply zCO rfl rfl rfl
 . conv=>lhs;whnf
 . rfl
 . conv=>lhs;whnf;arg 1;whnf
 . conv=>lhs;whnf;arg 1;whnf
 . exact ⟨by kernel_rfl,by kernel_rfl⟩
 . rfl
|exact Or.inl ⟨pn 0,_,rfl⟩
|refine Or.inr ?_
|apply g_prN [pn 0,pn 1] (default:D) [.box 0 [.c (.tuple #[])],.box 0 [.c (.tuple #[])]] rfl
 . conv=>lhs;whnf
 . conv=>lhs;whnf
 . first | exact hv ‹_›
 . decide
 . rfl
 . rfl
 . exact fun _=>rfl
 . rfl
 . rfl
 refine fun ee hq tm rs => ?_
 change _=Out.die _
 rotate_left 1
 refine fun aa xx hq => ?_
 first | (cases hq;have hq:=True.intro) | skip
 rotate_left 1
 refine fun ee hq => ?_
 first | (cases hq;done) | skip
|show inO _ _=true;rfl
|apply zDr [aa] rfl rfl
 . conv=>lhs;whnf
 . first | exact zCx | exact zBx | (conv=>lhs;whnf;arg 1;whnf)
 . rfl
 . rfl
 . repeat' (first | exact trivial | apply And.intro | rfl)
|apply zDr [default] rfl rfl
 . conv=>lhs;whnf
 . first | exact zCx | exact zBx | (conv=>lhs;whnf;arg 1;whnf)
 . rfl
 . rfl
 . repeat' (first | exact trivial | apply And.intro | rfl)
|apply s_m (clS al) (zR al) rfl
 . conv=>lhs;whnf
 . conv=>lhs;whnf
 . rfl
 . conv=>lhs;whnf;arg 1;whnf
 . first | exact zm _ _
 . first | exact ha | exact hm | exact hno
 . exact fun _=>rfl
 . exact fun _=>rfl
|apply s_pr (clS al) (zR al) rfl
 . conv=>lhs;whnf
 . conv=>lhs;whnf
 . rfl
 . conv=>lhs;whnf;arg 1;whnf
 . first | exact zm _ _
 . first | exact hnm | exact hex
 . exact fun _=>rfl
 . first | (intro _ _;simp only [renL,renV,ren_cells];done) | exact fun _ _=>rfl
 refine fun ee hq => ?_
 change _=Out.die _
 rotate_left 1
 refine fun aa xx hq => ?_
 first | (replace hq:=zAD hq;obtain ⟨hq,rfl⟩:=hq) | (cases hq;have hq:=True.intro) | skip
|exact (K ‹_›).elim
|refine zA ?_
|refine zB ?_
|refine zK ?_
|refine zP ?_
|apply aw_1
 conv=>whnf
 refine ⟨?_,trivial⟩
|apply s_1
 conv=>whnf;arg 1;arg 4;arg 3;whnf
 refine ⟨?_,?_⟩
|apply zV rfl rfl rfl
 . conv=>lhs;whnf
 . conv=>lhs;whnf;arg 1;whnf
 . conv=>lhs;whnf;arg 1;whnf
 . exact ⟨by kernel_rfl,by kernel_rfl⟩
 . rfl
|apply zEW rfl rfl
 . conv=>lhs;whnf
 . first | exact zCx | exact zBx | (conv=>lhs;whnf;arg 1;whnf)
 . first | exact fun _=>rfl | (intro _;kernel_rfl)
 . conv=>lhs;whnf
 . conv=>lhs;whnf;arg 1;whnf
 . conv=>lhs;whnf
|apply zKb rfl rfl
 . conv=>lhs;whnf
 . first | exact zCx | exact zBx | (conv=>lhs;whnf;arg 1;whnf)
 . conv=>lhs;whnf;arg 1;whnf
 . rfl
 . rfl
|refine zZ (by conv=>lhs;whnf) ?_ ?_<;>intro hb
|exact trivial)
     all_goals first
      |exact zS (by omega)
      |(refine ⟨by simp,?_,?_⟩<;>simp only [List.length_map,List.length_cons,List.length_nil,maxLen]<;>omega)
      |(cases hq;done)
      |(unfold maxLen;omega)
      |(rw [zn (by assumption:takeQ [58] (nxT z)=_)];rfl)
      |(rw [zY (by assumption:takeQ [58] (nxT z)=_),zn hq];rfl)
      |skip
     rename_i u3 z3 htk
     have l2:=l1.1.take htk
     have l3:=l2.1.value hq
     refine zH (j':=j) (by omega) ⟨xx,ks++[(hdT z).s],acc++[aa],l3.1,by omega,by rw [List.length_append];simp only [List.length_cons,List.length_nil];omega,by rw [List.length_append,List.length_append,hka];rfl,by rw [zY htk,zY hq],Sub.live ⟨rfl,rfl,rfl,rfl,rfl,trivial⟩ ⟨rfl,rfl,rfl,?_,?_,?_,rfl,trivial⟩⟩
     . show some (Res.box _ [_,_,_,V.own 901 _ (acc++[aa]),V.own 902 _ (ks.map strD++[D.str (bs (hdT z).s)])])=some (Res.box _ [_,_,_,V.own 901 _ (acc++[aa]),V.own 902 _ ((ks++[(hdT z).s]).map strD)])
       rw [List.map_append];rfl
     . show some (Res.tok _ (acc.length+1))=some (Res.tok _ (acc++[aa]).length)
       rw [List.length_append];rfl
     . show some (Res.tok _ ((ks.map strD).length+1))=some (Res.tok _ ((ks++[(hdT z).s]).map strD).length)
       rw [List.map_append,List.length_append];rfl
 . rw [show ((hdT z).k==2)=false by simpa using hk] at hm
   have hne:nameQ z = .error ((hdT z).i,3):=by rw [nameQ,if_neg hk]
   rw [hne] at hnm
   rw [fl_nm (by rw [hs];rfl) hne]
   repeat' (first
|apply s_m (clS al) (zR al) rfl
 . conv=>lhs;whnf
 . conv=>lhs;whnf
 . rfl
 . conv=>lhs;whnf;arg 1;whnf
 . first | exact zm _ _
 . first | exact ha | exact hm
 . exact fun _=>rfl
 . exact fun _=>rfl
|apply s_pr (clS al) (zR al) rfl
 . conv=>lhs;whnf
 . conv=>lhs;whnf
 . rfl
 . conv=>lhs;whnf;arg 1;whnf
 . first | exact zm _ _
 . first | exact hnm
 . exact fun _=>rfl
 . first | (intro _ _;simp only [renL,renV,ren_cells];done) | exact fun _ _=>rfl
 refine fun ee hq => ?_
 change _=Out.die _
 rotate_left 1
 refine fun aa xx hq => ?_
 first | (replace hq:=zAD hq;obtain ⟨hq,rfl⟩:=hq) | (cases hq;have hq:=True.intro) | skip
|refine zA ?_
|refine zB ?_
|refine zK ?_
|apply aw_1
 conv=>whnf
 refine ⟨?_,trivial⟩
|apply s_1
 conv=>whnf;arg 1;arg 4;arg 3;whnf
 refine ⟨?_,?_⟩
|exact trivial)
   have e:(Except.error ((hdT z).i,3):PR (List UInt8))=Except.error ee:=by assumption
   cases e;rfl
end
end
section
open Go.RowKit
attribute [local irreducible] wpList Calls Code.wp AW AWo OpOk seqK zq zt loopK endK AC zg Yld Sub
attribute [local irreducible] ACB ACX ACE absLexG YldG absLexU YldU
noncomputable def HuA (al:List Tok) (lv:Nat) (x:PS) (t:Tok):Vst 106:=
 stS 106 [(0,.bx (pn 0) 0),(1,.c (.int .i64 (lv:Int))),(4,.bx 4 0),(5,.bx 5 0)] [(pn 0,boxN x.nd),(pn 1,boxS al x),(4,.box 53 zVal),(5,.box 89 (tokC t))]
theorem noValS {x:PS} (hv:x.vr=false):zBs x=((hdT x).k==5||((hdT x).k==1 && !((bs (hdT x).s).toList==(⟨#[91]⟩:ByteArray).toList) && !((bs (hdT x).s).toList==(⟨#[123]⟩:ByteArray).toList))):=by
 unfold zBs isS
 rw [hv,Lib.toList_data,zAo,Lib.toList_data,Lib.toList_data]
 show _=((hdT x).k==5||((hdT x).k==1 && !((hdT x).s==[91]) && !((hdT x).s==[123])))
 cases (hdT x).k==5<;>cases (hdT x).k==1<;>cases (hdT x).s==[91]<;>cases (hdT x).s==[123]<;>rfl
section
variable {a b c d:Bool}
theorem nv_1 (h:(a||(b && !c && !d))=true) (ha:(a==false)=true) (hb:(b==true)=false):False:=by cases a<;>cases b<;>simp_all
theorem nv_2 (h:(a||(b && !c && !d))=true) (ha:(a==false)=true) (hc:((!c)==true)=false):False:=by cases a<;>cases c<;>simp_all
theorem nv_3 (h:(a||(b && !c && !d))=true) (ha:(a==false)=true) (hd:(!d)=false):False:=by cases a<;>cases d<;>simp_all
theorem nv_4 (h:(a||(b && !c && !d))=false) (ha:(a==false)=false):False:=by cases a<;>simp_all
theorem nv_5 (h:(a||(b && !c && !d))=false) (hb:(b==true)=true) (hc:((!c)==true)=true) (hd:(!d)=true):False:=by cases a<;>cases b<;>cases c<;>cases d<;>simp_all
end
theorem Sx.kd {al:List Tok} {x:PS} (h:Sx al x) (hkd:Kd al):1<=(hdT x).k/\(hdT x).k<=5:=by
 have h1:=h.pos
 have h2:=h.len
 rw [<- h.hd]
 exact hkd _ (by omega)
theorem zJi {al:List Tok} (hal:al.length<=100000) (hkd:Kd al) : ∀ (f lv:Nat) (x:PS),Sx al x->f+lv=26->lv<=25->ACE EN5 Tryz.prog 202 [.bx (pn 0) 0,.c (.int .i64 (lv:Int))] (bsV al x) (outV al (valueQ f lv x))
 |0,lv,x,h,hf,h25=>by omega
 |f+1,lv,x,h,hf,h25=>by
  have hn:=zHJ h hal
  have hf3:=zCp h hal 3
  have hf4:=zCp h hal 4
  have hf5:=zCp h hal 5
  have hvs:=noValS h.vr
  by_cases hnv:zBs x=true
  . have hv:=value_bad (f:=f) (lv:=lv) hnv
    rw [hvs] at hnv
    rw [hv]
    refine zk (fn:=Tryz.f202) 106 Tryz.func202 rfl rfl ?_
    intro pas w0 w he hp
    repeat' (first
|apply zAK rfl rfl rfl
 . conv=>lhs;whnf
 . first | rfl | assumption
 . conv=>lhs;whnf
 . first | exact bT1 ‹_› | exact bT2 ‹_› | rfl
|apply zAH rfl rfl rfl
 . conv=>lhs;whnf
 . first | rfl | assumption
 . conv=>lhs;whnf
 . first | exact bF1 ‹_› | exact bF2 ‹_› | rfl
|apply s_m (clS al) (zR al) rfl
 . conv=>lhs;whnf
 . conv=>lhs;whnf
 . rfl
 . conv=>lhs;whnf;arg 1;whnf
 . first | exact zm _ _
 . first | exact hn
 . exact fun _=>rfl
 . exact fun _=>rfl
|apply zX rfl
 . conv=>lhs;whnf
 . conv=>lhs;whnf
 . first | rfl | assumption
|apply zIM rfl
 . conv=>lhs;whnf
 . rfl
 . rfl
|apply zB0 [pn 1] rfl
 . conv=>lhs;whnf
 . first | exact hf3
 . decide
 . rfl
 . rfl
 change _=Out.die _
|exact (nv_1 hnv ‹_› ‹_›).elim
|exact (nv_2 hnv ‹_› ‹_›).elim
|exact (nv_3 hnv ‹_› ‹_›).elim
|refine zA ?_
|refine zB ?_
|refine zK ?_
|apply aw_1
 conv=>whnf
 refine ⟨?_,trivial⟩
|apply zT rfl rfl
 . conv=>lhs;whnf
 . conv=>lhs;whnf
 . first | exact bT1 ‹_› | exact bT2 ‹_›
|apply zQ rfl rfl
 . conv=>lhs;whnf
 . conv=>lhs;whnf
 . first | exact bF1 ‹_› | exact bF2 ‹_›
|apply s_1
 conv=>whnf;arg 1;arg 4;arg 3;whnf
 refine ⟨?_,?_⟩
|apply zV rfl rfl rfl
 . conv=>lhs;whnf
 . conv=>lhs;whnf;arg 1;whnf
 . conv=>lhs;whnf;arg 1;whnf
 . exact ⟨by kernel_rfl,by kernel_rfl⟩
 . rfl
|apply zF rfl
 . conv=>lhs;whnf
 . conv=>lhs;whnf
 . first | rfl | assumption
 . conv=>lhs;whnf;arg 2;whnf
|apply zC rfl
 . conv=>lhs;whnf
 . conv=>lhs;whnf
 . conv=>lhs;whnf;arg 2;whnf
|refine zZ (by conv=>lhs;whnf) ?_ ?_<;>intro hb
|exact trivial
|intro hg)
    all_goals rfl
  have hnv:zBs x=false:=by simpa using hnv
  have hv5:=value_deep (f:=f) (lv:=lv) hnv
  have hv4:=value_big (f:=f) (lv:=lv) hnv
  have hvg:=value_go (f:=f) (lv:=lv) hnv
  rw [hvs] at hnv
  by_cases h24:24<lv
  . have K:decide ((lv:Int)>24)=false->False:=fun h=>by simp at h;omega
    rw [hv5 h24]
    refine zk (fn:=Tryz.f202) 106 Tryz.func202 rfl rfl ?_
    intro pas w0 w he hp
    repeat' (first
|apply zAK rfl rfl rfl
 . conv=>lhs;whnf
 . first | rfl | assumption
 . conv=>lhs;whnf
 . first | exact bT1 ‹_› | exact bT2 ‹_› | rfl
|apply zAH rfl rfl rfl
 . conv=>lhs;whnf
 . first | rfl | assumption
 . conv=>lhs;whnf
 . first | exact bF1 ‹_› | exact bF2 ‹_› | rfl
|apply s_m (clS al) (zR al) rfl
 . conv=>lhs;whnf
 . conv=>lhs;whnf
 . rfl
 . conv=>lhs;whnf;arg 1;whnf
 . first | exact zm _ _
 . first | exact hn
 . exact fun _=>rfl
 . exact fun _=>rfl
|apply zX rfl
 . conv=>lhs;whnf
 . conv=>lhs;whnf
 . first | rfl | assumption
|apply zIM rfl
 . conv=>lhs;whnf
 . rfl
 . rfl
|apply zB0 [pn 1] rfl
 . conv=>lhs;whnf
 . first | exact hf5
 . decide
 . rfl
 . rfl
 change _=Out.die _
|exact (nv_4 hnv ‹_›).elim
|exact (nv_5 hnv ‹_› ‹_› ‹_›).elim
|exact (K ‹_›).elim
|apply zv 4 (HuA al lv x (hdT x)) rfl
|refine zB3 ?_
|refine zA ?_
|refine zB ?_
|refine zK ?_
|apply aw_1
 conv=>whnf
 refine ⟨?_,trivial⟩
|apply zQ rfl rfl
 . conv=>lhs;whnf
 . conv=>lhs;whnf
 . first | exact bF1 ‹_› | exact bF2 ‹_›
|apply s_1
 conv=>whnf;arg 1;arg 4;arg 3;whnf
 refine ⟨?_,?_⟩
|apply zV rfl rfl rfl
 . conv=>lhs;whnf
 . conv=>lhs;whnf;arg 1;whnf
 . conv=>lhs;whnf;arg 1;whnf
 . exact ⟨by kernel_rfl,by kernel_rfl⟩
 . rfl
|apply zF rfl
 . conv=>lhs;whnf
 . conv=>lhs;whnf
 . first | rfl | assumption
 . conv=>lhs;whnf;arg 2;whnf
|apply zC rfl
 . conv=>lhs;whnf
 . conv=>lhs;whnf
 . conv=>lhs;whnf;arg 2;whnf
|refine zZ (by conv=>lhs;whnf) ?_ ?_<;>intro hb
|exact trivial
|intro hg)
    all_goals first
     |rfl
     |exact Sub.live ⟨rfl,rfl,rfl,rfl,trivial⟩ ⟨rfl,rfl,rfl,rfl,trivial⟩
  have K24:decide ((lv:Int)>24)=true->False:=fun h=>by simp at h;omega
  have hmn:Nat.min x.nd 4096<=4096:=Nat.min_le_right _ _
  by_cases hnd:4096<=x.nd
  . have hme:Nat.min x.nd 4096=4096:=Nat.min_eq_right hnd
    have K:decide (((Nat.min x.nd 4096:Nat):Int)+1>4096)=false->False:=fun h=>by have h:=of_decide_eq_false h;omega
    rw [hv4 h24 hnd]
    refine zk (fn:=Tryz.f202) 106 Tryz.func202 rfl rfl ?_
    intro pas w0 w he hp
    repeat' (first
|apply zAK rfl rfl rfl
 . conv=>lhs;whnf
 . first | rfl | assumption
 . conv=>lhs;whnf
 . first | exact bT1 ‹_› | exact bT2 ‹_› | rfl
|apply zAH rfl rfl rfl
 . conv=>lhs;whnf
 . first | rfl | assumption
 . conv=>lhs;whnf
 . first | exact bF1 ‹_› | exact bF2 ‹_› | rfl
|apply s_m (clS al) (zR al) rfl
 . conv=>lhs;whnf
 . conv=>lhs;whnf
 . rfl
 . conv=>lhs;whnf;arg 1;whnf
 . first | exact zm _ _
 . first | exact hn
 . exact fun _=>rfl
 . exact fun _=>rfl
|apply zX rfl
 . conv=>lhs;whnf
 . conv=>lhs;whnf
 . first | rfl | assumption
|apply zIM rfl
 . conv=>lhs;whnf
 . rfl
 . rfl
|apply zB0 [pn 1] rfl
 . conv=>lhs;whnf
 . first | exact hf4
 . decide
 . rfl
 . rfl
 change _=Out.die _
|exact (nv_4 hnv ‹_›).elim
|exact (nv_5 hnv ‹_› ‹_› ‹_›).elim
|exact (K24 ‹_›).elim
|exact (K ‹_›).elim
|apply zv 4 (HuA al lv x (hdT x)) rfl
|refine zB3 ?_
|refine zA ?_
|refine zB ?_
|refine zK ?_
|apply aw_1
 conv=>whnf
 refine ⟨?_,trivial⟩
|apply zQ rfl rfl
 . conv=>lhs;whnf
 . conv=>lhs;whnf
 . first | exact bF1 ‹_› | exact bF2 ‹_›
|apply s_1
 conv=>whnf;arg 1;arg 4;arg 3;whnf
 refine ⟨?_,?_⟩
|apply zV rfl rfl rfl
 . conv=>lhs;whnf
 . conv=>lhs;whnf;arg 1;whnf
 . conv=>lhs;whnf;arg 1;whnf
 . exact ⟨by kernel_rfl,by kernel_rfl⟩
 . rfl
|apply zF rfl
 . conv=>lhs;whnf
 . conv=>lhs;whnf
 . first | rfl | assumption
 . conv=>lhs;whnf;arg 2;whnf
|apply zC rfl
 . conv=>lhs;whnf
 . conv=>lhs;whnf
 . conv=>lhs;whnf;arg 2;whnf
|refine zZ (by conv=>lhs;whnf) ?_ ?_<;>intro hb
|exact trivial
|intro hg)
    all_goals first
     |exact zS (by omega)
     |rfl
     |exact Sub.live ⟨rfl,rfl,rfl,rfl,trivial⟩ ⟨rfl,rfl,rfl,rfl,trivial⟩
  have hme:Nat.min x.nd 4096=x.nd:=Nat.min_eq_left (by omega)
  have Knd:decide (((Nat.min x.nd 4096:Nat):Int)+1>4096)=true->False:=fun h=>by have h:=of_decide_eq_true h;omega
  obtain ⟨y,hye⟩ : ∃ y,y=nxT ⟨x.ts,x.vr,x.nd+1⟩:=⟨_,rfl⟩
  have hk5:(hdT x).k≠5:=fun e=>by rw [e] at hnv;cases hnv
  have h':Sx al ⟨x.ts,x.vr,x.nd+1⟩:=⟨h.en,h.vr,h.sf⟩
  have hy:Sx al y:=by rw [hye];exact (h'.nx hk5).1
  have hyd:y.nd=x.nd+1:=by rw [hye];exact nx_nd0 _
  have hyc:=etaS1 h' hk5
  rw [<- hye] at hyc
  have hmy:((Nat.min x.nd 4096:Nat):Int)+1=((Nat.min y.nd 4096:Nat):Int):=by rw [hyd,show Nat.min (x.nd+1) 4096=x.nd+1 from Nat.min_eq_left (by omega),hme];rfl
  have hgo:=hvg h24 hnd
  rw [<- hye] at hgo
  rw [hgo]
  have hxl:=h.len
  have hkk:=h.kd hkd
  have hnu:=zGU (bs (hdT x).s) (by rw [ze];have:=h.en.hd;omega)
  have hvt:=vText_ac (hdT x).s
  have hvi:=vInt_ac (numQ (hdT x).s)
  have hw:=p_word (hdT x).s
  have hl:=p_list (f:=f) (lv:=lv) (fun z hz=>zJi hal hkd f (lv+1) z hz (by omega) (by omega)) (by omega) hy hal
  have ho:=p_object (f:=f) (lv:=lv) (fun z hz=>zJi hal hkd f (lv+1) z hz (by omega) (by omega)) (by omega) hy hal
  have h36:((hdT x).k==3)=false->((hdT x).k==4)=false->((hdT x).k==2)=false->((bs (hdT x).s).toList==(⟨#[36]⟩:ByteArray).toList)=false:=fun h3 h4 h2=>by
   have e1:(hdT x).k=1:=by
    have h3:(hdT x).k≠3:=by simpa using h3
    have h4:(hdT x).k≠4:=by simpa using h4
    have h2:(hdT x).k≠2:=by simpa using h2
    omega
   cases hq:((bs (hdT x).s).toList==(⟨#[36]⟩:ByteArray).toList) with
   |false=>rfl
   |true =>
    have e2:=zFH hq
    rw [e1,e2,Lib.toList_data,zAo,Lib.toList_data,Lib.toList_data] at hnv
    revert hnv
    decide
  refine zk (fn:=Tryz.f202) 106 Tryz.func202 rfl rfl ?_
  intro pas w0 w he hp
  repeat' (first
|apply zAK rfl rfl rfl
 . conv=>lhs;whnf
 . first | rfl | assumption
 . conv=>lhs;whnf
 . first | exact bT1 ‹_› | exact bT2 ‹_› | rfl
|apply zAH rfl rfl rfl
 . conv=>lhs;whnf
 . first | rfl | assumption
 . conv=>lhs;whnf
 . first | exact bF1 ‹_› | exact bF2 ‹_› | rfl
|apply s_m (clS al) (zR al) rfl
 . conv=>lhs;whnf
 . conv=>lhs;whnf
 . rfl
 . conv=>lhs;whnf;arg 1;whnf
 . first | exact zm _ _
 . first | exact hn
 . exact fun _=>rfl
 . exact fun _=>rfl
|apply zX rfl
 . conv=>lhs;whnf
 . conv=>lhs;whnf
 . first | rfl | assumption
|apply zIM rfl
 . conv=>lhs;whnf
 . rfl
 . rfl
|apply zHA [pn 0,pn 1] rfl
 . conv=>lhs;whnf
 . conv=>lhs;whnf
 . first | exact hl | exact ho
 . decide
 . rfl
 . rfl
 refine fun ee hq => ?_
 change _=Out.die _
 rotate_left 1
 refine fun aa xx hq => ?_
 first | (cases hq;have hq:=True.intro) | skip
|exact (nv_4 hnv ‹_›).elim
|exact (nv_5 hnv ‹_› ‹_› ‹_›).elim
|exact (K24 ‹_›).elim
|exact (Knd ‹_›).elim
|apply zv 4 (HuA al lv x (hdT x)) rfl
|apply zv 10 (HuA al lv y (hdT x)) rfl
|refine zB3 ?_
|refine zA ?_
|refine zB ?_
|refine zK ?_
|refine zP ?_
|apply aw_1
 conv=>whnf
 refine ⟨?_,trivial⟩
|apply zQ rfl rfl
 . conv=>lhs;whnf
 . conv=>lhs;whnf
 . first | exact bF1 ‹_› | exact bF2 ‹_›
|apply s_1
 conv=>whnf;arg 1;arg 4;arg 3;whnf
 refine ⟨?_,?_⟩
|apply zb rfl
 . conv=>lhs;whnf
 . conv=>lhs;whnf
 . first | exact hnu | exact hvt | exact hvi | exact hw
|apply zV rfl rfl rfl
 . conv=>lhs;whnf
 . conv=>lhs;whnf;arg 1;whnf
 . conv=>lhs;whnf;arg 1;whnf
 . exact ⟨by kernel_rfl,by kernel_rfl⟩
 . rfl
|apply zF rfl
 . conv=>lhs;whnf
 . conv=>lhs;whnf
 . first | rfl | assumption
 . conv=>lhs;whnf;arg 2;whnf
|apply zC rfl
 . conv=>lhs;whnf
 . conv=>lhs;whnf
 . conv=>lhs;whnf;arg 2;whnf
|refine zZ (by conv=>lhs;whnf) ?_ ?_<;>intro hb
|refine zM ?_
|refine zO ?_
|apply zHa rfl
 . conv=>lhs;whnf;arg 2;whnf
|exact trivial
|intro hg)
  all_goals first
   |exact zS (by omega)
   |exact Sub.live ⟨rfl,rfl,rfl,rfl,trivial⟩ ⟨rfl,rfl,rfl,rfl,trivial⟩
   |exact Sub.live ⟨rfl,rfl,rfl,rfl,trivial⟩ ⟨congrArg (fun c=>some (Res.box _ [_,.c (.int .i64 c)])) hmy,congrArg (fun c=>some (Res.box _ c)) hyc,rfl,rfl,trivial⟩
   |(rw [vt_3 ‹_›];exact ⟨bsV al y,rfl,rfl,rfl,trivial⟩)
   |(rw [vt_4 ‹_› ‹_›];exact ⟨bsV al y,rfl,rfl,rfl,trivial⟩)
   |(rw [vt_2 ‹_› ‹_› ‹_›];exact ⟨bsV al y,rfl,rfl,rfl,trivial⟩)
   |(rw [vt_l ‹_› ‹_› ‹_› (h36 ‹_› ‹_› ‹_›) ‹_›,hq];first | rfl | exact ⟨_,rfl,rfl,rfl,trivial⟩)
   |(rw [vt_o ‹_› ‹_› ‹_› (h36 ‹_› ‹_› ‹_›) ‹_›,hq];first | rfl | exact ⟨_,rfl,rfl,rfl,trivial⟩)
   |skip
end
section
open Go.RowKit
attribute [local irreducible] wpList Calls Code.wp AW AWo OpOk seqK zq zt loopK endK AC zg Yld Sub
attribute [local irreducible] ACB ACX ACE absLexG YldG absLexU YldU
theorem zIZ {al:List Tok} (hal:al.length<=100000) (hkd:Kd al) {x:PS} (h:Sx al x):ACE EN5 Tryz.prog 176 [.bx (pn 0) 0] [boxS al x] (outS al VV (zAT x)):=by
 have hv:=zJi hal hkd 25 1 ⟨x.ts,x.vr,0⟩ ⟨h.en,h.vr,h.sf⟩ (by omega) (by omega)
 have e:zAT x=valueQ 25 1 ⟨x.ts,x.vr,0⟩:=rfl
 rw [e]
 refine zk (fn:=Tryz.f176) 7 Tryz.func176 rfl rfl ?_
 intro pas w0 w he hp
 repeat' (first
|apply zHA [3,pn 0] rfl
 . conv=>lhs;whnf
 . conv=>lhs;whnf
 . first | exact hv
 . decide
 . rfl
 . rfl
 refine fun ee hq => ?_
 change _=Out.die _
 rotate_left 1
 refine fun aa xx hq => ?_
 first | (cases hq;have hq:=True.intro) | skip
|refine zA ?_
|refine zB ?_
|refine zK ?_
|apply aw_1
 conv=>whnf
 refine ⟨?_,trivial⟩
|apply s_1
 conv=>whnf;arg 1;arg 4;arg 3;whnf
 refine ⟨?_,?_⟩
|apply zV rfl rfl rfl
 . conv=>lhs;whnf
 . conv=>lhs;whnf;arg 1;whnf
 . conv=>lhs;whnf;arg 1;whnf
 . exact ⟨by kernel_rfl,by kernel_rfl⟩
 . rfl
|apply zAV rfl
 . conv=>lhs;whnf;arg 2;whnf
 . conv=>lhs;whnf;arg 1;whnf
|exact trivial)
 all_goals (rw [hq];rfl)
def bsK (al:List Tok) (B T:List D->Res) (acc:List D) (x:PS):List Res:=[.box 62 [.bx (pn 2) 0],B acc,boxS al x,T acc]
def elK (el:PS->PR D) (acc:List D) (x:PS):Except (Nat × Int) (Unit × (List D × PS)):=match el x with | .ok (a,y) => .ok ((),(acc++[a],y)) | .error e => .error e
def mnK (r:PR (List D)):Except (Nat × Int) (Unit × (List D × PS)):=match r with | .ok (l,y) => .ok ((),(l,y)) | .error e => .error e
def outK (al:List Tok) (B T:List D->Res) (r:Except (Nat × Int) (Unit × (List D × PS))):Out:=zIb (fun p=>bsK al B T p.1 p.2) (fun _=>V.tup []) zFE r
def CK (al:List Tok) (B T:List D->Res) (f:FuncId) (cv:List V) (el:PS->PR D):Prop:=∀ acc x,Sx al x->acc.length+x.ts.length<=100000->ACE EN5 Tryz.prog f cv (bsK al B T acc x) (outK al B T (elK el acc x))
theorem out_err {α:Type} {al:List Tok} {B T:List D->Res} {i e:Nat × Int} (h:(Except.error i:PR α) = .error e):outK al B T (mnK (.error i))=Out.die (zFE e):=by
 injection h with h;rw [<- h];rfl
structure RenK (cv:List V) (B T:List D->Res):Prop where
 cv:renL (φin [pn 0,pn 1,pn 2,pn 3]) cv=cv
 b : ∀ acc,renR (φin [pn 0,pn 1,pn 2,pn 3]) (B acc)=B acc
 bo : ∀ acc,renR (φout [pn 0,pn 1,pn 2,pn 3]) (B acc)=B acc
 t : ∀ acc,renR (φin [pn 0,pn 1,pn 2,pn 3]) (T acc)=T acc
 to : ∀ acc,renR (φout [pn 0,pn 1,pn 2,pn 3]) (T acc)=T acc
noncomputable def HbK (al:List Tok) (B T:List D->Res) (f:FuncId) (cv:List V) (e:List UInt8) (most:Nat) (acc:List D) (z:PS):Vst 30:=
 stS 30 [(0,.bx (pn 2) 0),(1,.c (.string (bs e))),(2,.c (.int .i64 (most:Int))),(3,.clo f cv),(8,.c (.int .i64 (acc.length:Int)))] [(pn 0,.box 62 [.bx (pn 2) 0]),(pn 1,B acc),(pn 2,boxS al z),(pn 3,T acc)]
theorem zHK {al:List Tok} (hal:al.length<=100000) {B T:List D->Res} {f:FuncId} {cv:List V} {el:PS->PR D} (hent:zBw Tryz.prog f=true) (hR:RenK cv B T) (hc:CK al B T f cv el)
 (hno : ∀ x,(hdT x).k≠2->el x = .error ((hdT x).i,3)) (hls : ∀ {x y a},Sx al x->el x = .ok (a,y)->Sx al y/\y.ts.length<x.ts.length) (e:List UInt8) (most n:Nat) {x:PS} (h:Sx al x) (hn:x.ts.length<=n) :
 ACE EN5 Tryz.prog 121 [.bx (pn 2) 0,.c (.string (bs e)),.c (.int .i64 (most:Int)),.clo f cv] (bsK al B T [] x) (outK al B T (mnK (manyF el e most n [] x))):=by
 have hxl:=h.len
 refine zk (fn:=Tryz.f121) 30 Tryz.func121 rfl rfl ?_
 intro pas w0 w he hp
 repeat' (first
|refine zA ?_
|refine zB ?_
|refine zK ?_
|apply aw_1
 conv=>whnf
 refine ⟨?_,trivial⟩
|apply s_1
 conv=>whnf;arg 1;arg 4;arg 3;whnf
 refine ⟨?_,?_⟩
|exact trivial)
 refine za (fun j st => ∃ z acc,Sx al z/\z.ts.length<=j/\acc.length+z.ts.length<=x.ts.length/\manyF el e most n [] x=manyF el e most j acc z/\Sub (cxE EN5 Tryz.prog pas w0 w he hp (outK al B T (mnK (manyF el e most n [] x)))) st (HbK al B T f cv e most acc z)) n ⟨x,[],h,hn,by simp,rfl,?_⟩ ?_
 . exact Sub.live ⟨rfl,rfl,rfl,rfl,rfl,trivial⟩ ⟨rfl,rfl,rfl,rfl,trivial⟩
 rintro j st ⟨z,acc,hz,hzj,hzl,hI,hsub⟩
 refine zi hsub ?_
 clear hsub
 rw [hI]
 clear hI
 have hzp:=hz.pos
 cases j with
 |zero=>omega
 |succ j =>
 have K0:acc.length≠0->(((acc.length:Int)==0)==false)=false->False:=fun h1 h2=>by simp at h2;exact h1 (by rw [h2];rfl)
 by_cases hE:acc.length≠0/\isS z e=true
 . have ha:=zFM hz hal hE.2
   have K1:(((acc.length:Int)==0)==false)=false->False:=K0 hE.1
   rw [manyF,if_pos hE]
   repeat' (first
|apply zAJ (clS al) (zR al) rfl
 . conv=>lhs;whnf
 . conv=>lhs;whnf
 . first | rfl | assumption
 . conv=>lhs;whnf
 . rfl
 . conv=>lhs;whnf;arg 1;whnf
 . first | exact zm _ _
 . first | exact ha
 . exact fun _=>rfl
 . exact fun _=>rfl
|apply zX rfl
 . conv=>lhs;whnf
 . conv=>lhs;whnf
 . first | rfl | assumption
|exact (K1 ‹_›).elim
|refine zA ?_
|refine zB ?_
|refine zK ?_
|apply aw_1
 conv=>whnf
 refine ⟨?_,trivial⟩
|apply zQ rfl rfl
 . conv=>lhs;whnf
 . conv=>lhs;whnf
 . first | exact bF1 ‹_› | exact bF2 ‹_›
|apply s_1
 conv=>whnf;arg 1;arg 4;arg 3;whnf
 refine ⟨?_,?_⟩
|apply zF rfl
 . conv=>lhs;whnf
 . conv=>lhs;whnf
 . first | rfl | assumption
 . conv=>lhs;whnf;arg 2;whnf
|apply zC rfl
 . conv=>lhs;whnf
 . conv=>lhs;whnf
 . conv=>lhs;whnf;arg 2;whnf
|refine zL ?_
|refine zJ rfl ?_
|refine zI ?_
|apply zCt rfl
|refine ⟨_,by conv=>lhs;whnf;arg 2;whnf,?_⟩;conv=>rhs;whnf
|exact trivial
|intro hg)
   exact ⟨rfl,rfl,rfl,rfl,trivial⟩
 rw [manyF,if_neg hE]
 have hr:=p_room hz hal acc.length most
 have hm:=zD8 hz hal
 have hf:=zCp hz hal 3
 have hcl:=hc acc z hz (by omega)
 have K2:acc.length=0->(((acc.length:Int)==0)==false)=true->False:=fun h0 h2=>by rw [h0] at h2;cases h2
 by_cases hL:(hdT z).k=2/\most<=acc.length
 . rw [if_pos hL]
   rw [zIP,if_pos hL] at hr
   by_cases h0:acc.length=0
   . repeat' (first
|apply s_pr (clS al) (zR al) rfl
 . conv=>lhs;whnf
 . conv=>lhs;whnf
 . rfl
 . conv=>lhs;whnf;arg 1;whnf
 . first | exact zm _ _
 . first | exact hr
 . exact fun _=>rfl
 . first | (intro _ _;simp only [renL,renV,ren_cells];done) | exact fun _ _=>rfl
 refine fun ee hq => ?_
 change _=Out.die _
 rotate_left 1
 refine fun aa xx hq => ?_
 first | (replace hq:=zAD hq;obtain ⟨hq,rfl⟩:=hq) | (cases hq;have hq:=True.intro) | skip
|exact (K2 h0 ‹_›).elim
|refine zA ?_
|refine zB ?_
|refine zK ?_
|apply aw_1
 conv=>whnf
 refine ⟨?_,trivial⟩
|apply zT rfl rfl
 . conv=>lhs;whnf
 . conv=>lhs;whnf
 . first | exact bT1 ‹_› | exact bT2 ‹_›
|apply s_1
 conv=>whnf;arg 1;arg 4;arg 3;whnf
 refine ⟨?_,?_⟩
|apply zX rfl
 . conv=>lhs;whnf
 . conv=>lhs;whnf
 . first | rfl | assumption
|apply zC rfl
 . conv=>lhs;whnf
 . conv=>lhs;whnf
 . conv=>lhs;whnf;arg 2;whnf
|exact trivial
|intro hg)
     all_goals first
      |(cases hq;done)
      |exact out_err ‹_›
   . have hs:isS z e=false:=by cases hs:isS z e with | false=>rfl | true=>exact (hE ⟨h0,hs⟩).elim
     have ha:=zDo hz hal hs
     repeat' (first
|apply zAJ (clS al) (zR al) rfl
 . conv=>lhs;whnf
 . conv=>lhs;whnf
 . first | rfl | assumption
 . conv=>lhs;whnf
 . rfl
 . conv=>lhs;whnf;arg 1;whnf
 . first | exact zm _ _
 . first | exact ha
 . exact fun _=>rfl
 . exact fun _=>rfl
|apply zX rfl
 . conv=>lhs;whnf
 . conv=>lhs;whnf
 . first | rfl | assumption
|apply s_pr (clS al) (zR al) rfl
 . conv=>lhs;whnf
 . conv=>lhs;whnf
 . rfl
 . conv=>lhs;whnf;arg 1;whnf
 . first | exact zm _ _
 . first | exact hr
 . exact fun _=>rfl
 . first | (intro _ _;simp only [renL,renV,ren_cells];done) | exact fun _ _=>rfl
 refine fun ee hq => ?_
 change _=Out.die _
 rotate_left 1
 refine fun aa xx hq => ?_
 first | (replace hq:=zAD hq;obtain ⟨hq,rfl⟩:=hq) | (cases hq;have hq:=True.intro) | skip
|exact (K0 h0 ‹_›).elim
|refine zA ?_
|refine zB ?_
|refine zK ?_
|apply aw_1
 conv=>whnf
 refine ⟨?_,trivial⟩
|apply zQ rfl rfl
 . conv=>lhs;whnf
 . conv=>lhs;whnf
 . first | exact bF1 ‹_› | exact bF2 ‹_›
|apply s_1
 conv=>whnf;arg 1;arg 4;arg 3;whnf
 refine ⟨?_,?_⟩
|apply zF rfl
 . conv=>lhs;whnf
 . conv=>lhs;whnf
 . first | rfl | assumption
 . conv=>lhs;whnf;arg 2;whnf
|apply zC rfl
 . conv=>lhs;whnf
 . conv=>lhs;whnf
 . conv=>lhs;whnf;arg 2;whnf
|exact trivial
|intro hg)
     all_goals first
      |(cases hq;done)
      |exact out_err ‹_›
 rw [if_neg hL]
 rw [zIP,if_neg hL] at hr
 by_cases hk:(hdT z).k=2
 . rw [show ((hdT z).k==2)=true by rw [hk];rfl] at hm
   by_cases h0:acc.length=0
   . repeat' (first
|apply s_m (clS al) (zR al) rfl
 . conv=>lhs;whnf
 . conv=>lhs;whnf
 . rfl
 . conv=>lhs;whnf;arg 1;whnf
 . first | exact zm _ _
 . first | exact hm
 . exact fun _=>rfl
 . exact fun _=>rfl
|apply zX rfl
 . conv=>lhs;whnf
 . conv=>lhs;whnf
 . first | rfl | assumption
|apply s_pr (clS al) (zR al) rfl
 . conv=>lhs;whnf
 . conv=>lhs;whnf
 . rfl
 . conv=>lhs;whnf;arg 1;whnf
 . first | exact zm _ _
 . first | exact hr
 . exact fun _=>rfl
 . first | (intro _ _;simp only [renL,renV,ren_cells];done) | exact fun _ _=>rfl
 refine fun ee hq => ?_
 change _=Out.die _
 rotate_left 1
 refine fun aa xx hq => ?_
 first | (replace hq:=zAD hq;obtain ⟨hq,rfl⟩:=hq) | (cases hq;have hq:=True.intro) | skip
|exact (K2 h0 ‹_›).elim
|refine zA ?_
|refine zB ?_
|refine zK ?_
|apply aw_1
 conv=>whnf
 refine ⟨?_,trivial⟩
|apply zT rfl rfl
 . conv=>lhs;whnf
 . conv=>lhs;whnf
 . first | exact bT1 ‹_› | exact bT2 ‹_›
|apply s_1
 conv=>whnf;arg 1;arg 4;arg 3;whnf
 refine ⟨?_,?_⟩
|apply zC rfl
 . conv=>lhs;whnf
 . conv=>lhs;whnf
 . conv=>lhs;whnf;arg 2;whnf
|exact trivial
|intro hg)
     all_goals first
      |(cases hq;done)
      |skip
     refine zHA [pn 0,pn 1,pn 2,pn 3] rfl rfl (if_pos hent) hcl (by decide) hR.cv ?_ ?_ ?_
     . show [_,some (renR (φin [pn 0,pn 1,pn 2,pn 3]) (B acc)),_,some (renR (φin [pn 0,pn 1,pn 2,pn 3]) (T acc))]=_
       rw [hR.b,hR.t];rfl
     . intro ee hq
       show outK al B T (mnK (thenQ (el z) fun a y=>manyF el e most j (acc++[a]) y))=Out.die (zFE ee)
       unfold elK at hq
       cases hel:el z with
       |error e2=>rw [hel] at hq;injection hq with hq;rw [<- hq];rfl
       |ok p=>rw [hel] at hq;cases hq
     . rintro ⟨⟩ ⟨acc2,y⟩ hq
       obtain ⟨a,hel,rfl⟩ : ∃ a,el z = .ok (a,y)/\acc2=acc++[a]:=by
        unfold elK at hq
        cases hel:el z with
        |error e2=>rw [hel] at hq;cases hq
        |ok p=>obtain ⟨a,y2⟩:=p;rw [hel] at hq;cases hq;exact ⟨a,rfl,rfl⟩
       have hl:=hls hz hel
       repeat' (first
|refine zA ?_
|refine zB ?_
|refine zK ?_
|refine zP ?_
|apply s_1
 conv=>whnf;arg 1;arg 4;arg 3;whnf
 refine ⟨?_,?_⟩
|exact trivial)
       all_goals first
        |exact zS (by omega)
        |skip
       refine zH (j':=j) (by omega) ⟨y,acc++[a],hl.1,by omega,by rw [List.length_append];simp only [List.length_cons,List.length_nil];omega,by rw [hel];rfl,Sub.live ⟨rfl,rfl,rfl,rfl,?_,trivial⟩ ⟨rfl,congrArg some (hR.bo _),rfl,congrArg some (hR.to _),trivial⟩⟩
       show V.c (.int .i64 ((acc.length:Int)+1))=V.c (.int .i64 ((acc++[a]).length:Int))
       rw [List.length_append];rfl
   . have hs:isS z e=false:=by cases hs:isS z e with | false=>rfl | true=>exact (hE ⟨h0,hs⟩).elim
     have ha:=zDo hz hal hs
     repeat' (first
|apply s_m (clS al) (zR al) rfl
 . conv=>lhs;whnf
 . conv=>lhs;whnf
 . rfl
 . conv=>lhs;whnf;arg 1;whnf
 . first | exact zm _ _
 . first | exact ha | exact hm
 . exact fun _=>rfl
 . exact fun _=>rfl
|apply zAJ (clS al) (zR al) rfl
 . conv=>lhs;whnf
 . conv=>lhs;whnf
 . first | rfl | assumption
 . conv=>lhs;whnf
 . rfl
 . conv=>lhs;whnf;arg 1;whnf
 . first | exact zm _ _
 . first | exact ha | exact hm
 . exact fun _=>rfl
 . exact fun _=>rfl
|apply zX rfl
 . conv=>lhs;whnf
 . conv=>lhs;whnf
 . first | rfl | assumption
|apply s_pr (clS al) (zR al) rfl
 . conv=>lhs;whnf
 . conv=>lhs;whnf
 . rfl
 . conv=>lhs;whnf;arg 1;whnf
 . first | exact zm _ _
 . first | exact hr
 . exact fun _=>rfl
 . first | (intro _ _;simp only [renL,renV,ren_cells];done) | exact fun _ _=>rfl
 refine fun ee hq => ?_
 change _=Out.die _
 rotate_left 1
 refine fun aa xx hq => ?_
 first | (replace hq:=zAD hq;obtain ⟨hq,rfl⟩:=hq) | (cases hq;have hq:=True.intro) | skip
|exact (K0 h0 ‹_›).elim
|refine zA ?_
|refine zB ?_
|refine zK ?_
|apply aw_1
 conv=>whnf
 refine ⟨?_,trivial⟩
|apply zQ rfl rfl
 . conv=>lhs;whnf
 . conv=>lhs;whnf
 . first | exact bF1 ‹_› | exact bF2 ‹_›
|apply s_1
 conv=>whnf;arg 1;arg 4;arg 3;whnf
 refine ⟨?_,?_⟩
|apply zF rfl
 . conv=>lhs;whnf
 . conv=>lhs;whnf
 . first | rfl | assumption
 . conv=>lhs;whnf;arg 2;whnf
|apply zC rfl
 . conv=>lhs;whnf
 . conv=>lhs;whnf
 . conv=>lhs;whnf;arg 2;whnf
|exact trivial
|intro hg)
     all_goals first
      |(cases hq;done)
      |skip
     refine zHA [pn 0,pn 1,pn 2,pn 3] rfl rfl (if_pos hent) hcl (by decide) hR.cv ?_ ?_ ?_
     . show [_,some (renR (φin [pn 0,pn 1,pn 2,pn 3]) (B acc)),_,some (renR (φin [pn 0,pn 1,pn 2,pn 3]) (T acc))]=_
       rw [hR.b,hR.t];rfl
     . intro ee hq
       show outK al B T (mnK (thenQ (el z) fun a y=>manyF el e most j (acc++[a]) y))=Out.die (zFE ee)
       unfold elK at hq
       cases hel:el z with
       |error e2=>rw [hel] at hq;injection hq with hq;rw [<- hq];rfl
       |ok p=>rw [hel] at hq;cases hq
     . rintro ⟨⟩ ⟨acc2,y⟩ hq
       obtain ⟨a,hel,rfl⟩ : ∃ a,el z = .ok (a,y)/\acc2=acc++[a]:=by
        unfold elK at hq
        cases hel:el z with
        |error e2=>rw [hel] at hq;cases hq
        |ok p=>obtain ⟨a,y2⟩:=p;rw [hel] at hq;cases hq;exact ⟨a,rfl,rfl⟩
       have hl:=hls hz hel
       repeat' (first
|refine zA ?_
|refine zB ?_
|refine zK ?_
|refine zP ?_
|apply s_1
 conv=>whnf;arg 1;arg 4;arg 3;whnf
 refine ⟨?_,?_⟩
|exact trivial)
       all_goals first
        |exact zS (by omega)
        |skip
       refine zH (j':=j) (by omega) ⟨y,acc++[a],hl.1,by omega,by rw [List.length_append];simp only [List.length_cons,List.length_nil];omega,by rw [hel];rfl,Sub.live ⟨rfl,rfl,rfl,rfl,?_,trivial⟩ ⟨rfl,congrArg some (hR.bo _),rfl,congrArg some (hR.to _),trivial⟩⟩
       show V.c (.int .i64 ((acc.length:Int)+1))=V.c (.int .i64 ((acc++[a]).length:Int))
       rw [List.length_append];rfl
 . rw [show ((hdT z).k==2)=false by simpa using hk] at hm
   rw [hno z hk]
   by_cases h0:acc.length=0
   . repeat' (first
|apply s_m (clS al) (zR al) rfl
 . conv=>lhs;whnf
 . conv=>lhs;whnf
 . rfl
 . conv=>lhs;whnf;arg 1;whnf
 . first | exact zm _ _
 . first | exact hm
 . exact fun _=>rfl
 . exact fun _=>rfl
|apply zX rfl
 . conv=>lhs;whnf
 . conv=>lhs;whnf
 . first | rfl | assumption
|apply s_pr (clS al) (zR al) rfl
 . conv=>lhs;whnf
 . conv=>lhs;whnf
 . rfl
 . conv=>lhs;whnf;arg 1;whnf
 . first | exact zm _ _
 . first | exact hr
 . exact fun _=>rfl
 . first | (intro _ _;simp only [renL,renV,ren_cells];done) | exact fun _ _=>rfl
 refine fun ee hq => ?_
 change _=Out.die _
 rotate_left 1
 refine fun aa xx hq => ?_
 first | (replace hq:=zAD hq;obtain ⟨hq,rfl⟩:=hq) | (cases hq;have hq:=True.intro) | skip
|apply zB0 [pn 2] rfl
 . conv=>lhs;whnf
 . first | exact hf
 . decide
 . rfl
 . rfl
 change _=Out.die _
|exact (K2 h0 ‹_›).elim
|refine zA ?_
|refine zB ?_
|refine zK ?_
|apply aw_1
 conv=>whnf
 refine ⟨?_,trivial⟩
|apply zT rfl rfl
 . conv=>lhs;whnf
 . conv=>lhs;whnf
 . first | exact bT1 ‹_› | exact bT2 ‹_›
|apply s_1
 conv=>whnf;arg 1;arg 4;arg 3;whnf
 refine ⟨?_,?_⟩
|apply zC rfl
 . conv=>lhs;whnf
 . conv=>lhs;whnf
 . conv=>lhs;whnf;arg 2;whnf
|exact trivial
|intro hg)
     all_goals first | rfl | (cases hq;done)
   . have hs:isS z e=false:=by cases hs:isS z e with | false=>rfl | true=>exact (hE ⟨h0,hs⟩).elim
     have ha:=zDo hz hal hs
     repeat' (first
|apply s_m (clS al) (zR al) rfl
 . conv=>lhs;whnf
 . conv=>lhs;whnf
 . rfl
 . conv=>lhs;whnf;arg 1;whnf
 . first | exact zm _ _
 . first | exact ha | exact hm
 . exact fun _=>rfl
 . exact fun _=>rfl
|apply zAJ (clS al) (zR al) rfl
 . conv=>lhs;whnf
 . conv=>lhs;whnf
 . first | rfl | assumption
 . conv=>lhs;whnf
 . rfl
 . conv=>lhs;whnf;arg 1;whnf
 . first | exact zm _ _
 . first | exact ha | exact hm
 . exact fun _=>rfl
 . exact fun _=>rfl
|apply zX rfl
 . conv=>lhs;whnf
 . conv=>lhs;whnf
 . first | rfl | assumption
|apply s_pr (clS al) (zR al) rfl
 . conv=>lhs;whnf
 . conv=>lhs;whnf
 . rfl
 . conv=>lhs;whnf;arg 1;whnf
 . first | exact zm _ _
 . first | exact hr
 . exact fun _=>rfl
 . first | (intro _ _;simp only [renL,renV,ren_cells];done) | exact fun _ _=>rfl
 refine fun ee hq => ?_
 change _=Out.die _
 rotate_left 1
 refine fun aa xx hq => ?_
 first | (replace hq:=zAD hq;obtain ⟨hq,rfl⟩:=hq) | (cases hq;have hq:=True.intro) | skip
|apply zB0 [pn 2] rfl
 . conv=>lhs;whnf
 . first | exact hf
 . decide
 . rfl
 . rfl
 change _=Out.die _
|exact (K0 h0 ‹_›).elim
|refine zA ?_
|refine zB ?_
|refine zK ?_
|apply aw_1
 conv=>whnf
 refine ⟨?_,trivial⟩
|apply zQ rfl rfl
 . conv=>lhs;whnf
 . conv=>lhs;whnf
 . first | exact bF1 ‹_› | exact bF2 ‹_›
|apply s_1
 conv=>whnf;arg 1;arg 4;arg 3;whnf
 refine ⟨?_,?_⟩
|apply zF rfl
 . conv=>lhs;whnf
 . conv=>lhs;whnf
 . first | rfl | assumption
 . conv=>lhs;whnf;arg 2;whnf
|apply zC rfl
 . conv=>lhs;whnf
 . conv=>lhs;whnf
 . conv=>lhs;whnf;arg 2;whnf
|exact trivial
|intro hg)
     all_goals first | rfl | (cases hq;done)
theorem zAw {α β:Type} {al:List Tok} {toV:β->V} {i e:Nat × Int} (h:(Except.error i:PR α) = .error e):outS al toV (.error i:PR β)=Out.die (zFE e):=by
 injection h with h;rw [<- h];rfl
theorem outS_errK {β γ:Type} {al:List Tok} {toV:β->V} {i e:Nat × Int} {f:γ->PS->PR β} (h:mnK (.error i) = .error e):outS al toV (thenQ (.error i:PR γ) f)=Out.die (zFE e):=by
 unfold mnK at h
 injection h with h;rw [<- h];rfl
theorem mnK_no {p:List D × PS} {e:Nat × Int} (h:mnK (.ok p) = .error e):False:=by unfold mnK at h;cases h
theorem zLP {el:PS->PR D} {acc:List D} {x y:PS} {a:D} (h:el x = .ok (a,y)):elK el acc x = .ok ((),(acc++[a],y)):=by unfold elK;rw [h]
theorem zDY {el:PS->PR D} {acc:List D} {x:PS} {e:Nat × Int} (h:el x = .error e):elK el acc x = .error e:=by unfold elK;rw [h]
theorem ent_a:zBw Tryz.prog 175=true:=by kernel_rfl
def BdS (nm:List UInt8) (acc:List D):Res:=.box 108 [.c (.string (bs nm)),.own (pn 3) 111 acc]
def TdS (acc:List D):Res:=.tok 111 acc.length
theorem ren_d (nm:List UInt8):RenK [.bx (pn 0) 0,.bx (pn 1) 0] (BdS nm) TdS:=⟨rfl,fun _=>rfl,fun _=>rfl,fun _=>rfl,fun _=>rfl⟩
section
variable {j:Nat} {x y z u:PS} {n:List UInt8} {e:Nat × Int} {t d:D} {q1 q2:Unit}
theorem ar_1 (h1:nameQ x = .error e):argQ x = .error e:=by rw [argQ,zn h1]
theorem ar_2 (h1:nameQ x = .ok (n,y)) (h2:takeQ [58] y = .error e):argQ x = .error e:=by rw [argQ,zY h1,zn h2]
theorem ar_3 (h1:nameQ x = .ok (n,y)) (h2:takeQ [58] y = .ok (q1,z)) (h3:zAT z = .error e):argQ x = .error e:=by rw [argQ,zY h1,zY h2,zn h3]
theorem ar_4 (h1:nameQ x = .ok (n,y)) (h2:takeQ [58] y = .ok (q1,z)) (h3:zAT z = .ok (d,u)):argQ x = .ok (argD n d,u):=by rw [argQ,zY h1,zY h2,zY h3]
end
theorem zEz (x:PS):argsQ x=if isS x [40]=true then manyF argQ [41] 16 x.ts.length [] (nxT x) else .ok ([],x):=by
 unfold argsQ
 rw [zCV]
theorem arg_no {x:PS} (h:(hdT x).k≠2):argQ x = .error ((hdT x).i,3):=by rw [argQ,nameQ,if_neg h];rfl
section
variable {al:List Tok} (hal:al.length<=100000) (hkd:Kd al)
include hal hkd
theorem p_arg (nm:List UInt8):CK al (BdS nm) TdS 175 [.bx (pn 0) 0,.bx (pn 1) 0] argQ:=by
 intro acc x h hacc
 have hnm:=zDn h hal
 have hex : ∀ {n y},nameQ x = .ok (n,y)->ACE EN5 Tryz.prog 119 [.bx (pn 0) 0,.c (.string (bs [58]))] [boxS al y] (outS al (fun _ => .tup []) (takeQ [58] y)):=fun h1=>zBE (h.name h1).1 hal [58]
 have hli : ∀ {n y u z},nameQ x = .ok (n,y)->takeQ [58] y = .ok (u,z)->ACE EN5 Tryz.prog 176 [.bx (pn 0) 0] [boxS al z] (outS al VV (zAT z)):=fun h1 h2=>zIZ hal hkd ((h.name h1).1.take h2).1
 refine zk (fn:=Tryz.f175) 17 Tryz.func175 rfl rfl ?_
 intro pas w0 w he hp
 repeat' (first
|apply s_pr (clS al) (zR al) rfl
 . conv=>lhs;whnf
 . conv=>lhs;whnf
 . rfl
 . conv=>lhs;whnf;arg 1;whnf
 . first | exact zm _ _
 . first | exact hnm | exact hex ‹_› | exact hli ‹_› ‹_›
 . exact fun _=>rfl
 . first | (intro _ _;simp only [renL,renV,ren_cells];done) | exact fun _ _=>rfl
 refine fun ee hq => ?_
 change _=Out.die _
 rotate_left 1
 refine fun aa xx hq => ?_
 first | (replace hq:=zAD hq;obtain ⟨hq,rfl⟩:=hq) | (cases hq;have hq:=True.intro) | skip
|apply zFI [argD _ _] rfl rfl
 . conv=>lhs;whnf
 . first | exact elemArg | (conv=>lhs;whnf;arg 1;whnf)
 . rfl
 . rfl
 . repeat' (first | exact trivial | apply And.intro | rfl)
|refine zA ?_
|refine zB ?_
|refine zK ?_
|apply aw_1
 conv=>whnf
 refine ⟨?_,trivial⟩
|apply s_1
 conv=>whnf;arg 1;arg 4;arg 3;whnf
 refine ⟨?_,?_⟩
|apply zV rfl rfl rfl
 . conv=>lhs;whnf
 . conv=>lhs;whnf;arg 1;whnf
 . conv=>lhs;whnf;arg 1;whnf
 . exact ⟨by kernel_rfl,by kernel_rfl⟩
 . rfl
|apply zEW rfl rfl
 . conv=>lhs;whnf
 . first | exact elemArg | (conv=>lhs;whnf;arg 1;whnf)
 . first | exact fun _=>rfl | (intro _;kernel_rfl)
 . conv=>lhs;whnf
 . conv=>lhs;whnf;arg 1;whnf
 . conv=>lhs;whnf
|apply zCt rfl
|exact trivial)
 all_goals first
  |(refine ⟨by simp,?_,?_⟩<;>simp only [List.length_cons,List.length_nil,maxLen]<;>omega)
  |(rw [zDY (ar_1 ‹_›)];rfl)
  |(rw [zDY (ar_2 ‹_› ‹_›)];rfl)
  |(rw [zDY (ar_3 ‹_› ‹_› ‹_›)];rfl)
  |skip
 rename_i n y h1 u z h2
 refine ⟨bsK al (BdS nm) TdS (acc++[argD n aa]) xx,by rw [zLP (ar_4 h1 h2 hq)];rfl,rfl,rfl,rfl,?_,trivial⟩
 show some (Res.tok _ (acc.length+1))=some (Res.tok _ (acc++[argD n aa]).length)
 rw [List.length_append];rfl
noncomputable def HxS (al:List Tok) (z:PS) (acc:List D):Vst 32:=
 stS 32 [(1,.bx 1 0),(3,.own 3 108 acc)] [(pn 0,boxS al z),(1,.box 62 [.bx (pn 0) 0]),(3,.tok 108 acc.length)]
noncomputable def HxB (al:List Tok) (z:PS) (acc:List D) (n:List UInt8):Vst 32:=
 stS 32 [(1,.bx 1 0),(3,.own 3 108 acc),(4,.bx 4 0)] [(pn 0,boxS al z),(1,.box 62 [.bx (pn 0) 0]),(3,.tok 108 acc.length),(4,.box 108 [.c (.string (bs n)),.own 904 111 []]),(904,.tok 111 0)]
noncomputable def HxD (al:List Tok) (z:PS) (acc:List D) (n:List UInt8) (aa:List D):Vst 32:=
 stS 32 [(1,.bx 1 0),(3,.own 3 108 acc),(4,.bx 4 0)] [(pn 0,boxS al z),(1,.box 62 [.bx (pn 0) 0]),(3,.tok 108 acc.length),(4,.box 108 [.c (.string (bs n)),.sl 111 aa])]
theorem zGQ {x:PS} (h:Sx al x):ACE EN5 Tryz.prog 118 [.bx (pn 0) 0] [boxS al x] (outS al (fun l => .sl 108 l) (dirsQ x)):=by
 have e0:dirsQ x=dirsF (x.ts.length+1) [] x:=rfl
 have hxl:=h.len
 rw [e0]
 refine zk (fn:=Tryz.f118) 32 Tryz.func118 rfl rfl ?_
 intro pas w0 w he hp
 repeat' (first
|refine zA ?_
|refine zB ?_
|refine zK ?_
|apply aw_1
 conv=>whnf
 refine ⟨?_,trivial⟩
|apply s_1
 conv=>whnf;arg 1;arg 4;arg 3;whnf
 refine ⟨?_,?_⟩
|apply zAA rfl rfl rfl rfl
 . conv=>lhs;whnf;arg 1;whnf
 . rfl
|exact trivial)
 refine zi (Sub.own (t:=3) (e:=108) rfl rfl) ?_
 refine za (fun j st => ∃ z acc,Sx al z/\z.ts.length<j/\acc.length+z.ts.length<=x.ts.length/\dirsF (x.ts.length+1) [] x=dirsF j acc z/\Sub (cxE EN5 Tryz.prog pas w0 w he hp (outS al (fun l=>V.sl 108 l) (dirsF (x.ts.length+1) [] x))) st (HxS al z acc)) (x.ts.length+1) ⟨x,[],h,by omega,by simp,rfl,?_⟩ ?_
 . exact Sub.live ⟨rfl,rfl,trivial⟩ ⟨rfl,rfl,rfl,trivial⟩
 rintro j st ⟨z,acc,hz,hzj,hzl,hI,hsub⟩
 refine zi hsub ?_
 clear hsub
 rw [hI]
 clear hI
 cases j with
 |zero=>omega
 |succ j =>
 have hi:=p_is hz hal [64]
 have hf:=zCp hz hal 4
 by_cases hs:isS z [64]=true
 rotate_left 1
 . have hs:isS z [64]=false:=by simpa using hs
   rw [hs] at hi
   rw [dl_end hs]
   repeat' (first
|apply s_m (clS al) (zR al) rfl
 . conv=>lhs;whnf
 . conv=>lhs;whnf
 . rfl
 . conv=>lhs;whnf;arg 1;whnf
 . first | exact zm _ _
 . first | exact hi
 . exact fun _=>rfl
 . exact fun _=>rfl
|refine zA ?_
|refine zB ?_
|refine zK ?_
|apply aw_1
 conv=>whnf
 refine ⟨?_,trivial⟩
|apply s_1
 conv=>whnf;arg 1;arg 4;arg 3;whnf
 refine ⟨?_,?_⟩
|refine zL ?_
|refine zJ rfl ?_
|refine zI ?_
|apply zAV rfl
 . conv=>lhs;whnf;arg 2;whnf
 . conv=>lhs;whnf;arg 1;whnf
|exact trivial)
   rfl
 rw [hs] at hi
 by_cases hlm:16<=acc.length
 . have K:decide ((acc.length:Int)>=16)=false->False:=fun h=>by simp at h;omega
   rw [dl_lim hs hlm]
   repeat' (first
|apply s_m (clS al) (zR al) rfl
 . conv=>lhs;whnf
 . conv=>lhs;whnf
 . rfl
 . conv=>lhs;whnf;arg 1;whnf
 . first | exact zm _ _
 . first | exact hi
 . exact fun _=>rfl
 . exact fun _=>rfl
|apply zB0 [pn 0] rfl
 . conv=>lhs;whnf
 . first | exact hf
 . decide
 . rfl
 . rfl
 change _=Out.die _
|exact (K ‹_›).elim
|refine zA ?_
|refine zB ?_
|refine zK ?_
|apply aw_1
 conv=>whnf
 refine ⟨?_,trivial⟩
|apply s_1
 conv=>whnf;arg 1;arg 4;arg 3;whnf
 refine ⟨?_,?_⟩
|refine zZ (by conv=>lhs;whnf) ?_ ?_<;>intro hb
|exact trivial)
   rfl
 have K:decide ((acc.length:Int)>=16)=true->False:=fun h=>by simp at h;omega
 have h1:=hz.sg hs
 have hk5:(hdT z).k≠5:=by unfold isS at hs;simp only [Bool.and_eq_true,beq_iff_eq] at hs;rw [hs.1];decide
 have hyc:=etaS1 hz hk5
 have hal2:=hz.len
 have hnm:=zDn h1.1 hal
 rcases hN:nameQ (nxT z) with e1 | ⟨n,y⟩
 . rw [dl_nm hs (by omega) hN]
   rw [hN] at hnm
   repeat' (first
|apply s_m (clS al) (zR al) rfl
 . conv=>lhs;whnf
 . conv=>lhs;whnf
 . rfl
 . conv=>lhs;whnf;arg 1;whnf
 . first | exact zm _ _
 . first | exact hi
 . exact fun _=>rfl
 . exact fun _=>rfl
|apply s_pr (clS al) (zR al) rfl
 . conv=>lhs;whnf
 . conv=>lhs;whnf
 . rfl
 . conv=>lhs;whnf;arg 1;whnf
 . first | exact zm _ _
 . first | exact hnm
 . exact fun _=>rfl
 . first | (intro _ _;simp only [renL,renV,ren_cells];done) | exact fun _ _=>rfl
 refine fun ee hq => ?_
 change _=Out.die _
 rotate_left 1
 refine fun aa xx hq => ?_
 first | (replace hq:=zAD hq;obtain ⟨hq,rfl⟩:=hq) | (cases hq;have hq:=True.intro) | skip
|exact (K ‹_›).elim
|apply zv 6 (HxS al (nxT z) acc) rfl
|refine zB3 ?_
|refine zA ?_
|refine zB ?_
|refine zK ?_
|apply aw_1
 conv=>whnf
 refine ⟨?_,trivial⟩
|apply s_1
 conv=>whnf;arg 1;arg 4;arg 3;whnf
 refine ⟨?_,?_⟩
|apply zV rfl rfl rfl
 . conv=>lhs;whnf
 . conv=>lhs;whnf;arg 1;whnf
 . conv=>lhs;whnf;arg 1;whnf
 . exact ⟨by kernel_rfl,by kernel_rfl⟩
 . rfl
|refine zZ (by conv=>lhs;whnf) ?_ ?_<;>intro hb
|exact trivial)
   all_goals first
    |exact zS (by omega)
    |exact Sub.live ⟨rfl,rfl,trivial⟩ ⟨congrArg (fun c=>some (Res.box _ c)) hyc,rfl,rfl,trivial⟩
    |exact zAw ‹_›
 have hN1:=h1.1.name hN
 rw [hN] at hnm
 have hgo:dirsF (j+1) acc z=thenQ (argsQ y) fun aa u=>dirsF j (acc++[dirD n aa]) u:=by rw [dirsF,if_pos hs,if_neg (by omega),zY hN]
 rw [hgo]
 have hac:=p_acc hN1.1 hal [40]
 by_cases hp4:isS y [40]=true
 . have h4:=hN1.1.sg hp4
   rw [if_pos hp4,hp4] at hac
   have hbk:=zHK hal ent_a (ren_d n) (p_arg hal hkd n) (fun x h=>arg_no h) (fun h hq=>h.arg hq) [41] 16 y.ts.length h4.1 (by omega)
   rw [zEz,if_pos hp4]
   rcases hM:manyF argQ [41] 16 y.ts.length [] (nxT y) with e1 | ⟨aa,u⟩
   . rw [hM] at hbk
     repeat' (first
|apply s_m (clS al) (zR al) rfl
 . conv=>lhs;whnf
 . conv=>lhs;whnf
 . rfl
 . conv=>lhs;whnf;arg 1;whnf
 . first | exact zm _ _
 . first | exact hi | exact hac
 . exact fun _=>rfl
 . exact fun _=>rfl
|apply s_pr (clS al) (zR al) rfl
 . conv=>lhs;whnf
 . conv=>lhs;whnf
 . rfl
 . conv=>lhs;whnf;arg 1;whnf
 . first | exact zm _ _
 . first | exact hnm
 . exact fun _=>rfl
 . first | (intro _ _;simp only [renL,renV,ren_cells];done) | exact fun _ _=>rfl
 refine fun ee hq => ?_
 change _=Out.die _
 rotate_left 1
 refine fun aa xx hq => ?_
 first | (replace hq:=zAD hq;obtain ⟨hq,rfl⟩:=hq) | (cases hq;have hq:=True.intro) | skip
|apply zHA [1,4,pn 0,904] rfl
 . conv=>lhs;whnf
 . conv=>lhs;whnf
 . first | exact hbk
 . decide
 . rfl
 . rfl
 refine fun ee hq => ?_
 change _=Out.die _
 rotate_left 1
 refine fun aa xx hq => ?_
 first | (cases hq;have hq:=True.intro) | skip
|exact (K ‹_›).elim
|apply zv 6 (HxS al (nxT z) acc) rfl
|apply zv 7 (HxB al y acc n) rfl
|refine zB3 ?_
|refine zA ?_
|refine zB ?_
|refine zK ?_
|apply aw_1
 conv=>whnf
 refine ⟨?_,trivial⟩
|apply s_1
 conv=>whnf;arg 1;arg 4;arg 3;whnf
 refine ⟨?_,?_⟩
|apply zV rfl rfl rfl
 . conv=>lhs;whnf
 . conv=>lhs;whnf;arg 1;whnf
 . conv=>lhs;whnf;arg 1;whnf
 . exact ⟨by kernel_rfl,by kernel_rfl⟩
 . rfl
|refine zZ (by conv=>lhs;whnf) ?_ ?_<;>intro hb
|exact trivial)
     all_goals first
      |exact zS (by omega)
      |exact Sub.live ⟨rfl,rfl,trivial⟩ ⟨congrArg (fun c=>some (Res.box _ c)) hyc,rfl,rfl,trivial⟩
      |exact zAw ‹_›
      |exact (Sub.ownF (m:=4) (q:=904) (i:=1) (e:=111) rfl (by decide) rfl rfl rfl).trans (Sub.live ⟨rfl,rfl,rfl,trivial⟩ ⟨rfl,rfl,rfl,rfl,rfl,trivial⟩)
      |(cases hq;done)
      |exact outS_errK ‹_›
   rw [hM] at hbk
   repeat' (first
|apply s_m (clS al) (zR al) rfl
 . conv=>lhs;whnf
 . conv=>lhs;whnf
 . rfl
 . conv=>lhs;whnf;arg 1;whnf
 . first | exact zm _ _
 . first | exact hi | exact hac
 . exact fun _=>rfl
 . exact fun _=>rfl
|apply s_pr (clS al) (zR al) rfl
 . conv=>lhs;whnf
 . conv=>lhs;whnf
 . rfl
 . conv=>lhs;whnf;arg 1;whnf
 . first | exact zm _ _
 . first | exact hnm
 . exact fun _=>rfl
 . first | (intro _ _;simp only [renL,renV,ren_cells];done) | exact fun _ _=>rfl
 refine fun ee hq => ?_
 change _=Out.die _
 rotate_left 1
 refine fun aa xx hq => ?_
 first | (replace hq:=zAD hq;obtain ⟨hq,rfl⟩:=hq) | (cases hq;have hq:=True.intro) | skip
|apply zHA [1,4,pn 0,904] rfl
 . conv=>lhs;whnf
 . conv=>lhs;whnf
 . first | exact hbk
 . decide
 . rfl
 . rfl
 refine fun ee hq => ?_
 change _=Out.die _
 rotate_left 1
 refine fun aa xx hq => ?_
 first | (cases hq;have hq:=True.intro) | skip
|apply zFI [dirD n aa] rfl rfl
 . conv=>lhs;whnf
 . first | exact zHl | (conv=>lhs;whnf;arg 1;whnf)
 . rfl
 . rfl
 . repeat' (first | exact trivial | apply And.intro | rfl)
|exact (K ‹_›).elim
|apply zv 6 (HxS al (nxT z) acc) rfl
|apply zv 7 (HxB al y acc n) rfl
|apply zv 9 (HxD al u acc n aa) rfl
|refine zB3 ?_
|refine zA ?_
|refine zB ?_
|refine zK ?_
|refine zP ?_
|apply aw_1
 conv=>whnf
 refine ⟨?_,trivial⟩
|apply s_1
 conv=>whnf;arg 1;arg 4;arg 3;whnf
 refine ⟨?_,?_⟩
|apply zV rfl rfl rfl
 . conv=>lhs;whnf
 . conv=>lhs;whnf;arg 1;whnf
 . conv=>lhs;whnf;arg 1;whnf
 . exact ⟨by kernel_rfl,by kernel_rfl⟩
 . rfl
|apply zEW rfl rfl
 . conv=>lhs;whnf
 . first | exact zHl | (conv=>lhs;whnf;arg 1;whnf)
 . first | exact fun _=>rfl | (intro _;kernel_rfl)
 . conv=>lhs;whnf
 . conv=>lhs;whnf;arg 1;whnf
 . conv=>lhs;whnf
|refine zZ (by conv=>lhs;whnf) ?_ ?_<;>intro hb
|exact trivial)
   all_goals first
    |exact zS (by omega)
    |exact Sub.live ⟨rfl,rfl,trivial⟩ ⟨congrArg (fun c=>some (Res.box _ c)) hyc,rfl,rfl,trivial⟩
    |exact (Sub.ownF (m:=4) (q:=904) (i:=1) (e:=111) rfl (by decide) rfl rfl rfl).trans (Sub.live ⟨rfl,rfl,rfl,trivial⟩ ⟨rfl,rfl,rfl,rfl,rfl,trivial⟩)
    |(refine ⟨by simp,?_,?_⟩<;>simp only [List.length_cons,List.length_nil,maxLen]<;>omega)
    |(cases hq;done)
    |exact (mnK_no hq).elim
    |exact (Sub.boxle (m:=4) (t:=108) (vs:=[.c (.string (bs n)),.own 904 111 aa]) (vs':=[.c (.string (bs n)),.sl 111 aa]) rfl (.cons (.refl _) (.cons (.own _ _ _) .nil))).trans (Sub.live ⟨rfl,rfl,rfl,trivial⟩ ⟨rfl,rfl,rfl,rfl,trivial⟩)
    |skip
   have hA:argsQ y = .ok (aa,u):=by rw [zEz,if_pos hp4,hM]
   have hA1:=hN1.1.args hA
   refine zH (j':=j) (by omega) ⟨u,acc++[dirD n aa],hA1.1,by omega,by rw [List.length_append];simp only [List.length_cons,List.length_nil];omega,rfl,Sub.live ⟨rfl,rfl,trivial⟩ ⟨rfl,rfl,?_,trivial⟩⟩
   show some (Res.tok _ (acc.length+1))=some (Res.tok _ (acc++[dirD n aa]).length)
   rw [List.length_append];rfl
 . have hp4:isS y [40]=false:=by simpa using hp4
   rw [if_neg (by rw [hp4];decide),hp4] at hac
   rw [zEz,if_neg (by rw [hp4];decide)]
   repeat' (first
|apply s_m (clS al) (zR al) rfl
 . conv=>lhs;whnf
 . conv=>lhs;whnf
 . rfl
 . conv=>lhs;whnf;arg 1;whnf
 . first | exact zm _ _
 . first | exact hi | exact hac
 . exact fun _=>rfl
 . exact fun _=>rfl
|apply s_pr (clS al) (zR al) rfl
 . conv=>lhs;whnf
 . conv=>lhs;whnf
 . rfl
 . conv=>lhs;whnf;arg 1;whnf
 . first | exact zm _ _
 . first | exact hnm
 . exact fun _=>rfl
 . first | (intro _ _;simp only [renL,renV,ren_cells];done) | exact fun _ _=>rfl
 refine fun ee hq => ?_
 change _=Out.die _
 rotate_left 1
 refine fun aa xx hq => ?_
 first | (replace hq:=zAD hq;obtain ⟨hq,rfl⟩:=hq) | (cases hq;have hq:=True.intro) | skip
|apply zFI [dirD n []] rfl rfl
 . conv=>lhs;whnf
 . first | exact zHl | (conv=>lhs;whnf;arg 1;whnf)
 . rfl
 . rfl
 . repeat' (first | exact trivial | apply And.intro | rfl)
|exact (K ‹_›).elim
|apply zv 6 (HxS al (nxT z) acc) rfl
|apply zv 7 (HxB al y acc n) rfl
|apply zv 9 (HxD al y acc n []) rfl
|refine zB3 ?_
|refine zA ?_
|refine zB ?_
|refine zK ?_
|refine zP ?_
|apply aw_1
 conv=>whnf
 refine ⟨?_,trivial⟩
|apply s_1
 conv=>whnf;arg 1;arg 4;arg 3;whnf
 refine ⟨?_,?_⟩
|apply zV rfl rfl rfl
 . conv=>lhs;whnf
 . conv=>lhs;whnf;arg 1;whnf
 . conv=>lhs;whnf;arg 1;whnf
 . exact ⟨by kernel_rfl,by kernel_rfl⟩
 . rfl
|apply zEW rfl rfl
 . conv=>lhs;whnf
 . first | exact zHl | (conv=>lhs;whnf;arg 1;whnf)
 . first | exact fun _=>rfl | (intro _;kernel_rfl)
 . conv=>lhs;whnf
 . conv=>lhs;whnf;arg 1;whnf
 . conv=>lhs;whnf
|refine zZ (by conv=>lhs;whnf) ?_ ?_<;>intro hb
|exact trivial)
   all_goals first
    |exact zS (by omega)
    |exact Sub.live ⟨rfl,rfl,trivial⟩ ⟨congrArg (fun c=>some (Res.box _ c)) hyc,rfl,rfl,trivial⟩
    |exact (Sub.ownF (m:=4) (q:=904) (i:=1) (e:=111) rfl (by decide) rfl rfl rfl).trans (Sub.live ⟨rfl,rfl,rfl,trivial⟩ ⟨rfl,rfl,rfl,rfl,rfl,trivial⟩)
    |(refine ⟨by simp,?_,?_⟩<;>simp only [List.length_cons,List.length_nil,maxLen]<;>omega)
    |(cases hq;done)
    |exact (mnK_no hq).elim
    |exact (Sub.boxle (m:=4) (t:=108) (vs:=[.c (.string (bs n)),.own 904 111 []]) (vs':=[.c (.string (bs n)),.sl 111 []]) rfl (.cons (.refl _) (.cons (.own _ _ _) .nil))).trans (Sub.live ⟨rfl,rfl,rfl,trivial⟩ ⟨rfl,rfl,rfl,rfl,trivial⟩)
    |skip
   have hA:argsQ y = .ok ([],y):=by rw [zEz,if_neg (by rw [hp4];decide)]
   have hA1:=hN1.1.args hA
   refine zH (j':=j) (by omega) ⟨y,acc++[dirD n []],hA1.1,by omega,by rw [List.length_append];simp only [List.length_cons,List.length_nil];omega,rfl,Sub.live ⟨rfl,rfl,trivial⟩ ⟨rfl,rfl,?_,trivial⟩⟩
   show some (Res.tok _ (acc.length+1))=some (Res.tok _ (acc++[dirD n []]).length)
   rw [List.length_append];rfl
end
end
section
open Go.RowKit
def eqX (x:PS):PS:=if isS x [61]=true then nxT x else x
def pqX (x:PS):PS:=if isS x [40]=true then nxT x else x
section
variable {x y z u v o w:PS} {n:List UInt8} {e:Nat × Int} {t d:D} {l aa:List D} {q1 q2:Unit}
theorem in_1 (h1:nameQ x = .error e):inQ x = .error e:=by rw [inQ,zn h1]
theorem in_2 (h1:nameQ x = .ok (n,y)) (h2:takeQ [58] y = .error e):inQ x = .error e:=by rw [inQ,zY h1,zn h2]
theorem in_3 (h1:nameQ x = .ok (n,y)) (h2:takeQ [58] y = .ok (q1,z)) (h3:typQ z = .error e):inQ x = .error e:=by rw [inQ,zY h1,zY h2,zn h3]
theorem in_4 (h1:nameQ x = .ok (n,y)) (h2:takeQ [58] y = .ok (q1,z)) (h3:typQ z = .ok (t,u)) (h4:isS u [61]=true) (h5:zAT (eqX u) = .error e):inQ x = .error e:=by
 rw [eqX,if_pos h4] at h5
 rw [inQ,zY h1,zY h2,zY h3,if_pos h4,zn h5];rfl
theorem in_5 (h1:nameQ x = .ok (n,y)) (h2:takeQ [58] y = .ok (q1,z)) (h3:typQ z = .ok (t,u)) (h4:isS u [61]=true) (h5:zAT (eqX u) = .ok (d,o)) (h6:dirsQ o = .error e):inQ x = .error e:=by
 rw [eqX,if_pos h4] at h5
 rw [inQ,zY h1,zY h2,zY h3,if_pos h4,zY h5,zY (r:=.ok ((true,d),o)) rfl,zn h6]
theorem in_6 (h1:nameQ x = .ok (n,y)) (h2:takeQ [58] y = .ok (q1,z)) (h3:typQ z = .ok (t,u)) (h4:isS u [61]=true) (h5:zAT (eqX u) = .ok (d,o)) (h6:dirsQ o = .ok (l,w)):inQ x = .ok (sInD n t true d l,w):=by
 rw [eqX,if_pos h4] at h5
 rw [inQ,zY h1,zY h2,zY h3,if_pos h4,zY h5,zY (r:=.ok ((true,d),o)) rfl,zY h6]
theorem eqX_f (h4:isS u [61]=false):eqX u=u:=by rw [eqX,if_neg (by rw [h4];decide)]
theorem in_7 (h1:nameQ x = .ok (n,y)) (h2:takeQ [58] y = .ok (q1,z)) (h3:typQ z = .ok (t,u)) (h4:isS u [61]=false) (h6:dirsQ (eqX u) = .error e):inQ x = .error e:=by
 rw [eqX_f h4] at h6
 rw [inQ,zY h1,zY h2,zY h3,if_neg (by rw [h4];decide),zY (r:=.ok ((false,zDK),u)) rfl,zn h6]
theorem in_8 (h1:nameQ x = .ok (n,y)) (h2:takeQ [58] y = .ok (q1,z)) (h3:typQ z = .ok (t,u)) (h4:isS u [61]=false) (h6:dirsQ (eqX u) = .ok (l,w)):inQ x = .ok (sInD n t false zDK l,w):=by
 rw [eqX_f h4] at h6
 rw [inQ,zY h1,zY h2,zY h3,if_neg (by rw [h4];decide),zY (r:=.ok ((false,zDK),u)) rfl,zY h6]
theorem pqX_f (h4:isS u [40]=false):pqX u=u:=by rw [pqX,if_neg (by rw [h4];decide)]
theorem fi_1 (h1:nameQ x = .error e):fdQ x = .error e:=by rw [fdQ,zn h1]
theorem fi_2 (h1:nameQ x = .ok (n,y)) (h2:isS y [40]=true) (h3:insQ [41] (pqX y) = .error e):fdQ x = .error e:=by
 rw [pqX,if_pos h2] at h3
 rw [fdQ,zY h1,if_pos h2,zn h3]
def fdT (n:List UInt8) (aa:List D) (z:PS):PR D:=thenQ (takeQ [58] z) fun _ u=>thenQ (typQ u) fun t v=>thenQ (dirsQ v) fun ds w => .ok (sFdD n aa t ds,w)
theorem fi_3 (h1:nameQ x = .ok (n,y)) (h2:isS y [40]=true) (h3:insQ [41] (pqX y) = .ok (aa,z)):fdQ x=fdT n aa z:=by
 rw [pqX,if_pos h2] at h3
 rw [fdQ,zY h1,if_pos h2,zY h3];rfl
theorem fi_4 (h1:nameQ x = .ok (n,y)) (h2:isS y [40]=false):fdQ x=fdT n [] (pqX y):=by
 rw [pqX_f h2,fdQ,zY h1,if_neg (by rw [h2];decide),zY (r:=.ok ([],y)) rfl];rfl
theorem ft_1 (h1:takeQ [58] z = .error e):fdT n aa z = .error e:=by rw [fdT,zn h1]
theorem ft_2 (h1:takeQ [58] z = .ok (q1,u)) (h2:typQ u = .error e):fdT n aa z = .error e:=by rw [fdT,zY h1,zn h2]
theorem ft_3 (h1:takeQ [58] z = .ok (q1,u)) (h2:typQ u = .ok (t,v)) (h3:dirsQ v = .error e):fdT n aa z = .error e:=by rw [fdT,zY h1,zY h2,zn h3]
theorem ft_4 (h1:takeQ [58] z = .ok (q1,u)) (h2:typQ u = .ok (t,v)) (h3:dirsQ v = .ok (l,w)):fdT n aa z = .ok (sFdD n aa t l,w):=by rw [fdT,zY h1,zY h2,zY h3]
end
theorem Sx.eqX {al:List Tok} {x:PS} (h:Sx al x):Sx al (eqX x)/\(Proofs.YthppafnlnnpciaaGreatDoor.eqX x).ts.length<=x.ts.length:=by
 unfold Proofs.YthppafnlnnpciaaGreatDoor.eqX
 split
 . rename_i hs;have:=h.sg hs;exact ⟨this.1,by omega⟩
 . exact ⟨h,Nat.le_refl _⟩
theorem Sx.pqX {al:List Tok} {x:PS} (h:Sx al x):Sx al (pqX x)/\(Proofs.YthppafnlnnpciaaGreatDoor.pqX x).ts.length<=x.ts.length:=by
 unfold Proofs.YthppafnlnnpciaaGreatDoor.pqX
 split
 . rename_i hs;have:=h.sg hs;exact ⟨this.1,by omega⟩
 . exact ⟨h,Nat.le_refl _⟩
attribute [local irreducible] wpList Calls Code.wp AW AWo OpOk seqK zq zt loopK endK AC zg Yld Sub
attribute [local irreducible] ACB ACX ACE absLexG YldG absLexU YldU
noncomputable def VIn (d:D):V:=.agg (cellsV Tryz.prog 12 55 d)
noncomputable def VFd (d:D):V:=.agg (cellsV Tryz.prog 12 50 d)
section
variable {al:List Tok} (hal:al.length<=100000) (hkd:Kd al)
include hal hkd
theorem p_input {x:PS} (h:Sx al x):ACE EN5 Tryz.prog 178 [.bx (pn 0) 0] [boxS al x] (outS al VIn (inQ x)):=by
 have hnm:=zDn h hal
 have hex : ∀ {n y},nameQ x = .ok (n,y)->ACE EN5 Tryz.prog 119 [.bx (pn 0) 0,.c (.string (bs [58]))] [boxS al y] (outS al (fun _ => .tup []) (takeQ [58] y)):=fun h1=>zBE (h.name h1).1 hal [58]
 have hty : ∀ {n y u z},nameQ x = .ok (n,y)->takeQ [58] y = .ok (u,z)->ACE EN5 Tryz.prog 179 [.bx (pn 0) 0] [boxS al z] (outS al (fun d => .agg (cellsV Tryz.prog 12 48 d)) (typQ z)):=fun h1 h2=>p_ref ((h.name h1).1.take h2).1 hal
 have E3 : ∀ {n y u z t v},nameQ x = .ok (n,y)->takeQ [58] y = .ok (u,z)->typQ z = .ok (t,v)->Sx al v:=fun h1 h2 h3=>(((h.name h1).1.take h2).1.typ h3).1
 have hac : ∀ {n y u z t v},nameQ x = .ok (n,y)->takeQ [58] y = .ok (u,z)->typQ z = .ok (t,v)->ACB EN5 Tryz.prog 173 [.bx (pn 0) 0,.c (.string (bs [61]))] [boxS al v] (.c (.bool (isS v [61]))) [boxS al (eqX v)]:=fun h1 h2 h3=>p_acc (E3 h1 h2 h3) hal [61]
 have hli : ∀ {n y u z t v},nameQ x = .ok (n,y)->takeQ [58] y = .ok (u,z)->typQ z = .ok (t,v)->ACE EN5 Tryz.prog 176 [.bx (pn 0) 0] [boxS al (eqX v)] (outS al VV (zAT (eqX v))):=fun h1 h2 h3=>zIZ hal hkd (E3 h1 h2 h3).eqX.1
 have hd1 : ∀ {n y u z t v d o},nameQ x = .ok (n,y)->takeQ [58] y = .ok (u,z)->typQ z = .ok (t,v)->zAT (eqX v) = .ok (d,o)->ACE EN5 Tryz.prog 118 [.bx (pn 0) 0] [boxS al o] (outS al (fun l => .sl 108 l) (dirsQ o)):=fun h1 h2 h3 h4=>zGQ hal hkd ((E3 h1 h2 h3).eqX.1.whole h4).1
 have hd2 : ∀ {n y u z t v},nameQ x = .ok (n,y)->takeQ [58] y = .ok (u,z)->typQ z = .ok (t,v)->ACE EN5 Tryz.prog 118 [.bx (pn 0) 0] [boxS al (eqX v)] (outS al (fun l => .sl 108 l) (dirsQ (eqX v))):=fun h1 h2 h3=>zGQ hal hkd (E3 h1 h2 h3).eqX.1
 refine zk (fn:=Tryz.f178) 22 Tryz.func178 rfl rfl ?_
 intro pas w0 w he hp
 repeat' (first
|apply s_m (clS al) (zR al) rfl
 . conv=>lhs;whnf
 . conv=>lhs;whnf
 . rfl
 . conv=>lhs;whnf;arg 1;whnf
 . first | exact zm _ _
 . first | exact hac ‹_› ‹_› ‹_›
 . exact fun _=>rfl
 . exact fun _=>rfl
|apply zBI (VIn (sInD _ _ true _ _)) rfl rfl
 . conv=>lhs;whnf;arg 2;whnf
 . repeat' (first | exact VLe.refl _ | exact VLe.nil _ | exact VLe.lit _ _ | exact VLe.own _ _ _ | apply VLe.agg | apply VLeL.cons | exact VLeL.nil)
|apply zBI (VIn (sInD _ _ false zDK _)) rfl rfl
 . conv=>lhs;whnf;arg 2;whnf
 . repeat' (first | exact VLe.refl _ | exact VLe.nil _ | exact VLe.lit _ _ | exact VLe.own _ _ _ | apply VLe.agg | apply VLeL.cons | exact VLeL.nil)
|apply s_pr (clS al) (zR al) rfl
 . conv=>lhs;whnf
 . conv=>lhs;whnf
 . rfl
 . conv=>lhs;whnf;arg 1;whnf
 . first | exact zm _ _
 . first | exact hnm | exact hex ‹_› | exact hty ‹_› ‹_› | exact hli ‹_› ‹_› ‹_› | exact hd1 ‹_› ‹_› ‹_› ‹_› | exact hd2 ‹_› ‹_› ‹_›
 . exact fun _=>rfl
 . first | (intro _ _;simp only [renL,renV,ren_cells];done) | exact fun _ _=>rfl
 refine fun ee hq => ?_
 change _=Out.die _
 rotate_left 1
 refine fun aa xx hq => ?_
 first | (replace hq:=zAD hq;obtain ⟨hq,rfl⟩:=hq) | (cases hq;have hq:=True.intro) | skip
|refine zA ?_
|refine zB ?_
|refine zK ?_
|apply aw_1
 conv=>whnf
 refine ⟨?_,trivial⟩
|apply s_1
 conv=>whnf;arg 1;arg 4;arg 3;whnf
 refine ⟨?_,?_⟩
|apply zV rfl rfl rfl
 . conv=>lhs;whnf
 . conv=>lhs;whnf;arg 1;whnf
 . conv=>lhs;whnf;arg 1;whnf
 . exact ⟨by kernel_rfl,by kernel_rfl⟩
 . rfl
|refine zZ (by conv=>lhs;whnf) ?_ ?_<;>intro hb
|apply zAV rfl
 . conv=>lhs;whnf;arg 2;whnf
 . conv=>lhs;whnf;arg 1;whnf
|exact trivial)
 all_goals first
  |(rw [in_1 ‹_›];rfl)
  |(rw [in_2 ‹_› ‹_›];rfl)
  |(rw [in_3 ‹_› ‹_› ‹_›];rfl)
  |(rw [in_4 ‹_› ‹_› ‹_› ‹_› ‹_›];rfl)
  |(rw [in_5 ‹_› ‹_› ‹_› ‹_› ‹_› ‹_›];rfl)
  |(rw [in_6 ‹_› ‹_› ‹_› ‹_› ‹_› ‹_›];rfl)
  |(rw [in_7 ‹_› ‹_› ‹_› ‹_› ‹_›];rfl)
  |(rw [in_8 ‹_› ‹_› ‹_› ‹_› ‹_›];rfl)
  |skip
end
end
section
open Go.RowKit
theorem acx_dead {e:Ge} {P:Program} {f:FuncId} {args:List V} {t:TypeId} {pv:Value}:ACX e P f args [.box t [.c (.tuple #[])]] pv:=fun pas s w us _ hm _ _=>by
 obtain ⟨b,cs,-,-,h2,-⟩:=hm.ho (pn 0) (.box t [.c (.tuple #[])]) rfl
 cases hc:cs.toList with
 |nil=>rw [hc] at h2;simp [relL] at h2
 |cons x r =>
  rw [hc,relL,rel] at h2
  exact h2.1.2.elim
section
variable {X:Cx} {nn:Nat} {st:Vst nn} {o:Oper} {ops:Array Oper} {l:List Oper} {d:Option Tmp} {Q:Vst nn->Prop} {rd wr:Nat->List Nat} {k:Nat}
theorem g_dead {f:FuncId} {vs:List V} {m:Nat} {t:TypeId} (dv:V) (pv:Value) (hg:o.guard=none) (hd:o.dst=d) (h:act1 X.P st.rs (ev st) o.op = .call f vs) (hv:vs=[.bx m 0]) (hr:st.rs m=some (.box t [.c (.tuple #[])])) (hl:[m].all (fun n=>(wr k).contains n)=true)
 (hpk : ∀ tm rs,X.pk pv tm rs) (hK:absLexG X ops rd wr Q (k+1) l ((st.res m (.box t [.c (.tuple #[])])).put d dv)):absLexG X ops rd wr Q k (o::l) st:=by
 subst hv
 refine zJy [m] dv [.box t [.c (.tuple #[])]] hg hd h (acx_dead (args:=renL (φin [m]) [.bx m 0]) (t:=t)) (by simp) rfl (by simp only [List.map_cons,List.map_nil,hr,Option.map_some];rfl) rfl hl hpk ?_
 rw [zCJ]
 exact hK
end
section
variable {x y z:PS} {n:List UInt8} {e:Nat × Int} {l:List D}
theorem mb_1 (h1:nameQ x = .error e):mbQ x = .error e:=by rw [mbQ,zn h1]
theorem mb_2 (h1:nameQ x = .ok (n,y)) (h2:dirsQ y = .error e):mbQ x = .error e:=by rw [mbQ,zY h1,zn h2]
theorem mb_3 (h1:nameQ x = .ok (n,y)) (h2:dirsQ y = .ok (l,z)):mbQ x = .ok (sMbD n l,z):=by rw [mbQ,zY h1,zY h2]
theorem mnK_ok {r:PR (List D)} {a:Unit} {p:List D × PS} (h:mnK r = .ok (a,p)):r = .ok p:=by
 cases r with
 |error e=>cases h
 |ok q=>obtain ⟨l,y⟩:=q;unfold mnK at h;cases h;rfl
theorem mnK_er {r:PR (List D)} {e:Nat × Int} (h:mnK r = .error e):r = .error e:=by
 cases r with
 |error e=>unfold mnK at h;cases h;rfl
 |ok q=>obtain ⟨l,y⟩:=q;cases h
theorem inq_no {x:PS} (h:(hdT x).k≠2):inQ x = .error ((hdT x).i,3):=by rw [inQ,nameQ,if_neg h];rfl
theorem fdq_no {x:PS} (h:(hdT x).k≠2):fdQ x = .error ((hdT x).i,3):=by rw [fdQ,nameQ,if_neg h];rfl
theorem mbq_no {x:PS} (h:(hdT x).k≠2):mbQ x = .error ((hdT x).i,3):=by rw [mbQ,nameQ,if_neg h];rfl
end
attribute [local irreducible] wpList Calls Code.wp AW AWo OpOk seqK zq zt loopK endK AC zg Yld Sub
attribute [local irreducible] ACB ACX ACE absLexG YldG absLexU YldU
theorem elemIn:zz Tryz.prog 43=some (55,168):=by kernel_rfl
theorem elemFd:zz Tryz.prog 41=some (50,104):=by kernel_rfl
theorem zFj:zz Tryz.prog 42=some (79,40):=by kernel_rfl
theorem ent_i:zBw Tryz.prog 177=true:=by kernel_rfl
def Bi (acc:List D):Res:=.box 43 [.own (pn 3) 55 acc]
def Ti (acc:List D):Res:=.tok 55 acc.length
theorem ren_i:RenK [.bx (pn 1) 0,.bx (pn 0) 0] Bi Ti:=⟨rfl,fun _=>rfl,fun _=>rfl,fun _=>rfl,fun _=>rfl⟩
section
variable {al:List Tok} (hal:al.length<=100000) (hkd:Kd al)
include hal hkd
theorem p_in:CK al Bi Ti 177 [.bx (pn 1) 0,.bx (pn 0) 0] inQ:=by
 intro acc x h hacc
 have hin:=p_input hal hkd h
 refine zk (fn:=Tryz.f177) 7 Tryz.func177 rfl rfl ?_
 intro pas w0 w he hp
 repeat' (first
|apply zBh 6 ([(0,[1000001]),(1,[1000000])]) ([(2,[1000002]),(4,[1000003]),(5,[1000001])]) rfl (by kernel_rfl) (by kernel_rfl) (by kernel_rfl)
|apply zHh
|apply zHg rfl
 . conv=>lhs;whnf
 . conv=>lhs;whnf;arg 2;whnf
|apply zIx rfl rfl
 . conv=>lhs;whnf
 . first | exact elemIn | (conv=>lhs;whnf;arg 1;whnf)
 . first | exact fun _=>rfl | (intro _;kernel_rfl)
 . conv=>lhs;whnf
 . rfl
 . conv=>lhs;whnf;arg 1;whnf
 . conv=>lhs;whnf
|apply zCO rfl rfl rfl
 . conv=>lhs;whnf
 . rfl
 . conv=>lhs;whnf;arg 1;whnf
 . conv=>lhs;whnf;arg 1;whnf
 . exact ⟨by kernel_rfl,by kernel_rfl⟩
 . rfl
|exact Or.inl ⟨pn 2,_,rfl⟩
|refine Or.inr ?_
|apply g_pr (clS al) (zR al) (default:D) rfl
 . conv=>lhs;whnf
 . conv=>lhs;whnf
 . rfl
 . conv=>lhs;whnf;arg 1;whnf
 . first | exact zm _ _
 . first | exact hin
 . exact fun _=>rfl
 . first | (intro _ _;simp only [renL,renV,ren_cells];done) | exact fun _ _=>rfl
 . rfl
 refine fun ee hq tm rs => ?_
 change _=Out.die _
 rotate_left 1
 refine fun aa xx hq => ?_
 first | (cases hq;have hq:=True.intro) | skip
 rotate_left 1
 refine fun ee hq => ?_
 first | (cases hq;done) | skip
|show inO _ _=true;rfl
|apply zDr [aa] rfl rfl
 . conv=>lhs;whnf
 . first | exact elemIn | (conv=>lhs;whnf;arg 1;whnf)
 . rfl
 . rfl
 . repeat' (first | exact trivial | apply And.intro | rfl)
|apply zDr [default] rfl rfl
 . conv=>lhs;whnf
 . first | exact elemIn | (conv=>lhs;whnf;arg 1;whnf)
 . rfl
 . rfl
 . repeat' (first | exact trivial | apply And.intro | rfl)
|apply zCt rfl
|exact trivial)
 all_goals first
  |(refine ⟨by simp,?_,?_⟩<;>simp only [List.length_cons,List.length_nil,maxLen]<;>omega)
  |(rw [zDY hq];rfl)
  |skip
 refine ⟨bsK al Bi Ti (acc++[aa]) xx,by rw [zLP hq];rfl,rfl,rfl,rfl,?_,trivial⟩
 show some (Res.tok _ (acc.length+1))=some (Res.tok _ (acc++[aa]).length)
 rw [List.length_append];rfl
noncomputable def HiN (al:List Tok) (x:PS) (e:List UInt8):Vst 11:=
 stS 11 [(1,.c (.string (bs e))),(2,.bx 2 0),(5,.bx 5 0)] [(pn 0,boxS al x),(2,.box 62 [.bx (pn 0) 0]),(5,.box 43 [.own 905 55 []]),(905,.tok 55 0)]
theorem zKg (e:List UInt8) {x:PS} (h:Sx al x):ACE EN5 Tryz.prog 120 [.bx (pn 0) 0,.c (.string (bs e))] [boxS al x] (outS al (fun l => .sl 55 l) (insQ e x)):=by
 have hbk:=zHK hal ent_i ren_i (p_in hal hkd) (fun x h=>inq_no h) (fun h hq=>h.inp hq) e 16 (x.ts.length+1) h (by omega)
 have e0:insQ e x=manyF inQ e 16 (x.ts.length+1) [] x:=rfl
 rw [e0]
 refine zk (fn:=Tryz.f120) 11 Tryz.func120 rfl rfl ?_
 intro pas w0 w he hp
 repeat' (first
|apply zHA [2,5,pn 0,905] rfl
 . conv=>lhs;whnf
 . conv=>lhs;whnf
 . first | exact hbk
 . decide
 . rfl
 . rfl
 refine fun ee hq => ?_
 change _=Out.die _
 rotate_left 1
 refine fun aa xx hq => ?_
 first | (cases hq;have hq:=True.intro) | skip
|apply zv 2 (HiN al x e) rfl
|refine zB3 ?_
|refine zA ?_
|refine zB ?_
|refine zK ?_
|apply aw_1
 conv=>whnf
 refine ⟨?_,trivial⟩
|apply s_1
 conv=>whnf;arg 1;arg 4;arg 3;whnf
 refine ⟨?_,?_⟩
|apply zAA rfl rfl rfl rfl
 . conv=>lhs;whnf;arg 1;whnf
 . rfl
|apply zAV rfl
 . conv=>lhs;whnf;arg 2;whnf
 . conv=>lhs;whnf;arg 1;whnf
|exact trivial)
 . exact (Sub.ownF (m:=5) (q:=905) (i:=0) (e:=55) rfl (by decide) rfl rfl rfl).trans (Sub.live ⟨rfl,rfl,rfl,trivial⟩ ⟨rfl,rfl,rfl,rfl,trivial⟩)
 . obtain ⟨l,y⟩:=xx
   rw [mnK_ok hq];rfl
 . rw [mnK_er hq];rfl
theorem p_field {x:PS} (h:Sx al x):ACE EN5 Tryz.prog 124 [.bx (pn 0) 0] [boxS al x] (outS al VFd (fdQ x)):=by
 have hnm:=zDn h hal
 rcases hN:nameQ x with e1 | ⟨n,y⟩
 . rw [fi_1 hN]
   rw [hN] at hnm
   refine zk (fn:=Tryz.f124) 21 Tryz.func124 rfl rfl ?_
   intro pas w0 w he hp
   repeat' (first
|apply s_pr (clS al) (zR al) rfl
 . conv=>lhs;whnf
 . conv=>lhs;whnf
 . rfl
 . conv=>lhs;whnf;arg 1;whnf
 . first | exact zm _ _
 . first | exact hnm
 . exact fun _=>rfl
 . first | (intro _ _;simp only [renL,renV,ren_cells];done) | exact fun _ _=>rfl
 refine fun ee hq => ?_
 change _=Out.die _
 rotate_left 1
 refine fun aa xx hq => ?_
 first | (replace hq:=zAD hq;obtain ⟨hq,rfl⟩:=hq) | (cases hq;have hq:=True.intro) | skip
|refine zA ?_
|refine zB ?_
|refine zK ?_
|apply aw_1
 conv=>whnf
 refine ⟨?_,trivial⟩
|apply s_1
 conv=>whnf;arg 1;arg 4;arg 3;whnf
 refine ⟨?_,?_⟩
|exact trivial)
   all_goals first
    |exact zAw ‹_›
    |(cases hq;done)
 have hN1:=(h.name hN).1
 rw [hN] at hnm
 have hac:ACB EN5 Tryz.prog 173 [.bx (pn 0) 0,.c (.string (bs [40]))] [boxS al y] (.c (.bool (isS y [40]))) [boxS al (pqX y)]:=p_acc hN1 hal [40]
 have hin:=zKg hal hkd [41] hN1.pqX.1
 by_cases hp4:isS y [40]=true
 . rcases hM:insQ [41] (pqX y) with e1 | ⟨l,z⟩
   . rw [fi_2 hN hp4 hM]
     rw [hp4] at hac
     rw [hM] at hin
     refine zk (fn:=Tryz.f124) 21 Tryz.func124 rfl rfl ?_
     intro pas w0 w he hp
     repeat' (first
|apply s_m (clS al) (zR al) rfl
 . conv=>lhs;whnf
 . conv=>lhs;whnf
 . rfl
 . conv=>lhs;whnf;arg 1;whnf
 . first | exact zm _ _
 . first | exact hac
 . exact fun _=>rfl
 . exact fun _=>rfl
|apply s_pr (clS al) (zR al) rfl
 . conv=>lhs;whnf
 . conv=>lhs;whnf
 . rfl
 . conv=>lhs;whnf;arg 1;whnf
 . first | exact zm _ _
 . first | exact hnm | exact hin
 . exact fun _=>rfl
 . first | (intro _ _;simp only [renL,renV,ren_cells];done) | exact fun _ _=>rfl
 refine fun ee hq => ?_
 change _=Out.die _
 rotate_left 1
 refine fun aa xx hq => ?_
 first | (replace hq:=zAD hq;obtain ⟨hq,rfl⟩:=hq) | (cases hq;have hq:=True.intro) | skip
|refine zA ?_
|refine zB ?_
|refine zK ?_
|apply aw_1
 conv=>whnf
 refine ⟨?_,trivial⟩
|apply s_1
 conv=>whnf;arg 1;arg 4;arg 3;whnf
 refine ⟨?_,?_⟩
|apply zV rfl rfl rfl
 . conv=>lhs;whnf
 . conv=>lhs;whnf;arg 1;whnf
 . conv=>lhs;whnf;arg 1;whnf
 . exact ⟨by kernel_rfl,by kernel_rfl⟩
 . rfl
|exact trivial)
     all_goals first
      |exact zAw ‹_›
      |(cases hq;done)
      |skip
   have hz:=(hN1.pqX.1.ins hM).1
   rw [fi_3 hN hp4 hM]
   rw [hp4] at hac
   rw [hM] at hin
   have hex:=zBE hz hal [58]
   have hty : ∀ {u v},takeQ [58] z = .ok (u,v)->ACE EN5 Tryz.prog 179 [.bx (pn 0) 0] [boxS al v] (outS al (fun d => .agg (cellsV Tryz.prog 12 48 d)) (typQ v)):=fun h1=>p_ref (hz.take h1).1 hal
   have hdi : ∀ {u v t o},takeQ [58] z = .ok (u,v)->typQ v = .ok (t,o)->ACE EN5 Tryz.prog 118 [.bx (pn 0) 0] [boxS al o] (outS al (fun l => .sl 108 l) (dirsQ o)):=fun h1 h2=>zGQ hal hkd ((hz.take h1).1.typ h2).1
   refine zk (fn:=Tryz.f124) 21 Tryz.func124 rfl rfl ?_
   intro pas w0 w he hp
   repeat' (first
|apply s_m (clS al) (zR al) rfl
 . conv=>lhs;whnf
 . conv=>lhs;whnf
 . rfl
 . conv=>lhs;whnf;arg 1;whnf
 . first | exact zm _ _
 . first | exact hac
 . exact fun _=>rfl
 . exact fun _=>rfl
|apply zBI (VFd (sFdD _ _ _ _)) rfl rfl
 . conv=>lhs;whnf;arg 2;whnf
 . repeat' (first | exact VLe.refl _ | exact VLe.nil _ | exact VLe.lit _ _ | exact VLe.own _ _ _ | apply VLe.agg | apply VLeL.cons | exact VLeL.nil)
|apply s_pr (clS al) (zR al) rfl
 . conv=>lhs;whnf
 . conv=>lhs;whnf
 . rfl
 . conv=>lhs;whnf;arg 1;whnf
 . first | exact zm _ _
 . first | exact hnm | exact hin | exact hex | exact hty ‹_› | exact hdi ‹_› ‹_›
 . exact fun _=>rfl
 . first | (intro _ _;simp only [renL,renV,ren_cells];done) | exact fun _ _=>rfl
 refine fun ee hq => ?_
 change _=Out.die _
 rotate_left 1
 refine fun aa xx hq => ?_
 first | (replace hq:=zAD hq;obtain ⟨hq,rfl⟩:=hq) | (cases hq;have hq:=True.intro) | skip
|refine zA ?_
|refine zB ?_
|refine zK ?_
|apply aw_1
 conv=>whnf
 refine ⟨?_,trivial⟩
|apply s_1
 conv=>whnf;arg 1;arg 4;arg 3;whnf
 refine ⟨?_,?_⟩
|apply zV rfl rfl rfl
 . conv=>lhs;whnf
 . conv=>lhs;whnf;arg 1;whnf
 . conv=>lhs;whnf;arg 1;whnf
 . exact ⟨by kernel_rfl,by kernel_rfl⟩
 . rfl
|apply zAV rfl
 . conv=>lhs;whnf;arg 2;whnf
 . conv=>lhs;whnf;arg 1;whnf
|exact trivial)
   all_goals first
    |(cases hq;done)
    |(rw [ft_1 ‹_›];rfl)
    |(rw [ft_2 ‹_› ‹_›];rfl)
    |(rw [ft_3 ‹_› ‹_› ‹_›];rfl)
    |(rw [ft_4 ‹_› ‹_› ‹_›];rfl)
    |skip
 have hp4:isS y [40]=false:=by simpa using hp4
 rw [fi_4 hN hp4]
 rw [hp4] at hac
 have hz:=hN1.pqX.1
 obtain ⟨z,hze⟩ : ∃ z,z=pqX y:=⟨_,rfl⟩
 have hac:ACB EN5 Tryz.prog 173 [.bx (pn 0) 0,.c (.string (bs [40]))] [boxS al y] (.c (.bool false)) [boxS al z]:=by rw [hze];exact hac
 rw [<- hze] at hz
 rw [<- hze]
 have hex:=zBE hz hal [58]
 have hty : ∀ {u v},takeQ [58] z = .ok (u,v)->ACE EN5 Tryz.prog 179 [.bx (pn 0) 0] [boxS al v] (outS al (fun d => .agg (cellsV Tryz.prog 12 48 d)) (typQ v)):=fun h1=>p_ref (hz.take h1).1 hal
 have hdi : ∀ {u v t o},takeQ [58] z = .ok (u,v)->typQ v = .ok (t,o)->ACE EN5 Tryz.prog 118 [.bx (pn 0) 0] [boxS al o] (outS al (fun l => .sl 108 l) (dirsQ o)):=fun h1 h2=>zGQ hal hkd ((hz.take h1).1.typ h2).1
 refine zk (fn:=Tryz.f124) 21 Tryz.func124 rfl rfl ?_
 intro pas w0 w he hp
 repeat' (first
|apply s_m (clS al) (zR al) rfl
 . conv=>lhs;whnf
 . conv=>lhs;whnf
 . rfl
 . conv=>lhs;whnf;arg 1;whnf
 . first | exact zm _ _
 . first | exact hac
 . exact fun _=>rfl
 . exact fun _=>rfl
|apply zBI (VFd (sFdD _ [] _ _)) rfl rfl
 . conv=>lhs;whnf;arg 2;whnf
 . repeat' (first | exact VLe.refl _ | exact VLe.nil _ | exact VLe.lit _ _ | exact VLe.own _ _ _ | apply VLe.agg | apply VLeL.cons | exact VLeL.nil)
|apply s_pr (clS al) (zR al) rfl
 . conv=>lhs;whnf
 . conv=>lhs;whnf
 . rfl
 . conv=>lhs;whnf;arg 1;whnf
 . first | exact zm _ _
 . first | exact hnm | exact hex | exact hty ‹_› | exact hdi ‹_› ‹_›
 . exact fun _=>rfl
 . first | (intro _ _;simp only [renL,renV,ren_cells];done) | exact fun _ _=>rfl
 refine fun ee hq => ?_
 change _=Out.die _
 rotate_left 1
 refine fun aa xx hq => ?_
 first | (replace hq:=zAD hq;obtain ⟨hq,rfl⟩:=hq) | (cases hq;have hq:=True.intro) | skip
|refine zA ?_
|refine zB ?_
|refine zK ?_
|apply aw_1
 conv=>whnf
 refine ⟨?_,trivial⟩
|apply s_1
 conv=>whnf;arg 1;arg 4;arg 3;whnf
 refine ⟨?_,?_⟩
|apply zV rfl rfl rfl
 . conv=>lhs;whnf
 . conv=>lhs;whnf;arg 1;whnf
 . conv=>lhs;whnf;arg 1;whnf
 . exact ⟨by kernel_rfl,by kernel_rfl⟩
 . rfl
|apply zAV rfl
 . conv=>lhs;whnf;arg 2;whnf
 . conv=>lhs;whnf;arg 1;whnf
|exact trivial)
 all_goals first
  |(cases hq;done)
  |(rw [ft_1 ‹_›];rfl)
  |(rw [ft_2 ‹_› ‹_›];rfl)
  |(rw [ft_3 ‹_› ‹_› ‹_›];rfl)
  |(rw [ft_4 ‹_› ‹_› ‹_›];rfl)
  |skip
end
end
section
open Go.RowKit
attribute [local irreducible] wpList Calls Code.wp AW AWo OpOk seqK zq zt loopK endK AC zg Yld Sub
attribute [local irreducible] ACB ACX ACE absLexG YldG absLexU YldU
theorem ent_1:zBw Tryz.prog 122=true:=by kernel_rfl
theorem ent_2:zBw Tryz.prog 123=true:=by kernel_rfl
def Bm (k:Int) (n:List UInt8) (im ds:List D) (acc:List D):Res:=.box 45 [.c (.int .i64 k),.c (.string (bs n)),.sl 9 im,.sl 108 ds,.c (.slice none 0 0),.own (pn 3) 79 acc,.c (.slice none 0 0)]
def Tm (acc:List D):Res:=.tok 79 acc.length
theorem ren_m (k:Int) (n:List UInt8) (im ds:List D):RenK [.bx (pn 1) 0,.bx (pn 0) 0] (Bm k n im ds) Tm:=⟨rfl,fun _=>rfl,fun _=>rfl,fun _=>rfl,fun _=>rfl⟩
def Bf (k:Int) (n:List UInt8) (im ds:List D) (acc:List D):Res:=.box 45 [.c (.int .i64 k),.c (.string (bs n)),.sl 9 im,.sl 108 ds,.own (pn 3) 50 acc,.c (.slice none 0 0),.c (.slice none 0 0)]
def Tf (acc:List D):Res:=.tok 50 acc.length
theorem ren_f (k:Int) (n:List UInt8) (im ds:List D):RenK [.bx (pn 1) 0,.bx (pn 0) 0] (Bf k n im ds) Tf:=⟨rfl,fun _=>rfl,fun _=>rfl,fun _=>rfl,fun _=>rfl⟩
section
variable {al:List Tok} (hal:al.length<=100000) (hkd:Kd al)
include hal hkd
theorem p_fd (k:Int) (n:List UInt8) (im ds:List D):CK al (Bf k n im ds) Tf 123 [.bx (pn 1) 0,.bx (pn 0) 0] fdQ:=by
 intro acc x h hacc
 have hin:=p_field hal hkd h
 refine zk (fn:=Tryz.f123) 9 Tryz.func123 rfl rfl ?_
 intro pas w0 w he hp
 repeat' (first
|apply zBh 8 ([(1,[1000001]),(2,[1000000])]) ([(3,[1000002]),(5,[1000003]),(7,[1000001])]) rfl (by kernel_rfl) (by kernel_rfl) (by kernel_rfl)
|apply zHh
|apply zHg rfl
 . conv=>lhs;whnf
 . conv=>lhs;whnf;arg 2;whnf
|apply zIx rfl rfl
 . conv=>lhs;whnf
 . first | exact elemFd | (conv=>lhs;whnf;arg 1;whnf)
 . first | exact fun _=>rfl | (intro _;kernel_rfl)
 . conv=>lhs;whnf
 . rfl
 . conv=>lhs;whnf;arg 1;whnf
 . conv=>lhs;whnf
|apply zCO rfl rfl rfl
 . conv=>lhs;whnf
 . rfl
 . conv=>lhs;whnf;arg 1;whnf
 . conv=>lhs;whnf;arg 1;whnf
 . exact ⟨by kernel_rfl,by kernel_rfl⟩
 . rfl
|exact Or.inl ⟨pn 2,_,rfl⟩
|refine Or.inr ?_
|apply g_pr (clS al) (zR al) (default:D) rfl
 . conv=>lhs;whnf
 . conv=>lhs;whnf
 . rfl
 . conv=>lhs;whnf;arg 1;whnf
 . first | exact zm _ _
 . first | exact hin
 . exact fun _=>rfl
 . first | (intro _ _;simp only [renL,renV,ren_cells];done) | exact fun _ _=>rfl
 . rfl
 refine fun ee hq tm rs => ?_
 change _=Out.die _
 rotate_left 1
 refine fun aa xx hq => ?_
 first | (cases hq;have hq:=True.intro) | skip
 rotate_left 1
 refine fun ee hq => ?_
 first | (cases hq;done) | skip
|show inO _ _=true;rfl
|apply zDr [aa] rfl rfl
 . conv=>lhs;whnf
 . first | exact elemFd | (conv=>lhs;whnf;arg 1;whnf)
 . rfl
 . rfl
 . repeat' (first | exact trivial | apply And.intro | rfl)
|apply zDr [default] rfl rfl
 . conv=>lhs;whnf
 . first | exact elemFd | (conv=>lhs;whnf;arg 1;whnf)
 . rfl
 . rfl
 . repeat' (first | exact trivial | apply And.intro | rfl)
|apply zCt rfl
|exact trivial)
 all_goals first
  |(refine ⟨by simp,?_,?_⟩<;>simp only [List.length_cons,List.length_nil,maxLen]<;>omega)
  |(rw [zDY hq];rfl)
  |skip
 refine ⟨bsK al (Bf k n im ds) Tf (acc++[aa]) xx,by rw [zLP hq];rfl,rfl,rfl,rfl,?_,trivial⟩
 show some (Res.tok _ (acc.length+1))=some (Res.tok _ (acc++[aa]).length)
 rw [List.length_append];rfl
theorem p_mb (k:Int) (n:List UInt8) (im ds:List D):CK al (Bm k n im ds) Tm 122 [.bx (pn 1) 0,.bx (pn 0) 0] mbQ:=by
 intro acc x h hacc
 have hnm:=zDn h hal
 rcases hN:nameQ x with e1 | ⟨m,y⟩
 . rw [zDY (mb_1 hN)]
   refine zk (fn:=Tryz.f122) 12 Tryz.func122 rfl rfl ?_
   intro pas w0 w he hp
   repeat' (first
|apply zBh 11 ([(1,[1000001]),(2,[1000000]),(4,[1000000])]) ([(3,[1000002]),(5,[1000002]),(8,[1000003]),(10,[1000001])]) rfl (by kernel_rfl) (by kernel_rfl) (by kernel_rfl)
|apply zHh
|apply zHg rfl
 . conv=>lhs;whnf
 . conv=>lhs;whnf;arg 2;whnf
|apply zIx rfl rfl
 . conv=>lhs;whnf
 . first | exact zFj | (conv=>lhs;whnf;arg 1;whnf)
 . first | exact fun _=>rfl | (intro _;kernel_rfl)
 . conv=>lhs;whnf
 . rfl
 . conv=>lhs;whnf;arg 1;whnf
 . conv=>lhs;whnf
|apply zCO rfl rfl rfl
 . conv=>lhs;whnf
 . rfl
 . conv=>lhs;whnf;arg 1;whnf
 . conv=>lhs;whnf;arg 1;whnf
 . exact ⟨by kernel_rfl,by kernel_rfl⟩
 . rfl
|exact Or.inl ⟨pn 2,_,rfl⟩
|apply g_pr (clS al) (zR al) ([]:List UInt8) rfl
 . conv=>lhs;whnf
 . conv=>lhs;whnf
 . rfl
 . conv=>lhs;whnf;arg 1;whnf
 . first | exact zm _ _
 . first | exact hnm
 . exact fun _=>rfl
 . first | (intro _ _;simp only [renL,renV,ren_cells];done) | exact fun _ _=>rfl
 . rfl
 refine fun ee hq tm rs => ?_
 change _=Out.die _
 rotate_left 1
 refine fun aa xx hq => ?_
 first | (cases hq;have hq:=True.intro) | skip
 rotate_left 1
 refine fun ee hq => ?_
 first | (cases hq;done) | skip
|apply g_dead (.sl 108 []) (zFE e1) rfl
 . conv=>lhs;whnf
 . conv=>lhs;whnf
 . rfl
 . rfl
 . rfl
|show inO _ _=true;rfl
|apply zDr [sMbD [] []] rfl rfl
 . conv=>lhs;whnf
 . first | exact zFj | (conv=>lhs;whnf;arg 1;whnf)
 . rfl
 . rfl
 . repeat' (first | exact trivial | apply And.intro | rfl)
|exact trivial
|intro hg)
   all_goals first
    |(intro _ _;rfl)
    |(rw [hN] at hq;cases hq;done)
    |(rw [hN] at hq;cases hq;rfl)
    |(refine ⟨by simp,?_,?_⟩<;>simp only [List.length_cons,List.length_nil,maxLen]<;>omega)
    |skip
 have hN1:=(h.name hN).1
 have hdi:=zGQ hal hkd hN1
 rw [hN] at hnm
 refine zk (fn:=Tryz.f122) 12 Tryz.func122 rfl rfl ?_
 intro pas w0 w he hp
 repeat' (first
|apply zBh 11 ([(1,[1000001]),(2,[1000000]),(4,[1000000])]) ([(3,[1000002]),(5,[1000002]),(8,[1000003]),(10,[1000001])]) rfl (by kernel_rfl) (by kernel_rfl) (by kernel_rfl)
|apply zHh
|apply zHg rfl
 . conv=>lhs;whnf
 . conv=>lhs;whnf;arg 2;whnf
|apply zIx rfl rfl
 . conv=>lhs;whnf
 . first | exact zFj | (conv=>lhs;whnf;arg 1;whnf)
 . first | exact fun _=>rfl | (intro _;kernel_rfl)
 . conv=>lhs;whnf
 . rfl
 . conv=>lhs;whnf;arg 1;whnf
 . conv=>lhs;whnf
|apply zCO rfl rfl rfl
 . conv=>lhs;whnf
 . rfl
 . conv=>lhs;whnf;arg 1;whnf
 . conv=>lhs;whnf;arg 1;whnf
 . exact ⟨by kernel_rfl,by kernel_rfl⟩
 . rfl
|exact Or.inl ⟨pn 2,_,rfl⟩
|refine Or.inr ?_
|apply g_pr (clS al) (zR al) ([]:List UInt8) rfl
 . conv=>lhs;whnf
 . conv=>lhs;whnf
 . rfl
 . conv=>lhs;whnf;arg 1;whnf
 . first | exact zm _ _
 . first | exact hnm
 . exact fun _=>rfl
 . first | (intro _ _;simp only [renL,renV,ren_cells];done) | exact fun _ _=>rfl
 . rfl
 refine fun ee hq tm rs => ?_
 change _=Out.die _
 rotate_left 1
 refine fun aa xx hq => ?_
 first | (cases hq;have hq:=True.intro) | skip
 rotate_left 1
 refine fun ee hq => ?_
 first | (cases hq;done) | skip
|apply g_pr (clS al) (zR al) ([]:List D) rfl
 . conv=>lhs;whnf
 . conv=>lhs;whnf
 . rfl
 . conv=>lhs;whnf;arg 1;whnf
 . first | exact zm _ _
 . first | exact hdi
 . exact fun _=>rfl
 . first | (intro _ _;simp only [renL,renV,ren_cells];done) | exact fun _ _=>rfl
 . rfl
 refine fun ee hq tm rs => ?_
 change _=Out.die _
 rotate_left 1
 refine fun aa xx hq => ?_
 first | (cases hq;have hq:=True.intro) | skip
 rotate_left 1
 refine fun ee hq => ?_
 first | (cases hq;done) | skip
|show inO _ _=true;rfl
|apply zDr [sMbD m aa] rfl rfl
 . conv=>lhs;whnf
 . first | exact zFj | (conv=>lhs;whnf;arg 1;whnf)
 . rfl
 . rfl
 . repeat' (first | exact trivial | apply And.intro | rfl)
|apply zDr [sMbD m []] rfl rfl
 . conv=>lhs;whnf
 . first | exact zFj | (conv=>lhs;whnf;arg 1;whnf)
 . rfl
 . rfl
 . repeat' (first | exact trivial | apply And.intro | rfl)
|apply zCt rfl
|exact trivial)
 all_goals first
  |(refine ⟨by simp,?_,?_⟩<;>simp only [List.length_cons,List.length_nil,maxLen]<;>omega)
  |(cases hq;done)
  |(rw [zDY (mb_2 hN hq)];rfl)
  |skip
 refine ⟨bsK al (Bm k n im ds) Tm (acc++[sMbD m aa]) xx,by rw [zLP (mb_3 hN hq)];rfl,rfl,rfl,rfl,?_,trivial⟩
 show some (Res.tok _ (acc.length+1))=some (Res.tok _ (acc++[sMbD m aa]).length)
 rw [List.length_append];rfl
end
section
variable {s:List UInt8}
theorem ks_1 (h:((bs s).toList==(⟨#[116,121,112,101]⟩:ByteArray).toList)=true):zA0 s=1:=by unfold zA0;rw [if_pos (show s=zH9 from zFH h)]
theorem ks_2 (h1:((bs s).toList==(⟨#[116,121,112,101]⟩:ByteArray).toList)=false) (h:((bs s).toList==(⟨#[105,110,116,101,114,102,97,99,101]⟩:ByteArray).toList)=true):zA0 s=2:=by unfold zA0;rw [if_neg (show ¬ s=zH9 from zBN h1),if_pos (show s=zFY from zFH h)]
theorem ks_3 (h1:((bs s).toList==(⟨#[116,121,112,101]⟩:ByteArray).toList)=false) (h2:((bs s).toList==(⟨#[105,110,116,101,114,102,97,99,101]⟩:ByteArray).toList)=false) (h:((bs s).toList==(⟨#[117,110,105,111,110]⟩:ByteArray).toList)=true):zA0 s=3:=by unfold zA0;rw [if_neg (show ¬ s=zH9 from zBN h1),if_neg (show ¬ s=zFY from zBN h2),if_pos (show s=zGF from zFH h)]
theorem ks_4 (h1:((bs s).toList==(⟨#[116,121,112,101]⟩:ByteArray).toList)=false) (h2:((bs s).toList==(⟨#[105,110,116,101,114,102,97,99,101]⟩:ByteArray).toList)=false) (h3:((bs s).toList==(⟨#[117,110,105,111,110]⟩:ByteArray).toList)=false) (h:((bs s).toList==(⟨#[101,110,117,109]⟩:ByteArray).toList)=true):zA0 s=4:=by unfold zA0;rw [if_neg (show ¬ s=zH9 from zBN h1),if_neg (show ¬ s=zFY from zBN h2),if_neg (show ¬ s=zGF from zBN h3),if_pos (show s=enumT from zFH h)]
theorem ks_5 (h1:((bs s).toList==(⟨#[116,121,112,101]⟩:ByteArray).toList)=false) (h2:((bs s).toList==(⟨#[105,110,116,101,114,102,97,99,101]⟩:ByteArray).toList)=false) (h3:((bs s).toList==(⟨#[117,110,105,111,110]⟩:ByteArray).toList)=false) (h4:((bs s).toList==(⟨#[101,110,117,109]⟩:ByteArray).toList)=false) (h:((bs s).toList==(⟨#[105,110,112,117,116]⟩:ByteArray).toList)=true):zA0 s=5:=by unfold zA0;rw [if_neg (show ¬ s=zH9 from zBN h1),if_neg (show ¬ s=zFY from zBN h2),if_neg (show ¬ s=zGF from zBN h3),if_neg (show ¬ s=enumT from zBN h4),if_pos (show s=zK8 from zFH h)]
theorem ks_0 (h1:((bs s).toList==(⟨#[116,121,112,101]⟩:ByteArray).toList)=false) (h2:((bs s).toList==(⟨#[105,110,116,101,114,102,97,99,101]⟩:ByteArray).toList)=false) (h3:((bs s).toList==(⟨#[117,110,105,111,110]⟩:ByteArray).toList)=false) (h4:((bs s).toList==(⟨#[101,110,117,109]⟩:ByteArray).toList)=false) (h:((bs s).toList==(⟨#[105,110,112,117,116]⟩:ByteArray).toList)=false):zA0 s=0:=by unfold zA0;rw [if_neg (show ¬ s=zH9 from zBN h1),if_neg (show ¬ s=zFY from zBN h2),if_neg (show ¬ s=zGF from zBN h3),if_neg (show ¬ s=enumT from zBN h4),if_neg (show ¬ s=zK8 from zBN h)]
end
theorem p_kindOf (s:List UInt8):AC EN5 Tryz.prog 50 [.c (.string (bs s))] (.c (.int .i64 (zA0 s))):=by
 refine zN 14 Tryz.func50 rfl rfl rfl rfl ?_
 intro s0 w he
 repeat' (first
|refine zA ?_
|refine zB ?_
|refine zK ?_
|refine zP ?_
|apply aw_1
 conv=>whnf
 refine ⟨?_,trivial⟩
|apply s_1
 conv=>whnf;arg 1;arg 4;arg 3;whnf
 refine ⟨?_,?_⟩
|refine zZ (by conv=>lhs;whnf) ?_ ?_<;>intro hb
|refine zM ?_
|refine zO ?_
|refine zE ?_
|refine ⟨_,by conv=>lhs;whnf;arg 2;whnf,?_⟩;conv=>rhs;whnf
|exact trivial)
 all_goals first
  |rw [ks_1 ‹_›]
  |rw [ks_2 ‹_› ‹_›]
  |rw [ks_3 ‹_› ‹_› ‹_›]
  |rw [ks_4 ‹_› ‹_› ‹_› ‹_›]
  |rw [ks_5 ‹_› ‹_› ‹_› ‹_› ‹_›]
  |rw [ks_0 ‹_› ‹_› ‹_› ‹_› ‹_›]
noncomputable def HnS (al:List Tok) (z:PS) (s:List UInt8) (acc:List D):Vst 20:=
 stS 20 [(0,.bx (pn 0) 0),(1,.c (.string (bs s))),(5,.own 5 9 acc)] [(pn 0,boxS al z),(5,.tok 9 acc.length)]
theorem p_names {al:List Tok} (hal:al.length<=100000) (s:List UInt8) {x:PS} (h:Sx al x):ACE EN5 Tryz.prog 117 [.bx (pn 0) 0,.c (.string (bs s))] [boxS al x] (outS al (fun l => .sl 9 l) (zBR s x)):=by
 have e0:zBR s x=namesF s (x.ts.length+1) [] x:=rfl
 have hxl:=h.len
 rw [e0]
 refine zk (fn:=Tryz.f117) 20 Tryz.func117 rfl rfl ?_
 intro pas w0 w he hp
 repeat' (first
|refine zA ?_
|refine zB ?_
|refine zK ?_
|apply aw_1
 conv=>whnf
 refine ⟨?_,trivial⟩
|apply s_1
 conv=>whnf;arg 1;arg 4;arg 3;whnf
 refine ⟨?_,?_⟩
|exact trivial)
 refine zi (Sub.own (t:=5) (e:=9) rfl rfl) ?_
 refine za (fun j st => ∃ z acc,Sx al z/\z.ts.length<j/\acc.length+z.ts.length<=x.ts.length/\namesF s (x.ts.length+1) [] x=namesF s j acc z/\Sub (cxE EN5 Tryz.prog pas w0 w he hp (outS al (fun l=>V.sl 9 l) (namesF s (x.ts.length+1) [] x))) st (HnS al z s acc)) (x.ts.length+1) ⟨x,[],h,by omega,by simp,rfl,?_⟩ ?_
 . exact Sub.live ⟨rfl,rfl,rfl,trivial⟩ ⟨rfl,rfl,trivial⟩
 rintro j st ⟨z,acc,hz,hzj,hzl,hI,hsub⟩
 refine zi hsub ?_
 clear hsub
 rw [hI]
 clear hI
 cases j with
 |zero=>omega
 |succ j =>
 have hr:=p_room hz hal acc.length 64
 have hnm:=zDn hz hal
 by_cases hL:(hdT z).k=2/\64<=acc.length
 . rw [namesF,if_pos hL]
   rw [zIP,if_pos hL] at hr
   repeat' (first
|apply s_pr (clS al) (zR al) rfl
 . conv=>lhs;whnf
 . conv=>lhs;whnf
 . rfl
 . conv=>lhs;whnf;arg 1;whnf
 . first | exact zm _ _
 . first | exact hr
 . exact fun _=>rfl
 . first | (intro _ _;simp only [renL,renV,ren_cells];done) | exact fun _ _=>rfl
 refine fun ee hq => ?_
 change _=Out.die _
 rotate_left 1
 refine fun aa xx hq => ?_
 first | (replace hq:=zAD hq;obtain ⟨hq,rfl⟩:=hq) | (cases hq;have hq:=True.intro) | skip
|refine zA ?_
|apply aw_1
 conv=>whnf
 refine ⟨?_,trivial⟩
|apply s_1
 conv=>whnf;arg 1;arg 4;arg 3;whnf
 refine ⟨?_,?_⟩
|exact trivial)
   all_goals first
    |exact zAw ‹_›
    |(cases hq;done)
 rw [namesF,if_neg hL]
 rw [zIP,if_neg hL] at hr
 rcases hN:nameQ z with e1 | ⟨n,y⟩
 . rw [hN] at hnm
   repeat' (first
|apply s_pr (clS al) (zR al) rfl
 . conv=>lhs;whnf
 . conv=>lhs;whnf
 . rfl
 . conv=>lhs;whnf;arg 1;whnf
 . first | exact zm _ _
 . first | exact hr | exact hnm
 . exact fun _=>rfl
 . first | (intro _ _;simp only [renL,renV,ren_cells];done) | exact fun _ _=>rfl
 refine fun ee hq => ?_
 change _=Out.die _
 rotate_left 1
 refine fun aa xx hq => ?_
 first | (replace hq:=zAD hq;obtain ⟨hq,rfl⟩:=hq) | (cases hq;have hq:=True.intro) | skip
|refine zA ?_
|refine zB ?_
|refine zK ?_
|apply aw_1
 conv=>whnf
 refine ⟨?_,trivial⟩
|apply s_1
 conv=>whnf;arg 1;arg 4;arg 3;whnf
 refine ⟨?_,?_⟩
|exact trivial)
   all_goals first
    |exact zAw ‹_›
    |(cases hq;done)
    |(rw [zn rfl];exact zAw ‹_›)
    |skip
 have hN1:=hz.name hN
 rw [hN] at hnm
 rw [zY rfl]
 by_cases hs:isS y s=true
 . have ha:=zFM hN1.1 hal hs
   have h2:=hN1.1.sg hs
   rw [if_pos hs]
   repeat' (first
|apply s_m (clS al) (zR al) rfl
 . conv=>lhs;whnf
 . conv=>lhs;whnf
 . rfl
 . conv=>lhs;whnf;arg 1;whnf
 . first | exact zm _ _
 . first | exact ha
 . exact fun _=>rfl
 . exact fun _=>rfl
|apply zFI [strD n] rfl rfl
 . conv=>lhs;whnf
 . first | exact zBx | (conv=>lhs;whnf;arg 1;whnf)
 . rfl
 . rfl
 . repeat' (first | exact trivial | apply And.intro | rfl)
|apply s_pr (clS al) (zR al) rfl
 . conv=>lhs;whnf
 . conv=>lhs;whnf
 . rfl
 . conv=>lhs;whnf;arg 1;whnf
 . first | exact zm _ _
 . first | exact hr | exact hnm
 . exact fun _=>rfl
 . first | (intro _ _;simp only [renL,renV,ren_cells];done) | exact fun _ _=>rfl
 refine fun ee hq => ?_
 change _=Out.die _
 rotate_left 1
 refine fun aa xx hq => ?_
 first | (replace hq:=zAD hq;obtain ⟨hq,rfl⟩:=hq) | (cases hq;have hq:=True.intro) | skip
|refine zA ?_
|refine zB ?_
|refine zK ?_
|refine zP ?_
|apply aw_1
 conv=>whnf
 refine ⟨?_,trivial⟩
|apply s_1
 conv=>whnf;arg 1;arg 4;arg 3;whnf
 refine ⟨?_,?_⟩
|apply zEW rfl rfl
 . conv=>lhs;whnf
 . first | exact zBx | (conv=>lhs;whnf;arg 1;whnf)
 . first | exact fun _=>rfl | (intro _;kernel_rfl)
 . conv=>lhs;whnf
 . conv=>lhs;whnf;arg 1;whnf
 . conv=>lhs;whnf
|exact trivial)
   all_goals first
    |(cases hq;done)
    |(refine ⟨by simp,?_,?_⟩<;>simp only [List.length_cons,List.length_nil,maxLen]<;>omega)
    |skip
   refine zH (j':=j) (by omega) ⟨nxT y,acc++[strD n],h2.1,by omega,by rw [List.length_append];simp only [List.length_cons,List.length_nil];omega,rfl,Sub.live ⟨rfl,rfl,rfl,trivial⟩ ⟨rfl,?_,trivial⟩⟩
   show some (Res.tok _ (acc.length+1))=some (Res.tok _ (acc++[strD n]).length)
   rw [List.length_append];rfl
 . have hs:isS y s=false:=by simpa using hs
   have ha:=zDo hN1.1 hal hs
   rw [if_neg (by rw [hs];decide)]
   repeat' (first
|apply s_m (clS al) (zR al) rfl
 . conv=>lhs;whnf
 . conv=>lhs;whnf
 . rfl
 . conv=>lhs;whnf;arg 1;whnf
 . first | exact zm _ _
 . first | exact ha
 . exact fun _=>rfl
 . exact fun _=>rfl
|apply zFI [strD n] rfl rfl
 . conv=>lhs;whnf
 . first | exact zBx | (conv=>lhs;whnf;arg 1;whnf)
 . rfl
 . rfl
 . repeat' (first | exact trivial | apply And.intro | rfl)
|apply s_pr (clS al) (zR al) rfl
 . conv=>lhs;whnf
 . conv=>lhs;whnf
 . rfl
 . conv=>lhs;whnf;arg 1;whnf
 . first | exact zm _ _
 . first | exact hr | exact hnm
 . exact fun _=>rfl
 . first | (intro _ _;simp only [renL,renV,ren_cells];done) | exact fun _ _=>rfl
 refine fun ee hq => ?_
 change _=Out.die _
 rotate_left 1
 refine fun aa xx hq => ?_
 first | (replace hq:=zAD hq;obtain ⟨hq,rfl⟩:=hq) | (cases hq;have hq:=True.intro) | skip
|refine zA ?_
|refine zB ?_
|refine zK ?_
|apply aw_1
 conv=>whnf
 refine ⟨?_,trivial⟩
|apply s_1
 conv=>whnf;arg 1;arg 4;arg 3;whnf
 refine ⟨?_,?_⟩
|apply zEW rfl rfl
 . conv=>lhs;whnf
 . first | exact zBx | (conv=>lhs;whnf;arg 1;whnf)
 . first | exact fun _=>rfl | (intro _;kernel_rfl)
 . conv=>lhs;whnf
 . conv=>lhs;whnf;arg 1;whnf
 . conv=>lhs;whnf
|refine zO ?_
|refine zh ?_
|apply zAV rfl
 . conv=>lhs;whnf;arg 2;whnf
 . conv=>lhs;whnf;arg 1;whnf
|exact trivial)
   all_goals first
    |(cases hq;done)
    |(refine ⟨by simp,?_,?_⟩<;>simp only [List.length_cons,List.length_nil,maxLen]<;>omega)
    |rfl
end
section
open Go.RowKit
noncomputable def zHq:Code:=match Tryz.f52.body with
 |some (.seq _ (.seq _ (.seq _ (.seq _ y))))=>y
 |_ => .skip
noncomputable def VDf (d:D):V:=.agg (cellsV Tryz.prog 12 45 d)
noncomputable def VMb (d:D):V:=.agg (cellsV Tryz.prog 12 79 d)
def zDef:List V:=[.c (.int .i64 0),.c (.string ⟨#[]⟩),.c (.slice none 0 0),.c (.slice none 0 0),.c (.slice none 0 0),.c (.slice none 0 0),.c (.slice none 0 0)]
noncomputable def HdD (al:List Tok) (u:PS) (k:Int) (n:List UInt8) (im ds:List D):Vst 74:=
 stS 74 [(1,.c (.int .i64 k)),(2,.bx 2 0),(4,.bx 4 0),(5,.bx 5 0)] [(pn 0,boxS al u),(2,.box 62 [.bx (pn 0) 0]),(4,.box 45 zDef),(5,.box 45 [.c (.int .i64 k),.c (.string (bs n)),.sl 9 im,.sl 108 ds,.c (.slice none 0 0),.c (.slice none 0 0),.c (.slice none 0 0)])]
noncomputable def HdM (al:List Tok) (u:PS) (k:Int) (n:List UInt8) (im ds:List D):Vst 74:=
 stS 74 [(1,.c (.int .i64 k)),(2,.bx 2 0),(4,.bx 4 0),(5,.bx 5 0)] [(pn 0,boxS al u),(2,.box 62 [.bx (pn 0) 0]),(4,.box 45 zDef),(5,.box 45 [.c (.int .i64 k),.c (.string (bs n)),.sl 9 im,.sl 108 ds,.c (.slice none 0 0),.own 904 79 [],.c (.slice none 0 0)]),(904,.tok 79 0)]
noncomputable def HdF (al:List Tok) (u:PS) (k:Int) (n:List UInt8) (im ds:List D):Vst 74:=
 stS 74 [(1,.c (.int .i64 k)),(2,.bx 2 0),(4,.bx 4 0),(5,.bx 5 0)] [(pn 0,boxS al u),(2,.box 62 [.bx (pn 0) 0]),(4,.box 45 zDef),(5,.box 45 [.c (.int .i64 k),.c (.string (bs n)),.sl 9 im,.sl 108 ds,.own 904 50 [],.c (.slice none 0 0),.c (.slice none 0 0)]),(904,.tok 50 0)]
noncomputable def HdU (al:List Tok) (u:PS) (k:Int) (n:List UInt8) (im ds l:List D) (i:Nat):Vst 74:=
 stS 74 [(1,.c (.int .i64 k)),(2,.bx 2 0),(4,.bx 4 0),(5,.bx 5 0),(42,.sl 9 l),(43,.c (.int .i64 (l.length:Int))),(44,.c (.int .i64 (i:Int)))] [(pn 0,boxS al u),(2,.box 62 [.bx (pn 0) 0]),(4,.box 45 zDef),(5,.box 45 [.c (.int .i64 k),.c (.string (bs n)),.sl 9 im,.sl 108 ds,.c (.slice none 0 0),.own 904 79 ((l.take i).map mbOf),.c (.slice none 0 0)]),(904,.tok 79 ((l.take i).map mbOf).length)]
attribute [local irreducible] wpList Calls Code.wp AW AWo OpOk seqK zq zt loopK endK AC zg Yld Sub
attribute [local irreducible] ACB ACX ACE absLexG YldG absLexU YldU
theorem zIj {al:List Tok} {s:List UInt8} {l:List D} {y:PS} : ∀ (f:Nat) (acc:List D) (x:PS),Sx al x->namesF s f acc x = .ok (l,y)->l.length+y.ts.length<=acc.length+x.ts.length
 |0,_,_,_,h=>by cases h
 |f+1,acc,x,hx,h=>by
  unfold namesF at h
  split at h
  . cases h
  . cases hN:nameQ x with
    |error e=>rw [zn hN] at h;cases h
    |ok p =>
     obtain ⟨n,z⟩:=p
     rw [zY hN] at h
     have h1:=hx.name hN
     split at h
     . rename_i hs
       have h2:=h1.1.sg hs
       have h3:=zIj f _ _ h2.1 h
       rw [List.length_append] at h3
       simp only [List.length_cons,List.length_nil] at h3
       omega
     . cases h
       rw [List.length_append]
       simp only [List.length_cons,List.length_nil]
       omega
def defT (k:Int) (n:List UInt8) (im ds:List D) (u:PS):PR D:=thenQ (bodyQ k u) fun b v => .ok (sDfD k n im ds b.1 b.2.1 b.2.2,v)
section
variable {al:List Tok} (hal:al.length<=100000) (hkd:Kd al)
include hal hkd
-- (for avx.py: zk 74 Tryz.func52)
theorem def_in (n:List UInt8) (im ds:List D) {u:PS} (hu:Sx al u) {pas:Nat->Prop} {w0:Sg} {w:World} {he:EN5.E w} {hp : ∀ k,k<EN5.G -> ¬ pas k} :
 AW (cxE EN5 Tryz.prog pas w0 w he hp (outS al VDf (defT 5 n im ds u))) zHq (HdD al u 5 n im ds) (zFi Tryz.prog Tryz.f52.results (outS al VDf (defT 5 n im ds u))):=by
 unfold zHq
 simp only [Tryz.f52]
 have hex:=zBE hu hal [123]
 have hin : ∀ {a y},takeQ [123] u = .ok (a,y)->ACE EN5 Tryz.prog 120 [.bx (pn 0) 0,.c (.string (bs [125]))] [boxS al y] (outS al (fun l => .sl 55 l) (insQ [125] y)):=fun h=>zKg hal hkd [125] (hu.take h).1
 have e0:bodyQ 5 u=thenQ (takeQ [123] u) fun _ y=>thenQ (insQ [125] y) fun l z => .ok (([],[],l),z):=rfl
 repeat' (first
|apply zBI (VDf (sDfD 5 n im ds [] [] _)) rfl rfl
 . conv=>lhs;whnf;arg 2;whnf
 . repeat' (first | exact VLe.refl _ | exact VLe.nil _ | exact VLe.lit _ _ | exact VLe.own _ _ _ | apply VLe.agg | apply VLeL.cons | exact VLeL.nil)
|apply s_pr (clS al) (zR al) rfl
 . conv=>lhs;whnf
 . conv=>lhs;whnf
 . rfl
 . conv=>lhs;whnf;arg 1;whnf
 . first | exact zm _ _
 . first | exact hex | exact hin ‹_›
 . exact fun _=>rfl
 . first | (intro _ _;simp only [renL,renV,ren_cells];done) | exact fun _ _=>rfl
 refine fun ee hq => ?_
 change _=Out.die _
 rotate_left 1
 refine fun aa xx hq => ?_
 first | (replace hq:=zAD hq;obtain ⟨hq,rfl⟩:=hq) | (cases hq;have hq:=True.intro) | skip
|refine zA ?_
|refine zB ?_
|refine zK ?_
|refine zP ?_
|apply aw_1
 conv=>whnf
 refine ⟨?_,trivial⟩
|apply s_1
 conv=>whnf;arg 1;arg 4;arg 3;whnf
 refine ⟨?_,?_⟩
|apply zV rfl rfl rfl
 . conv=>lhs;whnf
 . conv=>lhs;whnf;arg 1;whnf
 . conv=>lhs;whnf;arg 1;whnf
 . exact ⟨by kernel_rfl,by kernel_rfl⟩
 . rfl
|apply zAV rfl
 . conv=>lhs;whnf;arg 2;whnf
 . conv=>lhs;whnf;arg 1;whnf
|exact trivial)
 all_goals first
  |(rw [defT,e0,zn (by assumption:takeQ [123] u=_)];rfl)
  |(rw [defT,e0,zY (by assumption:takeQ [123] u=_),zn hq];rfl)
  |(rw [defT,e0,zY (by assumption:takeQ [123] u=_),zY hq];rfl)
  |skip
theorem def_mb (n:List UInt8) (im ds:List D) {u:PS} (hu:Sx al u) {pas:Nat->Prop} {w0:Sg} {w:World} {he:EN5.E w} {hp : ∀ k,k<EN5.G -> ¬ pas k} :
 AW (cxE EN5 Tryz.prog pas w0 w he hp (outS al VDf (defT 4 n im ds u))) zHq (HdD al u 4 n im ds) (zFi Tryz.prog Tryz.f52.results (outS al VDf (defT 4 n im ds u))):=by
 unfold zHq
 simp only [Tryz.f52]
 have hex:=zBE hu hal [123]
 have e0:bodyQ 4 u=thenQ (takeQ [123] u) fun _ y=>thenQ (mbsQ y) fun l z => .ok (([],l,[]),z):=rfl
 rcases hT:takeQ [123] u with e1 | ⟨⟨⟩,y⟩
 . have K : ∀ {a y},takeQ [123] u = .ok (a,y)->False:=fun h=>by rw [hT] at h;cases h
   repeat' (first
|apply s_pr (clS al) (zR al) rfl
 . conv=>lhs;whnf
 . conv=>lhs;whnf
 . rfl
 . conv=>lhs;whnf;arg 1;whnf
 . first | exact zm _ _
 . first | exact hex
 . exact fun _=>rfl
 . first | (intro _ _;simp only [renL,renV,ren_cells];done) | exact fun _ _=>rfl
 refine fun ee hq => ?_
 change _=Out.die _
 rotate_left 1
 refine fun aa xx hq => ?_
 first | (replace hq:=zAD hq;obtain ⟨hq,rfl⟩:=hq) | (cases hq;have hq:=True.intro) | skip
|exact (K ‹_›).elim
|refine zA ?_
|refine zB ?_
|refine zK ?_
|apply aw_1
 conv=>whnf
 refine ⟨?_,trivial⟩
|apply s_1
 conv=>whnf;arg 1;arg 4;arg 3;whnf
 refine ⟨?_,?_⟩
|exact trivial)
   all_goals (rw [defT,e0,zn hq];rfl)
 rw [hT] at hex
 have hy:=(hu.take hT).1
 have hbk:=zHK hal ent_1 (ren_m 4 n im ds) (p_mb hal hkd 4 n im ds) (fun x h=>mbq_no h) (fun h hq=>h.mb hq) [125] 64 (y.ts.length+1) hy (by omega)
 have e1:defT 4 n im ds u=thenQ (manyF mbQ [125] 64 (y.ts.length+1) [] y) fun l z => .ok (sDfD 4 n im ds [] l [],z):=by
  rw [defT,e0,zY hT]
  show thenQ (thenQ (manyF mbQ [125] 64 (y.ts.length+1) [] y) _) _=_
  rw [zDR];rfl
 rw [e1]
 repeat' (first
|apply zBI (VDf (sDfD 4 n im ds [] _ [])) rfl rfl
 . conv=>lhs;whnf;arg 2;whnf
 . repeat' (first | exact VLe.refl _ | exact VLe.nil _ | exact VLe.lit _ _ | exact VLe.own _ _ _ | apply VLe.agg | apply VLeL.cons | exact VLeL.nil)
|apply s_pr (clS al) (zR al) rfl
 . conv=>lhs;whnf
 . conv=>lhs;whnf
 . rfl
 . conv=>lhs;whnf;arg 1;whnf
 . first | exact zm _ _
 . first | exact hex
 . exact fun _=>rfl
 . first | (intro _ _;simp only [renL,renV,ren_cells];done) | exact fun _ _=>rfl
 refine fun ee hq => ?_
 change _=Out.die _
 rotate_left 1
 refine fun aa xx hq => ?_
 first | (replace hq:=zAD hq;obtain ⟨hq,rfl⟩:=hq) | (cases hq;have hq:=True.intro) | skip
|apply zHA [2,5,pn 0,904] rfl
 . conv=>lhs;whnf
 . conv=>lhs;whnf
 . first | exact hbk
 . decide
 . rfl
 . rfl
 refine fun ee hq => ?_
 change _=Out.die _
 rotate_left 1
 refine fun aa xx hq => ?_
 first | (cases hq;have hq:=True.intro) | skip
|apply zv 15 (HdM al y 4 n im ds) rfl
|refine zB3 ?_
|refine zA ?_
|refine zB ?_
|refine zK ?_
|refine zP ?_
|apply aw_1
 conv=>whnf
 refine ⟨?_,trivial⟩
|apply s_1
 conv=>whnf;arg 1;arg 4;arg 3;whnf
 refine ⟨?_,?_⟩
|apply zV rfl rfl rfl
 . conv=>lhs;whnf
 . conv=>lhs;whnf;arg 1;whnf
 . conv=>lhs;whnf;arg 1;whnf
 . exact ⟨by kernel_rfl,by kernel_rfl⟩
 . rfl
|apply zAV rfl
 . conv=>lhs;whnf;arg 2;whnf
 . conv=>lhs;whnf;arg 1;whnf
|exact trivial)
 all_goals first
  |(cases hq;done)
  |exact (Sub.ownF (m:=5) (q:=904) (i:=5) (e:=79) rfl (by decide) rfl rfl rfl).trans (Sub.live ⟨rfl,rfl,rfl,rfl,trivial⟩ ⟨rfl,rfl,rfl,rfl,rfl,trivial⟩)
  |(rw [mnK_er hq];rfl)
  |(obtain ⟨l,z⟩:=xx
    rw [mnK_ok hq];rfl)
  |skip
theorem def_fd (k:Int) (hk:k≠3/\k≠4/\k≠5) (n:List UInt8) (im ds:List D) {u:PS} (hu:Sx al u) {pas:Nat->Prop} {w0:Sg} {w:World} {he:EN5.E w} {hp : ∀ k,k<EN5.G -> ¬ pas k} :
 AW (cxE EN5 Tryz.prog pas w0 w he hp (outS al VDf (defT k n im ds u))) zHq (HdD al u k n im ds) (zFi Tryz.prog Tryz.f52.results (outS al VDf (defT k n im ds u))):=by
 unfold zHq
 simp only [Tryz.f52]
 have hex:=zBE hu hal [123]
 have e0:bodyQ k u=thenQ (takeQ [123] u) fun _ y=>thenQ (fdsQ y) fun l z => .ok ((l,[],[]),z):=by
  unfold bodyQ
  rw [if_neg hk.1]
  congr 1
  funext _ y
  rw [if_neg hk.2.2,if_neg hk.2.1]
 have K3:(k==3)=true->False:=fun h=>hk.1 (by simpa using h)
 have K4:(k==4)=true->False:=fun h=>hk.2.1 (by simpa using h)
 have K5:(k==5)=true->False:=fun h=>hk.2.2 (by simpa using h)
 rcases hT:takeQ [123] u with e1 | ⟨⟨⟩,y⟩
 . have K : ∀ {a y},takeQ [123] u = .ok (a,y)->False:=fun h=>by rw [hT] at h;cases h
   repeat' (first
|apply s_pr (clS al) (zR al) rfl
 . conv=>lhs;whnf
 . conv=>lhs;whnf
 . rfl
 . conv=>lhs;whnf;arg 1;whnf
 . first | exact zm _ _
 . first | exact hex
 . exact fun _=>rfl
 . first | (intro _ _;simp only [renL,renV,ren_cells];done) | exact fun _ _=>rfl
 refine fun ee hq => ?_
 change _=Out.die _
 rotate_left 1
 refine fun aa xx hq => ?_
 first | (replace hq:=zAD hq;obtain ⟨hq,rfl⟩:=hq) | (cases hq;have hq:=True.intro) | skip
|exact (K ‹_›).elim
|exact (K3 ‹_›).elim
|refine zA ?_
|refine zB ?_
|refine zK ?_
|apply aw_1
 conv=>whnf
 refine ⟨?_,trivial⟩
|apply s_1
 conv=>whnf;arg 1;arg 4;arg 3;whnf
 refine ⟨?_,?_⟩
|refine zZ (by conv=>lhs;whnf) ?_ ?_<;>intro hb
|exact trivial)
   all_goals (rw [defT,e0,zn hq];rfl)
 rw [hT] at hex
 have hy:=(hu.take hT).1
 have hbk:=zHK hal ent_2 (ren_f k n im ds) (p_fd hal hkd k n im ds) (fun x h=>fdq_no h) (fun h hq=>h.fd hq) [125] 64 (y.ts.length+1) hy (by omega)
 have e1:defT k n im ds u=thenQ (manyF fdQ [125] 64 (y.ts.length+1) [] y) fun l z => .ok (sDfD k n im ds l [] [],z):=by
  rw [defT,e0,zY hT]
  show thenQ (thenQ (manyF fdQ [125] 64 (y.ts.length+1) [] y) _) _=_
  rw [zDR];rfl
 rw [e1]
 repeat' (first
|apply zBI (VDf (sDfD k n im ds _ [] [])) rfl rfl
 . conv=>lhs;whnf;arg 2;whnf
 . repeat' (first | exact VLe.refl _ | exact VLe.nil _ | exact VLe.lit _ _ | exact VLe.own _ _ _ | apply VLe.agg | apply VLeL.cons | exact VLeL.nil)
|apply s_pr (clS al) (zR al) rfl
 . conv=>lhs;whnf
 . conv=>lhs;whnf
 . rfl
 . conv=>lhs;whnf;arg 1;whnf
 . first | exact zm _ _
 . first | exact hex
 . exact fun _=>rfl
 . first | (intro _ _;simp only [renL,renV,ren_cells];done) | exact fun _ _=>rfl
 refine fun ee hq => ?_
 change _=Out.die _
 rotate_left 1
 refine fun aa xx hq => ?_
 first | (replace hq:=zAD hq;obtain ⟨hq,rfl⟩:=hq) | (cases hq;have hq:=True.intro) | skip
|apply zHA [2,5,pn 0,904] rfl
 . conv=>lhs;whnf
 . conv=>lhs;whnf
 . first | exact hbk
 . decide
 . rfl
 . rfl
 refine fun ee hq => ?_
 change _=Out.die _
 rotate_left 1
 refine fun aa xx hq => ?_
 first | (cases hq;have hq:=True.intro) | skip
|exact (K3 ‹_›).elim
|exact (K4 ‹_›).elim
|exact (K5 ‹_›).elim
|apply zv 15 (HdF al y k n im ds) rfl
|refine zB3 ?_
|refine zA ?_
|refine zB ?_
|refine zK ?_
|refine zP ?_
|apply aw_1
 conv=>whnf
 refine ⟨?_,trivial⟩
|apply s_1
 conv=>whnf;arg 1;arg 4;arg 3;whnf
 refine ⟨?_,?_⟩
|apply zV rfl rfl rfl
 . conv=>lhs;whnf
 . conv=>lhs;whnf;arg 1;whnf
 . conv=>lhs;whnf;arg 1;whnf
 . exact ⟨by kernel_rfl,by kernel_rfl⟩
 . rfl
|refine zZ (by conv=>lhs;whnf) ?_ ?_<;>intro hb
|apply zAV rfl
 . conv=>lhs;whnf;arg 2;whnf
 . conv=>lhs;whnf;arg 1;whnf
|exact trivial)
 all_goals first
  |(cases hq;done)
  |exact (Sub.ownF (m:=5) (q:=904) (i:=4) (e:=50) rfl (by decide) rfl rfl rfl).trans (Sub.live ⟨rfl,rfl,rfl,rfl,trivial⟩ ⟨rfl,rfl,rfl,rfl,rfl,trivial⟩)
  |(rw [mnK_er hq];rfl)
  |(obtain ⟨l,z⟩:=xx
    rw [mnK_ok hq];rfl)
  |skip
omit hkd in
theorem def_un (n:List UInt8) (im ds:List D) {u:PS} (hu:Sx al u) {pas:Nat->Prop} {w0:Sg} {w:World} {he:EN5.E w} {hp : ∀ k,k<EN5.G -> ¬ pas k} :
 AW (cxE EN5 Tryz.prog pas w0 w he hp (outS al VDf (defT 3 n im ds u))) zHq (HdD al u 3 n im ds) (zFi Tryz.prog Tryz.f52.results (outS al VDf (defT 3 n im ds u))):=by
 unfold zHq
 simp only [Tryz.f52]
 have hex:=zBE hu hal [61]
 have e0:bodyQ 3 u=thenQ (takeQ [61] u) fun _ y=>thenQ (zBR [124] y) fun l z => .ok (([],l.map mbOf,[]),z):=rfl
 have hna : ∀ {a y},takeQ [61] u = .ok (a,y)->ACE EN5 Tryz.prog 117 [.bx (pn 0) 0,.c (.string (bs [124]))] [boxS al y] (outS al (fun l => .sl 9 l) (zBR [124] y)):=fun h=>p_names hal [124] (hu.take h).1
 repeat' (first
|apply s_pr (clS al) (zR al) rfl
 . conv=>lhs;whnf
 . conv=>lhs;whnf
 . rfl
 . conv=>lhs;whnf;arg 1;whnf
 . first | exact zm _ _
 . first | exact hex | exact hna ‹_›
 . exact fun _=>rfl
 . first | (intro _ _;simp only [renL,renV,ren_cells];done) | exact fun _ _=>rfl
 refine fun ee hq => ?_
 change _=Out.die _
 rotate_left 1
 refine fun aa xx hq => ?_
 first | (replace hq:=zAD hq;obtain ⟨hq,rfl⟩:=hq) | (cases hq;have hq:=True.intro) | skip
|refine zA ?_
|refine zB ?_
|refine zK ?_
|apply aw_1
 conv=>whnf
 refine ⟨?_,trivial⟩
|apply s_1
 conv=>whnf;arg 1;arg 4;arg 3;whnf
 refine ⟨?_,?_⟩
|exact trivial)
 all_goals first
  |(rw [defT,e0,zn (by assumption:takeQ [61] u=_)];rfl)
  |(rw [defT,e0,zY (by assumption:takeQ [61] u=_),zn hq];rfl)
  |skip
 rename_i a1 y hT
 have hy:=(hu.take hT).1
 have hz:=hy.names hq
 have hlen:aa.length<=100000:=by
  have:=zIj _ [] y hy hq
  have:=hy.len
  simp only [List.length_nil] at *
  omega
 have e1:defT 3 n im ds u = .ok (sDfD 3 n im ds [] (aa.map mbOf) [],xx):=by rw [defT,e0,zY hT,zY hq];rfl
 rw [e1]
 refine zi (Sub.ownF (m:=5) (q:=904) (i:=5) (e:=79) rfl (by decide) rfl rfl rfl) ?_
 refine za (fun j st => ∃ i,i+j=aa.length/\Sub (cxE EN5 Tryz.prog pas w0 w he hp (outS al VDf (.ok (sDfD 3 n im ds [] (aa.map mbOf) [],xx)))) st (HdU al xx 3 n im ds aa i)) aa.length ⟨0,by omega,?_⟩ ?_
 . exact Sub.live ⟨rfl,rfl,rfl,rfl,rfl,rfl,rfl,trivial⟩ ⟨rfl,rfl,rfl,rfl,rfl,trivial⟩
 rintro j st ⟨i,hij,hsub⟩
 refine zi hsub ?_
 clear hsub
 have K:i<aa.length->decide ((i:Int)<(aa.length:Int))=false->False:=fun h2 h=>by simp at h;omega
 have K2:i=aa.length->decide ((i:Int)<(aa.length:Int))=true->False:=fun h2 h=>by simp at h;omega
 by_cases hi:i<aa.length
 . repeat' (first
|apply zBI (VMb (mbOf (gD aa i))) rfl rfl
 . conv=>lhs;whnf;arg 2;whnf
 . repeat' (first | exact VLe.refl _ | exact VLe.nil _ | exact VLe.lit _ _ | exact VLe.own _ _ _ | apply VLe.agg | apply VLeL.cons | exact VLeL.nil)
|apply zFI [mbOf (gD aa i)] rfl rfl
 . conv=>lhs;whnf
 . first | exact zFj | (conv=>lhs;whnf;arg 1;whnf)
 . rfl
 . rfl
 . repeat' (first | exact trivial | apply And.intro | rfl)
|exact (K hi ‹_›).elim
|refine zA ?_
|refine zB ?_
|refine zK ?_
|refine zP ?_
|apply aw_1
 conv=>whnf
 refine ⟨?_,trivial⟩
|apply s_1
 conv=>whnf;arg 1;arg 4;arg 3;whnf
 refine ⟨?_,?_⟩
|apply zV rfl rfl rfl
 . conv=>lhs;whnf
 . conv=>lhs;whnf;arg 1;whnf
 . conv=>lhs;whnf;arg 1;whnf
 . exact ⟨by kernel_rfl,by kernel_rfl⟩
 . rfl
|apply zEW rfl rfl
 . conv=>lhs;whnf
 . first | exact zFj | (conv=>lhs;whnf;arg 1;whnf)
 . first | exact fun _=>rfl | (intro _;kernel_rfl)
 . conv=>lhs;whnf
 . conv=>lhs;whnf;arg 1;whnf
 . conv=>lhs;whnf
|refine zZ (by conv=>lhs;whnf) ?_ ?_<;>intro hb
|exact trivial)
   all_goals first
    |exact zS (by omega)
    |exact (⟨by omega,by omega⟩:0<=(i:Int)/\(i:Int)<(aa.length:Int))
    |(refine ⟨by simp,?_,?_⟩<;>simp only [List.length_map,List.length_take,List.length_cons,List.length_nil,maxLen]<;>omega)
    |skip
   have et:(aa.take (i+1)).map mbOf=(aa.take i).map mbOf++[mbOf (gD aa i)]:=by
    rw [List.take_add_one,List.map_append,List.getElem?_eq_getElem hi,zA2 hi];rfl
   refine zH (j':=j-1) (by omega) ⟨i+1,by omega,Sub.live ⟨rfl,rfl,rfl,rfl,rfl,rfl,rfl,trivial⟩ ⟨rfl,rfl,rfl,?_,?_,trivial⟩⟩
   . show some (Res.box _ [_,_,_,_,_,V.own 904 _ ((aa.take i).map mbOf++[mbOf (gD aa i)]),_])=some (Res.box _ [_,_,_,_,_,V.own 904 _ ((aa.take (i+1)).map mbOf),_])
     rw [et]
   . show some (Res.tok _ (((aa.take i).map mbOf).length+1))=some (Res.tok _ ((aa.take (i+1)).map mbOf).length)
     rw [et,List.length_append];rfl
 . have hi2:i=aa.length:=by omega
   have et:(aa.take i).map mbOf=aa.map mbOf:=by rw [hi2,List.take_length]
   repeat' (first
|apply zBI (VDf (sDfD 3 n im ds [] ((aa.take i).map mbOf) [])) rfl rfl
 . conv=>lhs;whnf;arg 2;whnf
 . repeat' (first | exact VLe.refl _ | exact VLe.nil _ | exact VLe.lit _ _ | exact VLe.own _ _ _ | apply VLe.agg | apply VLeL.cons | exact VLeL.nil)
|exact (K2 hi2 ‹_›).elim
|refine zA ?_
|refine zB ?_
|refine zK ?_
|apply aw_1
 conv=>whnf
 refine ⟨?_,trivial⟩
|apply s_1
 conv=>whnf;arg 1;arg 4;arg 3;whnf
 refine ⟨?_,?_⟩
|apply zV rfl rfl rfl
 . conv=>lhs;whnf
 . conv=>lhs;whnf;arg 1;whnf
 . conv=>lhs;whnf;arg 1;whnf
 . exact ⟨by kernel_rfl,by kernel_rfl⟩
 . rfl
|refine zZ (by conv=>lhs;whnf) ?_ ?_<;>intro hb
|refine zL ?_
|refine zM ?_
|refine zJ rfl ?_
|refine zI ?_
|apply zAV rfl
 . conv=>lhs;whnf;arg 2;whnf
 . conv=>lhs;whnf;arg 1;whnf
|exact trivial)
   rw [et];rfl
end
end
section
open Go.RowKit
noncomputable def HdG (al:List Tok) (u:PS) (k:Int) (n:List UInt8):Vst 74:=
 stS 74 [(1,.c (.int .i64 k)),(2,.bx 2 0),(4,.bx 4 0),(5,.bx 5 0)] [(pn 0,boxS al u),(2,.box 62 [.bx (pn 0) 0]),(4,.box 45 zDef),(5,.box 45 [.c (.int .i64 k),.c (.string (bs n)),.c (.slice none 0 0),.c (.slice none 0 0),.c (.slice none 0 0),.c (.slice none 0 0),.c (.slice none 0 0)])]
noncomputable def HdE (al:List Tok) (u:PS) (k:Int) (n:List UInt8) (im:List D):Vst 74:=
 stS 74 [(1,.c (.int .i64 k)),(2,.bx 2 0),(4,.bx 4 0),(5,.bx 5 0)] [(pn 0,boxS al u),(2,.box 62 [.bx (pn 0) 0]),(4,.box 45 zDef),(5,.box 45 [.c (.int .i64 k),.c (.string (bs n)),.sl 9 im,.c (.slice none 0 0),.c (.slice none 0 0),.c (.slice none 0 0),.c (.slice none 0 0)])]
attribute [local irreducible] wpList Calls Code.wp AW AWo OpOk seqK zq zt loopK endK AC zg Yld Sub
attribute [local irreducible] ACB ACX ACE absLexG YldG absLexU YldU
section
variable {al:List Tok} (hal:al.length<=100000) (hkd:Kd al)
include hal hkd
theorem zLW (k:Int) (n:List UInt8) (im ds:List D) {u:PS} (hu:Sx al u) {pas:Nat->Prop} {w0:Sg} {w:World} {he:EN5.E w} {hp : ∀ k,k<EN5.G -> ¬ pas k} :
 AW (cxE EN5 Tryz.prog pas w0 w he hp (outS al VDf (defT k n im ds u))) zHq (HdD al u k n im ds) (zFi Tryz.prog Tryz.f52.results (outS al VDf (defT k n im ds u))):=by
 by_cases h3:k=3
 . subst h3;exact def_un hal n im ds hu
 by_cases h4:k=4
 . subst h4;exact def_mb hal hkd n im ds hu
 by_cases h5:k=5
 . subst h5;exact def_in hal hkd n im ds hu
 exact def_fd hal hkd k ⟨h3,h4,h5⟩ n im ds hu
theorem p_def (k:Int) {x:PS} (h:Sx al x):ACE EN5 Tryz.prog 52 [.bx (pn 0) 0,.c (.int .i64 k)] [boxS al x] (outS al VDf (sdefQ k x)):=by
 have hnm:=zDn h hal
 rcases hN:nameQ x with e1 | ⟨n,y⟩
 . rw [sdefQ,zn hN]
   rw [hN] at hnm
   refine zk (fn:=Tryz.f52) 74 Tryz.func52 rfl rfl ?_
   intro pas w0 w he hp
   repeat' (first
|apply s_pr (clS al) (zR al) rfl
 . conv=>lhs;whnf
 . conv=>lhs;whnf
 . rfl
 . conv=>lhs;whnf;arg 1;whnf
 . first | exact zm _ _
 . first | exact hnm
 . exact fun _=>rfl
 . first | (intro _ _;simp only [renL,renV,ren_cells];done) | exact fun _ _=>rfl
 refine fun ee hq => ?_
 change _=Out.die _
 rotate_left 1
 refine fun aa xx hq => ?_
 first | (replace hq:=zAD hq;obtain ⟨hq,rfl⟩:=hq) | (cases hq;have hq:=True.intro) | skip
|refine zA ?_
|refine zB ?_
|refine zK ?_
|apply aw_1
 conv=>whnf
 refine ⟨?_,trivial⟩
|apply s_1
 conv=>whnf;arg 1;arg 4;arg 3;whnf
 refine ⟨?_,?_⟩
|apply zAA rfl rfl rfl rfl
 . conv=>lhs;whnf;arg 1;whnf
 . rfl
|exact trivial)
   all_goals first
    |exact zAw ‹_›
    |(cases hq;done)
 have hy:=(h.name hN).1
 rw [hN] at hnm
 have hm:=zD8 hy hal
 have hno:=zHJ hy hal
 have hal2:=hy.len
 have hdl : ∀ {z:PS},Sx al z->ACE EN5 Tryz.prog 118 [.bx (pn 0) 0] [boxS al z] (outS al (fun l => .sl 108 l) (dirsQ z)):=fun h=>zGQ hal hkd h
 by_cases F:k=1/\(hdT y).k=2/\(hdT y).s=zIw
 . have hk5:(hdT y).k≠5:=by rw [F.2.1];decide
   have hyc:=etaS1 hy hk5
   have hny:=(hy.nx hk5).1
   have hna:=p_names hal [38] hny
   have K1:((k==1)==true)=false->False:=fun h=>by rw [F.1] at h;cases h
   have K2:(((hdT y).k==2)==true)=false->False:=fun h=>by rw [F.2.1] at h;cases h
   have K3:((bs (hdT y).s).toList==(⟨#[105,109,112,108,101,109,101,110,116,115]⟩:ByteArray).toList)=false->False:=fun h=>zBN h F.2.2
   rcases hF:zBR [38] (nxT y) with e1 | ⟨im,z⟩
   . rw [sdefQ,zY hN,zA3,if_pos F,zn hF]
     rw [hF] at hna
     refine zk (fn:=Tryz.f52) 74 Tryz.func52 rfl rfl ?_
     intro pas w0 w he hp
     repeat' (first
|apply zAJ (clS al) (zR al) rfl
 . conv=>lhs;whnf
 . conv=>lhs;whnf
 . first | rfl | assumption
 . conv=>lhs;whnf
 . rfl
 . conv=>lhs;whnf;arg 1;whnf
 . first | exact zm _ _
 . first | exact hm | exact hno
 . exact fun _=>rfl
 . exact fun _=>rfl
|apply zX rfl
 . conv=>lhs;whnf
 . conv=>lhs;whnf
 . first | rfl | assumption
|apply s_pr (clS al) (zR al) rfl
 . conv=>lhs;whnf
 . conv=>lhs;whnf
 . rfl
 . conv=>lhs;whnf;arg 1;whnf
 . first | exact zm _ _
 . first | exact hnm | exact hna
 . exact fun _=>rfl
 . first | (intro _ _;simp only [renL,renV,ren_cells];done) | exact fun _ _=>rfl
 refine fun ee hq => ?_
 change _=Out.die _
 rotate_left 1
 refine fun aa xx hq => ?_
 first | (replace hq:=zAD hq;obtain ⟨hq,rfl⟩:=hq) | (cases hq;have hq:=True.intro) | skip
|exact (K1 ‹_›).elim
|exact (K2 ‹_›).elim
|exact (K3 ‹_›).elim
|apply zv 4 (HdG al (nxT y) k n) rfl
|refine zB3 ?_
|refine zA ?_
|refine zB ?_
|refine zK ?_
|apply aw_1
 conv=>whnf
 refine ⟨?_,trivial⟩
|apply zT rfl rfl
 . conv=>lhs;whnf
 . conv=>lhs;whnf
 . first | exact bT1 ‹_› | exact bT2 ‹_›
|apply s_1
 conv=>whnf;arg 1;arg 4;arg 3;whnf
 refine ⟨?_,?_⟩
|apply zAA rfl rfl rfl rfl
 . conv=>lhs;whnf;arg 1;whnf
 . rfl
|apply zV rfl rfl rfl
 . conv=>lhs;whnf
 . conv=>lhs;whnf;arg 1;whnf
 . conv=>lhs;whnf;arg 1;whnf
 . exact ⟨by kernel_rfl,by kernel_rfl⟩
 . rfl
|apply zF rfl
 . conv=>lhs;whnf
 . conv=>lhs;whnf
 . first | rfl | assumption
 . conv=>lhs;whnf;arg 2;whnf
|apply zC rfl
 . conv=>lhs;whnf
 . conv=>lhs;whnf
 . conv=>lhs;whnf;arg 2;whnf
|refine zZ (by conv=>lhs;whnf) ?_ ?_<;>intro hb
|exact trivial
|intro hg)
     all_goals first
      |exact zS (by omega)
      |exact Sub.live ⟨rfl,rfl,rfl,rfl,trivial⟩ ⟨congrArg (fun c=>some (Res.box _ c)) hyc,rfl,rfl,rfl,trivial⟩
      |exact zAw ‹_›
      |(cases hq;done)
      |skip
   have hz:=(hny.names hF).1
   have hdi:=hdl hz
   rcases hD:dirsQ z with e1 | ⟨ds,u⟩
   . rw [sdefQ,zY hN,zA3,if_pos F,zY hF,zn hD]
     rw [hF] at hna
     rw [hD] at hdi
     refine zk (fn:=Tryz.f52) 74 Tryz.func52 rfl rfl ?_
     intro pas w0 w he hp
     repeat' (first
|apply zAJ (clS al) (zR al) rfl
 . conv=>lhs;whnf
 . conv=>lhs;whnf
 . first | rfl | assumption
 . conv=>lhs;whnf
 . rfl
 . conv=>lhs;whnf;arg 1;whnf
 . first | exact zm _ _
 . first | exact hm | exact hno
 . exact fun _=>rfl
 . exact fun _=>rfl
|apply zX rfl
 . conv=>lhs;whnf
 . conv=>lhs;whnf
 . first | rfl | assumption
|apply s_pr (clS al) (zR al) rfl
 . conv=>lhs;whnf
 . conv=>lhs;whnf
 . rfl
 . conv=>lhs;whnf;arg 1;whnf
 . first | exact zm _ _
 . first | exact hnm | exact hna | exact hdi
 . exact fun _=>rfl
 . first | (intro _ _;simp only [renL,renV,ren_cells];done) | exact fun _ _=>rfl
 refine fun ee hq => ?_
 change _=Out.die _
 rotate_left 1
 refine fun aa xx hq => ?_
 first | (replace hq:=zAD hq;obtain ⟨hq,rfl⟩:=hq) | (cases hq;have hq:=True.intro) | skip
|exact (K1 ‹_›).elim
|exact (K2 ‹_›).elim
|exact (K3 ‹_›).elim
|apply zv 4 (HdG al (nxT y) k n) rfl
|apply zv 5 (HdE al z k n im) rfl
|refine zB3 ?_
|refine zA ?_
|refine zB ?_
|refine zK ?_
|apply aw_1
 conv=>whnf
 refine ⟨?_,trivial⟩
|apply zT rfl rfl
 . conv=>lhs;whnf
 . conv=>lhs;whnf
 . first | exact bT1 ‹_› | exact bT2 ‹_›
|apply s_1
 conv=>whnf;arg 1;arg 4;arg 3;whnf
 refine ⟨?_,?_⟩
|apply zAA rfl rfl rfl rfl
 . conv=>lhs;whnf;arg 1;whnf
 . rfl
|apply zV rfl rfl rfl
 . conv=>lhs;whnf
 . conv=>lhs;whnf;arg 1;whnf
 . conv=>lhs;whnf;arg 1;whnf
 . exact ⟨by kernel_rfl,by kernel_rfl⟩
 . rfl
|apply zF rfl
 . conv=>lhs;whnf
 . conv=>lhs;whnf
 . first | rfl | assumption
 . conv=>lhs;whnf;arg 2;whnf
|apply zC rfl
 . conv=>lhs;whnf
 . conv=>lhs;whnf
 . conv=>lhs;whnf;arg 2;whnf
|refine zZ (by conv=>lhs;whnf) ?_ ?_<;>intro hb
|exact trivial
|intro hg)
     all_goals first
      |exact zS (by omega)
      |exact Sub.live ⟨rfl,rfl,rfl,rfl,trivial⟩ ⟨congrArg (fun c=>some (Res.box _ c)) hyc,rfl,rfl,rfl,trivial⟩
      |exact Sub.live ⟨rfl,rfl,rfl,rfl,trivial⟩ ⟨rfl,rfl,rfl,rfl,trivial⟩
      |exact zAw ‹_›
      |(cases hq;done)
      |skip
   rw [show sdefQ k x=defT k n im ds u by rw [sdefQ,zY hN,zA3,if_pos F,zY hF,zY hD];rfl]
   rw [hF] at hna
   rw [hD] at hdi
   have hu:=(hz.dirs hD).1
   refine zk (fn:=Tryz.f52) 74 Tryz.func52 rfl rfl ?_
   intro pas w0 w he hp
   repeat' (first
|exact zLW hal hkd k n im ds hu
|apply zAJ (clS al) (zR al) rfl
 . conv=>lhs;whnf
 . conv=>lhs;whnf
 . first | rfl | assumption
 . conv=>lhs;whnf
 . rfl
 . conv=>lhs;whnf;arg 1;whnf
 . first | exact zm _ _
 . first | exact hm | exact hno
 . exact fun _=>rfl
 . exact fun _=>rfl
|apply zX rfl
 . conv=>lhs;whnf
 . conv=>lhs;whnf
 . first | rfl | assumption
|apply s_pr (clS al) (zR al) rfl
 . conv=>lhs;whnf
 . conv=>lhs;whnf
 . rfl
 . conv=>lhs;whnf;arg 1;whnf
 . first | exact zm _ _
 . first | exact hnm | exact hna | exact hdi
 . exact fun _=>rfl
 . first | (intro _ _;simp only [renL,renV,ren_cells];done) | exact fun _ _=>rfl
 refine fun ee hq => ?_
 change _=Out.die _
 rotate_left 1
 refine fun aa xx hq => ?_
 first | (replace hq:=zAD hq;obtain ⟨hq,rfl⟩:=hq) | (cases hq;have hq:=True.intro) | skip
|exact (K1 ‹_›).elim
|exact (K2 ‹_›).elim
|exact (K3 ‹_›).elim
|apply zv 4 (HdG al (nxT y) k n) rfl
|apply zv 5 (HdE al z k n im) rfl
|apply zv 6 (HdD al u k n im ds) rfl
|refine zB3 ?_
|refine zA ?_
|refine zB ?_
|refine zK ?_
|apply aw_1
 conv=>whnf
 refine ⟨?_,trivial⟩
|apply zT rfl rfl
 . conv=>lhs;whnf
 . conv=>lhs;whnf
 . first | exact bT1 ‹_› | exact bT2 ‹_›
|apply s_1
 conv=>whnf;arg 1;arg 4;arg 3;whnf
 refine ⟨?_,?_⟩
|apply zAA rfl rfl rfl rfl
 . conv=>lhs;whnf;arg 1;whnf
 . rfl
|apply zV rfl rfl rfl
 . conv=>lhs;whnf
 . conv=>lhs;whnf;arg 1;whnf
 . conv=>lhs;whnf;arg 1;whnf
 . exact ⟨by kernel_rfl,by kernel_rfl⟩
 . rfl
|apply zF rfl
 . conv=>lhs;whnf
 . conv=>lhs;whnf
 . first | rfl | assumption
 . conv=>lhs;whnf;arg 2;whnf
|apply zC rfl
 . conv=>lhs;whnf
 . conv=>lhs;whnf
 . conv=>lhs;whnf;arg 2;whnf
|refine zZ (by conv=>lhs;whnf) ?_ ?_<;>intro hb
|exact trivial
|intro hg)
   all_goals first
    |exact zS (by omega)
    |exact Sub.live ⟨rfl,rfl,rfl,rfl,trivial⟩ ⟨congrArg (fun c=>some (Res.box _ c)) hyc,rfl,rfl,rfl,trivial⟩
    |exact Sub.live ⟨rfl,rfl,rfl,rfl,trivial⟩ ⟨rfl,rfl,rfl,rfl,trivial⟩
    |(cases hq;done)
    |skip
 have KN:((k==1)==true)=true->(((hdT y).k==2)==true)=true->((bs (hdT y).s).toList==(⟨#[105,109,112,108,101,109,101,110,116,115]⟩:ByteArray).toList)=true->False:=fun h1 h2 h3 =>
  F ⟨by simpa using h1,by simpa using h2,zFH h3⟩
 have hdi:=hdl hy
 rcases hD:dirsQ y with e1 | ⟨ds,u⟩
 . rw [sdefQ,zY hN,zA3,if_neg F,zY (r:=.ok ([],y)) rfl,zn hD]
   rw [hD] at hdi
   refine zk (fn:=Tryz.f52) 74 Tryz.func52 rfl rfl ?_
   intro pas w0 w he hp
   repeat' (first
|apply zAJ (clS al) (zR al) rfl
 . conv=>lhs;whnf
 . conv=>lhs;whnf
 . first | rfl | assumption
 . conv=>lhs;whnf
 . rfl
 . conv=>lhs;whnf;arg 1;whnf
 . first | exact zm _ _
 . first | exact hm | exact hno
 . exact fun _=>rfl
 . exact fun _=>rfl
|apply zX rfl
 . conv=>lhs;whnf
 . conv=>lhs;whnf
 . first | rfl | assumption
|apply s_pr (clS al) (zR al) rfl
 . conv=>lhs;whnf
 . conv=>lhs;whnf
 . rfl
 . conv=>lhs;whnf;arg 1;whnf
 . first | exact zm _ _
 . first | exact hnm | exact hdi
 . exact fun _=>rfl
 . first | (intro _ _;simp only [renL,renV,ren_cells];done) | exact fun _ _=>rfl
 refine fun ee hq => ?_
 change _=Out.die _
 rotate_left 1
 refine fun aa xx hq => ?_
 first | (replace hq:=zAD hq;obtain ⟨hq,rfl⟩:=hq) | (cases hq;have hq:=True.intro) | skip
|exact (KN ‹_› ‹_› ‹_›).elim
|apply zv 5 (HdE al y k n []) rfl
|refine zB3 ?_
|refine zA ?_
|refine zB ?_
|refine zK ?_
|apply aw_1
 conv=>whnf
 refine ⟨?_,trivial⟩
|apply zT rfl rfl
 . conv=>lhs;whnf
 . conv=>lhs;whnf
 . first | exact bT1 ‹_› | exact bT2 ‹_›
|apply zQ rfl rfl
 . conv=>lhs;whnf
 . conv=>lhs;whnf
 . first | exact bF1 ‹_› | exact bF2 ‹_›
|apply s_1
 conv=>whnf;arg 1;arg 4;arg 3;whnf
 refine ⟨?_,?_⟩
|apply zAA rfl rfl rfl rfl
 . conv=>lhs;whnf;arg 1;whnf
 . rfl
|apply zV rfl rfl rfl
 . conv=>lhs;whnf
 . conv=>lhs;whnf;arg 1;whnf
 . conv=>lhs;whnf;arg 1;whnf
 . exact ⟨by kernel_rfl,by kernel_rfl⟩
 . rfl
|apply zF rfl
 . conv=>lhs;whnf
 . conv=>lhs;whnf
 . first | rfl | assumption
 . conv=>lhs;whnf;arg 2;whnf
|apply zC rfl
 . conv=>lhs;whnf
 . conv=>lhs;whnf
 . conv=>lhs;whnf;arg 2;whnf
|refine zZ (by conv=>lhs;whnf) ?_ ?_<;>intro hb
|exact trivial
|intro hg)
   all_goals first
    |exact zS (by omega)
    |exact (Sub.boxle (m:=5) (t:=45) (vs:=[.c (.int .i64 k),.c (.string (bs n)),.c (.slice none 0 0),.c (.slice none 0 0),.c (.slice none 0 0),.c (.slice none 0 0),.c (.slice none 0 0)]) (vs':=[.c (.int .i64 k),.c (.string (bs n)),.sl 9 [],.c (.slice none 0 0),.c (.slice none 0 0),.c (.slice none 0 0),.c (.slice none 0 0)]) rfl (.cons (.refl _) (.cons (.refl _) (.cons (.nil _) (.cons (.refl _) (.cons (.refl _) (.cons (.refl _) (.cons (.refl _) .nil)))))))).trans (Sub.live ⟨rfl,rfl,rfl,rfl,trivial⟩ ⟨rfl,rfl,rfl,rfl,trivial⟩)
    |exact zAw ‹_›
    |(cases hq;done)
    |skip
 rw [show sdefQ k x=defT k n [] ds u by rw [sdefQ,zY hN,zA3,if_neg F,zY (r:=.ok ([],y)) rfl,zY hD];rfl]
 rw [hD] at hdi
 have hu:=(hy.dirs hD).1
 refine zk (fn:=Tryz.f52) 74 Tryz.func52 rfl rfl ?_
 intro pas w0 w he hp
 repeat' (first
|exact zLW hal hkd k n [] ds hu
|apply zAJ (clS al) (zR al) rfl
 . conv=>lhs;whnf
 . conv=>lhs;whnf
 . first | rfl | assumption
 . conv=>lhs;whnf
 . rfl
 . conv=>lhs;whnf;arg 1;whnf
 . first | exact zm _ _
 . first | exact hm | exact hno
 . exact fun _=>rfl
 . exact fun _=>rfl
|apply zX rfl
 . conv=>lhs;whnf
 . conv=>lhs;whnf
 . first | rfl | assumption
|apply s_pr (clS al) (zR al) rfl
 . conv=>lhs;whnf
 . conv=>lhs;whnf
 . rfl
 . conv=>lhs;whnf;arg 1;whnf
 . first | exact zm _ _
 . first | exact hnm | exact hdi
 . exact fun _=>rfl
 . first | (intro _ _;simp only [renL,renV,ren_cells];done) | exact fun _ _=>rfl
 refine fun ee hq => ?_
 change _=Out.die _
 rotate_left 1
 refine fun aa xx hq => ?_
 first | (replace hq:=zAD hq;obtain ⟨hq,rfl⟩:=hq) | (cases hq;have hq:=True.intro) | skip
|exact (KN ‹_› ‹_› ‹_›).elim
|apply zv 5 (HdE al y k n []) rfl
|apply zv 6 (HdD al u k n [] ds) rfl
|refine zB3 ?_
|refine zA ?_
|refine zB ?_
|refine zK ?_
|apply aw_1
 conv=>whnf
 refine ⟨?_,trivial⟩
|apply zT rfl rfl
 . conv=>lhs;whnf
 . conv=>lhs;whnf
 . first | exact bT1 ‹_› | exact bT2 ‹_›
|apply zQ rfl rfl
 . conv=>lhs;whnf
 . conv=>lhs;whnf
 . first | exact bF1 ‹_› | exact bF2 ‹_›
|apply s_1
 conv=>whnf;arg 1;arg 4;arg 3;whnf
 refine ⟨?_,?_⟩
|apply zAA rfl rfl rfl rfl
 . conv=>lhs;whnf;arg 1;whnf
 . rfl
|apply zV rfl rfl rfl
 . conv=>lhs;whnf
 . conv=>lhs;whnf;arg 1;whnf
 . conv=>lhs;whnf;arg 1;whnf
 . exact ⟨by kernel_rfl,by kernel_rfl⟩
 . rfl
|apply zF rfl
 . conv=>lhs;whnf
 . conv=>lhs;whnf
 . first | rfl | assumption
 . conv=>lhs;whnf;arg 2;whnf
|apply zC rfl
 . conv=>lhs;whnf
 . conv=>lhs;whnf
 . conv=>lhs;whnf;arg 2;whnf
|refine zZ (by conv=>lhs;whnf) ?_ ?_<;>intro hb
|exact trivial
|intro hg)
 all_goals first
  |exact zS (by omega)
  |exact (Sub.boxle (m:=5) (t:=45) (vs:=[.c (.int .i64 k),.c (.string (bs n)),.c (.slice none 0 0),.c (.slice none 0 0),.c (.slice none 0 0),.c (.slice none 0 0),.c (.slice none 0 0)]) (vs':=[.c (.int .i64 k),.c (.string (bs n)),.sl 9 [],.c (.slice none 0 0),.c (.slice none 0 0),.c (.slice none 0 0),.c (.slice none 0 0)]) rfl (.cons (.refl _) (.cons (.refl _) (.cons (.nil _) (.cons (.refl _) (.cons (.refl _) (.cons (.refl _) (.cons (.refl _) .nil)))))))).trans (Sub.live ⟨rfl,rfl,rfl,rfl,trivial⟩ ⟨rfl,rfl,rfl,rfl,trivial⟩)
  |exact Sub.live ⟨rfl,rfl,rfl,rfl,trivial⟩ ⟨rfl,rfl,rfl,rfl,trivial⟩
  |(cases hq;done)
  |skip
end
end
section
open Go.RowKit
attribute [local irreducible] wpList Calls Code.wp AW AWo OpOk seqK zq zt loopK endK AC zg Yld Sub
attribute [local irreducible] ACB ACX ACE absLexG YldG absLexU YldU
theorem elemDf:zz Tryz.prog 23=some (45,144):=by kernel_rfl
def zDoc:List V:=[.c (.slice none 0 0)]
noncomputable def VDc (d:D):V:=.agg (cellsV Tryz.prog 12 25 d)
noncomputable def HqS (al:List Tok) (z:PS) (acc:List D):Vst 47:=
 stS 47 [(0,.bx (pn 0) 0),(2,.bx 2 0),(3,.bx 3 0)] [(pn 0,boxS al z),(2,.box 25 zDoc),(3,.box 25 [.own 907 45 acc]),(907,.tok 45 acc.length)]
noncomputable def HqK (al:List Tok) (z:PS) (acc:List D) (k:Int):Vst 47:=
 stS 47 [(0,.bx (pn 0) 0),(2,.bx 2 0),(3,.bx 3 0),(4,.c (.int .i64 k))] [(pn 0,boxS al z),(2,.box 25 zDoc),(3,.box 25 [.own 907 45 acc]),(907,.tok 45 acc.length)]
theorem p_doc {al:List Tok} (hal:al.length<=100000) (hkd:Kd al) {x:PS} (h:Sx al x) (n:Nat) (hn:x.ts.length<n):ACE EN5 Tryz.prog 25 [.bx (pn 0) 0] [boxS al x] (outS al (fun l=>VDc (zCl l)) (sdocF n [] x)):=by
 have hxl:=h.len
 refine zk (fn:=Tryz.f25) 47 Tryz.func25 rfl rfl ?_
 intro pas w0 w he hp
 repeat' (first
|refine zA ?_
|refine zB ?_
|refine zK ?_
|apply aw_1
 conv=>whnf
 refine ⟨?_,trivial⟩
|apply s_1
 conv=>whnf;arg 1;arg 4;arg 3;whnf
 refine ⟨?_,?_⟩
|exact trivial)
 refine zi (Sub.ownF (m:=3) (q:=907) (i:=0) (e:=45) rfl (by decide) rfl rfl rfl) ?_
 refine za (fun j st => ∃ z acc,Sx al z/\z.ts.length<j/\acc.length+z.ts.length<=x.ts.length/\sdocF n [] x=sdocF j acc z/\Sub (cxE EN5 Tryz.prog pas w0 w he hp (outS al (fun l=>VDc (zCl l)) (sdocF n [] x))) st (HqS al z acc)) n ⟨x,[],h,hn,by simp,rfl,?_⟩ ?_
 . exact Sub.live ⟨rfl,rfl,rfl,trivial⟩ ⟨rfl,rfl,rfl,rfl,trivial⟩
 rintro j st ⟨z,acc,hz,hzj,hzl,hI,hsub⟩
 refine zi hsub ?_
 clear hsub
 rw [hI]
 clear hI
 cases j with
 |zero=>omega
 |succ j =>
 have hno:=zHJ hz hal
 have hm:=zD8 hz hal
 have hf3:=zCp hz hal 3
 have hf4:=zCp hz hal 4
 have hkf:=p_kindOf (hdT z).s
 have K0:acc.length≠0->(((acc.length:Int)==0)==false)=false->False:=fun h1 h2=>by simp at h2;exact h1 (by rw [h2];rfl)
 have K2:acc.length=0->(((acc.length:Int)==0)==false)=true->False:=fun h0 h2=>by rw [h0] at h2;cases h2
 by_cases hE:acc.length≠0/\(hdT z).k=5
 . have K1:((hdT z).k != 5)=true->False:=fun h=>by rw [hE.2] at h;cases h
   rw [sdocF,if_pos hE]
   repeat' (first
|apply zBI (VDc (zCl acc)) rfl rfl
 . conv=>lhs;whnf;arg 2;whnf
 . repeat' (first | exact VLe.refl _ | exact VLe.nil _ | exact VLe.lit _ _ | exact VLe.own _ _ _ | apply VLe.agg | apply VLeL.cons | exact VLeL.nil)
|apply zAJ (clS al) (zR al) rfl
 . conv=>lhs;whnf
 . conv=>lhs;whnf
 . first | rfl | assumption
 . conv=>lhs;whnf
 . rfl
 . conv=>lhs;whnf;arg 1;whnf
 . first | exact zm _ _
 . first | exact hno
 . exact fun _=>rfl
 . exact fun _=>rfl
|apply zX rfl
 . conv=>lhs;whnf
 . conv=>lhs;whnf
 . first | rfl | assumption
|exact (K0 hE.1 ‹_›).elim
|exact (K1 ‹_›).elim
|refine zA ?_
|refine zB ?_
|refine zK ?_
|apply aw_1
 conv=>whnf
 refine ⟨?_,trivial⟩
|apply zQ rfl rfl
 . conv=>lhs;whnf
 . conv=>lhs;whnf
 . first | exact bF1 ‹_› | exact bF2 ‹_›
|apply s_1
 conv=>whnf;arg 1;arg 4;arg 3;whnf
 refine ⟨?_,?_⟩
|apply zV rfl rfl rfl
 . conv=>lhs;whnf
 . conv=>lhs;whnf;arg 1;whnf
 . conv=>lhs;whnf;arg 1;whnf
 . exact ⟨by kernel_rfl,by kernel_rfl⟩
 . rfl
|apply zF rfl
 . conv=>lhs;whnf
 . conv=>lhs;whnf
 . first | rfl | assumption
 . conv=>lhs;whnf;arg 2;whnf
|apply zC rfl
 . conv=>lhs;whnf
 . conv=>lhs;whnf
 . conv=>lhs;whnf;arg 2;whnf
|refine zZ (by conv=>lhs;whnf) ?_ ?_<;>intro hb
|refine zL ?_
|refine zJ rfl ?_
|refine zI ?_
|apply zAV rfl
 . conv=>lhs;whnf;arg 2;whnf
 . conv=>lhs;whnf;arg 1;whnf
|exact trivial
|intro hg)
   all_goals first
    |rfl
    |skip
 have KE:(((acc.length:Int)==0)==false)=true->((hdT z).k != 5)=false->False:=fun h1 h2=>hE ⟨fun e=>K2 e h1,by simpa using h2⟩
 rw [sdocF,if_neg hE]
 by_cases hw:(hdT z).k=2/\0<zA0 (hdT z).s
 . rw [if_neg (show ¬ ¬ ((hdT z).k=2/\0<zA0 (hdT z).s) from fun h=>h hw)]
   rw [show ((hdT z).k==2)=true by rw [hw.1];rfl] at hm
   have K6:(zA0 (hdT z).s==0)=true->False:=fun h=>absurd (beq_iff_eq.1 h) (fun e=>by rw [e] at hw;exact absurd hw.2 (by decide))
   by_cases h64:64<=acc.length
   . have K8:decide ((acc.length:Int)>=64)=false->False:=fun h=>by simp at h;omega
     rw [if_pos h64]
     repeat' (first
|apply s_m (clS al) (zR al) rfl
 . conv=>lhs;whnf
 . conv=>lhs;whnf
 . rfl
 . conv=>lhs;whnf;arg 1;whnf
 . first | exact zm _ _
 . first | exact hno | exact hm
 . exact fun _=>rfl
 . exact fun _=>rfl
|apply zAJ (clS al) (zR al) rfl
 . conv=>lhs;whnf
 . conv=>lhs;whnf
 . first | rfl | assumption
 . conv=>lhs;whnf
 . rfl
 . conv=>lhs;whnf;arg 1;whnf
 . first | exact zm _ _
 . first | exact hno | exact hm
 . exact fun _=>rfl
 . exact fun _=>rfl
|apply zX rfl
 . conv=>lhs;whnf
 . conv=>lhs;whnf
 . first | rfl | assumption
|apply zB0 [pn 0] rfl
 . conv=>lhs;whnf
 . first | exact hf4
 . decide
 . rfl
 . rfl
 change _=Out.die _
|exact (KE ‹_› ‹_›).elim
|exact (K6 ‹_›).elim
|exact (K8 ‹_›).elim
|refine zA ?_
|refine zB ?_
|refine zK ?_
|apply aw_1
 conv=>whnf
 refine ⟨?_,trivial⟩
|apply zT rfl rfl
 . conv=>lhs;whnf
 . conv=>lhs;whnf
 . first | exact bT1 ‹_› | exact bT2 ‹_›
|apply zQ rfl rfl
 . conv=>lhs;whnf
 . conv=>lhs;whnf
 . first | exact bF1 ‹_› | exact bF2 ‹_›
|apply s_1
 conv=>whnf;arg 1;arg 4;arg 3;whnf
 refine ⟨?_,?_⟩
|apply zb rfl
 . conv=>lhs;whnf
 . conv=>lhs;whnf
 . first | exact hkf
|apply zF rfl
 . conv=>lhs;whnf
 . conv=>lhs;whnf
 . first | rfl | assumption
 . conv=>lhs;whnf;arg 2;whnf
|apply zC rfl
 . conv=>lhs;whnf
 . conv=>lhs;whnf
 . conv=>lhs;whnf;arg 2;whnf
|refine zZ (by conv=>lhs;whnf) ?_ ?_<;>intro hb
|exact trivial
|intro hg)
     all_goals first
      |rfl
      |skip
   have K8:decide ((acc.length:Int)>=64)=true->False:=fun h=>by simp at h;omega
   rw [if_neg h64]
   have hk5:(hdT z).k≠5:=by rw [hw.1];decide
   have hyc:=etaS1 hz hk5
   have hny:=hz.nx hk5
   have hal2:=hz.len
   have hdf:=p_def hal hkd (zA0 (hdT z).s) hny.1
   repeat' (first
|apply zBh 9 ([(1,[3])]) ([(4,[1000000]),(6,[907]),(8,[3])]) rfl (by kernel_rfl) (by kernel_rfl) (by kernel_rfl)
|apply zHh
|apply zHg rfl
 . conv=>lhs;whnf
 . conv=>lhs;whnf;arg 2;whnf
|apply zIx rfl rfl
 . conv=>lhs;whnf
 . first | exact elemDf | (conv=>lhs;whnf;arg 1;whnf)
 . first | exact fun _=>rfl | (intro _;kernel_rfl)
 . conv=>lhs;whnf
 . rfl
 . conv=>lhs;whnf;arg 1;whnf
 . conv=>lhs;whnf
|apply zCO rfl rfl rfl
 . conv=>lhs;whnf
 . rfl
 . conv=>lhs;whnf;arg 1;whnf
 . conv=>lhs;whnf;arg 1;whnf
 . exact ⟨by kernel_rfl,by kernel_rfl⟩
 . rfl
|exact Or.inl ⟨pn 0,_,rfl⟩
|refine Or.inr ?_
|apply g_pr (clS al) (zR al) (default:D) rfl
 . conv=>lhs;whnf
 . conv=>lhs;whnf
 . rfl
 . conv=>lhs;whnf;arg 1;whnf
 . first | exact zm _ _
 . first | exact hdf
 . exact fun _=>rfl
 . first | (intro _ _;simp only [renL,renV,ren_cells];done) | exact fun _ _=>rfl
 . rfl
 refine fun ee hq tm rs => ?_
 change _=Out.die _
 rotate_left 1
 refine fun aa xx hq => ?_
 first | (cases hq;have hq:=True.intro) | skip
 rotate_left 1
 refine fun ee hq => ?_
 first | (cases hq;done) | skip
|show inO _ _=true;rfl
|apply zDr [aa] rfl rfl
 . conv=>lhs;whnf
 . first | exact elemDf | (conv=>lhs;whnf;arg 1;whnf)
 . rfl
 . rfl
 . repeat' (first | exact trivial | apply And.intro | rfl)
|apply zDr [default] rfl rfl
 . conv=>lhs;whnf
 . first | exact elemDf | (conv=>lhs;whnf;arg 1;whnf)
 . rfl
 . rfl
 . repeat' (first | exact trivial | apply And.intro | rfl)
|apply s_m (clS al) (zR al) rfl
 . conv=>lhs;whnf
 . conv=>lhs;whnf
 . rfl
 . conv=>lhs;whnf;arg 1;whnf
 . first | exact zm _ _
 . first | exact hno | exact hm
 . exact fun _=>rfl
 . exact fun _=>rfl
|apply zAJ (clS al) (zR al) rfl
 . conv=>lhs;whnf
 . conv=>lhs;whnf
 . first | rfl | assumption
 . conv=>lhs;whnf
 . rfl
 . conv=>lhs;whnf;arg 1;whnf
 . first | exact zm _ _
 . first | exact hno | exact hm
 . exact fun _=>rfl
 . exact fun _=>rfl
|apply zX rfl
 . conv=>lhs;whnf
 . conv=>lhs;whnf
 . first | rfl | assumption
|exact (KE ‹_› ‹_›).elim
|exact (K6 ‹_›).elim
|exact (K8 ‹_›).elim
|apply zv 6 (HqK al z acc (zA0 (hdT z).s)) rfl
|apply zv 11 (HqK al (nxT z) acc (zA0 (hdT z).s)) rfl
|refine zB3 ?_
|refine zA ?_
|refine zB ?_
|refine zK ?_
|refine zP ?_
|apply aw_1
 conv=>whnf
 refine ⟨?_,trivial⟩
|apply zT rfl rfl
 . conv=>lhs;whnf
 . conv=>lhs;whnf
 . first | exact bT1 ‹_› | exact bT2 ‹_›
|apply zQ rfl rfl
 . conv=>lhs;whnf
 . conv=>lhs;whnf
 . first | exact bF1 ‹_› | exact bF2 ‹_›
|apply s_1
 conv=>whnf;arg 1;arg 4;arg 3;whnf
 refine ⟨?_,?_⟩
|apply zb rfl
 . conv=>lhs;whnf
 . conv=>lhs;whnf
 . first | exact hkf
|apply zV rfl rfl rfl
 . conv=>lhs;whnf
 . conv=>lhs;whnf;arg 1;whnf
 . conv=>lhs;whnf;arg 1;whnf
 . exact ⟨by kernel_rfl,by kernel_rfl⟩
 . rfl
|apply zF rfl
 . conv=>lhs;whnf
 . conv=>lhs;whnf
 . first | rfl | assumption
 . conv=>lhs;whnf;arg 2;whnf
|apply zC rfl
 . conv=>lhs;whnf
 . conv=>lhs;whnf
 . conv=>lhs;whnf;arg 2;whnf
|refine zZ (by conv=>lhs;whnf) ?_ ?_<;>intro hb
|exact trivial
|intro hg)
   all_goals first
    |exact zS (by omega)
    |exact Sub.live ⟨rfl,rfl,rfl,rfl,trivial⟩ ⟨congrArg (fun c=>some (Res.box _ c)) hyc,rfl,rfl,rfl,trivial⟩
    |exact Sub.live ⟨rfl,rfl,rfl,rfl,trivial⟩ ⟨rfl,rfl,rfl,rfl,trivial⟩
    |(refine ⟨by simp,?_,?_⟩<;>simp only [List.length_cons,List.length_nil,maxLen]<;>omega)
    |(rw [zn hq];rfl)
    |skip
   all_goals
    have hx:=hny.1.sdef hq
    refine zH (j':=j) (by omega) ⟨xx,acc++[aa],hx.1,by omega,by rw [List.length_append];simp only [List.length_cons,List.length_nil];omega,by rw [zY hq],Sub.live ⟨rfl,rfl,rfl,trivial⟩ ⟨rfl,rfl,rfl,?_,trivial⟩⟩
    show some (Res.tok _ (acc.length+1))=some (Res.tok _ (acc++[aa]).length)
    rw [List.length_append];rfl
 rw [if_pos hw]
 by_cases hk:(hdT z).k=2
 . have hk0:zA0 (hdT z).s=0:=by have:=(zKy (hdT z).s).1;have h2 : ¬ 0<zA0 (hdT z).s:=fun h=>hw ⟨hk,h⟩;omega
   rw [hk0] at hkf
   rw [show ((hdT z).k==2)=true by rw [hk];rfl] at hm
   repeat' (first
|apply s_m (clS al) (zR al) rfl
 . conv=>lhs;whnf
 . conv=>lhs;whnf
 . rfl
 . conv=>lhs;whnf;arg 1;whnf
 . first | exact zm _ _
 . first | exact hno | exact hm
 . exact fun _=>rfl
 . exact fun _=>rfl
|apply zAJ (clS al) (zR al) rfl
 . conv=>lhs;whnf
 . conv=>lhs;whnf
 . first | rfl | assumption
 . conv=>lhs;whnf
 . rfl
 . conv=>lhs;whnf;arg 1;whnf
 . first | exact zm _ _
 . first | exact hno | exact hm
 . exact fun _=>rfl
 . exact fun _=>rfl
|apply zX rfl
 . conv=>lhs;whnf
 . conv=>lhs;whnf
 . first | rfl | assumption
|apply zB0 [pn 0] rfl
 . conv=>lhs;whnf
 . first | exact hf3
 . decide
 . rfl
 . rfl
 change _=Out.die _
|exact (KE ‹_› ‹_›).elim
|refine zA ?_
|refine zB ?_
|refine zK ?_
|apply aw_1
 conv=>whnf
 refine ⟨?_,trivial⟩
|apply zT rfl rfl
 . conv=>lhs;whnf
 . conv=>lhs;whnf
 . first | exact bT1 ‹_› | exact bT2 ‹_›
|apply zQ rfl rfl
 . conv=>lhs;whnf
 . conv=>lhs;whnf
 . first | exact bF1 ‹_› | exact bF2 ‹_›
|apply s_1
 conv=>whnf;arg 1;arg 4;arg 3;whnf
 refine ⟨?_,?_⟩
|apply zb rfl
 . conv=>lhs;whnf
 . conv=>lhs;whnf
 . first | exact hkf
|apply zF rfl
 . conv=>lhs;whnf
 . conv=>lhs;whnf
 . first | rfl | assumption
 . conv=>lhs;whnf;arg 2;whnf
|apply zC rfl
 . conv=>lhs;whnf
 . conv=>lhs;whnf
 . conv=>lhs;whnf;arg 2;whnf
|refine zZ (by conv=>lhs;whnf) ?_ ?_<;>intro hb
|exact trivial
|intro hg)
   all_goals first
    |rfl
    |skip
 . rw [show ((hdT z).k==2)=false by simpa using hk] at hm
   repeat' (first
|apply s_m (clS al) (zR al) rfl
 . conv=>lhs;whnf
 . conv=>lhs;whnf
 . rfl
 . conv=>lhs;whnf;arg 1;whnf
 . first | exact zm _ _
 . first | exact hno | exact hm
 . exact fun _=>rfl
 . exact fun _=>rfl
|apply zAJ (clS al) (zR al) rfl
 . conv=>lhs;whnf
 . conv=>lhs;whnf
 . first | rfl | assumption
 . conv=>lhs;whnf
 . rfl
 . conv=>lhs;whnf;arg 1;whnf
 . first | exact zm _ _
 . first | exact hno | exact hm
 . exact fun _=>rfl
 . exact fun _=>rfl
|apply zX rfl
 . conv=>lhs;whnf
 . conv=>lhs;whnf
 . first | rfl | assumption
|apply zB0 [pn 0] rfl
 . conv=>lhs;whnf
 . first | exact hf3
 . decide
 . rfl
 . rfl
 change _=Out.die _
|exact (KE ‹_› ‹_›).elim
|refine zA ?_
|refine zB ?_
|refine zK ?_
|apply aw_1
 conv=>whnf
 refine ⟨?_,trivial⟩
|apply zT rfl rfl
 . conv=>lhs;whnf
 . conv=>lhs;whnf
 . first | exact bT1 ‹_› | exact bT2 ‹_›
|apply zQ rfl rfl
 . conv=>lhs;whnf
 . conv=>lhs;whnf
 . first | exact bF1 ‹_› | exact bF2 ‹_›
|apply s_1
 conv=>whnf;arg 1;arg 4;arg 3;whnf
 refine ⟨?_,?_⟩
|apply zF rfl
 . conv=>lhs;whnf
 . conv=>lhs;whnf
 . first | rfl | assumption
 . conv=>lhs;whnf;arg 2;whnf
|apply zC rfl
 . conv=>lhs;whnf
 . conv=>lhs;whnf
 . conv=>lhs;whnf;arg 2;whnf
|refine zZ (by conv=>lhs;whnf) ?_ ?_<;>intro hb
|exact trivial
|intro hg)
   all_goals first
    |rfl
    |skip
end
end Go.Proofs.YthppafnlnnpciaaGreatDoor
