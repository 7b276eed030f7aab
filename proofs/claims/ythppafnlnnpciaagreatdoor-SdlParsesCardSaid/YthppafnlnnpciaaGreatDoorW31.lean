import Derived.Maps.OwnSet
import Derived.Test.YthppafnlnnpciaaGreatDoorW30
set_option maxHeartbeats 16000000
set_option maxRecDepth 100000
set_option linter.unusedVariables false
set_option linter.unusedSimpArgs false
namespace Go.Proofs.YthppafnlnnpciaaGreatDoor
section
open Go.RowKit Go.WideMaps Go.Maps
attribute [local irreducible] wpList Calls Code.wp
def mapR (P:Program) (q:Bool) (e:TypeId):Value->Option (DataW Unit × List MemPlace):=if q then plainElem P e else unitElem
def SetB (P:Program) (q:Bool) (k e:TypeId) (l:List (List UInt8)) (w:World) (b:Nat):Prop:=
 ∃ M:DataW Unit,w.ownsMap P k (mapR P q e) b l.length M/\IsMap M/\(∀ u:List UInt8,has M (.string u)=decide (u∈l)) /\ ∀ u:List UInt8,q=true->M.atKey (.string u) (.lit (.bool false)) = .lit (.bool (decide (u∈l)))
def setK (P:Program) (q:Bool) (k e:TypeId) (l:List (List UInt8)):Res:=.blk (SetB P q k e l)
structure MapOk (P:Program) (t k e:TypeId) (q:Bool):Prop where
 ht:P.underlying t=some (.map k e)
 hk:P.underlying k=some .string
 hz : ∀ w,(zeroValue e).run P w = .ok (if q then .bool false else .agg #[]) w
 he:q=true->P.underlying e=some .bool
section
variable {P:Program} {q:Bool} {k e:TypeId} {l:List (List UInt8)} {w w1 w2:World} {b:Nat}
theorem zHl (h:w2.heap[b]? = w1.heap[b]?):SetB P q k e l w1 b->SetB P q k e l w2 b:=fun ⟨M,⟨es,clock,hb,r⟩,hM⟩=>⟨M,⟨es,clock,h.trans hb,r⟩,hM⟩
theorem setB_nil:SetB P q k e [] (w.alloc (.map #[] 0)) w.heap.size:=
 ⟨.map [],World.ownsMap_made _ _ _ _,isMap_empty,fun u=>by rw [decide_eq_false (by simp)];rfl,fun u _=>by rw [decide_eq_false (by simp)];rfl⟩
theorem has_put {M:DataW Unit} (hM:IsMap M) (hh : ∀ u:List UInt8,has M (.string u)=decide (u∈l)) (u:List UInt8) (d:DataW Unit) (v:List UInt8):has (M.put (.string u) d) (.string v)=decide (v∈l++[u]):=by
 by_cases e:v=u
 . subst e
   rw [has_put_same hM (show WideAt.IsKeyLit (.string v) from trivial),decide_eq_true (by simp)]
 . rw [has_put_other (fun h=>e (by injection h)),hh v]
   congr 1
   simp [e]
theorem at_put {M:DataW Unit} (hM:IsMap M) (hh : ∀ u:List UInt8,M.atKey (.string u) (.lit (.bool false)) = .lit (.bool (decide (u∈l)))) (u v:List UInt8):(M.put (.string u) (.lit (.bool true))).atKey (.string v) (.lit (.bool false)) = .lit (.bool (decide (v∈l++[u]))):=by
 by_cases e:v=u
 . subst e
   rw [atKey_put_same hM (show WideAt.IsKeyLit (.string v) from trivial),decide_eq_true (by simp)]
 . rw [atKey_put_other (fun h=>e (by injection h)),hh v]
   congr 2
   simp [e]
variable {pas:Nat->Prop} {B:Nat} {rs:Nat->Option Res} {s:Sg}
theorem MemOk.nameK (h:MemOk P pas B rs s w) (hB:B<=w.heap.size) (n:Nat) (o:Obj) (H:World->Nat->Prop) (hH:H (w.alloc o) w.heap.size) (hst : ∀ w1 w2:World,w2.heap[w.heap.size]? = w1.heap[w.heap.size]? -> H w1 w.heap.size->H w2 w.heap.size) (hf : ∀ m ρ,m≠n->rs m=some ρ->ρ.free n=true) :
 MemOk P pas B (updR rs n (.blk H)) (s.name n w.heap.size) (w.alloc o) where
 fx b i hb:=by rw [zAj (h.fx b i hb)];exact h.fx b i hb
 ho m ρ hm:=by
  by_cases e:m=n
  . subst e
    simp only [updR,if_true] at hm
    cases hm
    refine ⟨w.heap.size,by simp [Sg.name],by simp,hH,hst,fun i hi => ?_⟩
    obtain ⟨v,hv⟩:=Option.isSome_iff_exists.1 (h.fx _ i hi)
    have:=block_lt_of_cell hv
    simp at this
  . simp only [updR,if_neg e] at hm
    exact (h.ho m ρ hm).keep (zDk h n _) e rfl rfl (fun k hk=>by subst hk;exact hf m ρ e hm) (fun b hb=>Below.heap_alloc _ _ _ ((h.ho m ρ hm).lt hb)) (fun _ _ _ h=>h)
 bs m ρ b hm hb:=by
  by_cases e:m=n
  . subst e
    simp only [updR,if_true] at hm
    cases hm
    simp only [Sg.bk,Sg.name,if_true] at hb
    cases hb;exact .inl hB
  . simp only [updR,if_neg e] at hm
    rw [zBD e] at hb
    exact h.bs m ρ b hm hb
 dj m k ρ ρ' b hm hk hmb hkb:=by
  by_cases e:m=n<;>by_cases e':k=n
  . rw [e,e']
  . simp only [updR,if_neg e'] at hk
    rw [zBD e'] at hkb
    subst e
    simp only [updR,if_true] at hm
    cases hm
    simp only [Sg.bk,Sg.name,if_true] at hmb
    cases hmb
    have:=(h.ho k ρ' hk).lt hkb
    omega
  . simp only [updR,if_neg e] at hm
    rw [zBD e] at hmb
    subst e'
    simp only [updR,if_true] at hk
    cases hk
    simp only [Sg.bk,Sg.name,if_true] at hkb
    cases hkb
    have:=(h.ho m ρ hm).lt hmb
    omega
  . simp only [updR,if_neg e] at hm
    simp only [updR,if_neg e'] at hk
    rw [zBD e] at hmb
    rw [zBD e'] at hkb
    exact h.dj m k ρ ρ' b hm hk hmb hkb
theorem MemOk.writeK (h:MemOk P pas B rs s w) {n b:Nat} {H H':World->Nat->Prop} {w':World} (hn:rs n=some (.blk H)) (hb:s.bx n=some b) (hH:H' w' b) (hst : ∀ w1 w2:World,w2.heap[b]? = w1.heap[b]? -> H' w1 b->H' w2 b) (hlt:b<w'.heap.size)
 (hsame : ∀ k,k≠b->w'.heap[k]? = w.heap[k]?):Ext (fun _=>False) s w s w'/\MemOk P pas B (updR rs n (.blk H')) s w':=by
 obtain ⟨b',h1,h2,h3,h4,h5⟩:=h.ho n _ hn
 rw [h1] at hb;cases hb
 have hcell : ∀ k o,s.F k o->w'.cell? ⟨k,o,none⟩=w.cell? ⟨k,o,none⟩:=fun k o hF=>World.cell?_of_block (w:=w) (hsame k fun e=>by subst e;exact h5 o hF)
 have hx:Ext (fun _=>False) s w s w':=⟨fun k o hF=>⟨hcell k o hF,hF⟩,fun _ _=>rfl,fun _ _ => .inl rfl⟩
 have this : ∀ q ρ,updR rs n (.blk H') q=some ρ -> ∃ ρ',rs q=some ρ'/\s.bk q ρ'=s.bk q ρ:=fun q ρ hq=>by
  by_cases e:q=n
  . subst e
    simp only [updR,if_true] at hq
    cases hq;exact ⟨_,hn,rfl⟩
  . simp only [updR,if_neg e] at hq;exact ⟨_,hq,rfl⟩
 refine ⟨hx,?_,?_,?_,?_⟩
 . intro k o hF;rw [hcell k o hF];exact h.fx k o hF
 . intro m ρ hm
   by_cases e:m=n
   . subst e
     simp only [updR,if_true] at hm
     cases hm
     exact ⟨b,h1,hlt,hH,hst,h5⟩
   . simp only [updR,if_neg e] at hm
     refine (h.ho m ρ hm).keep hx (fun h=>h) rfl rfl (fun _ h=>h.elim) (fun k hk=>hsame k fun e' => ?_) (fun _ _ _ h=>h)
     subst e'
     exact e (h.dj m n _ _ k hm hn hk h1)
 . intro m ρ k hm hk
   obtain ⟨r1,hr1,e1⟩:=this m ρ hm
   exact h.bs m r1 k hr1 (by rw [e1];exact hk)
 . intro m k ρ ρ' j hm hk hmj hkj
   obtain ⟨r1,hr1,e1⟩:=this m ρ hm
   obtain ⟨r2,hr2,e2⟩:=this k ρ' hk
   exact h.dj m k _ _ j hr1 hr2 (by rw [e1];exact hmj) (by rw [e2];exact hkj)
end
section
variable {X:Cx} {nn:Nat} {st:Vst nn} {o:Oper} {K:Vst nn->Prop} {t k e:TypeId} {q:Bool} {l:List (List UInt8)}
theorem opOk_mkmap {d:Nat} (ho:o.op = .makeMap t none) (hd:o.dst=some d) (hdl:Nat.ble d 999999=true) (q:Bool) (k e:TypeId) (hK:K (((st.kill d).res d (setK X.P q k e [])).put (some d) (.mp d))):OpOk X o st K:=by
 intro s w a hI N Q hP hN
 have hrun:(execOp a.eval o).run X.P w = .ok (.value (.map (some w.heap.size))) (w.alloc (.map #[] 0)):=by
  simp [execOp,ho,run_makeMap]
 unfold Oper.wp
 rw [hrun,Oper.upon_value,hd]
 have hI':=hI.kill d
 refine hN _ (s.name d w.heap.size) _ _ (Inv.put (v:=.mp d) ?_ (some d) (by rw [rel];exact ⟨w.heap.size,by simp [Sg.name],rfl⟩)) hK
 have hx:=zDk hI'.mem d (.map #[] 0)
 refine ⟨hI.sz,fun i hi => ?_,hI.df,hI.fr.trans (zCh w _ (fun _=>False)) (fun _ h=>h.elim),hI.kp.trans hx.keeps,hI.nf,?_,hI.pe.ext hx fun m hm=>by subst hm;exact Nat.le_of_ble_eq_true hdl⟩
 . exact rel.ext hx _ _ (zAe (hI.tm i hi)).1 fun n hn=>by subst hn;exact (zAe (hI.tm i hi)).2
 . exact hI'.mem.nameK hI.base d _ _ setB_nil (fun w1 w2 h=>zHl h) fun m ρ _ hm=>zCc st d m hm
theorem opOk_look {m x:Operand} {n:Nat} {u:ByteArray} (ho:o.op = .lookup t m x true) (hm:ev st m = .mp n) (hr:st.rs n=some (setK X.P false k e l)) (hx:ev st x = .c (.string u)) (hk:MapOk X.P t k e false)
 (hK:K (st.put o.dst (.tup [.agg [],.c (.bool (decide (u.data.toList∈l)))]))):OpOk X o st K:=by
 intro s w a hI N Q hP hN
 have h1:=hI.ev m
 rw [hm,rel] at h1
 obtain ⟨b,hb,hb2⟩:=h1
 have h2:=hI.ev x
 rw [hx,rel] at h2
 obtain ⟨h2,hsz⟩:=h2
 obtain ⟨b',q1,q2,⟨M,hown,hM,hhas,-⟩,q4,q5⟩:=hI.mem.ho n _ hr
 rw [hb] at q1;cases q1
 have hkey:keyOf X.P k (.string u)=some (.string u.data.toList):=keyOf_string_mk hk.hk hsz
 obtain ⟨v,ps,hrun,hv⟩:=hown.look_ok (string_keyed hk.hk) hk.ht (hk.hz w) (zd:=.agg []) (zp:=[]) rfl hkey
 obtain ⟨rfl,-⟩:=unitElem_inv hv
 have hrun2:(execOp a.eval o).run X.P w = .ok (.value (.tuple #[.agg #[],.bool (has M (.string u.data.toList))])) w:=by
  simp [execOp,ho,hb2,h2,hrun,Result.andThen]
 unfold Oper.wp
 rw [hrun2,Oper.upon_value]
 refine hN _ _ _ _ (hI.put o.dst ?_) hK
 rw [hhas,rel]
 exact ⟨_,rfl,by simp [relL,rel,okV]⟩
theorem opOk_mput {m x y:Operand} {n:Nat} {u:ByteArray} (ho:o.op = .mapUpdate t m x y) (hd:o.dst=none) (hm:ev st m = .mp n) (hr:st.rs n=some (setK X.P q k e l)) (hx:ev st x = .c (.string u)) (hy:ev st y=if q then .c (.bool true) else .agg []) (hk:MapOk X.P t k e q) (hl:l.length<maxLen)
 (hK:K (st.res n (setK X.P q k e (l++[u.data.toList])))):OpOk X o st K:=by
 intro s w a hI N Q hP hN
 have h1:=hI.ev m
 rw [hm,rel] at h1
 obtain ⟨b,hb,hb2⟩:=h1
 have h2:=hI.ev x
 rw [hx,rel] at h2
 obtain ⟨h2,hsz⟩:=h2
 have h3:=hI.ev y
 obtain ⟨b',q1,q2,⟨M,hown,hM,hhas,hat⟩,q4,q5⟩:=hI.mem.ho n _ hr
 rw [hb] at q1;cases q1
 have hkey:keyOf X.P k (.string u)=some (.string u.data.toList):=keyOf_string_mk hk.hk hsz
 have hval:mapR X.P q e (a.eval y)=some (if q then .lit (.bool true) else .agg [],[]):=by
  rw [hy] at h3
  cases q with
  |true =>
   have h3:rel X.P s w (.c (.bool true)) (a.eval y):=h3
   rw [rel] at h3
   rw [h3.1]
   exact plainElem_bool (hk.he rfl) true
  |false =>
   have h3:rel X.P s w (.agg []) (a.eval y):=h3
   rw [rel] at h3
   obtain ⟨cs,hcs,hr⟩:=h3
   have:cs = #[]:=by
    have:=hr.length
    exact Array.eq_empty_of_size_eq_zero (by simpa using this.symm)
   rw [hcs,this]
   rfl
 obtain ⟨w',hrun,hown',hturn⟩:=hown.store (string_keyed hk.hk) hk.ht hl hkey hval
 have hset:SetB X.P q k e (l++[u.data.toList]) w' b:=by
  refine ⟨_,by rw [List.length_append];exact hown',hM.put _ _,has_put hM hhas _ _,fun v hq => ?_⟩
  subst hq
  exact at_put hM (fun u=>hat u rfl) _ v
 have hrun2:(execOp a.eval o).run X.P w = .ok .skip w':=by
  simp [execOp,ho,hb2,h2,hrun,Result.andThen]
 have hgr:=hturn.grown
 have hsame : ∀ i,i≠b->w'.heap[i]? = w.heap[i]?:=fun i hi=>by
  obtain ⟨es,clock,es',clock',hbb,rfl⟩:=hturn
  exact Go.ChangeMaps.heap_setBlock_other hbb _ hi
 have hsz':w'.heap.size=w.heap.size:=by
  obtain ⟨es,clock,es',clock',hbb,rfl⟩:=hturn
  simp [Go.ChangeMaps.setBlock]
 have hos:w'.os=w.os/\w'.tape=w.tape/\w'.output=w.output:=by
  obtain ⟨es,clock,es',clock',hbb,rfl⟩:=hturn
  exact ⟨rfl,rfl,rfl⟩
 unfold Oper.wp
 rw [hrun2,Oper.upon_skip,hd]
 have hm:=hI.mem.writeK hr hb hset (fun w1 w2 h=>zHl h) (by rw [hsz'];exact q2) hsame
 refine hN _ s _ _ ?_ hK
 have hfr:Frm (fun b=>X.w0.heap.size<=b\/X.pas b) w w':=⟨hos.1,hos.2.1,hos.2.2,by omega,fun i _ hi=>hsame i fun e=>hi (by subst e;exact hI.mem.bs n _ _ hr hb)⟩
 exact ⟨hI.sz,fun i hi=>(hI.tm i hi).ext0 hm.1,hI.df,hI.fr.trans hfr fun _ h=>h,hI.kp.trans hm.1.keeps,hI.nf,hm.2,hI.pe.ext0 hm.1⟩
variable {ops:Array Oper} {ol:List Oper} {d:Option Tmp} {KK:Vst nn->Prop}
theorem s_mkmap {d:Nat} (hg:o.guard=none) (ho:o.op = .makeMap t none) (hd:o.dst=some d) (hdl:Nat.ble d 999999=true) (q:Bool) (k e:TypeId) (hK:AWo X ops ol (((st.kill d).res d (setK X.P q k e [])).put (some d) (.mp d)) KK):AWo X ops (o::ol) st KK:=zAB hg (opOk_mkmap ho hd hdl q k e hK)
theorem s_look {m x:Operand} {n:Nat} {u:ByteArray} (hg:o.guard=none) (hd:o.dst=d) (ho:o.op = .lookup t m x true) (hm:ev st m = .mp n) (hr:st.rs n=some (setK X.P false k e l)) (hx:ev st x = .c (.string u)) (hk:MapOk X.P t k e false)
 (hK:AWo X ops ol (st.put d (.tup [.agg [],.c (.bool (decide (u.data.toList∈l)))])) KK):AWo X ops (o::ol) st KK:=zAB hg (opOk_look ho hm hr hx hk (by rw [hd];exact hK))
theorem s_mput {m x y:Operand} {n:Nat} {u:ByteArray} (hg:o.guard=none) (ho:o.op = .mapUpdate t m x y) (hd:o.dst=none) (hm:ev st m = .mp n) (hr:st.rs n=some (setK X.P q k e l)) (hx:ev st x = .c (.string u)) (hy:ev st y=if q then .c (.bool true) else .agg []) (hk:MapOk X.P t k e q)
 (hK:AWo X ops ol (st.res n (setK X.P q k e (l++[u.data.toList]))) KK) (hl:l.length<maxLen):AWo X ops (o::ol) st KK:=zAB hg (opOk_mput ho hd hm hr hx hy hk hl hK)
end
end
section
open Go.RowKit
attribute [local irreducible] wpList Calls Code.wp AW AWo OpOk seqK zq zu loopK endK AC zf Yld Sub
attribute [local irreducible] ACB ACX ACE absLexG YldG absLexU YldU
def boxN (n:Nat):Res:=.box 190 [.bx (pn 1) 0,.c (.int .i64 ((Nat.min n 4096:Nat):Int))]
def bsV (al:List Tok) (x:PS):List Res:=[boxN x.nd,boxS al x]
noncomputable def outV (al:List Tok) (r:PR D):Out:=zH2 (bsV al) VV zEs r
theorem nx_nd0 (x:PS):(nxT x).nd=x.nd:=by unfold nxT;split<;>rfl
theorem take_nd {s:List UInt8} {x y:PS} {u:Unit} (h:takeQ s x = .ok (u,y)):y.nd=x.nd:=by
 unfold takeQ at h
 split at h
 . cases h;exact nx_nd0 x
 . cases h
theorem out_nx {al:List Tok} (v:D) (z:PS):outV al (.ok (v,nxT z))=Out.ret (VV v) [boxN z.nd,boxS al (nxT z)]:=by
 show Out.ret (VV v) [boxN (nxT z).nd,boxS al (nxT z)]=_
 rw [nx_nd0]
theorem p_word (s:List UInt8):AC EN5 Tryz.prog 229 [.c (.string (bs s))] (VV (zB6 s)):=by
 have hve:=vEnum_ac s
 have hvb:=vBool_ac
 refine zP 15 Tryz.func229 rfl rfl rfl rfl ?_
 intro s0 w he
 repeat' (first
|apply zAD (VV zA5) rfl rfl
 . conv=>lhs;whnf;arg 2;whnf
 . repeat' (first | exact VLe.refl _ | exact VLe.nil _ | exact VLe.lit _ _ | exact VLe.own _ _ _ | apply VLe.agg | apply VLeL.cons | exact VLeL.nil)
|refine zA ?_
|refine zB ?_
|refine zF ?_
|refine zZ ?_
|apply aw_1
 conv=>whnf
 refine ⟨?_,trivial⟩
|apply s_1
 conv=>whnf;arg 1;arg 4;arg 3;whnf
 refine ⟨?_,?_⟩
|apply zi rfl
 . conv=>lhs;whnf
 . conv=>lhs;whnf
 . first | exact hve | exact hvb _
|apply zI rfl rfl rfl
 . conv=>lhs;whnf
 . conv=>lhs;whnf;arg 1;whnf
 . conv=>lhs;whnf;arg 1;whnf
 . exact ⟨by kernel_rfl,by kernel_rfl⟩
 . rfl
|refine ze (by conv=>lhs;whnf) ?_ ?_<;>intro hb
|refine zQ ?_
|refine zV ?_
|refine zE ?_
|refine ⟨_,by conv=>lhs;whnf;arg 2;whnf,?_⟩;conv=>rhs;whnf
|exact trivial)
 all_goals first
  |(exact (w_no (a:=(bs s).toList==(⟨#[116,114,117,101]⟩:ByteArray).toList) ‹_› ‹_›).elim)
  |(rw [w_true ‹_›];rfl)
  |(rw [w_false ‹_› ‹_›];rfl)
  |(rw [w_null ‹_› ‹_› ‹_›];rfl)
  |(rw [w_enum ‹_› ‹_› ‹_›];rfl)
  |skip
noncomputable def HlL (al:List Tok) (lv:Nat) (y:PS) (acc:List D):Vst 23:=
 stS 23 [(0,.bx (pn 0) 0),(1,.c (.int .i64 (lv:Int))),(4,.bx 4 0),(5,.bx 5 0)] [(pn 0,boxN y.nd),(pn 1,boxS al y),(4,.box 53 zVal),(5,.box 53 [.c (.int .i64 5),.c (.int .i64 0),.c (.string ⟨#[]⟩),.own 901 53 acc,.c (.slice none 0 0)]),(901,.tok 53 acc.length)]
section
variable {al:List Tok} {f lv:Nat} {y:PS}
theorem p_list (ih : ∀ z,Sx al z->ACE EN5 Tryz.prog 202 [.bx (pn 0) 0,.c (.int .i64 ((lv+1:Nat):Int))] (bsV al z) (outV al (valueQ f (lv+1) z))) (hlv:lv<=25) (hy:Sx al y) (hal:al.length<=100000) :
 ACE EN5 Tryz.prog 230 [.bx (pn 0) 0,.c (.int .i64 (lv:Int))] (bsV al y) (outV al (zY (itemsQ (valueQ f (lv+1)) (y.ts.length+1) [] y) fun l z => .ok (valD 5 0 [] l [],z))):=by
 have hyl:=hy.len
 refine zm (fn:=Tryz.f230) 23 Tryz.func230 rfl rfl ?_
 intro pas w0 w he hp
 repeat' (first
|refine zA ?_
|refine zB ?_
|refine zF ?_
|apply aw_1
 conv=>whnf
 refine ⟨?_,trivial⟩
|apply s_1
 conv=>whnf;arg 1;arg 4;arg 3;whnf
 refine ⟨?_,?_⟩
|apply zI rfl rfl rfl
 . conv=>lhs;whnf
 . conv=>lhs;whnf;arg 1;whnf
 . conv=>lhs;whnf;arg 1;whnf
 . exact ⟨by kernel_rfl,by kernel_rfl⟩
 . rfl
|exact trivial)
 refine zg (Sub.ownF (m:=5) (q:=901) (i:=3) (e:=53) rfl (by decide) rfl rfl rfl) ?_
 refine zn (fun j st => ∃ z acc,Sx al z/\z.ts.length<j/\acc.length+z.ts.length<=y.ts.length/\itemsQ (valueQ f (lv+1)) (y.ts.length+1) [] y=itemsQ (valueQ f (lv+1)) j acc z/\Sub (cxE EN5 Tryz.prog pas w0 w he hp (outV al (zY (itemsQ (valueQ f (lv+1)) (y.ts.length+1) [] y) fun l z => .ok (valD 5 0 [] l [],z)))) st (HlL al lv z acc)) (y.ts.length+1) ⟨y,[],hy,by omega,by simp,rfl,?_⟩ ?_
 . exact Sub.live ⟨rfl,rfl,rfl,rfl,trivial⟩ ⟨rfl,rfl,rfl,rfl,rfl,trivial⟩
 rintro j st ⟨z,acc,hz,hzj,hzl,hI,hsub⟩
 refine zg hsub ?_
 clear hsub
 rw [hI]
 clear hI
 cases j with
 |zero=>omega
 |succ j =>
 by_cases hs:isS z [93]=true
 . have ha:=zEz hz hal hs
   rw [items_end (by rw [hs];rfl)]
   repeat' (first
|apply zAD (VV (valD 5 0 [] acc [])) rfl rfl
 . conv=>lhs;whnf;arg 2;whnf
 . repeat' (first | exact VLe.refl _ | exact VLe.nil _ | exact VLe.lit _ _ | exact VLe.own _ _ _ | apply VLe.agg | apply VLeL.cons | exact VLeL.nil)
|apply s_m (clS al) (zS al) rfl
 . conv=>lhs;whnf
 . conv=>lhs;whnf
 . rfl
 . conv=>lhs;whnf;arg 1;whnf
 . first | exact zr _ _
 . first | exact ha
 . exact fun _=>rfl
 . exact fun _=>rfl
|refine zA ?_
|refine zB ?_
|refine zF ?_
|apply aw_1
 conv=>whnf
 refine ⟨?_,trivial⟩
|apply s_1
 conv=>whnf;arg 1;arg 4;arg 3;whnf
 refine ⟨?_,?_⟩
|apply zI rfl rfl rfl
 . conv=>lhs;whnf
 . conv=>lhs;whnf;arg 1;whnf
 . conv=>lhs;whnf;arg 1;whnf
 . exact ⟨by kernel_rfl,by kernel_rfl⟩
 . rfl
|refine zO ?_
|refine zL rfl ?_
|refine zM ?_
|apply zG5 rfl
 . conv=>lhs;whnf;arg 2;whnf
|exact trivial)
   exact ⟨[boxN z.nd,boxS al (nxT z)],out_nx _ z,rfl,rfl,trivial⟩
 have hs:isS z [93]=false:=by simpa using hs
 have ha:=zDf hz hal hs
 have hv:=ih z hz
 rw [items_go (by rw [hs];rfl)]
 repeat' (first
|apply zBd 10 ([(1,[5])]) ([(5,[1000000,1000001]),(7,[901]),(9,[5])]) rfl (by kernel_rfl) (by kernel_rfl) (by kernel_rfl)
|apply zHD
|apply zHC rfl
 . conv=>lhs;whnf
 . conv=>lhs;whnf;arg 2;whnf
|apply zIL rfl rfl
 . conv=>lhs;whnf
 . first | exact zCk | (conv=>lhs;whnf;arg 1;whnf)
 . first | exact fun _=>rfl | (intro _;kernel_rfl)
 . conv=>lhs;whnf
 . rfl
 . conv=>lhs;whnf;arg 1;whnf
 . conv=>lhs;whnf
|apply zCJ rfl rfl rfl
 . conv=>lhs;whnf
 . rfl
 . conv=>lhs;whnf;arg 1;whnf
 . conv=>lhs;whnf;arg 1;whnf
 . exact ⟨by kernel_rfl,by kernel_rfl⟩
 . rfl
|exact Or.inl ⟨pn 0,_,rfl⟩
|refine Or.inr ?_
|apply g_prN [pn 0,pn 1] (default:D) [.box 0 [.c (.tuple #[])],.box 0 [.c (.tuple #[])]] rfl
 . conv=>lhs;whnf
 . conv=>lhs;whnf
 . first | exact hv
 . decide
 . rfl
 . rfl
 . exact fun _=>rfl
 . rfl
 . rfl
 refine fun ee hq tm rs => ?_
 change _=Out.die _
 rotate_left 1
 refine fun aa xx hq => ?_
 first | (cases hq;have hq:=True.intro) | skip
 rotate_left 1
 refine fun ee hq => ?_
 first | (cases hq;done) | skip
|show inO _ _=true;rfl
|apply zDi [aa] rfl rfl
 . conv=>lhs;whnf
 . first | exact zCk | (conv=>lhs;whnf;arg 1;whnf)
 . rfl
 . rfl
 . repeat' (first | exact trivial | apply And.intro | rfl)
|apply zDi [default] rfl rfl
 . conv=>lhs;whnf
 . first | exact zCk | (conv=>lhs;whnf;arg 1;whnf)
 . rfl
 . rfl
 . repeat' (first | exact trivial | apply And.intro | rfl)
|apply s_m (clS al) (zS al) rfl
 . conv=>lhs;whnf
 . conv=>lhs;whnf
 . rfl
 . conv=>lhs;whnf;arg 1;whnf
 . first | exact zr _ _
 . first | exact ha
 . exact fun _=>rfl
 . exact fun _=>rfl
|refine zA ?_
|refine zB ?_
|refine zF ?_
|refine zZ ?_
|apply aw_1
 conv=>whnf
 refine ⟨?_,trivial⟩
|apply s_1
 conv=>whnf;arg 1;arg 4;arg 3;whnf
 refine ⟨?_,?_⟩
|exact trivial)
 all_goals first
  |exact zU (by omega)
  |(refine ⟨by simp,?_,?_⟩<;>simp only [List.length_cons,List.length_nil,maxLen]<;>omega)
  |(rw [zt hq];rfl)
  |skip
 have hx:=hz.value hq
 refine zJ (j':=j) (by omega) ⟨xx,acc++[aa],hx.1,by omega,by rw [List.length_append];simp only [List.length_cons,List.length_nil];omega,by rw [za hq],Sub.live ⟨rfl,rfl,rfl,rfl,trivial⟩ ⟨rfl,rfl,rfl,rfl,?_,trivial⟩⟩
 show some (Res.tok _ (acc.length+1))=some (Res.tok _ (acc++[aa]).length)
 rw [List.length_append];rfl
noncomputable def HlO (al:List Tok) (lv:Nat) (y:PS) (ks:List (List UInt8)) (acc:List D):Vst 69:=
 stS 69 [(0,.bx (pn 0) 0),(1,.c (.int .i64 (lv:Int))),(4,.bx 4 0),(5,.bx 5 0),(6,.mp 11)] [(pn 0,boxN y.nd),(pn 1,boxS al y),(4,.box 53 zVal),(5,.box 53 [.c (.int .i64 6),.c (.int .i64 0),.c (.string ⟨#[]⟩),.own 901 53 acc,.own 902 9 (ks.map strD)]),(901,.tok 53 acc.length),(902,.tok 9 (ks.map strD).length),(11,setK Tryz.prog false 9 222 ks)]
theorem mapOk_:MapOk Tryz.prog 221 9 222 false where
 ht:=by kernel_rfl
 hk:=by kernel_rfl
 hz _:=rfl
 he h:=by cases h
theorem fl_go {v:PS->PR D} {j:Nat} {ks:List (List UInt8)} {acc:List D} {z:PS} (h:isS z [125]=false) (hk:(hdT z).k=2):z7 v (j+1) ks acc z=if (hdT z).s∈ks then .error ((hdT z).i,7) else zY (takeQ [58] (nxT z)) fun _ u=>zY (v u) fun a o=>z7 v j (ks++[(hdT z).s]) (acc++[a]) o:=by
 rw [zIT (by rw [h];rfl),za (a:=(hdT z).s) (x:=nxT z) (by rw [nameQ,if_pos hk])]
 by_cases hm:(hdT z).s∈ks
 . rw [if_pos (by simpa using hm),if_pos hm]
 . rw [if_neg (by simpa using hm),if_neg hm]
theorem p_object (ih : ∀ z,Sx al z->ACE EN5 Tryz.prog 202 [.bx (pn 0) 0,.c (.int .i64 ((lv+1:Nat):Int))] (bsV al z) (outV al (valueQ f (lv+1) z))) (hlv:lv<=25) (hy:Sx al y) (hal:al.length<=100000) :
 ACE EN5 Tryz.prog 231 [.bx (pn 0) 0,.c (.int .i64 (lv:Int))] (bsV al y) (outV al (zY (z7 (valueQ f (lv+1)) (y.ts.length+1) [] [] y) fun l z => .ok (valD 6 0 [] l.2 l.1,z))):=by
 have hyl:=hy.len
 refine zm (fn:=Tryz.f231) 69 Tryz.func231 rfl rfl ?_
 intro pas w0 w he hp
 repeat' (first
|apply s_mkmap rfl rfl rfl rfl false 9 222
|refine zA ?_
|refine zB ?_
|refine zF ?_
|apply aw_1
 conv=>whnf
 refine ⟨?_,trivial⟩
|apply s_1
 conv=>whnf;arg 1;arg 4;arg 3;whnf
 refine ⟨?_,?_⟩
|apply zI rfl rfl rfl
 . conv=>lhs;whnf
 . conv=>lhs;whnf;arg 1;whnf
 . conv=>lhs;whnf;arg 1;whnf
 . exact ⟨by kernel_rfl,by kernel_rfl⟩
 . rfl
|exact trivial)
 refine zg (Sub.ownF (m:=5) (q:=901) (i:=3) (e:=53) rfl (by decide) rfl rfl rfl) ?_
 refine zg (Sub.ownF (m:=5) (q:=902) (i:=4) (e:=9) rfl (by decide) rfl rfl rfl) ?_
 refine zn (fun j st => ∃ z ks acc,Sx al z/\z.ts.length<j/\acc.length+z.ts.length<=y.ts.length/\acc.length=ks.length/\z7 (valueQ f (lv+1)) (y.ts.length+1) [] [] y=z7 (valueQ f (lv+1)) j ks acc z/\Sub (cxE EN5 Tryz.prog pas w0 w he hp (outV al (zY (z7 (valueQ f (lv+1)) (y.ts.length+1) [] [] y) fun l z => .ok (valD 6 0 [] l.2 l.1,z)))) st (HlO al lv z ks acc)) (y.ts.length+1) ⟨y,[],[],hy,by omega,by simp,rfl,rfl,?_⟩ ?_
 . exact Sub.live ⟨rfl,rfl,rfl,rfl,rfl,trivial⟩ ⟨rfl,rfl,rfl,rfl,rfl,rfl,rfl,trivial⟩
 rintro j st ⟨z,ks,acc,hz,hzj,hzl,hka,hI,hsub⟩
 refine zg hsub ?_
 clear hsub
 rw [hI]
 clear hI
 cases j with
 |zero=>omega
 |succ j =>
 by_cases hs:isS z [125]=true
 . have ha:=zEz hz hal hs
   rw [fields_end (by rw [hs];rfl)]
   repeat' (first
|apply zAD (VV (valD 6 0 [] acc ks)) rfl rfl
 . conv=>lhs;whnf;arg 2;whnf
 . repeat' (first | exact VLe.refl _ | exact VLe.nil _ | exact VLe.lit _ _ | exact VLe.own _ _ _ | apply VLe.agg | apply VLeL.cons | exact VLeL.nil)
|apply s_m (clS al) (zS al) rfl
 . conv=>lhs;whnf
 . conv=>lhs;whnf
 . rfl
 . conv=>lhs;whnf;arg 1;whnf
 . first | exact zr _ _
 . first | exact ha
 . exact fun _=>rfl
 . exact fun _=>rfl
|refine zA ?_
|refine zB ?_
|refine zF ?_
|apply aw_1
 conv=>whnf
 refine ⟨?_,trivial⟩
|apply s_1
 conv=>whnf;arg 1;arg 4;arg 3;whnf
 refine ⟨?_,?_⟩
|apply zI rfl rfl rfl
 . conv=>lhs;whnf
 . conv=>lhs;whnf;arg 1;whnf
 . conv=>lhs;whnf;arg 1;whnf
 . exact ⟨by kernel_rfl,by kernel_rfl⟩
 . rfl
|refine zO ?_
|refine zL rfl ?_
|refine zM ?_
|apply zG5 rfl
 . conv=>lhs;whnf;arg 2;whnf
|exact trivial)
   exact ⟨[boxN z.nd,boxS al (nxT z)],out_nx _ z,rfl,rfl,trivial⟩
 have hs:isS z [125]=false:=by simpa using hs
 have ha:=zDf hz hal hs
 have hm:=zDq hz hal
 have hf:=zCY hz hal 7
 have hnm:=zDe hz hal
 have hno:=zGs hz hal
 by_cases hk:(hdT z).k=2
 . rw [show ((hdT z).k==2)=true by simpa using hk] at hm
   rw [fl_go hs hk]
   by_cases hd:(hdT z).s∈ks
   . have K:(decide ((bs (hdT z).s).data.toList∈ks))=false->False:=fun h=>of_decide_eq_false h hd
     rw [if_pos hd]
     repeat' (first
|apply s_look rfl rfl rfl
 . conv=>lhs;whnf
 . rfl
 . conv=>lhs;whnf
 . exact mapOk_
|apply s_m (clS al) (zS al) rfl
 . conv=>lhs;whnf
 . conv=>lhs;whnf
 . rfl
 . conv=>lhs;whnf;arg 1;whnf
 . first | exact zr _ _
 . first | exact ha | exact hm | exact hno
 . exact fun _=>rfl
 . exact fun _=>rfl
|apply zBz [pn 1] rfl
 . conv=>lhs;whnf
 . first | exact hf
 . decide
 . rfl
 . rfl
 change _=Out.die _
|exact (K ‹_›).elim
|refine zA ?_
|refine zB ?_
|refine zF ?_
|apply aw_1
 conv=>whnf
 refine ⟨?_,trivial⟩
|apply s_1
 conv=>whnf;arg 1;arg 4;arg 3;whnf
 refine ⟨?_,?_⟩
|apply zI rfl rfl rfl
 . conv=>lhs;whnf
 . conv=>lhs;whnf;arg 1;whnf
 . conv=>lhs;whnf;arg 1;whnf
 . exact ⟨by kernel_rfl,by kernel_rfl⟩
 . rfl
|refine ze (by conv=>lhs;whnf) ?_ ?_<;>intro hb
|exact trivial)
     rfl
   . have K:(decide ((bs (hdT z).s).data.toList∈ks))=true->False:=fun h=>hd (of_decide_eq_true h)
     rw [if_neg hd]
     have hnq:nameQ z = .ok ((hdT z).s,nxT z):=by rw [nameQ,if_pos hk]
     rw [hnq] at hnm
     have l1:=hz.name hnq
     have hex:=zBC l1.1 hal [58]
     have hv : ∀ {u:PS},takeQ [58] (nxT z) = .ok ((),u)->ACE EN5 Tryz.prog 202 [.bx (pn 0) 0,.c (.int .i64 ((lv+1:Nat):Int))] [boxN z.nd,boxS al u] (outV al (valueQ f (lv+1) u)):=fun {u} h=>by
      have h1:=ih _ (l1.1.take h).1
      have h2:u.nd=z.nd:=(take_nd h).trans (nx_nd0 z)
      rw [<- h2];exact h1
     repeat' (first
|apply s_look rfl rfl rfl
 . conv=>lhs;whnf
 . rfl
 . conv=>lhs;whnf
 . exact mapOk_
|apply s_mput rfl rfl rfl
 . conv=>lhs;whnf
 . rfl
 . conv=>lhs;whnf
 . rfl
 . exact mapOk_
|apply zBd 10 ([(1,[5])]) ([(5,[1000000,1000001]),(7,[901]),(9,[5])]) rfl (by kernel_rfl) (by kernel_rfl) (by kernel_rfl)
|apply zHD
|apply zHC rfl
 . conv=>lhs;whnf
 . conv=>lhs;whnf;arg 2;whnf
|apply zIL rfl rfl
 . conv=>lhs;whnf
 . first | exact zCk | exact zBB | (conv=>lhs;whnf;arg 1;whnf)
 . first | exact fun _=>rfl | (intro _;kernel_rfl)
 . conv=>lhs;whnf
 . rfl
 . conv=>lhs;whnf;arg 1;whnf
 . conv=>lhs;whnf
|apply zCJ rfl rfl rfl
 . conv=>lhs;whnf
 . rfl
 . conv=>lhs;whnf;arg 1;whnf
 . conv=>lhs;whnf;arg 1;whnf
 . exact ⟨by kernel_rfl,by kernel_rfl⟩
 . rfl
|exact Or.inl ⟨pn 0,_,rfl⟩
|refine Or.inr ?_
|apply g_prN [pn 0,pn 1] (default:D) [.box 0 [.c (.tuple #[])],.box 0 [.c (.tuple #[])]] rfl
 . conv=>lhs;whnf
 . conv=>lhs;whnf
 . first | exact hv ‹_›
 . decide
 . rfl
 . rfl
 . exact fun _=>rfl
 . rfl
 . rfl
 refine fun ee hq tm rs => ?_
 change _=Out.die _
 rotate_left 1
 refine fun aa xx hq => ?_
 first | (cases hq;have hq:=True.intro) | skip
 rotate_left 1
 refine fun ee hq => ?_
 first | (cases hq;done) | skip
|show inO _ _=true;rfl
|apply zDi [aa] rfl rfl
 . conv=>lhs;whnf
 . first | exact zCk | exact zBB | (conv=>lhs;whnf;arg 1;whnf)
 . rfl
 . rfl
 . repeat' (first | exact trivial | apply And.intro | rfl)
|apply zDi [default] rfl rfl
 . conv=>lhs;whnf
 . first | exact zCk | exact zBB | (conv=>lhs;whnf;arg 1;whnf)
 . rfl
 . rfl
 . repeat' (first | exact trivial | apply And.intro | rfl)
|apply s_m (clS al) (zS al) rfl
 . conv=>lhs;whnf
 . conv=>lhs;whnf
 . rfl
 . conv=>lhs;whnf;arg 1;whnf
 . first | exact zr _ _
 . first | exact ha | exact hm | exact hno
 . exact fun _=>rfl
 . exact fun _=>rfl
|apply s_pr (clS al) (zS al) rfl
 . conv=>lhs;whnf
 . conv=>lhs;whnf
 . rfl
 . conv=>lhs;whnf;arg 1;whnf
 . first | exact zr _ _
 . first | exact hnm | exact hex
 . exact fun _=>rfl
 . first | (intro _ _;simp only [renL,renV,ren_cells];done) | exact fun _ _=>rfl
 refine fun ee hq => ?_
 change _=Out.die _
 rotate_left 1
 refine fun aa xx hq => ?_
 first | (replace hq:=zAE hq;obtain ⟨hq,rfl⟩:=hq) | (cases hq;have hq:=True.intro) | skip
|exact (K ‹_›).elim
|refine zA ?_
|refine zB ?_
|refine zF ?_
|refine zZ ?_
|apply aw_1
 conv=>whnf
 refine ⟨?_,trivial⟩
|apply s_1
 conv=>whnf;arg 1;arg 4;arg 3;whnf
 refine ⟨?_,?_⟩
|apply zI rfl rfl rfl
 . conv=>lhs;whnf
 . conv=>lhs;whnf;arg 1;whnf
 . conv=>lhs;whnf;arg 1;whnf
 . exact ⟨by kernel_rfl,by kernel_rfl⟩
 . rfl
|apply zBK rfl rfl
 . conv=>lhs;whnf
 . first | exact zCk | exact zBB | (conv=>lhs;whnf;arg 1;whnf)
 . first | exact fun _=>rfl | (intro _;kernel_rfl)
 . conv=>lhs;whnf
 . conv=>lhs;whnf;arg 1;whnf
 . conv=>lhs;whnf
|apply s_lit1 rfl rfl
 . conv=>lhs;whnf
 . first | exact zCk | exact zBB | (conv=>lhs;whnf;arg 1;whnf)
 . conv=>lhs;whnf;arg 1;whnf
 . rfl
 . rfl
|refine ze (by conv=>lhs;whnf) ?_ ?_<;>intro hb
|exact trivial)
     all_goals first
      |exact zU (by omega)
      |(refine ⟨by simp,?_,?_⟩<;>simp only [List.length_map,List.length_cons,List.length_nil,maxLen]<;>omega)
      |(cases hq;done)
      |(unfold maxLen;omega)
      |(rw [zt (by assumption:takeQ [58] (nxT z)=_)];rfl)
      |(rw [za (by assumption:takeQ [58] (nxT z)=_),zt hq];rfl)
      |skip
     rename_i u3 z3 htk
     have l2:=l1.1.take htk
     have l3:=l2.1.value hq
     refine zJ (j':=j) (by omega) ⟨xx,ks++[(hdT z).s],acc++[aa],l3.1,by omega,by rw [List.length_append];simp only [List.length_cons,List.length_nil];omega,by rw [List.length_append,List.length_append,hka];rfl,by rw [za htk,za hq],Sub.live ⟨rfl,rfl,rfl,rfl,rfl,trivial⟩ ⟨rfl,rfl,rfl,?_,?_,?_,rfl,trivial⟩⟩
     . show some (Res.box _ [_,_,_,V.own 901 _ (acc++[aa]),V.own 902 _ (ks.map strD++[D.str (bs (hdT z).s)])])=some (Res.box _ [_,_,_,V.own 901 _ (acc++[aa]),V.own 902 _ ((ks++[(hdT z).s]).map strD)])
       rw [List.map_append];rfl
     . show some (Res.tok _ (acc.length+1))=some (Res.tok _ (acc++[aa]).length)
       rw [List.length_append];rfl
     . show some (Res.tok _ ((ks.map strD).length+1))=some (Res.tok _ ((ks++[(hdT z).s]).map strD).length)
       rw [List.map_append,List.length_append];rfl
 . rw [show ((hdT z).k==2)=false by simpa using hk] at hm
   have hne:nameQ z = .error ((hdT z).i,3):=by rw [nameQ,if_neg hk]
   rw [hne] at hnm
   rw [fl_nm (by rw [hs];rfl) hne]
   repeat' (first
|apply s_m (clS al) (zS al) rfl
 . conv=>lhs;whnf
 . conv=>lhs;whnf
 . rfl
 . conv=>lhs;whnf;arg 1;whnf
 . first | exact zr _ _
 . first | exact ha | exact hm
 . exact fun _=>rfl
 . exact fun _=>rfl
|apply s_pr (clS al) (zS al) rfl
 . conv=>lhs;whnf
 . conv=>lhs;whnf
 . rfl
 . conv=>lhs;whnf;arg 1;whnf
 . first | exact zr _ _
 . first | exact hnm
 . exact fun _=>rfl
 . first | (intro _ _;simp only [renL,renV,ren_cells];done) | exact fun _ _=>rfl
 refine fun ee hq => ?_
 change _=Out.die _
 rotate_left 1
 refine fun aa xx hq => ?_
 first | (replace hq:=zAE hq;obtain ⟨hq,rfl⟩:=hq) | (cases hq;have hq:=True.intro) | skip
|refine zA ?_
|refine zB ?_
|refine zF ?_
|apply aw_1
 conv=>whnf
 refine ⟨?_,trivial⟩
|apply s_1
 conv=>whnf;arg 1;arg 4;arg 3;whnf
 refine ⟨?_,?_⟩
|exact trivial)
   have e:(Except.error ((hdT z).i,3):PR (List UInt8))=Except.error ee:=by assumption
   cases e;rfl
end
end
section
open Go.RowKit
attribute [local irreducible] wpList Calls Code.wp AW AWo OpOk seqK zq zu loopK endK AC zf Yld Sub
attribute [local irreducible] ACB ACX ACE absLexG YldG absLexU YldU
noncomputable def HuA (al:List Tok) (lv:Nat) (x:PS) (t:Tok):Vst 106:=
 stS 106 [(0,.bx (pn 0) 0),(1,.c (.int .i64 (lv:Int))),(4,.bx 4 0),(5,.bx 5 0)] [(pn 0,boxN x.nd),(pn 1,boxS al x),(4,.box 53 zVal),(5,.box 89 (tokC t))]
theorem noValS {x:PS} (hv:x.vr=false):zBQ x=((hdT x).k==5||((hdT x).k==1 && !((bs (hdT x).s).toList==(⟨#[91]⟩:ByteArray).toList) && !((bs (hdT x).s).toList==(⟨#[123]⟩:ByteArray).toList))):=by
 unfold zBQ isS
 rw [hv,Lib.toList_data,zAH,Lib.toList_data,Lib.toList_data]
 show _=((hdT x).k==5||((hdT x).k==1 && !((hdT x).s==[91]) && !((hdT x).s==[123])))
 cases (hdT x).k==5<;>cases (hdT x).k==1<;>cases (hdT x).s==[91]<;>cases (hdT x).s==[123]<;>rfl
section
variable {a b c d:Bool}
theorem nv_1 (h:(a||(b && !c && !d))=true) (ha:(a==false)=true) (hb:(b==true)=false):False:=by cases a<;>cases b<;>simp_all
theorem nv_2 (h:(a||(b && !c && !d))=true) (ha:(a==false)=true) (hc:((!c)==true)=false):False:=by cases a<;>cases c<;>simp_all
theorem nv_3 (h:(a||(b && !c && !d))=true) (ha:(a==false)=true) (hd:(!d)=false):False:=by cases a<;>cases d<;>simp_all
theorem nv_4 (h:(a||(b && !c && !d))=false) (ha:(a==false)=false):False:=by cases a<;>simp_all
theorem nv_5 (h:(a||(b && !c && !d))=false) (hb:(b==true)=true) (hc:((!c)==true)=true) (hd:(!d)=true):False:=by cases a<;>cases b<;>cases c<;>cases d<;>simp_all
end
theorem Sx.kd {al:List Tok} {x:PS} (h:Sx al x) (hkd:Kd al):1<=(hdT x).k/\(hdT x).k<=5:=by
 have h1:=h.pos
 have h2:=h.len
 rw [<- h.hd]
 exact hkd _ (by omega)
theorem zJE {al:List Tok} (hal:al.length<=100000) (hkd:Kd al) : ∀ (f lv:Nat) (x:PS),Sx al x->f+lv=26->lv<=25->ACE EN5 Tryz.prog 202 [.bx (pn 0) 0,.c (.int .i64 (lv:Int))] (bsV al x) (outV al (valueQ f lv x))
 |0,lv,x,h,hf,h25=>by omega
 |f+1,lv,x,h,hf,h25=>by
  have hn:=zGs h hal
  have hf3:=zCY h hal 3
  have hf4:=zCY h hal 4
  have hf5:=zCY h hal 5
  have hvs:=noValS h.vr
  by_cases hnv:zBQ x=true
  . have hv:=value_bad (f:=f) (lv:=lv) hnv
    rw [hvs] at hnv
    rw [hv]
    refine zm (fn:=Tryz.f202) 106 Tryz.func202 rfl rfl ?_
    intro pas w0 w he hp
    repeat' (first
|apply zz rfl rfl rfl
 . conv=>lhs;whnf
 . first | rfl | assumption
 . conv=>lhs;whnf
 . first | exact bT1 ‹_› | exact bT2 ‹_› | rfl
|apply zv rfl rfl rfl
 . conv=>lhs;whnf
 . first | rfl | assumption
 . conv=>lhs;whnf
 . first | exact bF1 ‹_› | exact bF2 ‹_› | rfl
|apply s_m (clS al) (zS al) rfl
 . conv=>lhs;whnf
 . conv=>lhs;whnf
 . rfl
 . conv=>lhs;whnf;arg 1;whnf
 . first | exact zr _ _
 . first | exact hn
 . exact fun _=>rfl
 . exact fun _=>rfl
|apply zW rfl
 . conv=>lhs;whnf
 . conv=>lhs;whnf
 . first | rfl | assumption
|apply zDa rfl
 . conv=>lhs;whnf
 . rfl
 . rfl
|apply zBz [pn 1] rfl
 . conv=>lhs;whnf
 . first | exact hf3
 . decide
 . rfl
 . rfl
 change _=Out.die _
|exact (nv_1 hnv ‹_› ‹_›).elim
|exact (nv_2 hnv ‹_› ‹_›).elim
|exact (nv_3 hnv ‹_› ‹_›).elim
|refine zA ?_
|refine zB ?_
|refine zF ?_
|apply aw_1
 conv=>whnf
 refine ⟨?_,trivial⟩
|apply zX rfl rfl
 . conv=>lhs;whnf
 . conv=>lhs;whnf
 . first | exact bT1 ‹_› | exact bT2 ‹_›
|apply zT rfl rfl
 . conv=>lhs;whnf
 . conv=>lhs;whnf
 . first | exact bF1 ‹_› | exact bF2 ‹_›
|apply s_1
 conv=>whnf;arg 1;arg 4;arg 3;whnf
 refine ⟨?_,?_⟩
|apply zI rfl rfl rfl
 . conv=>lhs;whnf
 . conv=>lhs;whnf;arg 1;whnf
 . conv=>lhs;whnf;arg 1;whnf
 . exact ⟨by kernel_rfl,by kernel_rfl⟩
 . rfl
|apply zC rfl
 . conv=>lhs;whnf
 . conv=>lhs;whnf
 . first | rfl | assumption
 . conv=>lhs;whnf;arg 2;whnf
|apply zH rfl
 . conv=>lhs;whnf
 . conv=>lhs;whnf
 . conv=>lhs;whnf;arg 2;whnf
|refine ze (by conv=>lhs;whnf) ?_ ?_<;>intro hb
|exact trivial
|intro hg)
    all_goals rfl
  have hnv:zBQ x=false:=by simpa using hnv
  have hv5:=value_deep (f:=f) (lv:=lv) hnv
  have hv4:=value_big (f:=f) (lv:=lv) hnv
  have hvg:=value_go (f:=f) (lv:=lv) hnv
  rw [hvs] at hnv
  by_cases h24:24<lv
  . have K:decide ((lv:Int)>24)=false->False:=fun h=>by simp at h;omega
    rw [hv5 h24]
    refine zm (fn:=Tryz.f202) 106 Tryz.func202 rfl rfl ?_
    intro pas w0 w he hp
    repeat' (first
|apply zz rfl rfl rfl
 . conv=>lhs;whnf
 . first | rfl | assumption
 . conv=>lhs;whnf
 . first | exact bT1 ‹_› | exact bT2 ‹_› | rfl
|apply zv rfl rfl rfl
 . conv=>lhs;whnf
 . first | rfl | assumption
 . conv=>lhs;whnf
 . first | exact bF1 ‹_› | exact bF2 ‹_› | rfl
|apply s_m (clS al) (zS al) rfl
 . conv=>lhs;whnf
 . conv=>lhs;whnf
 . rfl
 . conv=>lhs;whnf;arg 1;whnf
 . first | exact zr _ _
 . first | exact hn
 . exact fun _=>rfl
 . exact fun _=>rfl
|apply zW rfl
 . conv=>lhs;whnf
 . conv=>lhs;whnf
 . first | rfl | assumption
|apply zDa rfl
 . conv=>lhs;whnf
 . rfl
 . rfl
|apply zBz [pn 1] rfl
 . conv=>lhs;whnf
 . first | exact hf5
 . decide
 . rfl
 . rfl
 change _=Out.die _
|exact (nv_4 hnv ‹_›).elim
|exact (nv_5 hnv ‹_› ‹_› ‹_›).elim
|exact (K ‹_›).elim
|apply zo 4 (HuA al lv x (hdT x)) rfl
|refine zBA ?_
|refine zA ?_
|refine zB ?_
|refine zF ?_
|apply aw_1
 conv=>whnf
 refine ⟨?_,trivial⟩
|apply zT rfl rfl
 . conv=>lhs;whnf
 . conv=>lhs;whnf
 . first | exact bF1 ‹_› | exact bF2 ‹_›
|apply s_1
 conv=>whnf;arg 1;arg 4;arg 3;whnf
 refine ⟨?_,?_⟩
|apply zI rfl rfl rfl
 . conv=>lhs;whnf
 . conv=>lhs;whnf;arg 1;whnf
 . conv=>lhs;whnf;arg 1;whnf
 . exact ⟨by kernel_rfl,by kernel_rfl⟩
 . rfl
|apply zC rfl
 . conv=>lhs;whnf
 . conv=>lhs;whnf
 . first | rfl | assumption
 . conv=>lhs;whnf;arg 2;whnf
|apply zH rfl
 . conv=>lhs;whnf
 . conv=>lhs;whnf
 . conv=>lhs;whnf;arg 2;whnf
|refine ze (by conv=>lhs;whnf) ?_ ?_<;>intro hb
|exact trivial
|intro hg)
    all_goals first
     |rfl
     |exact Sub.live ⟨rfl,rfl,rfl,rfl,trivial⟩ ⟨rfl,rfl,rfl,rfl,trivial⟩
  have K24:decide ((lv:Int)>24)=true->False:=fun h=>by simp at h;omega
  have hmn:Nat.min x.nd 4096<=4096:=Nat.min_le_right _ _
  by_cases hnd:4096<=x.nd
  . have hme:Nat.min x.nd 4096=4096:=Nat.min_eq_right hnd
    have K:decide (((Nat.min x.nd 4096:Nat):Int)+1>4096)=false->False:=fun h=>by have h:=of_decide_eq_false h;omega
    rw [hv4 h24 hnd]
    refine zm (fn:=Tryz.f202) 106 Tryz.func202 rfl rfl ?_
    intro pas w0 w he hp
    repeat' (first
|apply zz rfl rfl rfl
 . conv=>lhs;whnf
 . first | rfl | assumption
 . conv=>lhs;whnf
 . first | exact bT1 ‹_› | exact bT2 ‹_› | rfl
|apply zv rfl rfl rfl
 . conv=>lhs;whnf
 . first | rfl | assumption
 . conv=>lhs;whnf
 . first | exact bF1 ‹_› | exact bF2 ‹_› | rfl
|apply s_m (clS al) (zS al) rfl
 . conv=>lhs;whnf
 . conv=>lhs;whnf
 . rfl
 . conv=>lhs;whnf;arg 1;whnf
 . first | exact zr _ _
 . first | exact hn
 . exact fun _=>rfl
 . exact fun _=>rfl
|apply zW rfl
 . conv=>lhs;whnf
 . conv=>lhs;whnf
 . first | rfl | assumption
|apply zDa rfl
 . conv=>lhs;whnf
 . rfl
 . rfl
|apply zBz [pn 1] rfl
 . conv=>lhs;whnf
 . first | exact hf4
 . decide
 . rfl
 . rfl
 change _=Out.die _
|exact (nv_4 hnv ‹_›).elim
|exact (nv_5 hnv ‹_› ‹_› ‹_›).elim
|exact (K24 ‹_›).elim
|exact (K ‹_›).elim
|apply zo 4 (HuA al lv x (hdT x)) rfl
|refine zBA ?_
|refine zA ?_
|refine zB ?_
|refine zF ?_
|apply aw_1
 conv=>whnf
 refine ⟨?_,trivial⟩
|apply zT rfl rfl
 . conv=>lhs;whnf
 . conv=>lhs;whnf
 . first | exact bF1 ‹_› | exact bF2 ‹_›
|apply s_1
 conv=>whnf;arg 1;arg 4;arg 3;whnf
 refine ⟨?_,?_⟩
|apply zI rfl rfl rfl
 . conv=>lhs;whnf
 . conv=>lhs;whnf;arg 1;whnf
 . conv=>lhs;whnf;arg 1;whnf
 . exact ⟨by kernel_rfl,by kernel_rfl⟩
 . rfl
|apply zC rfl
 . conv=>lhs;whnf
 . conv=>lhs;whnf
 . first | rfl | assumption
 . conv=>lhs;whnf;arg 2;whnf
|apply zH rfl
 . conv=>lhs;whnf
 . conv=>lhs;whnf
 . conv=>lhs;whnf;arg 2;whnf
|refine ze (by conv=>lhs;whnf) ?_ ?_<;>intro hb
|exact trivial
|intro hg)
    all_goals first
     |exact zU (by omega)
     |rfl
     |exact Sub.live ⟨rfl,rfl,rfl,rfl,trivial⟩ ⟨rfl,rfl,rfl,rfl,trivial⟩
  have hme:Nat.min x.nd 4096=x.nd:=Nat.min_eq_left (by omega)
  have Knd:decide (((Nat.min x.nd 4096:Nat):Int)+1>4096)=true->False:=fun h=>by have h:=of_decide_eq_true h;omega
  obtain ⟨y,hye⟩ : ∃ y,y=nxT ⟨x.ts,x.vr,x.nd+1⟩:=⟨_,rfl⟩
  have hk5:(hdT x).k≠5:=fun e=>by rw [e] at hnv;cases hnv
  have h':Sx al ⟨x.ts,x.vr,x.nd+1⟩:=⟨h.en,h.vr,h.sf⟩
  have hy:Sx al y:=by rw [hye];exact (h'.nx hk5).1
  have hyd:y.nd=x.nd+1:=by rw [hye];exact nx_nd0 _
  have hyc:=etaS1 h' hk5
  rw [<- hye] at hyc
  have hmy:((Nat.min x.nd 4096:Nat):Int)+1=((Nat.min y.nd 4096:Nat):Int):=by rw [hyd,show Nat.min (x.nd+1) 4096=x.nd+1 from Nat.min_eq_left (by omega),hme];rfl
  have hgo:=hvg h24 hnd
  rw [<- hye] at hgo
  rw [hgo]
  have hxl:=h.len
  have hkk:=h.kd hkd
  have hnu:=zF7 (bs (hdT x).s) (by rw [zk];have:=h.en.hd;omega)
  have hvt:=vText_ac (hdT x).s
  have hvi:=vInt_ac (numQ (hdT x).s)
  have hw:=p_word (hdT x).s
  have hl:=p_list (f:=f) (lv:=lv) (fun z hz=>zJE hal hkd f (lv+1) z hz (by omega) (by omega)) (by omega) hy hal
  have ho:=p_object (f:=f) (lv:=lv) (fun z hz=>zJE hal hkd f (lv+1) z hz (by omega) (by omega)) (by omega) hy hal
  have h36:((hdT x).k==3)=false->((hdT x).k==4)=false->((hdT x).k==2)=false->((bs (hdT x).s).toList==(⟨#[36]⟩:ByteArray).toList)=false:=fun h3 h4 h2=>by
   have e1:(hdT x).k=1:=by
    have h3:(hdT x).k≠3:=by simpa using h3
    have h4:(hdT x).k≠4:=by simpa using h4
    have h2:(hdT x).k≠2:=by simpa using h2
    omega
   cases hq:((bs (hdT x).s).toList==(⟨#[36]⟩:ByteArray).toList) with
   |false=>rfl
   |true =>
    have e2:=zEG hq
    rw [e1,e2,Lib.toList_data,zAH,Lib.toList_data,Lib.toList_data] at hnv
    revert hnv
    decide
  refine zm (fn:=Tryz.f202) 106 Tryz.func202 rfl rfl ?_
  intro pas w0 w he hp
  repeat' (first
|apply zz rfl rfl rfl
 . conv=>lhs;whnf
 . first | rfl | assumption
 . conv=>lhs;whnf
 . first | exact bT1 ‹_› | exact bT2 ‹_› | rfl
|apply zv rfl rfl rfl
 . conv=>lhs;whnf
 . first | rfl | assumption
 . conv=>lhs;whnf
 . first | exact bF1 ‹_› | exact bF2 ‹_› | rfl
|apply s_m (clS al) (zS al) rfl
 . conv=>lhs;whnf
 . conv=>lhs;whnf
 . rfl
 . conv=>lhs;whnf;arg 1;whnf
 . first | exact zr _ _
 . first | exact hn
 . exact fun _=>rfl
 . exact fun _=>rfl
|apply zW rfl
 . conv=>lhs;whnf
 . conv=>lhs;whnf
 . first | rfl | assumption
|apply zDa rfl
 . conv=>lhs;whnf
 . rfl
 . rfl
|apply zGj [pn 0,pn 1] rfl
 . conv=>lhs;whnf
 . conv=>lhs;whnf
 . first | exact hl | exact ho
 . decide
 . rfl
 . rfl
 refine fun ee hq => ?_
 change _=Out.die _
 rotate_left 1
 refine fun aa xx hq => ?_
 first | (cases hq;have hq:=True.intro) | skip
|exact (nv_4 hnv ‹_›).elim
|exact (nv_5 hnv ‹_› ‹_› ‹_›).elim
|exact (K24 ‹_›).elim
|exact (Knd ‹_›).elim
|apply zo 4 (HuA al lv x (hdT x)) rfl
|apply zo 10 (HuA al lv y (hdT x)) rfl
|refine zBA ?_
|refine zA ?_
|refine zB ?_
|refine zF ?_
|refine zZ ?_
|apply aw_1
 conv=>whnf
 refine ⟨?_,trivial⟩
|apply zT rfl rfl
 . conv=>lhs;whnf
 . conv=>lhs;whnf
 . first | exact bF1 ‹_› | exact bF2 ‹_›
|apply s_1
 conv=>whnf;arg 1;arg 4;arg 3;whnf
 refine ⟨?_,?_⟩
|apply zi rfl
 . conv=>lhs;whnf
 . conv=>lhs;whnf
 . first | exact hnu | exact hvt | exact hvi | exact hw
|apply zI rfl rfl rfl
 . conv=>lhs;whnf
 . conv=>lhs;whnf;arg 1;whnf
 . conv=>lhs;whnf;arg 1;whnf
 . exact ⟨by kernel_rfl,by kernel_rfl⟩
 . rfl
|apply zC rfl
 . conv=>lhs;whnf
 . conv=>lhs;whnf
 . first | rfl | assumption
 . conv=>lhs;whnf;arg 2;whnf
|apply zH rfl
 . conv=>lhs;whnf
 . conv=>lhs;whnf
 . conv=>lhs;whnf;arg 2;whnf
|refine ze (by conv=>lhs;whnf) ?_ ?_<;>intro hb
|refine zQ ?_
|refine zV ?_
|apply zG5 rfl
 . conv=>lhs;whnf;arg 2;whnf
|exact trivial
|intro hg)
  all_goals first
   |exact zU (by omega)
   |exact Sub.live ⟨rfl,rfl,rfl,rfl,trivial⟩ ⟨rfl,rfl,rfl,rfl,trivial⟩
   |exact Sub.live ⟨rfl,rfl,rfl,rfl,trivial⟩ ⟨congrArg (fun c=>some (Res.box _ [_,.c (.int .i64 c)])) hmy,congrArg (fun c=>some (Res.box _ c)) hyc,rfl,rfl,trivial⟩
   |(rw [vt_3 ‹_›];exact ⟨bsV al y,rfl,rfl,rfl,trivial⟩)
   |(rw [vt_4 ‹_› ‹_›];exact ⟨bsV al y,rfl,rfl,rfl,trivial⟩)
   |(rw [vt_2 ‹_› ‹_› ‹_›];exact ⟨bsV al y,rfl,rfl,rfl,trivial⟩)
   |(rw [vt_l ‹_› ‹_› ‹_› (h36 ‹_› ‹_› ‹_›) ‹_›,hq];first | rfl | exact ⟨_,rfl,rfl,rfl,trivial⟩)
   |(rw [vt_o ‹_› ‹_› ‹_› (h36 ‹_› ‹_› ‹_›) ‹_›,hq];first | rfl | exact ⟨_,rfl,rfl,rfl,trivial⟩)
   |skip
end
section
open Go.RowKit
attribute [local irreducible] wpList Calls Code.wp AW AWo OpOk seqK zq zu loopK endK AC zf Yld Sub
attribute [local irreducible] ACB ACX ACE absLexG YldG absLexU YldU
theorem zH1 {al:List Tok} (hal:al.length<=100000) (hkd:Kd al) {x:PS} (h:Sx al x):ACE EN5 Tryz.prog 176 [.bx (pn 0) 0] [boxS al x] (outS al VV (zAQ x)):=by
 have hv:=zJE hal hkd 25 1 ⟨x.ts,x.vr,0⟩ ⟨h.en,h.vr,h.sf⟩ (by omega) (by omega)
 have e:zAQ x=valueQ 25 1 ⟨x.ts,x.vr,0⟩:=rfl
 rw [e]
 refine zm (fn:=Tryz.f176) 7 Tryz.func176 rfl rfl ?_
 intro pas w0 w he hp
 repeat' (first
|apply zGj [3,pn 0] rfl
 . conv=>lhs;whnf
 . conv=>lhs;whnf
 . first | exact hv
 . decide
 . rfl
 . rfl
 refine fun ee hq => ?_
 change _=Out.die _
 rotate_left 1
 refine fun aa xx hq => ?_
 first | (cases hq;have hq:=True.intro) | skip
|refine zA ?_
|refine zB ?_
|refine zF ?_
|apply aw_1
 conv=>whnf
 refine ⟨?_,trivial⟩
|apply s_1
 conv=>whnf;arg 1;arg 4;arg 3;whnf
 refine ⟨?_,?_⟩
|apply zI rfl rfl rfl
 . conv=>lhs;whnf
 . conv=>lhs;whnf;arg 1;whnf
 . conv=>lhs;whnf;arg 1;whnf
 . exact ⟨by kernel_rfl,by kernel_rfl⟩
 . rfl
|apply zAT rfl
 . conv=>lhs;whnf;arg 2;whnf
 . conv=>lhs;whnf;arg 1;whnf
|exact trivial)
 all_goals (rw [hq];rfl)
def bsK (al:List Tok) (B T:List D->Res) (acc:List D) (x:PS):List Res:=[.box 62 [.bx (pn 2) 0],B acc,boxS al x,T acc]
def elK (el:PS->PR D) (acc:List D) (x:PS):Except (Nat × Int) (Unit × (List D × PS)):=match el x with | .ok (a,y) => .ok ((),(acc++[a],y)) | .error e => .error e
def mnK (r:PR (List D)):Except (Nat × Int) (Unit × (List D × PS)):=match r with | .ok (l,y) => .ok ((),(l,y)) | .error e => .error e
def outK (al:List Tok) (B T:List D->Res) (r:Except (Nat × Int) (Unit × (List D × PS))):Out:=zH2 (fun p=>bsK al B T p.1 p.2) (fun _=>V.tup []) zEs r
def CK (al:List Tok) (B T:List D->Res) (f:FuncId) (cv:List V) (el:PS->PR D):Prop:=∀ acc x,Sx al x->acc.length+x.ts.length<=100000->ACE EN5 Tryz.prog f cv (bsK al B T acc x) (outK al B T (elK el acc x))
theorem out_err {α:Type} {al:List Tok} {B T:List D->Res} {i e:Nat × Int} (h:(Except.error i:PR α) = .error e):outK al B T (mnK (.error i))=Out.die (zEs e):=by
 injection h with h;rw [<- h];rfl
structure RenK (cv:List V) (B T:List D->Res):Prop where
 cv:renL (φin [pn 0,pn 1,pn 2,pn 3]) cv=cv
 b : ∀ acc,renR (φin [pn 0,pn 1,pn 2,pn 3]) (B acc)=B acc
 bo : ∀ acc,renR (φout [pn 0,pn 1,pn 2,pn 3]) (B acc)=B acc
 t : ∀ acc,renR (φin [pn 0,pn 1,pn 2,pn 3]) (T acc)=T acc
 to : ∀ acc,renR (φout [pn 0,pn 1,pn 2,pn 3]) (T acc)=T acc
noncomputable def HbK (al:List Tok) (B T:List D->Res) (f:FuncId) (cv:List V) (e:List UInt8) (most:Nat) (acc:List D) (z:PS):Vst 30:=
 stS 30 [(0,.bx (pn 2) 0),(1,.c (.string (bs e))),(2,.c (.int .i64 (most:Int))),(3,.clo f cv),(8,.c (.int .i64 (acc.length:Int)))] [(pn 0,.box 62 [.bx (pn 2) 0]),(pn 1,B acc),(pn 2,boxS al z),(pn 3,T acc)]
theorem zGt {al:List Tok} (hal:al.length<=100000) {B T:List D->Res} {f:FuncId} {cv:List V} {el:PS->PR D} (hent:zBw Tryz.prog f=true) (hR:RenK cv B T) (hc:CK al B T f cv el)
 (hno : ∀ x,(hdT x).k≠2->el x = .error ((hdT x).i,3)) (hls : ∀ {x y a},Sx al x->el x = .ok (a,y)->Sx al y/\y.ts.length<x.ts.length) (e:List UInt8) (most n:Nat) {x:PS} (h:Sx al x) (hn:x.ts.length<=n) :
 ACE EN5 Tryz.prog 121 [.bx (pn 2) 0,.c (.string (bs e)),.c (.int .i64 (most:Int)),.clo f cv] (bsK al B T [] x) (outK al B T (mnK (manyF el e most n [] x))):=by
 have hxl:=h.len
 refine zm (fn:=Tryz.f121) 30 Tryz.func121 rfl rfl ?_
 intro pas w0 w he hp
 repeat' (first
|refine zA ?_
|refine zB ?_
|refine zF ?_
|apply aw_1
 conv=>whnf
 refine ⟨?_,trivial⟩
|apply s_1
 conv=>whnf;arg 1;arg 4;arg 3;whnf
 refine ⟨?_,?_⟩
|exact trivial)
 refine zn (fun j st => ∃ z acc,Sx al z/\z.ts.length<=j/\acc.length+z.ts.length<=x.ts.length/\manyF el e most n [] x=manyF el e most j acc z/\Sub (cxE EN5 Tryz.prog pas w0 w he hp (outK al B T (mnK (manyF el e most n [] x)))) st (HbK al B T f cv e most acc z)) n ⟨x,[],h,hn,by simp,rfl,?_⟩ ?_
 . exact Sub.live ⟨rfl,rfl,rfl,rfl,rfl,trivial⟩ ⟨rfl,rfl,rfl,rfl,trivial⟩
 rintro j st ⟨z,acc,hz,hzj,hzl,hI,hsub⟩
 refine zg hsub ?_
 clear hsub
 rw [hI]
 clear hI
 have hzp:=hz.pos
 cases j with
 |zero=>omega
 |succ j =>
 have K0:acc.length≠0->(((acc.length:Int)==0)==false)=false->False:=fun h1 h2=>by simp at h2;exact h1 (by rw [h2];rfl)
 by_cases hE:acc.length≠0/\isS z e=true
 . have ha:=zEz hz hal hE.2
   have K1:(((acc.length:Int)==0)==false)=false->False:=K0 hE.1
   rw [manyF,if_pos hE]
   repeat' (first
|apply zl (clS al) (zS al) rfl
 . conv=>lhs;whnf
 . conv=>lhs;whnf
 . first | rfl | assumption
 . conv=>lhs;whnf
 . rfl
 . conv=>lhs;whnf;arg 1;whnf
 . first | exact zr _ _
 . first | exact ha
 . exact fun _=>rfl
 . exact fun _=>rfl
|apply zW rfl
 . conv=>lhs;whnf
 . conv=>lhs;whnf
 . first | rfl | assumption
|exact (K1 ‹_›).elim
|refine zA ?_
|refine zB ?_
|refine zF ?_
|apply aw_1
 conv=>whnf
 refine ⟨?_,trivial⟩
|apply zT rfl rfl
 . conv=>lhs;whnf
 . conv=>lhs;whnf
 . first | exact bF1 ‹_› | exact bF2 ‹_›
|apply s_1
 conv=>whnf;arg 1;arg 4;arg 3;whnf
 refine ⟨?_,?_⟩
|apply zC rfl
 . conv=>lhs;whnf
 . conv=>lhs;whnf
 . first | rfl | assumption
 . conv=>lhs;whnf;arg 2;whnf
|apply zH rfl
 . conv=>lhs;whnf
 . conv=>lhs;whnf
 . conv=>lhs;whnf;arg 2;whnf
|refine zO ?_
|refine zL rfl ?_
|refine zM ?_
|apply zCd rfl
|refine ⟨_,by conv=>lhs;whnf;arg 2;whnf,?_⟩;conv=>rhs;whnf
|exact trivial
|intro hg)
   exact ⟨rfl,rfl,rfl,rfl,trivial⟩
 rw [manyF,if_neg hE]
 have hr:=p_room hz hal acc.length most
 have hm:=zDq hz hal
 have hf:=zCY hz hal 3
 have hcl:=hc acc z hz (by omega)
 have K2:acc.length=0->(((acc.length:Int)==0)==false)=true->False:=fun h0 h2=>by rw [h0] at h2;cases h2
 by_cases hL:(hdT z).k=2/\most<=acc.length
 . rw [if_pos hL]
   rw [zHt,if_pos hL] at hr
   by_cases h0:acc.length=0
   . repeat' (first
|apply s_pr (clS al) (zS al) rfl
 . conv=>lhs;whnf
 . conv=>lhs;whnf
 . rfl
 . conv=>lhs;whnf;arg 1;whnf
 . first | exact zr _ _
 . first | exact hr
 . exact fun _=>rfl
 . first | (intro _ _;simp only [renL,renV,ren_cells];done) | exact fun _ _=>rfl
 refine fun ee hq => ?_
 change _=Out.die _
 rotate_left 1
 refine fun aa xx hq => ?_
 first | (replace hq:=zAE hq;obtain ⟨hq,rfl⟩:=hq) | (cases hq;have hq:=True.intro) | skip
|exact (K2 h0 ‹_›).elim
|refine zA ?_
|refine zB ?_
|refine zF ?_
|apply aw_1
 conv=>whnf
 refine ⟨?_,trivial⟩
|apply zX rfl rfl
 . conv=>lhs;whnf
 . conv=>lhs;whnf
 . first | exact bT1 ‹_› | exact bT2 ‹_›
|apply s_1
 conv=>whnf;arg 1;arg 4;arg 3;whnf
 refine ⟨?_,?_⟩
|apply zW rfl
 . conv=>lhs;whnf
 . conv=>lhs;whnf
 . first | rfl | assumption
|apply zH rfl
 . conv=>lhs;whnf
 . conv=>lhs;whnf
 . conv=>lhs;whnf;arg 2;whnf
|exact trivial
|intro hg)
     all_goals first
      |(cases hq;done)
      |exact out_err ‹_›
   . have hs:isS z e=false:=by cases hs:isS z e with | false=>rfl | true=>exact (hE ⟨h0,hs⟩).elim
     have ha:=zDf hz hal hs
     repeat' (first
|apply zl (clS al) (zS al) rfl
 . conv=>lhs;whnf
 . conv=>lhs;whnf
 . first | rfl | assumption
 . conv=>lhs;whnf
 . rfl
 . conv=>lhs;whnf;arg 1;whnf
 . first | exact zr _ _
 . first | exact ha
 . exact fun _=>rfl
 . exact fun _=>rfl
|apply zW rfl
 . conv=>lhs;whnf
 . conv=>lhs;whnf
 . first | rfl | assumption
|apply s_pr (clS al) (zS al) rfl
 . conv=>lhs;whnf
 . conv=>lhs;whnf
 . rfl
 . conv=>lhs;whnf;arg 1;whnf
 . first | exact zr _ _
 . first | exact hr
 . exact fun _=>rfl
 . first | (intro _ _;simp only [renL,renV,ren_cells];done) | exact fun _ _=>rfl
 refine fun ee hq => ?_
 change _=Out.die _
 rotate_left 1
 refine fun aa xx hq => ?_
 first | (replace hq:=zAE hq;obtain ⟨hq,rfl⟩:=hq) | (cases hq;have hq:=True.intro) | skip
|exact (K0 h0 ‹_›).elim
|refine zA ?_
|refine zB ?_
|refine zF ?_
|apply aw_1
 conv=>whnf
 refine ⟨?_,trivial⟩
|apply zT rfl rfl
 . conv=>lhs;whnf
 . conv=>lhs;whnf
 . first | exact bF1 ‹_› | exact bF2 ‹_›
|apply s_1
 conv=>whnf;arg 1;arg 4;arg 3;whnf
 refine ⟨?_,?_⟩
|apply zC rfl
 . conv=>lhs;whnf
 . conv=>lhs;whnf
 . first | rfl | assumption
 . conv=>lhs;whnf;arg 2;whnf
|apply zH rfl
 . conv=>lhs;whnf
 . conv=>lhs;whnf
 . conv=>lhs;whnf;arg 2;whnf
|exact trivial
|intro hg)
     all_goals first
      |(cases hq;done)
      |exact out_err ‹_›
 rw [if_neg hL]
 rw [zHt,if_neg hL] at hr
 by_cases hk:(hdT z).k=2
 . rw [show ((hdT z).k==2)=true by rw [hk];rfl] at hm
   by_cases h0:acc.length=0
   . repeat' (first
|apply s_m (clS al) (zS al) rfl
 . conv=>lhs;whnf
 . conv=>lhs;whnf
 . rfl
 . conv=>lhs;whnf;arg 1;whnf
 . first | exact zr _ _
 . first | exact hm
 . exact fun _=>rfl
 . exact fun _=>rfl
|apply zW rfl
 . conv=>lhs;whnf
 . conv=>lhs;whnf
 . first | rfl | assumption
|apply s_pr (clS al) (zS al) rfl
 . conv=>lhs;whnf
 . conv=>lhs;whnf
 . rfl
 . conv=>lhs;whnf;arg 1;whnf
 . first | exact zr _ _
 . first | exact hr
 . exact fun _=>rfl
 . first | (intro _ _;simp only [renL,renV,ren_cells];done) | exact fun _ _=>rfl
 refine fun ee hq => ?_
 change _=Out.die _
 rotate_left 1
 refine fun aa xx hq => ?_
 first | (replace hq:=zAE hq;obtain ⟨hq,rfl⟩:=hq) | (cases hq;have hq:=True.intro) | skip
|exact (K2 h0 ‹_›).elim
|refine zA ?_
|refine zB ?_
|refine zF ?_
|apply aw_1
 conv=>whnf
 refine ⟨?_,trivial⟩
|apply zX rfl rfl
 . conv=>lhs;whnf
 . conv=>lhs;whnf
 . first | exact bT1 ‹_› | exact bT2 ‹_›
|apply s_1
 conv=>whnf;arg 1;arg 4;arg 3;whnf
 refine ⟨?_,?_⟩
|apply zH rfl
 . conv=>lhs;whnf
 . conv=>lhs;whnf
 . conv=>lhs;whnf;arg 2;whnf
|exact trivial
|intro hg)
     all_goals first
      |(cases hq;done)
      |skip
     refine zGj [pn 0,pn 1,pn 2,pn 3] rfl rfl (if_pos hent) hcl (by decide) hR.cv ?_ ?_ ?_
     . show [_,some (renR (φin [pn 0,pn 1,pn 2,pn 3]) (B acc)),_,some (renR (φin [pn 0,pn 1,pn 2,pn 3]) (T acc))]=_
       rw [hR.b,hR.t];rfl
     . intro ee hq
       show outK al B T (mnK (zY (el z) fun a y=>manyF el e most j (acc++[a]) y))=Out.die (zEs ee)
       unfold elK at hq
       cases hel:el z with
       |error e2=>rw [hel] at hq;injection hq with hq;rw [<- hq];rfl
       |ok p=>rw [hel] at hq;cases hq
     . rintro ⟨⟩ ⟨acc2,y⟩ hq
       obtain ⟨a,hel,rfl⟩ : ∃ a,el z = .ok (a,y)/\acc2=acc++[a]:=by
        unfold elK at hq
        cases hel:el z with
        |error e2=>rw [hel] at hq;cases hq
        |ok p=>obtain ⟨a,y2⟩:=p;rw [hel] at hq;cases hq;exact ⟨a,rfl,rfl⟩
       have hl:=hls hz hel
       repeat' (first
|refine zA ?_
|refine zB ?_
|refine zF ?_
|refine zZ ?_
|apply s_1
 conv=>whnf;arg 1;arg 4;arg 3;whnf
 refine ⟨?_,?_⟩
|exact trivial)
       all_goals first
        |exact zU (by omega)
        |skip
       refine zJ (j':=j) (by omega) ⟨y,acc++[a],hl.1,by omega,by rw [List.length_append];simp only [List.length_cons,List.length_nil];omega,by rw [hel];rfl,Sub.live ⟨rfl,rfl,rfl,rfl,?_,trivial⟩ ⟨rfl,congrArg some (hR.bo _),rfl,congrArg some (hR.to _),trivial⟩⟩
       show V.c (.int .i64 ((acc.length:Int)+1))=V.c (.int .i64 ((acc++[a]).length:Int))
       rw [List.length_append];rfl
   . have hs:isS z e=false:=by cases hs:isS z e with | false=>rfl | true=>exact (hE ⟨h0,hs⟩).elim
     have ha:=zDf hz hal hs
     repeat' (first
|apply s_m (clS al) (zS al) rfl
 . conv=>lhs;whnf
 . conv=>lhs;whnf
 . rfl
 . conv=>lhs;whnf;arg 1;whnf
 . first | exact zr _ _
 . first | exact ha | exact hm
 . exact fun _=>rfl
 . exact fun _=>rfl
|apply zl (clS al) (zS al) rfl
 . conv=>lhs;whnf
 . conv=>lhs;whnf
 . first | rfl | assumption
 . conv=>lhs;whnf
 . rfl
 . conv=>lhs;whnf;arg 1;whnf
 . first | exact zr _ _
 . first | exact ha | exact hm
 . exact fun _=>rfl
 . exact fun _=>rfl
|apply zW rfl
 . conv=>lhs;whnf
 . conv=>lhs;whnf
 . first | rfl | assumption
|apply s_pr (clS al) (zS al) rfl
 . conv=>lhs;whnf
 . conv=>lhs;whnf
 . rfl
 . conv=>lhs;whnf;arg 1;whnf
 . first | exact zr _ _
 . first | exact hr
 . exact fun _=>rfl
 . first | (intro _ _;simp only [renL,renV,ren_cells];done) | exact fun _ _=>rfl
 refine fun ee hq => ?_
 change _=Out.die _
 rotate_left 1
 refine fun aa xx hq => ?_
 first | (replace hq:=zAE hq;obtain ⟨hq,rfl⟩:=hq) | (cases hq;have hq:=True.intro) | skip
|exact (K0 h0 ‹_›).elim
|refine zA ?_
|refine zB ?_
|refine zF ?_
|apply aw_1
 conv=>whnf
 refine ⟨?_,trivial⟩
|apply zT rfl rfl
 . conv=>lhs;whnf
 . conv=>lhs;whnf
 . first | exact bF1 ‹_› | exact bF2 ‹_›
|apply s_1
 conv=>whnf;arg 1;arg 4;arg 3;whnf
 refine ⟨?_,?_⟩
|apply zC rfl
 . conv=>lhs;whnf
 . conv=>lhs;whnf
 . first | rfl | assumption
 . conv=>lhs;whnf;arg 2;whnf
|apply zH rfl
 . conv=>lhs;whnf
 . conv=>lhs;whnf
 . conv=>lhs;whnf;arg 2;whnf
|exact trivial
|intro hg)
     all_goals first
      |(cases hq;done)
      |skip
     refine zGj [pn 0,pn 1,pn 2,pn 3] rfl rfl (if_pos hent) hcl (by decide) hR.cv ?_ ?_ ?_
     . show [_,some (renR (φin [pn 0,pn 1,pn 2,pn 3]) (B acc)),_,some (renR (φin [pn 0,pn 1,pn 2,pn 3]) (T acc))]=_
       rw [hR.b,hR.t];rfl
     . intro ee hq
       show outK al B T (mnK (zY (el z) fun a y=>manyF el e most j (acc++[a]) y))=Out.die (zEs ee)
       unfold elK at hq
       cases hel:el z with
       |error e2=>rw [hel] at hq;injection hq with hq;rw [<- hq];rfl
       |ok p=>rw [hel] at hq;cases hq
     . rintro ⟨⟩ ⟨acc2,y⟩ hq
       obtain ⟨a,hel,rfl⟩ : ∃ a,el z = .ok (a,y)/\acc2=acc++[a]:=by
        unfold elK at hq
        cases hel:el z with
        |error e2=>rw [hel] at hq;cases hq
        |ok p=>obtain ⟨a,y2⟩:=p;rw [hel] at hq;cases hq;exact ⟨a,rfl,rfl⟩
       have hl:=hls hz hel
       repeat' (first
|refine zA ?_
|refine zB ?_
|refine zF ?_
|refine zZ ?_
|apply s_1
 conv=>whnf;arg 1;arg 4;arg 3;whnf
 refine ⟨?_,?_⟩
|exact trivial)
       all_goals first
        |exact zU (by omega)
        |skip
       refine zJ (j':=j) (by omega) ⟨y,acc++[a],hl.1,by omega,by rw [List.length_append];simp only [List.length_cons,List.length_nil];omega,by rw [hel];rfl,Sub.live ⟨rfl,rfl,rfl,rfl,?_,trivial⟩ ⟨rfl,congrArg some (hR.bo _),rfl,congrArg some (hR.to _),trivial⟩⟩
       show V.c (.int .i64 ((acc.length:Int)+1))=V.c (.int .i64 ((acc++[a]).length:Int))
       rw [List.length_append];rfl
 . rw [show ((hdT z).k==2)=false by simpa using hk] at hm
   rw [hno z hk]
   by_cases h0:acc.length=0
   . repeat' (first
|apply s_m (clS al) (zS al) rfl
 . conv=>lhs;whnf
 . conv=>lhs;whnf
 . rfl
 . conv=>lhs;whnf;arg 1;whnf
 . first | exact zr _ _
 . first | exact hm
 . exact fun _=>rfl
 . exact fun _=>rfl
|apply zW rfl
 . conv=>lhs;whnf
 . conv=>lhs;whnf
 . first | rfl | assumption
|apply s_pr (clS al) (zS al) rfl
 . conv=>lhs;whnf
 . conv=>lhs;whnf
 . rfl
 . conv=>lhs;whnf;arg 1;whnf
 . first | exact zr _ _
 . first | exact hr
 . exact fun _=>rfl
 . first | (intro _ _;simp only [renL,renV,ren_cells];done) | exact fun _ _=>rfl
 refine fun ee hq => ?_
 change _=Out.die _
 rotate_left 1
 refine fun aa xx hq => ?_
 first | (replace hq:=zAE hq;obtain ⟨hq,rfl⟩:=hq) | (cases hq;have hq:=True.intro) | skip
|apply zBz [pn 2] rfl
 . conv=>lhs;whnf
 . first | exact hf
 . decide
 . rfl
 . rfl
 change _=Out.die _
|exact (K2 h0 ‹_›).elim
|refine zA ?_
|refine zB ?_
|refine zF ?_
|apply aw_1
 conv=>whnf
 refine ⟨?_,trivial⟩
|apply zX rfl rfl
 . conv=>lhs;whnf
 . conv=>lhs;whnf
 . first | exact bT1 ‹_› | exact bT2 ‹_›
|apply s_1
 conv=>whnf;arg 1;arg 4;arg 3;whnf
 refine ⟨?_,?_⟩
|apply zH rfl
 . conv=>lhs;whnf
 . conv=>lhs;whnf
 . conv=>lhs;whnf;arg 2;whnf
|exact trivial
|intro hg)
     all_goals first | rfl | (cases hq;done)
   . have hs:isS z e=false:=by cases hs:isS z e with | false=>rfl | true=>exact (hE ⟨h0,hs⟩).elim
     have ha:=zDf hz hal hs
     repeat' (first
|apply s_m (clS al) (zS al) rfl
 . conv=>lhs;whnf
 . conv=>lhs;whnf
 . rfl
 . conv=>lhs;whnf;arg 1;whnf
 . first | exact zr _ _
 . first | exact ha | exact hm
 . exact fun _=>rfl
 . exact fun _=>rfl
|apply zl (clS al) (zS al) rfl
 . conv=>lhs;whnf
 . conv=>lhs;whnf
 . first | rfl | assumption
 . conv=>lhs;whnf
 . rfl
 . conv=>lhs;whnf;arg 1;whnf
 . first | exact zr _ _
 . first | exact ha | exact hm
 . exact fun _=>rfl
 . exact fun _=>rfl
|apply zW rfl
 . conv=>lhs;whnf
 . conv=>lhs;whnf
 . first | rfl | assumption
|apply s_pr (clS al) (zS al) rfl
 . conv=>lhs;whnf
 . conv=>lhs;whnf
 . rfl
 . conv=>lhs;whnf;arg 1;whnf
 . first | exact zr _ _
 . first | exact hr
 . exact fun _=>rfl
 . first | (intro _ _;simp only [renL,renV,ren_cells];done) | exact fun _ _=>rfl
 refine fun ee hq => ?_
 change _=Out.die _
 rotate_left 1
 refine fun aa xx hq => ?_
 first | (replace hq:=zAE hq;obtain ⟨hq,rfl⟩:=hq) | (cases hq;have hq:=True.intro) | skip
|apply zBz [pn 2] rfl
 . conv=>lhs;whnf
 . first | exact hf
 . decide
 . rfl
 . rfl
 change _=Out.die _
|exact (K0 h0 ‹_›).elim
|refine zA ?_
|refine zB ?_
|refine zF ?_
|apply aw_1
 conv=>whnf
 refine ⟨?_,trivial⟩
|apply zT rfl rfl
 . conv=>lhs;whnf
 . conv=>lhs;whnf
 . first | exact bF1 ‹_› | exact bF2 ‹_›
|apply s_1
 conv=>whnf;arg 1;arg 4;arg 3;whnf
 refine ⟨?_,?_⟩
|apply zC rfl
 . conv=>lhs;whnf
 . conv=>lhs;whnf
 . first | rfl | assumption
 . conv=>lhs;whnf;arg 2;whnf
|apply zH rfl
 . conv=>lhs;whnf
 . conv=>lhs;whnf
 . conv=>lhs;whnf;arg 2;whnf
|exact trivial
|intro hg)
     all_goals first | rfl | (cases hq;done)
theorem zAz {α β:Type} {al:List Tok} {toV:β->V} {i e:Nat × Int} (h:(Except.error i:PR α) = .error e):outS al toV (.error i:PR β)=Out.die (zEs e):=by
 injection h with h;rw [<- h];rfl
theorem outS_errK {β γ:Type} {al:List Tok} {toV:β->V} {i e:Nat × Int} {f:γ->PS->PR β} (h:mnK (.error i) = .error e):outS al toV (zY (.error i:PR γ) f)=Out.die (zEs e):=by
 unfold mnK at h
 injection h with h;rw [<- h];rfl
theorem mnK_no {p:List D × PS} {e:Nat × Int} (h:mnK (.ok p) = .error e):False:=by unfold mnK at h;cases h
theorem zKu {el:PS->PR D} {acc:List D} {x y:PS} {a:D} (h:el x = .ok (a,y)):elK el acc x = .ok ((),(acc++[a],y)):=by unfold elK;rw [h]
theorem zDN {el:PS->PR D} {acc:List D} {x:PS} {e:Nat × Int} (h:el x = .error e):elK el acc x = .error e:=by unfold elK;rw [h]
theorem ent_a:zBw Tryz.prog 175=true:=by kernel_rfl
def BdS (nm:List UInt8) (acc:List D):Res:=.box 108 [.c (.string (bs nm)),.own (pn 3) 111 acc]
def TdS (acc:List D):Res:=.tok 111 acc.length
theorem ren_d (nm:List UInt8):RenK [.bx (pn 0) 0,.bx (pn 1) 0] (BdS nm) TdS:=⟨rfl,fun _=>rfl,fun _=>rfl,fun _=>rfl,fun _=>rfl⟩
section
variable {j:Nat} {x y z u:PS} {n:List UInt8} {e:Nat × Int} {t d:D} {q1 q2:Unit}
theorem ar_1 (h1:nameQ x = .error e):argQ x = .error e:=by rw [argQ,zt h1]
theorem ar_2 (h1:nameQ x = .ok (n,y)) (h2:takeQ [58] y = .error e):argQ x = .error e:=by rw [argQ,za h1,zt h2]
theorem ar_3 (h1:nameQ x = .ok (n,y)) (h2:takeQ [58] y = .ok (q1,z)) (h3:zAQ z = .error e):argQ x = .error e:=by rw [argQ,za h1,za h2,zt h3]
theorem ar_4 (h1:nameQ x = .ok (n,y)) (h2:takeQ [58] y = .ok (q1,z)) (h3:zAQ z = .ok (d,u)):argQ x = .ok (argD n d,u):=by rw [argQ,za h1,za h2,za h3]
end
theorem zEd (x:PS):zBe x=if isS x [40]=true then manyF argQ [41] 16 x.ts.length [] (nxT x) else .ok ([],x):=by
 unfold zBe
 rw [zCN]
theorem arg_no {x:PS} (h:(hdT x).k≠2):argQ x = .error ((hdT x).i,3):=by rw [argQ,nameQ,if_neg h];rfl
section
variable {al:List Tok} (hal:al.length<=100000) (hkd:Kd al)
include hal hkd
theorem p_arg (nm:List UInt8):CK al (BdS nm) TdS 175 [.bx (pn 0) 0,.bx (pn 1) 0] argQ:=by
 intro acc x h hacc
 have hnm:=zDe h hal
 have hex : ∀ {n y},nameQ x = .ok (n,y)->ACE EN5 Tryz.prog 119 [.bx (pn 0) 0,.c (.string (bs [58]))] [boxS al y] (outS al (fun _ => .tup []) (takeQ [58] y)):=fun h1=>zBC (h.name h1).1 hal [58]
 have hli : ∀ {n y u z},nameQ x = .ok (n,y)->takeQ [58] y = .ok (u,z)->ACE EN5 Tryz.prog 176 [.bx (pn 0) 0] [boxS al z] (outS al VV (zAQ z)):=fun h1 h2=>zH1 hal hkd ((h.name h1).1.take h2).1
 refine zm (fn:=Tryz.f175) 17 Tryz.func175 rfl rfl ?_
 intro pas w0 w he hp
 repeat' (first
|apply s_pr (clS al) (zS al) rfl
 . conv=>lhs;whnf
 . conv=>lhs;whnf
 . rfl
 . conv=>lhs;whnf;arg 1;whnf
 . first | exact zr _ _
 . first | exact hnm | exact hex ‹_› | exact hli ‹_› ‹_›
 . exact fun _=>rfl
 . first | (intro _ _;simp only [renL,renV,ren_cells];done) | exact fun _ _=>rfl
 refine fun ee hq => ?_
 change _=Out.die _
 rotate_left 1
 refine fun aa xx hq => ?_
 first | (replace hq:=zAE hq;obtain ⟨hq,rfl⟩:=hq) | (cases hq;have hq:=True.intro) | skip
|apply zBW [argD _ _] rfl rfl
 . conv=>lhs;whnf
 . first | exact zHI | (conv=>lhs;whnf;arg 1;whnf)
 . rfl
 . rfl
 . repeat' (first | exact trivial | apply And.intro | rfl)
|refine zA ?_
|refine zB ?_
|refine zF ?_
|apply aw_1
 conv=>whnf
 refine ⟨?_,trivial⟩
|apply s_1
 conv=>whnf;arg 1;arg 4;arg 3;whnf
 refine ⟨?_,?_⟩
|apply zI rfl rfl rfl
 . conv=>lhs;whnf
 . conv=>lhs;whnf;arg 1;whnf
 . conv=>lhs;whnf;arg 1;whnf
 . exact ⟨by kernel_rfl,by kernel_rfl⟩
 . rfl
|apply zBK rfl rfl
 . conv=>lhs;whnf
 . first | exact zHI | (conv=>lhs;whnf;arg 1;whnf)
 . first | exact fun _=>rfl | (intro _;kernel_rfl)
 . conv=>lhs;whnf
 . conv=>lhs;whnf;arg 1;whnf
 . conv=>lhs;whnf
|apply zCd rfl
|exact trivial)
 all_goals first
  |(refine ⟨by simp,?_,?_⟩<;>simp only [List.length_cons,List.length_nil,maxLen]<;>omega)
  |(rw [zDN (ar_1 ‹_›)];rfl)
  |(rw [zDN (ar_2 ‹_› ‹_›)];rfl)
  |(rw [zDN (ar_3 ‹_› ‹_› ‹_›)];rfl)
  |skip
 rename_i n y h1 u z h2
 refine ⟨bsK al (BdS nm) TdS (acc++[argD n aa]) xx,by rw [zKu (ar_4 h1 h2 hq)];rfl,rfl,rfl,rfl,?_,trivial⟩
 show some (Res.tok _ (acc.length+1))=some (Res.tok _ (acc++[argD n aa]).length)
 rw [List.length_append];rfl
noncomputable def HxS (al:List Tok) (z:PS) (acc:List D):Vst 32:=
 stS 32 [(1,.bx 1 0),(3,.own 3 108 acc)] [(pn 0,boxS al z),(1,.box 62 [.bx (pn 0) 0]),(3,.tok 108 acc.length)]
noncomputable def HxB (al:List Tok) (z:PS) (acc:List D) (n:List UInt8):Vst 32:=
 stS 32 [(1,.bx 1 0),(3,.own 3 108 acc),(4,.bx 4 0)] [(pn 0,boxS al z),(1,.box 62 [.bx (pn 0) 0]),(3,.tok 108 acc.length),(4,.box 108 [.c (.string (bs n)),.own 904 111 []]),(904,.tok 111 0)]
noncomputable def HxD (al:List Tok) (z:PS) (acc:List D) (n:List UInt8) (aa:List D):Vst 32:=
 stS 32 [(1,.bx 1 0),(3,.own 3 108 acc),(4,.bx 4 0)] [(pn 0,boxS al z),(1,.box 62 [.bx (pn 0) 0]),(3,.tok 108 acc.length),(4,.box 108 [.c (.string (bs n)),.sl 111 aa])]
theorem zF1 {x:PS} (h:Sx al x):ACE EN5 Tryz.prog 118 [.bx (pn 0) 0] [boxS al x] (outS al (fun l => .sl 108 l) (zAS x)):=by
 have e0:zAS x=dirsF (x.ts.length+1) [] x:=rfl
 have hxl:=h.len
 rw [e0]
 refine zm (fn:=Tryz.f118) 32 Tryz.func118 rfl rfl ?_
 intro pas w0 w he hp
 repeat' (first
|refine zA ?_
|refine zB ?_
|refine zF ?_
|apply aw_1
 conv=>whnf
 refine ⟨?_,trivial⟩
|apply s_1
 conv=>whnf;arg 1;arg 4;arg 3;whnf
 refine ⟨?_,?_⟩
|apply zAW rfl rfl rfl rfl
 . conv=>lhs;whnf;arg 1;whnf
 . rfl
|exact trivial)
 refine zg (Sub.own (t:=3) (e:=108) rfl rfl) ?_
 refine zn (fun j st => ∃ z acc,Sx al z/\z.ts.length<j/\acc.length+z.ts.length<=x.ts.length/\dirsF (x.ts.length+1) [] x=dirsF j acc z/\Sub (cxE EN5 Tryz.prog pas w0 w he hp (outS al (fun l=>V.sl 108 l) (dirsF (x.ts.length+1) [] x))) st (HxS al z acc)) (x.ts.length+1) ⟨x,[],h,by omega,by simp,rfl,?_⟩ ?_
 . exact Sub.live ⟨rfl,rfl,trivial⟩ ⟨rfl,rfl,rfl,trivial⟩
 rintro j st ⟨z,acc,hz,hzj,hzl,hI,hsub⟩
 refine zg hsub ?_
 clear hsub
 rw [hI]
 clear hI
 cases j with
 |zero=>omega
 |succ j =>
 have hi:=p_is hz hal [64]
 have hf:=zCY hz hal 4
 by_cases hs:isS z [64]=true
 rotate_left 1
 . have hs:isS z [64]=false:=by simpa using hs
   rw [hs] at hi
   rw [dl_end hs]
   repeat' (first
|apply s_m (clS al) (zS al) rfl
 . conv=>lhs;whnf
 . conv=>lhs;whnf
 . rfl
 . conv=>lhs;whnf;arg 1;whnf
 . first | exact zr _ _
 . first | exact hi
 . exact fun _=>rfl
 . exact fun _=>rfl
|refine zA ?_
|refine zB ?_
|refine zF ?_
|apply aw_1
 conv=>whnf
 refine ⟨?_,trivial⟩
|apply s_1
 conv=>whnf;arg 1;arg 4;arg 3;whnf
 refine ⟨?_,?_⟩
|refine zO ?_
|refine zL rfl ?_
|refine zM ?_
|apply zAT rfl
 . conv=>lhs;whnf;arg 2;whnf
 . conv=>lhs;whnf;arg 1;whnf
|exact trivial)
   rfl
 rw [hs] at hi
 by_cases hlm:16<=acc.length
 . have K:decide ((acc.length:Int)>=16)=false->False:=fun h=>by simp at h;omega
   rw [dl_lim hs hlm]
   repeat' (first
|apply s_m (clS al) (zS al) rfl
 . conv=>lhs;whnf
 . conv=>lhs;whnf
 . rfl
 . conv=>lhs;whnf;arg 1;whnf
 . first | exact zr _ _
 . first | exact hi
 . exact fun _=>rfl
 . exact fun _=>rfl
|apply zBz [pn 0] rfl
 . conv=>lhs;whnf
 . first | exact hf
 . decide
 . rfl
 . rfl
 change _=Out.die _
|exact (K ‹_›).elim
|refine zA ?_
|refine zB ?_
|refine zF ?_
|apply aw_1
 conv=>whnf
 refine ⟨?_,trivial⟩
|apply s_1
 conv=>whnf;arg 1;arg 4;arg 3;whnf
 refine ⟨?_,?_⟩
|refine ze (by conv=>lhs;whnf) ?_ ?_<;>intro hb
|exact trivial)
   rfl
 have K:decide ((acc.length:Int)>=16)=true->False:=fun h=>by simp at h;omega
 have h1:=hz.sg hs
 have hk5:(hdT z).k≠5:=by unfold isS at hs;simp only [Bool.and_eq_true,beq_iff_eq] at hs;rw [hs.1];decide
 have hyc:=etaS1 hz hk5
 have hal2:=hz.len
 have hnm:=zDe h1.1 hal
 rcases hN:nameQ (nxT z) with e1 | ⟨n,y⟩
 . rw [dl_nm hs (by omega) hN]
   rw [hN] at hnm
   repeat' (first
|apply s_m (clS al) (zS al) rfl
 . conv=>lhs;whnf
 . conv=>lhs;whnf
 . rfl
 . conv=>lhs;whnf;arg 1;whnf
 . first | exact zr _ _
 . first | exact hi
 . exact fun _=>rfl
 . exact fun _=>rfl
|apply s_pr (clS al) (zS al) rfl
 . conv=>lhs;whnf
 . conv=>lhs;whnf
 . rfl
 . conv=>lhs;whnf;arg 1;whnf
 . first | exact zr _ _
 . first | exact hnm
 . exact fun _=>rfl
 . first | (intro _ _;simp only [renL,renV,ren_cells];done) | exact fun _ _=>rfl
 refine fun ee hq => ?_
 change _=Out.die _
 rotate_left 1
 refine fun aa xx hq => ?_
 first | (replace hq:=zAE hq;obtain ⟨hq,rfl⟩:=hq) | (cases hq;have hq:=True.intro) | skip
|exact (K ‹_›).elim
|apply zo 6 (HxS al (nxT z) acc) rfl
|refine zBA ?_
|refine zA ?_
|refine zB ?_
|refine zF ?_
|apply aw_1
 conv=>whnf
 refine ⟨?_,trivial⟩
|apply s_1
 conv=>whnf;arg 1;arg 4;arg 3;whnf
 refine ⟨?_,?_⟩
|apply zI rfl rfl rfl
 . conv=>lhs;whnf
 . conv=>lhs;whnf;arg 1;whnf
 . conv=>lhs;whnf;arg 1;whnf
 . exact ⟨by kernel_rfl,by kernel_rfl⟩
 . rfl
|refine ze (by conv=>lhs;whnf) ?_ ?_<;>intro hb
|exact trivial)
   all_goals first
    |exact zU (by omega)
    |exact Sub.live ⟨rfl,rfl,trivial⟩ ⟨congrArg (fun c=>some (Res.box _ c)) hyc,rfl,rfl,trivial⟩
    |exact zAz ‹_›
 have hN1:=h1.1.name hN
 rw [hN] at hnm
 have hgo:dirsF (j+1) acc z=zY (zBe y) fun aa u=>dirsF j (acc++[dirD n aa]) u:=by rw [dirsF,if_pos hs,if_neg (by omega),za hN]
 rw [hgo]
 have hac:=p_acc hN1.1 hal [40]
 by_cases hp4:isS y [40]=true
 . have h4:=hN1.1.sg hp4
   rw [if_pos hp4,hp4] at hac
   have hbk:=zGt hal ent_a (ren_d n) (p_arg hal hkd n) (fun x h=>arg_no h) (fun h hq=>h.arg hq) [41] 16 y.ts.length h4.1 (by omega)
   rw [zEd,if_pos hp4]
   rcases hM:manyF argQ [41] 16 y.ts.length [] (nxT y) with e1 | ⟨aa,u⟩
   . rw [hM] at hbk
     repeat' (first
|apply s_m (clS al) (zS al) rfl
 . conv=>lhs;whnf
 . conv=>lhs;whnf
 . rfl
 . conv=>lhs;whnf;arg 1;whnf
 . first | exact zr _ _
 . first | exact hi | exact hac
 . exact fun _=>rfl
 . exact fun _=>rfl
|apply s_pr (clS al) (zS al) rfl
 . conv=>lhs;whnf
 . conv=>lhs;whnf
 . rfl
 . conv=>lhs;whnf;arg 1;whnf
 . first | exact zr _ _
 . first | exact hnm
 . exact fun _=>rfl
 . first | (intro _ _;simp only [renL,renV,ren_cells];done) | exact fun _ _=>rfl
 refine fun ee hq => ?_
 change _=Out.die _
 rotate_left 1
 refine fun aa xx hq => ?_
 first | (replace hq:=zAE hq;obtain ⟨hq,rfl⟩:=hq) | (cases hq;have hq:=True.intro) | skip
|apply zGj [1,4,pn 0,904] rfl
 . conv=>lhs;whnf
 . conv=>lhs;whnf
 . first | exact hbk
 . decide
 . rfl
 . rfl
 refine fun ee hq => ?_
 change _=Out.die _
 rotate_left 1
 refine fun aa xx hq => ?_
 first | (cases hq;have hq:=True.intro) | skip
|exact (K ‹_›).elim
|apply zo 6 (HxS al (nxT z) acc) rfl
|apply zo 7 (HxB al y acc n) rfl
|refine zBA ?_
|refine zA ?_
|refine zB ?_
|refine zF ?_
|apply aw_1
 conv=>whnf
 refine ⟨?_,trivial⟩
|apply s_1
 conv=>whnf;arg 1;arg 4;arg 3;whnf
 refine ⟨?_,?_⟩
|apply zI rfl rfl rfl
 . conv=>lhs;whnf
 . conv=>lhs;whnf;arg 1;whnf
 . conv=>lhs;whnf;arg 1;whnf
 . exact ⟨by kernel_rfl,by kernel_rfl⟩
 . rfl
|refine ze (by conv=>lhs;whnf) ?_ ?_<;>intro hb
|exact trivial)
     all_goals first
      |exact zU (by omega)
      |exact Sub.live ⟨rfl,rfl,trivial⟩ ⟨congrArg (fun c=>some (Res.box _ c)) hyc,rfl,rfl,trivial⟩
      |exact zAz ‹_›
      |exact (Sub.ownF (m:=4) (q:=904) (i:=1) (e:=111) rfl (by decide) rfl rfl rfl).trans (Sub.live ⟨rfl,rfl,rfl,trivial⟩ ⟨rfl,rfl,rfl,rfl,rfl,trivial⟩)
      |(cases hq;done)
      |exact outS_errK ‹_›
   rw [hM] at hbk
   repeat' (first
|apply s_m (clS al) (zS al) rfl
 . conv=>lhs;whnf
 . conv=>lhs;whnf
 . rfl
 . conv=>lhs;whnf;arg 1;whnf
 . first | exact zr _ _
 . first | exact hi | exact hac
 . exact fun _=>rfl
 . exact fun _=>rfl
|apply s_pr (clS al) (zS al) rfl
 . conv=>lhs;whnf
 . conv=>lhs;whnf
 . rfl
 . conv=>lhs;whnf;arg 1;whnf
 . first | exact zr _ _
 . first | exact hnm
 . exact fun _=>rfl
 . first | (intro _ _;simp only [renL,renV,ren_cells];done) | exact fun _ _=>rfl
 refine fun ee hq => ?_
 change _=Out.die _
 rotate_left 1
 refine fun aa xx hq => ?_
 first | (replace hq:=zAE hq;obtain ⟨hq,rfl⟩:=hq) | (cases hq;have hq:=True.intro) | skip
|apply zGj [1,4,pn 0,904] rfl
 . conv=>lhs;whnf
 . conv=>lhs;whnf
 . first | exact hbk
 . decide
 . rfl
 . rfl
 refine fun ee hq => ?_
 change _=Out.die _
 rotate_left 1
 refine fun aa xx hq => ?_
 first | (cases hq;have hq:=True.intro) | skip
|apply zBW [dirD n aa] rfl rfl
 . conv=>lhs;whnf
 . first | exact zDz | (conv=>lhs;whnf;arg 1;whnf)
 . rfl
 . rfl
 . repeat' (first | exact trivial | apply And.intro | rfl)
|exact (K ‹_›).elim
|apply zo 6 (HxS al (nxT z) acc) rfl
|apply zo 7 (HxB al y acc n) rfl
|apply zo 9 (HxD al u acc n aa) rfl
|refine zBA ?_
|refine zA ?_
|refine zB ?_
|refine zF ?_
|refine zZ ?_
|apply aw_1
 conv=>whnf
 refine ⟨?_,trivial⟩
|apply s_1
 conv=>whnf;arg 1;arg 4;arg 3;whnf
 refine ⟨?_,?_⟩
|apply zI rfl rfl rfl
 . conv=>lhs;whnf
 . conv=>lhs;whnf;arg 1;whnf
 . conv=>lhs;whnf;arg 1;whnf
 . exact ⟨by kernel_rfl,by kernel_rfl⟩
 . rfl
|apply zBK rfl rfl
 . conv=>lhs;whnf
 . first | exact zDz | (conv=>lhs;whnf;arg 1;whnf)
 . first | exact fun _=>rfl | (intro _;kernel_rfl)
 . conv=>lhs;whnf
 . conv=>lhs;whnf;arg 1;whnf
 . conv=>lhs;whnf
|refine ze (by conv=>lhs;whnf) ?_ ?_<;>intro hb
|exact trivial)
   all_goals first
    |exact zU (by omega)
    |exact Sub.live ⟨rfl,rfl,trivial⟩ ⟨congrArg (fun c=>some (Res.box _ c)) hyc,rfl,rfl,trivial⟩
    |exact (Sub.ownF (m:=4) (q:=904) (i:=1) (e:=111) rfl (by decide) rfl rfl rfl).trans (Sub.live ⟨rfl,rfl,rfl,trivial⟩ ⟨rfl,rfl,rfl,rfl,rfl,trivial⟩)
    |(refine ⟨by simp,?_,?_⟩<;>simp only [List.length_cons,List.length_nil,maxLen]<;>omega)
    |(cases hq;done)
    |exact (mnK_no hq).elim
    |exact (Sub.boxle (m:=4) (t:=108) (vs:=[.c (.string (bs n)),.own 904 111 aa]) (vs':=[.c (.string (bs n)),.sl 111 aa]) rfl (.cons (.refl _) (.cons (.own _ _ _) .nil))).trans (Sub.live ⟨rfl,rfl,rfl,trivial⟩ ⟨rfl,rfl,rfl,rfl,trivial⟩)
    |skip
   have hA:zBe y = .ok (aa,u):=by rw [zEd,if_pos hp4,hM]
   have hA1:=hN1.1.args hA
   refine zJ (j':=j) (by omega) ⟨u,acc++[dirD n aa],hA1.1,by omega,by rw [List.length_append];simp only [List.length_cons,List.length_nil];omega,rfl,Sub.live ⟨rfl,rfl,trivial⟩ ⟨rfl,rfl,?_,trivial⟩⟩
   show some (Res.tok _ (acc.length+1))=some (Res.tok _ (acc++[dirD n aa]).length)
   rw [List.length_append];rfl
 . have hp4:isS y [40]=false:=by simpa using hp4
   rw [if_neg (by rw [hp4];decide),hp4] at hac
   rw [zEd,if_neg (by rw [hp4];decide)]
   repeat' (first
|apply s_m (clS al) (zS al) rfl
 . conv=>lhs;whnf
 . conv=>lhs;whnf
 . rfl
 . conv=>lhs;whnf;arg 1;whnf
 . first | exact zr _ _
 . first | exact hi | exact hac
 . exact fun _=>rfl
 . exact fun _=>rfl
|apply s_pr (clS al) (zS al) rfl
 . conv=>lhs;whnf
 . conv=>lhs;whnf
 . rfl
 . conv=>lhs;whnf;arg 1;whnf
 . first | exact zr _ _
 . first | exact hnm
 . exact fun _=>rfl
 . first | (intro _ _;simp only [renL,renV,ren_cells];done) | exact fun _ _=>rfl
 refine fun ee hq => ?_
 change _=Out.die _
 rotate_left 1
 refine fun aa xx hq => ?_
 first | (replace hq:=zAE hq;obtain ⟨hq,rfl⟩:=hq) | (cases hq;have hq:=True.intro) | skip
|apply zBW [dirD n []] rfl rfl
 . conv=>lhs;whnf
 . first | exact zDz | (conv=>lhs;whnf;arg 1;whnf)
 . rfl
 . rfl
 . repeat' (first | exact trivial | apply And.intro | rfl)
|exact (K ‹_›).elim
|apply zo 6 (HxS al (nxT z) acc) rfl
|apply zo 7 (HxB al y acc n) rfl
|apply zo 9 (HxD al y acc n []) rfl
|refine zBA ?_
|refine zA ?_
|refine zB ?_
|refine zF ?_
|refine zZ ?_
|apply aw_1
 conv=>whnf
 refine ⟨?_,trivial⟩
|apply s_1
 conv=>whnf;arg 1;arg 4;arg 3;whnf
 refine ⟨?_,?_⟩
|apply zI rfl rfl rfl
 . conv=>lhs;whnf
 . conv=>lhs;whnf;arg 1;whnf
 . conv=>lhs;whnf;arg 1;whnf
 . exact ⟨by kernel_rfl,by kernel_rfl⟩
 . rfl
|apply zBK rfl rfl
 . conv=>lhs;whnf
 . first | exact zDz | (conv=>lhs;whnf;arg 1;whnf)
 . first | exact fun _=>rfl | (intro _;kernel_rfl)
 . conv=>lhs;whnf
 . conv=>lhs;whnf;arg 1;whnf
 . conv=>lhs;whnf
|refine ze (by conv=>lhs;whnf) ?_ ?_<;>intro hb
|exact trivial)
   all_goals first
    |exact zU (by omega)
    |exact Sub.live ⟨rfl,rfl,trivial⟩ ⟨congrArg (fun c=>some (Res.box _ c)) hyc,rfl,rfl,trivial⟩
    |exact (Sub.ownF (m:=4) (q:=904) (i:=1) (e:=111) rfl (by decide) rfl rfl rfl).trans (Sub.live ⟨rfl,rfl,rfl,trivial⟩ ⟨rfl,rfl,rfl,rfl,rfl,trivial⟩)
    |(refine ⟨by simp,?_,?_⟩<;>simp only [List.length_cons,List.length_nil,maxLen]<;>omega)
    |(cases hq;done)
    |exact (mnK_no hq).elim
    |exact (Sub.boxle (m:=4) (t:=108) (vs:=[.c (.string (bs n)),.own 904 111 []]) (vs':=[.c (.string (bs n)),.sl 111 []]) rfl (.cons (.refl _) (.cons (.own _ _ _) .nil))).trans (Sub.live ⟨rfl,rfl,rfl,trivial⟩ ⟨rfl,rfl,rfl,rfl,trivial⟩)
    |skip
   have hA:zBe y = .ok ([],y):=by rw [zEd,if_neg (by rw [hp4];decide)]
   have hA1:=hN1.1.args hA
   refine zJ (j':=j) (by omega) ⟨y,acc++[dirD n []],hA1.1,by omega,by rw [List.length_append];simp only [List.length_cons,List.length_nil];omega,rfl,Sub.live ⟨rfl,rfl,trivial⟩ ⟨rfl,rfl,?_,trivial⟩⟩
   show some (Res.tok _ (acc.length+1))=some (Res.tok _ (acc++[dirD n []]).length)
   rw [List.length_append];rfl
end
end
section
open Go.RowKit
def eqX (x:PS):PS:=if isS x [61]=true then nxT x else x
def pqX (x:PS):PS:=if isS x [40]=true then nxT x else x
section
variable {x y z u v o w:PS} {n:List UInt8} {e:Nat × Int} {t d:D} {l aa:List D} {q1 q2:Unit}
theorem in_1 (h1:nameQ x = .error e):inQ x = .error e:=by rw [inQ,zt h1]
theorem in_2 (h1:nameQ x = .ok (n,y)) (h2:takeQ [58] y = .error e):inQ x = .error e:=by rw [inQ,za h1,zt h2]
theorem in_3 (h1:nameQ x = .ok (n,y)) (h2:takeQ [58] y = .ok (q1,z)) (h3:typQ z = .error e):inQ x = .error e:=by rw [inQ,za h1,za h2,zt h3]
theorem in_4 (h1:nameQ x = .ok (n,y)) (h2:takeQ [58] y = .ok (q1,z)) (h3:typQ z = .ok (t,u)) (h4:isS u [61]=true) (h5:zAQ (eqX u) = .error e):inQ x = .error e:=by
 rw [eqX,if_pos h4] at h5
 rw [inQ,za h1,za h2,za h3,if_pos h4,zt h5];rfl
theorem in_5 (h1:nameQ x = .ok (n,y)) (h2:takeQ [58] y = .ok (q1,z)) (h3:typQ z = .ok (t,u)) (h4:isS u [61]=true) (h5:zAQ (eqX u) = .ok (d,o)) (h6:zAS o = .error e):inQ x = .error e:=by
 rw [eqX,if_pos h4] at h5
 rw [inQ,za h1,za h2,za h3,if_pos h4,za h5,za (r:=.ok ((true,d),o)) rfl,zt h6]
theorem in_6 (h1:nameQ x = .ok (n,y)) (h2:takeQ [58] y = .ok (q1,z)) (h3:typQ z = .ok (t,u)) (h4:isS u [61]=true) (h5:zAQ (eqX u) = .ok (d,o)) (h6:zAS o = .ok (l,w)):inQ x = .ok (sInD n t true d l,w):=by
 rw [eqX,if_pos h4] at h5
 rw [inQ,za h1,za h2,za h3,if_pos h4,za h5,za (r:=.ok ((true,d),o)) rfl,za h6]
theorem eqX_f (h4:isS u [61]=false):eqX u=u:=by rw [eqX,if_neg (by rw [h4];decide)]
theorem in_7 (h1:nameQ x = .ok (n,y)) (h2:takeQ [58] y = .ok (q1,z)) (h3:typQ z = .ok (t,u)) (h4:isS u [61]=false) (h6:zAS (eqX u) = .error e):inQ x = .error e:=by
 rw [eqX_f h4] at h6
 rw [inQ,za h1,za h2,za h3,if_neg (by rw [h4];decide),za (r:=.ok ((false,zA5),u)) rfl,zt h6]
theorem in_8 (h1:nameQ x = .ok (n,y)) (h2:takeQ [58] y = .ok (q1,z)) (h3:typQ z = .ok (t,u)) (h4:isS u [61]=false) (h6:zAS (eqX u) = .ok (l,w)):inQ x = .ok (sInD n t false zA5 l,w):=by
 rw [eqX_f h4] at h6
 rw [inQ,za h1,za h2,za h3,if_neg (by rw [h4];decide),za (r:=.ok ((false,zA5),u)) rfl,za h6]
theorem pqX_f (h4:isS u [40]=false):pqX u=u:=by rw [pqX,if_neg (by rw [h4];decide)]
theorem fi_1 (h1:nameQ x = .error e):fdQ x = .error e:=by rw [fdQ,zt h1]
theorem fi_2 (h1:nameQ x = .ok (n,y)) (h2:isS y [40]=true) (h3:insQ [41] (pqX y) = .error e):fdQ x = .error e:=by
 rw [pqX,if_pos h2] at h3
 rw [fdQ,za h1,if_pos h2,zt h3]
def fdT (n:List UInt8) (aa:List D) (z:PS):PR D:=zY (takeQ [58] z) fun _ u=>zY (typQ u) fun t v=>zY (zAS v) fun ds w => .ok (sFdD n aa t ds,w)
theorem fi_3 (h1:nameQ x = .ok (n,y)) (h2:isS y [40]=true) (h3:insQ [41] (pqX y) = .ok (aa,z)):fdQ x=fdT n aa z:=by
 rw [pqX,if_pos h2] at h3
 rw [fdQ,za h1,if_pos h2,za h3];rfl
theorem fi_4 (h1:nameQ x = .ok (n,y)) (h2:isS y [40]=false):fdQ x=fdT n [] (pqX y):=by
 rw [pqX_f h2,fdQ,za h1,if_neg (by rw [h2];decide),za (r:=.ok ([],y)) rfl];rfl
theorem ft_1 (h1:takeQ [58] z = .error e):fdT n aa z = .error e:=by rw [fdT,zt h1]
theorem ft_2 (h1:takeQ [58] z = .ok (q1,u)) (h2:typQ u = .error e):fdT n aa z = .error e:=by rw [fdT,za h1,zt h2]
theorem ft_3 (h1:takeQ [58] z = .ok (q1,u)) (h2:typQ u = .ok (t,v)) (h3:zAS v = .error e):fdT n aa z = .error e:=by rw [fdT,za h1,za h2,zt h3]
theorem ft_4 (h1:takeQ [58] z = .ok (q1,u)) (h2:typQ u = .ok (t,v)) (h3:zAS v = .ok (l,w)):fdT n aa z = .ok (sFdD n aa t l,w):=by rw [fdT,za h1,za h2,za h3]
end
theorem Sx.eqX {al:List Tok} {x:PS} (h:Sx al x):Sx al (eqX x)/\(Proofs.YthppafnlnnpciaaGreatDoor.eqX x).ts.length<=x.ts.length:=by
 unfold Proofs.YthppafnlnnpciaaGreatDoor.eqX
 split
 . rename_i hs;have:=h.sg hs;exact ⟨this.1,by omega⟩
 . exact ⟨h,Nat.le_refl _⟩
theorem Sx.pqX {al:List Tok} {x:PS} (h:Sx al x):Sx al (pqX x)/\(Proofs.YthppafnlnnpciaaGreatDoor.pqX x).ts.length<=x.ts.length:=by
 unfold Proofs.YthppafnlnnpciaaGreatDoor.pqX
 split
 . rename_i hs;have:=h.sg hs;exact ⟨this.1,by omega⟩
 . exact ⟨h,Nat.le_refl _⟩
attribute [local irreducible] wpList Calls Code.wp AW AWo OpOk seqK zq zu loopK endK AC zf Yld Sub
attribute [local irreducible] ACB ACX ACE absLexG YldG absLexU YldU
noncomputable def VIn (d:D):V:=.agg (cellsV Tryz.prog 12 55 d)
noncomputable def VFd (d:D):V:=.agg (cellsV Tryz.prog 12 50 d)
section
variable {al:List Tok} (hal:al.length<=100000) (hkd:Kd al)
include hal hkd
theorem p_input {x:PS} (h:Sx al x):ACE EN5 Tryz.prog 178 [.bx (pn 0) 0] [boxS al x] (outS al VIn (inQ x)):=by
 have hnm:=zDe h hal
 have hex : ∀ {n y},nameQ x = .ok (n,y)->ACE EN5 Tryz.prog 119 [.bx (pn 0) 0,.c (.string (bs [58]))] [boxS al y] (outS al (fun _ => .tup []) (takeQ [58] y)):=fun h1=>zBC (h.name h1).1 hal [58]
 have hty : ∀ {n y u z},nameQ x = .ok (n,y)->takeQ [58] y = .ok (u,z)->ACE EN5 Tryz.prog 179 [.bx (pn 0) 0] [boxS al z] (outS al (fun d => .agg (cellsV Tryz.prog 12 48 d)) (typQ z)):=fun h1 h2=>p_ref ((h.name h1).1.take h2).1 hal
 have E3 : ∀ {n y u z t v},nameQ x = .ok (n,y)->takeQ [58] y = .ok (u,z)->typQ z = .ok (t,v)->Sx al v:=fun h1 h2 h3=>(((h.name h1).1.take h2).1.typ h3).1
 have hac : ∀ {n y u z t v},nameQ x = .ok (n,y)->takeQ [58] y = .ok (u,z)->typQ z = .ok (t,v)->ACB EN5 Tryz.prog 173 [.bx (pn 0) 0,.c (.string (bs [61]))] [boxS al v] (.c (.bool (isS v [61]))) [boxS al (eqX v)]:=fun h1 h2 h3=>p_acc (E3 h1 h2 h3) hal [61]
 have hli : ∀ {n y u z t v},nameQ x = .ok (n,y)->takeQ [58] y = .ok (u,z)->typQ z = .ok (t,v)->ACE EN5 Tryz.prog 176 [.bx (pn 0) 0] [boxS al (eqX v)] (outS al VV (zAQ (eqX v))):=fun h1 h2 h3=>zH1 hal hkd (E3 h1 h2 h3).eqX.1
 have hd1 : ∀ {n y u z t v d o},nameQ x = .ok (n,y)->takeQ [58] y = .ok (u,z)->typQ z = .ok (t,v)->zAQ (eqX v) = .ok (d,o)->ACE EN5 Tryz.prog 118 [.bx (pn 0) 0] [boxS al o] (outS al (fun l => .sl 108 l) (zAS o)):=fun h1 h2 h3 h4=>zF1 hal hkd ((E3 h1 h2 h3).eqX.1.whole h4).1
 have hd2 : ∀ {n y u z t v},nameQ x = .ok (n,y)->takeQ [58] y = .ok (u,z)->typQ z = .ok (t,v)->ACE EN5 Tryz.prog 118 [.bx (pn 0) 0] [boxS al (eqX v)] (outS al (fun l => .sl 108 l) (zAS (eqX v))):=fun h1 h2 h3=>zF1 hal hkd (E3 h1 h2 h3).eqX.1
 refine zm (fn:=Tryz.f178) 22 Tryz.func178 rfl rfl ?_
 intro pas w0 w he hp
 repeat' (first
|apply s_m (clS al) (zS al) rfl
 . conv=>lhs;whnf
 . conv=>lhs;whnf
 . rfl
 . conv=>lhs;whnf;arg 1;whnf
 . first | exact zr _ _
 . first | exact hac ‹_› ‹_› ‹_›
 . exact fun _=>rfl
 . exact fun _=>rfl
|apply zAD (VIn (sInD _ _ true _ _)) rfl rfl
 . conv=>lhs;whnf;arg 2;whnf
 . repeat' (first | exact VLe.refl _ | exact VLe.nil _ | exact VLe.lit _ _ | exact VLe.own _ _ _ | apply VLe.agg | apply VLeL.cons | exact VLeL.nil)
|apply zAD (VIn (sInD _ _ false zA5 _)) rfl rfl
 . conv=>lhs;whnf;arg 2;whnf
 . repeat' (first | exact VLe.refl _ | exact VLe.nil _ | exact VLe.lit _ _ | exact VLe.own _ _ _ | apply VLe.agg | apply VLeL.cons | exact VLeL.nil)
|apply s_pr (clS al) (zS al) rfl
 . conv=>lhs;whnf
 . conv=>lhs;whnf
 . rfl
 . conv=>lhs;whnf;arg 1;whnf
 . first | exact zr _ _
 . first | exact hnm | exact hex ‹_› | exact hty ‹_› ‹_› | exact hli ‹_› ‹_› ‹_› | exact hd1 ‹_› ‹_› ‹_› ‹_› | exact hd2 ‹_› ‹_› ‹_›
 . exact fun _=>rfl
 . first | (intro _ _;simp only [renL,renV,ren_cells];done) | exact fun _ _=>rfl
 refine fun ee hq => ?_
 change _=Out.die _
 rotate_left 1
 refine fun aa xx hq => ?_
 first | (replace hq:=zAE hq;obtain ⟨hq,rfl⟩:=hq) | (cases hq;have hq:=True.intro) | skip
|refine zA ?_
|refine zB ?_
|refine zF ?_
|apply aw_1
 conv=>whnf
 refine ⟨?_,trivial⟩
|apply s_1
 conv=>whnf;arg 1;arg 4;arg 3;whnf
 refine ⟨?_,?_⟩
|apply zI rfl rfl rfl
 . conv=>lhs;whnf
 . conv=>lhs;whnf;arg 1;whnf
 . conv=>lhs;whnf;arg 1;whnf
 . exact ⟨by kernel_rfl,by kernel_rfl⟩
 . rfl
|refine ze (by conv=>lhs;whnf) ?_ ?_<;>intro hb
|apply zAT rfl
 . conv=>lhs;whnf;arg 2;whnf
 . conv=>lhs;whnf;arg 1;whnf
|exact trivial)
 all_goals first
  |(rw [in_1 ‹_›];rfl)
  |(rw [in_2 ‹_› ‹_›];rfl)
  |(rw [in_3 ‹_› ‹_› ‹_›];rfl)
  |(rw [in_4 ‹_› ‹_› ‹_› ‹_› ‹_›];rfl)
  |(rw [in_5 ‹_› ‹_› ‹_› ‹_› ‹_› ‹_›];rfl)
  |(rw [in_6 ‹_› ‹_› ‹_› ‹_› ‹_› ‹_›];rfl)
  |(rw [in_7 ‹_› ‹_› ‹_› ‹_› ‹_›];rfl)
  |(rw [in_8 ‹_› ‹_› ‹_› ‹_› ‹_›];rfl)
  |skip
end
end
section
open Go.RowKit
theorem acx_dead {e:Ge} {P:Program} {f:FuncId} {args:List V} {t:TypeId} {pv:Value}:ACX e P f args [.box t [.c (.tuple #[])]] pv:=fun pas s w us _ hm _ _=>by
 obtain ⟨b,cs,-,-,h2,-⟩:=hm.ho (pn 0) (.box t [.c (.tuple #[])]) rfl
 cases hc:cs.toList with
 |nil=>rw [hc] at h2;simp [relL] at h2
 |cons x r =>
  rw [hc,relL,rel] at h2
  exact h2.1.2.elim
section
variable {X:Cx} {nn:Nat} {st:Vst nn} {o:Oper} {ops:Array Oper} {l:List Oper} {d:Option Tmp} {Q:Vst nn->Prop} {rd wr:Nat->List Nat} {k:Nat}
theorem g_dead {f:FuncId} {vs:List V} {m:Nat} {t:TypeId} (dv:V) (pv:Value) (hg:o.guard=none) (hd:o.dst=d) (h:act1 X.P st.rs (ev st) o.op = .call f vs) (hv:vs=[.bx m 0]) (hr:st.rs m=some (.box t [.c (.tuple #[])])) (hl:[m].all (fun n=>(wr k).contains n)=true)
 (hpk : ∀ tm rs,X.pk pv tm rs) (hK:absLexG X ops rd wr Q (k+1) l ((st.res m (.box t [.c (.tuple #[])])).put d dv)):absLexG X ops rd wr Q k (o::l) st:=by
 subst hv
 refine zJP [m] dv [.box t [.c (.tuple #[])]] hg hd h (acx_dead (args:=renL (φin [m]) [.bx m 0]) (t:=t)) (by simp) rfl (by simp only [List.map_cons,List.map_nil,hr,Option.map_some];rfl) rfl hl hpk ?_
 rw [zBm]
 exact hK
end
section
variable {x y z:PS} {n:List UInt8} {e:Nat × Int} {l:List D}
theorem mb_1 (h1:nameQ x = .error e):mbQ x = .error e:=by rw [mbQ,zt h1]
theorem mb_2 (h1:nameQ x = .ok (n,y)) (h2:zAS y = .error e):mbQ x = .error e:=by rw [mbQ,za h1,zt h2]
theorem mb_3 (h1:nameQ x = .ok (n,y)) (h2:zAS y = .ok (l,z)):mbQ x = .ok (sMbD n l,z):=by rw [mbQ,za h1,za h2]
theorem mnK_ok {r:PR (List D)} {a:Unit} {p:List D × PS} (h:mnK r = .ok (a,p)):r = .ok p:=by
 cases r with
 |error e=>cases h
 |ok q=>obtain ⟨l,y⟩:=q;unfold mnK at h;cases h;rfl
theorem mnK_er {r:PR (List D)} {e:Nat × Int} (h:mnK r = .error e):r = .error e:=by
 cases r with
 |error e=>unfold mnK at h;cases h;rfl
 |ok q=>obtain ⟨l,y⟩:=q;cases h
theorem inq_no {x:PS} (h:(hdT x).k≠2):inQ x = .error ((hdT x).i,3):=by rw [inQ,nameQ,if_neg h];rfl
theorem fdq_no {x:PS} (h:(hdT x).k≠2):fdQ x = .error ((hdT x).i,3):=by rw [fdQ,nameQ,if_neg h];rfl
theorem mbq_no {x:PS} (h:(hdT x).k≠2):mbQ x = .error ((hdT x).i,3):=by rw [mbQ,nameQ,if_neg h];rfl
end
attribute [local irreducible] wpList Calls Code.wp AW AWo OpOk seqK zq zu loopK endK AC zf Yld Sub
attribute [local irreducible] ACB ACX ACE absLexG YldG absLexU YldU
theorem zIY:z8 Tryz.prog 43=some (55,168):=by kernel_rfl
theorem zIZ:z8 Tryz.prog 41=some (50,104):=by kernel_rfl
theorem zCm:z8 Tryz.prog 42=some (79,40):=by kernel_rfl
theorem ent_i:zBw Tryz.prog 177=true:=by kernel_rfl
def Bi (acc:List D):Res:=.box 43 [.own (pn 3) 55 acc]
def Ti (acc:List D):Res:=.tok 55 acc.length
theorem ren_i:RenK [.bx (pn 1) 0,.bx (pn 0) 0] Bi Ti:=⟨rfl,fun _=>rfl,fun _=>rfl,fun _=>rfl,fun _=>rfl⟩
section
variable {al:List Tok} (hal:al.length<=100000) (hkd:Kd al)
include hal hkd
theorem p_in:CK al Bi Ti 177 [.bx (pn 1) 0,.bx (pn 0) 0] inQ:=by
 intro acc x h hacc
 have hin:=p_input hal hkd h
 refine zm (fn:=Tryz.f177) 7 Tryz.func177 rfl rfl ?_
 intro pas w0 w he hp
 repeat' (first
|apply zBd 6 ([(0,[1000001]),(1,[1000000])]) ([(2,[1000002]),(4,[1000003]),(5,[1000001])]) rfl (by kernel_rfl) (by kernel_rfl) (by kernel_rfl)
|apply zHD
|apply zHC rfl
 . conv=>lhs;whnf
 . conv=>lhs;whnf;arg 2;whnf
|apply zIL rfl rfl
 . conv=>lhs;whnf
 . first | exact zIY | (conv=>lhs;whnf;arg 1;whnf)
 . first | exact fun _=>rfl | (intro _;kernel_rfl)
 . conv=>lhs;whnf
 . rfl
 . conv=>lhs;whnf;arg 1;whnf
 . conv=>lhs;whnf
|apply zCJ rfl rfl rfl
 . conv=>lhs;whnf
 . rfl
 . conv=>lhs;whnf;arg 1;whnf
 . conv=>lhs;whnf;arg 1;whnf
 . exact ⟨by kernel_rfl,by kernel_rfl⟩
 . rfl
|exact Or.inl ⟨pn 2,_,rfl⟩
|refine Or.inr ?_
|apply g_pr (clS al) (zS al) (default:D) rfl
 . conv=>lhs;whnf
 . conv=>lhs;whnf
 . rfl
 . conv=>lhs;whnf;arg 1;whnf
 . first | exact zr _ _
 . first | exact hin
 . exact fun _=>rfl
 . first | (intro _ _;simp only [renL,renV,ren_cells];done) | exact fun _ _=>rfl
 . rfl
 refine fun ee hq tm rs => ?_
 change _=Out.die _
 rotate_left 1
 refine fun aa xx hq => ?_
 first | (cases hq;have hq:=True.intro) | skip
 rotate_left 1
 refine fun ee hq => ?_
 first | (cases hq;done) | skip
|show inO _ _=true;rfl
|apply zDi [aa] rfl rfl
 . conv=>lhs;whnf
 . first | exact zIY | (conv=>lhs;whnf;arg 1;whnf)
 . rfl
 . rfl
 . repeat' (first | exact trivial | apply And.intro | rfl)
|apply zDi [default] rfl rfl
 . conv=>lhs;whnf
 . first | exact zIY | (conv=>lhs;whnf;arg 1;whnf)
 . rfl
 . rfl
 . repeat' (first | exact trivial | apply And.intro | rfl)
|apply zCd rfl
|exact trivial)
 all_goals first
  |(refine ⟨by simp,?_,?_⟩<;>simp only [List.length_cons,List.length_nil,maxLen]<;>omega)
  |(rw [zDN hq];rfl)
  |skip
 refine ⟨bsK al Bi Ti (acc++[aa]) xx,by rw [zKu hq];rfl,rfl,rfl,rfl,?_,trivial⟩
 show some (Res.tok _ (acc.length+1))=some (Res.tok _ (acc++[aa]).length)
 rw [List.length_append];rfl
noncomputable def HiN (al:List Tok) (x:PS) (e:List UInt8):Vst 11:=
 stS 11 [(1,.c (.string (bs e))),(2,.bx 2 0),(5,.bx 5 0)] [(pn 0,boxS al x),(2,.box 62 [.bx (pn 0) 0]),(5,.box 43 [.own 905 55 []]),(905,.tok 55 0)]
theorem zKE (e:List UInt8) {x:PS} (h:Sx al x):ACE EN5 Tryz.prog 120 [.bx (pn 0) 0,.c (.string (bs e))] [boxS al x] (outS al (fun l => .sl 55 l) (insQ e x)):=by
 have hbk:=zGt hal ent_i ren_i (p_in hal hkd) (fun x h=>inq_no h) (fun h hq=>h.inp hq) e 16 (x.ts.length+1) h (by omega)
 have e0:insQ e x=manyF inQ e 16 (x.ts.length+1) [] x:=rfl
 rw [e0]
 refine zm (fn:=Tryz.f120) 11 Tryz.func120 rfl rfl ?_
 intro pas w0 w he hp
 repeat' (first
|apply zGj [2,5,pn 0,905] rfl
 . conv=>lhs;whnf
 . conv=>lhs;whnf
 . first | exact hbk
 . decide
 . rfl
 . rfl
 refine fun ee hq => ?_
 change _=Out.die _
 rotate_left 1
 refine fun aa xx hq => ?_
 first | (cases hq;have hq:=True.intro) | skip
|apply zo 2 (HiN al x e) rfl
|refine zBA ?_
|refine zA ?_
|refine zB ?_
|refine zF ?_
|apply aw_1
 conv=>whnf
 refine ⟨?_,trivial⟩
|apply s_1
 conv=>whnf;arg 1;arg 4;arg 3;whnf
 refine ⟨?_,?_⟩
|apply zAW rfl rfl rfl rfl
 . conv=>lhs;whnf;arg 1;whnf
 . rfl
|apply zAT rfl
 . conv=>lhs;whnf;arg 2;whnf
 . conv=>lhs;whnf;arg 1;whnf
|exact trivial)
 . exact (Sub.ownF (m:=5) (q:=905) (i:=0) (e:=55) rfl (by decide) rfl rfl rfl).trans (Sub.live ⟨rfl,rfl,rfl,trivial⟩ ⟨rfl,rfl,rfl,rfl,trivial⟩)
 . obtain ⟨l,y⟩:=xx
   rw [mnK_ok hq];rfl
 . rw [mnK_er hq];rfl
theorem p_field {x:PS} (h:Sx al x):ACE EN5 Tryz.prog 124 [.bx (pn 0) 0] [boxS al x] (outS al VFd (fdQ x)):=by
 have hnm:=zDe h hal
 rcases hN:nameQ x with e1 | ⟨n,y⟩
 . rw [fi_1 hN]
   rw [hN] at hnm
   refine zm (fn:=Tryz.f124) 21 Tryz.func124 rfl rfl ?_
   intro pas w0 w he hp
   repeat' (first
|apply s_pr (clS al) (zS al) rfl
 . conv=>lhs;whnf
 . conv=>lhs;whnf
 . rfl
 . conv=>lhs;whnf;arg 1;whnf
 . first | exact zr _ _
 . first | exact hnm
 . exact fun _=>rfl
 . first | (intro _ _;simp only [renL,renV,ren_cells];done) | exact fun _ _=>rfl
 refine fun ee hq => ?_
 change _=Out.die _
 rotate_left 1
 refine fun aa xx hq => ?_
 first | (replace hq:=zAE hq;obtain ⟨hq,rfl⟩:=hq) | (cases hq;have hq:=True.intro) | skip
|refine zA ?_
|refine zB ?_
|refine zF ?_
|apply aw_1
 conv=>whnf
 refine ⟨?_,trivial⟩
|apply s_1
 conv=>whnf;arg 1;arg 4;arg 3;whnf
 refine ⟨?_,?_⟩
|exact trivial)
   all_goals first
    |exact zAz ‹_›
    |(cases hq;done)
 have hN1:=(h.name hN).1
 rw [hN] at hnm
 have hac:ACB EN5 Tryz.prog 173 [.bx (pn 0) 0,.c (.string (bs [40]))] [boxS al y] (.c (.bool (isS y [40]))) [boxS al (pqX y)]:=p_acc hN1 hal [40]
 have hin:=zKE hal hkd [41] hN1.pqX.1
 by_cases hp4:isS y [40]=true
 . rcases hM:insQ [41] (pqX y) with e1 | ⟨l,z⟩
   . rw [fi_2 hN hp4 hM]
     rw [hp4] at hac
     rw [hM] at hin
     refine zm (fn:=Tryz.f124) 21 Tryz.func124 rfl rfl ?_
     intro pas w0 w he hp
     repeat' (first
|apply s_m (clS al) (zS al) rfl
 . conv=>lhs;whnf
 . conv=>lhs;whnf
 . rfl
 . conv=>lhs;whnf;arg 1;whnf
 . first | exact zr _ _
 . first | exact hac
 . exact fun _=>rfl
 . exact fun _=>rfl
|apply s_pr (clS al) (zS al) rfl
 . conv=>lhs;whnf
 . conv=>lhs;whnf
 . rfl
 . conv=>lhs;whnf;arg 1;whnf
 . first | exact zr _ _
 . first | exact hnm | exact hin
 . exact fun _=>rfl
 . first | (intro _ _;simp only [renL,renV,ren_cells];done) | exact fun _ _=>rfl
 refine fun ee hq => ?_
 change _=Out.die _
 rotate_left 1
 refine fun aa xx hq => ?_
 first | (replace hq:=zAE hq;obtain ⟨hq,rfl⟩:=hq) | (cases hq;have hq:=True.intro) | skip
|refine zA ?_
|refine zB ?_
|refine zF ?_
|apply aw_1
 conv=>whnf
 refine ⟨?_,trivial⟩
|apply s_1
 conv=>whnf;arg 1;arg 4;arg 3;whnf
 refine ⟨?_,?_⟩
|apply zI rfl rfl rfl
 . conv=>lhs;whnf
 . conv=>lhs;whnf;arg 1;whnf
 . conv=>lhs;whnf;arg 1;whnf
 . exact ⟨by kernel_rfl,by kernel_rfl⟩
 . rfl
|exact trivial)
     all_goals first
      |exact zAz ‹_›
      |(cases hq;done)
      |skip
   have hz:=(hN1.pqX.1.ins hM).1
   rw [fi_3 hN hp4 hM]
   rw [hp4] at hac
   rw [hM] at hin
   have hex:=zBC hz hal [58]
   have hty : ∀ {u v},takeQ [58] z = .ok (u,v)->ACE EN5 Tryz.prog 179 [.bx (pn 0) 0] [boxS al v] (outS al (fun d => .agg (cellsV Tryz.prog 12 48 d)) (typQ v)):=fun h1=>p_ref (hz.take h1).1 hal
   have hdi : ∀ {u v t o},takeQ [58] z = .ok (u,v)->typQ v = .ok (t,o)->ACE EN5 Tryz.prog 118 [.bx (pn 0) 0] [boxS al o] (outS al (fun l => .sl 108 l) (zAS o)):=fun h1 h2=>zF1 hal hkd ((hz.take h1).1.typ h2).1
   refine zm (fn:=Tryz.f124) 21 Tryz.func124 rfl rfl ?_
   intro pas w0 w he hp
   repeat' (first
|apply s_m (clS al) (zS al) rfl
 . conv=>lhs;whnf
 . conv=>lhs;whnf
 . rfl
 . conv=>lhs;whnf;arg 1;whnf
 . first | exact zr _ _
 . first | exact hac
 . exact fun _=>rfl
 . exact fun _=>rfl
|apply zAD (VFd (sFdD _ _ _ _)) rfl rfl
 . conv=>lhs;whnf;arg 2;whnf
 . repeat' (first | exact VLe.refl _ | exact VLe.nil _ | exact VLe.lit _ _ | exact VLe.own _ _ _ | apply VLe.agg | apply VLeL.cons | exact VLeL.nil)
|apply s_pr (clS al) (zS al) rfl
 . conv=>lhs;whnf
 . conv=>lhs;whnf
 . rfl
 . conv=>lhs;whnf;arg 1;whnf
 . first | exact zr _ _
 . first | exact hnm | exact hin | exact hex | exact hty ‹_› | exact hdi ‹_› ‹_›
 . exact fun _=>rfl
 . first | (intro _ _;simp only [renL,renV,ren_cells];done) | exact fun _ _=>rfl
 refine fun ee hq => ?_
 change _=Out.die _
 rotate_left 1
 refine fun aa xx hq => ?_
 first | (replace hq:=zAE hq;obtain ⟨hq,rfl⟩:=hq) | (cases hq;have hq:=True.intro) | skip
|refine zA ?_
|refine zB ?_
|refine zF ?_
|apply aw_1
 conv=>whnf
 refine ⟨?_,trivial⟩
|apply s_1
 conv=>whnf;arg 1;arg 4;arg 3;whnf
 refine ⟨?_,?_⟩
|apply zI rfl rfl rfl
 . conv=>lhs;whnf
 . conv=>lhs;whnf;arg 1;whnf
 . conv=>lhs;whnf;arg 1;whnf
 . exact ⟨by kernel_rfl,by kernel_rfl⟩
 . rfl
|apply zAT rfl
 . conv=>lhs;whnf;arg 2;whnf
 . conv=>lhs;whnf;arg 1;whnf
|exact trivial)
   all_goals first
    |(cases hq;done)
    |(rw [ft_1 ‹_›];rfl)
    |(rw [ft_2 ‹_› ‹_›];rfl)
    |(rw [ft_3 ‹_› ‹_› ‹_›];rfl)
    |(rw [ft_4 ‹_› ‹_› ‹_›];rfl)
    |skip
 have hp4:isS y [40]=false:=by simpa using hp4
 rw [fi_4 hN hp4]
 rw [hp4] at hac
 have hz:=hN1.pqX.1
 obtain ⟨z,hze⟩ : ∃ z,z=pqX y:=⟨_,rfl⟩
 have hac:ACB EN5 Tryz.prog 173 [.bx (pn 0) 0,.c (.string (bs [40]))] [boxS al y] (.c (.bool false)) [boxS al z]:=by rw [hze];exact hac
 rw [<- hze] at hz
 rw [<- hze]
 have hex:=zBC hz hal [58]
 have hty : ∀ {u v},takeQ [58] z = .ok (u,v)->ACE EN5 Tryz.prog 179 [.bx (pn 0) 0] [boxS al v] (outS al (fun d => .agg (cellsV Tryz.prog 12 48 d)) (typQ v)):=fun h1=>p_ref (hz.take h1).1 hal
 have hdi : ∀ {u v t o},takeQ [58] z = .ok (u,v)->typQ v = .ok (t,o)->ACE EN5 Tryz.prog 118 [.bx (pn 0) 0] [boxS al o] (outS al (fun l => .sl 108 l) (zAS o)):=fun h1 h2=>zF1 hal hkd ((hz.take h1).1.typ h2).1
 refine zm (fn:=Tryz.f124) 21 Tryz.func124 rfl rfl ?_
 intro pas w0 w he hp
 repeat' (first
|apply s_m (clS al) (zS al) rfl
 . conv=>lhs;whnf
 . conv=>lhs;whnf
 . rfl
 . conv=>lhs;whnf;arg 1;whnf
 . first | exact zr _ _
 . first | exact hac
 . exact fun _=>rfl
 . exact fun _=>rfl
|apply zAD (VFd (sFdD _ [] _ _)) rfl rfl
 . conv=>lhs;whnf;arg 2;whnf
 . repeat' (first | exact VLe.refl _ | exact VLe.nil _ | exact VLe.lit _ _ | exact VLe.own _ _ _ | apply VLe.agg | apply VLeL.cons | exact VLeL.nil)
|apply s_pr (clS al) (zS al) rfl
 . conv=>lhs;whnf
 . conv=>lhs;whnf
 . rfl
 . conv=>lhs;whnf;arg 1;whnf
 . first | exact zr _ _
 . first | exact hnm | exact hex | exact hty ‹_› | exact hdi ‹_› ‹_›
 . exact fun _=>rfl
 . first | (intro _ _;simp only [renL,renV,ren_cells];done) | exact fun _ _=>rfl
 refine fun ee hq => ?_
 change _=Out.die _
 rotate_left 1
 refine fun aa xx hq => ?_
 first | (replace hq:=zAE hq;obtain ⟨hq,rfl⟩:=hq) | (cases hq;have hq:=True.intro) | skip
|refine zA ?_
|refine zB ?_
|refine zF ?_
|apply aw_1
 conv=>whnf
 refine ⟨?_,trivial⟩
|apply s_1
 conv=>whnf;arg 1;arg 4;arg 3;whnf
 refine ⟨?_,?_⟩
|apply zI rfl rfl rfl
 . conv=>lhs;whnf
 . conv=>lhs;whnf;arg 1;whnf
 . conv=>lhs;whnf;arg 1;whnf
 . exact ⟨by kernel_rfl,by kernel_rfl⟩
 . rfl
|apply zAT rfl
 . conv=>lhs;whnf;arg 2;whnf
 . conv=>lhs;whnf;arg 1;whnf
|exact trivial)
 all_goals first
  |(cases hq;done)
  |(rw [ft_1 ‹_›];rfl)
  |(rw [ft_2 ‹_› ‹_›];rfl)
  |(rw [ft_3 ‹_› ‹_› ‹_›];rfl)
  |(rw [ft_4 ‹_› ‹_› ‹_›];rfl)
  |skip
end
end
section
open Go.RowKit
attribute [local irreducible] wpList Calls Code.wp AW AWo OpOk seqK zq zu loopK endK AC zf Yld Sub
attribute [local irreducible] ACB ACX ACE absLexG YldG absLexU YldU
theorem ent_1:zBw Tryz.prog 122=true:=by kernel_rfl
theorem ent_2:zBw Tryz.prog 123=true:=by kernel_rfl
def Bm (k:Int) (n:List UInt8) (im ds:List D) (acc:List D):Res:=.box 45 [.c (.int .i64 k),.c (.string (bs n)),.sl 9 im,.sl 108 ds,.c (.slice none 0 0),.own (pn 3) 79 acc,.c (.slice none 0 0)]
def Tm (acc:List D):Res:=.tok 79 acc.length
theorem ren_m (k:Int) (n:List UInt8) (im ds:List D):RenK [.bx (pn 1) 0,.bx (pn 0) 0] (Bm k n im ds) Tm:=⟨rfl,fun _=>rfl,fun _=>rfl,fun _=>rfl,fun _=>rfl⟩
def Bf (k:Int) (n:List UInt8) (im ds:List D) (acc:List D):Res:=.box 45 [.c (.int .i64 k),.c (.string (bs n)),.sl 9 im,.sl 108 ds,.own (pn 3) 50 acc,.c (.slice none 0 0),.c (.slice none 0 0)]
def Tf (acc:List D):Res:=.tok 50 acc.length
theorem ren_f (k:Int) (n:List UInt8) (im ds:List D):RenK [.bx (pn 1) 0,.bx (pn 0) 0] (Bf k n im ds) Tf:=⟨rfl,fun _=>rfl,fun _=>rfl,fun _=>rfl,fun _=>rfl⟩
section
variable {al:List Tok} (hal:al.length<=100000) (hkd:Kd al)
include hal hkd
theorem p_fd (k:Int) (n:List UInt8) (im ds:List D):CK al (Bf k n im ds) Tf 123 [.bx (pn 1) 0,.bx (pn 0) 0] fdQ:=by
 intro acc x h hacc
 have hin:=p_field hal hkd h
 refine zm (fn:=Tryz.f123) 9 Tryz.func123 rfl rfl ?_
 intro pas w0 w he hp
 repeat' (first
|apply zBd 8 ([(1,[1000001]),(2,[1000000])]) ([(3,[1000002]),(5,[1000003]),(7,[1000001])]) rfl (by kernel_rfl) (by kernel_rfl) (by kernel_rfl)
|apply zHD
|apply zHC rfl
 . conv=>lhs;whnf
 . conv=>lhs;whnf;arg 2;whnf
|apply zIL rfl rfl
 . conv=>lhs;whnf
 . first | exact zIZ | (conv=>lhs;whnf;arg 1;whnf)
 . first | exact fun _=>rfl | (intro _;kernel_rfl)
 . conv=>lhs;whnf
 . rfl
 . conv=>lhs;whnf;arg 1;whnf
 . conv=>lhs;whnf
|apply zCJ rfl rfl rfl
 . conv=>lhs;whnf
 . rfl
 . conv=>lhs;whnf;arg 1;whnf
 . conv=>lhs;whnf;arg 1;whnf
 . exact ⟨by kernel_rfl,by kernel_rfl⟩
 . rfl
|exact Or.inl ⟨pn 2,_,rfl⟩
|refine Or.inr ?_
|apply g_pr (clS al) (zS al) (default:D) rfl
 . conv=>lhs;whnf
 . conv=>lhs;whnf
 . rfl
 . conv=>lhs;whnf;arg 1;whnf
 . first | exact zr _ _
 . first | exact hin
 . exact fun _=>rfl
 . first | (intro _ _;simp only [renL,renV,ren_cells];done) | exact fun _ _=>rfl
 . rfl
 refine fun ee hq tm rs => ?_
 change _=Out.die _
 rotate_left 1
 refine fun aa xx hq => ?_
 first | (cases hq;have hq:=True.intro) | skip
 rotate_left 1
 refine fun ee hq => ?_
 first | (cases hq;done) | skip
|show inO _ _=true;rfl
|apply zDi [aa] rfl rfl
 . conv=>lhs;whnf
 . first | exact zIZ | (conv=>lhs;whnf;arg 1;whnf)
 . rfl
 . rfl
 . repeat' (first | exact trivial | apply And.intro | rfl)
|apply zDi [default] rfl rfl
 . conv=>lhs;whnf
 . first | exact zIZ | (conv=>lhs;whnf;arg 1;whnf)
 . rfl
 . rfl
 . repeat' (first | exact trivial | apply And.intro | rfl)
|apply zCd rfl
|exact trivial)
 all_goals first
  |(refine ⟨by simp,?_,?_⟩<;>simp only [List.length_cons,List.length_nil,maxLen]<;>omega)
  |(rw [zDN hq];rfl)
  |skip
 refine ⟨bsK al (Bf k n im ds) Tf (acc++[aa]) xx,by rw [zKu hq];rfl,rfl,rfl,rfl,?_,trivial⟩
 show some (Res.tok _ (acc.length+1))=some (Res.tok _ (acc++[aa]).length)
 rw [List.length_append];rfl
theorem p_mb (k:Int) (n:List UInt8) (im ds:List D):CK al (Bm k n im ds) Tm 122 [.bx (pn 1) 0,.bx (pn 0) 0] mbQ:=by
 intro acc x h hacc
 have hnm:=zDe h hal
 rcases hN:nameQ x with e1 | ⟨m,y⟩
 . rw [zDN (mb_1 hN)]
   refine zm (fn:=Tryz.f122) 12 Tryz.func122 rfl rfl ?_
   intro pas w0 w he hp
   repeat' (first
|apply zBd 11 ([(1,[1000001]),(2,[1000000]),(4,[1000000])]) ([(3,[1000002]),(5,[1000002]),(8,[1000003]),(10,[1000001])]) rfl (by kernel_rfl) (by kernel_rfl) (by kernel_rfl)
|apply zHD
|apply zHC rfl
 . conv=>lhs;whnf
 . conv=>lhs;whnf;arg 2;whnf
|apply zIL rfl rfl
 . conv=>lhs;whnf
 . first | exact zCm | (conv=>lhs;whnf;arg 1;whnf)
 . first | exact fun _=>rfl | (intro _;kernel_rfl)
 . conv=>lhs;whnf
 . rfl
 . conv=>lhs;whnf;arg 1;whnf
 . conv=>lhs;whnf
|apply zCJ rfl rfl rfl
 . conv=>lhs;whnf
 . rfl
 . conv=>lhs;whnf;arg 1;whnf
 . conv=>lhs;whnf;arg 1;whnf
 . exact ⟨by kernel_rfl,by kernel_rfl⟩
 . rfl
|exact Or.inl ⟨pn 2,_,rfl⟩
|apply g_pr (clS al) (zS al) ([]:List UInt8) rfl
 . conv=>lhs;whnf
 . conv=>lhs;whnf
 . rfl
 . conv=>lhs;whnf;arg 1;whnf
 . first | exact zr _ _
 . first | exact hnm
 . exact fun _=>rfl
 . first | (intro _ _;simp only [renL,renV,ren_cells];done) | exact fun _ _=>rfl
 . rfl
 refine fun ee hq tm rs => ?_
 change _=Out.die _
 rotate_left 1
 refine fun aa xx hq => ?_
 first | (cases hq;have hq:=True.intro) | skip
 rotate_left 1
 refine fun ee hq => ?_
 first | (cases hq;done) | skip
|apply g_dead (.sl 108 []) (zEs e1) rfl
 . conv=>lhs;whnf
 . conv=>lhs;whnf
 . rfl
 . rfl
 . rfl
|show inO _ _=true;rfl
|apply zDi [sMbD [] []] rfl rfl
 . conv=>lhs;whnf
 . first | exact zCm | (conv=>lhs;whnf;arg 1;whnf)
 . rfl
 . rfl
 . repeat' (first | exact trivial | apply And.intro | rfl)
|exact trivial
|intro hg)
   all_goals first
    |(intro _ _;rfl)
    |(rw [hN] at hq;cases hq;done)
    |(rw [hN] at hq;cases hq;rfl)
    |(refine ⟨by simp,?_,?_⟩<;>simp only [List.length_cons,List.length_nil,maxLen]<;>omega)
    |skip
 have hN1:=(h.name hN).1
 have hdi:=zF1 hal hkd hN1
 rw [hN] at hnm
 refine zm (fn:=Tryz.f122) 12 Tryz.func122 rfl rfl ?_
 intro pas w0 w he hp
 repeat' (first
|apply zBd 11 ([(1,[1000001]),(2,[1000000]),(4,[1000000])]) ([(3,[1000002]),(5,[1000002]),(8,[1000003]),(10,[1000001])]) rfl (by kernel_rfl) (by kernel_rfl) (by kernel_rfl)
|apply zHD
|apply zHC rfl
 . conv=>lhs;whnf
 . conv=>lhs;whnf;arg 2;whnf
|apply zIL rfl rfl
 . conv=>lhs;whnf
 . first | exact zCm | (conv=>lhs;whnf;arg 1;whnf)
 . first | exact fun _=>rfl | (intro _;kernel_rfl)
 . conv=>lhs;whnf
 . rfl
 . conv=>lhs;whnf;arg 1;whnf
 . conv=>lhs;whnf
|apply zCJ rfl rfl rfl
 . conv=>lhs;whnf
 . rfl
 . conv=>lhs;whnf;arg 1;whnf
 . conv=>lhs;whnf;arg 1;whnf
 . exact ⟨by kernel_rfl,by kernel_rfl⟩
 . rfl
|exact Or.inl ⟨pn 2,_,rfl⟩
|refine Or.inr ?_
|apply g_pr (clS al) (zS al) ([]:List UInt8) rfl
 . conv=>lhs;whnf
 . conv=>lhs;whnf
 . rfl
 . conv=>lhs;whnf;arg 1;whnf
 . first | exact zr _ _
 . first | exact hnm
 . exact fun _=>rfl
 . first | (intro _ _;simp only [renL,renV,ren_cells];done) | exact fun _ _=>rfl
 . rfl
 refine fun ee hq tm rs => ?_
 change _=Out.die _
 rotate_left 1
 refine fun aa xx hq => ?_
 first | (cases hq;have hq:=True.intro) | skip
 rotate_left 1
 refine fun ee hq => ?_
 first | (cases hq;done) | skip
|apply g_pr (clS al) (zS al) ([]:List D) rfl
 . conv=>lhs;whnf
 . conv=>lhs;whnf
 . rfl
 . conv=>lhs;whnf;arg 1;whnf
 . first | exact zr _ _
 . first | exact hdi
 . exact fun _=>rfl
 . first | (intro _ _;simp only [renL,renV,ren_cells];done) | exact fun _ _=>rfl
 . rfl
 refine fun ee hq tm rs => ?_
 change _=Out.die _
 rotate_left 1
 refine fun aa xx hq => ?_
 first | (cases hq;have hq:=True.intro) | skip
 rotate_left 1
 refine fun ee hq => ?_
 first | (cases hq;done) | skip
|show inO _ _=true;rfl
|apply zDi [sMbD m aa] rfl rfl
 . conv=>lhs;whnf
 . first | exact zCm | (conv=>lhs;whnf;arg 1;whnf)
 . rfl
 . rfl
 . repeat' (first | exact trivial | apply And.intro | rfl)
|apply zDi [sMbD m []] rfl rfl
 . conv=>lhs;whnf
 . first | exact zCm | (conv=>lhs;whnf;arg 1;whnf)
 . rfl
 . rfl
 . repeat' (first | exact trivial | apply And.intro | rfl)
|apply zCd rfl
|exact trivial)
 all_goals first
  |(refine ⟨by simp,?_,?_⟩<;>simp only [List.length_cons,List.length_nil,maxLen]<;>omega)
  |(cases hq;done)
  |(rw [zDN (mb_2 hN hq)];rfl)
  |skip
 refine ⟨bsK al (Bm k n im ds) Tm (acc++[sMbD m aa]) xx,by rw [zKu (mb_3 hN hq)];rfl,rfl,rfl,rfl,?_,trivial⟩
 show some (Res.tok _ (acc.length+1))=some (Res.tok _ (acc++[sMbD m aa]).length)
 rw [List.length_append];rfl
end
section
variable {s:List UInt8}
theorem ks_1 (h:((bs s).toList==(⟨#[116,121,112,101]⟩:ByteArray).toList)=true):kindS s=1:=by unfold kindS;rw [if_pos (show s=zIy from zEG h)]
theorem ks_2 (h1:((bs s).toList==(⟨#[116,121,112,101]⟩:ByteArray).toList)=false) (h:((bs s).toList==(⟨#[105,110,116,101,114,102,97,99,101]⟩:ByteArray).toList)=true):kindS s=2:=by unfold kindS;rw [if_neg (show ¬ s=zIy from zBJ h1),if_pos (show s=zGE from zEG h)]
theorem ks_3 (h1:((bs s).toList==(⟨#[116,121,112,101]⟩:ByteArray).toList)=false) (h2:((bs s).toList==(⟨#[105,110,116,101,114,102,97,99,101]⟩:ByteArray).toList)=false) (h:((bs s).toList==(⟨#[117,110,105,111,110]⟩:ByteArray).toList)=true):kindS s=3:=by unfold kindS;rw [if_neg (show ¬ s=zIy from zBJ h1),if_neg (show ¬ s=zGE from zBJ h2),if_pos (show s=zHh from zEG h)]
theorem ks_4 (h1:((bs s).toList==(⟨#[116,121,112,101]⟩:ByteArray).toList)=false) (h2:((bs s).toList==(⟨#[105,110,116,101,114,102,97,99,101]⟩:ByteArray).toList)=false) (h3:((bs s).toList==(⟨#[117,110,105,111,110]⟩:ByteArray).toList)=false) (h:((bs s).toList==(⟨#[101,110,117,109]⟩:ByteArray).toList)=true):kindS s=4:=by unfold kindS;rw [if_neg (show ¬ s=zIy from zBJ h1),if_neg (show ¬ s=zGE from zBJ h2),if_neg (show ¬ s=zHh from zBJ h3),if_pos (show s=enumT from zEG h)]
theorem ks_5 (h1:((bs s).toList==(⟨#[116,121,112,101]⟩:ByteArray).toList)=false) (h2:((bs s).toList==(⟨#[105,110,116,101,114,102,97,99,101]⟩:ByteArray).toList)=false) (h3:((bs s).toList==(⟨#[117,110,105,111,110]⟩:ByteArray).toList)=false) (h4:((bs s).toList==(⟨#[101,110,117,109]⟩:ByteArray).toList)=false) (h:((bs s).toList==(⟨#[105,110,112,117,116]⟩:ByteArray).toList)=true):kindS s=5:=by unfold kindS;rw [if_neg (show ¬ s=zIy from zBJ h1),if_neg (show ¬ s=zGE from zBJ h2),if_neg (show ¬ s=zHh from zBJ h3),if_neg (show ¬ s=enumT from zBJ h4),if_pos (show s=inputT from zEG h)]
theorem ks_0 (h1:((bs s).toList==(⟨#[116,121,112,101]⟩:ByteArray).toList)=false) (h2:((bs s).toList==(⟨#[105,110,116,101,114,102,97,99,101]⟩:ByteArray).toList)=false) (h3:((bs s).toList==(⟨#[117,110,105,111,110]⟩:ByteArray).toList)=false) (h4:((bs s).toList==(⟨#[101,110,117,109]⟩:ByteArray).toList)=false) (h:((bs s).toList==(⟨#[105,110,112,117,116]⟩:ByteArray).toList)=false):kindS s=0:=by unfold kindS;rw [if_neg (show ¬ s=zIy from zBJ h1),if_neg (show ¬ s=zGE from zBJ h2),if_neg (show ¬ s=zHh from zBJ h3),if_neg (show ¬ s=enumT from zBJ h4),if_neg (show ¬ s=inputT from zBJ h)]
end
theorem p_kindOf (s:List UInt8):AC EN5 Tryz.prog 50 [.c (.string (bs s))] (.c (.int .i64 (kindS s))):=by
 refine zP 14 Tryz.func50 rfl rfl rfl rfl ?_
 intro s0 w he
 repeat' (first
|refine zA ?_
|refine zB ?_
|refine zF ?_
|refine zZ ?_
|apply aw_1
 conv=>whnf
 refine ⟨?_,trivial⟩
|apply s_1
 conv=>whnf;arg 1;arg 4;arg 3;whnf
 refine ⟨?_,?_⟩
|refine ze (by conv=>lhs;whnf) ?_ ?_<;>intro hb
|refine zQ ?_
|refine zV ?_
|refine zE ?_
|refine ⟨_,by conv=>lhs;whnf;arg 2;whnf,?_⟩;conv=>rhs;whnf
|exact trivial)
 all_goals first
  |rw [ks_1 ‹_›]
  |rw [ks_2 ‹_› ‹_›]
  |rw [ks_3 ‹_› ‹_› ‹_›]
  |rw [ks_4 ‹_› ‹_› ‹_› ‹_›]
  |rw [ks_5 ‹_› ‹_› ‹_› ‹_› ‹_›]
  |rw [ks_0 ‹_› ‹_› ‹_› ‹_› ‹_›]
noncomputable def HnS (al:List Tok) (z:PS) (s:List UInt8) (acc:List D):Vst 20:=
 stS 20 [(0,.bx (pn 0) 0),(1,.c (.string (bs s))),(5,.own 5 9 acc)] [(pn 0,boxS al z),(5,.tok 9 acc.length)]
theorem p_names {al:List Tok} (hal:al.length<=100000) (s:List UInt8) {x:PS} (h:Sx al x):ACE EN5 Tryz.prog 117 [.bx (pn 0) 0,.c (.string (bs s))] [boxS al x] (outS al (fun l => .sl 9 l) (zA7 s x)):=by
 have e0:zA7 s x=namesF s (x.ts.length+1) [] x:=rfl
 have hxl:=h.len
 rw [e0]
 refine zm (fn:=Tryz.f117) 20 Tryz.func117 rfl rfl ?_
 intro pas w0 w he hp
 repeat' (first
|refine zA ?_
|refine zB ?_
|refine zF ?_
|apply aw_1
 conv=>whnf
 refine ⟨?_,trivial⟩
|apply s_1
 conv=>whnf;arg 1;arg 4;arg 3;whnf
 refine ⟨?_,?_⟩
|exact trivial)
 refine zg (Sub.own (t:=5) (e:=9) rfl rfl) ?_
 refine zn (fun j st => ∃ z acc,Sx al z/\z.ts.length<j/\acc.length+z.ts.length<=x.ts.length/\namesF s (x.ts.length+1) [] x=namesF s j acc z/\Sub (cxE EN5 Tryz.prog pas w0 w he hp (outS al (fun l=>V.sl 9 l) (namesF s (x.ts.length+1) [] x))) st (HnS al z s acc)) (x.ts.length+1) ⟨x,[],h,by omega,by simp,rfl,?_⟩ ?_
 . exact Sub.live ⟨rfl,rfl,rfl,trivial⟩ ⟨rfl,rfl,trivial⟩
 rintro j st ⟨z,acc,hz,hzj,hzl,hI,hsub⟩
 refine zg hsub ?_
 clear hsub
 rw [hI]
 clear hI
 cases j with
 |zero=>omega
 |succ j =>
 have hr:=p_room hz hal acc.length 64
 have hnm:=zDe hz hal
 by_cases hL:(hdT z).k=2/\64<=acc.length
 . rw [namesF,if_pos hL]
   rw [zHt,if_pos hL] at hr
   repeat' (first
|apply s_pr (clS al) (zS al) rfl
 . conv=>lhs;whnf
 . conv=>lhs;whnf
 . rfl
 . conv=>lhs;whnf;arg 1;whnf
 . first | exact zr _ _
 . first | exact hr
 . exact fun _=>rfl
 . first | (intro _ _;simp only [renL,renV,ren_cells];done) | exact fun _ _=>rfl
 refine fun ee hq => ?_
 change _=Out.die _
 rotate_left 1
 refine fun aa xx hq => ?_
 first | (replace hq:=zAE hq;obtain ⟨hq,rfl⟩:=hq) | (cases hq;have hq:=True.intro) | skip
|refine zA ?_
|apply aw_1
 conv=>whnf
 refine ⟨?_,trivial⟩
|apply s_1
 conv=>whnf;arg 1;arg 4;arg 3;whnf
 refine ⟨?_,?_⟩
|exact trivial)
   all_goals first
    |exact zAz ‹_›
    |(cases hq;done)
 rw [namesF,if_neg hL]
 rw [zHt,if_neg hL] at hr
 rcases hN:nameQ z with e1 | ⟨n,y⟩
 . rw [hN] at hnm
   repeat' (first
|apply s_pr (clS al) (zS al) rfl
 . conv=>lhs;whnf
 . conv=>lhs;whnf
 . rfl
 . conv=>lhs;whnf;arg 1;whnf
 . first | exact zr _ _
 . first | exact hr | exact hnm
 . exact fun _=>rfl
 . first | (intro _ _;simp only [renL,renV,ren_cells];done) | exact fun _ _=>rfl
 refine fun ee hq => ?_
 change _=Out.die _
 rotate_left 1
 refine fun aa xx hq => ?_
 first | (replace hq:=zAE hq;obtain ⟨hq,rfl⟩:=hq) | (cases hq;have hq:=True.intro) | skip
|refine zA ?_
|refine zB ?_
|refine zF ?_
|apply aw_1
 conv=>whnf
 refine ⟨?_,trivial⟩
|apply s_1
 conv=>whnf;arg 1;arg 4;arg 3;whnf
 refine ⟨?_,?_⟩
|exact trivial)
   all_goals first
    |exact zAz ‹_›
    |(cases hq;done)
    |(rw [zt rfl];exact zAz ‹_›)
    |skip
 have hN1:=hz.name hN
 rw [hN] at hnm
 rw [za rfl]
 by_cases hs:isS y s=true
 . have ha:=zEz hN1.1 hal hs
   have h2:=hN1.1.sg hs
   rw [if_pos hs]
   repeat' (first
|apply s_m (clS al) (zS al) rfl
 . conv=>lhs;whnf
 . conv=>lhs;whnf
 . rfl
 . conv=>lhs;whnf;arg 1;whnf
 . first | exact zr _ _
 . first | exact ha
 . exact fun _=>rfl
 . exact fun _=>rfl
|apply zBW [strD n] rfl rfl
 . conv=>lhs;whnf
 . first | exact zBB | (conv=>lhs;whnf;arg 1;whnf)
 . rfl
 . rfl
 . repeat' (first | exact trivial | apply And.intro | rfl)
|apply s_pr (clS al) (zS al) rfl
 . conv=>lhs;whnf
 . conv=>lhs;whnf
 . rfl
 . conv=>lhs;whnf;arg 1;whnf
 . first | exact zr _ _
 . first | exact hr | exact hnm
 . exact fun _=>rfl
 . first | (intro _ _;simp only [renL,renV,ren_cells];done) | exact fun _ _=>rfl
 refine fun ee hq => ?_
 change _=Out.die _
 rotate_left 1
 refine fun aa xx hq => ?_
 first | (replace hq:=zAE hq;obtain ⟨hq,rfl⟩:=hq) | (cases hq;have hq:=True.intro) | skip
|refine zA ?_
|refine zB ?_
|refine zF ?_
|refine zZ ?_
|apply aw_1
 conv=>whnf
 refine ⟨?_,trivial⟩
|apply s_1
 conv=>whnf;arg 1;arg 4;arg 3;whnf
 refine ⟨?_,?_⟩
|apply zBK rfl rfl
 . conv=>lhs;whnf
 . first | exact zBB | (conv=>lhs;whnf;arg 1;whnf)
 . first | exact fun _=>rfl | (intro _;kernel_rfl)
 . conv=>lhs;whnf
 . conv=>lhs;whnf;arg 1;whnf
 . conv=>lhs;whnf
|exact trivial)
   all_goals first
    |(cases hq;done)
    |(refine ⟨by simp,?_,?_⟩<;>simp only [List.length_cons,List.length_nil,maxLen]<;>omega)
    |skip
   refine zJ (j':=j) (by omega) ⟨nxT y,acc++[strD n],h2.1,by omega,by rw [List.length_append];simp only [List.length_cons,List.length_nil];omega,rfl,Sub.live ⟨rfl,rfl,rfl,trivial⟩ ⟨rfl,?_,trivial⟩⟩
   show some (Res.tok _ (acc.length+1))=some (Res.tok _ (acc++[strD n]).length)
   rw [List.length_append];rfl
 . have hs:isS y s=false:=by simpa using hs
   have ha:=zDf hN1.1 hal hs
   rw [if_neg (by rw [hs];decide)]
   repeat' (first
|apply s_m (clS al) (zS al) rfl
 . conv=>lhs;whnf
 . conv=>lhs;whnf
 . rfl
 . conv=>lhs;whnf;arg 1;whnf
 . first | exact zr _ _
 . first | exact ha
 . exact fun _=>rfl
 . exact fun _=>rfl
|apply zBW [strD n] rfl rfl
 . conv=>lhs;whnf
 . first | exact zBB | (conv=>lhs;whnf;arg 1;whnf)
 . rfl
 . rfl
 . repeat' (first | exact trivial | apply And.intro | rfl)
|apply s_pr (clS al) (zS al) rfl
 . conv=>lhs;whnf
 . conv=>lhs;whnf
 . rfl
 . conv=>lhs;whnf;arg 1;whnf
 . first | exact zr _ _
 . first | exact hr | exact hnm
 . exact fun _=>rfl
 . first | (intro _ _;simp only [renL,renV,ren_cells];done) | exact fun _ _=>rfl
 refine fun ee hq => ?_
 change _=Out.die _
 rotate_left 1
 refine fun aa xx hq => ?_
 first | (replace hq:=zAE hq;obtain ⟨hq,rfl⟩:=hq) | (cases hq;have hq:=True.intro) | skip
|refine zA ?_
|refine zB ?_
|refine zF ?_
|apply aw_1
 conv=>whnf
 refine ⟨?_,trivial⟩
|apply s_1
 conv=>whnf;arg 1;arg 4;arg 3;whnf
 refine ⟨?_,?_⟩
|apply zBK rfl rfl
 . conv=>lhs;whnf
 . first | exact zBB | (conv=>lhs;whnf;arg 1;whnf)
 . first | exact fun _=>rfl | (intro _;kernel_rfl)
 . conv=>lhs;whnf
 . conv=>lhs;whnf;arg 1;whnf
 . conv=>lhs;whnf
|refine zV ?_
|refine zw ?_
|apply zAT rfl
 . conv=>lhs;whnf;arg 2;whnf
 . conv=>lhs;whnf;arg 1;whnf
|exact trivial)
   all_goals first
    |(cases hq;done)
    |(refine ⟨by simp,?_,?_⟩<;>simp only [List.length_cons,List.length_nil,maxLen]<;>omega)
    |rfl
end
section
open Go.RowKit
noncomputable def zHP:Code:=match Tryz.f52.body with
 |some (.seq _ (.seq _ (.seq _ (.seq _ y))))=>y
 |_ => .skip
noncomputable def VDf (d:D):V:=.agg (cellsV Tryz.prog 12 45 d)
noncomputable def VMb (d:D):V:=.agg (cellsV Tryz.prog 12 79 d)
def zDef:List V:=[.c (.int .i64 0),.c (.string ⟨#[]⟩),.c (.slice none 0 0),.c (.slice none 0 0),.c (.slice none 0 0),.c (.slice none 0 0),.c (.slice none 0 0)]
noncomputable def HdD (al:List Tok) (u:PS) (k:Int) (n:List UInt8) (im ds:List D):Vst 74:=
 stS 74 [(1,.c (.int .i64 k)),(2,.bx 2 0),(4,.bx 4 0),(5,.bx 5 0)] [(pn 0,boxS al u),(2,.box 62 [.bx (pn 0) 0]),(4,.box 45 zDef),(5,.box 45 [.c (.int .i64 k),.c (.string (bs n)),.sl 9 im,.sl 108 ds,.c (.slice none 0 0),.c (.slice none 0 0),.c (.slice none 0 0)])]
noncomputable def HdM (al:List Tok) (u:PS) (k:Int) (n:List UInt8) (im ds:List D):Vst 74:=
 stS 74 [(1,.c (.int .i64 k)),(2,.bx 2 0),(4,.bx 4 0),(5,.bx 5 0)] [(pn 0,boxS al u),(2,.box 62 [.bx (pn 0) 0]),(4,.box 45 zDef),(5,.box 45 [.c (.int .i64 k),.c (.string (bs n)),.sl 9 im,.sl 108 ds,.c (.slice none 0 0),.own 904 79 [],.c (.slice none 0 0)]),(904,.tok 79 0)]
noncomputable def HdF (al:List Tok) (u:PS) (k:Int) (n:List UInt8) (im ds:List D):Vst 74:=
 stS 74 [(1,.c (.int .i64 k)),(2,.bx 2 0),(4,.bx 4 0),(5,.bx 5 0)] [(pn 0,boxS al u),(2,.box 62 [.bx (pn 0) 0]),(4,.box 45 zDef),(5,.box 45 [.c (.int .i64 k),.c (.string (bs n)),.sl 9 im,.sl 108 ds,.own 904 50 [],.c (.slice none 0 0),.c (.slice none 0 0)]),(904,.tok 50 0)]
noncomputable def HdU (al:List Tok) (u:PS) (k:Int) (n:List UInt8) (im ds l:List D) (i:Nat):Vst 74:=
 stS 74 [(1,.c (.int .i64 k)),(2,.bx 2 0),(4,.bx 4 0),(5,.bx 5 0),(42,.sl 9 l),(43,.c (.int .i64 (l.length:Int))),(44,.c (.int .i64 (i:Int)))] [(pn 0,boxS al u),(2,.box 62 [.bx (pn 0) 0]),(4,.box 45 zDef),(5,.box 45 [.c (.int .i64 k),.c (.string (bs n)),.sl 9 im,.sl 108 ds,.c (.slice none 0 0),.own 904 79 ((l.take i).map mbOf),.c (.slice none 0 0)]),(904,.tok 79 ((l.take i).map mbOf).length)]
attribute [local irreducible] wpList Calls Code.wp AW AWo OpOk seqK zq zu loopK endK AC zf Yld Sub
attribute [local irreducible] ACB ACX ACE absLexG YldG absLexU YldU
theorem zH9 {al:List Tok} {s:List UInt8} {l:List D} {y:PS} : ∀ (f:Nat) (acc:List D) (x:PS),Sx al x->namesF s f acc x = .ok (l,y)->l.length+y.ts.length<=acc.length+x.ts.length
 |0,_,_,_,h=>by cases h
 |f+1,acc,x,hx,h=>by
  unfold namesF at h
  split at h
  . cases h
  . cases hN:nameQ x with
    |error e=>rw [zt hN] at h;cases h
    |ok p =>
     obtain ⟨n,z⟩:=p
     rw [za hN] at h
     have h1:=hx.name hN
     split at h
     . rename_i hs
       have h2:=h1.1.sg hs
       have h3:=zH9 f _ _ h2.1 h
       rw [List.length_append] at h3
       simp only [List.length_cons,List.length_nil] at h3
       omega
     . cases h
       rw [List.length_append]
       simp only [List.length_cons,List.length_nil]
       omega
def defT (k:Int) (n:List UInt8) (im ds:List D) (u:PS):PR D:=zY (zBb k u) fun b v => .ok (sDfD k n im ds b.1 b.2.1 b.2.2,v)
section
variable {al:List Tok} (hal:al.length<=100000) (hkd:Kd al)
include hal hkd
-- (for avx.py: zm 74 Tryz.func52)
theorem def_in (n:List UInt8) (im ds:List D) {u:PS} (hu:Sx al u) {pas:Nat->Prop} {w0:Sg} {w:World} {he:EN5.E w} {hp : ∀ k,k<EN5.G -> ¬ pas k} :
 AW (cxE EN5 Tryz.prog pas w0 w he hp (outS al VDf (defT 5 n im ds u))) zHP (HdD al u 5 n im ds) (zFK Tryz.prog Tryz.f52.results (outS al VDf (defT 5 n im ds u))):=by
 unfold zHP
 simp only [Tryz.f52]
 have hex:=zBC hu hal [123]
 have hin : ∀ {a y},takeQ [123] u = .ok (a,y)->ACE EN5 Tryz.prog 120 [.bx (pn 0) 0,.c (.string (bs [125]))] [boxS al y] (outS al (fun l => .sl 55 l) (insQ [125] y)):=fun h=>zKE hal hkd [125] (hu.take h).1
 have e0:zBb 5 u=zY (takeQ [123] u) fun _ y=>zY (insQ [125] y) fun l z => .ok (([],[],l),z):=rfl
 repeat' (first
|apply zAD (VDf (sDfD 5 n im ds [] [] _)) rfl rfl
 . conv=>lhs;whnf;arg 2;whnf
 . repeat' (first | exact VLe.refl _ | exact VLe.nil _ | exact VLe.lit _ _ | exact VLe.own _ _ _ | apply VLe.agg | apply VLeL.cons | exact VLeL.nil)
|apply s_pr (clS al) (zS al) rfl
 . conv=>lhs;whnf
 . conv=>lhs;whnf
 . rfl
 . conv=>lhs;whnf;arg 1;whnf
 . first | exact zr _ _
 . first | exact hex | exact hin ‹_›
 . exact fun _=>rfl
 . first | (intro _ _;simp only [renL,renV,ren_cells];done) | exact fun _ _=>rfl
 refine fun ee hq => ?_
 change _=Out.die _
 rotate_left 1
 refine fun aa xx hq => ?_
 first | (replace hq:=zAE hq;obtain ⟨hq,rfl⟩:=hq) | (cases hq;have hq:=True.intro) | skip
|refine zA ?_
|refine zB ?_
|refine zF ?_
|refine zZ ?_
|apply aw_1
 conv=>whnf
 refine ⟨?_,trivial⟩
|apply s_1
 conv=>whnf;arg 1;arg 4;arg 3;whnf
 refine ⟨?_,?_⟩
|apply zI rfl rfl rfl
 . conv=>lhs;whnf
 . conv=>lhs;whnf;arg 1;whnf
 . conv=>lhs;whnf;arg 1;whnf
 . exact ⟨by kernel_rfl,by kernel_rfl⟩
 . rfl
|apply zAT rfl
 . conv=>lhs;whnf;arg 2;whnf
 . conv=>lhs;whnf;arg 1;whnf
|exact trivial)
 all_goals first
  |(rw [defT,e0,zt (by assumption:takeQ [123] u=_)];rfl)
  |(rw [defT,e0,za (by assumption:takeQ [123] u=_),zt hq];rfl)
  |(rw [defT,e0,za (by assumption:takeQ [123] u=_),za hq];rfl)
  |skip
theorem def_mb (n:List UInt8) (im ds:List D) {u:PS} (hu:Sx al u) {pas:Nat->Prop} {w0:Sg} {w:World} {he:EN5.E w} {hp : ∀ k,k<EN5.G -> ¬ pas k} :
 AW (cxE EN5 Tryz.prog pas w0 w he hp (outS al VDf (defT 4 n im ds u))) zHP (HdD al u 4 n im ds) (zFK Tryz.prog Tryz.f52.results (outS al VDf (defT 4 n im ds u))):=by
 unfold zHP
 simp only [Tryz.f52]
 have hex:=zBC hu hal [123]
 have e0:zBb 4 u=zY (takeQ [123] u) fun _ y=>zY (mbsQ y) fun l z => .ok (([],l,[]),z):=rfl
 rcases hT:takeQ [123] u with e1 | ⟨⟨⟩,y⟩
 . have K : ∀ {a y},takeQ [123] u = .ok (a,y)->False:=fun h=>by rw [hT] at h;cases h
   repeat' (first
|apply s_pr (clS al) (zS al) rfl
 . conv=>lhs;whnf
 . conv=>lhs;whnf
 . rfl
 . conv=>lhs;whnf;arg 1;whnf
 . first | exact zr _ _
 . first | exact hex
 . exact fun _=>rfl
 . first | (intro _ _;simp only [renL,renV,ren_cells];done) | exact fun _ _=>rfl
 refine fun ee hq => ?_
 change _=Out.die _
 rotate_left 1
 refine fun aa xx hq => ?_
 first | (replace hq:=zAE hq;obtain ⟨hq,rfl⟩:=hq) | (cases hq;have hq:=True.intro) | skip
|exact (K ‹_›).elim
|refine zA ?_
|refine zB ?_
|refine zF ?_
|apply aw_1
 conv=>whnf
 refine ⟨?_,trivial⟩
|apply s_1
 conv=>whnf;arg 1;arg 4;arg 3;whnf
 refine ⟨?_,?_⟩
|exact trivial)
   all_goals (rw [defT,e0,zt hq];rfl)
 rw [hT] at hex
 have hy:=(hu.take hT).1
 have hbk:=zGt hal ent_1 (ren_m 4 n im ds) (p_mb hal hkd 4 n im ds) (fun x h=>mbq_no h) (fun h hq=>h.mb hq) [125] 64 (y.ts.length+1) hy (by omega)
 have e1:defT 4 n im ds u=zY (manyF mbQ [125] 64 (y.ts.length+1) [] y) fun l z => .ok (sDfD 4 n im ds [] l [],z):=by
  rw [defT,e0,za hT]
  show zY (zY (manyF mbQ [125] 64 (y.ts.length+1) [] y) _) _=_
  rw [zDG];rfl
 rw [e1]
 repeat' (first
|apply zAD (VDf (sDfD 4 n im ds [] _ [])) rfl rfl
 . conv=>lhs;whnf;arg 2;whnf
 . repeat' (first | exact VLe.refl _ | exact VLe.nil _ | exact VLe.lit _ _ | exact VLe.own _ _ _ | apply VLe.agg | apply VLeL.cons | exact VLeL.nil)
|apply s_pr (clS al) (zS al) rfl
 . conv=>lhs;whnf
 . conv=>lhs;whnf
 . rfl
 . conv=>lhs;whnf;arg 1;whnf
 . first | exact zr _ _
 . first | exact hex
 . exact fun _=>rfl
 . first | (intro _ _;simp only [renL,renV,ren_cells];done) | exact fun _ _=>rfl
 refine fun ee hq => ?_
 change _=Out.die _
 rotate_left 1
 refine fun aa xx hq => ?_
 first | (replace hq:=zAE hq;obtain ⟨hq,rfl⟩:=hq) | (cases hq;have hq:=True.intro) | skip
|apply zGj [2,5,pn 0,904] rfl
 . conv=>lhs;whnf
 . conv=>lhs;whnf
 . first | exact hbk
 . decide
 . rfl
 . rfl
 refine fun ee hq => ?_
 change _=Out.die _
 rotate_left 1
 refine fun aa xx hq => ?_
 first | (cases hq;have hq:=True.intro) | skip
|apply zo 15 (HdM al y 4 n im ds) rfl
|refine zBA ?_
|refine zA ?_
|refine zB ?_
|refine zF ?_
|refine zZ ?_
|apply aw_1
 conv=>whnf
 refine ⟨?_,trivial⟩
|apply s_1
 conv=>whnf;arg 1;arg 4;arg 3;whnf
 refine ⟨?_,?_⟩
|apply zI rfl rfl rfl
 . conv=>lhs;whnf
 . conv=>lhs;whnf;arg 1;whnf
 . conv=>lhs;whnf;arg 1;whnf
 . exact ⟨by kernel_rfl,by kernel_rfl⟩
 . rfl
|apply zAT rfl
 . conv=>lhs;whnf;arg 2;whnf
 . conv=>lhs;whnf;arg 1;whnf
|exact trivial)
 all_goals first
  |(cases hq;done)
  |exact (Sub.ownF (m:=5) (q:=904) (i:=5) (e:=79) rfl (by decide) rfl rfl rfl).trans (Sub.live ⟨rfl,rfl,rfl,rfl,trivial⟩ ⟨rfl,rfl,rfl,rfl,rfl,trivial⟩)
  |(rw [mnK_er hq];rfl)
  |(obtain ⟨l,z⟩:=xx
    rw [mnK_ok hq];rfl)
  |skip
theorem def_fd (k:Int) (hk:k≠3/\k≠4/\k≠5) (n:List UInt8) (im ds:List D) {u:PS} (hu:Sx al u) {pas:Nat->Prop} {w0:Sg} {w:World} {he:EN5.E w} {hp : ∀ k,k<EN5.G -> ¬ pas k} :
 AW (cxE EN5 Tryz.prog pas w0 w he hp (outS al VDf (defT k n im ds u))) zHP (HdD al u k n im ds) (zFK Tryz.prog Tryz.f52.results (outS al VDf (defT k n im ds u))):=by
 unfold zHP
 simp only [Tryz.f52]
 have hex:=zBC hu hal [123]
 have e0:zBb k u=zY (takeQ [123] u) fun _ y=>zY (fdsQ y) fun l z => .ok ((l,[],[]),z):=by
  unfold zBb
  rw [if_neg hk.1]
  congr 1
  funext _ y
  rw [if_neg hk.2.2,if_neg hk.2.1]
 have K3:(k==3)=true->False:=fun h=>hk.1 (by simpa using h)
 have K4:(k==4)=true->False:=fun h=>hk.2.1 (by simpa using h)
 have K5:(k==5)=true->False:=fun h=>hk.2.2 (by simpa using h)
 rcases hT:takeQ [123] u with e1 | ⟨⟨⟩,y⟩
 . have K : ∀ {a y},takeQ [123] u = .ok (a,y)->False:=fun h=>by rw [hT] at h;cases h
   repeat' (first
|apply s_pr (clS al) (zS al) rfl
 . conv=>lhs;whnf
 . conv=>lhs;whnf
 . rfl
 . conv=>lhs;whnf;arg 1;whnf
 . first | exact zr _ _
 . first | exact hex
 . exact fun _=>rfl
 . first | (intro _ _;simp only [renL,renV,ren_cells];done) | exact fun _ _=>rfl
 refine fun ee hq => ?_
 change _=Out.die _
 rotate_left 1
 refine fun aa xx hq => ?_
 first | (replace hq:=zAE hq;obtain ⟨hq,rfl⟩:=hq) | (cases hq;have hq:=True.intro) | skip
|exact (K ‹_›).elim
|exact (K3 ‹_›).elim
|refine zA ?_
|refine zB ?_
|refine zF ?_
|apply aw_1
 conv=>whnf
 refine ⟨?_,trivial⟩
|apply s_1
 conv=>whnf;arg 1;arg 4;arg 3;whnf
 refine ⟨?_,?_⟩
|refine ze (by conv=>lhs;whnf) ?_ ?_<;>intro hb
|exact trivial)
   all_goals (rw [defT,e0,zt hq];rfl)
 rw [hT] at hex
 have hy:=(hu.take hT).1
 have hbk:=zGt hal ent_2 (ren_f k n im ds) (p_fd hal hkd k n im ds) (fun x h=>fdq_no h) (fun h hq=>h.fd hq) [125] 64 (y.ts.length+1) hy (by omega)
 have e1:defT k n im ds u=zY (manyF fdQ [125] 64 (y.ts.length+1) [] y) fun l z => .ok (sDfD k n im ds l [] [],z):=by
  rw [defT,e0,za hT]
  show zY (zY (manyF fdQ [125] 64 (y.ts.length+1) [] y) _) _=_
  rw [zDG];rfl
 rw [e1]
 repeat' (first
|apply zAD (VDf (sDfD k n im ds _ [] [])) rfl rfl
 . conv=>lhs;whnf;arg 2;whnf
 . repeat' (first | exact VLe.refl _ | exact VLe.nil _ | exact VLe.lit _ _ | exact VLe.own _ _ _ | apply VLe.agg | apply VLeL.cons | exact VLeL.nil)
|apply s_pr (clS al) (zS al) rfl
 . conv=>lhs;whnf
 . conv=>lhs;whnf
 . rfl
 . conv=>lhs;whnf;arg 1;whnf
 . first | exact zr _ _
 . first | exact hex
 . exact fun _=>rfl
 . first | (intro _ _;simp only [renL,renV,ren_cells];done) | exact fun _ _=>rfl
 refine fun ee hq => ?_
 change _=Out.die _
 rotate_left 1
 refine fun aa xx hq => ?_
 first | (replace hq:=zAE hq;obtain ⟨hq,rfl⟩:=hq) | (cases hq;have hq:=True.intro) | skip
|apply zGj [2,5,pn 0,904] rfl
 . conv=>lhs;whnf
 . conv=>lhs;whnf
 . first | exact hbk
 . decide
 . rfl
 . rfl
 refine fun ee hq => ?_
 change _=Out.die _
 rotate_left 1
 refine fun aa xx hq => ?_
 first | (cases hq;have hq:=True.intro) | skip
|exact (K3 ‹_›).elim
|exact (K4 ‹_›).elim
|exact (K5 ‹_›).elim
|apply zo 15 (HdF al y k n im ds) rfl
|refine zBA ?_
|refine zA ?_
|refine zB ?_
|refine zF ?_
|refine zZ ?_
|apply aw_1
 conv=>whnf
 refine ⟨?_,trivial⟩
|apply s_1
 conv=>whnf;arg 1;arg 4;arg 3;whnf
 refine ⟨?_,?_⟩
|apply zI rfl rfl rfl
 . conv=>lhs;whnf
 . conv=>lhs;whnf;arg 1;whnf
 . conv=>lhs;whnf;arg 1;whnf
 . exact ⟨by kernel_rfl,by kernel_rfl⟩
 . rfl
|refine ze (by conv=>lhs;whnf) ?_ ?_<;>intro hb
|apply zAT rfl
 . conv=>lhs;whnf;arg 2;whnf
 . conv=>lhs;whnf;arg 1;whnf
|exact trivial)
 all_goals first
  |(cases hq;done)
  |exact (Sub.ownF (m:=5) (q:=904) (i:=4) (e:=50) rfl (by decide) rfl rfl rfl).trans (Sub.live ⟨rfl,rfl,rfl,rfl,trivial⟩ ⟨rfl,rfl,rfl,rfl,rfl,trivial⟩)
  |(rw [mnK_er hq];rfl)
  |(obtain ⟨l,z⟩:=xx
    rw [mnK_ok hq];rfl)
  |skip
omit hkd in
theorem def_un (n:List UInt8) (im ds:List D) {u:PS} (hu:Sx al u) {pas:Nat->Prop} {w0:Sg} {w:World} {he:EN5.E w} {hp : ∀ k,k<EN5.G -> ¬ pas k} :
 AW (cxE EN5 Tryz.prog pas w0 w he hp (outS al VDf (defT 3 n im ds u))) zHP (HdD al u 3 n im ds) (zFK Tryz.prog Tryz.f52.results (outS al VDf (defT 3 n im ds u))):=by
 unfold zHP
 simp only [Tryz.f52]
 have hex:=zBC hu hal [61]
 have e0:zBb 3 u=zY (takeQ [61] u) fun _ y=>zY (zA7 [124] y) fun l z => .ok (([],l.map mbOf,[]),z):=rfl
 have hna : ∀ {a y},takeQ [61] u = .ok (a,y)->ACE EN5 Tryz.prog 117 [.bx (pn 0) 0,.c (.string (bs [124]))] [boxS al y] (outS al (fun l => .sl 9 l) (zA7 [124] y)):=fun h=>p_names hal [124] (hu.take h).1
 repeat' (first
|apply s_pr (clS al) (zS al) rfl
 . conv=>lhs;whnf
 . conv=>lhs;whnf
 . rfl
 . conv=>lhs;whnf;arg 1;whnf
 . first | exact zr _ _
 . first | exact hex | exact hna ‹_›
 . exact fun _=>rfl
 . first | (intro _ _;simp only [renL,renV,ren_cells];done) | exact fun _ _=>rfl
 refine fun ee hq => ?_
 change _=Out.die _
 rotate_left 1
 refine fun aa xx hq => ?_
 first | (replace hq:=zAE hq;obtain ⟨hq,rfl⟩:=hq) | (cases hq;have hq:=True.intro) | skip
|refine zA ?_
|refine zB ?_
|refine zF ?_
|apply aw_1
 conv=>whnf
 refine ⟨?_,trivial⟩
|apply s_1
 conv=>whnf;arg 1;arg 4;arg 3;whnf
 refine ⟨?_,?_⟩
|exact trivial)
 all_goals first
  |(rw [defT,e0,zt (by assumption:takeQ [61] u=_)];rfl)
  |(rw [defT,e0,za (by assumption:takeQ [61] u=_),zt hq];rfl)
  |skip
 rename_i a1 y hT
 have hy:=(hu.take hT).1
 have hz:=hy.names hq
 have hlen:aa.length<=100000:=by
  have:=zH9 _ [] y hy hq
  have:=hy.len
  simp only [List.length_nil] at *
  omega
 have e1:defT 3 n im ds u = .ok (sDfD 3 n im ds [] (aa.map mbOf) [],xx):=by rw [defT,e0,za hT,za hq];rfl
 rw [e1]
 refine zg (Sub.ownF (m:=5) (q:=904) (i:=5) (e:=79) rfl (by decide) rfl rfl rfl) ?_
 refine zn (fun j st => ∃ i,i+j=aa.length/\Sub (cxE EN5 Tryz.prog pas w0 w he hp (outS al VDf (.ok (sDfD 3 n im ds [] (aa.map mbOf) [],xx)))) st (HdU al xx 3 n im ds aa i)) aa.length ⟨0,by omega,?_⟩ ?_
 . exact Sub.live ⟨rfl,rfl,rfl,rfl,rfl,rfl,rfl,trivial⟩ ⟨rfl,rfl,rfl,rfl,rfl,trivial⟩
 rintro j st ⟨i,hij,hsub⟩
 refine zg hsub ?_
 clear hsub
 have K:i<aa.length->decide ((i:Int)<(aa.length:Int))=false->False:=fun h2 h=>by simp at h;omega
 have K2:i=aa.length->decide ((i:Int)<(aa.length:Int))=true->False:=fun h2 h=>by simp at h;omega
 by_cases hi:i<aa.length
 . repeat' (first
|apply zAD (VMb (mbOf (gD aa i))) rfl rfl
 . conv=>lhs;whnf;arg 2;whnf
 . repeat' (first | exact VLe.refl _ | exact VLe.nil _ | exact VLe.lit _ _ | exact VLe.own _ _ _ | apply VLe.agg | apply VLeL.cons | exact VLeL.nil)
|apply zBW [mbOf (gD aa i)] rfl rfl
 . conv=>lhs;whnf
 . first | exact zCm | (conv=>lhs;whnf;arg 1;whnf)
 . rfl
 . rfl
 . repeat' (first | exact trivial | apply And.intro | rfl)
|exact (K hi ‹_›).elim
|refine zA ?_
|refine zB ?_
|refine zF ?_
|refine zZ ?_
|apply aw_1
 conv=>whnf
 refine ⟨?_,trivial⟩
|apply s_1
 conv=>whnf;arg 1;arg 4;arg 3;whnf
 refine ⟨?_,?_⟩
|apply zI rfl rfl rfl
 . conv=>lhs;whnf
 . conv=>lhs;whnf;arg 1;whnf
 . conv=>lhs;whnf;arg 1;whnf
 . exact ⟨by kernel_rfl,by kernel_rfl⟩
 . rfl
|apply zBK rfl rfl
 . conv=>lhs;whnf
 . first | exact zCm | (conv=>lhs;whnf;arg 1;whnf)
 . first | exact fun _=>rfl | (intro _;kernel_rfl)
 . conv=>lhs;whnf
 . conv=>lhs;whnf;arg 1;whnf
 . conv=>lhs;whnf
|refine ze (by conv=>lhs;whnf) ?_ ?_<;>intro hb
|exact trivial)
   all_goals first
    |exact zU (by omega)
    |exact (⟨by omega,by omega⟩:0<=(i:Int)/\(i:Int)<(aa.length:Int))
    |(refine ⟨by simp,?_,?_⟩<;>simp only [List.length_map,List.length_take,List.length_cons,List.length_nil,maxLen]<;>omega)
    |skip
   have et:(aa.take (i+1)).map mbOf=(aa.take i).map mbOf++[mbOf (gD aa i)]:=by
    rw [List.take_add_one,List.map_append,List.getElem?_eq_getElem hi,zB2 hi];rfl
   refine zJ (j':=j-1) (by omega) ⟨i+1,by omega,Sub.live ⟨rfl,rfl,rfl,rfl,rfl,rfl,rfl,trivial⟩ ⟨rfl,rfl,rfl,?_,?_,trivial⟩⟩
   . show some (Res.box _ [_,_,_,_,_,V.own 904 _ ((aa.take i).map mbOf++[mbOf (gD aa i)]),_])=some (Res.box _ [_,_,_,_,_,V.own 904 _ ((aa.take (i+1)).map mbOf),_])
     rw [et]
   . show some (Res.tok _ (((aa.take i).map mbOf).length+1))=some (Res.tok _ ((aa.take (i+1)).map mbOf).length)
     rw [et,List.length_append];rfl
 . have hi2:i=aa.length:=by omega
   have et:(aa.take i).map mbOf=aa.map mbOf:=by rw [hi2,List.take_length]
   repeat' (first
|apply zAD (VDf (sDfD 3 n im ds [] ((aa.take i).map mbOf) [])) rfl rfl
 . conv=>lhs;whnf;arg 2;whnf
 . repeat' (first | exact VLe.refl _ | exact VLe.nil _ | exact VLe.lit _ _ | exact VLe.own _ _ _ | apply VLe.agg | apply VLeL.cons | exact VLeL.nil)
|exact (K2 hi2 ‹_›).elim
|refine zA ?_
|refine zB ?_
|refine zF ?_
|apply aw_1
 conv=>whnf
 refine ⟨?_,trivial⟩
|apply s_1
 conv=>whnf;arg 1;arg 4;arg 3;whnf
 refine ⟨?_,?_⟩
|apply zI rfl rfl rfl
 . conv=>lhs;whnf
 . conv=>lhs;whnf;arg 1;whnf
 . conv=>lhs;whnf;arg 1;whnf
 . exact ⟨by kernel_rfl,by kernel_rfl⟩
 . rfl
|refine ze (by conv=>lhs;whnf) ?_ ?_<;>intro hb
|refine zO ?_
|refine zQ ?_
|refine zL rfl ?_
|refine zM ?_
|apply zAT rfl
 . conv=>lhs;whnf;arg 2;whnf
 . conv=>lhs;whnf;arg 1;whnf
|exact trivial)
   rw [et];rfl
end
end
section
open Go.RowKit
noncomputable def HdG (al:List Tok) (u:PS) (k:Int) (n:List UInt8):Vst 74:=
 stS 74 [(1,.c (.int .i64 k)),(2,.bx 2 0),(4,.bx 4 0),(5,.bx 5 0)] [(pn 0,boxS al u),(2,.box 62 [.bx (pn 0) 0]),(4,.box 45 zDef),(5,.box 45 [.c (.int .i64 k),.c (.string (bs n)),.c (.slice none 0 0),.c (.slice none 0 0),.c (.slice none 0 0),.c (.slice none 0 0),.c (.slice none 0 0)])]
noncomputable def HdE (al:List Tok) (u:PS) (k:Int) (n:List UInt8) (im:List D):Vst 74:=
 stS 74 [(1,.c (.int .i64 k)),(2,.bx 2 0),(4,.bx 4 0),(5,.bx 5 0)] [(pn 0,boxS al u),(2,.box 62 [.bx (pn 0) 0]),(4,.box 45 zDef),(5,.box 45 [.c (.int .i64 k),.c (.string (bs n)),.sl 9 im,.c (.slice none 0 0),.c (.slice none 0 0),.c (.slice none 0 0),.c (.slice none 0 0)])]
attribute [local irreducible] wpList Calls Code.wp AW AWo OpOk seqK zq zu loopK endK AC zf Yld Sub
attribute [local irreducible] ACB ACX ACE absLexG YldG absLexU YldU
section
variable {al:List Tok} (hal:al.length<=100000) (hkd:Kd al)
include hal hkd
theorem zK2 (k:Int) (n:List UInt8) (im ds:List D) {u:PS} (hu:Sx al u) {pas:Nat->Prop} {w0:Sg} {w:World} {he:EN5.E w} {hp : ∀ k,k<EN5.G -> ¬ pas k} :
 AW (cxE EN5 Tryz.prog pas w0 w he hp (outS al VDf (defT k n im ds u))) zHP (HdD al u k n im ds) (zFK Tryz.prog Tryz.f52.results (outS al VDf (defT k n im ds u))):=by
 by_cases h3:k=3
 . subst h3;exact def_un hal n im ds hu
 by_cases h4:k=4
 . subst h4;exact def_mb hal hkd n im ds hu
 by_cases h5:k=5
 . subst h5;exact def_in hal hkd n im ds hu
 exact def_fd hal hkd k ⟨h3,h4,h5⟩ n im ds hu
theorem p_def (k:Int) {x:PS} (h:Sx al x):ACE EN5 Tryz.prog 52 [.bx (pn 0) 0,.c (.int .i64 k)] [boxS al x] (outS al VDf (zBf k x)):=by
 have hnm:=zDe h hal
 rcases hN:nameQ x with e1 | ⟨n,y⟩
 . rw [zBf,zt hN]
   rw [hN] at hnm
   refine zm (fn:=Tryz.f52) 74 Tryz.func52 rfl rfl ?_
   intro pas w0 w he hp
   repeat' (first
|apply s_pr (clS al) (zS al) rfl
 . conv=>lhs;whnf
 . conv=>lhs;whnf
 . rfl
 . conv=>lhs;whnf;arg 1;whnf
 . first | exact zr _ _
 . first | exact hnm
 . exact fun _=>rfl
 . first | (intro _ _;simp only [renL,renV,ren_cells];done) | exact fun _ _=>rfl
 refine fun ee hq => ?_
 change _=Out.die _
 rotate_left 1
 refine fun aa xx hq => ?_
 first | (replace hq:=zAE hq;obtain ⟨hq,rfl⟩:=hq) | (cases hq;have hq:=True.intro) | skip
|refine zA ?_
|refine zB ?_
|refine zF ?_
|apply aw_1
 conv=>whnf
 refine ⟨?_,trivial⟩
|apply s_1
 conv=>whnf;arg 1;arg 4;arg 3;whnf
 refine ⟨?_,?_⟩
|apply zAW rfl rfl rfl rfl
 . conv=>lhs;whnf;arg 1;whnf
 . rfl
|exact trivial)
   all_goals first
    |exact zAz ‹_›
    |(cases hq;done)
 have hy:=(h.name hN).1
 rw [hN] at hnm
 have hm:=zDq hy hal
 have hno:=zGs hy hal
 have hal2:=hy.len
 have hdl : ∀ {z:PS},Sx al z->ACE EN5 Tryz.prog 118 [.bx (pn 0) 0] [boxS al z] (outS al (fun l => .sl 108 l) (zAS z)):=fun h=>zF1 hal hkd h
 by_cases F:k=1/\(hdT y).k=2/\(hdT y).s=zFj
 . have hk5:(hdT y).k≠5:=by rw [F.2.1];decide
   have hyc:=etaS1 hy hk5
   have hny:=(hy.nx hk5).1
   have hna:=p_names hal [38] hny
   have K1:((k==1)==true)=false->False:=fun h=>by rw [F.1] at h;cases h
   have K2:(((hdT y).k==2)==true)=false->False:=fun h=>by rw [F.2.1] at h;cases h
   have K3:((bs (hdT y).s).toList==(⟨#[105,109,112,108,101,109,101,110,116,115]⟩:ByteArray).toList)=false->False:=fun h=>zBJ h F.2.2
   rcases hF:zA7 [38] (nxT y) with e1 | ⟨im,z⟩
   . rw [zBf,za hN,zAs,if_pos F,zt hF]
     rw [hF] at hna
     refine zm (fn:=Tryz.f52) 74 Tryz.func52 rfl rfl ?_
     intro pas w0 w he hp
     repeat' (first
|apply zl (clS al) (zS al) rfl
 . conv=>lhs;whnf
 . conv=>lhs;whnf
 . first | rfl | assumption
 . conv=>lhs;whnf
 . rfl
 . conv=>lhs;whnf;arg 1;whnf
 . first | exact zr _ _
 . first | exact hm | exact hno
 . exact fun _=>rfl
 . exact fun _=>rfl
|apply zW rfl
 . conv=>lhs;whnf
 . conv=>lhs;whnf
 . first | rfl | assumption
|apply s_pr (clS al) (zS al) rfl
 . conv=>lhs;whnf
 . conv=>lhs;whnf
 . rfl
 . conv=>lhs;whnf;arg 1;whnf
 . first | exact zr _ _
 . first | exact hnm | exact hna
 . exact fun _=>rfl
 . first | (intro _ _;simp only [renL,renV,ren_cells];done) | exact fun _ _=>rfl
 refine fun ee hq => ?_
 change _=Out.die _
 rotate_left 1
 refine fun aa xx hq => ?_
 first | (replace hq:=zAE hq;obtain ⟨hq,rfl⟩:=hq) | (cases hq;have hq:=True.intro) | skip
|exact (K1 ‹_›).elim
|exact (K2 ‹_›).elim
|exact (K3 ‹_›).elim
|apply zo 4 (HdG al (nxT y) k n) rfl
|refine zBA ?_
|refine zA ?_
|refine zB ?_
|refine zF ?_
|apply aw_1
 conv=>whnf
 refine ⟨?_,trivial⟩
|apply zX rfl rfl
 . conv=>lhs;whnf
 . conv=>lhs;whnf
 . first | exact bT1 ‹_› | exact bT2 ‹_›
|apply s_1
 conv=>whnf;arg 1;arg 4;arg 3;whnf
 refine ⟨?_,?_⟩
|apply zAW rfl rfl rfl rfl
 . conv=>lhs;whnf;arg 1;whnf
 . rfl
|apply zI rfl rfl rfl
 . conv=>lhs;whnf
 . conv=>lhs;whnf;arg 1;whnf
 . conv=>lhs;whnf;arg 1;whnf
 . exact ⟨by kernel_rfl,by kernel_rfl⟩
 . rfl
|apply zC rfl
 . conv=>lhs;whnf
 . conv=>lhs;whnf
 . first | rfl | assumption
 . conv=>lhs;whnf;arg 2;whnf
|apply zH rfl
 . conv=>lhs;whnf
 . conv=>lhs;whnf
 . conv=>lhs;whnf;arg 2;whnf
|refine ze (by conv=>lhs;whnf) ?_ ?_<;>intro hb
|exact trivial
|intro hg)
     all_goals first
      |exact zU (by omega)
      |exact Sub.live ⟨rfl,rfl,rfl,rfl,trivial⟩ ⟨congrArg (fun c=>some (Res.box _ c)) hyc,rfl,rfl,rfl,trivial⟩
      |exact zAz ‹_›
      |(cases hq;done)
      |skip
   have hz:=(hny.names hF).1
   have hdi:=hdl hz
   rcases hD:zAS z with e1 | ⟨ds,u⟩
   . rw [zBf,za hN,zAs,if_pos F,za hF,zt hD]
     rw [hF] at hna
     rw [hD] at hdi
     refine zm (fn:=Tryz.f52) 74 Tryz.func52 rfl rfl ?_
     intro pas w0 w he hp
     repeat' (first
|apply zl (clS al) (zS al) rfl
 . conv=>lhs;whnf
 . conv=>lhs;whnf
 . first | rfl | assumption
 . conv=>lhs;whnf
 . rfl
 . conv=>lhs;whnf;arg 1;whnf
 . first | exact zr _ _
 . first | exact hm | exact hno
 . exact fun _=>rfl
 . exact fun _=>rfl
|apply zW rfl
 . conv=>lhs;whnf
 . conv=>lhs;whnf
 . first | rfl | assumption
|apply s_pr (clS al) (zS al) rfl
 . conv=>lhs;whnf
 . conv=>lhs;whnf
 . rfl
 . conv=>lhs;whnf;arg 1;whnf
 . first | exact zr _ _
 . first | exact hnm | exact hna | exact hdi
 . exact fun _=>rfl
 . first | (intro _ _;simp only [renL,renV,ren_cells];done) | exact fun _ _=>rfl
 refine fun ee hq => ?_
 change _=Out.die _
 rotate_left 1
 refine fun aa xx hq => ?_
 first | (replace hq:=zAE hq;obtain ⟨hq,rfl⟩:=hq) | (cases hq;have hq:=True.intro) | skip
|exact (K1 ‹_›).elim
|exact (K2 ‹_›).elim
|exact (K3 ‹_›).elim
|apply zo 4 (HdG al (nxT y) k n) rfl
|apply zo 5 (HdE al z k n im) rfl
|refine zBA ?_
|refine zA ?_
|refine zB ?_
|refine zF ?_
|apply aw_1
 conv=>whnf
 refine ⟨?_,trivial⟩
|apply zX rfl rfl
 . conv=>lhs;whnf
 . conv=>lhs;whnf
 . first | exact bT1 ‹_› | exact bT2 ‹_›
|apply s_1
 conv=>whnf;arg 1;arg 4;arg 3;whnf
 refine ⟨?_,?_⟩
|apply zAW rfl rfl rfl rfl
 . conv=>lhs;whnf;arg 1;whnf
 . rfl
|apply zI rfl rfl rfl
 . conv=>lhs;whnf
 . conv=>lhs;whnf;arg 1;whnf
 . conv=>lhs;whnf;arg 1;whnf
 . exact ⟨by kernel_rfl,by kernel_rfl⟩
 . rfl
|apply zC rfl
 . conv=>lhs;whnf
 . conv=>lhs;whnf
 . first | rfl | assumption
 . conv=>lhs;whnf;arg 2;whnf
|apply zH rfl
 . conv=>lhs;whnf
 . conv=>lhs;whnf
 . conv=>lhs;whnf;arg 2;whnf
|refine ze (by conv=>lhs;whnf) ?_ ?_<;>intro hb
|exact trivial
|intro hg)
     all_goals first
      |exact zU (by omega)
      |exact Sub.live ⟨rfl,rfl,rfl,rfl,trivial⟩ ⟨congrArg (fun c=>some (Res.box _ c)) hyc,rfl,rfl,rfl,trivial⟩
      |exact Sub.live ⟨rfl,rfl,rfl,rfl,trivial⟩ ⟨rfl,rfl,rfl,rfl,trivial⟩
      |exact zAz ‹_›
      |(cases hq;done)
      |skip
   rw [show zBf k x=defT k n im ds u by rw [zBf,za hN,zAs,if_pos F,za hF,za hD];rfl]
   rw [hF] at hna
   rw [hD] at hdi
   have hu:=(hz.dirs hD).1
   refine zm (fn:=Tryz.f52) 74 Tryz.func52 rfl rfl ?_
   intro pas w0 w he hp
   repeat' (first
|exact zK2 hal hkd k n im ds hu
|apply zl (clS al) (zS al) rfl
 . conv=>lhs;whnf
 . conv=>lhs;whnf
 . first | rfl | assumption
 . conv=>lhs;whnf
 . rfl
 . conv=>lhs;whnf;arg 1;whnf
 . first | exact zr _ _
 . first | exact hm | exact hno
 . exact fun _=>rfl
 . exact fun _=>rfl
|apply zW rfl
 . conv=>lhs;whnf
 . conv=>lhs;whnf
 . first | rfl | assumption
|apply s_pr (clS al) (zS al) rfl
 . conv=>lhs;whnf
 . conv=>lhs;whnf
 . rfl
 . conv=>lhs;whnf;arg 1;whnf
 . first | exact zr _ _
 . first | exact hnm | exact hna | exact hdi
 . exact fun _=>rfl
 . first | (intro _ _;simp only [renL,renV,ren_cells];done) | exact fun _ _=>rfl
 refine fun ee hq => ?_
 change _=Out.die _
 rotate_left 1
 refine fun aa xx hq => ?_
 first | (replace hq:=zAE hq;obtain ⟨hq,rfl⟩:=hq) | (cases hq;have hq:=True.intro) | skip
|exact (K1 ‹_›).elim
|exact (K2 ‹_›).elim
|exact (K3 ‹_›).elim
|apply zo 4 (HdG al (nxT y) k n) rfl
|apply zo 5 (HdE al z k n im) rfl
|apply zo 6 (HdD al u k n im ds) rfl
|refine zBA ?_
|refine zA ?_
|refine zB ?_
|refine zF ?_
|apply aw_1
 conv=>whnf
 refine ⟨?_,trivial⟩
|apply zX rfl rfl
 . conv=>lhs;whnf
 . conv=>lhs;whnf
 . first | exact bT1 ‹_› | exact bT2 ‹_›
|apply s_1
 conv=>whnf;arg 1;arg 4;arg 3;whnf
 refine ⟨?_,?_⟩
|apply zAW rfl rfl rfl rfl
 . conv=>lhs;whnf;arg 1;whnf
 . rfl
|apply zI rfl rfl rfl
 . conv=>lhs;whnf
 . conv=>lhs;whnf;arg 1;whnf
 . conv=>lhs;whnf;arg 1;whnf
 . exact ⟨by kernel_rfl,by kernel_rfl⟩
 . rfl
|apply zC rfl
 . conv=>lhs;whnf
 . conv=>lhs;whnf
 . first | rfl | assumption
 . conv=>lhs;whnf;arg 2;whnf
|apply zH rfl
 . conv=>lhs;whnf
 . conv=>lhs;whnf
 . conv=>lhs;whnf;arg 2;whnf
|refine ze (by conv=>lhs;whnf) ?_ ?_<;>intro hb
|exact trivial
|intro hg)
   all_goals first
    |exact zU (by omega)
    |exact Sub.live ⟨rfl,rfl,rfl,rfl,trivial⟩ ⟨congrArg (fun c=>some (Res.box _ c)) hyc,rfl,rfl,rfl,trivial⟩
    |exact Sub.live ⟨rfl,rfl,rfl,rfl,trivial⟩ ⟨rfl,rfl,rfl,rfl,trivial⟩
    |(cases hq;done)
    |skip
 have KN:((k==1)==true)=true->(((hdT y).k==2)==true)=true->((bs (hdT y).s).toList==(⟨#[105,109,112,108,101,109,101,110,116,115]⟩:ByteArray).toList)=true->False:=fun h1 h2 h3 =>
  F ⟨by simpa using h1,by simpa using h2,zEG h3⟩
 have hdi:=hdl hy
 rcases hD:zAS y with e1 | ⟨ds,u⟩
 . rw [zBf,za hN,zAs,if_neg F,za (r:=.ok ([],y)) rfl,zt hD]
   rw [hD] at hdi
   refine zm (fn:=Tryz.f52) 74 Tryz.func52 rfl rfl ?_
   intro pas w0 w he hp
   repeat' (first
|apply zl (clS al) (zS al) rfl
 . conv=>lhs;whnf
 . conv=>lhs;whnf
 . first | rfl | assumption
 . conv=>lhs;whnf
 . rfl
 . conv=>lhs;whnf;arg 1;whnf
 . first | exact zr _ _
 . first | exact hm | exact hno
 . exact fun _=>rfl
 . exact fun _=>rfl
|apply zW rfl
 . conv=>lhs;whnf
 . conv=>lhs;whnf
 . first | rfl | assumption
|apply s_pr (clS al) (zS al) rfl
 . conv=>lhs;whnf
 . conv=>lhs;whnf
 . rfl
 . conv=>lhs;whnf;arg 1;whnf
 . first | exact zr _ _
 . first | exact hnm | exact hdi
 . exact fun _=>rfl
 . first | (intro _ _;simp only [renL,renV,ren_cells];done) | exact fun _ _=>rfl
 refine fun ee hq => ?_
 change _=Out.die _
 rotate_left 1
 refine fun aa xx hq => ?_
 first | (replace hq:=zAE hq;obtain ⟨hq,rfl⟩:=hq) | (cases hq;have hq:=True.intro) | skip
|exact (KN ‹_› ‹_› ‹_›).elim
|apply zo 5 (HdE al y k n []) rfl
|refine zBA ?_
|refine zA ?_
|refine zB ?_
|refine zF ?_
|apply aw_1
 conv=>whnf
 refine ⟨?_,trivial⟩
|apply zX rfl rfl
 . conv=>lhs;whnf
 . conv=>lhs;whnf
 . first | exact bT1 ‹_› | exact bT2 ‹_›
|apply zT rfl rfl
 . conv=>lhs;whnf
 . conv=>lhs;whnf
 . first | exact bF1 ‹_› | exact bF2 ‹_›
|apply s_1
 conv=>whnf;arg 1;arg 4;arg 3;whnf
 refine ⟨?_,?_⟩
|apply zAW rfl rfl rfl rfl
 . conv=>lhs;whnf;arg 1;whnf
 . rfl
|apply zI rfl rfl rfl
 . conv=>lhs;whnf
 . conv=>lhs;whnf;arg 1;whnf
 . conv=>lhs;whnf;arg 1;whnf
 . exact ⟨by kernel_rfl,by kernel_rfl⟩
 . rfl
|apply zC rfl
 . conv=>lhs;whnf
 . conv=>lhs;whnf
 . first | rfl | assumption
 . conv=>lhs;whnf;arg 2;whnf
|apply zH rfl
 . conv=>lhs;whnf
 . conv=>lhs;whnf
 . conv=>lhs;whnf;arg 2;whnf
|refine ze (by conv=>lhs;whnf) ?_ ?_<;>intro hb
|exact trivial
|intro hg)
   all_goals first
    |exact zU (by omega)
    |exact (Sub.boxle (m:=5) (t:=45) (vs:=[.c (.int .i64 k),.c (.string (bs n)),.c (.slice none 0 0),.c (.slice none 0 0),.c (.slice none 0 0),.c (.slice none 0 0),.c (.slice none 0 0)]) (vs':=[.c (.int .i64 k),.c (.string (bs n)),.sl 9 [],.c (.slice none 0 0),.c (.slice none 0 0),.c (.slice none 0 0),.c (.slice none 0 0)]) rfl (.cons (.refl _) (.cons (.refl _) (.cons (.nil _) (.cons (.refl _) (.cons (.refl _) (.cons (.refl _) (.cons (.refl _) .nil)))))))).trans (Sub.live ⟨rfl,rfl,rfl,rfl,trivial⟩ ⟨rfl,rfl,rfl,rfl,trivial⟩)
    |exact zAz ‹_›
    |(cases hq;done)
    |skip
 rw [show zBf k x=defT k n [] ds u by rw [zBf,za hN,zAs,if_neg F,za (r:=.ok ([],y)) rfl,za hD];rfl]
 rw [hD] at hdi
 have hu:=(hy.dirs hD).1
 refine zm (fn:=Tryz.f52) 74 Tryz.func52 rfl rfl ?_
 intro pas w0 w he hp
 repeat' (first
|exact zK2 hal hkd k n [] ds hu
|apply zl (clS al) (zS al) rfl
 . conv=>lhs;whnf
 . conv=>lhs;whnf
 . first | rfl | assumption
 . conv=>lhs;whnf
 . rfl
 . conv=>lhs;whnf;arg 1;whnf
 . first | exact zr _ _
 . first | exact hm | exact hno
 . exact fun _=>rfl
 . exact fun _=>rfl
|apply zW rfl
 . conv=>lhs;whnf
 . conv=>lhs;whnf
 . first | rfl | assumption
|apply s_pr (clS al) (zS al) rfl
 . conv=>lhs;whnf
 . conv=>lhs;whnf
 . rfl
 . conv=>lhs;whnf;arg 1;whnf
 . first | exact zr _ _
 . first | exact hnm | exact hdi
 . exact fun _=>rfl
 . first | (intro _ _;simp only [renL,renV,ren_cells];done) | exact fun _ _=>rfl
 refine fun ee hq => ?_
 change _=Out.die _
 rotate_left 1
 refine fun aa xx hq => ?_
 first | (replace hq:=zAE hq;obtain ⟨hq,rfl⟩:=hq) | (cases hq;have hq:=True.intro) | skip
|exact (KN ‹_› ‹_› ‹_›).elim
|apply zo 5 (HdE al y k n []) rfl
|apply zo 6 (HdD al u k n [] ds) rfl
|refine zBA ?_
|refine zA ?_
|refine zB ?_
|refine zF ?_
|apply aw_1
 conv=>whnf
 refine ⟨?_,trivial⟩
|apply zX rfl rfl
 . conv=>lhs;whnf
 . conv=>lhs;whnf
 . first | exact bT1 ‹_› | exact bT2 ‹_›
|apply zT rfl rfl
 . conv=>lhs;whnf
 . conv=>lhs;whnf
 . first | exact bF1 ‹_› | exact bF2 ‹_›
|apply s_1
 conv=>whnf;arg 1;arg 4;arg 3;whnf
 refine ⟨?_,?_⟩
|apply zAW rfl rfl rfl rfl
 . conv=>lhs;whnf;arg 1;whnf
 . rfl
|apply zI rfl rfl rfl
 . conv=>lhs;whnf
 . conv=>lhs;whnf;arg 1;whnf
 . conv=>lhs;whnf;arg 1;whnf
 . exact ⟨by kernel_rfl,by kernel_rfl⟩
 . rfl
|apply zC rfl
 . conv=>lhs;whnf
 . conv=>lhs;whnf
 . first | rfl | assumption
 . conv=>lhs;whnf;arg 2;whnf
|apply zH rfl
 . conv=>lhs;whnf
 . conv=>lhs;whnf
 . conv=>lhs;whnf;arg 2;whnf
|refine ze (by conv=>lhs;whnf) ?_ ?_<;>intro hb
|exact trivial
|intro hg)
 all_goals first
  |exact zU (by omega)
  |exact (Sub.boxle (m:=5) (t:=45) (vs:=[.c (.int .i64 k),.c (.string (bs n)),.c (.slice none 0 0),.c (.slice none 0 0),.c (.slice none 0 0),.c (.slice none 0 0),.c (.slice none 0 0)]) (vs':=[.c (.int .i64 k),.c (.string (bs n)),.sl 9 [],.c (.slice none 0 0),.c (.slice none 0 0),.c (.slice none 0 0),.c (.slice none 0 0)]) rfl (.cons (.refl _) (.cons (.refl _) (.cons (.nil _) (.cons (.refl _) (.cons (.refl _) (.cons (.refl _) (.cons (.refl _) .nil)))))))).trans (Sub.live ⟨rfl,rfl,rfl,rfl,trivial⟩ ⟨rfl,rfl,rfl,rfl,trivial⟩)
  |exact Sub.live ⟨rfl,rfl,rfl,rfl,trivial⟩ ⟨rfl,rfl,rfl,rfl,trivial⟩
  |(cases hq;done)
  |skip
end
end
section
open Go.RowKit
attribute [local irreducible] wpList Calls Code.wp AW AWo OpOk seqK zq zu loopK endK AC zf Yld Sub
attribute [local irreducible] ACB ACX ACE absLexG YldG absLexU YldU
theorem zIa:z8 Tryz.prog 23=some (45,144):=by kernel_rfl
def zDoc:List V:=[.c (.slice none 0 0)]
noncomputable def VDc (d:D):V:=.agg (cellsV Tryz.prog 12 25 d)
noncomputable def HqS (al:List Tok) (z:PS) (acc:List D):Vst 47:=
 stS 47 [(0,.bx (pn 0) 0),(2,.bx 2 0),(3,.bx 3 0)] [(pn 0,boxS al z),(2,.box 25 zDoc),(3,.box 25 [.own 907 45 acc]),(907,.tok 45 acc.length)]
noncomputable def HqK (al:List Tok) (z:PS) (acc:List D) (k:Int):Vst 47:=
 stS 47 [(0,.bx (pn 0) 0),(2,.bx 2 0),(3,.bx 3 0),(4,.c (.int .i64 k))] [(pn 0,boxS al z),(2,.box 25 zDoc),(3,.box 25 [.own 907 45 acc]),(907,.tok 45 acc.length)]
theorem p_doc {al:List Tok} (hal:al.length<=100000) (hkd:Kd al) {x:PS} (h:Sx al x) (n:Nat) (hn:x.ts.length<n):ACE EN5 Tryz.prog 25 [.bx (pn 0) 0] [boxS al x] (outS al (fun l=>VDc (zDL l)) (sdocF n [] x)):=by
 have hxl:=h.len
 refine zm (fn:=Tryz.f25) 47 Tryz.func25 rfl rfl ?_
 intro pas w0 w he hp
 repeat' (first
|refine zA ?_
|refine zB ?_
|refine zF ?_
|apply aw_1
 conv=>whnf
 refine ⟨?_,trivial⟩
|apply s_1
 conv=>whnf;arg 1;arg 4;arg 3;whnf
 refine ⟨?_,?_⟩
|exact trivial)
 refine zg (Sub.ownF (m:=3) (q:=907) (i:=0) (e:=45) rfl (by decide) rfl rfl rfl) ?_
 refine zn (fun j st => ∃ z acc,Sx al z/\z.ts.length<j/\acc.length+z.ts.length<=x.ts.length/\sdocF n [] x=sdocF j acc z/\Sub (cxE EN5 Tryz.prog pas w0 w he hp (outS al (fun l=>VDc (zDL l)) (sdocF n [] x))) st (HqS al z acc)) n ⟨x,[],h,hn,by simp,rfl,?_⟩ ?_
 . exact Sub.live ⟨rfl,rfl,rfl,trivial⟩ ⟨rfl,rfl,rfl,rfl,trivial⟩
 rintro j st ⟨z,acc,hz,hzj,hzl,hI,hsub⟩
 refine zg hsub ?_
 clear hsub
 rw [hI]
 clear hI
 cases j with
 |zero=>omega
 |succ j =>
 have hno:=zGs hz hal
 have hm:=zDq hz hal
 have hf3:=zCY hz hal 3
 have hf4:=zCY hz hal 4
 have hkf:=p_kindOf (hdT z).s
 have K0:acc.length≠0->(((acc.length:Int)==0)==false)=false->False:=fun h1 h2=>by simp at h2;exact h1 (by rw [h2];rfl)
 have K2:acc.length=0->(((acc.length:Int)==0)==false)=true->False:=fun h0 h2=>by rw [h0] at h2;cases h2
 by_cases hE:acc.length≠0/\(hdT z).k=5
 . have K1:((hdT z).k != 5)=true->False:=fun h=>by rw [hE.2] at h;cases h
   rw [sdocF,if_pos hE]
   repeat' (first
|apply zAD (VDc (zDL acc)) rfl rfl
 . conv=>lhs;whnf;arg 2;whnf
 . repeat' (first | exact VLe.refl _ | exact VLe.nil _ | exact VLe.lit _ _ | exact VLe.own _ _ _ | apply VLe.agg | apply VLeL.cons | exact VLeL.nil)
|apply zl (clS al) (zS al) rfl
 . conv=>lhs;whnf
 . conv=>lhs;whnf
 . first | rfl | assumption
 . conv=>lhs;whnf
 . rfl
 . conv=>lhs;whnf;arg 1;whnf
 . first | exact zr _ _
 . first | exact hno
 . exact fun _=>rfl
 . exact fun _=>rfl
|apply zW rfl
 . conv=>lhs;whnf
 . conv=>lhs;whnf
 . first | rfl | assumption
|exact (K0 hE.1 ‹_›).elim
|exact (K1 ‹_›).elim
|refine zA ?_
|refine zB ?_
|refine zF ?_
|apply aw_1
 conv=>whnf
 refine ⟨?_,trivial⟩
|apply zT rfl rfl
 . conv=>lhs;whnf
 . conv=>lhs;whnf
 . first | exact bF1 ‹_› | exact bF2 ‹_›
|apply s_1
 conv=>whnf;arg 1;arg 4;arg 3;whnf
 refine ⟨?_,?_⟩
|apply zI rfl rfl rfl
 . conv=>lhs;whnf
 . conv=>lhs;whnf;arg 1;whnf
 . conv=>lhs;whnf;arg 1;whnf
 . exact ⟨by kernel_rfl,by kernel_rfl⟩
 . rfl
|apply zC rfl
 . conv=>lhs;whnf
 . conv=>lhs;whnf
 . first | rfl | assumption
 . conv=>lhs;whnf;arg 2;whnf
|apply zH rfl
 . conv=>lhs;whnf
 . conv=>lhs;whnf
 . conv=>lhs;whnf;arg 2;whnf
|refine ze (by conv=>lhs;whnf) ?_ ?_<;>intro hb
|refine zO ?_
|refine zL rfl ?_
|refine zM ?_
|apply zAT rfl
 . conv=>lhs;whnf;arg 2;whnf
 . conv=>lhs;whnf;arg 1;whnf
|exact trivial
|intro hg)
   all_goals first
    |rfl
    |skip
 have KE:(((acc.length:Int)==0)==false)=true->((hdT z).k != 5)=false->False:=fun h1 h2=>hE ⟨fun e=>K2 e h1,by simpa using h2⟩
 rw [sdocF,if_neg hE]
 by_cases hw:(hdT z).k=2/\0<kindS (hdT z).s
 . rw [if_neg (show ¬ ¬ ((hdT z).k=2/\0<kindS (hdT z).s) from fun h=>h hw)]
   rw [show ((hdT z).k==2)=true by rw [hw.1];rfl] at hm
   have K6:(kindS (hdT z).s==0)=true->False:=fun h=>absurd (beq_iff_eq.1 h) (fun e=>by rw [e] at hw;exact absurd hw.2 (by decide))
   by_cases h64:64<=acc.length
   . have K8:decide ((acc.length:Int)>=64)=false->False:=fun h=>by simp at h;omega
     rw [if_pos h64]
     repeat' (first
|apply s_m (clS al) (zS al) rfl
 . conv=>lhs;whnf
 . conv=>lhs;whnf
 . rfl
 . conv=>lhs;whnf;arg 1;whnf
 . first | exact zr _ _
 . first | exact hno | exact hm
 . exact fun _=>rfl
 . exact fun _=>rfl
|apply zl (clS al) (zS al) rfl
 . conv=>lhs;whnf
 . conv=>lhs;whnf
 . first | rfl | assumption
 . conv=>lhs;whnf
 . rfl
 . conv=>lhs;whnf;arg 1;whnf
 . first | exact zr _ _
 . first | exact hno | exact hm
 . exact fun _=>rfl
 . exact fun _=>rfl
|apply zW rfl
 . conv=>lhs;whnf
 . conv=>lhs;whnf
 . first | rfl | assumption
|apply zBz [pn 0] rfl
 . conv=>lhs;whnf
 . first | exact hf4
 . decide
 . rfl
 . rfl
 change _=Out.die _
|exact (KE ‹_› ‹_›).elim
|exact (K6 ‹_›).elim
|exact (K8 ‹_›).elim
|refine zA ?_
|refine zB ?_
|refine zF ?_
|apply aw_1
 conv=>whnf
 refine ⟨?_,trivial⟩
|apply zX rfl rfl
 . conv=>lhs;whnf
 . conv=>lhs;whnf
 . first | exact bT1 ‹_› | exact bT2 ‹_›
|apply zT rfl rfl
 . conv=>lhs;whnf
 . conv=>lhs;whnf
 . first | exact bF1 ‹_› | exact bF2 ‹_›
|apply s_1
 conv=>whnf;arg 1;arg 4;arg 3;whnf
 refine ⟨?_,?_⟩
|apply zi rfl
 . conv=>lhs;whnf
 . conv=>lhs;whnf
 . first | exact hkf
|apply zC rfl
 . conv=>lhs;whnf
 . conv=>lhs;whnf
 . first | rfl | assumption
 . conv=>lhs;whnf;arg 2;whnf
|apply zH rfl
 . conv=>lhs;whnf
 . conv=>lhs;whnf
 . conv=>lhs;whnf;arg 2;whnf
|refine ze (by conv=>lhs;whnf) ?_ ?_<;>intro hb
|exact trivial
|intro hg)
     all_goals first
      |rfl
      |skip
   have K8:decide ((acc.length:Int)>=64)=true->False:=fun h=>by simp at h;omega
   rw [if_neg h64]
   have hk5:(hdT z).k≠5:=by rw [hw.1];decide
   have hyc:=etaS1 hz hk5
   have hny:=hz.nx hk5
   have hal2:=hz.len
   have hdf:=p_def hal hkd (kindS (hdT z).s) hny.1
   repeat' (first
|apply zBd 9 ([(1,[3])]) ([(4,[1000000]),(6,[907]),(8,[3])]) rfl (by kernel_rfl) (by kernel_rfl) (by kernel_rfl)
|apply zHD
|apply zHC rfl
 . conv=>lhs;whnf
 . conv=>lhs;whnf;arg 2;whnf
|apply zIL rfl rfl
 . conv=>lhs;whnf
 . first | exact zIa | (conv=>lhs;whnf;arg 1;whnf)
 . first | exact fun _=>rfl | (intro _;kernel_rfl)
 . conv=>lhs;whnf
 . rfl
 . conv=>lhs;whnf;arg 1;whnf
 . conv=>lhs;whnf
|apply zCJ rfl rfl rfl
 . conv=>lhs;whnf
 . rfl
 . conv=>lhs;whnf;arg 1;whnf
 . conv=>lhs;whnf;arg 1;whnf
 . exact ⟨by kernel_rfl,by kernel_rfl⟩
 . rfl
|exact Or.inl ⟨pn 0,_,rfl⟩
|refine Or.inr ?_
|apply g_pr (clS al) (zS al) (default:D) rfl
 . conv=>lhs;whnf
 . conv=>lhs;whnf
 . rfl
 . conv=>lhs;whnf;arg 1;whnf
 . first | exact zr _ _
 . first | exact hdf
 . exact fun _=>rfl
 . first | (intro _ _;simp only [renL,renV,ren_cells];done) | exact fun _ _=>rfl
 . rfl
 refine fun ee hq tm rs => ?_
 change _=Out.die _
 rotate_left 1
 refine fun aa xx hq => ?_
 first | (cases hq;have hq:=True.intro) | skip
 rotate_left 1
 refine fun ee hq => ?_
 first | (cases hq;done) | skip
|show inO _ _=true;rfl
|apply zDi [aa] rfl rfl
 . conv=>lhs;whnf
 . first | exact zIa | (conv=>lhs;whnf;arg 1;whnf)
 . rfl
 . rfl
 . repeat' (first | exact trivial | apply And.intro | rfl)
|apply zDi [default] rfl rfl
 . conv=>lhs;whnf
 . first | exact zIa | (conv=>lhs;whnf;arg 1;whnf)
 . rfl
 . rfl
 . repeat' (first | exact trivial | apply And.intro | rfl)
|apply s_m (clS al) (zS al) rfl
 . conv=>lhs;whnf
 . conv=>lhs;whnf
 . rfl
 . conv=>lhs;whnf;arg 1;whnf
 . first | exact zr _ _
 . first | exact hno | exact hm
 . exact fun _=>rfl
 . exact fun _=>rfl
|apply zl (clS al) (zS al) rfl
 . conv=>lhs;whnf
 . conv=>lhs;whnf
 . first | rfl | assumption
 . conv=>lhs;whnf
 . rfl
 . conv=>lhs;whnf;arg 1;whnf
 . first | exact zr _ _
 . first | exact hno | exact hm
 . exact fun _=>rfl
 . exact fun _=>rfl
|apply zW rfl
 . conv=>lhs;whnf
 . conv=>lhs;whnf
 . first | rfl | assumption
|exact (KE ‹_› ‹_›).elim
|exact (K6 ‹_›).elim
|exact (K8 ‹_›).elim
|apply zo 6 (HqK al z acc (kindS (hdT z).s)) rfl
|apply zo 11 (HqK al (nxT z) acc (kindS (hdT z).s)) rfl
|refine zBA ?_
|refine zA ?_
|refine zB ?_
|refine zF ?_
|refine zZ ?_
|apply aw_1
 conv=>whnf
 refine ⟨?_,trivial⟩
|apply zX rfl rfl
 . conv=>lhs;whnf
 . conv=>lhs;whnf
 . first | exact bT1 ‹_› | exact bT2 ‹_›
|apply zT rfl rfl
 . conv=>lhs;whnf
 . conv=>lhs;whnf
 . first | exact bF1 ‹_› | exact bF2 ‹_›
|apply s_1
 conv=>whnf;arg 1;arg 4;arg 3;whnf
 refine ⟨?_,?_⟩
|apply zi rfl
 . conv=>lhs;whnf
 . conv=>lhs;whnf
 . first | exact hkf
|apply zI rfl rfl rfl
 . conv=>lhs;whnf
 . conv=>lhs;whnf;arg 1;whnf
 . conv=>lhs;whnf;arg 1;whnf
 . exact ⟨by kernel_rfl,by kernel_rfl⟩
 . rfl
|apply zC rfl
 . conv=>lhs;whnf
 . conv=>lhs;whnf
 . first | rfl | assumption
 . conv=>lhs;whnf;arg 2;whnf
|apply zH rfl
 . conv=>lhs;whnf
 . conv=>lhs;whnf
 . conv=>lhs;whnf;arg 2;whnf
|refine ze (by conv=>lhs;whnf) ?_ ?_<;>intro hb
|exact trivial
|intro hg)
   all_goals first
    |exact zU (by omega)
    |exact Sub.live ⟨rfl,rfl,rfl,rfl,trivial⟩ ⟨congrArg (fun c=>some (Res.box _ c)) hyc,rfl,rfl,rfl,trivial⟩
    |exact Sub.live ⟨rfl,rfl,rfl,rfl,trivial⟩ ⟨rfl,rfl,rfl,rfl,trivial⟩
    |(refine ⟨by simp,?_,?_⟩<;>simp only [List.length_cons,List.length_nil,maxLen]<;>omega)
    |(rw [zt hq];rfl)
    |skip
   all_goals
    have hx:=hny.1.sdef hq
    refine zJ (j':=j) (by omega) ⟨xx,acc++[aa],hx.1,by omega,by rw [List.length_append];simp only [List.length_cons,List.length_nil];omega,by rw [za hq],Sub.live ⟨rfl,rfl,rfl,trivial⟩ ⟨rfl,rfl,rfl,?_,trivial⟩⟩
    show some (Res.tok _ (acc.length+1))=some (Res.tok _ (acc++[aa]).length)
    rw [List.length_append];rfl
 rw [if_pos hw]
 by_cases hk:(hdT z).k=2
 . have hk0:kindS (hdT z).s=0:=by have:=(zEW (hdT z).s).1;have h2 : ¬ 0<kindS (hdT z).s:=fun h=>hw ⟨hk,h⟩;omega
   rw [hk0] at hkf
   rw [show ((hdT z).k==2)=true by rw [hk];rfl] at hm
   repeat' (first
|apply s_m (clS al) (zS al) rfl
 . conv=>lhs;whnf
 . conv=>lhs;whnf
 . rfl
 . conv=>lhs;whnf;arg 1;whnf
 . first | exact zr _ _
 . first | exact hno | exact hm
 . exact fun _=>rfl
 . exact fun _=>rfl
|apply zl (clS al) (zS al) rfl
 . conv=>lhs;whnf
 . conv=>lhs;whnf
 . first | rfl | assumption
 . conv=>lhs;whnf
 . rfl
 . conv=>lhs;whnf;arg 1;whnf
 . first | exact zr _ _
 . first | exact hno | exact hm
 . exact fun _=>rfl
 . exact fun _=>rfl
|apply zW rfl
 . conv=>lhs;whnf
 . conv=>lhs;whnf
 . first | rfl | assumption
|apply zBz [pn 0] rfl
 . conv=>lhs;whnf
 . first | exact hf3
 . decide
 . rfl
 . rfl
 change _=Out.die _
|exact (KE ‹_› ‹_›).elim
|refine zA ?_
|refine zB ?_
|refine zF ?_
|apply aw_1
 conv=>whnf
 refine ⟨?_,trivial⟩
|apply zX rfl rfl
 . conv=>lhs;whnf
 . conv=>lhs;whnf
 . first | exact bT1 ‹_› | exact bT2 ‹_›
|apply zT rfl rfl
 . conv=>lhs;whnf
 . conv=>lhs;whnf
 . first | exact bF1 ‹_› | exact bF2 ‹_›
|apply s_1
 conv=>whnf;arg 1;arg 4;arg 3;whnf
 refine ⟨?_,?_⟩
|apply zi rfl
 . conv=>lhs;whnf
 . conv=>lhs;whnf
 . first | exact hkf
|apply zC rfl
 . conv=>lhs;whnf
 . conv=>lhs;whnf
 . first | rfl | assumption
 . conv=>lhs;whnf;arg 2;whnf
|apply zH rfl
 . conv=>lhs;whnf
 . conv=>lhs;whnf
 . conv=>lhs;whnf;arg 2;whnf
|refine ze (by conv=>lhs;whnf) ?_ ?_<;>intro hb
|exact trivial
|intro hg)
   all_goals first
    |rfl
    |skip
 . rw [show ((hdT z).k==2)=false by simpa using hk] at hm
   repeat' (first
|apply s_m (clS al) (zS al) rfl
 . conv=>lhs;whnf
 . conv=>lhs;whnf
 . rfl
 . conv=>lhs;whnf;arg 1;whnf
 . first | exact zr _ _
 . first | exact hno | exact hm
 . exact fun _=>rfl
 . exact fun _=>rfl
|apply zl (clS al) (zS al) rfl
 . conv=>lhs;whnf
 . conv=>lhs;whnf
 . first | rfl | assumption
 . conv=>lhs;whnf
 . rfl
 . conv=>lhs;whnf;arg 1;whnf
 . first | exact zr _ _
 . first | exact hno | exact hm
 . exact fun _=>rfl
 . exact fun _=>rfl
|apply zW rfl
 . conv=>lhs;whnf
 . conv=>lhs;whnf
 . first | rfl | assumption
|apply zBz [pn 0] rfl
 . conv=>lhs;whnf
 . first | exact hf3
 . decide
 . rfl
 . rfl
 change _=Out.die _
|exact (KE ‹_› ‹_›).elim
|refine zA ?_
|refine zB ?_
|refine zF ?_
|apply aw_1
 conv=>whnf
 refine ⟨?_,trivial⟩
|apply zX rfl rfl
 . conv=>lhs;whnf
 . conv=>lhs;whnf
 . first | exact bT1 ‹_› | exact bT2 ‹_›
|apply zT rfl rfl
 . conv=>lhs;whnf
 . conv=>lhs;whnf
 . first | exact bF1 ‹_› | exact bF2 ‹_›
|apply s_1
 conv=>whnf;arg 1;arg 4;arg 3;whnf
 refine ⟨?_,?_⟩
|apply zC rfl
 . conv=>lhs;whnf
 . conv=>lhs;whnf
 . first | rfl | assumption
 . conv=>lhs;whnf;arg 2;whnf
|apply zH rfl
 . conv=>lhs;whnf
 . conv=>lhs;whnf
 . conv=>lhs;whnf;arg 2;whnf
|refine ze (by conv=>lhs;whnf) ?_ ?_<;>intro hb
|exact trivial
|intro hg)
   all_goals first
    |rfl
    |skip
end
section
open Go.RowKit
set_option linter.unusedSectionVars false
attribute [local irreducible] wpList Calls Code.wp AW AWo OpOk seqK zq zu loopK endK AC zf Yld Sub
attribute [local irreducible] ACB ACX ACE absLexG YldG absLexU YldU absLexH
section
variable {l:List Tok} {one:Nat->RS->D × RS} {s:List UInt8} {j:Nat} {acc:List D} {x:RS}
theorem zEB (h : ¬ (x.er=0/\(acc.length=0\/sgZ l s x=false))):manyZ l one s (j+1) acc x=(acc,needZ l s x):=by
 conv=>lhs;unfold manyZ
 rw [if_neg h]
theorem mz_go (h:x.er=0/\(acc.length=0\/sgZ l s x=false)):manyZ l one s (j+1) acc x=manyZ l one s j (acc++[(one acc.length x).1]) (one acc.length x).2:=by
 conv=>lhs;unfold manyZ
 rw [if_pos h]
end
theorem zDM {n:Nat} (h:n=0):(((n:Int)==0)==false)=false:=by rw [h];rfl
theorem zA9 {n:Nat} (h:n≠0):(((n:Int)==0)==false)=true:=by
 have:((n:Int)==0)=false:=by rw [beq_eq_false_iff_ne];omega
 rw [this];rfl
theorem zCG {n:Nat} (h:n=0):(((n:Int)==0)==true)=true:=by rw [h];rfl
theorem ge_t {n m:Nat} (h:m<=n):(decide ((n:Int)>=(m:Int))==true)=true:=by rw [decide_eq_true (by omega)];rfl
theorem ge_f {n m:Nat} (h : ¬ m<=n):(decide ((n:Int)>=(m:Int))==true)=false:=by rw [decide_eq_false (by omega)];rfl
noncomputable def VDr (d:D):V:=.agg (cellsV Tryz.prog 12 108 d)
noncomputable def VIr (d:D):V:=.agg (cellsV Tryz.prog 12 55 d)
noncomputable def VFr (d:D):V:=.agg (cellsV Tryz.prog 12 50 d)
noncomputable def VMr (d:D):V:=.agg (cellsV Tryz.prog 12 79 d)
theorem zDw (l:List Tok) (x:RS) (hx:x.at'<l.length) (hl:l.length<=100000) (n most:Nat):ACB EN5 Tryz.prog 29 [.bx (pn 0) 0,.c (.int .i64 (n:Int)),.c (.int .i64 (most:Int))] [boxF l x] (.tup []) [boxF l (limZ l n most x)]:=by
 have h3:=zCb l x hx
 have h4:=zBR l x 4 hx
 by_cases hm:most<=n
 . have gl:(decide ((n:Int)>=(most:Int))==true)=true:=ge_t hm
   cases hN:nmZ l x with
   |true =>
    rw [hN] at h3
    rw [show limZ l n most x=zAG l 4 x by unfold limZ;rw [if_pos ⟨hm,hN⟩]]
    refine zb (fn:=Tryz.f29) 15 Tryz.func29 rfl rfl ?_
    intro pas w0 w he hp
    repeat' (first
|apply s_m (zj l) (zN l) rfl
 . conv=>lhs;whnf
 . conv=>lhs;whnf
 . rfl
 . conv=>lhs;whnf;arg 1;whnf
 . first | exact z6 _ _
 . first | exact h3 | exact h4
 . exact fun _=>rfl
 . exact fun _=>rfl
|apply zl (zj l) (zN l) rfl
 . conv=>lhs;whnf
 . conv=>lhs;whnf
 . first | rfl | assumption
 . conv=>lhs;whnf
 . rfl
 . conv=>lhs;whnf;arg 1;whnf
 . first | exact z6 _ _
 . first | exact h3 | exact h4
 . exact fun _=>rfl
 . exact fun _=>rfl
|refine zA ?_
|refine zB ?_
|refine zF ?_
|apply aw_1
 conv=>whnf
 refine ⟨?_,trivial⟩
|apply zX rfl rfl
 . conv=>lhs;whnf
 . conv=>lhs;whnf
 . first | exact bT1 ‹_› | exact bT2 ‹_›
|apply s_1
 conv=>whnf;arg 1;arg 4;arg 3;whnf
 refine ⟨?_,?_⟩
|apply zC rfl
 . conv=>lhs;whnf
 . conv=>lhs;whnf
 . first | rfl | assumption
 . conv=>lhs;whnf;arg 2;whnf
|refine zx ⟨?_,?_⟩
|exact (rfl:_=V.tup [])
|exact trivial)
    all_goals first
     |exact ⟨rfl,trivial⟩
     |rfl
     |skip
   |false =>
    rw [hN] at h3
    rw [show limZ l n most x=x by unfold limZ;rw [if_neg (fun h=>by rw [hN] at h;cases h.2)]]
    refine zb (fn:=Tryz.f29) 15 Tryz.func29 rfl rfl ?_
    intro pas w0 w he hp
    repeat' (first
|apply zl (zj l) (zN l) rfl
 . conv=>lhs;whnf
 . conv=>lhs;whnf
 . first | rfl | assumption
 . conv=>lhs;whnf
 . rfl
 . conv=>lhs;whnf;arg 1;whnf
 . first | exact z6 _ _
 . first | exact h3
 . exact fun _=>rfl
 . exact fun _=>rfl
|refine zA ?_
|refine zB ?_
|refine zF ?_
|apply aw_1
 conv=>whnf
 refine ⟨?_,trivial⟩
|apply zX rfl rfl
 . conv=>lhs;whnf
 . conv=>lhs;whnf
 . first | exact bT1 ‹_› | exact bT2 ‹_›
|apply s_1
 conv=>whnf;arg 1;arg 4;arg 3;whnf
 refine ⟨?_,?_⟩
|apply zC rfl
 . conv=>lhs;whnf
 . conv=>lhs;whnf
 . first | rfl | assumption
 . conv=>lhs;whnf;arg 2;whnf
|refine zx ⟨?_,?_⟩
|exact (rfl:_=V.tup [])
|exact trivial)
    all_goals first
     |exact ⟨rfl,trivial⟩
     |rfl
     |skip
 . have gl:(decide ((n:Int)>=(most:Int))==true)=false:=ge_f hm
   rw [show limZ l n most x=x by unfold limZ;rw [if_neg (fun h=>hm h.1)]]
   refine zb (fn:=Tryz.f29) 15 Tryz.func29 rfl rfl ?_
   intro pas w0 w he hp
   repeat' (first
|refine zA ?_
|refine zB ?_
|refine zF ?_
|apply aw_1
 conv=>whnf
 refine ⟨?_,trivial⟩
|apply zT rfl rfl
 . conv=>lhs;whnf
 . conv=>lhs;whnf
 . first | exact bF1 ‹_› | exact bF2 ‹_›
|apply s_1
 conv=>whnf;arg 1;arg 4;arg 3;whnf
 refine ⟨?_,?_⟩
|apply zW rfl
 . conv=>lhs;whnf
 . conv=>lhs;whnf
 . first | rfl | assumption
|refine zx ⟨?_,?_⟩
|exact (rfl:_=V.tup [])
|exact trivial)
   all_goals first
    |exact ⟨rfl,trivial⟩
    |rfl
    |skip
noncomputable def HDi (l:List Tok) (nm:List UInt8) (y:RS) (acc:List D):Vst 64:=
 stS 64 [(0,.bx (pn 0) 0),(2,.bx 2 0),(3,.bx 3 0)] [(pn 0,boxF l y),(2,.box 108 [.c (.string ⟨#[]⟩),.c (.slice none 0 0)]),(3,.box 108 [.c (.string (bs nm)),.own 901 111 acc]),(901,.tok 111 acc.length)]
section
variable (l:List Tok) (hE:Ed l) (hl:l.length<=100000) (hS : ∀ i,i<l.length->(l.getD i ⟨5,[],0⟩).s.length<=100000)
include hE hl hS
theorem dirN_acb (x:RS) (hx:x.at'<l.length) (hs:sgZ l [64] x=true) (hn:sgZ l [40] (nameZ l (upZ x)).2=false):ACB EN5 Tryz.prog 126 [.bx (pn 0) 0] [boxF l x] (.agg [.c (.string (bs (nameZ l (upZ x)).1)),.c (.slice none 0 0)]) [boxF l (nameZ l (upZ x)).2]:=by
 have hu:=(zAZ hE hx hs).mv
 have k1:=zAN l (upZ x) hu.hi hl
 have m1:=(zy hE hu.hi).mv
 have k2:=zAa l (nameZ l (upZ x)).2 m1.hi [40]
 rw [hn] at k2
 refine zb (fn:=Tryz.f126) 64 Tryz.func126 rfl rfl ?_
 intro pas w0 w he hp
 repeat' (first
|apply s_m (zj l) (zN l) rfl
 . conv=>lhs;whnf
 . conv=>lhs;whnf
 . rfl
 . conv=>lhs;whnf;arg 1;whnf
 . first | exact z6 _ _ | exact zBh _ _
 . first | exact k1 | exact k2
 . exact fun _=>rfl
 . exact fun _=>rfl
|refine zA ?_
|refine zB ?_
|refine zF ?_
|apply aw_1
 conv=>whnf
 refine ⟨?_,trivial⟩
|apply s_1
 conv=>whnf;arg 1;arg 4;arg 3;whnf
 refine ⟨?_,?_⟩
|apply zI rfl rfl rfl
 . conv=>lhs;whnf
 . conv=>lhs;whnf;arg 1;whnf
 . conv=>lhs;whnf;arg 1;whnf
 . exact ⟨by kernel_rfl,by kernel_rfl⟩
 . rfl
|refine zQ ?_
|refine zx ⟨?_,?_⟩
|refine ⟨_,by conv=>lhs;whnf;arg 2;whnf,?_⟩;conv=>rhs;whnf
|exact trivial)
 all_goals first
  |exact zU (by omega)
  |exact ⟨rfl,trivial⟩
  |rfl
  |skip
theorem dirA_acb (x:RS) (hx:x.at'<l.length) (hs:sgZ l [64] x=true) (hn:sgZ l [40] (nameZ l (upZ x)).2=true):ACB EN5 Tryz.prog 126 [.bx (pn 0) 0] [boxF l x] (VDr (dirD (nameZ l (upZ x)).1 (zB4 l (upZ (nameZ l (upZ x)).2)).1)) [boxF l (zB4 l (upZ (nameZ l (upZ x)).2)).2]:=by
 have hu:=(zAZ hE hx hs).mv
 have k1:=zAN l (upZ x) hu.hi hl
 have m1:=(zy hE hu.hi).mv
 have k2:=zAa l (nameZ l (upZ x)).2 m1.hi [40]
 rw [hn] at k2
 have hu2:=(zAZ hE m1.hi hn).mv.hi
 have hat1:=hu.hi
 have hat2:=m1.hi
 generalize (nameZ l (upZ x)).1=nm at *
 generalize (nameZ l (upZ x)).2=z at *
 have hRd:zB4 l (upZ z)=manyZ l (fun n x=>argB1 l (limZ l n 16 x)) [41] (l.length+1-(upZ z).at') [] (upZ z):=rfl
 generalize hR:zB4 l (upZ z)=R at hRd |-
 refine zb (fn:=Tryz.f126) 64 Tryz.func126 rfl rfl ?_
 intro pas w0 w he hp
 repeat' (first
|apply s_m (zj l) (zN l) rfl
 . conv=>lhs;whnf
 . conv=>lhs;whnf
 . rfl
 . conv=>lhs;whnf;arg 1;whnf
 . first | exact z6 _ _ | exact zBh _ _
 . first | exact k1 | exact k2
 . exact fun _=>rfl
 . exact fun _=>rfl
|refine zA ?_
|refine zB ?_
|refine zF ?_
|apply aw_1
 conv=>whnf
 refine ⟨?_,trivial⟩
|apply s_1
 conv=>whnf;arg 1;arg 4;arg 3;whnf
 refine ⟨?_,?_⟩
|apply zI rfl rfl rfl
 . conv=>lhs;whnf
 . conv=>lhs;whnf;arg 1;whnf
 . conv=>lhs;whnf;arg 1;whnf
 . exact ⟨by kernel_rfl,by kernel_rfl⟩
 . rfl
|exact trivial)
 all_goals first
  |exact zU (by omega)
  |skip
 refine zg (Sub.live (cs:=[(0,.bx (pn 0) 0),(2,.bx 2 0),(3,.bx 3 0)]) (R:=[(pn 0,boxF l (upZ z)),(2,.box 108 [.c (.string ⟨#[]⟩),.c (.slice none 0 0)]),(3,.box 108 [.c (.string (bs nm)),.c (.slice none 0 0)])]) ⟨rfl,rfl,rfl,trivial⟩ ⟨rfl,rfl,rfl,trivial⟩) ?_
 refine zg (Sub.ownF (m:=3) (q:=901) (i:=1) (e:=111) rfl (by decide) rfl rfl rfl) ?_
 generalize upZ z=x0 at hRd hu2 |-
 refine zn (fun j st => ∃ y acc,manyZ l (fun n x=>argB1 l (limZ l n 16 x)) [41] j acc y=R/\y.at'<l.length/\0<j/\(y.er=0->l.length-y.at'<j)/\acc.length+j<=l.length+1/\Sub ⟨Tryz.prog,pas,w0,w,EN5,he,hp,fun _ _ _=>False,[]⟩ st (HDi l nm y acc)) (l.length+1-x0.at') ⟨x0,[],hRd.symm,hu2,by omega,fun _=>by omega,by simp only [List.length_nil];omega,?_⟩ ?_
 . exact Sub.live ⟨rfl,rfl,rfl,trivial⟩ ⟨rfl,rfl,rfl,rfl,trivial⟩
 clear hRd hR
 rintro j st ⟨y,acc,hR,hy,hj0,hj,hv,hs2⟩
 refine zg hs2 ?_
 clear hs2
 obtain ⟨j,rfl⟩ : ∃ q,j=q+1:=⟨j-1,by omega⟩
 have h1:=zAa l y hy [41]
 have h2:=zAJ l y hy hl [41]
 by_cases g0:y.er=0
 rotate_left 1
 . have f0:(y.er==0)=false:=by simpa using g0
   have g1:((y.er==0)==true)=false:=by rw [f0];rfl
   rw [zEB (fun h=>g0 h.1)] at hR
   subst hR
   repeat' (first
|apply s_m (zj l) (zN l) rfl
 . conv=>lhs;whnf
 . conv=>lhs;whnf
 . rfl
 . conv=>lhs;whnf;arg 1;whnf
 . first | exact z6 _ _
 . first | exact h1 | exact h2
 . exact fun _=>rfl
 . exact fun _=>rfl
|apply zW rfl
 . conv=>lhs;whnf
 . conv=>lhs;whnf
 . first | rfl | assumption
|apply zDa rfl
 . conv=>lhs;whnf
 . rfl
 . rfl
|refine zA ?_
|refine zB ?_
|refine zF ?_
|apply aw_1
 conv=>whnf
 refine ⟨?_,trivial⟩
|apply zT rfl rfl
 . conv=>lhs;whnf
 . conv=>lhs;whnf
 . first | exact bF1 ‹_› | exact bF2 ‹_›
|apply s_1
 conv=>whnf;arg 1;arg 4;arg 3;whnf
 refine ⟨?_,?_⟩
|apply zI rfl rfl rfl
 . conv=>lhs;whnf
 . conv=>lhs;whnf;arg 1;whnf
 . conv=>lhs;whnf;arg 1;whnf
 . exact ⟨by kernel_rfl,by kernel_rfl⟩
 . rfl
|refine zO ?_
|refine zL rfl ?_
|refine zM ?_
|refine zx ⟨?_,?_⟩
|refine ⟨_,by conv=>lhs;whnf;arg 2;whnf,?_⟩;conv=>rhs;whnf
|exact trivial)
   all_goals first
    |exact ⟨rfl,trivial⟩
    |rfl
    |skip
 have f0:(y.er==0)=true:=by rw [g0];rfl
 have g1:((y.er==0)==true)=true:=by rw [f0];rfl
 by_cases hst:acc.length≠0/\sgZ l [41] y=true
 . have q0:=zA9 hst.1
   have gs:=hst.2
   have f2:(!sgZ l [41] y)=false:=by rw [gs];rfl
   rw [gs] at f2 h1
   rw [zEB (fun h=>by rcases h.2 with h5 | h5;exact hst.1 h5;rw [gs] at h5;cases h5)] at hR
   subst hR
   repeat' (first
|apply s_m (zj l) (zN l) rfl
 . conv=>lhs;whnf
 . conv=>lhs;whnf
 . rfl
 . conv=>lhs;whnf;arg 1;whnf
 . first | exact z6 _ _
 . first | exact h1 | exact h2
 . exact fun _=>rfl
 . exact fun _=>rfl
|apply zl (zj l) (zN l) rfl
 . conv=>lhs;whnf
 . conv=>lhs;whnf
 . first | rfl | assumption
 . conv=>lhs;whnf
 . rfl
 . conv=>lhs;whnf;arg 1;whnf
 . first | exact z6 _ _
 . first | exact h1 | exact h2
 . exact fun _=>rfl
 . exact fun _=>rfl
|apply zv rfl rfl rfl
 . conv=>lhs;whnf
 . first | rfl | assumption
 . conv=>lhs;whnf
 . first | exact bF1 ‹_› | exact bF2 ‹_› | rfl
|apply zD
 . conv=>lhs;whnf
 . assumption
|refine zA ?_
|refine zB ?_
|refine zF ?_
|apply aw_1
 conv=>whnf
 refine ⟨?_,trivial⟩
|apply zX rfl rfl
 . conv=>lhs;whnf
 . conv=>lhs;whnf
 . first | exact bT1 ‹_› | exact bT2 ‹_›
|apply s_1
 conv=>whnf;arg 1;arg 4;arg 3;whnf
 refine ⟨?_,?_⟩
|apply zI rfl rfl rfl
 . conv=>lhs;whnf
 . conv=>lhs;whnf;arg 1;whnf
 . conv=>lhs;whnf;arg 1;whnf
 . exact ⟨by kernel_rfl,by kernel_rfl⟩
 . rfl
|apply zC rfl
 . conv=>lhs;whnf
 . conv=>lhs;whnf
 . first | rfl | assumption
 . conv=>lhs;whnf;arg 2;whnf
|refine zO ?_
|refine zL rfl ?_
|refine zM ?_
|refine zx ⟨?_,?_⟩
|refine ⟨_,by conv=>lhs;whnf;arg 2;whnf,?_⟩;conv=>rhs;whnf
|exact trivial)
   all_goals first
    |exact ⟨rfl,trivial⟩
    |rfl
    |skip
 have hgo:acc.length=0\/sgZ l [41] y=false:=by
  cases h:sgZ l [41] y
  . exact .inr rfl
  . exact .inl (by by_cases h0:acc.length=0;exact h0;exact (hst ⟨h0,h⟩).elim)
 rw [mz_go ⟨g0,hgo⟩] at hR
 try dsimp only at hR
 have h3:=zDw l y hy hl acc.length 16
 have n1:=zAl (l:=l) hE acc.length 16 hy
 have hpg:=zHW hE n1.hi
 have hhi:=hpg.mv.hi
 have hpu:=hpg.up
 have hlo:=n1.lo
 have eo : ∀ y1,argB1 l y1=(argD (nameZ l y1).1 (wholeZ l true (needZ l [58] (nameZ l y1).2)).1,(wholeZ l true (needZ l [58] (nameZ l y1).2)).2):=fun _=>rfl
 rw [eo] at hR hhi hpu
 clear hpg
 generalize limZ l acc.length 16 y=y1 at *
 have k3:=zAN l y1 n1.hi hl
 have n2:=(zy hE n1.hi).mv
 have k4:=zAJ l (nameZ l y1).2 n2.hi hl [58]
 have n3:=(zAA hE [58] n2.hi).mv
 have k5:=zFo l hE hl hS (needZ l [58] (nameZ l y1).2) n3.hi
 let vd:=argD (nameZ l y1).1 (wholeZ l true (needZ l [58] (nameZ l y1).2)).1
 have hcs:acc.length=0\/(acc.length≠0/\sgZ l [41] y=false):=by
  by_cases ha:acc.length=0
  . exact .inl ha
  . exact .inr ⟨ha,hgo.resolve_left ha⟩
 clear hgo hst
 rcases hcs with ha | ⟨ha,hN⟩
 have q0:=zDM ha
 have q1:=zCG ha
 rotate_left 1
 have q0:=zA9 ha
 rw [hN] at h1
 rotate_left 1
 all_goals
  repeat' (first
|apply s_m (zj l) (zN l) rfl
 . conv=>lhs;whnf
 . conv=>lhs;whnf
 . rfl
 . conv=>lhs;whnf;arg 1;whnf
 . first | exact z6 _ _
 . first | exact h1 | exact h3 | exact k3 | exact k4 | exact k5
 . exact fun _=>rfl
 . exact fun _=>rfl
|apply zl (zj l) (zN l) rfl
 . conv=>lhs;whnf
 . conv=>lhs;whnf
 . first | rfl | assumption
 . conv=>lhs;whnf
 . rfl
 . conv=>lhs;whnf;arg 1;whnf
 . first | exact z6 _ _
 . first | exact h1 | exact h3 | exact k3 | exact k4 | exact k5
 . exact fun _=>rfl
 . exact fun _=>rfl
|apply zW rfl
 . conv=>lhs;whnf
 . conv=>lhs;whnf
 . first | rfl | assumption
|apply zBW [vd] rfl rfl
 . conv=>lhs;whnf
 . first | exact zHI | (conv=>lhs;whnf;arg 1;whnf)
 . rfl
 . rfl
 . repeat' (first | exact trivial | apply And.intro | rfl)
|apply zz rfl rfl rfl
 . conv=>lhs;whnf
 . first | rfl | assumption
 . conv=>lhs;whnf
 . first | exact bT1 ‹_› | exact bT2 ‹_› | rfl
|apply zv rfl rfl rfl
 . conv=>lhs;whnf
 . first | rfl | assumption
 . conv=>lhs;whnf
 . first | exact bF1 ‹_› | exact bF2 ‹_› | rfl
|refine zA ?_
|refine zB ?_
|refine zF ?_
|refine zZ ?_
|apply aw_1
 conv=>whnf
 refine ⟨?_,trivial⟩
|apply zX rfl rfl
 . conv=>lhs;whnf
 . conv=>lhs;whnf
 . first | exact bT1 ‹_› | exact bT2 ‹_›
|apply s_1
 conv=>whnf;arg 1;arg 4;arg 3;whnf
 refine ⟨?_,?_⟩
|apply zI rfl rfl rfl
 . conv=>lhs;whnf
 . conv=>lhs;whnf;arg 1;whnf
 . conv=>lhs;whnf;arg 1;whnf
 . exact ⟨by kernel_rfl,by kernel_rfl⟩
 . rfl
|apply zBK rfl rfl
 . conv=>lhs;whnf
 . first | exact zHI | (conv=>lhs;whnf;arg 1;whnf)
 . first | exact fun _=>rfl | (intro _;kernel_rfl)
 . conv=>lhs;whnf
 . conv=>lhs;whnf;arg 1;whnf
 . conv=>lhs;whnf
|apply zC rfl
 . conv=>lhs;whnf
 . conv=>lhs;whnf
 . first | rfl | assumption
 . conv=>lhs;whnf;arg 2;whnf
|exact trivial)
  all_goals first
   |exact zU (by omega)
   |(refine ⟨by simp,?_,?_⟩<;>simp only [List.length_cons,List.length_nil,maxLen]<;>omega)
   |(refine ⟨by simp,?_⟩;exact app80 (by omega))
   |skip
  refine zJ (Nat.lt_succ_self j) ⟨_,_,hR,hhi,by have:=hj g0;omega,fun h=>by have:=hpu h;have:=hj g0;omega,by rw [List.length_append];simp only [List.length_cons,List.length_nil];omega,Sub.live ⟨rfl,rfl,rfl,trivial⟩ ⟨rfl,rfl,rfl,?_,trivial⟩⟩
  rw [List.length_append];rfl
theorem dir_acb (x:RS) (hx:x.at'<l.length) (hs:sgZ l [64] x=true):ACB EN5 Tryz.prog 126 [.bx (pn 0) 0] [boxF l x] (VDr (oneDirT l x).1) [boxF l (oneDirT l x).2]:=by
 cases hn:sgZ l [40] (nameZ l (upZ x)).2 with
 |true =>
  have e:oneDirT l x=(dirD (nameZ l (upZ x)).1 (zB4 l (upZ (nameZ l (upZ x)).2)).1,(zB4 l (upZ (nameZ l (upZ x)).2)).2):=by
   unfold oneDirT;dsimp only;rw [if_pos hn]
  rw [e]
  exact dirA_acb l hE hl hS x hx hs hn
 |false =>
  have e:oneDirT l x=(dirD (nameZ l (upZ x)).1 [],(nameZ l (upZ x)).2):=by
   unfold oneDirT;dsimp only;rw [if_neg (by rw [hn];decide)]
  rw [e]
  exact (dirN_acb l hE hl hS x hx hs hn).res (.agg (.cons (.refl _) (.cons (.nil _) .nil)))
end
section
variable {l:List Tok} {j:Nat} {acc:List D} {x:RS}
theorem dz_end (h:sgZ l [64] x=false):dirsLT l (j+1) acc x=(acc,x):=by
 conv=>lhs;unfold dirsLT
 rw [if_neg (by rw [h];decide)]
theorem dz_lim (h:sgZ l [64] x=true) (h2:16<=acc.length):dirsLT l (j+1) acc x=([],zAG l 4 x):=by
 conv=>lhs;unfold dirsLT
 rw [if_pos h,if_pos h2]
theorem dz_go (h:sgZ l [64] x=true) (h2 : ¬ 16<=acc.length):dirsLT l (j+1) acc x=dirsLT l j (acc++[(oneDirT l x).1]) (oneDirT l x).2:=by
 conv=>lhs;unfold dirsLT
 rw [if_pos h,if_neg h2]
end
noncomputable def HDs (l:List Tok) (y:RS) (acc:List D):Vst 19:=
 stS 19 [(0,.bx (pn 0) 0),(3,.own 3 108 acc)] [(pn 0,boxF l y),(3,.tok 108 acc.length)]
section
variable (l:List Tok) (hE:Ed l) (hl:l.length<=100000) (hS : ∀ i,i<l.length->(l.getD i ⟨5,[],0⟩).s.length<=100000)
include hE hl hS
theorem zAg (x:RS) (hx:x.at'<l.length):ACB EN5 Tryz.prog 57 [.bx (pn 0) 0] [boxF l x] (.sl 108 (dirsZ1 l x).1) [boxF l (dirsZ1 l x).2]:=by
 unfold dirsZ1
 generalize hR:dirsLT l (l.length+1-x.at') [] x=R
 refine zb (fn:=Tryz.f57) 19 Tryz.func57 rfl rfl ?_
 intro pas w0 w he hp
 repeat' (first
|refine zA ?_
|refine zB ?_
|refine zF ?_
|apply aw_1
 conv=>whnf
 refine ⟨?_,trivial⟩
|apply s_1
 conv=>whnf;arg 1;arg 4;arg 3;whnf
 refine ⟨?_,?_⟩
|exact trivial)
 refine zg (Sub.own (t:=3) (e:=108) rfl rfl) ?_
 refine zn (fun j st => ∃ y acc,dirsLT l j acc y=R/\y.at'<l.length/\0<j/\(y.er=0->l.length-y.at'<j)/\acc.length+j<=l.length+1/\Sub ⟨Tryz.prog,pas,w0,w,EN5,he,hp,fun _ _ _=>False,[]⟩ st (HDs l y acc)) (l.length+1-x.at') ⟨x,[],hR,hx,by omega,fun _=>by omega,by simp only [List.length_nil];omega,?_⟩ ?_
 . exact Sub.live ⟨rfl,rfl,trivial⟩ ⟨rfl,rfl,trivial⟩
 clear hR
 rintro j st ⟨y,acc,hR,hy,hj0,hj,hv,hs2⟩
 refine zg hs2 ?_
 clear hs2
 obtain ⟨j,rfl⟩ : ∃ q,j=q+1:=⟨j-1,by omega⟩
 have h1:=zAa l y hy [64]
 cases gs:sgZ l [64] y with
 |false =>
  rw [gs] at h1
  rw [dz_end gs] at hR
  subst hR
  repeat' (first
|apply s_m (zj l) (zN l) rfl
 . conv=>lhs;whnf
 . conv=>lhs;whnf
 . rfl
 . conv=>lhs;whnf;arg 1;whnf
 . first | exact z6 _ _
 . first | exact h1
 . exact fun _=>rfl
 . exact fun _=>rfl
|refine zA ?_
|refine zB ?_
|refine zF ?_
|apply aw_1
 conv=>whnf
 refine ⟨?_,trivial⟩
|apply s_1
 conv=>whnf;arg 1;arg 4;arg 3;whnf
 refine ⟨?_,?_⟩
|refine zO ?_
|refine zL rfl ?_
|refine zM ?_
|refine zx ⟨?_,?_⟩
|refine ⟨_,by conv=>lhs;whnf;arg 2;whnf,?_⟩;conv=>rhs;whnf
|exact trivial)
  all_goals first
   |exact ⟨rfl,trivial⟩
   |rfl
   |skip
 |true =>
  rw [gs] at h1
  have g0:y.er=0:=(sg_k gs).2.1
  by_cases hlim:16<=acc.length
  . have f1:decide ((acc.length:Int)>=16)=true:=decide_eq_true (by omega)
    have h2:=zBR l y 4 hy
    rw [dz_lim gs hlim] at hR
    subst hR
    repeat' (first
|apply s_m (zj l) (zN l) rfl
 . conv=>lhs;whnf
 . conv=>lhs;whnf
 . rfl
 . conv=>lhs;whnf;arg 1;whnf
 . first | exact z6 _ _
 . first | exact h1 | exact h2
 . exact fun _=>rfl
 . exact fun _=>rfl
|apply zAD ((V.sl 108 [])) rfl rfl
 . conv=>lhs;whnf;arg 2;whnf
 . repeat' (first | exact VLe.refl _ | exact VLe.nil _ | exact VLe.lit _ _ | exact VLe.own _ _ _ | apply VLe.agg | apply VLeL.cons | exact VLeL.nil)
|apply zG
 . conv=>lhs;whnf
 . assumption
|refine zA ?_
|refine zB ?_
|refine zF ?_
|apply aw_1
 conv=>whnf
 refine ⟨?_,trivial⟩
|apply s_1
 conv=>whnf;arg 1;arg 4;arg 3;whnf
 refine ⟨?_,?_⟩
|refine zQ ?_
|refine zV ?_
|refine zw ?_
|refine zx ⟨?_,?_⟩
|refine ⟨_,by conv=>lhs;whnf;arg 2;whnf,?_⟩;conv=>rhs;whnf
|exact trivial)
    all_goals first
     |exact ⟨rfl,trivial⟩
     |rfl
     |skip
  . have f1:decide ((acc.length:Int)>=16)=false:=decide_eq_false (by omega)
    rw [dz_go gs hlim] at hR
    have k1:=dir_acb l hE hl hS y hy gs
    have hpg:=zF5 hE hy gs
    have hhi:=hpg.mv.hi
    have hpu:=hpg.up
    clear hpg
    generalize oneDirT l y=O at *
    let vd:=O.1
    repeat' (first
|apply s_m (zj l) (zN l) rfl
 . conv=>lhs;whnf
 . conv=>lhs;whnf
 . rfl
 . conv=>lhs;whnf;arg 1;whnf
 . first | exact z6 _ _
 . first | exact h1 | exact k1
 . exact fun _=>rfl
 . exact fun _=>rfl
|apply zBW [vd] rfl rfl
 . conv=>lhs;whnf
 . first | exact zDz | (conv=>lhs;whnf;arg 1;whnf)
 . rfl
 . rfl
 . repeat' (first | exact trivial | apply And.intro | rfl)
|apply zD
 . conv=>lhs;whnf
 . assumption
|refine zA ?_
|refine zB ?_
|refine zF ?_
|refine zZ ?_
|apply aw_1
 conv=>whnf
 refine ⟨?_,trivial⟩
|apply s_1
 conv=>whnf;arg 1;arg 4;arg 3;whnf
 refine ⟨?_,?_⟩
|apply zI rfl rfl rfl
 . conv=>lhs;whnf
 . conv=>lhs;whnf;arg 1;whnf
 . conv=>lhs;whnf;arg 1;whnf
 . exact ⟨by kernel_rfl,by kernel_rfl⟩
 . rfl
|apply zBK rfl rfl
 . conv=>lhs;whnf
 . first | exact zDz | (conv=>lhs;whnf;arg 1;whnf)
 . first | exact fun _=>rfl | (intro _;kernel_rfl)
 . conv=>lhs;whnf
 . conv=>lhs;whnf;arg 1;whnf
 . conv=>lhs;whnf
|exact trivial)
    all_goals first
     |exact zU (by omega)
     |(refine ⟨by simp,?_,?_⟩<;>simp only [List.length_cons,List.length_nil,maxLen]<;>omega)
     |skip
    refine zJ (Nat.lt_succ_self j) ⟨_,_,hR,hhi,by have:=hj g0;omega,fun h=>by have:=hpu h;have:=hj g0;omega,by rw [List.length_append];simp only [List.length_cons,List.length_nil];omega,Sub.live ⟨rfl,rfl,trivial⟩ ⟨rfl,?_,trivial⟩⟩
    rw [List.length_append];rfl
end
end
section
open Go.RowKit
set_option linter.unusedSectionVars false
attribute [local irreducible] wpList Calls Code.wp AW AWo OpOk seqK zq zu loopK endK AC zf Yld Sub
attribute [local irreducible] ACB ACX ACE absLexG YldG absLexU YldU absLexH
noncomputable def HinsF (l:List Tok) (e:List UInt8) (y:RS) (acc:List D):Vst 59:=
 stS 59 [(0,.bx (pn 0) 0),(1,.c (.string (bs e))),(5,.own 5 55 acc)] [(pn 0,boxF l y),(5,.tok 55 acc.length)]
section
variable (l:List Tok) (hE:Ed l) (hl:l.length<=100000) (hS : ∀ i,i<l.length->(l.getD i ⟨5,[],0⟩).s.length<=100000)
include hE hl hS
theorem zKa (e:List UInt8) (x:RS) (hx:x.at'<l.length):ACB EN5 Tryz.prog 61 [.bx (pn 0) 0,.c (.string (bs e))] [boxF l x] (.sl 55 (insT l e x).1) [boxF l (insT l e x).2]:=by
 have hRd:insT l e x=manyZ l (fun n x=>inB l (limZ l n 16 x)) e (l.length+1-x.at') [] x:=rfl
 generalize hR:insT l e x=R at hRd |-
 refine zb (fn:=Tryz.f61) 59 Tryz.func61 rfl rfl ?_
 intro pas w0 w he hp
 repeat' (first
|refine zA ?_
|refine zB ?_
|refine zF ?_
|apply aw_1
 conv=>whnf
 refine ⟨?_,trivial⟩
|apply s_1
 conv=>whnf;arg 1;arg 4;arg 3;whnf
 refine ⟨?_,?_⟩
|exact trivial)
 refine zg (Sub.own (t:=5) (e:=55) rfl rfl) ?_
 refine zn (fun j st => ∃ y acc,manyZ l (fun n x=>inB l (limZ l n 16 x)) e j acc y=R/\y.at'<l.length/\0<j/\(y.er=0->l.length-y.at'<j)/\acc.length+j<=l.length+1/\Sub ⟨Tryz.prog,pas,w0,w,EN5,he,hp,fun _ _ _=>False,[]⟩ st (HinsF l e y acc)) (l.length+1-x.at') ⟨x,[],hRd.symm,hx,by omega,fun _=>by omega,by simp only [List.length_nil];omega,?_⟩ ?_
 . exact Sub.live ⟨rfl,rfl,rfl,trivial⟩ ⟨rfl,rfl,trivial⟩
 clear hRd hR
 rintro j st ⟨y,acc,hR,hy,hj0,hj,hv,hs2⟩
 refine zg hs2 ?_
 clear hs2
 obtain ⟨j,rfl⟩ : ∃ q,j=q+1:=⟨j-1,by omega⟩
 have h1:=zAa l y hy e
 have h2:=zAJ l y hy hl e
 by_cases g0:y.er=0
 rotate_left 1
 . have f0:(y.er==0)=false:=by simpa using g0
   have g1:((y.er==0)==true)=false:=by rw [f0];rfl
   rw [zEB (fun h=>g0 h.1)] at hR
   subst hR
   repeat' (first
|apply s_m (zj l) (zN l) rfl
 . conv=>lhs;whnf
 . conv=>lhs;whnf
 . rfl
 . conv=>lhs;whnf;arg 1;whnf
 . first | exact z6 _ _
 . first | exact h1 | exact h2
 . exact fun _=>rfl
 . exact fun _=>rfl
|apply zW rfl
 . conv=>lhs;whnf
 . conv=>lhs;whnf
 . first | rfl | assumption
|apply zDa rfl
 . conv=>lhs;whnf
 . rfl
 . rfl
|refine zA ?_
|refine zB ?_
|refine zF ?_
|apply aw_1
 conv=>whnf
 refine ⟨?_,trivial⟩
|apply zT rfl rfl
 . conv=>lhs;whnf
 . conv=>lhs;whnf
 . first | exact bF1 ‹_› | exact bF2 ‹_›
|apply s_1
 conv=>whnf;arg 1;arg 4;arg 3;whnf
 refine ⟨?_,?_⟩
|refine zO ?_
|refine zL rfl ?_
|refine zM ?_
|refine zx ⟨?_,?_⟩
|refine ⟨_,by conv=>lhs;whnf;arg 2;whnf,?_⟩;conv=>rhs;whnf
|exact trivial)
   all_goals first
    |exact ⟨rfl,trivial⟩
    |rfl
    |skip
 have f0:(y.er==0)=true:=by rw [g0];rfl
 have g1:((y.er==0)==true)=true:=by rw [f0];rfl
 by_cases hst:acc.length≠0/\sgZ l e y=true
 . have q0:=zA9 hst.1
   have gs:=hst.2
   have f2:(!sgZ l e y)=false:=by rw [gs];rfl
   rw [gs] at f2 h1
   rw [zEB (fun h=>by rcases h.2 with h5 | h5;exact hst.1 h5;rw [gs] at h5;cases h5)] at hR
   subst hR
   repeat' (first
|apply s_m (zj l) (zN l) rfl
 . conv=>lhs;whnf
 . conv=>lhs;whnf
 . rfl
 . conv=>lhs;whnf;arg 1;whnf
 . first | exact z6 _ _
 . first | exact h1 | exact h2
 . exact fun _=>rfl
 . exact fun _=>rfl
|apply zl (zj l) (zN l) rfl
 . conv=>lhs;whnf
 . conv=>lhs;whnf
 . first | rfl | assumption
 . conv=>lhs;whnf
 . rfl
 . conv=>lhs;whnf;arg 1;whnf
 . first | exact z6 _ _
 . first | exact h1 | exact h2
 . exact fun _=>rfl
 . exact fun _=>rfl
|apply zv rfl rfl rfl
 . conv=>lhs;whnf
 . first | rfl | assumption
 . conv=>lhs;whnf
 . first | exact bF1 ‹_› | exact bF2 ‹_› | rfl
|apply zD
 . conv=>lhs;whnf
 . assumption
|refine zA ?_
|refine zB ?_
|refine zF ?_
|apply aw_1
 conv=>whnf
 refine ⟨?_,trivial⟩
|apply zX rfl rfl
 . conv=>lhs;whnf
 . conv=>lhs;whnf
 . first | exact bT1 ‹_› | exact bT2 ‹_›
|apply s_1
 conv=>whnf;arg 1;arg 4;arg 3;whnf
 refine ⟨?_,?_⟩
|apply zC rfl
 . conv=>lhs;whnf
 . conv=>lhs;whnf
 . first | rfl | assumption
 . conv=>lhs;whnf;arg 2;whnf
|refine zO ?_
|refine zL rfl ?_
|refine zM ?_
|refine zx ⟨?_,?_⟩
|refine ⟨_,by conv=>lhs;whnf;arg 2;whnf,?_⟩;conv=>rhs;whnf
|exact trivial)
   all_goals first
    |exact ⟨rfl,trivial⟩
    |rfl
    |skip
 have hgo:acc.length=0\/sgZ l e y=false:=by
  cases h:sgZ l e y
  . exact .inr rfl
  . exact .inl (by by_cases h0:acc.length=0;exact h0;exact (hst ⟨h0,h⟩).elim)
 rw [mz_go ⟨g0,hgo⟩] at hR
 try dsimp only at hR
 have h3:=zDw l y hy hl acc.length 16
 have m1:=zAl (l:=l) hE acc.length 16 hy
 have hpg:=inB_pg hE m1.hi
 have hcs:acc.length=0\/(acc.length≠0/\sgZ l e y=false):=by
  by_cases ha:acc.length=0
  . exact .inl ha
  . exact .inr ⟨ha,hgo.resolve_left ha⟩
 have hmo:=m1.lo
 have hme:=m1.er
 generalize limZ l acc.length 16 y=y1 at *
 have k3:=zAN l y1 m1.hi hl
 have m2:=(zy hE m1.hi).mv
 have eo:inB l y1=(fun a=>(fun t=>(fun d=>(fun s=>(sInD a.1 (refD t.1.1 t.1.2) d.1.1 d.1.2 s.1,s.2)) (dirsZ1 l d.2)) (zIf l t.2)) (typZ l (needZ l [58] a.2))) (nameZ l y1):=rfl
 generalize nameZ l y1=A1 at *
 have k4:=zAJ l A1.2 m2.hi hl [58]
 have m3:=(zAA hE [58] m2.hi).mv
 have k5:=zGZ l hE hl (needZ l [58] A1.2) m3.hi
 have m4:=(zEn hE m3.hi).mv
 generalize hT1:typZ l (needZ l [58] A1.2)=T1 at *
 have m4h:=m4.hi
 have k6:=zAa l T1.2 m4h [61]
 rcases hd:sgZ l [61] T1.2 with _ | _
 rw [hd] at k6
 have k8:=zAg l hE hl hS T1.2 m4h
 let vd:=sInD A1.1 (refD T1.1.1 T1.1.2) false zA5 (dirsZ1 l T1.2).1
 have eo2:inB l y1=(vd,(dirsZ1 l T1.2).2):=by
  rw [eo];dsimp only;rw [hT1];unfold zIf;rw [if_neg (by rw [hd];decide)]
 rotate_left 1
 rw [hd] at k6
 have hup:=(zAZ hE m4h hd).mv
 have k7:=zFo l hE hl hS (upZ T1.2) hup.hi
 have m5:=(zDV hE true hup.hi).mv
 have k8:=zAg l hE hl hS (wholeZ l true (upZ T1.2)).2 m5.hi
 let vd:=sInD A1.1 (refD T1.1.1 T1.1.2) true (wholeZ l true (upZ T1.2)).1 (dirsZ1 l (wholeZ l true (upZ T1.2)).2).1
 have eo2:inB l y1=(vd,(dirsZ1 l (wholeZ l true (upZ T1.2)).2).2):=by
  rw [eo];dsimp only;rw [hT1];unfold zIf;rw [if_pos hd]
 rotate_left 1
 all_goals
  rw [eo2] at hR hpg
  have hhi:=hpg.mv.hi
  have hpu:=hpg.up
  clear eo2 hpg hgo hst
  rcases hcs with ha | ⟨ha,hN⟩
  have q0:=zDM ha
  have q1:=zCG ha
  rotate_left 1
  have q0:=zA9 ha
  rw [hN] at h1
  rotate_left 1
  all_goals
   repeat' (first
|apply s_m (zj l) (zN l) rfl
 . conv=>lhs;whnf
 . conv=>lhs;whnf
 . rfl
 . conv=>lhs;whnf;arg 1;whnf
 . first | exact z6 _ _ | exact zBh _ _
 . first | exact h1 | exact h3 | exact k3 | exact k4 | exact k5 | exact k6 | exact k7 | exact k8
 . exact fun _=>rfl
 . exact fun _=>rfl
|apply zl (zj l) (zN l) rfl
 . conv=>lhs;whnf
 . conv=>lhs;whnf
 . first | rfl | assumption
 . conv=>lhs;whnf
 . rfl
 . conv=>lhs;whnf;arg 1;whnf
 . first | exact z6 _ _ | exact zBh _ _
 . first | exact h1 | exact h3 | exact k3 | exact k4 | exact k5 | exact k6 | exact k7 | exact k8
 . exact fun _=>rfl
 . exact fun _=>rfl
|apply zW rfl
 . conv=>lhs;whnf
 . conv=>lhs;whnf
 . first | rfl | assumption
|apply zAD (VIr vd) rfl rfl
 . conv=>lhs;whnf;arg 2;whnf
 . repeat' (first | exact VLe.refl _ | exact VLe.nil _ | exact VLe.lit _ _ | exact VLe.own _ _ _ | apply VLe.agg | apply VLeL.cons | exact VLeL.nil)
|apply zBW [vd] rfl rfl
 . conv=>lhs;whnf
 . first | exact zIY | (conv=>lhs;whnf;arg 1;whnf)
 . rfl
 . rfl
 . repeat' (first | exact trivial | apply And.intro | rfl)
|apply zz rfl rfl rfl
 . conv=>lhs;whnf
 . first | rfl | assumption
 . conv=>lhs;whnf
 . first | exact bT1 ‹_› | exact bT2 ‹_› | rfl
|apply zv rfl rfl rfl
 . conv=>lhs;whnf
 . first | rfl | assumption
 . conv=>lhs;whnf
 . first | exact bF1 ‹_› | exact bF2 ‹_› | rfl
|refine zA ?_
|refine zB ?_
|refine zF ?_
|refine zZ ?_
|apply aw_1
 conv=>whnf
 refine ⟨?_,trivial⟩
|apply zX rfl rfl
 . conv=>lhs;whnf
 . conv=>lhs;whnf
 . first | exact bT1 ‹_› | exact bT2 ‹_›
|apply s_1
 conv=>whnf;arg 1;arg 4;arg 3;whnf
 refine ⟨?_,?_⟩
|apply zI rfl rfl rfl
 . conv=>lhs;whnf
 . conv=>lhs;whnf;arg 1;whnf
 . conv=>lhs;whnf;arg 1;whnf
 . exact ⟨by kernel_rfl,by kernel_rfl⟩
 . rfl
|apply zBK rfl rfl
 . conv=>lhs;whnf
 . first | exact zIY | (conv=>lhs;whnf;arg 1;whnf)
 . first | exact fun _=>rfl | (intro _;kernel_rfl)
 . conv=>lhs;whnf
 . conv=>lhs;whnf;arg 1;whnf
 . conv=>lhs;whnf
|apply zC rfl
 . conv=>lhs;whnf
 . conv=>lhs;whnf
 . first | rfl | assumption
 . conv=>lhs;whnf;arg 2;whnf
|exact trivial)
   all_goals first
    |exact zU (by omega)
    |(refine ⟨by simp,?_,?_⟩<;>simp only [List.length_cons,List.length_nil,maxLen]<;>omega)
    |skip
   refine zJ (Nat.lt_succ_self j) ⟨_,_,hR,hhi,by have:=hj g0;omega,fun h=>by have:=hpu h;have:=hj g0;omega,by rw [List.length_append];simp only [List.length_cons,List.length_nil];omega,Sub.live ⟨rfl,rfl,rfl,trivial⟩ ⟨rfl,?_,trivial⟩⟩
   rw [List.length_append];rfl
end
end
section
open Go.RowKit
set_option linter.unusedSectionVars false
attribute [local irreducible] wpList Calls Code.wp AW AWo OpOk seqK zq zu loopK endK AC zf Yld Sub
attribute [local irreducible] ACB ACX ACE absLexG YldG absLexU YldU absLexH
noncomputable def HfdsF (l:List Tok) (y:RS) (acc:List D):Vst 54:=
 stS 54 [(0,.bx (pn 0) 0),(3,.own 3 50 acc)] [(pn 0,boxF l y),(3,.tok 50 acc.length)]
section
variable (l:List Tok) (hE:Ed l) (hl:l.length<=100000) (hS : ∀ i,i<l.length->(l.getD i ⟨5,[],0⟩).s.length<=100000)
include hE hl hS
theorem zHF (x:RS) (hx:x.at'<l.length):ACB EN5 Tryz.prog 59 [.bx (pn 0) 0] [boxF l x] (.sl 50 (fdsT l x).1) [boxF l (fdsT l x).2]:=by
 have hRd:fdsT l x=manyZ l (fun n x=>fdB l (limZ l n 64 x)) [125] (l.length+1-x.at') [] x:=rfl
 generalize hR:fdsT l x=R at hRd |-
 refine zb (fn:=Tryz.f59) 54 Tryz.func59 rfl rfl ?_
 intro pas w0 w he hp
 repeat' (first
|refine zA ?_
|refine zB ?_
|refine zF ?_
|apply aw_1
 conv=>whnf
 refine ⟨?_,trivial⟩
|apply s_1
 conv=>whnf;arg 1;arg 4;arg 3;whnf
 refine ⟨?_,?_⟩
|exact trivial)
 refine zg (Sub.own (t:=3) (e:=50) rfl rfl) ?_
 refine zn (fun j st => ∃ y acc,manyZ l (fun n x=>fdB l (limZ l n 64 x)) [125] j acc y=R/\y.at'<l.length/\0<j/\(y.er=0->l.length-y.at'<j)/\acc.length+j<=l.length+1/\Sub ⟨Tryz.prog,pas,w0,w,EN5,he,hp,fun _ _ _=>False,[]⟩ st (HfdsF l y acc)) (l.length+1-x.at') ⟨x,[],hRd.symm,hx,by omega,fun _=>by omega,by simp only [List.length_nil];omega,?_⟩ ?_
 . exact Sub.live ⟨rfl,rfl,trivial⟩ ⟨rfl,rfl,trivial⟩
 clear hRd hR
 rintro j st ⟨y,acc,hR,hy,hj0,hj,hv,hs2⟩
 refine zg hs2 ?_
 clear hs2
 obtain ⟨j,rfl⟩ : ∃ q,j=q+1:=⟨j-1,by omega⟩
 have h1:=zAa l y hy [125]
 have h2:=zAJ l y hy hl [125]
 by_cases g0:y.er=0
 rotate_left 1
 . have f0:(y.er==0)=false:=by simpa using g0
   have g1:((y.er==0)==true)=false:=by rw [f0];rfl
   rw [zEB (fun h=>g0 h.1)] at hR
   subst hR
   repeat' (first
|apply s_m (zj l) (zN l) rfl
 . conv=>lhs;whnf
 . conv=>lhs;whnf
 . rfl
 . conv=>lhs;whnf;arg 1;whnf
 . first | exact z6 _ _
 . first | exact h1 | exact h2
 . exact fun _=>rfl
 . exact fun _=>rfl
|apply zW rfl
 . conv=>lhs;whnf
 . conv=>lhs;whnf
 . first | rfl | assumption
|apply zDa rfl
 . conv=>lhs;whnf
 . rfl
 . rfl
|refine zA ?_
|refine zB ?_
|refine zF ?_
|apply aw_1
 conv=>whnf
 refine ⟨?_,trivial⟩
|apply zT rfl rfl
 . conv=>lhs;whnf
 . conv=>lhs;whnf
 . first | exact bF1 ‹_› | exact bF2 ‹_›
|apply s_1
 conv=>whnf;arg 1;arg 4;arg 3;whnf
 refine ⟨?_,?_⟩
|refine zO ?_
|refine zL rfl ?_
|refine zM ?_
|refine zx ⟨?_,?_⟩
|refine ⟨_,by conv=>lhs;whnf;arg 2;whnf,?_⟩;conv=>rhs;whnf
|exact trivial)
   all_goals first
    |exact ⟨rfl,trivial⟩
    |rfl
    |skip
 have f0:(y.er==0)=true:=by rw [g0];rfl
 have g1:((y.er==0)==true)=true:=by rw [f0];rfl
 by_cases hst:acc.length≠0/\sgZ l [125] y=true
 . have q0:=zA9 hst.1
   have gs:=hst.2
   have f2:(!sgZ l [125] y)=false:=by rw [gs];rfl
   rw [gs] at f2 h1
   rw [zEB (fun h=>by rcases h.2 with h5 | h5;exact hst.1 h5;rw [gs] at h5;cases h5)] at hR
   subst hR
   repeat' (first
|apply s_m (zj l) (zN l) rfl
 . conv=>lhs;whnf
 . conv=>lhs;whnf
 . rfl
 . conv=>lhs;whnf;arg 1;whnf
 . first | exact z6 _ _
 . first | exact h1 | exact h2
 . exact fun _=>rfl
 . exact fun _=>rfl
|apply zl (zj l) (zN l) rfl
 . conv=>lhs;whnf
 . conv=>lhs;whnf
 . first | rfl | assumption
 . conv=>lhs;whnf
 . rfl
 . conv=>lhs;whnf;arg 1;whnf
 . first | exact z6 _ _
 . first | exact h1 | exact h2
 . exact fun _=>rfl
 . exact fun _=>rfl
|apply zv rfl rfl rfl
 . conv=>lhs;whnf
 . first | rfl | assumption
 . conv=>lhs;whnf
 . first | exact bF1 ‹_› | exact bF2 ‹_› | rfl
|apply zD
 . conv=>lhs;whnf
 . assumption
|refine zA ?_
|refine zB ?_
|refine zF ?_
|apply aw_1
 conv=>whnf
 refine ⟨?_,trivial⟩
|apply zX rfl rfl
 . conv=>lhs;whnf
 . conv=>lhs;whnf
 . first | exact bT1 ‹_› | exact bT2 ‹_›
|apply s_1
 conv=>whnf;arg 1;arg 4;arg 3;whnf
 refine ⟨?_,?_⟩
|apply zC rfl
 . conv=>lhs;whnf
 . conv=>lhs;whnf
 . first | rfl | assumption
 . conv=>lhs;whnf;arg 2;whnf
|refine zO ?_
|refine zL rfl ?_
|refine zM ?_
|refine zx ⟨?_,?_⟩
|refine ⟨_,by conv=>lhs;whnf;arg 2;whnf,?_⟩;conv=>rhs;whnf
|exact trivial)
   all_goals first
    |exact ⟨rfl,trivial⟩
    |rfl
    |skip
 have hgo:acc.length=0\/sgZ l [125] y=false:=by
  cases h:sgZ l [125] y
  . exact .inr rfl
  . exact .inl (by by_cases h0:acc.length=0;exact h0;exact (hst ⟨h0,h⟩).elim)
 rw [mz_go ⟨g0,hgo⟩] at hR
 try dsimp only at hR
 have h3:=zDw l y hy hl acc.length 64
 have m1:=zAl (l:=l) hE acc.length 64 hy
 have hpg:=fdB_pg hE m1.hi
 have hcs:acc.length=0\/(acc.length≠0/\sgZ l [125] y=false):=by
  by_cases ha:acc.length=0
  . exact .inl ha
  . exact .inr ⟨ha,hgo.resolve_left ha⟩
 have hmo:=m1.lo
 have hme:=m1.er
 generalize limZ l acc.length 64 y=y1 at *
 have k3:=zAN l y1 m1.hi hl
 have m2:=(zy hE m1.hi).mv
 have eo:fdB l y1=(fun a=>(fun aa=>(fun t=>(fun s=>(sFdD a.1 aa.1 (refD t.1.1 t.1.2) s.1,s.2)) (dirsZ1 l t.2)) (typZ l (needZ l [58] aa.2))) (if sgZ l [40] a.2=true then insT l [41] (upZ a.2) else ([],a.2))) (nameZ l y1):=rfl
 generalize nameZ l y1=A1 at *
 have k4:=zAa l A1.2 m2.hi [40]
 have hat2:=m2.hi
 rcases hd:sgZ l [40] A1.2 with _ | _
 rw [hd] at k4
 have k6:=zAJ l A1.2 m2.hi hl [58]
 have m3:=(zAA hE [58] m2.hi).mv
 have k7:=zGZ l hE hl (needZ l [58] A1.2) m3.hi
 have m4:=(zEn hE m3.hi).mv
 generalize hT1:typZ l (needZ l [58] A1.2)=T1 at *
 have k8:=zAg l hE hl hS T1.2 m4.hi
 let vd:=sFdD A1.1 [] (refD T1.1.1 T1.1.2) (dirsZ1 l T1.2).1
 have eo2:fdB l y1=(vd,(dirsZ1 l T1.2).2):=by
  rw [eo];dsimp only;rw [if_neg (by rw [hd];decide),hT1]
 rotate_left 1
 rw [hd] at k4
 have hup:=(zAZ hE m2.hi hd).mv
 have k5:=zKa l hE hl hS [41] (upZ A1.2) hup.hi
 have m3:=zG8 hE [41] hup.hi
 generalize hI1:insT l [41] (upZ A1.2)=I1 at *
 have k6:=zAJ l I1.2 m3.hi hl [58]
 have m4:=(zAA hE [58] m3.hi).mv
 have k7:=zGZ l hE hl (needZ l [58] I1.2) m4.hi
 have m5:=(zEn hE m4.hi).mv
 generalize hT1:typZ l (needZ l [58] I1.2)=T1 at *
 have k8:=zAg l hE hl hS T1.2 m5.hi
 let vd:=sFdD A1.1 I1.1 (refD T1.1.1 T1.1.2) (dirsZ1 l T1.2).1
 have eo2:fdB l y1=(vd,(dirsZ1 l T1.2).2):=by
  rw [eo];dsimp only;rw [if_pos hd,hI1,hT1]
 rotate_left 1
 all_goals
  rw [eo2] at hR hpg
  have hhi:=hpg.mv.hi
  have hpu:=hpg.up
  clear eo2 hpg hgo hst
  rcases hcs with ha | ⟨ha,hN⟩
  have q0:=zDM ha
  have q1:=zCG ha
  rotate_left 1
  have q0:=zA9 ha
  rw [hN] at h1
  rotate_left 1
  all_goals
   repeat' (first
|apply s_m (zj l) (zN l) rfl
 . conv=>lhs;whnf
 . conv=>lhs;whnf
 . rfl
 . conv=>lhs;whnf;arg 1;whnf
 . first | exact z6 _ _ | exact zBh _ _
 . first | exact h1 | exact h3 | exact k3 | exact k4 | exact k5 | exact k6 | exact k7 | exact k8
 . exact fun _=>rfl
 . exact fun _=>rfl
|apply zl (zj l) (zN l) rfl
 . conv=>lhs;whnf
 . conv=>lhs;whnf
 . first | rfl | assumption
 . conv=>lhs;whnf
 . rfl
 . conv=>lhs;whnf;arg 1;whnf
 . first | exact z6 _ _ | exact zBh _ _
 . first | exact h1 | exact h3 | exact k3 | exact k4 | exact k5 | exact k6 | exact k7 | exact k8
 . exact fun _=>rfl
 . exact fun _=>rfl
|apply zW rfl
 . conv=>lhs;whnf
 . conv=>lhs;whnf
 . first | rfl | assumption
|apply zAD (VFr vd) rfl rfl
 . conv=>lhs;whnf;arg 2;whnf
 . repeat' (first | exact VLe.refl _ | exact VLe.nil _ | exact VLe.lit _ _ | exact VLe.own _ _ _ | apply VLe.agg | apply VLeL.cons | exact VLeL.nil)
|apply zBW [vd] rfl rfl
 . conv=>lhs;whnf
 . first | exact zIZ | (conv=>lhs;whnf;arg 1;whnf)
 . rfl
 . rfl
 . repeat' (first | exact trivial | apply And.intro | rfl)
|apply zz rfl rfl rfl
 . conv=>lhs;whnf
 . first | rfl | assumption
 . conv=>lhs;whnf
 . first | exact bT1 ‹_› | exact bT2 ‹_› | rfl
|apply zv rfl rfl rfl
 . conv=>lhs;whnf
 . first | rfl | assumption
 . conv=>lhs;whnf
 . first | exact bF1 ‹_› | exact bF2 ‹_› | rfl
|refine zA ?_
|refine zB ?_
|refine zF ?_
|refine zZ ?_
|apply aw_1
 conv=>whnf
 refine ⟨?_,trivial⟩
|apply zX rfl rfl
 . conv=>lhs;whnf
 . conv=>lhs;whnf
 . first | exact bT1 ‹_› | exact bT2 ‹_›
|apply s_1
 conv=>whnf;arg 1;arg 4;arg 3;whnf
 refine ⟨?_,?_⟩
|apply zI rfl rfl rfl
 . conv=>lhs;whnf
 . conv=>lhs;whnf;arg 1;whnf
 . conv=>lhs;whnf;arg 1;whnf
 . exact ⟨by kernel_rfl,by kernel_rfl⟩
 . rfl
|apply zBK rfl rfl
 . conv=>lhs;whnf
 . first | exact zIZ | (conv=>lhs;whnf;arg 1;whnf)
 . first | exact fun _=>rfl | (intro _;kernel_rfl)
 . conv=>lhs;whnf
 . conv=>lhs;whnf;arg 1;whnf
 . conv=>lhs;whnf
|apply zC rfl
 . conv=>lhs;whnf
 . conv=>lhs;whnf
 . first | rfl | assumption
 . conv=>lhs;whnf;arg 2;whnf
|exact trivial)
   all_goals first
    |exact zU (by omega)
    |(refine ⟨by simp,?_,?_⟩<;>simp only [List.length_cons,List.length_nil,maxLen]<;>omega)
    |skip
   refine zJ (Nat.lt_succ_self j) ⟨_,_,hR,hhi,by have:=hj g0;omega,fun h=>by have:=hpu h;have:=hj g0;omega,by rw [List.length_append];simp only [List.length_cons,List.length_nil];omega,Sub.live ⟨rfl,rfl,trivial⟩ ⟨rfl,?_,trivial⟩⟩
   rw [List.length_append];rfl
end
noncomputable def HmbsF (l:List Tok) (y:RS) (acc:List D):Vst 37:=
 stS 37 [(0,.bx (pn 0) 0),(3,.own 3 79 acc)] [(pn 0,boxF l y),(3,.tok 79 acc.length)]
section
variable (l:List Tok) (hE:Ed l) (hl:l.length<=100000) (hS : ∀ i,i<l.length->(l.getD i ⟨5,[],0⟩).s.length<=100000)
include hE hl hS
theorem mbsF_acb (x:RS) (hx:x.at'<l.length):ACB EN5 Tryz.prog 60 [.bx (pn 0) 0] [boxF l x] (.sl 79 (mbsT l x).1) [boxF l (mbsT l x).2]:=by
 have hRd:mbsT l x=manyZ l (fun n x=>mbB l (limZ l n 64 x)) [125] (l.length+1-x.at') [] x:=rfl
 generalize hR:mbsT l x=R at hRd |-
 refine zb (fn:=Tryz.f60) 37 Tryz.func60 rfl rfl ?_
 intro pas w0 w he hp
 repeat' (first
|refine zA ?_
|refine zB ?_
|refine zF ?_
|apply aw_1
 conv=>whnf
 refine ⟨?_,trivial⟩
|apply s_1
 conv=>whnf;arg 1;arg 4;arg 3;whnf
 refine ⟨?_,?_⟩
|exact trivial)
 refine zg (Sub.own (t:=3) (e:=79) rfl rfl) ?_
 refine zn (fun j st => ∃ y acc,manyZ l (fun n x=>mbB l (limZ l n 64 x)) [125] j acc y=R/\y.at'<l.length/\0<j/\(y.er=0->l.length-y.at'<j)/\acc.length+j<=l.length+1/\Sub ⟨Tryz.prog,pas,w0,w,EN5,he,hp,fun _ _ _=>False,[]⟩ st (HmbsF l y acc)) (l.length+1-x.at') ⟨x,[],hRd.symm,hx,by omega,fun _=>by omega,by simp only [List.length_nil];omega,?_⟩ ?_
 . exact Sub.live ⟨rfl,rfl,trivial⟩ ⟨rfl,rfl,trivial⟩
 clear hRd hR
 rintro j st ⟨y,acc,hR,hy,hj0,hj,hv,hs2⟩
 refine zg hs2 ?_
 clear hs2
 obtain ⟨j,rfl⟩ : ∃ q,j=q+1:=⟨j-1,by omega⟩
 have h1:=zAa l y hy [125]
 have h2:=zAJ l y hy hl [125]
 by_cases g0:y.er=0
 rotate_left 1
 . have f0:(y.er==0)=false:=by simpa using g0
   have g1:((y.er==0)==true)=false:=by rw [f0];rfl
   rw [zEB (fun h=>g0 h.1)] at hR
   subst hR
   repeat' (first
|apply s_m (zj l) (zN l) rfl
 . conv=>lhs;whnf
 . conv=>lhs;whnf
 . rfl
 . conv=>lhs;whnf;arg 1;whnf
 . first | exact z6 _ _
 . first | exact h1 | exact h2
 . exact fun _=>rfl
 . exact fun _=>rfl
|apply zW rfl
 . conv=>lhs;whnf
 . conv=>lhs;whnf
 . first | rfl | assumption
|apply zDa rfl
 . conv=>lhs;whnf
 . rfl
 . rfl
|refine zA ?_
|refine zB ?_
|refine zF ?_
|apply aw_1
 conv=>whnf
 refine ⟨?_,trivial⟩
|apply zT rfl rfl
 . conv=>lhs;whnf
 . conv=>lhs;whnf
 . first | exact bF1 ‹_› | exact bF2 ‹_›
|apply s_1
 conv=>whnf;arg 1;arg 4;arg 3;whnf
 refine ⟨?_,?_⟩
|refine zO ?_
|refine zL rfl ?_
|refine zM ?_
|refine zx ⟨?_,?_⟩
|refine ⟨_,by conv=>lhs;whnf;arg 2;whnf,?_⟩;conv=>rhs;whnf
|exact trivial)
   all_goals first
    |exact ⟨rfl,trivial⟩
    |rfl
    |skip
 have f0:(y.er==0)=true:=by rw [g0];rfl
 have g1:((y.er==0)==true)=true:=by rw [f0];rfl
 by_cases hst:acc.length≠0/\sgZ l [125] y=true
 . have q0:=zA9 hst.1
   have gs:=hst.2
   have f2:(!sgZ l [125] y)=false:=by rw [gs];rfl
   rw [gs] at f2 h1
   rw [zEB (fun h=>by rcases h.2 with h5 | h5;exact hst.1 h5;rw [gs] at h5;cases h5)] at hR
   subst hR
   repeat' (first
|apply s_m (zj l) (zN l) rfl
 . conv=>lhs;whnf
 . conv=>lhs;whnf
 . rfl
 . conv=>lhs;whnf;arg 1;whnf
 . first | exact z6 _ _
 . first | exact h1 | exact h2
 . exact fun _=>rfl
 . exact fun _=>rfl
|apply zl (zj l) (zN l) rfl
 . conv=>lhs;whnf
 . conv=>lhs;whnf
 . first | rfl | assumption
 . conv=>lhs;whnf
 . rfl
 . conv=>lhs;whnf;arg 1;whnf
 . first | exact z6 _ _
 . first | exact h1 | exact h2
 . exact fun _=>rfl
 . exact fun _=>rfl
|apply zv rfl rfl rfl
 . conv=>lhs;whnf
 . first | rfl | assumption
 . conv=>lhs;whnf
 . first | exact bF1 ‹_› | exact bF2 ‹_› | rfl
|apply zD
 . conv=>lhs;whnf
 . assumption
|refine zA ?_
|refine zB ?_
|refine zF ?_
|apply aw_1
 conv=>whnf
 refine ⟨?_,trivial⟩
|apply zX rfl rfl
 . conv=>lhs;whnf
 . conv=>lhs;whnf
 . first | exact bT1 ‹_› | exact bT2 ‹_›
|apply s_1
 conv=>whnf;arg 1;arg 4;arg 3;whnf
 refine ⟨?_,?_⟩
|apply zC rfl
 . conv=>lhs;whnf
 . conv=>lhs;whnf
 . first | rfl | assumption
 . conv=>lhs;whnf;arg 2;whnf
|refine zO ?_
|refine zL rfl ?_
|refine zM ?_
|refine zx ⟨?_,?_⟩
|refine ⟨_,by conv=>lhs;whnf;arg 2;whnf,?_⟩;conv=>rhs;whnf
|exact trivial)
   all_goals first
    |exact ⟨rfl,trivial⟩
    |rfl
    |skip
 have hgo:acc.length=0\/sgZ l [125] y=false:=by
  cases h:sgZ l [125] y
  . exact .inr rfl
  . exact .inl (by by_cases h0:acc.length=0;exact h0;exact (hst ⟨h0,h⟩).elim)
 rw [mz_go ⟨g0,hgo⟩] at hR
 try dsimp only at hR
 have h3:=zDw l y hy hl acc.length 64
 have m1:=zAl (l:=l) hE acc.length 64 hy
 have hpg:=mbB_pg hE m1.hi
 have hcs:acc.length=0\/(acc.length≠0/\sgZ l [125] y=false):=by
  by_cases ha:acc.length=0
  . exact .inl ha
  . exact .inr ⟨ha,hgo.resolve_left ha⟩
 have hmo:=m1.lo
 have hme:=m1.er
 generalize limZ l acc.length 64 y=y1 at *
 have k3:=zAN l y1 m1.hi hl
 have m2:=(zy hE m1.hi).mv
 have eo:mbB l y1=(fun a=>(fun s=>(sMbD a.1 s.1,s.2)) (dirsZ1 l a.2)) (nameZ l y1):=rfl
 generalize nameZ l y1=A1 at *
 have k8:=zAg l hE hl hS A1.2 m2.hi
 let vd:=sMbD A1.1 (dirsZ1 l A1.2).1
 have eo2:mbB l y1=(vd,(dirsZ1 l A1.2).2):=eo
 all_goals
  rw [eo2] at hR hpg
  have hhi:=hpg.mv.hi
  have hpu:=hpg.up
  clear eo2 hpg hgo hst
  rcases hcs with ha | ⟨ha,hN⟩
  have q0:=zDM ha
  have q1:=zCG ha
  rotate_left 1
  have q0:=zA9 ha
  rw [hN] at h1
  rotate_left 1
  all_goals
   repeat' (first
|apply s_m (zj l) (zN l) rfl
 . conv=>lhs;whnf
 . conv=>lhs;whnf
 . rfl
 . conv=>lhs;whnf;arg 1;whnf
 . first | exact z6 _ _ | exact zBh _ _
 . first | exact h1 | exact h3 | exact k3 | exact k8
 . exact fun _=>rfl
 . exact fun _=>rfl
|apply zl (zj l) (zN l) rfl
 . conv=>lhs;whnf
 . conv=>lhs;whnf
 . first | rfl | assumption
 . conv=>lhs;whnf
 . rfl
 . conv=>lhs;whnf;arg 1;whnf
 . first | exact z6 _ _ | exact zBh _ _
 . first | exact h1 | exact h3 | exact k3 | exact k8
 . exact fun _=>rfl
 . exact fun _=>rfl
|apply zW rfl
 . conv=>lhs;whnf
 . conv=>lhs;whnf
 . first | rfl | assumption
|apply zAD (VMr vd) rfl rfl
 . conv=>lhs;whnf;arg 2;whnf
 . repeat' (first | exact VLe.refl _ | exact VLe.nil _ | exact VLe.lit _ _ | exact VLe.own _ _ _ | apply VLe.agg | apply VLeL.cons | exact VLeL.nil)
|apply zBW [vd] rfl rfl
 . conv=>lhs;whnf
 . first | exact zCm | (conv=>lhs;whnf;arg 1;whnf)
 . rfl
 . rfl
 . repeat' (first | exact trivial | apply And.intro | rfl)
|apply zz rfl rfl rfl
 . conv=>lhs;whnf
 . first | rfl | assumption
 . conv=>lhs;whnf
 . first | exact bT1 ‹_› | exact bT2 ‹_› | rfl
|apply zv rfl rfl rfl
 . conv=>lhs;whnf
 . first | rfl | assumption
 . conv=>lhs;whnf
 . first | exact bF1 ‹_› | exact bF2 ‹_› | rfl
|refine zA ?_
|refine zB ?_
|refine zF ?_
|refine zZ ?_
|apply aw_1
 conv=>whnf
 refine ⟨?_,trivial⟩
|apply zX rfl rfl
 . conv=>lhs;whnf
 . conv=>lhs;whnf
 . first | exact bT1 ‹_› | exact bT2 ‹_›
|apply s_1
 conv=>whnf;arg 1;arg 4;arg 3;whnf
 refine ⟨?_,?_⟩
|apply zI rfl rfl rfl
 . conv=>lhs;whnf
 . conv=>lhs;whnf;arg 1;whnf
 . conv=>lhs;whnf;arg 1;whnf
 . exact ⟨by kernel_rfl,by kernel_rfl⟩
 . rfl
|apply zBK rfl rfl
 . conv=>lhs;whnf
 . first | exact zCm | (conv=>lhs;whnf;arg 1;whnf)
 . first | exact fun _=>rfl | (intro _;kernel_rfl)
 . conv=>lhs;whnf
 . conv=>lhs;whnf;arg 1;whnf
 . conv=>lhs;whnf
|apply zC rfl
 . conv=>lhs;whnf
 . conv=>lhs;whnf
 . first | rfl | assumption
 . conv=>lhs;whnf;arg 2;whnf
|exact trivial)
   all_goals first
    |exact zU (by omega)
    |(refine ⟨by simp,?_,?_⟩<;>simp only [List.length_cons,List.length_nil,maxLen]<;>omega)
    |skip
   refine zJ (Nat.lt_succ_self j) ⟨_,_,hR,hhi,by have:=hj g0;omega,fun h=>by have:=hpu h;have:=hj g0;omega,by rw [List.length_append];simp only [List.length_cons,List.length_nil];omega,Sub.live ⟨rfl,rfl,trivial⟩ ⟨rfl,?_,trivial⟩⟩
   rw [List.length_append];rfl
end
end
section
open Go.RowKit
set_option linter.unusedSectionVars false
attribute [local irreducible] wpList Calls Code.wp AW AWo OpOk seqK zq zu loopK endK AC zf Yld Sub
attribute [local irreducible] ACB ACX ACE absLexG YldG absLexU YldU absLexH
section
variable {l:List Tok} {s:List UInt8} {j:Nat} {acc:List D} {x:RS}
theorem nz_end (h : ¬ x.er=0):namesLT l s (j+1) acc x=([],x):=by
 conv=>lhs;unfold namesLT
 rw [if_neg h]
theorem nz_last (h:x.er=0) (h2:sgZ l s (nameZ l (limZ l acc.length 64 x)).2=false):namesLT l s (j+1) acc x=(acc++[strD (nameZ l (limZ l acc.length 64 x)).1],(nameZ l (limZ l acc.length 64 x)).2):=by
 conv=>lhs;unfold namesLT
 rw [if_pos h,if_neg (by rw [h2];decide)]
theorem nz_go (h:x.er=0) (h2:sgZ l s (nameZ l (limZ l acc.length 64 x)).2=true):namesLT l s (j+1) acc x=namesLT l s j (acc++[strD (nameZ l (limZ l acc.length 64 x)).1]) (upZ (nameZ l (limZ l acc.length 64 x)).2):=by
 conv=>lhs;unfold namesLT
 rw [if_pos h,if_pos h2]
end
noncomputable def HNm (l:List Tok) (e:List UInt8) (y:RS) (acc:List D):Vst 32:=
 stS 32 [(0,.bx (pn 0) 0),(1,.c (.string (bs e))),(5,.own 5 9 acc)] [(pn 0,boxF l y),(5,.tok 9 acc.length)]
section
variable (l:List Tok) (hE:Ed l) (hl:l.length<=100000) (hS : ∀ i,i<l.length->(l.getD i ⟨5,[],0⟩).s.length<=100000)
include hE hl hS
theorem zF9 (e:List UInt8) (x:RS) (hx:x.at'<l.length):ACB EN5 Tryz.prog 56 [.bx (pn 0) 0,.c (.string (bs e))] [boxF l x] (.sl 9 (namesT l e x).1) [boxF l (namesT l e x).2]:=by
 have hRd:namesT l e x=namesLT l e (l.length+1-x.at') [] x:=rfl
 generalize hR:namesT l e x=R at hRd |-
 refine zb (fn:=Tryz.f56) 32 Tryz.func56 rfl rfl ?_
 intro pas w0 w he hp
 repeat' (first
|refine zA ?_
|refine zB ?_
|refine zF ?_
|apply aw_1
 conv=>whnf
 refine ⟨?_,trivial⟩
|apply s_1
 conv=>whnf;arg 1;arg 4;arg 3;whnf
 refine ⟨?_,?_⟩
|exact trivial)
 refine zg (Sub.own (t:=5) (e:=9) rfl rfl) ?_
 refine zn (fun j st => ∃ y acc,namesLT l e j acc y=R/\y.at'<l.length/\0<j/\(y.er=0->l.length-y.at'<j)/\acc.length+j<=l.length+1/\Sub ⟨Tryz.prog,pas,w0,w,EN5,he,hp,fun _ _ _=>False,[]⟩ st (HNm l e y acc)) (l.length+1-x.at') ⟨x,[],hRd.symm,hx,by omega,fun _=>by omega,by simp only [List.length_nil];omega,?_⟩ ?_
 . exact Sub.live ⟨rfl,rfl,rfl,trivial⟩ ⟨rfl,rfl,trivial⟩
 clear hRd hR
 rintro j st ⟨y,acc,hR,hy,hj0,hj,hv,hs2⟩
 refine zg hs2 ?_
 clear hs2
 obtain ⟨j,rfl⟩ : ∃ q,j=q+1:=⟨j-1,by omega⟩
 by_cases g0:y.er=0
 rotate_left 1
 . have f0:(y.er==0)=false:=by simpa using g0
   rw [nz_end g0] at hR
   subst hR
   repeat' (first
|apply zAD ((V.sl 9 [])) rfl rfl
 . conv=>lhs;whnf;arg 2;whnf
 . repeat' (first | exact VLe.refl _ | exact VLe.nil _ | exact VLe.lit _ _ | exact VLe.own _ _ _ | apply VLe.agg | apply VLeL.cons | exact VLeL.nil)
|apply zD
 . conv=>lhs;whnf
 . assumption
|refine zA ?_
|refine zB ?_
|refine zF ?_
|apply aw_1
 conv=>whnf
 refine ⟨?_,trivial⟩
|apply s_1
 conv=>whnf;arg 1;arg 4;arg 3;whnf
 refine ⟨?_,?_⟩
|refine zO ?_
|refine zL rfl ?_
|refine zM ?_
|refine zx ⟨?_,?_⟩
|refine ⟨_,by conv=>lhs;whnf;arg 2;whnf,?_⟩;conv=>rhs;whnf
|exact trivial)
   all_goals first
    |exact ⟨rfl,trivial⟩
    |rfl
    |skip
 have f0:(y.er==0)=true:=by rw [g0];rfl
 have h3:=zDw l y hy hl acc.length 64
 have m1:=zAl (l:=l) hE acc.length 64 hy
 have k3:=zAN l (limZ l acc.length 64 y) m1.hi hl
 have m2:=zy hE m1.hi
 have k4:=zAa l (nameZ l (limZ l acc.length 64 y)).2 m2.mv.hi e
 have hlo:=m1.lo
 have hup:=m2.up
 have hhi:=m2.mv.hi
 cases hs:sgZ l e (nameZ l (limZ l acc.length 64 y)).2 with
 |false =>
  rw [nz_last g0 hs] at hR
  rw [hs] at k4
  subst hR
  generalize limZ l acc.length 64 y=y1 at *
  generalize nameZ l y1=A1 at *
  repeat' (first
|apply s_m (zj l) (zN l) rfl
 . conv=>lhs;whnf
 . conv=>lhs;whnf
 . rfl
 . conv=>lhs;whnf;arg 1;whnf
 . first | exact z6 _ _
 . first | exact h3 | exact k3 | exact k4
 . exact fun _=>rfl
 . exact fun _=>rfl
|apply zBW [strD A1.1] rfl rfl
 . conv=>lhs;whnf
 . first | exact zBB | (conv=>lhs;whnf;arg 1;whnf)
 . rfl
 . rfl
 . repeat' (first | exact trivial | apply And.intro | rfl)
|apply zG
 . conv=>lhs;whnf
 . assumption
|refine zA ?_
|refine zB ?_
|refine zF ?_
|apply aw_1
 conv=>whnf
 refine ⟨?_,trivial⟩
|apply s_1
 conv=>whnf;arg 1;arg 4;arg 3;whnf
 refine ⟨?_,?_⟩
|apply zBK rfl rfl
 . conv=>lhs;whnf
 . first | exact zBB | (conv=>lhs;whnf;arg 1;whnf)
 . first | exact fun _=>rfl | (intro _;kernel_rfl)
 . conv=>lhs;whnf
 . conv=>lhs;whnf;arg 1;whnf
 . conv=>lhs;whnf
|refine zQ ?_
|refine zV ?_
|refine zw ?_
|refine zx ⟨?_,?_⟩
|refine ⟨_,by conv=>lhs;whnf;arg 2;whnf,?_⟩;conv=>rhs;whnf
|exact trivial)
  all_goals first
   |exact zU (by omega)
   |(refine ⟨by simp,?_,?_⟩<;>simp only [List.length_cons,List.length_nil,maxLen]<;>omega)
   |exact ⟨rfl,trivial⟩
   |rfl
   |skip
 |true =>
  rw [nz_go g0 hs] at hR
  rw [hs] at k4
  have hu:=zAZ hE m2.mv.hi hs
  have huh:=hu.mv.hi
  have her:(nameZ l (limZ l acc.length 64 y)).2.er=0:=(sg_k hs).2.1
  generalize limZ l acc.length 64 y=y1 at *
  generalize nameZ l y1=A1 at *
  repeat' (first
|apply s_m (zj l) (zN l) rfl
 . conv=>lhs;whnf
 . conv=>lhs;whnf
 . rfl
 . conv=>lhs;whnf;arg 1;whnf
 . first | exact z6 _ _ | exact zBh _ _
 . first | exact h3 | exact k3 | exact k4
 . exact fun _=>rfl
 . exact fun _=>rfl
|apply zBW [strD A1.1] rfl rfl
 . conv=>lhs;whnf
 . first | exact zBB | (conv=>lhs;whnf;arg 1;whnf)
 . rfl
 . rfl
 . repeat' (first | exact trivial | apply And.intro | rfl)
|apply zG
 . conv=>lhs;whnf
 . assumption
|refine zA ?_
|refine zB ?_
|refine zF ?_
|refine zZ ?_
|apply aw_1
 conv=>whnf
 refine ⟨?_,trivial⟩
|apply s_1
 conv=>whnf;arg 1;arg 4;arg 3;whnf
 refine ⟨?_,?_⟩
|apply zI rfl rfl rfl
 . conv=>lhs;whnf
 . conv=>lhs;whnf;arg 1;whnf
 . conv=>lhs;whnf;arg 1;whnf
 . exact ⟨by kernel_rfl,by kernel_rfl⟩
 . rfl
|apply zBK rfl rfl
 . conv=>lhs;whnf
 . first | exact zBB | (conv=>lhs;whnf;arg 1;whnf)
 . first | exact fun _=>rfl | (intro _;kernel_rfl)
 . conv=>lhs;whnf
 . conv=>lhs;whnf;arg 1;whnf
 . conv=>lhs;whnf
|exact trivial)
  all_goals first
   |exact zU (by omega)
   |(refine ⟨by simp,?_,?_⟩<;>simp only [List.length_cons,List.length_nil,maxLen]<;>omega)
   |skip
  refine zJ (Nat.lt_succ_self j) ⟨_,_,hR,huh,by have:=hj g0;have:=hup her;omega,fun h=>by have:=hup her;have:=hj g0;show l.length-(A1.2.at'+1)<j;omega,by rw [List.length_append];simp only [List.length_cons,List.length_nil];omega,Sub.live ⟨rfl,rfl,rfl,trivial⟩ ⟨rfl,?_,trivial⟩⟩
  rw [List.length_append];rfl
end
end
end Go.Proofs.YthppafnlnnpciaaGreatDoor
