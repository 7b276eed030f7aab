import Derived.Test.YthppafnlnnpciaaGreatDoorV34
import Derived.Test.YthppafnlnnpciaaGreatDoorV36
set_option maxRecDepth 100000
set_option linter.unusedVariables false
set_option linter.unusedSimpArgs false
namespace Go.Proofs.YthppafnlnnpciaaGreatDoor
section
def SDp:Nat->List D->Prop
 |0,l=>l=[]
 |f+1,l => ∀ i,i<l.length->SDp f ((gD l i).f 6).l
structure QuePs (f:Nat) (q:D):Prop where
 right:QueF q
 wide:wideD q
 ops : ∀ i,i<(q.f 0).l.length->SDp f ((gD (q.f 0).l i).f 3).l
 frags : ∀ i,i<(q.f 1).l.length->SDp f ((gD (q.f 1).l i).f 2).l
end
section
open Go.RowKit
theorem zCD {k:Nat} {d:D} (h:Fits Tryz.prog k 9 d) : ∃ s,d = .str s:=by
 cases k with
 |zero=>exact h.elim
 |succ k=>unfold Fits at h;rw [Tryz.underlying9] at h;exact h
theorem zGQ {k:Nat} {d:D} (h:Fits Tryz.prog k 3 d) : ∃ n,d = .int n:=by
 cases k with
 |zero=>exact h.elim
 |succ k=>unfold Fits at h;rw [Tryz.underlying3] at h;exact h
theorem fits_b {k:Nat} {d:D} (h:Fits Tryz.prog k 4 d) : ∃ n,d = .bool n:=by
 cases k with
 |zero=>exact h.elim
 |succ k=>unfold Fits at h;rw [Tryz.underlying4] at h;exact h
theorem zA8 {P:Program} {t e:TypeId} (hu:P.underlying t=some (.slice e)) {k:Nat} {d:D} (h:Fits P k t d) : ∃ j l,d = .list l /\ ∀ i,i<l.length->Fits P j e (gD l i):=by
 cases k with
 |zero=>exact h.elim
 |succ k=>unfold Fits at h;rw [hu] at h;exact ⟨k,h⟩
theorem zCE {P:Program} {t:TypeId} {fs:Array Field} (hu:P.underlying t=some (.struct fs)) {k:Nat} {d:D} (h:Fits P k t d) : ∃ j l,d = .obj l/\l.length=fs.size /\ ∀ i f,fs[i]? = some f->Fits P j f.type (gD l i):=by
 cases k with
 |zero=>exact h.elim
 |succ k=>unfold Fits at h;rw [hu] at h;exact ⟨k,h⟩
theorem len2 {l:List D} (h:l.length=2):l=[gD l 0,gD l 1]:=by
 match l,h with
 |[a,b],_=>rfl
theorem len4 {l:List D} (h:l.length=4):l=[gD l 0,gD l 1,gD l 2,gD l 3]:=by
 match l,h with
 |[a,b,c,d],_=>rfl
theorem len5 {l:List D} (h:l.length=5):l=[gD l 0,gD l 1,gD l 2,gD l 3,gD l 4]:=by
 match l,h with
 |[a,b,c,d,e],_=>rfl
theorem len7 {l:List D} (h:l.length=7):l=[gD l 0,gD l 1,gD l 2,gD l 3,gD l 4,gD l 5,gD l 6]:=by
 match l,h with
 |[a,b,c,d,e,f,g],_=>rfl
theorem zCa (s:ByteArray):strD (tx s) = .str s:=by unfold strD tx;simp
theorem zCb {c:D->D} {l:List D} (h : ∀ i,i<l.length->c (gD l i)=gD l i):rgD c l=l:=by
 unfold rgD
 apply List.ext_getElem (by simp)
 intro i h1 h2
 have:=h i h2
 rw [zBp h2] at this
 simp [zBp h2,this]
theorem zDw {c:D->D} {l:List D} (h : ∀ i,i<l.length->c (gD l i)=gD l i):l.map c=l:=by
 have:=zCb h
 unfold rgD at this
 have e:l.map c=(List.range l.length).map fun i=>c (gD l i):=by
  apply List.ext_getElem (by simp)
  intro i h1 h2
  simp [zBp (l:=l) (i:=i) (by simpa using h1)]
 rw [e,this]
theorem cnV_id : ∀ (k:Nat) {j:Nat} {d:D},Fits Tryz.prog j 53 d->cnV k d=d
 |0,_,_,_=>rfl
 |k+1,j,d,h=>by
  obtain ⟨j,l,rfl,hl,hf⟩:=zCE Tryz.underlying53 h
  have hl:l.length=5:=hl
  obtain ⟨n0,e0⟩:=zGQ (hf 0 _ rfl)
  obtain ⟨n1,e1⟩:=zGQ (hf 1 _ rfl)
  obtain ⟨s2,e2⟩:=zCD (hf 2 _ rfl)
  obtain ⟨j3,l3,e3,h3⟩:=zA8 Tryz.underlying51 (hf 3 _ rfl)
  obtain ⟨j4,l4,e4,h4⟩:=zA8 Tryz.underlying39 (hf 4 _ rfl)
  rw [len5 hl,e0,e1,e2,e3,e4]
  show valD n0 n1 (tx s2) ((List.range l3.length).map fun i=>cnV k (gD l3 i)) (l4.map fun x=>x.s.data.toList)=_
  have a:((List.range l3.length).map fun i=>cnV k (gD l3 i))=l3:=zCb fun i hi=>cnV_id k (h3 i hi)
  have b:(l4.map fun x=>x.s.data.toList).map strD=l4:=by
   rw [List.map_map]
   refine zDw fun i hi => ?_
   obtain ⟨s,e⟩:=zCD (h4 i hi)
   rw [e]
   exact zCa s
  unfold valD
  rw [a,b,zCa]
theorem cL_id {j:Nat} {d:D} (h:Fits Tryz.prog j 53 d):cL d=d:=cnV_id _ h
theorem cA_id {j:Nat} {d:D} (h:Fits Tryz.prog j 111 d):cA d=d:=by
 obtain ⟨j,l,rfl,hl,hf⟩:=zCE Tryz.underlying111 h
 have hl:l.length=2:=hl
 obtain ⟨s0,e0⟩:=zCD (hf 0 _ rfl)
 have h1:Fits Tryz.prog j 53 (gD l 1):=hf 1 _ rfl
 rw [len2 hl,e0]
 show argD (tx s0) (cL (gD l 1))=_
 rw [cL_id h1]
 unfold argD
 rw [zCa]
theorem zHW {j:Nat} {d:D} (h:Fits Tryz.prog j 108 d):cDir d=d:=by
 obtain ⟨j,l,rfl,hl,hf⟩:=zCE Tryz.underlying108 h
 have hl:l.length=2:=hl
 obtain ⟨s0,e0⟩:=zCD (hf 0 _ rfl)
 obtain ⟨j1,l1,e1,h1⟩:=zA8 Tryz.underlying106 (hf 1 _ rfl)
 rw [len2 hl,e0,e1]
 show dirD (tx s0) (rgD cA l1)=_
 rw [zCb fun i hi=>cA_id (h1 i hi)]
 unfold dirD
 rw [zCa]
end
section
open Go.RowKit
set_option linter.unusedSectionVars false
theorem zEa : ∀ (k:Nat) (d:D),bulkD d<=1048576->zDN k d=(depthR k d:Int)
 |0,_,_=>rfl
 |k+1,d,h=>by
  have hd:=zIa (k+1) d
  unfold depthR at hd
  unfold zDN depthR
  rw [maxW_eq (g:=fun i=>depthR k (gD (d.f 3).l i)) fun i hi=>zEa k _ (by have:=zBq hi;have:=zb d;omega)]
  rw [wrap_id ⟨by omega,by omega⟩]
  omega
theorem litW_small {d:D} (hb:bulkD d<=1048576) (h:litW d=true):litR d=true:=by
 unfold litW zI2 at h
 have hs:=zJu (bulkD d) d
 rw [zEa _ _ hb,wrap_id ⟨by omega,by omega⟩] at h
 simp only [Bool.and_eq_true,decide_eq_true_eq] at h
 unfold litR
 rw [h.2,decide_eq_true (by omega),decide_eq_true (by omega)];rfl
theorem bk_f {d:D} {N:Nat} (h:bulkD d<=N) (j:Nat):bulkD (d.f j)<=N:=by
 have:=wD_f d j;have:=zb d;have:=zb (d.f j);omega
theorem bk_l {d:D} {N:Nat} (h:bulkD d<=N):bulkL d.l<=N:=by
 have:=zn d;have:=zb d;omega
theorem zCH {p q:D->Bool} {N:Nat} (h : ∀ x,bulkD x<=N->p x=true->q x=true) {l:List D} (hb:bulkL l<=N) (hl:l.all p=true):l.all q=true:=by
 induction l with
 |nil=>rfl
 |cons a r ih =>
  unfold bulkL at hb
  rw [List.all_cons,Bool.and_eq_true] at hl |-
  exact ⟨h a (by omega) hl.1,ih (by omega) hl.2⟩
section
variable {lit lit':D->Bool} {N:Nat} (h : ∀ v,bulkD v<=N->lit v=true->lit' v=true)
include h
theorem zF1 (v:D) (hb:bulkD v<=N) (hv:valY lit v=true):valY lit' v=true:=by
 unfold valY at *
 rw [Bool.and_eq_true] at *
 exact ⟨h v hb hv.1,hv.2⟩
theorem argY_monoB (v:D) (hb:bulkD v<=N) (hv:argY lit v=true):argY lit' v=true:=by
 unfold argY at *
 rw [Bool.and_eq_true] at *
 exact ⟨hv.1,zF1 h _ (bk_f hb 1) hv.2⟩
theorem dirY_monoB (v:D) (hb:bulkD v<=N) (hv:dirY lit v=true):dirY lit' v=true:=by
 unfold dirY argsY at *
 simp only [Bool.and_eq_true] at *
 exact ⟨hv.1,hv.2.1,zCH (argY_monoB h) (bk_l (bk_f hb 1)) hv.2.2⟩
theorem zCS {l:List D} (hb:bulkL l<=N) (hv:dirsY lit l=true):dirsY lit' l=true:=by
 unfold dirsY at *
 rw [Bool.and_eq_true] at *
 exact ⟨hv.1,zCH (dirY_monoB h) hb hv.2⟩
theorem inY_monoB (v:D) (hb:bulkD v<=N) (hv:inY lit v=true):inY lit' v=true:=by
 unfold inY at *
 simp only [Bool.and_eq_true] at *
 exact ⟨⟨⟨hv.1.1.1,zCS h (bk_l (bk_f hb 4)) hv.1.1.2⟩,zF1 h _ (bk_f hb 3) hv.1.2⟩,hv.2⟩
theorem zGO {l:List D} (hb:bulkL l<=N) (hv:insY lit l=true):insY lit' l=true:=by
 unfold insY at *
 rw [Bool.and_eq_true] at *
 exact ⟨hv.1,zCH (inY_monoB h) hb hv.2⟩
theorem fdY_monoB (v:D) (hb:bulkD v<=N) (hv:fdY lit v=true):fdY lit' v=true:=by
 unfold fdY at *
 simp only [Bool.and_eq_true] at *
 exact ⟨⟨⟨hv.1.1.1,zGO h (bk_l (bk_f hb 1)) hv.1.1.2⟩,hv.1.2⟩,zCS h (bk_l (bk_f hb 3)) hv.2⟩
theorem mbY_monoB (u:Bool) (v:D) (hb:bulkD v<=N) (hv:mbY lit u v=true):mbY lit' u v=true:=by
 unfold mbY at *
 rw [Bool.and_eq_true,Bool.and_eq_true] at *
 exact ⟨⟨hv.1.1,zCS h (bk_l (bk_f hb 1)) hv.1.2⟩,hv.2⟩
theorem defY_monoB (v:D) (hb:bulkD v<=N) (hv:defY lit v=true):defY lit' v=true:=by
 unfold defY fdsY mbsY at *
 simp only [Bool.and_eq_true] at *
 exact ⟨⟨⟨⟨⟨⟨hv.1.1.1.1.1.1,hv.1.1.1.1.1.2⟩,zCS h (bk_l (bk_f hb 3)) hv.1.1.1.1.2⟩,hv.1.1.1.2⟩,⟨hv.1.1.2.1,zCH (fdY_monoB h) (bk_l (bk_f hb 4)) hv.1.1.2.2⟩⟩,⟨hv.1.2.1,zCH (mbY_monoB h _) (bk_l (bk_f hb 5)) hv.1.2.2⟩⟩,zGO h (bk_l (bk_f hb 6)) hv.2⟩
theorem docY_monoB {l:List D} (hb:bulkL l<=N) (hv:docY lit l=true):docY lit' l=true:=by
 unfold docY at *
 rw [Bool.and_eq_true] at *
 exact ⟨hv.1,zCH (defY_monoB h) hb hv.2⟩
end
theorem docY_small {l:List D} (hb:bulkL l<=1048576) (h:docY litW l=true):docY litR l=true:=docY_monoB (fun _=>litW_small) hb h
theorem zGJ {l:List D} (h:l.length=0):l=[]:=List.eq_nil_of_length_eq_zero h
theorem null_id {j:Nat} {d:D} (h:Fits Tryz.prog j 53 d) (hy:litR d=true) (h0:(d.f 0).n=0):d=zDt:=by
 unfold litR at hy
 rw [Bool.and_eq_true] at hy
 obtain ⟨m,hm⟩ : ∃ m,bulkD d=m+1:=⟨bulkD d-1,by have:=zAl d;omega⟩
 rw [hm] at hy
 obtain ⟨hn,-⟩:=zDA hy.2
 obtain ⟨j,l,rfl,hl,hf⟩:=zCE Tryz.underlying53 h
 have hl:l.length=5:=hl
 obtain ⟨n0,e0⟩:=zGQ (hf 0 _ rfl)
 obtain ⟨n1,e1⟩:=zGQ (hf 1 _ rfl)
 obtain ⟨s2,e2⟩:=zCD (hf 2 _ rfl)
 obtain ⟨j3,l3,e3,-⟩:=zA8 Tryz.underlying51 (hf 3 _ rfl)
 obtain ⟨j4,l4,e4,-⟩:=zA8 Tryz.underlying39 (hf 4 _ rfl)
 have a1:=hn.int0;have a2:=hn.txt0;have a3:=hn.keys0;have a4:=hn.items0
 have h0':(gD l 0).n=0:=h0
 have q0:((D.obj l).f 0).n=0:=h0
 have b1:((D.obj l).f 1).n=0:=by omega
 have b2:tx ((D.obj l).f 2).s=[]:=by
  rcases a2 with h | h | h | h
  . omega
  . omega
  . omega
  . exact h
 have b3:((D.obj l).f 4).l.length=0:=by omega
 have b4:((D.obj l).f 3).l.length=0:=by omega
 have c1:(gD l 1).n=0:=b1
 have c2:tx (gD l 2).s=[]:=b2
 have c3:(gD l 4).l.length=0:=b3
 have c4:(gD l 3).l.length=0:=b4
 rw [e0] at h0';rw [e1] at c1;rw [e2] at c2;rw [e4] at c3;rw [e3] at c4
 have h0':n0=0:=h0'
 have c1:n1=0:=c1
 have c2:tx s2=[]:=c2
 have c3:l4.length=0:=c3
 have c4:l3.length=0:=c4
 rw [len5 hl,e0,e1,e2,e3,e4,h0',c1,zGJ c3,zGJ c4,<- zCa s2,c2]
 rfl
theorem cRef_id {j:Nat} {d:D} (h:Fits Tryz.prog j 48 d):refD (tx (d.f 0).s) ((d.f 1).l.map D.n)=d:=by
 obtain ⟨j1,l1,e1,hl1,hf1⟩:=zCE Tryz.underlying48 h
 subst e1
 have hl1:l1.length=2:=hl1
 obtain ⟨s1,e10⟩:=zCD (hf1 0 _ rfl)
 obtain ⟨j2,w1,e11,hw1⟩:=zA8 Tryz.underlying46 (hf1 1 _ rfl)
 rw [len2 hl1,e10,e11]
 show refD (tx s1) (w1.map D.n)=_
 have b:(w1.map D.n).map D.int=w1:=by
  rw [List.map_map]
  refine zDw fun i hi => ?_
  obtain ⟨n,e⟩:=zGQ (hw1 i hi)
  rw [e];rfl
 unfold refD
 rw [zCa,b]
theorem cIn_id {j:Nat} {d:D} (h:Fits Tryz.prog j 55 d) (hp:InP d):cIn d=d:=by
 obtain ⟨j,l,rfl,hl,hf⟩:=zCE Tryz.underlying55 h
 have hl:l.length=5:=hl
 obtain ⟨s0,e0⟩:=zCD (hf 0 _ rfl)
 have h1:Fits Tryz.prog j 48 (gD l 1):=hf 1 _ rfl
 obtain ⟨b2,e2⟩:=fits_b (hf 2 _ rfl)
 have h3:Fits Tryz.prog j 53 (gD l 3):=hf 3 _ rfl
 obtain ⟨j4,l4,e4,h4⟩:=zA8 Tryz.underlying40 (hf 4 _ rfl)
 have r1:=cRef_id h1
 have q3:(if (gD l 2).b=true then cL (gD l 3) else zDt)=gD l 3:=by
  by_cases hb:(gD l 2).b=true
  . rw [if_pos hb,cL_id h3]
  . rw [if_neg hb,null_id h3 hp.val.lit (hp.has.resolve_left hb)]
 have q4:rgD cDir l4=l4:=zCb fun i hi=>zHW (h4 i hi)
 have e:cIn (.obj l)=sInD (tx (gD l 0).s) (refD (tx ((gD l 1).f 0).s) (((gD l 1).f 1).l.map D.n)) (gD l 2).b (if (gD l 2).b=true then cL (gD l 3) else zDt) (rgD cDir (gD l 4).l):=rfl
 rw [e,r1,q3,len5 hl]
 show sInD (tx (gD l 0).s) (gD l 1) (gD l 2).b (gD l 3) (rgD cDir (gD l 4).l)=_
 rw [e0,e2,e4]
 show sInD (tx s0) (gD l 1) b2 (gD l 3) (rgD cDir l4)=_
 unfold sInD
 rw [q4,zCa]
theorem cFd_id {j:Nat} {d:D} (h:Fits Tryz.prog j 50 d) (hp:FdP d):cFd d=d:=by
 obtain ⟨j,l,rfl,hl,hf⟩:=zCE Tryz.underlying50 h
 have hl:l.length=4:=hl
 obtain ⟨s0,e0⟩:=zCD (hf 0 _ rfl)
 obtain ⟨j1,l1,e1,h1⟩:=zA8 Tryz.underlying43 (hf 1 _ rfl)
 have h2:Fits Tryz.prog j 48 (gD l 2):=hf 2 _ rfl
 obtain ⟨j3,l3,e3,h3⟩:=zA8 Tryz.underlying40 (hf 3 _ rfl)
 have r2:=cRef_id h2
 have hi:InsP (gD l 1).l:=hp.args
 rw [e1] at hi
 have hi:InsP l1:=hi
 have q1:rgD cIn l1=l1:=zCb fun i hl=>cIn_id (h1 i hl) (hi.ins i hl)
 have q3:rgD cDir l3=l3:=zCb fun i hi=>zHW (h3 i hi)
 have e:cFd (.obj l)=sFdD (tx (gD l 0).s) (rgD cIn (gD l 1).l) (refD (tx ((gD l 2).f 0).s) (((gD l 2).f 1).l.map D.n)) (rgD cDir (gD l 3).l):=rfl
 rw [e,r2,len4 hl]
 show sFdD (tx (gD l 0).s) (rgD cIn (gD l 1).l) (gD l 2) (rgD cDir (gD l 3).l)=_
 rw [e0,e1,e3]
 show sFdD (tx s0) (rgD cIn l1) (gD l 2) (rgD cDir l3)=_
 unfold sFdD
 rw [q1,q3,zCa]
theorem cMb_id {j:Nat} {d:D} (h:Fits Tryz.prog j 79 d):cMb d=d:=by
 obtain ⟨j,l,rfl,hl,hf⟩:=zCE Tryz.underlying79 h
 have hl:l.length=2:=hl
 obtain ⟨s0,e0⟩:=zCD (hf 0 _ rfl)
 obtain ⟨j1,l1,e1,h1⟩:=zA8 Tryz.underlying40 (hf 1 _ rfl)
 have q1:rgD cDir l1=l1:=zCb fun i hi=>zHW (h1 i hi)
 rw [len2 hl,e0,e1]
 show sMbD (tx s0) (rgD cDir l1)=_
 unfold sMbD
 rw [q1,zCa]
theorem cMu_id {j:Nat} {d:D} (h:Fits Tryz.prog j 79 d) (h0:(d.f 1).l.length=0):mbOf (cNm (d.f 0))=d:=by
 obtain ⟨j,l,rfl,hl,hf⟩:=zCE Tryz.underlying79 h
 have hl:l.length=2:=hl
 obtain ⟨s0,e0⟩:=zCD (hf 0 _ rfl)
 obtain ⟨j1,l1,e1,h1⟩:=zA8 Tryz.underlying40 (hf 1 _ rfl)
 have h0:(gD l 1).l.length=0:=h0
 rw [e1] at h0
 have h0:l1.length=0:=h0
 rw [len2 hl,e0,e1,zGJ h0]
 show mbOf (strD (tx s0))=_
 rw [zCa];rfl
theorem cDf_id {j:Nat} {d:D} (h:Fits Tryz.prog j 45 d) (hp:DefP d):cDf d=d:=by
 obtain ⟨j,l,rfl,hl,hf⟩:=zCE Tryz.underlying45 h
 have hl:l.length=7:=hl
 obtain ⟨n0,e0⟩:=zGQ (hf 0 _ rfl)
 obtain ⟨s1,e1⟩:=zCD (hf 1 _ rfl)
 obtain ⟨j2,l2,e2,h2⟩:=zA8 Tryz.underlying39 (hf 2 _ rfl)
 obtain ⟨j3,l3,e3,h3⟩:=zA8 Tryz.underlying40 (hf 3 _ rfl)
 obtain ⟨j4,l4,e4,h4⟩:=zA8 Tryz.underlying41 (hf 4 _ rfl)
 obtain ⟨j5,l5,e5,h5⟩:=zA8 Tryz.underlying42 (hf 5 _ rfl)
 obtain ⟨j6,l6,e6,h6⟩:=zA8 Tryz.underlying43 (hf 6 _ rfl)
 have q:D.obj l = .obj [.int n0,.str s1,.list l2,.list l3,.list l4,.list l5,.list l6]:=by rw [len7 hl,e0,e1,e2,e3,e4,e5,e6]
 rw [q] at hp |-
 have f0:(n0=1\/n0=2) ↔ 0<l4.length:=hp.f0
 have m0:(n0=3\/n0=4) ↔ 0<l5.length:=hp.m0
 have i0:n0=5 ↔ 0<l6.length:=hp.i0
 have p4 : ∀ i,i<l4.length->FdP (gD l4 i):=hp.fds
 have p5 : ∀ i,i<l5.length->MbP (n0==3) (gD l5 i):=hp.mbs
 have p6:InsP l6:=hp.ins
 have q2:l2.map cNm=l2:=zDw fun i hi=>by
  obtain ⟨s,e⟩:=zCD (h2 i hi)
  rw [e];exact zCa s
 have q3:rgD cDir l3=l3:=zCb fun i hi=>zHW (h3 i hi)
 have q4:(if n0=1\/n0=2 then rgD cFd l4 else [])=l4:=by
  by_cases hk:n0=1\/n0=2
  . rw [if_pos hk];exact zCb fun i hi=>cFd_id (h4 i hi) (p4 i hi)
  . rw [if_neg hk,zGJ (l:=l4) (by have:=mt f0.2 hk;omega)]
 have q5:(if n0=3 then (l5.map fun x=>mbOf (cNm (x.f 0))) else if n0=4 then rgD cMb l5 else [])=l5:=by
  by_cases h3':n0=3
  . rw [if_pos h3']
    exact zDw fun i hi=>cMu_id (h5 i hi) ((p5 i hi).no (by rw [h3'];rfl))
  . rw [if_neg h3']
    by_cases h4':n0=4
    . rw [if_pos h4'];exact zCb fun i hi=>cMb_id (h5 i hi)
    . rw [if_neg h4',zGJ (l:=l5) (by have:=mt m0.2 (by omega);omega)]
 have q6:(if n0=5 then rgD cIn l6 else [])=l6:=by
  by_cases hk:n0=5
  . rw [if_pos hk];exact zCb fun i hi=>cIn_id (h6 i hi) (p6.ins i hi)
  . rw [if_neg hk,zGJ (l:=l6) (by have:=mt i0.2 hk;omega)]
 show sDfD n0 (tx s1) (l2.map cNm) (rgD cDir l3) (if n0=1\/n0=2 then rgD cFd l4 else []) (if n0=3 then (l5.map fun x=>mbOf (cNm (x.f 0))) else if n0=4 then rgD cMb l5 else []) (if n0=5 then rgD cIn l6 else [])=_
 rw [q2,q3,q4,q5,q6]
 unfold sDfD
 rw [zCa]
theorem doc_id {j:Nat} {d:D} (h:Fits Tryz.prog j 25 d) (hp:docY litR (d.f 0).l=true):d=zEC (rgD cDf (d.f 0).l):=by
 obtain ⟨j,l,rfl,hl,hf⟩:=zCE Tryz.underlying25 h
 have hl:l.length=1:=hl
 obtain ⟨j0,l0,e0,h0⟩:=zA8 Tryz.underlying23 (hf 0 _ rfl)
 have e1:l=[gD l 0]:=by
  match l,hl with
  |[a],_=>rfl
 have hp:docY litR (gD l 0).l=true:=hp
 rw [e0] at hp
 obtain ⟨-,-,hd⟩:=docP (l:=l0) hp
 have q:rgD cDf l0=l0:=zCb fun i hi=>cDf_id (h0 i hi) (hd i hi)
 rw [e1,e0]
 show _=zEC (rgD cDf l0)
 rw [q];rfl
end
end Go.Proofs.YthppafnlnnpciaaGreatDoor
