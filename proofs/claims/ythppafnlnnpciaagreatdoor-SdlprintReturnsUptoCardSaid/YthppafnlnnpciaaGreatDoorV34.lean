import Derived.Test.YthppafnlnnpciaaGreatDoorV33
set_option linter.unusedVariables false
set_option linter.unusedSimpArgs false
namespace Go.Proofs.YthppafnlnnpciaaGreatDoor
section
def insK (l:List D) (g:D->KS):KS:=if l.length=0 then [] else (1,[40])::(rgK g l++[(1,[41])])
def inK (x:D):KS:=(2,tx (x.f 0).s)::(1,[58])::(refK (tx ((x.f 1).f 0).s) ((x.f 1).f 1).l++((if (x.f 2).b=true then (1,[61])::litK (x.f 3) else [])++rgK dirK (x.f 4).l))
def fdK (x:D):KS:=(2,tx (x.f 0).s)::(insK (x.f 1).l inK++(1,[58])::(refK (tx ((x.f 2).f 0).s) ((x.f 2).f 1).l++rgK dirK (x.f 3).l))
def mbK (x:D):KS:=(2,tx (x.f 0).s)::rgK dirK (x.f 1).l
def sepK (s:List UInt8):List D->KS
 |[]=>[]
 |[x]=>[(2,tx x.s)]
 |x::y::r=>(2,tx x.s)::(1,s)::sepK s (y::r)
def zBt (k:Int):List UInt8:=if k=1 then zHg else if k=2 then zFS else if k=3 then zF3 else if k=4 then enumT else zKR
def zBc (l:List D):KS:=if l.length=0 then [] else (2,zFu)::sepK [38] l
def bodyK (d:D):KS:=
 if (d.f 0).n=3 then (1,[61])::sepK [124] ((d.f 5).l.map fun x=>x.f 0)
 else blkK (if (d.f 0).n=5 then rgK inK (d.f 6).l else if (d.f 0).n=4 then rgK mbK (d.f 5).l else rgK fdK (d.f 4).l)
def zEf (d:D):KS:=(2,zBt (d.f 0).n)::(2,tx (d.f 1).s)::(zBc (d.f 2).l++(rgK dirK (d.f 3).l++bodyK d))
def sdocK (l:List D):KS:=rgK zEf l
def cIn (x:D):D:=sInD (tx (x.f 0).s) (refD (tx ((x.f 1).f 0).s) (((x.f 1).f 1).l.map D.n)) (x.f 2).b (if (x.f 2).b=true then cL (x.f 3) else zDt) (rgD cDir (x.f 4).l)
def cFd (x:D):D:=sFdD (tx (x.f 0).s) (rgD cIn (x.f 1).l) (refD (tx ((x.f 2).f 0).s) (((x.f 2).f 1).l.map D.n)) (rgD cDir (x.f 3).l)
def cMb (x:D):D:=sMbD (tx (x.f 0).s) (rgD cDir (x.f 1).l)
def cNm (x:D):D:=strD (tx x.s)
def cDf (d:D):D:=sDfD (d.f 0).n (tx (d.f 1).s) ((d.f 2).l.map cNm) (rgD cDir (d.f 3).l) (if (d.f 0).n=1\/(d.f 0).n=2 then rgD cFd (d.f 4).l else [])
 (if (d.f 0).n=3 then ((d.f 5).l.map fun x=>mbOf (cNm (x.f 0))) else if (d.f 0).n=4 then rgD cMb (d.f 5).l else []) (if (d.f 0).n=5 then rgD cIn (d.f 6).l else [])
structure EndO (r:KS):Prop where
 bang:nS r [33]
 at_:nS r [64]
 par:nS r [40]
 eq:nS r [61]
theorem endO_name (s:List UInt8) (r:KS):EndO ((2,s)::r):=⟨zAo rfl,zAo rfl,zAo rfl,zAo rfl⟩
theorem endO_sign {s:List UInt8} {r:KS} (h:s≠[33]/\s≠[64]/\s≠[40]/\s≠[61]):EndO ((1,s)::r):=
 ⟨zAo (by simp [h.1]),zAo (by simp [h.2.1]),zAo (by simp [h.2.2.1]),zAo (by simp [h.2.2.2])⟩
theorem zCq {el:PS->PR D} {g:D->KS} {c:D->D} {e:List UInt8} {most:Nat} {l:List D} (hl:l.length<=most) (h0:0<l.length) (he:e≠[33]/\e≠[64]/\e≠[40]/\e≠[61])
 (hel : ∀ i r n,i<l.length->EndO r -> ∃ n',el (pst (g (gD l i)++r) false n) = .ok (c (gD l i),pst r false n')) (hg : ∀ x,∃ s r,g x=(2,s)::r) : ∀ (m j f:Nat) (r:KS) (n:Nat),j+m=l.length->m<f ->
 ∃ n',manyF el e most f ((List.range j).map fun i=>c (gD l i)) (pst (gK (fun i=>g (gD l i)) j m++(1,e)::r) false n) = .ok (rgD c l,pst r false n')
 |_,_,0,_,_,_,hf=>by omega
 |0,j,f+1,r,n,hj,_=>by
  have e':j=l.length:=by omega
  subst e'
  unfold manyF
  rw [zFr,zFW,List.nil_append,if_pos ⟨by omega,zBI _ _ _ _⟩,zBS (by decide)]
  exact ⟨n,rfl⟩
 |m+1,j,f+1,r,n,hj,hf=>by
  have hj2:j<l.length:=by omega
  have hend:EndO (gK (fun i=>g (gD l i)) (j+1) m++(1,e)::r):=by
   cases m with
   |zero=>exact endO_sign he
   |succ m =>
    obtain ⟨s,q,hs⟩:=hg (gD l (j+1))
    rw [zB5,hs]
    exact endO_name _ _
  obtain ⟨n1,e1⟩:=hel j _ n hj2 hend
  obtain ⟨n',ih⟩:=zCq hl h0 he hel hg m (j+1) f r n1 (by omega) (by omega)
  refine ⟨n',?_⟩
  obtain ⟨s,q,hs⟩:=hg (gD l j)
  unfold manyF
  rw [zFr,zB5,List.append_assoc]
  have hn1 : ¬ (j≠0/\isS (pst (g (gD l j)++(gK (fun i=>g (gD l i)) (j+1) m++(1,e)::r)) false n) e=true):=fun h=>by
   have:=h.2
   rw [hs] at this
   have h2:(2==(1:Int)&&s==e)=true:=this
   simp at h2
  rw [if_neg hn1,if_neg (fun h=>by omega),e1,zV]
  rw [List.range_succ,List.map_append] at ih
  exact ih
theorem arg_pst {a:D} (h:ArgP a) (hw:wideD a) (r:KS) (n:Nat) : ∃ n',argQ (pst (argK a++r) false n) = .ok (cA a,pst r false n'):=by
 have e:argK a++r=(2,tx (a.f 0).s)::(1,[58])::(litK (a.f 1)++r):=rfl
 unfold argQ
 rw [e,zA5,zV,zBe,zV,zHc h.val.lit (hw.f 1) (fun _=>h.val.bare),zV]
 exact ⟨_,rfl⟩
theorem args_psy {l:List D} (hl:l.length<=16) (h : ∀ i,i<l.length->ArgP (gD l i)) (hw : ∀ i,wideD (gD l i)) {r:KS} (hr:nS r [40]) (n:Nat) : ∃ n',argsQ (pst (parK l++r) false n) = .ok (rgD cA l,pst r false n'):=by
 unfold argsQ parK
 by_cases h0:l.length=0
 . rw [if_pos h0,List.nil_append,if_neg (by rw [hr];decide)]
   rw [List.length_eq_zero_iff.1 h0]
   exact ⟨n,rfl⟩
 . have e:(1,[40])::(rgK argK l++[(1,[41])])++r=((1:Int),[(40:UInt8)])::(gK (fun i=>argK (gD l i)) 0 l.length++(1,[41])::r):=by simp [rgK]
   rw [if_neg h0,e,if_pos (zBI _ _ _ _),zBS (by decide),zDb]
   have hlen:=zDy (fun i=>argK (gD l i)) (fun i=>by simp [argK]) l.length 0
   exact zCq hl (by omega) (by decide) (fun i r n hi _=>arg_pst (h i hi) (hw i) r n) (fun x=>⟨_,_,rfl⟩) l.length 0 _ r n (by omega) (by simp only [pst,List.length_map,List.length_cons,List.length_append];omega)
theorem zIY {l:List D} (h:DirsP l) (hw : ∀ i,wideD (gD l i)) : ∀ (m j f:Nat) (r:KS) (n:Nat),j+m=l.length->m<f->nS r [64]->nS r [40] ->
 ∃ n',dirsF f ((List.range j).map fun i=>cDir (gD l i)) (pst (gK (fun i=>dirK (gD l i)) j m++r) false n) = .ok (rgD cDir l,pst r false n')
 |_,_,0,_,_,_,hf,_,_=>by omega
 |0,j,f+1,r,n,hj,_,h1,_=>by
  have e:j=l.length:=by omega
  subst e
  unfold dirsF
  rw [zFW,List.nil_append,if_neg (by rw [h1];decide)]
  exact ⟨n,rfl⟩
 |m+1,j,f+1,r,n,hj,hf,h1,h2=>by
  have hl:=h.len
  have hj2:j<l.length:=by omega
  have hd:=h.dirs j hj2
  obtain ⟨n1,e1⟩:=args_psy hd.len hd.args (fun i=>((hw j).f 1).l i) (r:=gK (fun i=>dirK (gD l i)) (j+1) m++r) (nS_gK (fun i r=>zAo (by decide)) h2) n
  obtain ⟨n',ih⟩:=zIY h hw m (j+1) f r n1 (by omega) (by omega) h1 h2
  refine ⟨n',?_⟩
  unfold dirsF
  rw [zFr,zB5,List.append_assoc]
  have e:dirK (gD l j)++(gK (fun i=>dirK (gD l i)) (j+1) m++r)=(1,[64])::(2,tx ((gD l j).f 0).s)::(parK ((gD l j).f 1).l++(gK (fun i=>dirK (gD l i)) (j+1) m++r)):=rfl
  rw [e,if_pos (zBI _ _ _ _),if_neg (by omega),zBS (by decide),zA5,zV,e1,zV]
  rw [List.range_succ,List.map_append] at ih
  exact ih
theorem zD1 {l:List D} (h:DirsP l) (hw : ∀ i,wideD (gD l i)) {r:KS} (h1:nS r [64]) (h2:nS r [40]) (n:Nat) : ∃ n',dirsQ (pst (rgK dirK l++r) false n) = .ok (rgD cDir l,pst r false n'):=by
 unfold dirsQ
 have hlen:=zDy (fun i=>dirK (gD l i)) (fun i=>by simp [dirK]) l.length 0
 exact zIY h hw l.length 0 _ r n (by omega) (by simp only [pst,List.length_map,List.length_append,rgK];omega) h1 h2
theorem in_pst {x:D} (h:InP x) (hw:wideD x) {r:KS} (hr:EndO r) (n:Nat) : ∃ n',inQ (pst (inK x++r) false n) = .ok (cIn x,pst r false n'):=by
 have e:inK x++r=(2,tx (x.f 0).s)::(1,[58])::(refK (tx ((x.f 1).f 0).s) ((x.f 1).f 1).l++((if (x.f 2).b=true then (1,[61])::litK (x.f 3) else [])++(rgK dirK (x.f 4).l++r))):=by simp [inK]
 unfold inQ
 rw [e,zA5,zV,zBe,zV]
 have hdn : ∀ t,([64]==t)=false->nS r t->nS (rgK dirK (x.f 4).l++r) t:=fun t h1 h2=>zJI h1 h2
 have ht:=typ_pst (nm:=tx ((x.f 1).f 0).s) (ds:=((x.f 1).f 1).l) (r:=(if (x.f 2).b=true then (1,[61])::litK (x.f 3) else [])++(rgK dirK (x.f 4).l++r)) (v:=false) (n:=n) h.wraps h.rlen (by
  split
  . exact zAo (by decide)
  . exact hdn _ (by decide) hr.bang)
 rw [ht,zV]
 by_cases hb:(x.f 2).b=true
 . rw [if_pos hb,List.cons_append,if_pos (zBI _ _ _ _),zBS (by decide),zHc h.val.lit (hw.f 3) (fun _=>h.val.bare),zV,zV]
   obtain ⟨n',e2⟩:=zD1 h.dirs (fun i=>(hw.f 4).l i) (r:=r) hr.at_ hr.par (sizeR (bulkD (x.f 3)) (x.f 3))
   rw [e2,zV]
   refine ⟨n',?_⟩
   unfold cIn
   rw [if_pos hb,hb]
 . rw [if_neg hb,List.nil_append,if_neg (by rw [hdn _ (by decide) hr.eq];decide),zV]
   obtain ⟨n',e2⟩:=zD1 h.dirs (fun i=>(hw.f 4).l i) (r:=r) hr.at_ hr.par n
   rw [e2,zV]
   refine ⟨n',?_⟩
   unfold cIn
   rw [if_neg hb,show (x.f 2).b=false by simpa using hb]
theorem inK_fst (x:D) : ∃ s r,inK x=(2,s)::r:=⟨_,_,rfl⟩
theorem ins_pst {l:List D} (h:InsP l) (hw : ∀ i,wideD (gD l i)) (h0:0<l.length) {e:List UInt8} (he:e≠[33]/\e≠[64]/\e≠[40]/\e≠[61]) (r:KS) (n:Nat) : ∃ n',insQ e (pst (rgK inK l++(1,e)::r) false n) = .ok (rgD cIn l,pst r false n'):=by
 unfold insQ
 have hlen:=zDy (fun i=>inK (gD l i)) (fun i=>by simp [inK]) l.length 0
 exact zCq h.len h0 he (fun i r n hi hr=>in_pst (h.ins i hi) (hw i) hr n) inK_fst l.length 0 _ r n (by omega) (by simp only [pst,List.length_map,List.length_append,List.length_cons,rgK];omega)
theorem fd_pst {x:D} (h:FdP x) (hw:wideD x) {r:KS} (hr:EndO r) (n:Nat) : ∃ n',fdQ (pst (fdK x++r) false n) = .ok (cFd x,pst r false n'):=by
 have e:fdK x++r=(2,tx (x.f 0).s)::(insK (x.f 1).l inK++((1,[58])::(refK (tx ((x.f 2).f 0).s) ((x.f 2).f 1).l++(rgK dirK (x.f 3).l++r)))):=by simp [fdK]
 unfold fdQ
 rw [e,zA5,zV]
 have tail : ∀ n1,∃ n',(thenQ (takeQ [58] (pst ((1,[58])::(refK (tx ((x.f 2).f 0).s) ((x.f 2).f 1).l++(rgK dirK (x.f 3).l++r))) false n1)) fun _ u=>thenQ (typQ u) fun t v=>thenQ (dirsQ v) fun ds w=>(.ok (sFdD (tx (x.f 0).s) (rgD cIn (x.f 1).l) t ds,w):PR D)) = .ok (cFd x,pst r false n'):=fun n1=>by
  rw [zBe,zV,typ_pst h.wraps h.rlen (zJI (by decide) hr.bang),zV]
  obtain ⟨n',e2⟩:=zD1 h.dirs (fun i=>(hw.f 3).l i) (r:=r) hr.at_ hr.par n1
  rw [e2,zV]
  exact ⟨n',rfl⟩
 unfold insK
 by_cases h0:(x.f 1).l.length=0
 . rw [if_pos h0,List.nil_append,if_neg (by rw [zEY];decide),zV]
   have:=tail n
   rwa [List.length_eq_zero_iff.1 h0] at this
 . rw [if_neg h0,List.cons_append,if_pos (zBI _ _ _ _),zBS (by decide),List.append_assoc]
   obtain ⟨n1,e1⟩:=ins_pst h.args (fun i=>(hw.f 1).l i) (by omega) (e:=[41]) (by decide) ((1,[58])::(refK (tx ((x.f 2).f 0).s) ((x.f 2).f 1).l++(rgK dirK (x.f 3).l++r))) n
   rw [List.singleton_append,e1,zV]
   exact tail n1
theorem mb_pst {u:Bool} {x:D} (h:MbP u x) (hw:wideD x) {r:KS} (hr:EndO r) (n:Nat) : ∃ n',mbQ (pst (mbK x++r) false n) = .ok (cMb x,pst r false n'):=by
 have e:mbK x++r=(2,tx (x.f 0).s)::(rgK dirK (x.f 1).l++r):=rfl
 unfold mbQ
 rw [e,zA5,zV]
 obtain ⟨n',e2⟩:=zD1 h.dirs (fun i=>(hw.f 1).l i) (r:=r) hr.at_ hr.par n
 rw [e2,zV]
 exact ⟨n',rfl⟩
theorem zGK (s:List UInt8) {r:KS} (hr:nS r s) (n:Nat) : ∀ (l acc:List D) (f:Nat),l≠[]->acc.length+l.length<=64->l.length<=f->namesF s f acc (pst (sepK s l++r) false n) = .ok (acc++l.map cNm,pst r false n)
 |[],_,_,h,_,_=>(h rfl).elim
 |x::l,_,0,_,_,hf=>by simp at hf
 |[x],acc,f+1,_,hl,hf=>by
  unfold namesF
  show (if (hdT (pst ((2,tx x.s)::r) false n)).k=2/\64<=acc.length then _ else thenQ (nameQ (pst ((2,tx x.s)::r) false n)) _)=_
  simp only [List.length_cons,List.length_nil] at hl
  rw [if_neg (fun h=>by omega),zA5,zV,if_neg (by rw [hr];decide)]
  rfl
 |x::y::l,acc,f+1,_,hl,hf=>by
  simp only [List.length_cons] at hl hf
  have ih:=zGK s hr n (y::l) (acc++[cNm x]) f (by simp) (by simp;omega) (by simp;omega)
  unfold namesF
  show (if (hdT (pst ((2,tx x.s)::(1,s)::(sepK s (y::l)++r)) false n)).k=2/\64<=acc.length then _ else thenQ (nameQ (pst ((2,tx x.s)::(1,s)::(sepK s (y::l)++r)) false n)) _)=_
  rw [if_neg (fun h=>by omega),zA5,zV,if_pos (zBI _ _ _ _),zBS (by decide)]
  show namesF s f (acc++[cNm x]) _=_
  rw [ih];simp
theorem zJv (s:List UInt8) : ∀ l:List D,l.length<=(sepK s l).length
 |[]=>Nat.le_refl _
 |[_]=>Nat.le_refl _
 |x::y::l=>by
  have:=zJv s (y::l)
  unfold sepK
  simp only [List.length_cons] at *
  omega
theorem zIA (s:List UInt8) {r:KS} (hr:nS r s) (n:Nat) {l:List D} (h0:l≠[]) (hl:l.length<=64):zBl s (pst (sepK s l++r) false n) = .ok (l.map cNm,pst r false n):=by
 have:=zGK s hr n l [] ((pst (sepK s l++r) false n).ts.length+1) h0 (by simpa using hl) (by have:=zJv s l;simp only [pst,List.length_map,List.length_append];omega)
 exact this
theorem faces_pst {k:Int} {l:List D} (hl:l.length<=64) (hk:l.length=0\/k=1) {r:KS} (hr:nS r [38]) (hni : ∀ n,¬ ((hdT (pst r false n)).k=2/\(hdT (pst r false n)).s=zFu)) (n:Nat):zBT k (pst (zBc l++r) false n) = .ok (l.map cNm,pst r false n):=by
 unfold zBT zBc
 by_cases h0:l.length=0
 . rw [if_pos h0,List.nil_append,if_neg (fun h=>hni n h.2),List.length_eq_zero_iff.1 h0];rfl
 . have hk:k=1:=by rcases hk with h | h;exact (h0 h).elim;exact h
   rw [if_neg h0,List.cons_append,if_pos ⟨hk,rfl,rfl⟩,zBS (by decide)]
   exact zIA [38] hr n (fun e=>h0 (by rw [e];rfl)) hl
theorem body_fst (d:D) (r:KS):(∀ t,([61]==t)=false->([123]==t)=false->nS (bodyK d++r) t) /\ ∀ n,(hdT (pst (bodyK d++r) false n)).k=1:=by
 unfold bodyK
 split
 . exact ⟨fun t h1 _=>zAo (by simpa using h1),fun n=>rfl⟩
 . exact ⟨fun t _ h2=>zAo (by simpa using h2),fun n=>rfl⟩
theorem body_pst {d:D} (h:DefP d) (hw:wideD d) {r:KS} (hr:nS r [124]) (n:Nat) : ∃ n',bodyQ (d.f 0).n (pst (bodyK d++r) false n) =
 .ok (((if (d.f 0).n=1\/(d.f 0).n=2 then rgD cFd (d.f 4).l else []),(if (d.f 0).n=3 then ((d.f 5).l.map fun x=>mbOf (cNm (x.f 0))) else if (d.f 0).n=4 then rgD cMb (d.f 5).l else []),(if (d.f 0).n=5 then rgD cIn (d.f 6).l else [])),pst r false n'):=by
 have hk:=h.kind
 unfold bodyQ bodyK
 by_cases k3:(d.f 0).n=3
 . have hm:=h.m0.1 (.inl k3)
   rw [if_pos k3,if_pos k3,if_neg (by omega),if_pos k3,if_neg (by omega),List.cons_append,zBe,zV,zIA [124] hr n (l:=(d.f 5).l.map fun x=>x.f 0) (fun e=>by
    have:=congrArg List.length e
    rw [List.length_map] at this
    simp at this;rw [this] at hm;simp at hm) (by rw [List.length_map];exact h.mlen),zV]
   exact ⟨n,by rw [List.map_map,List.map_map];rfl⟩
 rw [if_neg k3,if_neg k3]
 have eb : ∀ k:KS,blkK k++r=(1,[123])::(k++(1,[125])::r):=fun k=>by simp [blkK]
 rw [eb,zBe,zV]
 by_cases k5:(d.f 0).n=5
 . have hm:=h.i0.1 k5
   rw [if_pos k5,if_pos k5,if_neg (by omega),if_neg k3,if_neg (by omega),if_pos k5]
   obtain ⟨n',e1⟩:=ins_pst h.ins (fun i=>(hw.f 6).l i) hm (e:=[125]) (by decide) r n
   rw [e1,zV]
   exact ⟨n',rfl⟩
 rw [if_neg k5,if_neg k5]
 by_cases k4:(d.f 0).n=4
 . have hm:=h.m0.1 (.inr k4)
   rw [if_pos k4,if_pos k4,if_neg (by omega),if_neg k3,if_pos k4,if_neg k5]
   have hlen:=zDy (fun i=>mbK (gD (d.f 5).l i)) (fun i=>by simp [mbK]) (d.f 5).l.length 0
   obtain ⟨n',e1⟩:=zCq (el:=mbQ) (g:=mbK) (c:=cMb) (e:=[125]) h.mlen hm (by decide) (fun i r n hi hr=>mb_pst (h.mbs i hi) ((hw.f 5).l i) hr n) (fun x=>⟨_,_,rfl⟩) (d.f 5).l.length 0 ((pst (rgK mbK (d.f 5).l++(1,[125])::r) false n).ts.length+1) r n (by omega) (by simp only [pst,List.length_map,List.length_append,List.length_cons,rgK];omega)
   unfold mbsQ
   have e1:manyF mbQ [125] 64 _ [] (pst (rgK mbK (d.f 5).l++(1,[125])::r) false n)=_:=e1
   rw [e1,zV]
   exact ⟨n',rfl⟩
 . have hm:=h.f0.1 (by omega)
   rw [if_neg k4,if_neg k4,if_pos (by omega),if_neg k3,if_neg k4,if_neg k5]
   have hlen:=zDy (fun i=>fdK (gD (d.f 4).l i)) (fun i=>by simp [fdK]) (d.f 4).l.length 0
   obtain ⟨n',e1⟩:=zCq (el:=fdQ) (g:=fdK) (c:=cFd) (e:=[125]) h.flen hm (by decide) (fun i r n hi hr=>fd_pst (h.fds i hi) ((hw.f 4).l i) hr n) (fun x=>⟨_,_,rfl⟩) (d.f 4).l.length 0 ((pst (rgK fdK (d.f 4).l++(1,[125])::r) false n).ts.length+1) r n (by omega) (by simp only [pst,List.length_map,List.length_append,List.length_cons,rgK];omega)
   unfold fdsQ
   have e1:manyF fdQ [125] 64 _ [] (pst (rgK fdK (d.f 4).l++(1,[125])::r) false n)=_:=e1
   rw [e1,zV]
   exact ⟨n',rfl⟩
theorem sdef_pst {d:D} (h:DefP d) (hw:wideD d) {r:KS} (hr:nS r [124]) (n:Nat) : ∃ n',sdefQ (d.f 0).n (pst ((2,tx (d.f 1).s)::(zBc (d.f 2).l++(rgK dirK (d.f 3).l++bodyK d))++r) false n) = .ok (cDf d,pst r false n'):=by
 have e:(2,tx (d.f 1).s)::(zBc (d.f 2).l++(rgK dirK (d.f 3).l++bodyK d))++r=((2:Int),tx (d.f 1).s)::(zBc (d.f 2).l++(rgK dirK (d.f 3).l++(bodyK d++r))):=by simp
 obtain ⟨b1,b2⟩:=body_fst d r
 unfold sdefQ
 rw [e,zA5,zV,faces_pst h.ilen h.im0 (zJI (by decide) (b1 _ (by decide) (by decide))) (fun n hh=>by
  have hx:(hdT (pst (rgK dirK (d.f 3).l++(bodyK d++r)) false n)).k=1:=by
   unfold rgK
   cases (d.f 3).l.length with
   |zero=>exact b2 n
   |succ m=>rw [zB5,List.append_assoc];rfl
  rw [hx] at hh
  exact absurd hh.1 (by decide)),zV]
 obtain ⟨n1,e1⟩:=zD1 h.dirs (fun i=>(hw.f 3).l i) (r:=bodyK d++r) (b1 _ (by decide) (by decide)) (b1 _ (by decide) (by decide)) n
 obtain ⟨n2,e2⟩:=body_pst h hw hr n1
 rw [e1,zV,e2,zV]
 exact ⟨n2,rfl⟩
theorem word_kindS {k:Int} (h:1<=k/\k<=5):zBG (zBt k)=k:=by
 obtain rfl | rfl | rfl | rfl | rfl:k=1\/k=2\/k=3\/k=4\/k=5:=by omega
 all_goals decide
theorem zHq {l:List D} (hl:l.length<=64) (h0:0<l.length) (h : ∀ i,i<l.length->DefP (gD l i)) (hw : ∀ i,wideD (gD l i)) : ∀ (m j f:Nat) (n:Nat),j+m=l.length->m<f ->
 ∃ n',sdocF f ((List.range j).map fun i=>cDf (gD l i)) (pst (gK (fun i=>zEf (gD l i)) j m++[endK5]) false n) = .ok (rgD cDf l,pst [endK5] false n')
 |_,_,0,_,_,hf=>by omega
 |0,j,f+1,n,hj,_=>by
  have e:j=l.length:=by omega
  subst e
  unfold sdocF
  rw [zFr,zFW,List.nil_append,if_pos ⟨by omega,rfl⟩]
  exact ⟨n,rfl⟩
 |m+1,j,f+1,n,hj,hf=>by
  have hj2:j<l.length:=by omega
  have hd:=h j hj2
  have e:gK (fun i=>zEf (gD l i)) j (m+1)++[endK5]=(2,zBt ((gD l j).f 0).n)::((2,tx ((gD l j).f 1).s)::(zBc ((gD l j).f 2).l++(rgK dirK ((gD l j).f 3).l++bodyK (gD l j)))++(gK (fun i=>zEf (gD l i)) (j+1) m++[endK5])):=by
   rw [zB5];simp [zEf]
  have hend:nS (gK (fun i=>zEf (gD l i)) (j+1) m++[endK5]) [124]:=by
   cases m with
   |zero=>exact zAo rfl
   |succ m=>rw [zB5];exact zAo rfl
  have hk:=word_kindS hd.kind
  obtain ⟨n1,e1⟩:=sdef_pst hd (hw j) hend n
  obtain ⟨n',ih⟩:=zHq hl h0 h hw m (j+1) f n1 (by omega) (by omega)
  refine ⟨n',?_⟩
  unfold sdocF
  rw [zFr,e,zKV]
  dsimp only
  rw [if_neg (fun q=>absurd q.2 (by decide)),hk,if_neg (fun q=>q ⟨rfl,by have:=hd.kind;omega⟩),if_neg (by omega),zBS (by decide),e1,zV]
  rw [List.range_succ,List.map_append] at ih
  exact ih
theorem sdoc_pst {l:List D} (hl:l.length<=64) (h0:0<l.length) (h : ∀ i,i<l.length->DefP (gD l i)) (hw : ∀ i,wideD (gD l i)) : ∃ z,sdocQ ((sdocK l++[endK5]).map mkT) = .ok (rgD cDf l,z):=by
 have hlen:=zDy (fun i=>zEf (gD l i)) (fun i=>by simp [zEf]) l.length 0
 obtain ⟨n',e⟩:=zHq hl h0 h hw l.length 0 (((sdocK l++[endK5]).map mkT).length+1) 0 (by omega) (by simp only [List.length_map,List.length_append,sdocK,rgK,List.length_cons,List.length_nil];omega)
 exact ⟨_,e⟩
structure Psp (t:List UInt8) (k:KS):Prop where
 pw:Pw t k
 bd:bnd t
theorem Psp.nil:Psp [] []:=⟨Ps.nil.w,zHX⟩
theorem Psp.sp {t:List UInt8} {k:KS} (h:Pw t k):Psp (32::t) k:=⟨(Ps.sep (c:=32) rfl).appw h,zAh (by decide)⟩
theorem Psp.sg {c:UInt8} (h:zAi c=true):Psp [32,c] [(1,[c])]:=.sp (Ps.sign h).w
theorem Psp.app {a b:List UInt8} {ka kb:KS} (h:Psp a ka) (k:Psp b kb):Psp (a++b) (ka++kb):=⟨h.pw.appw k.pw k.bd,fun c hc=>by
 cases a with
 |nil=>exact k.bd c hc
 |cons x y=>exact h.bd c hc⟩
theorem Pw.spp {a b:List UInt8} {ka kb:KS} (h:Pw a ka) (k:Psp b kb):Pw (a++b) (ka++kb):=h.appw k.pw k.bd
def flatN (f:Nat->List UInt8):Nat->List UInt8
 |0=>[]
 |n+1=>flatN f n++f n
theorem Psp.flat {f:Nat->List UInt8} {g:Nat->KS} : ∀ n,(∀ i,i<n->Psp (f i) (g i))->Psp (flatN f n) (gK g 0 n)
 |0,_ => .nil
 |n+1,h=>by
  rw [gK_last]
  exact (Psp.flat n fun i hi=>h i (by omega)).app (h n (by omega))
def refS (d:D):List UInt8:=refB (tx (d.f 0).s) (d.f 1).l
def sepS (a b:List UInt8) (nm:D->D) (l:List D):List UInt8:=flatN (fun i=>(if i=0 then a else b)++tx (nm (gD l i)).s) l.length
def facesS (l:List D):List UInt8:=sepS ([32]++zFu++[32]) [32,38,32] id l
def unionS (l:List D):List UInt8:=sepS [32,61,32] [32,124,32] (fun x=>x.f 0) l
theorem zDX (f:Nat->List UInt8) : ∀ n,flatN f (n+1)=f 0++flatN (fun i=>f (i+1)) n
 |0=>by simp [flatN]
 |n+1=>by
  have:=zDX f n
  show flatN f (n+1)++f (n+1)=f 0++(flatN (fun i=>f (i+1)) n++f (n+1))
  rw [this,List.append_assoc]
theorem zHo {c:UInt8} (hc:zAi c=true) {nm:D->D} : ∀ (l:List D),(∀ i,i<l.length->nameB (nm (gD l i)).s=true)->Psp (flatN (fun i=>[32,c,32]++tx (nm (gD l i)).s) l.length) ((l.map nm).flatMap fun x=>[(1,[c]),(2,tx x.s)])
 |[],_ => .nil
 |x::r,h=>by
  have ih:=zHo hc r fun i hi=>h (i+1) (by simpa using hi)
  have h1:=((Psp.sg hc).app (Psp.sp (Pw.nm (h 0 (by simp))))).app ih
  rw [List.length_cons,zDX]
  exact h1
theorem sepK_eq (s:List UInt8) : ∀ (x:D) (r:List D),sepK s (x::r)=(2,tx x.s)::r.flatMap fun x=>[(1,s),(2,tx x.s)]
 |x,[]=>rfl
 |x,y::r=>by
  show (2,tx x.s)::(1,s)::sepK s (y::r)=_
  rw [sepK_eq s y r];rfl
theorem sepS_sp {a:List UInt8} {ka:KS} {c:UInt8} (ha:Psp a ka) (hc:zAi c=true) {nm:D->D} (l:List D) (h0:l≠[]) (h : ∀ i,i<l.length->nameB (nm (gD l i)).s=true) :
 Psp (sepS (a++[32]) [32,c,32] nm l) (ka++sepK [c] (l.map nm)):=by
 cases l with
 |nil=>exact (h0 rfl).elim
 |cons x r =>
  have h1:=(ha.app (Psp.sp (Pw.nm (h 0 (by simp))))).app (zHo hc r fun i hi=>h (i+1) (by simpa using hi))
  unfold sepS
  rw [List.length_cons,zDX,List.map_cons,sepK_eq]
  have e:((if 0=0 then a++[32] else [32,c,32])++tx (nm (gD (x::r) 0)).s:List UInt8)=a++32::tx (nm (gD (x::r) 0)).s:=by simp
  rw [e]
  have e2:(ka++((2,tx (nm x).s)::(r.map nm).flatMap fun x=>[(1,[c]),(2,tx x.s)]):KS)=(ka++[(2,tx (nm x).s)])++(r.map nm).flatMap fun x=>[(1,[c]),(2,tx x.s)]:=by simp
  rw [e2]
  exact h1
theorem facesS_sp (l:List D) (h : ∀ i,i<l.length->nameB (gD l i).s=true):Psp (facesS l) (zBc l):=by
 unfold zBc
 by_cases h0:l.length=0
 . rw [if_pos h0,List.eq_nil_of_length_eq_zero h0];exact .nil
 . rw [if_neg h0]
   have h1:=sepS_sp (a:=[32]++zFu) (ka:=[(2,zFu)]) (c:=38) (Psp.sp (.name rfl)) rfl (nm:=id) l (fun e=>h0 (by rw [e];rfl)) h
   rw [List.map_id] at h1
   exact h1
theorem unionS_sp (l:List D) (h0:l≠[]) (h : ∀ i,i<l.length->nameB ((gD l i).f 0).s=true):Psp (unionS l) ((1,[61])::sepK [124] (l.map fun x=>x.f 0)):=
 sepS_sp (a:=[32,61]) (ka:=[(1,[61])]) (c:=124) (Psp.sg (c:=61) rfl) rfl (nm:=fun x=>x.f 0) l h0 h
theorem word_nameD {k:Int}:nameU (zBt k)=true:=by
 unfold zBt
 repeat' split
 all_goals rfl
theorem Lex.scanT {l:List UInt8} {ks:KS} (h:Lex l ks) (hlen:l.length<=65536) : ∃ ts,scanT l = .ok ts/\ts.map bare=ks++[endK5]:=by
 obtain ⟨ts,h1,h2⟩:=h.scan (l.length+1) 0 (by omega)
 refine ⟨ts,?_,h2⟩
 unfold Go.Proofs.YthppafnlnnpciaaGreatDoor.scanT
 rw [if_neg (by omega)]
 exact h1
theorem bare_mkT (l:KS):(l.map mkT).map bare=l:=by
 rw [List.map_map]
 exact (List.map_congr_left fun _ _=>rfl).trans (List.map_id l)
theorem parse_lex {t:List UInt8} {l:List D} (ht:Lex t (sdocK l)) (hlen:t.length<=65536) (hY:docY litR l=true) (hw : ∀ i,wideD (gD l i)):parseD t = .ok (zEC (rgD cDf l)):=by
 obtain ⟨ts,h1,h2⟩:=ht.scanT hlen
 unfold docY at hY
 simp only [Bool.and_eq_true,decide_eq_true_eq] at hY
 obtain ⟨z,hz⟩:=sdoc_pst hY.1.2 (by omega) (fun i hi=>defP (zD9 hY.2 i hi)) hw
 obtain ⟨z',h3⟩:=(sdoc_like (ts:=(sdocK l++[endK5]).map mkT) (ts':=ts) (by rw [bare_mkT,h2])).1 _ _ hz
 unfold parseD
 rw [h1]
 dsimp only
 rw [h3]
theorem zDz (f:Nat->List UInt8) : ∀ n,(flatN f n).length=sumN (fun i=>(f i).length) n
 |0=>rfl
 |n+1=>by
  show (flatN f n++f n).length=_
  rw [List.length_append,zDz f n];rfl
theorem flatN_mono (f:Nat->List UInt8) {i n:Nat} (h:i<=n):(flatN f i).length<=(flatN f n).length:=by
 rw [zDz,zDz];exact zAt _ h
theorem zCC (f:Nat->List UInt8) {i n:Nat} (h:i<n):(flatN f i).length+(f i).length<=(flatN f n).length:=by
 have:=flatN_mono f (show i+1<=n from h)
 show _<=(flatN f n).length
 have e:(flatN f (i+1)).length=(flatN f i).length+(f i).length:=List.length_append
 omega
theorem zEs (n:List UInt8) : ∀ l:List D,(refB n l).length<=n.length+2*l.length
 |[]=>by show n.length<=_;omega
 |d::r=>by
  have:=zEs n r
  unfold refB
  split
  . simp only [List.length_append,List.length_cons,List.length_nil];omega
  . simp only [List.length_append,List.length_cons,List.length_nil];omega
theorem zAK : ∀ l:List D,l.length<=bulkL l
 |[]=>Nat.le_refl _
 |x::r=>by
  have:=zAK r
  have:=zAl x
  simp only [bulkL,List.length_cons];omega
theorem zJ1 (d:D):(refS d).length<=2*wD d:=by
 have h:=zEs (tx (d.f 0).s) (d.f 1).l
 have h1:=zAJ d 2
 simp only [sumN] at h1
 have h2:=zAX (d.f 0)
 have h3:=zn (d.f 1)
 have h4:=zAK (d.f 1).l
 have h5:=zA0 (d.f 0).s
 unfold refS
 omega
theorem good_of : ∀ (K m:Nat) (d:D),everyL m d=true->goodV K d
 |0,_,_,_=>trivial
 |K+1,0,_,h=>by cases h
 |K+1,m+1,d,h=>by
  obtain ⟨hn,hi⟩:=zDA h
  exact ⟨hn.bool,fun i hl=>good_of K m _ (hi i hl)⟩
theorem zKG {K:Nat} {d:D} (h:litR d=true):goodV K d:=by
 unfold litR at h
 rw [Bool.and_eq_true] at h
 exact good_of K _ d h.2
theorem zCO {l:List D} {i:Nat} (h:i<l.length) (j:Nat):bulkD ((gD l i).f j)<=bulkL l/\bulkL ((gD l i).f j).l<=bulkL l:=by
 have h1:=zAE h
 have h2:=wD_f (gD l i) j
 have h3:=zb (gD l i)
 have h4:=zb ((gD l i).f j)
 have h5:=zn ((gD l i).f j)
 omega
section
variable {K:Nat} (hK:1048576<=K)
include hK
theorem argsOk_of {l:List D} (h:zFo l=true) (hw : ∀ i,wideD (gD l i)) (hb:bulkL l<=1048576):ArgsOk K l:=
 ⟨hw,hb,fun i hi=>zCR K _ (by have:=(zCO hi 1).1;omega),fun i hi=>zKG ((zFn h).2 i hi).2⟩
theorem zIX {l:List D} (h:zHR l=true) (hw : ∀ i,wideD (gD l i)) (hb:bulkL l<=1048576):DirsOk K l:=
 ⟨hw,hb,fun i hi=>argsOk_of hK ((zIW h).2 i hi).2 (fun q=>((hw i).f 1).l q) (by have:=(zCO hi 1).2;omega)⟩
end
end
section
def inB6 (K:Nat) (x:D):List UInt8:=tx (x.f 0).s++[58,32]++refB (tx ((x.f 1).f 0).s) ((x.f 1).f 1).l++(if (x.f 2).b=true then [32,61,32]++valT K (x.f 3) else [])++zAV K (x.f 4).l
def zJP (K:Nat) (l:List D):List UInt8:=Lib.join (l.map (inB6 K)) [44,32]
def fdT6 (K:Nat) (x:D):List UInt8:=tx (x.f 0).s++(if (x.f 1).l.length=0 then [] else [40]++zJP K (x.f 1).l++[41])++[58,32]++refB (tx ((x.f 2).f 0).s) ((x.f 2).f 1).l++zAV K (x.f 3).l
def mbT6 (K:Nat) (x:D):List UInt8:=tx (x.f 0).s++zAV K (x.f 1).l
def lnF (f:D->List UInt8) (l:List D) (i:Nat):List UInt8:=[32,32]++f (gD l i)++[10]
def zGM (f:D->List UInt8) (l:List D):List UInt8:=flatN (lnF f l) l.length
def fcT6 (d:D):List UInt8:=if (d.f 0).n=1/\0<(d.f 2).l.length then [32]++zFu++[32]++Lib.join ((d.f 2).l.map fun x=>tx x.s) [32,38,32] else []
def hdS (d:D):List UInt8:=zBt (d.f 0).n++[32]++tx (d.f 1).s++fcT6 d
def zCd (K:Nat) (d:D):List UInt8:=if (d.f 0).n=5 then zGM (inB6 K) (d.f 6).l else if (d.f 0).n=4 then zGM (mbT6 K) (d.f 5).l else zGM (fdT6 K) (d.f 4).l
def dfT (K:Nat) (d:D):List UInt8:=
 if (d.f 0).n=3 then zBt 3++[32]++tx (d.f 1).s++zAV K (d.f 3).l++[32,61,32]++Lib.join ((d.f 5).l.map fun x=>tx (x.f 0).s) [32,124,32]++[10]
 else hdS d++zAV K (d.f 3).l++[32,123,10]++zCd K d++[125,10]
def sdlT (K:Nat) (l:List D):List UInt8:=Lib.join (l.map (dfT K)) [10]
theorem argsR_of {l:List D} (hl:l.length<=16) (h : ∀ i,i<l.length->ArgP (gD l i)):zFo l=true:=by
 unfold zFo
 rw [Bool.and_eq_true,Bool.not_eq_true',decide_eq_true_eq]
 refine ⟨hl,?_⟩
 rw [List.any_eq_false]
 intro x hx
 obtain ⟨i,hi,rfl⟩:=List.getElem_of_mem hx
 have:=h i hi
 rw [zBp hi] at this
 unfold argR
 rw [this.name,this.val.lit];decide
theorem zHQ {l:List D} (h:DirsP l):zHR l=true:=by
 unfold zHR
 rw [Bool.and_eq_true,Bool.not_eq_true',decide_eq_true_eq]
 refine ⟨h.len,?_⟩
 rw [List.any_eq_false]
 intro x hx
 obtain ⟨i,hi,rfl⟩:=List.getElem_of_mem hx
 have:=h.dirs i hi
 rw [zBp hi] at this
 unfold dirR
 rw [this.name,argsR_of this.len this.args];decide
theorem Psp.gp {sep:List UInt8} (h:Gap sep):Psp sep []:=⟨h.1.w,h.2.2⟩
theorem zKK (f:Nat->List UInt8) (a b:List UInt8) : ∀ n,a++Lib.join ((List.range (n+1)).map f) b=flatN (fun i=>(if i=0 then a else b)++f i) (n+1)
 |0=>by
  show a++Lib.join [f 0] b=[]++((if 0=0 then a else b)++f 0)
  rw [Lib.join_one];simp
 |n+1=>by
  have ih:=zKK f a b n
  rw [List.range_succ,List.map_append,List.map_singleton,zKL _ _ _ (fun e=>by have:=congrArg List.length e;simp at this)]
  show _=flatN (fun i=>(if i=0 then a else b)++f i) (n+1)++((if n+1=0 then a else b)++f (n+1))
  rw [<- ih,if_neg (Nat.succ_ne_zero n)]
  simp
theorem zHp (a b:List UInt8) (nm:D->D) {l:List D} (h:l≠[]):a++Lib.join (l.map fun x=>tx (nm x).s) b=sepS a b nm l:=by
 obtain ⟨n,hn⟩ : ∃ n,l.length=n+1:=⟨l.length-1,by cases l with | nil=>exact absurd rfl h | cons x r=>simp⟩
 rw [zFK,hn,zKK]
 unfold sepS
 rw [hn]
section
variable {K:Nat} (hK:1048576<=K)
include hK
theorem zEq {l:List D} (h:DirsP l) (hw : ∀ i,wideD (gD l i)) (hb:bulkL l<=1048576):Psp (zAV K l) (rgK dirK l):=
 ⟨tailT_pw (zHQ h) (zIX hK (zHQ h) hw hb),tailT_bnd K l⟩
theorem inB6_pw {x:D} (h:InP x) (hw:wideD x) (hb:bulkD x<=1048576):Pw (inB6 K x) (inK x):=by
 have w:=zb x
 have b3:=wD_f x 3
 have w3:=zb (x.f 3)
 have b4:=wD_f x 4
 have w4:=zn (x.f 4)
 have h1:=zKt h.name (zI8 h.rname ((x.f 1).f 1).l)
 have h2:Psp (if (x.f 2).b=true then [32,61,32]++valT K (x.f 3) else []) (if (x.f 2).b=true then (1,[61])::litK (x.f 3) else []):=by
  split
  . exact (Psp.sg (c:=61) rfl).app (Psp.sp (litT_pw (zCR K _ (by omega)) (hw.f 3) h.val.lit))
  . exact .nil
 have h3:=(h1.spp h2).spp (zEq hK h.dirs (hw.f 4).l (by omega))
 have e2:inK x=(((2,tx (x.f 0).s)::(1,[58])::refK (tx ((x.f 1).f 0).s) ((x.f 1).f 1).l)++(if (x.f 2).b=true then (1,[61])::litK (x.f 3) else []))++rgK dirK (x.f 4).l:=by simp [inK]
 rw [e2];exact h3
theorem insB6_pw {l:List D} (h:InsP l) (hw : ∀ i,wideD (gD l i)) (hb:bulkL l<=1048576):Pw (zJP K l) (rgK inK l):=
 Pw.joinL .comma l fun i hi=>inB6_pw hK (h.ins i hi) (hw i) (by have:=zAE hi;omega)
theorem fdT_pw {x:D} (h:FdP x) (hw:wideD x) (hb:bulkD x<=1048576):Pw (fdT6 K x) (fdK x):=by
 have w:=zb x
 have b1:=wD_f x 1
 have w1:=zn (x.f 1)
 have b3:=wD_f x 3
 have w3:=zn (x.f 3)
 have h2:Psp (if (x.f 1).l.length=0 then [] else [40]++zJP K (x.f 1).l++[41]) (insK (x.f 1).l inK):=by
  unfold insK
  by_cases h0:(x.f 1).l.length=0
  . rw [if_pos h0,if_pos h0];exact .nil
  . rw [if_neg h0,if_neg h0]
    exact ⟨(Ps.wrap rfl rfl (insB6_pw hK h.args (hw.f 1).l (by omega))).w,zAh (by decide)⟩
 have h3:Psp ([58,32]++refB (tx ((x.f 2).f 0).s) ((x.f 2).f 1).l) ((1,[58])::refK (tx ((x.f 2).f 0).s) ((x.f 2).f 1).l):=
  ⟨((Ps.sign (c:=58) rfl).app (Ps.sep (c:=32) rfl)).appw (zI8 h.rname ((x.f 2).f 1).l),zAh (by decide)⟩
 have h4:=(((Pw.nm h.name).spp h2).spp h3).spp (zEq hK h.dirs (hw.f 3).l (by omega))
 have e1:fdT6 K x=((tx (x.f 0).s++(if (x.f 1).l.length=0 then [] else [40]++zJP K (x.f 1).l++[41]))++([58,32]++refB (tx ((x.f 2).f 0).s) ((x.f 2).f 1).l))++zAV K (x.f 3).l:=by simp [fdT6]
 have e2:fdK x=(([(2,tx (x.f 0).s)]++insK (x.f 1).l inK)++((1,[58])::refK (tx ((x.f 2).f 0).s) ((x.f 2).f 1).l))++rgK dirK (x.f 3).l:=by simp [fdK]
 rw [e1,e2];exact h4
theorem mbT_pw {u:Bool} {x:D} (h:MbP u x) (hw:wideD x) (hb:bulkD x<=1048576):Pw (mbT6 K x) (mbK x):=by
 have w:=zb x
 have b1:=wD_f x 1
 have w1:=zn (x.f 1)
 exact (Pw.nm h.name).spp (zEq hK h.dirs (hw.f 1).l (by omega))
omit hK in
theorem zFN {f:D->List UInt8} {g:D->KS} (l:List D) (h : ∀ i,i<l.length->Pw (f (gD l i)) (g (gD l i))):Psp (zGM f l) (rgK g l):=Psp.flat _ fun i hi=>by
 have h1:=(Psp.sp (Psp.sp (h i hi)).pw).app (Psp.gp .line)
 rw [List.append_nil] at h1
 exact h1
omit hK in
theorem fcT6_sp {d:D} (h:DefP d):Psp (fcT6 d) (zBc (d.f 2).l):=by
 unfold fcT6
 by_cases h0:(d.f 2).l.length=0
 . rw [if_neg (by omega)]
   unfold zBc
   rw [if_pos h0]
   exact .nil
 . have h1:=h.im0.resolve_left h0
   rw [if_pos ⟨h1,by omega⟩]
   have h2:=facesS_sp (d.f 2).l h.im
   unfold facesS at h2
   rw [<- zHp _ _ id (fun e=>h0 (by rw [e];rfl))] at h2
   exact h2
theorem dfT_pw {d:D} (h:DefP d) (hw:wideD d) (hb:bulkD d<=1048576):Pw (dfT K d) (zEf d):=by
 have w:=zb d
 have b3:=wD_f d 3;have w3:=zn (d.f 3)
 have b4:=wD_f d 4;have w4:=zn (d.f 4)
 have b5:=wD_f d 5;have w5:=zn (d.f 5)
 have b6:=wD_f d 6;have w6:=zn (d.f 6)
 have ht:=zEq hK h.dirs (hw.f 3).l (by omega)
 have h1:=(Pw.name (word_nameD (k:=(d.f 0).n))).spp (Psp.sp (Pw.nm h.name))
 have ek:zEf d=[(2,zBt (d.f 0).n)]++[(2,tx (d.f 1).s)]++zBc (d.f 2).l++rgK dirK (d.f 3).l++bodyK d:=by simp [zEf]
 rw [ek]
 unfold dfT
 by_cases h3:(d.f 0).n=3
 . rw [if_pos h3]
   have hm:=h.m0.1 (.inl h3)
   have hne:(d.f 5).l≠[]:=fun e=>by rw [e] at hm;exact absurd hm (by decide)
   have hu:=unionS_sp _ hne fun i hi=>(h.mbs i hi).name
   unfold unionS at hu
   rw [<- zHp _ _ (fun x=>x.f 0) hne] at hu
   have hf:zBc (d.f 2).l=[]:=by
    unfold zBc
    rw [if_pos (h.im0.resolve_right (by omega))]
   have h2:=((h1.spp ht).spp hu).spp (Psp.gp .line)
   rw [h3] at h2
   unfold bodyK
   rw [if_pos h3,hf,h3]
   have e1:(zBt 3++[32]++tx (d.f 1).s++zAV K (d.f 3).l++[32,61,32]++Lib.join ((d.f 5).l.map fun x=>tx (x.f 0).s) [32,124,32]++[10]:List UInt8)=zBt 3++(32::tx (d.f 1).s)++zAV K (d.f 3).l++([32,61,32]++Lib.join ((d.f 5).l.map fun x=>tx (x.f 0).s) [32,124,32])++[10]:=by simp
   rw [e1]
   have e2:([(2,zBt 3)]++[(2,tx (d.f 1).s)]++[]++rgK dirK (d.f 3).l++((1,[61])::sepK [124] ((d.f 5).l.map fun x=>x.f 0)):KS)=[(2,zBt 3)]++[(2,tx (d.f 1).s)]++rgK dirK (d.f 3).l++((1,[61])::sepK [124] ((d.f 5).l.map fun x=>x.f 0))++[]:=by simp
   rw [e2]
   exact h2
 . rw [if_neg h3]
   have hbd:Psp (zCd K d) (if (d.f 0).n=5 then rgK inK (d.f 6).l else if (d.f 0).n=4 then rgK mbK (d.f 5).l else rgK fdK (d.f 4).l):=by
    unfold zCd
    by_cases h5:(d.f 0).n=5
    . rw [if_pos h5,if_pos h5]
      exact zFN _ fun i hi=>inB6_pw hK (h.ins.ins i hi) ((hw.f 6).l i) (by have:=zAE hi;omega)
    rw [if_neg h5,if_neg h5]
    by_cases h4:(d.f 0).n=4
    . rw [if_pos h4,if_pos h4]
      exact zFN _ fun i hi=>mbT_pw hK (h.mbs i hi) ((hw.f 5).l i) (by have:=zAE hi;omega)
    rw [if_neg h4,if_neg h4]
    exact zFN _ fun i hi=>fdT_pw hK (h.fds i hi) ((hw.f 4).l i) (by have:=zAE hi;omega)
   have hop:Psp [32,123,10] [(1,[123])]:=by
    have:=(Psp.sg (c:=123) rfl).app (Psp.gp .line)
    exact this
   have hcl:Psp [125,10] [(1,[125])]:=by
    have:=(⟨(Ps.sign (c:=125) rfl).w,zAh (by decide)⟩:Psp [125] [(1,[125])]).app (Psp.gp .line)
    exact this
   have h2:=((((h1.spp (fcT6_sp h)).spp ht).spp hop).spp hbd).spp hcl
   unfold bodyK blkK
   rw [if_neg h3]
   have e1:hdS d++zAV K (d.f 3).l++[32,123,10]++zCd K d++[125,10]=zBt (d.f 0).n++(32::tx (d.f 1).s)++fcT6 d++zAV K (d.f 3).l++[32,123,10]++zCd K d++[125,10]:=by simp [hdS]
   rw [e1]
   generalize (if (d.f 0).n=5 then rgK inK (d.f 6).l else if (d.f 0).n=4 then rgK mbK (d.f 5).l else rgK fdK (d.f 4).l)=k at h2 |-
   have e2:([(2,zBt (d.f 0).n)]++[(2,tx (d.f 1).s)]++zBc (d.f 2).l++rgK dirK (d.f 3).l++((1,[123])::(k++[(1,[125])])):KS)=[(2,zBt (d.f 0).n)]++[(2,tx (d.f 1).s)]++zBc (d.f 2).l++rgK dirK (d.f 3).l++[(1,[123])]++k++[(1,[125])]:=by simp
   rw [e2]
   exact h2
theorem parse_sdlT {l:List D} (hY:docY litR l=true) (hw : ∀ i,wideD (gD l i)) (hb:bulkL l<=1048576) (hlen:(sdlT K l).length<=65536):parseD (sdlT K l) = .ok (zEC (rgD cDf l)):=by
 refine parse_lex ?_ hlen hY hw
 unfold docY at hY
 simp only [Bool.and_eq_true,decide_eq_true_eq] at hY
 exact (Pw.joinL (f:=dfT K) (g:=zEf) .line l fun i hi=>dfT_pw hK (defP (zD9 hY.2 i hi)) (hw i) (by have:=zAE hi;omega)).lex
end
theorem zAw (K:Nat) (l:List D) (h : ∀ i,wideD (gD l i)):(zAV K l).length<=1+32*bulkL l:=by
 have:=zFe K l h
 unfold zAV
 split
 . exact Nat.zero_le _
 . simp only [List.length_append,List.length_cons,List.length_nil];omega
theorem zKT (K:Nat) (x:D) (hw:wideD x):(inB6 K x).length+3<=40*bulkD x:=by
 have w:=zb x
 have wf:=zAJ x 5
 simp only [sumN] at wf
 have h0:=zAX (x.f 0);have t0:=zA0 (x.f 0).s
 have h1:(refB (tx ((x.f 1).f 0).s) ((x.f 1).f 1).l).length<=2*wD (x.f 1):=zJ1 (x.f 1)
 have h3:=zBJ K (x.f 3) (hw.f 3)
 have w3:=zb (x.f 3)
 have h4:=zAw K (x.f 4).l (hw.f 4).l
 have w4:=zn (x.f 4)
 unfold inB6
 split
 . simp only [List.length_append,List.length_cons,List.length_nil];omega
 . simp only [List.length_append,List.length_cons,List.length_nil];omega
theorem zIL (K:Nat) (l:List D) (h : ∀ i,wideD (gD l i)):(zJP K l).length<=40*bulkL l:=zBH l _ _ _ fun i _=>by
 have:=zKT K _ (h i);simp only [List.length_cons,List.length_nil];omega
theorem fdT_len (K:Nat) (x:D) (hw:wideD x):(fdT6 K x).length+3<=48*bulkD x:=by
 have w:=zb x
 have wf:=zAJ x 4
 simp only [sumN] at wf
 have h0:=zAX (x.f 0);have t0:=zA0 (x.f 0).s
 have h1:=zIL K (x.f 1).l (hw.f 1).l
 have w1:=zn (x.f 1)
 have h2:(refB (tx ((x.f 2).f 0).s) ((x.f 2).f 1).l).length<=2*wD (x.f 2):=zJ1 (x.f 2)
 have h3:=zAw K (x.f 3).l (hw.f 3).l
 have w3:=zn (x.f 3)
 unfold fdT6
 split
 . simp only [List.length_append,List.length_cons,List.length_nil];omega
 . simp only [List.length_append,List.length_cons,List.length_nil];omega
theorem mbT_len (K:Nat) (x:D) (hw:wideD x):(mbT6 K x).length+3<=48*bulkD x:=by
 have w:=zb x
 have wf:=zAJ x 2
 simp only [sumN] at wf
 have h0:=zAX (x.f 0);have t0:=zA0 (x.f 0).s
 have h1:=zAw K (x.f 1).l (hw.f 1).l
 have w1:=zn (x.f 1)
 unfold mbT6
 simp only [List.length_append];omega
theorem zEI {f:D->List UInt8} (l:List D) (h : ∀ i,i<l.length->(f (gD l i)).length+3<=48*bulkD (gD l i)):(zGM f l).length<=48*bulkL l:=by
 unfold zGM
 rw [zDz,zAg,<- zBK]
 refine zCi fun i hi => ?_
 have:=h i hi
 unfold lnF
 simp only [List.length_append,List.length_cons,List.length_nil];omega
theorem zKb (d:D):(fcT6 d).length<=12+4*bulkL (d.f 2).l:=by
 unfold fcT6
 split
 . have:(Lib.join ((d.f 2).l.map fun x=>tx x.s) [32,38,32]).length<=4*bulkL (d.f 2).l:=zBH _ _ _ _ fun i _=>by
    have:=zAX (gD (d.f 2).l i);have:=zb (gD (d.f 2).l i);have:=zA0 (gD (d.f 2).l i).s
    simp only [List.length_cons,List.length_nil];omega
   simp only [List.length_append,zFu,List.length_cons,List.length_nil];omega
 . exact Nat.zero_le _
theorem zFz (k:Int):(zBt k).length<=9:=by
 unfold zBt
 repeat' split
 all_goals decide
theorem zE4 (l:List D):(Lib.join (l.map fun x=>tx (x.f 0).s) [32,124,32]).length<=4*bulkL l:=zBH _ _ _ _ fun i _=>by
 have:=zAX ((gD l i).f 0);have:=zb (gD l i);have:=wD_f (gD l i) 0;have:=zA0 ((gD l i).f 0).s
 simp only [List.length_cons,List.length_nil];omega
theorem dfT_len (K:Nat) (d:D) (hw:wideD d):(dfT K d).length+1<=60*bulkD d:=by
 have w:=zb d
 have wf:=zAJ d 7
 simp only [sumN] at wf
 have h1:=zAX (d.f 1);have t1:=zA0 (d.f 1).s
 have h2:=zKb d
 have w2:=zn (d.f 2)
 have h3:=zAw K (d.f 3).l (hw.f 3).l
 have w3:=zn (d.f 3)
 have h4:=zEI (f:=fdT6 K) (d.f 4).l fun i _=>fdT_len K _ ((hw.f 4).l i)
 have w4:=zn (d.f 4)
 have h5:=zEI (f:=mbT6 K) (d.f 5).l fun i _=>mbT_len K _ ((hw.f 5).l i)
 have w5:=zn (d.f 5)
 have h6:=zEI (f:=inB6 K) (d.f 6).l fun i _=>by have:=zKT K _ ((hw.f 6).l i);omega
 have w6:=zn (d.f 6)
 have hu:=zE4 (d.f 5).l
 have hk:=zFz (d.f 0).n
 have hk3:=zFz 3
 have hb:(zCd K d).length<=48*bulkL (d.f 4).l+48*bulkL (d.f 5).l+48*bulkL (d.f 6).l:=by
  unfold zCd
  split
  . omega
  split<;>omega
 unfold dfT
 split
 . simp only [List.length_append,List.length_cons,List.length_nil];omega
 . simp only [hdS,List.length_append,List.length_cons,List.length_nil];omega
theorem sdlT_len (K:Nat) (l:List D) (h : ∀ i,wideD (gD l i)):(sdlT K l).length<=60*bulkL l:=zBH l _ _ _ fun i _=>by
 have:=dfT_len K _ (h i);simp only [List.length_cons,List.length_nil];omega
end
end Go.Proofs.YthppafnlnnpciaaGreatDoor
