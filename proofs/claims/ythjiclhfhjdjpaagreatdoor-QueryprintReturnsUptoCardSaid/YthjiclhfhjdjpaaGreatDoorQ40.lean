import Derived.Test.YthjiclhfhjdjpaaGreatDoorQ39
set_option maxHeartbeats 8000000
set_option maxRecDepth 100000
set_option linter.unusedVariables false
set_option linter.unusedSimpArgs false
namespace Go.Proofs.YthjiclhfhjdjpaaGreatDoor
def cSel (iC : List D -> List D) (s : D) : D:=selD (s.f 0).n (tx (s.f 1).s) (tx (s.f 2).s) (tx (s.f 3).s) (rgD cA (s.f 4).l) (rgD cDir (s.f 5).l) (iC (s.f 6).l)
def cSels : Nat -> List D -> List D
 | 0,_ => []
 | f + 1,l => rgD (cSel (cSels f)) l
theorem cSels_nil : ∀ f,cSels f [] = []
 | 0 => rfl
 | _ + 1 => rfl
def selEnd (r : KS) : Prop:=nS r [64] /\ nS r [40] /\ nS r [58] /\ nS r [123]
theorem zGW (k r : KS) (s : List UInt8) (h : ([123] == s) = false) : nS (blkK k ++ r) s:=zAh (by simpa using h)
theorem blk_is (k r : KS) (v : Bool) (n : Nat) : isS (pst (blkK k ++ r) v n) [123] = true:=zAS _ _ _ _
theorem sel_pst {sels : PS -> PR (List D)} {iK : List D -> KS} {iC : List D -> List D} {s : D} {sub : List D -> Nat -> Prop} (h : SelF sub s) (hw : wideD s) (hi0 : iC [] = [])
 (hsub : (s.f 6).l.length ≠ 0 -> ∀ r n,∃ n',sels (pst (blkK (iK (s.f 6).l) ++ r) true n) = .ok (iC (s.f 6).l,pst r true n')) (hin : (s.f 0).n = 3 -> (s.f 6).l.length ≠ 0) {r : KS} (hr : selEnd r) (n : Nat) :
 ∃ n',selQ sels (pst (selK iK s ++ r) true n) = .ok (cSel iC s,pst r true n'):=by
 obtain ⟨r1,r2,r3,r4⟩:=hr
 have hwd : ∀ i,wideD (gD (s.f 5).l i):=fun i => (hw.f 5).l i
 have hwa : ∀ i,wideD (gD (s.f 4).l i):=fun i => (hw.f 4).l i
 unfold selK
 by_cases k2 : (s.f 0).n = 2
 . obtain ⟨s1,s2,s3,s4,s5,s6⟩:=h.spread k2
   obtain ⟨n1,e1⟩:=zGS h.dirs hwd (r:=r) r1 r2 n
   rw [if_pos k2,List.cons_append,List.cons_append]
   unfold selQ
   rw [if_pos (zAS _ _ _ _),zAR (by decide)]
   dsimp only
   rw [zCu]
   dsimp only
   rw [if_pos ⟨rfl,s6⟩,zAR (by decide),e1,then_ok_eq]
   refine ⟨n1,?_⟩
   unfold cSel
   rw [k2,s1,s2,List.length_eq_zero_iff.1 s3,List.length_eq_zero_iff.1 s4,hi0,zIK]
 rw [if_neg k2]
 by_cases k3 : (s.f 0).n = 3
 . obtain ⟨s1,s2,s3,s4,-⟩:=h.inline k3
   obtain ⟨n1,e1⟩:=zGS h.dirs hwd (r:=blkK (iK (s.f 6).l) ++ r) (zGW _ _ _ (by decide)) (zGW _ _ _ (by decide)) n
   obtain ⟨n2,e2⟩:=hsub (hin k3) r n1
   rw [if_pos k3]
   by_cases e : tx (s.f 3).s = []
   . have ea : (1,[46,46,46]) :: ((if tx (s.f 3).s = [] then [] else [(2,onT),(2,tx (s.f 3).s)]) ++ (rgK dirK (s.f 5).l ++ blkK (iK (s.f 6).l))) ++ r = ((1 : Int),[(46 : UInt8),46,46]) :: (rgK dirK (s.f 5).l ++ (blkK (iK (s.f 6).l) ++ r)):=by
      rw [if_pos e]; simp
     have hk : (hdT (pst (rgK dirK (s.f 5).l ++ (blkK (iK (s.f 6).l) ++ r)) true n)).k = 1:=by
      unfold rgK
      cases hl : (s.f 5).l.length with
      | zero => rfl
      | succ m => rw [zBQ]; rfl
     rw [ea]
     unfold selQ
     rw [if_pos (zAS _ _ _ _),zAR (by decide)]
     dsimp only
     rw [if_neg (by rw [hk]; simp),if_neg (by rw [hk]; decide),then_ok_eq,e1,then_ok_eq,e2,then_ok_eq]
     refine ⟨n2,?_⟩
     unfold cSel
     rw [k3,s1,s2,e,List.length_eq_zero_iff.1 s3,zIK]
   . have ea : (1,[46,46,46]) :: ((if tx (s.f 3).s = [] then [] else [(2,onT),(2,tx (s.f 3).s)]) ++ (rgK dirK (s.f 5).l ++ blkK (iK (s.f 6).l))) ++ r = ((1 : Int),[(46 : UInt8),46,46]) :: (2,onT) :: (2,tx (s.f 3).s) :: (rgK dirK (s.f 5).l ++ (blkK (iK (s.f 6).l) ++ r)):=by
      rw [if_neg e]; simp
     rw [ea]
     unfold selQ
     rw [if_pos (zAS _ _ _ _),zAR (by decide)]
     dsimp only
     rw [zCu]
     dsimp only
     rw [if_neg (fun q => q.2 rfl),if_pos rfl,zAR (by decide),zAd,then_ok_eq,e1,then_ok_eq,e2,then_ok_eq]
     refine ⟨n2,?_⟩
     unfold cSel
     rw [k3,s1,s2,List.length_eq_zero_iff.1 s3,zIK]
 rw [if_neg k3]
 have k1 : (s.f 0).n = 1:=by rcases h.kind with h' | h' | h'; exact h'; exact absurd h' k2; exact absurd h' k3
 obtain ⟨s1,s2,s3,-⟩:=h.field k1
 -- what stands behind the directives
 have hfin : ∀ n,∃ n',(thenQ (if isS (pst ((if (s.f 6).l.length = 0 then [] else blkK (iK (s.f 6).l)) ++ r) true n) [123] = true then sels (pst ((if (s.f 6).l.length = 0 then [] else blkK (iK (s.f 6).l)) ++ r) true n) else .ok ([],pst ((if (s.f 6).l.length = 0 then [] else blkK (iK (s.f 6).l)) ++ r) true n)) fun ss o => (.ok (selD 1 (tx (s.f 1).s) (tx (s.f 2).s) [] (rgD cA (s.f 4).l) (rgD cDir (s.f 5).l) ss,o) : PR D)) = .ok (cSel iC s,pst r true n'):=fun n => by
  by_cases e : (s.f 6).l.length = 0
  . rw [if_pos e,List.nil_append,if_neg (by rw [r4]; decide),then_ok_eq]
    refine ⟨n,?_⟩
    unfold cSel
    rw [k1,s1,List.length_eq_zero_iff.1 e,hi0]
  . obtain ⟨n',e'⟩:=hsub e r n
    rw [if_neg e,if_pos (blk_is _ _ _ _),e',then_ok_eq]
    refine ⟨n',?_⟩
    unfold cSel
    rw [k1,s1]
 have hend : ∀ q,([123] == q) = false -> nS r q -> nS ((if (s.f 6).l.length = 0 then [] else blkK (iK (s.f 6).l)) ++ r) q:=fun q hq hq2 => by
  split
  . exact hq2
  . exact zGW _ _ _ hq
 have hd1:=hend [64] (by decide) r1
 have hd2:=hend [40] (by decide) r2
 have hd3:=hend [58] (by decide) r3
 generalize hZ : (if (s.f 6).l.length = 0 then [] else blkK (iK (s.f 6).l)) ++ r = Z at *
 obtain ⟨n1,e1⟩:=zJ7 h.args hwa (r:=rgK dirK (s.f 5).l ++ Z) (nS_dirs (by decide) hd2) n
 obtain ⟨n2,e2⟩:=zGS h.dirs hwd (r:=Z) hd1 hd2 n1
 obtain ⟨n3,e3⟩:=hfin n2
 refine ⟨n3,?_⟩
 have n58 : nS (parK (s.f 4).l ++ (rgK dirK (s.f 5).l ++ Z)) [58]:=nS_par (by decide) (nS_dirs (by decide) hd3)
 by_cases e : tx (s.f 1).s = []
 . have ea : (if tx (s.f 1).s = [] then [] else [(2,tx (s.f 1).s),(1,[58])]) ++ ((2,tx (s.f 2).s) :: (parK (s.f 4).l ++ (rgK dirK (s.f 5).l ++ (if (s.f 6).l.length = 0 then [] else blkK (iK (s.f 6).l))))) ++ r = (2,tx (s.f 2).s) :: (parK (s.f 4).l ++ (rgK dirK (s.f 5).l ++ Z)):=by
    rw [if_pos e,<- hZ]; simp
   rw [ea]
   rw [e] at e3
   unfold selQ
   rw [if_neg (by rw [zB3]; simp),zAd,then_ok_eq,if_neg (by rw [n58]; decide),then_ok_eq,e1,then_ok_eq,e2,then_ok_eq]
   exact e3
 . have ea : (if tx (s.f 1).s = [] then [] else [(2,tx (s.f 1).s),(1,[58])]) ++ ((2,tx (s.f 2).s) :: (parK (s.f 4).l ++ (rgK dirK (s.f 5).l ++ (if (s.f 6).l.length = 0 then [] else blkK (iK (s.f 6).l))))) ++ r = (2,tx (s.f 1).s) :: (1,[58]) :: (2,tx (s.f 2).s) :: (parK (s.f 4).l ++ (rgK dirK (s.f 5).l ++ Z)):=by
    rw [if_neg e,<- hZ]; simp
   rw [ea]
   unfold selQ
   rw [if_neg (by rw [zB3]; simp),zAd,then_ok_eq,if_pos (zAS _ _ _ _),zAR (by decide),zAd,then_ok_eq,then_ok_eq,e1,then_ok_eq,e2,then_ok_eq]
   exact e3
theorem zCJ (iK : List D -> KS) (s : D) (r : KS) {t : List UInt8} (h : ([46,46,46] == t) = false) : nS (selK iK s ++ r) t:=by
 unfold selK
 split
 . exact zAh (by simpa using h)
 split
 . exact zAh (by simpa using h)
 . split
   . exact zAh (by simp)
   . exact zAh (by simp)
theorem selK_ne (iK : List D -> KS) (s : D) : 1 <= (selK iK s).length:=by
 unfold selK
 split
 . simp
 split
 . simp
 . simp
   omega
theorem zI8 {sel : PS -> PR D} {iK : List D -> KS} {c : D -> D} {l : List D} (hl : l.length <= 64) (h0 : 0 < l.length) (hs : ∀ i r n,i < l.length -> selEnd r -> ∃ n',sel (pst (selK iK (gD l i) ++ r) true n) = .ok (c (gD l i),pst r true n')) :
 ∀ (m j f : Nat) (r : KS) (n : Nat),j + m = l.length -> m < f -> ∃ n',setF sel f ((List.range j).map fun i => c (gD l i)) (pst (gK (fun i => selK iK (gD l i)) j m ++ (1,[125]) :: r) true n) = .ok (rgD c l,pst r true n')
 | _,_,0,_,_,_,hf => by omega
 | 0,j,f + 1,r,n,hj,_ => by
   have e : j = l.length:=by omega
   subst e
   unfold setF
   rw [zDA,zCS,List.nil_append,if_pos ⟨by omega,zAS _ _ _ _⟩,zAR (by decide)]
   exact ⟨n,rfl⟩
 | m + 1,j,f + 1,r,n,hj,hf => by
   have hj2 : j < l.length:=by omega
   have hend : selEnd (gK (fun i => selK iK (gD l i)) (j + 1) m ++ (1,[125]) :: r):=
    ⟨zIR (fun i r => zCJ _ _ _ (by decide)) (zAh (by decide)),zIR (fun i r => zCJ _ _ _ (by decide)) (zAh (by decide)),
      zIR (fun i r => zCJ _ _ _ (by decide)) (zAh (by decide)),zIR (fun i r => zCJ _ _ _ (by decide)) (zAh (by decide))⟩
   obtain ⟨n1,e1⟩:=hs j _ n hj2 hend
   obtain ⟨n',ih⟩:=zI8 hl h0 hs m (j + 1) f r n1 (by omega) (by omega)
   refine ⟨n',?_⟩
   unfold setF
   rw [zDA,zBQ,List.append_assoc,if_neg (fun q => by have:=q.2; rw [zCJ iK (gD l j) _ (t:=[125]) (by decide)] at this; cases this),if_neg (fun q => by omega),e1,then_ok_eq]
   rw [List.range_succ,List.map_append] at ih
   exact ih
def SDp : Nat -> List D -> Prop
 | 0,l => l = []
 | f + 1,l => ∀ i,i < l.length -> SDp f ((gD l i).f 6).l
theorem SelsOk.sdp {K : Nat} : ∀ {f : Nat} {l : List D},SelsOk K f l -> SDp f l
 | 0,_,h => h
 | _ + 1,_,h => fun i hi => SelsOk.sdp (h i hi).sub
theorem zI9 : ∀ (f k lv F : Nat) (l : List D),SDp f l -> SetF (fun d => selR k lv d = true) lv l 1 -> (∀ i,wideD (gD l i)) -> F + lv = 26 -> ∀ (r : KS) (n : Nat),∃ n',selsQ F lv (pst (blkK (selsK f l) ++ r) true n) = .ok (cSels f l,pst r true n')
 | 0,_,_,_,l,h,hs,_,_,_,_ => by
   have h : l = []:=h
   subst h
   exact absurd hs.1 (by simp)
 | f + 1,k,lv,F,l,h,hs,hw,hF,r,n => by
   obtain ⟨l1,l2,l3,l4⟩:=hs
   have hlv : lv <= 24:=by omega
   obtain ⟨F,rfl⟩ : ∃ q,F = q + 1:=⟨F - 1,by omega⟩
   have hone : ∀ i r n,i < l.length -> selEnd r -> ∃ n',selQ (selsQ F (lv + 1)) (pst (selK (selsK f) (gD l i) ++ r) true n) = .ok (cSel (cSels f) (gD l i),pst r true n'):=fun i r n hi hr => by
    have h4:=l4 i hi
    cases k with
    | zero => cases h4
    | succ k =>
      have hs:=xsel h4
      refine sel_pst hs (hw i) (cSels_nil f) (fun hne r n => ?_) (fun e => ?_) hr n
      . have hset : SetF (fun d => selR k (lv + 1) d = true) (lv + 1) ((gD l i).f 6).l 1:=by
         rcases hs.kind with e | e | e
         . have:=(hs.field e).2.2.2; exact ⟨by omega,this.2⟩
         . exact absurd (hs.spread e).2.2.2.1 hne
         . exact (hs.inline e).2.2.2.2
        exact zI9 f k (lv + 1) F _ (h i hi) hset (fun j => ((hw i).f 6).l j) (by omega) r n
      . have:=(hs.inline e).2.2.2.2.1; omega
   have hlen:=zDU (fun i => selK (selsK f) (gD l i)) (fun i => selK_ne _ _) l.length 0
   obtain ⟨n',e'⟩:=zI8 (c:=cSel (cSels f)) l2 (by omega) hone l.length 0 ((gK (fun i => selK (selsK f) (gD l i)) 0 l.length ++ (1,[125]) :: r).length + 1) r n (by omega) (by rw [List.length_append]; omega)
   refine ⟨n',?_⟩
   have ea : blkK (selsK (f + 1) l) ++ r = (1,[123]) :: (gK (fun i => selK (selsK f) (gD l i)) 0 l.length ++ (1,[125]) :: r):=by simp [blkK,selsK,rgK]
   rw [ea]
   unfold selsQ
   rw [if_neg (fun q => by omega),zA7,then_ok_eq]
   rw [show (pst (gK (fun i => selK (selsK f) (gD l i)) 0 l.length ++ (1,[125]) :: r) true n).ts.length = (gK (fun i => selK (selsK f) (gD l i)) 0 l.length ++ (1,[125]) :: r).length by simp [pst]]
   exact e'
theorem zIE {f k : Nat} {l : List D} (h : SDp f l) (hs : SetF (fun d => selR k 1 d = true) 1 l 1) (hw : ∀ i,wideD (gD l i)) (r : KS) (n : Nat) : ∃ n',setQ (pst (blkK (selsK f l) ++ r) true n) = .ok (cSels f l,pst r true n'):=
 zI9 f k 1 25 l h hs hw rfl r n
def cVar (v : D) : D:=varD (tx (v.f 0).s) (refD (tx ((v.f 1).f 0).s) (((v.f 1).f 1).l.map D.n)) (v.f 2).b (cL (v.f 3))
theorem zGl {l : List D} (h : ∀ i,i < l.length -> VarF (gD l i)) (hl : l.length <= 16) (hw : ∀ i,wideD (gD l i)) (h0 : 0 < l.length) : ∀ (m j f : Nat) (r : KS) (n : Nat),j + m = l.length -> m < f ->
 ∃ n',varsF f ((List.range j).map fun i => cVar (gD l i)) (pst (gK (fun i => varK (gD l i)) j m ++ (1,[41]) :: r) true n) = .ok (rgD cVar l,pst r true n')
 | _,_,0,_,_,_,hf => by omega
 | 0,j,f + 1,r,n,hj,_ => by
   have e : j = l.length:=by omega
   subst e
   unfold varsF
   rw [zDA,zCS,List.nil_append,if_pos ⟨by omega,zAS _ _ _ _⟩,zAR (by decide)]
   exact ⟨n,rfl⟩
 | m + 1,j,f + 1,r,n,hj,hf => by
   have hj2 : j < l.length:=by omega
   have hv:=h j hj2
   have ih:=fun n => zGl h hl hw h0 m (j + 1) f r n (by omega) (by omega)
   have hrest : ∀ t,([36] == t) = false -> ([41] == t) = false -> nS (gK (fun i => varK (gD l i)) (j + 1) m ++ (1,[41]) :: r) t:=fun t h1 h2 => zIR (fun i r => zAh (by simpa using h1)) (zAh (by simpa using h2))
   have n33:=hrest [33] (by decide) (by decide)
   have n61:=hrest [61] (by decide) (by decide)
   rw [zBQ,List.append_assoc]
   rw [List.range_succ,List.map_append] at ih
   generalize hZ : gK (fun i => varK (gD l i)) (j + 1) m ++ (1,[41]) :: r = Z at *
   unfold varsF
   rw [zDA]
   by_cases hb : ((gD l j).f 2).b = true
   . obtain ⟨b1,b2⟩:=hv.has hb
     obtain ⟨n',e'⟩:=ih (sizeR (bulkD ((gD l j).f 3)) ((gD l j).f 3))
     refine ⟨n',?_⟩
     have ea : varK (gD l j) ++ Z = (1,[36]) :: (2,tx ((gD l j).f 0).s) :: (1,[58]) :: (refK (tx (((gD l j).f 1).f 0).s) (((gD l j).f 1).f 1).l ++ ((1,[61]) :: (litK ((gD l j).f 3) ++ Z))):=by
      unfold varK; rw [if_pos hb]; simp
     rw [ea,if_neg (fun q => by have:=q.2; rw [zB3] at this; simp at this),if_neg (fun q => by omega),zA7,then_ok_eq,zAd,then_ok_eq,zA7,then_ok_eq,typ_pst hv.wraps hv.rlen (zAh (by decide)),then_ok_eq,if_pos (zAS _ _ _ _),zAR (by decide)]
     have ew:=zGg (d:=(gD l j).f 3) (r:=Z) (v:=false) (n:=n) b1 ((hw j).f 3) (fun _ => b2)
     rw [show ({ pst (litK ((gD l j).f 3) ++ Z) true n with vr:=false } : PS) = pst (litK ((gD l j).f 3) ++ Z) false n from rfl,ew,then_ok_eq,then_ok_eq]
     have ec : cVar (gD l j) = varD (tx ((gD l j).f 0).s) (refD (tx (((gD l j).f 1).f 0).s) ((((gD l j).f 1).f 1).l.map D.n)) true (cL ((gD l j).f 3)):=by unfold cVar; rw [hb]
     rw [List.map_cons,List.map_nil,ec] at e'
     exact e'
   . have hb2 : ((gD l j).f 2).b = false:=by simpa using hb
     obtain ⟨b1,b2,b3,b4,b5⟩:=hv.hasnt hb2
     obtain ⟨n',e'⟩:=ih n
     refine ⟨n',?_⟩
     have ea : varK (gD l j) ++ Z = (1,[36]) :: (2,tx ((gD l j).f 0).s) :: (1,[58]) :: (refK (tx (((gD l j).f 1).f 0).s) (((gD l j).f 1).f 1).l ++ Z):=by
      unfold varK; rw [if_neg hb]; simp
     rw [ea,if_neg (fun q => by have:=q.2; rw [zB3] at this; simp at this),if_neg (fun q => by omega),zA7,then_ok_eq,zAd,then_ok_eq,zA7,then_ok_eq,typ_pst hv.wraps hv.rlen n33,then_ok_eq,if_neg (by rw [n61]; decide),then_ok_eq]
     have ec : cVar (gD l j) = varD (tx ((gD l j).f 0).s) (refD (tx (((gD l j).f 1).f 0).s) ((((gD l j).f 1).f 1).l.map D.n)) false zE9:=by
      unfold cVar
      rw [hb2]
      congr 1
      unfold cL
      obtain ⟨k,hk⟩ : ∃ k,bulkD ((gD l j).f 3) = k + 1:=⟨bulkD ((gD l j).f 3) - 1,by have:=zAa ((gD l j).f 3); omega⟩
      rw [hk,(zBy (k:=k) b4 b5).1,b1,b2,b3]
      rfl
     rw [List.map_cons,List.map_nil,ec] at e'
     exact e'
def cOp (f : Nat) (o : D) : D:=opD (o.f 0).n (tx (o.f 1).s) (rgD cVar (o.f 2).l) (cSels f (o.f 3).l)
def zHm (f : Nat) (o : D) : D:=zIY (tx (o.f 0).s) (tx (o.f 1).s) (cSels f (o.f 2).l)
def cDoc (f : Nat) (q : D) : D:=queD (rgD (cOp f) (q.f 0).l) (rgD (zHm f) (q.f 1).l)
theorem word_kind {k : Int} (h : 1 <= k /\ k <= 3) : zBK (zBn k) = k:=by
 have : k = 1 \/ k = 2 \/ k = 3:=by omega
 rcases this with rfl | rfl | rfl <;> rfl
theorem op_pst {f : Nat} {o : D} (h : OpF o) (hd : SDp f (o.f 3).l) (hw : wideD o) (r : KS) (n : Nat) :
 ∃ n',opQ (o.f 0).n (pst ((if tx (o.f 1).s = [] then [] else [(2,tx (o.f 1).s)]) ++ (varsK (o.f 2).l ++ (blkK (selsK f (o.f 3).l) ++ r))) true n) = .ok (cOp f o,pst r true n'):=by
 have hv : ∀ n,∃ n',(if isS (pst (varsK (o.f 2).l ++ (blkK (selsK f (o.f 3).l) ++ r)) true n) [40] = true then varsF (pst (varsK (o.f 2).l ++ (blkK (selsK f (o.f 3).l) ++ r)) true n).ts.length [] (nxT (pst (varsK (o.f 2).l ++ (blkK (selsK f (o.f 3).l) ++ r)) true n)) else .ok ([],pst (varsK (o.f 2).l ++ (blkK (selsK f (o.f 3).l) ++ r)) true n)) = (.ok (rgD cVar (o.f 2).l,pst (blkK (selsK f (o.f 3).l) ++ r) true n') : PR (List D)):=fun n => by
  unfold varsK
  by_cases h0 : (o.f 2).l.length = 0
  . rw [if_pos h0,List.nil_append,if_neg (by rw [zGW _ _ _ (by decide)]; decide),List.length_eq_zero_iff.1 h0]
    exact ⟨n,rfl⟩
  . have e : (1,[40]) :: (rgK varK (o.f 2).l ++ [(1,[41])]) ++ (blkK (selsK f (o.f 3).l) ++ r) = ((1 : Int),[(40 : UInt8)]) :: (gK (fun i => varK (gD (o.f 2).l i)) 0 (o.f 2).l.length ++ (1,[41]) :: (blkK (selsK f (o.f 3).l) ++ r)):=by simp [rgK]
    have hlen:=zDU (fun i => varK (gD (o.f 2).l i)) (fun i => by simp [varK]) (o.f 2).l.length 0
    rw [if_neg h0,e,if_pos (zAS _ _ _ _),zAR (by decide)]
    exact zGl h.vars h.vlen (fun i => (hw.f 2).l i) (by omega) _ 0 _ _ n (by omega) (by simp only [pst,List.length_map,List.length_cons,List.length_append]; omega)
 have key : ∀ n,∃ n',(thenQ (if isS (pst (varsK (o.f 2).l ++ (blkK (selsK f (o.f 3).l) ++ r)) true n) [40] = true then varsF (pst (varsK (o.f 2).l ++ (blkK (selsK f (o.f 3).l) ++ r)) true n).ts.length [] (nxT (pst (varsK (o.f 2).l ++ (blkK (selsK f (o.f 3).l) ++ r)) true n)) else .ok ([],pst (varsK (o.f 2).l ++ (blkK (selsK f (o.f 3).l) ++ r)) true n)) fun vs z => thenQ (setQ z) fun ss u => (.ok (opD (o.f 0).n (tx (o.f 1).s) vs ss,u) : PR D)) = .ok (cOp f o,pst r true n'):=fun n => by
  obtain ⟨n1,e1⟩:=hv n
  obtain ⟨n2,e2⟩:=zIE hd h.sels (fun i => (hw.f 3).l i) r n1
  rw [e1,then_ok_eq,e2,then_ok_eq]
  exact ⟨n2,rfl⟩
 unfold opQ
 by_cases e : tx (o.f 1).s = []
 . have hk : (hdT (pst (varsK (o.f 2).l ++ (blkK (selsK f (o.f 3).l) ++ r)) true n)).k = 1:=by
    unfold varsK
    split <;> rfl
   obtain ⟨n',e'⟩:=key n
   rw [if_pos e,List.nil_append,if_neg (by rw [hk]; decide),then_ok_eq]
   rw [e] at e'
   exact ⟨n',e'⟩
 . obtain ⟨n',e'⟩:=key n
   rw [if_neg e,List.cons_append,List.nil_append,zCu,if_pos rfl,zAR (by decide),then_ok_eq]
   exact ⟨n',e'⟩
theorem frag_pst {f : Nat} {o : D} (h : FragF o) (hd : SDp f (o.f 2).l) (hw : wideD o) (r : KS) (n : Nat) :
 ∃ n',fragQ (pst ((2,tx (o.f 0).s) :: (2,onT) :: (2,tx (o.f 1).s) :: (blkK (selsK f (o.f 2).l) ++ r)) true n) = .ok (zHm f o,pst r true n'):=by
 obtain ⟨n2,e2⟩:=zIE hd h.sels (fun i => (hw.f 2).l i) r n
 unfold fragQ
 rw [zCu]
 dsimp only
 rw [if_neg (show ¬ tx (o.f 0).s = onT from h.notOn),zAd,then_ok_eq,zCu,if_pos ⟨rfl,rfl⟩,zAR (by decide),zAd,then_ok_eq,e2,then_ok_eq]
 exact ⟨n2,rfl⟩
theorem opK_ne (f : Nat) (o : D) : 1 <= (opK f o).length:=by
 unfold opK
 split <;> simp [blkK]
theorem frgK_ne (f : Nat) (o : D) : 1 <= (frgK f o).length:=by simp [frgK]
structure QuePs (f : Nat) (q : D) : Prop where
 right : QueF q
 wide : wideD q
 ops : ∀ i,i < (q.f 0).l.length -> SDp f ((gD (q.f 0).l i).f 3).l
 frags : ∀ i,i < (q.f 1).l.length -> SDp f ((gD (q.f 1).l i).f 2).l
theorem zFZ {f : Nat} {q : D} (h : QuePs f q) : ∀ (m j F : Nat) (n : Nat),j + m = (q.f 1).l.length -> m < F ->
 ∃ z,docF F ((q.f 0).l.length + j) (rgD (cOp f) (q.f 0).l) ((List.range j).map fun i => zHm f (gD (q.f 1).l i)) (pst (gK (fun i => frgK f (gD (q.f 1).l i)) j m ++ [endK5]) true n) = .ok ((rgD (cOp f) (q.f 0).l,rgD (zHm f) (q.f 1).l),z)
 | _,_,0,_,_,hf => by omega
 | 0,j,F + 1,n,hj,_ => by
   have e : j = (q.f 1).l.length:=by omega
   subst e
   have hl:=h.right.len
   unfold docF
   rw [zCS,List.nil_append,if_pos ⟨by omega,rfl⟩]
   exact ⟨_,rfl⟩
 | m + 1,j,F + 1,n,hj,hf => by
   have hj2 : j < (q.f 1).l.length:=by omega
   have hl:=h.right.len
   obtain ⟨n1,e1⟩:=frag_pst (h.right.frags j hj2) (h.frags j hj2) ((h.wide.f 1).l j) (gK (fun i => frgK f (gD (q.f 1).l i)) (j + 1) m ++ [endK5]) n
   obtain ⟨z,ih⟩:=zFZ h m (j + 1) F n1 (by omega) (by omega)
   refine ⟨z,?_⟩
   have ea : gK (fun i => frgK f (gD (q.f 1).l i)) j (m + 1) ++ [endK5] = (2,zHS) :: (2,tx ((gD (q.f 1).l j).f 0).s) :: (2,onT) :: (2,tx ((gD (q.f 1).l j).f 1).s) :: (blkK (selsK f ((gD (q.f 1).l j).f 2).l) ++ (gK (fun i => frgK f (gD (q.f 1).l i)) (j + 1) m ++ [endK5])):=by
    rw [zBQ]; simp [frgK]
   unfold docF
   rw [ea,zCu]
   dsimp only
   rw [if_neg (fun q => by have:=q.2; simp at this),if_neg (fun q => q.1 ⟨rfl,.inr rfl⟩),if_neg (by omega),if_neg (fun q => q ⟨rfl,.inr rfl⟩),if_neg (by decide),zAR (by decide),e1,then_ok_eq]
   rw [List.range_succ,List.map_append] at ih
   exact ih
theorem zGQ {f : Nat} {q : D} (h : QuePs f q) : ∀ (m j F : Nat) (n : Nat),j + m = (q.f 0).l.length -> m + (q.f 1).l.length < F ->
 ∃ z,docF F j ((List.range j).map fun i => cOp f (gD (q.f 0).l i)) [] (pst (gK (fun i => opK f (gD (q.f 0).l i)) j m ++ (rgK (frgK f) (q.f 1).l ++ [endK5])) true n) = .ok ((rgD (cOp f) (q.f 0).l,rgD (zHm f) (q.f 1).l),z)
 | _,_,0,_,_,hf => by omega
 | 0,j,F + 1,n,hj,hF => by
   have e : j = (q.f 0).l.length:=by omega
   subst e
   rw [zCS,List.nil_append]
   have:=zFZ h (q.f 1).l.length 0 (F + 1) n (by omega) (by omega)
   exact this
 | m + 1,j,F + 1,n,hj,hf => by
   have hj2 : j < (q.f 0).l.length:=by omega
   have hl:=h.right.len
   have ho:=h.right.ops j hj2
   rw [zBQ,List.append_assoc]
   by_cases ha : ((gD (q.f 0).l j).f 0).n = 1 /\ tx ((gD (q.f 0).l j).f 1).s = [] /\ ((gD (q.f 0).l j).f 2).l.length = 0
   . obtain ⟨n1,e1⟩:=zIE (h.ops j hj2) ho.sels (fun i => (((h.wide.f 0).l j).f 3).l i) (gK (fun i => opK f (gD (q.f 0).l i)) (j + 1) m ++ (rgK (frgK f) (q.f 1).l ++ [endK5])) n
     obtain ⟨z,ih⟩:=zGQ h m (j + 1) F n1 (by omega) (by omega)
     refine ⟨z,?_⟩
     have ea : opK f (gD (q.f 0).l j) = blkK (selsK f ((gD (q.f 0).l j).f 3).l):=by unfold opK; rw [if_pos ha]
     have hk : ∀ Z,hdT (pst (blkK (selsK f ((gD (q.f 0).l j).f 3).l) ++ Z) true n) = ⟨1,[123],0⟩:=fun Z => rfl
     unfold docF
     rw [ea,hk]
     dsimp only
     rw [if_neg (fun q => by have:=q.2; simp at this),if_neg (fun q => q.2 (blk_is _ _ _ _)),if_neg (by omega),if_pos (fun q => by have:=q.1; simp at this),e1,then_ok_eq]
     rw [List.range_succ,List.map_append,List.map_cons,List.map_nil] at ih
     have ec : cOp f (gD (q.f 0).l j) = opD 1 [] [] (cSels f ((gD (q.f 0).l j).f 3).l):=by
      unfold cOp
      rw [ha.1,ha.2.1,List.length_eq_zero_iff.1 ha.2.2]; rfl
     rw [ec] at ih
     exact ih
   . obtain ⟨n1,e1⟩:=op_pst ho (h.ops j hj2) ((h.wide.f 0).l j) (gK (fun i => opK f (gD (q.f 0).l i)) (j + 1) m ++ (rgK (frgK f) (q.f 1).l ++ [endK5])) n
     obtain ⟨z,ih⟩:=zGQ h m (j + 1) F n1 (by omega) (by omega)
     refine ⟨z,?_⟩
     have ea : opK f (gD (q.f 0).l j) ++ (gK (fun i => opK f (gD (q.f 0).l i)) (j + 1) m ++ (rgK (frgK f) (q.f 1).l ++ [endK5])) = (2,zBn ((gD (q.f 0).l j).f 0).n) :: ((if tx ((gD (q.f 0).l j).f 1).s = [] then [] else [(2,tx ((gD (q.f 0).l j).f 1).s)]) ++ (varsK ((gD (q.f 0).l j).f 2).l ++ (blkK (selsK f ((gD (q.f 0).l j).f 3).l) ++ (gK (fun i => opK f (gD (q.f 0).l i)) (j + 1) m ++ (rgK (frgK f) (q.f 1).l ++ [endK5]))))):=by
      unfold opK; rw [if_neg ha]; simp
     have hk:=word_kind ho.kind
     have hkp : 0 < zBK (zBn ((gD (q.f 0).l j).f 0).n):=by rw [hk]; have:=ho.kind; omega
     unfold docF
     rw [ea,zCu]
     dsimp only
     rw [if_neg (fun q => by have:=q.2; simp at this),if_neg (fun q => q.1 ⟨rfl,.inl hkp⟩),if_neg (by omega),if_neg (fun q => q ⟨rfl,.inl hkp⟩),if_pos hkp,zAR (by decide),hk,e1,then_ok_eq]
     rw [List.range_succ,List.map_append] at ih
     exact ih
theorem doc_pst {f : Nat} {q : D} (h : QuePs f q) : ∃ z,docQ ((docK f q ++ [endK5]).map mkT) = .ok ((rgD (cOp f) (q.f 0).l,rgD (zHm f) (q.f 1).l),z):=by
 have h1:=zDU (fun i => opK f (gD (q.f 0).l i)) (fun i => opK_ne _ _) (q.f 0).l.length 0
 have h2:=zDU (fun i => frgK f (gD (q.f 1).l i)) (fun i => frgK_ne _ _) (q.f 1).l.length 0
 have:=zGQ h (q.f 0).l.length 0 (((docK f q ++ [endK5]).map mkT).length + 1) 0 (by omega) (by
  simp only [docK,rgK,List.length_map,List.length_append]; omega)
 unfold docQ
 rw [show gK (fun i => opK f (gD (q.f 0).l i)) 0 (q.f 0).l.length ++ (rgK (frgK f) (q.f 1).l ++ [endK5]) = docK f q ++ [endK5] by simp [docK,rgK]] at this
 exact this
theorem parse_docT {K f : Nat} {q : D} (hq : queR q = true) (hd : DocOk K f q) (hlen : (docT K (f + 1) q).length <= 65536) : zHF (docT K (f + 1) q) = .ok (cDoc (f + 1) q):=by
 have hF:=xque hq
 have hps:=docT_ps hF hd.vars hd.sels hd.frag
 have hlex : Lex (docT K (f + 1) q) (docK (f + 1) q):=by
  have:=hps [] [] (.done rfl)
  rwa [List.append_nil,List.append_nil] at this
 obtain ⟨ts,h1,h2⟩:=hlex.scan ((docT K (f + 1) q).length + 1) 0 (by omega)
 obtain ⟨z,h3⟩:=doc_pst (f:=f + 1) (q:=q) ⟨hF,hd.wide,fun i hi => (hd.sels i hi).sdp,fun i hi => (hd.frag i hi).sdp⟩
 obtain ⟨z',h4⟩:=(doc_like (ts:=(docK (f + 1) q ++ [endK5]).map mkT) (ts':=ts) (by rw [h2,List.map_map]; exact (List.map_id _).symm)).1 _ _ h3
 unfold zHF zCK
 rw [if_neg (by omega),h1]
 dsimp only
 rw [h4]
 rfl
end Go.Proofs.YthjiclhfhjdjpaaGreatDoor
namespace Go.Proofs.YthjiclhfhjdjpaaGreatDoor
open Go.RowKit
theorem zB4 {k : Nat} {d : D} (h : Fits Tryz.prog k 9 d) : ∃ s,d = .str s:=by
 cases k with
 | zero => exact h.elim
 | succ k => unfold Fits at h; rw [Tryz.underlying9] at h; exact h
theorem zHT {k : Nat} {d : D} (h : Fits Tryz.prog k 3 d) : ∃ n,d = .int n:=by
 cases k with
 | zero => exact h.elim
 | succ k => unfold Fits at h; rw [Tryz.underlying3] at h; exact h
theorem fits_b {k : Nat} {d : D} (h : Fits Tryz.prog k 4 d) : ∃ n,d = .bool n:=by
 cases k with
 | zero => exact h.elim
 | succ k => unfold Fits at h; rw [Tryz.underlying4] at h; exact h
theorem zBb {P : Program} {t e : TypeId} (hu : P.underlying t = some (.slice e)) {k : Nat} {d : D} (h : Fits P k t d) : ∃ j l,d = .list l /\ ∀ i,i < l.length -> Fits P j e (gD l i):=by
 cases k with
 | zero => exact h.elim
 | succ k => unfold Fits at h; rw [hu] at h; exact ⟨k,h⟩
theorem zCv {P : Program} {t : TypeId} {fs : Array Field} (hu : P.underlying t = some (.struct fs)) {k : Nat} {d : D} (h : Fits P k t d) : ∃ j l,d = .obj l /\ l.length = fs.size /\ ∀ i f,fs[i]? = some f -> Fits P j f.type (gD l i):=by
 cases k with
 | zero => exact h.elim
 | succ k => unfold Fits at h; rw [hu] at h; exact ⟨k,h⟩
theorem len2 {l : List D} (h : l.length = 2) : l = [gD l 0,gD l 1]:=by
 match l,h with
 | [a,b],_ => rfl
theorem len3 {l : List D} (h : l.length = 3) : l = [gD l 0,gD l 1,gD l 2]:=by
 match l,h with
 | [a,b,c],_ => rfl
theorem len4 {l : List D} (h : l.length = 4) : l = [gD l 0,gD l 1,gD l 2,gD l 3]:=by
 match l,h with
 | [a,b,c,d],_ => rfl
theorem len5 {l : List D} (h : l.length = 5) : l = [gD l 0,gD l 1,gD l 2,gD l 3,gD l 4]:=by
 match l,h with
 | [a,b,c,d,e],_ => rfl
theorem len7 {l : List D} (h : l.length = 7) : l = [gD l 0,gD l 1,gD l 2,gD l 3,gD l 4,gD l 5,gD l 6]:=by
 match l,h with
 | [a,b,c,d,e,f,g],_ => rfl
theorem zB2 (s : ByteArray) : strD (tx s) = .str s:=by unfold strD tx; simp
theorem zDO {c : D -> D} {l : List D} (h : ∀ i,i < l.length -> c (gD l i) = gD l i) : rgD c l = l:=by
 unfold rgD
 apply List.ext_getElem (by simp)
 intro i h1 h2
 have:=h i h2
 rw [zAx h2] at this
 simp [zAx h2,this]
theorem zHJ {c : D -> D} {l : List D} (h : ∀ i,i < l.length -> c (gD l i) = gD l i) : l.map c = l:=by
 have:=zDO h
 unfold rgD at this
 have e : l.map c = (List.range l.length).map fun i => c (gD l i):=by
  apply List.ext_getElem (by simp)
  intro i h1 h2
  simp [zAx (l:=l) (i:=i) (by simpa using h1)]
 rw [e,this]
theorem cnV_id : ∀ (k : Nat) {j : Nat} {d : D},Fits Tryz.prog j 84 d -> cnV k d = d
 | 0,_,_,_ => rfl
 | k + 1,j,d,h => by
   obtain ⟨j,l,rfl,hl,hf⟩:=zCv Tryz.underlying84 h
   have hl : l.length = 5:=hl
   obtain ⟨n0,e0⟩:=zHT (hf 0 _ rfl)
   obtain ⟨n1,e1⟩:=zHT (hf 1 _ rfl)
   obtain ⟨s2,e2⟩:=zB4 (hf 2 _ rfl)
   obtain ⟨j3,l3,e3,h3⟩:=zBb Tryz.underlying82 (hf 3 _ rfl)
   obtain ⟨j4,l4,e4,h4⟩:=zBb Tryz.underlying22 (hf 4 _ rfl)
   rw [len5 hl,e0,e1,e2,e3,e4]
   show valD n0 n1 (tx s2) ((List.range l3.length).map fun i => cnV k (gD l3 i)) (l4.map fun x => x.s.data.toList) = _
   have a : ((List.range l3.length).map fun i => cnV k (gD l3 i)) = l3:=zDO fun i hi => cnV_id k (h3 i hi)
   have b : (l4.map fun x => x.s.data.toList).map strD = l4:=by
    rw [List.map_map]
    refine zHJ fun i hi => ?_
    obtain ⟨s,e⟩:=zB4 (h4 i hi)
    rw [e]
    exact zB2 s
   unfold valD
   rw [a,b,zB2]
theorem cL_id {j : Nat} {d : D} (h : Fits Tryz.prog j 84 d) : cL d = d:=cnV_id _ h
theorem cA_id {j : Nat} {d : D} (h : Fits Tryz.prog j 86 d) : cA d = d:=by
 obtain ⟨j,l,rfl,hl,hf⟩:=zCv Tryz.underlying86 h
 have hl : l.length = 2:=hl
 obtain ⟨s0,e0⟩:=zB4 (hf 0 _ rfl)
 have h1 : Fits Tryz.prog j 84 (gD l 1):=hf 1 _ rfl
 rw [len2 hl,e0]
 show argD (tx s0) (cL (gD l 1)) = _
 rw [cL_id h1]
 unfold argD
 rw [zB2]
theorem cDir_id {j : Nat} {d : D} (h : Fits Tryz.prog j 150 d) : cDir d = d:=by
 obtain ⟨j,l,rfl,hl,hf⟩:=zCv Tryz.underlying150 h
 have hl : l.length = 2:=hl
 obtain ⟨s0,e0⟩:=zB4 (hf 0 _ rfl)
 obtain ⟨j1,l1,e1,h1⟩:=zBb Tryz.underlying69 (hf 1 _ rfl)
 rw [len2 hl,e0,e1]
 show dirD (tx s0) (rgD cA l1) = _
 rw [zDO fun i hi => cA_id (h1 i hi)]
 unfold dirD
 rw [zB2]
theorem zGU : ∀ (f : Nat) {j : Nat} {l : List D},SDp f l -> (∀ i,i < l.length -> Fits Tryz.prog j 76 (gD l i)) -> cSels f l = l
 | 0,_,l,h,_ => by
   have h : l = []:=h
   subst h; rfl
 | f + 1,j,l,hd,h => by
   refine zDO fun i hi => ?_
   have hs:=hd i hi
   obtain ⟨j,q,eq,hl,hf⟩:=zCv Tryz.underlying76 (h i hi)
   rw [eq] at hs |-
   have hl : q.length = 7:=hl
   obtain ⟨n0,e0⟩:=zHT (hf 0 _ rfl)
   obtain ⟨s1,e1⟩:=zB4 (hf 1 _ rfl)
   obtain ⟨s2,e2⟩:=zB4 (hf 2 _ rfl)
   obtain ⟨s3,e3⟩:=zB4 (hf 3 _ rfl)
   obtain ⟨j4,l4,e4,h4⟩:=zBb Tryz.underlying69 (hf 4 _ rfl)
   obtain ⟨j5,l5,e5,h5⟩:=zBb Tryz.underlying74 (hf 5 _ rfl)
   obtain ⟨j6,l6,e6,h6⟩:=zBb Tryz.underlying55 (hf 6 _ rfl)
   have hs : SDp f ((gD q 6).l):=hs
   rw [e6] at hs
   have hs : SDp f l6:=hs
   rw [len7 hl,e0,e1,e2,e3,e4,e5,e6]
   show selD n0 (tx s1) (tx s2) (tx s3) (rgD cA l4) (rgD cDir l5) (cSels f l6) = _
   rw [zDO fun i hi => cA_id (h4 i hi),zDO fun i hi => cDir_id (h5 i hi),zGU f hs h6]
   unfold selD
   rw [zB2,zB2,zB2]
theorem cVar_id {j : Nat} {d : D} (h : Fits Tryz.prog j 88 d) : cVar d = d:=by
 obtain ⟨j,l,rfl,hl,hf⟩:=zCv Tryz.underlying88 h
 have hl : l.length = 4:=hl
 obtain ⟨s0,e0⟩:=zB4 (hf 0 _ rfl)
 obtain ⟨j1,l1,e1,hl1,hf1⟩:=zCv Tryz.underlying71 (hf 1 _ rfl)
 have hl1 : l1.length = 2:=hl1
 obtain ⟨b2,e2⟩:=fits_b (hf 2 _ rfl)
 have h3 : Fits Tryz.prog j 84 (gD l 3):=hf 3 _ rfl
 obtain ⟨s1,e10⟩:=zB4 (hf1 0 _ rfl)
 obtain ⟨j2,w1,e11,hw1⟩:=zBb Tryz.underlying32 (hf1 1 _ rfl)
 rw [len4 hl,e0,e1,e2,len2 hl1,e10,e11]
 show varD (tx s0) (refD (tx s1) (w1.map D.n)) b2 (cL (gD l 3)) = _
 have b : (w1.map D.n).map D.int = w1:=by
  rw [List.map_map]
  refine zHJ fun i hi => ?_
  obtain ⟨n,e⟩:=zHT (hw1 i hi)
  rw [e]; rfl
 rw [cL_id h3]
 unfold varD refD
 rw [zB2,zB2,b]
theorem cDoc_id {f : Nat} {j : Nat} {d : D} (h : Fits Tryz.prog j 41 d) (ho : ∀ i,i < (d.f 0).l.length -> SDp f ((gD (d.f 0).l i).f 3).l) (hg : ∀ i,i < (d.f 1).l.length -> SDp f ((gD (d.f 1).l i).f 2).l) : cDoc f d = d:=by
 obtain ⟨j,l,rfl,hl,hf⟩:=zCv Tryz.underlying41 h
 have hl : l.length = 2:=hl
 obtain ⟨j0,l0,e0,h0⟩:=zBb Tryz.underlying38 (hf 0 _ rfl)
 obtain ⟨j1,l1,e1,h1⟩:=zBb Tryz.underlying39 (hf 1 _ rfl)
 have ho : ∀ i,i < (gD l 0).l.length -> SDp f ((gD (gD l 0).l i).f 3).l:=ho
 have hg : ∀ i,i < (gD l 1).l.length -> SDp f ((gD (gD l 1).l i).f 2).l:=hg
 rw [e0] at ho
 rw [e1] at hg
 rw [len2 hl,e0,e1]
 show queD (rgD (cOp f) l0) (rgD (zHm f) l1) = _
 have a : rgD (cOp f) l0 = l0:=zDO fun i hi => by
  have hs:=ho i hi
  obtain ⟨j,q,eq,hl,hf⟩:=zCv Tryz.underlying57 (h0 i hi)
  have hs : SDp f ((gD l0 i).f 3).l:=hs
  rw [eq] at hs |-
  have hl : q.length = 4:=hl
  obtain ⟨n0,e0⟩:=zHT (hf 0 _ rfl)
  obtain ⟨s1,e1⟩:=zB4 (hf 1 _ rfl)
  obtain ⟨j2,l2,e2,h2⟩:=zBb Tryz.underlying54 (hf 2 _ rfl)
  obtain ⟨j3,l3,e3,h3⟩:=zBb Tryz.underlying55 (hf 3 _ rfl)
  have hs : SDp f ((gD q 3).l):=hs
  rw [e3] at hs
  have hs : SDp f l3:=hs
  rw [len4 hl,e0,e1,e2,e3]
  show opD n0 (tx s1) (rgD cVar l2) (cSels f l3) = _
  rw [zDO fun i hi => cVar_id (h2 i hi),zGU f hs h3]
  unfold opD
  rw [zB2]
 have b : rgD (zHm f) l1 = l1:=zDO fun i hi => by
  have hs:=hg i hi
  obtain ⟨j,q,eq,hl,hf⟩:=zCv Tryz.underlying116 (h1 i hi)
  have hs : SDp f ((gD l1 i).f 2).l:=hs
  rw [eq] at hs |-
  have hl : q.length = 3:=hl
  obtain ⟨s0,e0⟩:=zB4 (hf 0 _ rfl)
  obtain ⟨s1,e1⟩:=zB4 (hf 1 _ rfl)
  obtain ⟨j2,l2,e2,h2⟩:=zBb Tryz.underlying55 (hf 2 _ rfl)
  have hs : SDp f ((gD q 2).l):=hs
  rw [e2] at hs
  have hs : SDp f l2:=hs
  rw [len3 hl,e0,e1,e2]
  show zIY (tx s0) (tx s1) (cSels f l2) = _
  rw [zGU f hs h2]
  unfold zIY
  rw [zB2,zB2]
 rw [a,b]
 rfl
end Go.Proofs.YthjiclhfhjdjpaaGreatDoor
namespace Go.Proofs.YthjiclhfhjdjpaaGreatDoor
open Go.RowKit
attribute [local irreducible] wpList Calls Code.wp
def sg0 (W : World) : Sg:=⟨fun b o => (W.cell? ⟨b,o,none⟩).isSome,fun _ => none,fun _ => none,fun _ => (undef,0)⟩
theorem zFn {P : Program} {w : World} {n : String} {g : Nat} {cs : Array Value} (hg : P.globalNamed n = some g) (h : w.var? P n = some cs) : g + 1 <= w.heap.size:=by
 unfold World.var? at h
 rw [hg] at h
 simp only [Option.bind_some] at h
 rcases Nat.lt_or_ge g w.heap.size with h' | h'
 . exact h'
 . rw [Array.getElem?_eq_none h'] at h; cases h
theorem en5_of {W : World} (h : Env W) : EN5.E W:=by
 obtain ⟨h1,⟨tp,p,h2⟩,⟨tp',p',h3⟩⟩:=id h
 have a1:=zFn gPow h1
 have a2:=zFn gErrR h2
 have a3:=zFn gErrS h3
 exact ⟨h,Nat.max_le.2 ⟨a1,Nat.max_le.2 ⟨a2,a3⟩⟩⟩
theorem zHl {f : FuncId} {args : List V} {W : World} {us : Array Value} (h : AC EN5 Tryz.prog f args (.c (.bool true))) (hr : relL Tryz.prog (sg0 W) W args us.toList) (he : Env W) : Calls Tryz.prog f us W fun e W' => e = .returned (.bool true) /\ Below W.heap.size W W':=by
 refine (h (sg0 W) W us hr (fun b o h => h) (en5_of he)).mono ?_
 rintro e W' ⟨v,F',rfl,hfr,-,-,-,hv⟩
 rw [rel] at hv
 obtain ⟨rfl,-⟩:=hv
 exact ⟨rfl,hfr.below⟩
theorem relL1 {P : Program} {s : Sg} {w : World} {v : V} {u : Value} (h : rel P s w v u) : relL P s w [v] (#[u] : Array Value).toList:=by
 show relL P s w [v] [u]
 rw [relL]; exact ⟨h,by simp [relL]⟩
end Go.Proofs.YthjiclhfhjdjpaaGreatDoor
namespace Go.Proofs.YthjiclhfhjdjpaaGreatDoor
open Go.ChangeShapes Go.WideShapes Go.ChangeAt Go.RowKit
attribute [local irreducible] wpList Calls Code.wp
def closedB (P : Program) (S : List TypeId) : Bool:=S.all fun t => match P.underlying t with
 | some .bool => true
 | some .string => true
 | some (.int q) => match q with | .i64 => true | _ => false
 | some (.slice e) => S.contains e && Nat.blt 0 (P.cellsOf e)
 | some (.struct fs) => fs.toList.all fun f => S.contains f.type
 | _ => false
theorem zFj : ∀ {l : List D},(∀ i,i < l.length -> wideD (gD l i)) -> wideL l
 | [],_ => trivial
 | d :: r,h => ⟨h 0 (by simp),zFj fun i hi => by
   have:=h (i + 1) (by simpa using hi)
   simpa [gD] using this⟩
theorem zH0 {P : Program} {w : World} {I : Nat -> Prop} {S : List TypeId} (hS : closedB P S = true) : ∀ {k : Nat} {t : TypeId} {cs : List Value} {d : D},S.contains t = true -> Rep P w I k t cs d -> Fits P k t d -> wideD d
 | 0,_,_,_,_,h,_ => h.elim
 | k + 1,t,cs,d,ht,hr,hf => by
   have hc:=List.all_eq_true.1 hS t (List.contains_iff_mem.1 ht)
   unfold Rep at hr
   unfold Fits at hf
   split at hr
   . rename_i hu
     rw [hu] at hf
     obtain ⟨b,rfl⟩:=hf
     trivial
   . rename_i q hu
     rw [hu] at hf hc
     obtain ⟨n,rfl⟩:=hf
     obtain ⟨-,hw⟩:=hr
     cases q <;> simp at hc
     have hw : (Lit.int IntKind.i64 n).wf = true:=hw
     show i64D n
     rw [zCF] at hw
     simp [IntKind.min,IntKind.max,IntKind.signed,IntKind.bits] at hw
     unfold i64D
     omega
   . rename_i hu
     rw [hu] at hf
     obtain ⟨s,rfl⟩:=hf
     trivial
   . rename_i e hu
     rw [hu] at hf hc
     obtain ⟨l,rfl,hfl⟩:=hf
     simp only [Bool.and_eq_true] at hc
     obtain ⟨A,c,-,-,-,-,hi⟩:=hr
     show wideL l
     refine zFj fun i hl => ?_
     obtain ⟨b,off,-,-,hel⟩:=hi (by show 0 < l.length; omega) (Nat.le_of_ble_eq_true hc.2)
     obtain ⟨ys,-,-,hy⟩:=hel i hl
     exact zH0 hS hc.1 hy (hfl i hl)
   . rename_i fs hu
     rw [hu] at hf hc
     obtain ⟨l,rfl,hl,hfl⟩:=hf
     show wideL l
     refine zFj fun i hi => ?_
     have hfi : fs[i]? = some (fs[i]'(by omega)):=Array.getElem?_eq_getElem (by omega)
     have hmem:=List.all_eq_true.1 hc (fs[i]'(by omega)) (by simp)
     exact zH0 hS hmem (hr.2 i _ hfi) (hfl i _ hfi)
   . rename_i h1 h2 h3 h4 h5
     exfalso
     split at hc
     . exact h1 ‹_›
     . exact h3 ‹_›
     . exact h2 _ ‹_›
     . exact h4 _ ‹_›
     . exact h5 _ ‹_›
     . cases hc
def querySet : List TypeId:=[41,38,39,57,116,54,88,55,76,69,86,74,150,82,84,22,9,71,32,3,4]
theorem zHB : closedB Tryz.prog querySet = true:=by kernel_rfl
theorem arg_in {H : Type} {enc : TypeId × Value -> H} {W : World} {v : Value} {base : Nat} {dw : DataW H} {ps : List MemPlace} {t : TypeId} {fs : Array Field} (ht : Tryz.prog.underlying t = some (.struct fs)) (hv : Value.okWide Tryz.prog W .any base t v)
 (hd : DataW.Trod enc Tryz.prog W 0 (fun _ => true) true t v dw ps) :
 ∃ (k : Nat) (cs : Array Value) (d : D),v = .agg cs /\ Rep Tryz.prog W (fun b => b < W.heap.size) k t cs.toList d /\ Fits Tryz.prog k t d /\ bulkD d <= Rows.uptoBulk dw:=by
 obtain ⟨cs,rfl,_⟩:=okWide_struct ht hv
 obtain ⟨k,hk⟩:=hd
 obtain ⟨d,h1,h2,h3⟩:=zCN hk
 exact ⟨k,cs,d,rfl,by simpa [Value.cells] using h1,h2,h3⟩
theorem rep_len {P : Program} {w : World} {I : Nat -> Prop} {k : Nat} {t : TypeId} {cs : List Value} {d : D} {fs : Array Field} (ht : P.underlying t = some (.struct fs)) (h : Rep P w I k t cs d) : cs.length = P.cellsOf t:=by
 cases k with
 | zero => exact h.elim
 | succ k => unfold Rep at h; rw [ht] at h; exact h.1
theorem cells0 {W : World} {k : Nat} {t : TypeId} {cs : Array Value} {d : D} {fs : Array Field} (ht : Tryz.prog.underlying t = some (.struct fs)) (hl : layB Tryz.prog 12 t = true) (hr : Rep Tryz.prog W (fun b => b < W.heap.size) k t cs.toList d) : rel Tryz.prog (sg0 W) W (.agg (cellsV Tryz.prog 12 t d)) (.agg cs):=by
 rw [rel]
 exact ⟨cs,rfl,zDZ (s:=sg0 W) 12 k t cs.toList d (RepF.of_rep hr fun b o _ h => h) (rep_len ht hr) hl⟩
theorem upto_one {H : Type} {d : DataW H} {gs : List (DataW H)} (h : Rows.uptoSmall H (d :: gs) = true) : Rows.uptoBulk d <= 1048576:=by
 have h1 : Rows.uptoBulkAll (d :: gs) <= 1048576:=of_decide_eq_true h
 rw [Rows.uptoBulkAll] at h1
 omega
theorem que_in {H : Type} {enc : TypeId × Value -> H} {W : World} {v : Value} {base : Nat} {dw : DataW H} {ps : List MemPlace} (hv : Value.okWide Tryz.prog W .any base 41 v) (hd : DataW.Trod enc Tryz.prog W 0 (fun _ => true) true 41 v dw ps) (hb : Rows.uptoBulk dw <= 1048576) :
 ∃ (k : Nat) (cs : Array Value) (a b : List D),v = .agg cs /\ rel Tryz.prog (sg0 W) W (.agg [.sl 57 a,.sl 116 b]) (.agg cs) /\ Fits Tryz.prog k 41 (.obj [.list a,.list b]) /\ wideD (.obj [.list a,.list b]) /\ bulkD (.obj [.list a,.list b]) <= 1048576:=by
 obtain ⟨k,cs,d,rfl,hr,hf,hbk⟩:=arg_in Tryz.underlying41 hv hd
 have hw:=zH0 zHB (by decide) hr hf
 obtain ⟨j,l,rfl,hl,hfs⟩:=zCv Tryz.underlying41 hf
 have hl : l.length = 2:=hl
 obtain ⟨j0,l0,e0,-⟩:=zBb Tryz.underlying38 (hfs 0 _ rfl)
 obtain ⟨j1,l1,e1,-⟩:=zBb Tryz.underlying39 (hfs 1 _ rfl)
 have el : l = [.list l0,.list l1]:=by rw [len2 hl,e0,e1]
 subst el
 exact ⟨k,cs,l0,l1,rfl,cells0 Tryz.underlying41 (by kernel_rfl) hr,hf,hw,by omega⟩
end Go.Proofs.YthjiclhfhjdjpaaGreatDoor
namespace Go.Proofs.YthjiclhfhjdjpaaGreatDoor
open Go.ChangeShapes Go.WideShapes Go.ChangeAt Go.RowKit
set_option linter.unusedSectionVars false
attribute [local irreducible] wpList Calls Code.wp AW AWo OpOk seqK zx zAI loopK endK AC zm Yld Sub
attribute [local irreducible] ACB ACX ACE absLexG YldG absLexH
def qD (a b : List D) : D:=.obj [.list a,.list b]
theorem qD_bulk {a b : List D} (h : bulkD (qD a b) <= 1048576) : bulkL a <= 1048576 /\ bulkL b <= 1048576:=by
 have : bulkD (qD a b) = bulkL a + bulkL b + 3:=by simp [qD,bulkD,bulkL]; omega
 omega
theorem zIb (a b : List D) (h : bulkD (qD a b) <= 1048576) : AC EN Tryz.prog 24 [.agg [.sl 57 a,.sl 116 b]] (.c (.bool (!zJW a b && queR (qD a b)))):=by
 obtain ⟨ha,hb⟩:=qD_bulk h
 have h1:=large_ac a b (by omega) (by omega)
 have h2 : AC EN Tryz.prog 32 [.agg [.sl 57 a,.sl 116 b]] (.c (.bool (queR (qD a b)))):=rightF_ac a b (by omega) (by omega)
 refine zG 10 Tryz.func24 rfl rfl rfl rfl ?_
 intro s w he
 repeat' (first
|refine zA ?_
|refine zB ?_
|refine zK ?_
|apply aw_1
 conv => whnf
 refine ⟨?_,trivial⟩
|apply zX rfl rfl
 . conv => lhs; whnf
 . conv => lhs; whnf
 . first | exact bT1 ‹_› | exact bT2 ‹_›
|apply zR rfl rfl
 . conv => lhs; whnf
 . conv => lhs; whnf
 . first | exact bF1 ‹_› | exact bF2 ‹_›
|apply s_1
 conv => whnf; arg 1; arg 4; arg 3; whnf
 refine ⟨?_,?_⟩
|apply zd rfl
 . conv => lhs; whnf
 . conv => lhs; whnf
 . first | exact h1 | exact h2
|apply zAC rfl rfl rfl rfl
 . conv => lhs; whnf; arg 1; whnf
 . rfl
|apply za rfl
 . conv => lhs; whnf
 . conv => lhs; whnf
 . first | rfl | assumption
 . conv => lhs; whnf
 . first | exact h1 | exact h2
|apply ze rfl
 . conv => lhs; whnf
 . conv => lhs; whnf
 . first | rfl | assumption
|apply zJ rfl
 . conv => lhs; whnf
 . conv => lhs; whnf
 . conv => lhs; whnf; arg 2; whnf
|refine zC ?_
|refine ⟨_,by conv => lhs; whnf; arg 2; whnf,?_⟩; conv => rhs; whnf
|exact trivial
|intro hg)
 all_goals (simp only [beq_true] at *; simp only [*,Bool.true_and,Bool.false_and])
end Go.Proofs.YthjiclhfhjdjpaaGreatDoor
namespace Go.Proofs.YthjiclhfhjdjpaaGreatDoor
open Go.RowKit
set_option linter.unusedSectionVars false
attribute [local irreducible] wpList Calls Code.wp AW AWo OpOk seqK zx zAI loopK endK AC zm Yld Sub
attribute [local irreducible] ACB ACX ACE absLexG YldG
def tupR (t : Tok) (k : Nat) (e : Int) : V:=.tup [.agg (tokC t),.c (.int .i64 (k : Int)),.c (.int .i64 e)]
def failR : V:=tupR ⟨0,[],0⟩ 0 3
def readV (l : List UInt8) (i : Nat) : V:=
 match l with
 | [] => .any
 | c :: r =>
   if zAc c then tupR ⟨1,[c],i⟩ (i + 1) 0
   else if c == 46 then (if r.take 2 = [46,46] then tupR ⟨1,[46,46,46],i⟩ (i + 3) 0 else failR)
   else if c == 45 || digU c then tupR ⟨3,c :: r.take (spanN wrdU r),i⟩ (i + 1 + spanN wrdU r) (nerU (numU (c :: r.take (spanN wrdU r))))
   else if wrdU c then (if spanN wrdU r + 1 > 64 then failR else tupR ⟨2,c :: r.take (spanN wrdU r),i⟩ (i + 1 + spanN wrdU r) 0)
   else if c == 34 then
    (match litN r with
    | none => failR
    | some n => tupR ⟨4,(unquoteU (c :: r.take n)).getD [],i⟩ (i + 1 + n) (uqE (unquoteU (c :: r.take n))))
   else failR
theorem zJk (s : List UInt8) {a b : Nat} (ha : a <= b) (hb : b <= s.length) : (bs s).extract a b = bs ((s.drop a).take (b - a)):=by
 apply ByteArray.ext
 rw [ByteArray.data_extract]
 apply Array.ext'
 rw [Array.toList_extract,zAi,zAi]
section
variable {s : List UInt8} {i : Nat} (hi : i < s.length) (hs : s.length <= 70000)
include hi hs
theorem read_sign (h : zAc s[i] = true) : AC EN5 Tryz.prog 85 [.c (.string (bs s)),.c (.int .i64 (i : Int))] (tupR ⟨1,[s[i]],i⟩ (i + 1) 0):=by
 have hz:=zg s
 have hbt:=zBz hi
 have hgd:=zEC hi
 have hdr : s.drop i = s[i] :: s.drop (i + 1):=List.drop_eq_getElem_cons hi
 have q : ∀ n : Nat,n < 256 -> (zf (bs s) ((i : Int)).toNat == (n : Int)) = (s[i] == UInt8.ofNat n):=fun n hn => by rw [hbt]; exact zES _ n hn
 have hsg:=zAE ((bs s).data.toList.getD ((i : Int)).toNat 0)
 have f0 : zAc ((bs s).data.toList.getD ((i : Int)).toNat 0) = true:=by rw [Int.toNat_natCast,hgd]; exact h
 have hx : (bs s).extract ((i : Int)).toNat (((i : Int) + 1)).toNat = bs [s[i]]:=by
  rw [show (((i : Int) + 1)).toNat = i + 1 by omega,Int.toNat_natCast,zJk s (by omega) (by omega),hdr,Nat.add_sub_cancel_left]; rfl
 refine zG 116 Tryz.func85 rfl rfl rfl rfl ?_
 intro s0 w he
 repeat' (first
|apply zU
 . conv => lhs; whnf
 . assumption
|refine zA ?_
|refine zB ?_
|refine zK ?_
|apply aw_1
 conv => whnf
 refine ⟨?_,trivial⟩
|apply s_1
 conv => whnf; arg 1; arg 4; arg 3; whnf
 refine ⟨?_,?_⟩
|apply zd rfl
 . conv => lhs; whnf
 . conv => lhs; whnf
 . first | exact hsg
|apply zY rfl rfl rfl
 . conv => lhs; whnf
 . conv => lhs; whnf; arg 1; whnf
 . conv => lhs; whnf; arg 1; whnf
 . exact ⟨by kernel_rfl,by kernel_rfl⟩
 . rfl
|refine zM ?_
|refine zO ?_
|refine zC ?_
|exact trivial)
 . refine ⟨_,_,_,rfl,rfl,rfl,?_⟩
   show _ = V.tup [.agg [.c (.int .i64 1),.c (.string ((bs s).extract ((i : Int)).toNat (((i : Int) + 1)).toNat)),.c (.int .i64 (i : Int))],.c (.int .i64 ((i : Int) + 1)),.c (.int .i64 0)]
   rw [hx]; rfl
 all_goals first
  | exact zT (by omega)
  | exact ⟨by kernel_rfl,by omega,by omega⟩
  | exact ⟨by kernel_rfl,by omega,by omega,by omega⟩
  | (rw [hbt]; exact zAT _)
  | exact (show Tryz.prog.underlying _ = some TypeDesc.string by kernel_rfl)
  | skip
theorem read_dots (h0 : zAc s[i] = false) (h : s[i] = 46) (b : Bool) (hb : Lib.hasPrefix (s.drop i) [46,46,46] = b) (hl : b = true -> i + 3 <= s.length) : AC EN5 Tryz.prog 85 [.c (.string (bs s)),.c (.int .i64 (i : Int))] (if b = true then tupR ⟨1,[46,46,46],i⟩ (i + 3) 0 else failR):=by
 have hz:=zg s
 have hbt:=zBz hi
 have hgd:=zEC hi
 have hdr : s.drop i = s[i] :: s.drop (i + 1):=List.drop_eq_getElem_cons hi
 have q : ∀ n : Nat,n < 256 -> (zf (bs s) ((i : Int)).toNat == (n : Int)) = (s[i] == UInt8.ofNat n):=fun n hn => by rw [hbt]; exact zES _ n hn
 have hsg:=zAE ((bs s).data.toList.getD ((i : Int)).toNat 0)
 have f0 : zAc ((bs s).data.toList.getD ((i : Int)).toNat 0) = false:=by rw [Int.toNat_natCast,hgd]; exact h0
 have f1 : (zf (bs s) ((i : Int)).toNat == 46) = true:=(q 46 (by omega)).trans (by rw [h]; rfl)
 have hpr:=prefix_ac ((bs s).extract ((i : Int)).toNat (bs s).size) { data:=#[46,46,46] }
 rw [zJi] at hpr
 have hb2 : Lib.hasPrefix (s.drop i) ({ data:=#[46,46,46] } : ByteArray).data.toList = b:=hb
 rw [hb2] at hpr
 cases b
 . refine zG 116 Tryz.func85 rfl rfl rfl rfl ?_
   intro s0 w he
   repeat' (first
|apply zU
 . conv => lhs; whnf
 . assumption
|apply zL
 . conv => lhs; whnf
 . assumption
|refine zA ?_
|refine zB ?_
|refine zK ?_
|apply aw_1
 conv => whnf
 refine ⟨?_,trivial⟩
|apply s_1
 conv => whnf; arg 1; arg 4; arg 3; whnf
 refine ⟨?_,?_⟩
|apply zd rfl
 . conv => lhs; whnf
 . conv => lhs; whnf
 . first | exact hsg | exact hpr
|apply zY rfl rfl rfl
 . conv => lhs; whnf
 . conv => lhs; whnf; arg 1; whnf
 . conv => lhs; whnf; arg 1; whnf
 . exact ⟨by kernel_rfl,by kernel_rfl⟩
 . rfl
|refine zM ?_
|refine zO ?_
|refine zC ?_
|exact trivial)
   . exact ⟨_,_,_,rfl,rfl,rfl,rfl⟩
   all_goals first
    | exact zT (by omega)
    | exact ⟨by kernel_rfl,by omega,by omega⟩
    | exact ⟨by kernel_rfl,by omega,by omega,by omega⟩
    | (rw [hbt]; exact zAT _)
    | exact (show Tryz.prog.underlying _ = some TypeDesc.string by kernel_rfl)
    | skip
 . have hl2:=hl rfl
   refine zG 116 Tryz.func85 rfl rfl rfl rfl ?_
   intro s0 w he
   repeat' (first
|apply zU
 . conv => lhs; whnf
 . assumption
|apply zL
 . conv => lhs; whnf
 . assumption
|refine zA ?_
|refine zB ?_
|refine zK ?_
|apply aw_1
 conv => whnf
 refine ⟨?_,trivial⟩
|apply s_1
 conv => whnf; arg 1; arg 4; arg 3; whnf
 refine ⟨?_,?_⟩
|apply zd rfl
 . conv => lhs; whnf
 . conv => lhs; whnf
 . first | exact hsg | exact hpr
|apply zY rfl rfl rfl
 . conv => lhs; whnf
 . conv => lhs; whnf; arg 1; whnf
 . conv => lhs; whnf; arg 1; whnf
 . exact ⟨by kernel_rfl,by kernel_rfl⟩
 . rfl
|refine zM ?_
|refine zO ?_
|refine zC ?_
|exact trivial)
   . exact ⟨_,_,_,rfl,rfl,rfl,rfl⟩
   all_goals first
    | exact zT (by omega)
    | exact ⟨by kernel_rfl,by omega,by omega⟩
    | exact ⟨by kernel_rfl,by omega,by omega,by omega⟩
    | (rw [hbt]; exact zAT _)
    | exact (show Tryz.prog.underlying _ = some TypeDesc.string by kernel_rfl)
    | skip
theorem read_num (h0 : zAc s[i] = false) (h46 : s[i] ≠ 46) (h : s[i] = 45 \/ (s[i] ≠ 45 /\ digU s[i] = true)) :
 AC EN5 Tryz.prog 85 [.c (.string (bs s)),.c (.int .i64 (i : Int))] (tupR ⟨3,s[i] :: (s.drop (i + 1)).take (spanN wrdU (s.drop (i + 1))),i⟩ (i + 1 + spanN wrdU (s.drop (i + 1))) (nerU (numU (s[i] :: (s.drop (i + 1)).take (spanN wrdU (s.drop (i + 1))))))):=by
 have hz:=zg s
 have hbt:=zBz hi
 have hgd:=zEC hi
 have hdr : s.drop i = s[i] :: s.drop (i + 1):=List.drop_eq_getElem_cons hi
 have q : ∀ n : Nat,n < 256 -> (zf (bs s) ((i : Int)).toNat == (n : Int)) = (s[i] == UInt8.ofNat n):=fun n hn => by rw [hbt]; exact zES _ n hn
 have hsg:=zAE ((bs s).data.toList.getD ((i : Int)).toNat 0)
 have f0 : zAc ((bs s).data.toList.getD ((i : Int)).toNat 0) = false:=by rw [Int.toNat_natCast,hgd]; exact h0
 have hle:=zBo wrdU (s.drop (i + 1))
 rw [List.length_drop] at hle
 have f1 : (zf (bs s) ((i : Int)).toNat == 46) = false:=(q 46 (by omega)).trans (by simpa using h46)
 have hsp:=zIB s (i + 1) (by omega) (by omega)
 have hx : (bs s).extract ((i : Int)).toNat (((i + 1 + spanN wrdU (s.drop (i + 1)) : Nat) : Int)).toNat = bs (s[i] :: (s.drop (i + 1)).take (spanN wrdU (s.drop (i + 1)))):=by
  rw [Int.toNat_natCast,Int.toNat_natCast,zJk s (by omega) (by omega),hdr,show i + 1 + spanN wrdU (s.drop (i + 1)) - i = spanN wrdU (s.drop (i + 1)) + 1 by omega,List.take_succ_cons]
 have hsz : ((bs s).extract ((i : Int)).toNat (((i + 1 + spanN wrdU (s.drop (i + 1)) : Nat) : Int)).toNat).size <= 281474976710656:=by rw [ByteArray.size_extract]; omega
 have hnu:=zFR _ hsz
 unfold numVV at hnu
 have htx : tx ((bs s).extract ((i : Int)).toNat (((i + 1 + spanN wrdU (s.drop (i + 1)) : Nat) : Int)).toNat) = s[i] :: (s.drop (i + 1)).take (spanN wrdU (s.drop (i + 1))):=by rw [hx]; exact zAi _
 rw [htx] at hnu
 have k45 : s[i] = 45 -> ((zf (bs s) ((i : Int)).toNat == 45) == false) = true -> False:=fun h h2 => by
  have e : (zf (bs s) ((i : Int)).toNat == 45) = true:=(q 45 (by omega)).trans (by rw [h]; rfl)
  rw [e] at h2; cases h2
 have kn45 : s[i] ≠ 45 -> ((zf (bs s) ((i : Int)).toNat == 45) == false) = false -> False:=fun h h2 => by
  have e : (zf (bs s) ((i : Int)).toNat == 45) = false:=(q 45 (by omega)).trans (by simpa using h)
  rw [e] at h2; cases h2
 have kge : 48 <= s[i].toNat -> (decide (zf (bs s) ((i : Int)).toNat >= 48) == true) = false -> False:=fun h h2 => by
  rw [hbt,decide_eq_true (show ((s[i].toNat : Nat) : Int) >= 48 by omega)] at h2; cases h2
 have kng : s[i].toNat < 48 -> (decide (zf (bs s) ((i : Int)).toNat >= 48) == true) = true -> False:=fun h h2 => by
  rw [hbt,decide_eq_false (show ¬ ((s[i].toNat : Nat) : Int) >= 48 by omega)] at h2; cases h2
 rcases h with h | ⟨h,hd⟩
 . have f2 : (zf (bs s) ((i : Int)).toNat == 45) = true:=(q 45 (by omega)).trans (by rw [h]; rfl)
   have k1:=k45 h
   refine zG 116 Tryz.func85 rfl rfl rfl rfl ?_
   intro s0 w he
   repeat' (first
|apply zL
 . conv => lhs; whnf
 . assumption
|exact (k1 ‹_›).elim
|refine zA ?_
|refine zB ?_
|refine zK ?_
|apply aw_1
 conv => whnf
 refine ⟨?_,trivial⟩
|apply zX rfl rfl
 . conv => lhs; whnf
 . conv => lhs; whnf
 . first | exact bT1 ‹_› | exact bT2 ‹_›
|apply s_1
 conv => whnf; arg 1; arg 4; arg 3; whnf
 refine ⟨?_,?_⟩
|apply zd rfl
 . conv => lhs; whnf
 . conv => lhs; whnf
 . first | exact hsg | exact hsp | exact hnu
|apply zY rfl rfl rfl
 . conv => lhs; whnf
 . conv => lhs; whnf; arg 1; whnf
 . conv => lhs; whnf; arg 1; whnf
 . exact ⟨by kernel_rfl,by kernel_rfl⟩
 . rfl
|apply ze rfl
 . conv => lhs; whnf
 . conv => lhs; whnf
 . first | rfl | assumption
|apply zJ rfl
 . conv => lhs; whnf
 . conv => lhs; whnf
 . conv => lhs; whnf; arg 2; whnf
|refine zM ?_
|refine zO ?_
|refine zC ?_
|exact trivial
|intro hg)
   . refine ⟨_,_,_,rfl,rfl,rfl,?_⟩
     show _ = V.tup [.agg [.c (.int .i64 3),.c (.string ((bs s).extract ((i : Int)).toNat (((i + 1 + spanN wrdU (s.drop (i + 1)) : Nat) : Int)).toNat)),.c (.int .i64 (i : Int))],.c (.int .i64 ((i + 1 + spanN wrdU (s.drop (i + 1)) : Nat) : Int)),.c (.int .i64 (nerU (numU (s[i] :: (s.drop (i + 1)).take (spanN wrdU (s.drop (i + 1)))))))]
     rw [hx]; rfl
   all_goals first
    | exact zT (by omega)
    | exact ⟨by kernel_rfl,by omega,by omega⟩
    | exact ⟨by kernel_rfl,by omega,by omega,by omega⟩
    | (rw [hbt]; exact zAT _)
    | exact (show Tryz.prog.underlying _ = some TypeDesc.string by kernel_rfl)
    | skip
 . have f2 : (zf (bs s) ((i : Int)).toNat == 45) = false:=(q 45 (by omega)).trans (by simpa using h)
   have hd2 : 48 <= s[i].toNat /\ s[i].toNat <= 57:=by simpa [digU] using hd
   have f3 : decide (zf (bs s) ((i : Int)).toNat >= 48) = true:=by rw [hbt]; exact decide_eq_true (by omega)
   have f4 : decide (zf (bs s) ((i : Int)).toNat <= 57) = true:=by rw [hbt]; exact decide_eq_true (by omega)
   have k1:=kn45 h
   have k2:=kge hd2.1
   refine zG 116 Tryz.func85 rfl rfl rfl rfl ?_
   intro s0 w he
   repeat' (first
|apply zAM rfl rfl rfl
 . conv => lhs; whnf
 . first | rfl | assumption
 . conv => lhs; whnf
 . first | exact bT1 ‹_› | exact bT2 ‹_› | rfl
|apply zU
 . conv => lhs; whnf
 . assumption
|apply zL
 . conv => lhs; whnf
 . assumption
|exact (k1 ‹_›).elim
|exact (k2 ‹_›).elim
|refine zA ?_
|refine zB ?_
|refine zK ?_
|apply aw_1
 conv => whnf
 refine ⟨?_,trivial⟩
|apply zR rfl rfl
 . conv => lhs; whnf
 . conv => lhs; whnf
 . first | exact bF1 ‹_› | exact bF2 ‹_›
|apply s_1
 conv => whnf; arg 1; arg 4; arg 3; whnf
 refine ⟨?_,?_⟩
|apply zd rfl
 . conv => lhs; whnf
 . conv => lhs; whnf
 . first | exact hsg | exact hsp | exact hnu
|apply zY rfl rfl rfl
 . conv => lhs; whnf
 . conv => lhs; whnf; arg 1; whnf
 . conv => lhs; whnf; arg 1; whnf
 . exact ⟨by kernel_rfl,by kernel_rfl⟩
 . rfl
|apply zD rfl
 . conv => lhs; whnf
 . conv => lhs; whnf
 . first | rfl | assumption
 . conv => lhs; whnf; arg 2; whnf
|apply zJ rfl
 . conv => lhs; whnf
 . conv => lhs; whnf
 . conv => lhs; whnf; arg 2; whnf
|refine zM ?_
|refine zO ?_
|refine zC ?_
|exact trivial
|intro hg)
   . refine ⟨_,_,_,rfl,rfl,rfl,?_⟩
     show _ = V.tup [.agg [.c (.int .i64 3),.c (.string ((bs s).extract ((i : Int)).toNat (((i + 1 + spanN wrdU (s.drop (i + 1)) : Nat) : Int)).toNat)),.c (.int .i64 (i : Int))],.c (.int .i64 ((i + 1 + spanN wrdU (s.drop (i + 1)) : Nat) : Int)),.c (.int .i64 (nerU (numU (s[i] :: (s.drop (i + 1)).take (spanN wrdU (s.drop (i + 1)))))))]
     rw [hx]; rfl
   all_goals first
    | exact zT (by omega)
    | exact ⟨by kernel_rfl,by omega,by omega⟩
    | exact ⟨by kernel_rfl,by omega,by omega,by omega⟩
    | (rw [hbt]; exact zAT _)
    | exact (show Tryz.prog.underlying _ = some TypeDesc.string by kernel_rfl)
    | skip
theorem read_word (h0 : zAc s[i] = false) (h46 : s[i] ≠ 46) (h45 : s[i] ≠ 45) (hr : s[i].toNat < 48 \/ 57 < s[i].toNat) (hw : wrdU s[i] = true) (hlen : spanN wrdU (s.drop (i + 1)) + 1 <= 64) : AC EN5 Tryz.prog 85 [.c (.string (bs s)),.c (.int .i64 (i : Int))] (tupR ⟨2,s[i] :: (s.drop (i + 1)).take (spanN wrdU (s.drop (i + 1))),i⟩ (i + 1 + spanN wrdU (s.drop (i + 1))) 0):=by
 have hz:=zg s
 have hbt:=zBz hi
 have hgd:=zEC hi
 have hdr : s.drop i = s[i] :: s.drop (i + 1):=List.drop_eq_getElem_cons hi
 have q : ∀ n : Nat,n < 256 -> (zf (bs s) ((i : Int)).toNat == (n : Int)) = (s[i] == UInt8.ofNat n):=fun n hn => by rw [hbt]; exact zES _ n hn
 have hsg:=zAE ((bs s).data.toList.getD ((i : Int)).toNat 0)
 have f0 : zAc ((bs s).data.toList.getD ((i : Int)).toNat 0) = false:=by rw [Int.toNat_natCast,hgd]; exact h0
 have hle:=zBo wrdU (s.drop (i + 1))
 rw [List.length_drop] at hle
 have f1 : (zf (bs s) ((i : Int)).toNat == 46) = false:=(q 46 (by omega)).trans (by simpa using h46)
 have k45 : s[i] = 45 -> ((zf (bs s) ((i : Int)).toNat == 45) == false) = true -> False:=fun h h2 => by
  have e : (zf (bs s) ((i : Int)).toNat == 45) = true:=(q 45 (by omega)).trans (by rw [h]; rfl)
  rw [e] at h2; cases h2
 have kn45 : s[i] ≠ 45 -> ((zf (bs s) ((i : Int)).toNat == 45) == false) = false -> False:=fun h h2 => by
  have e : (zf (bs s) ((i : Int)).toNat == 45) = false:=(q 45 (by omega)).trans (by simpa using h)
  rw [e] at h2; cases h2
 have kge : 48 <= s[i].toNat -> (decide (zf (bs s) ((i : Int)).toNat >= 48) == true) = false -> False:=fun h h2 => by
  rw [hbt,decide_eq_true (show ((s[i].toNat : Nat) : Int) >= 48 by omega)] at h2; cases h2
 have kng : s[i].toNat < 48 -> (decide (zf (bs s) ((i : Int)).toNat >= 48) == true) = true -> False:=fun h h2 => by
  rw [hbt,decide_eq_false (show ¬ ((s[i].toNat : Nat) : Int) >= 48 by omega)] at h2; cases h2
 have hlt:=zBk ((bs s).data.toList.getD ((i : Int)).toNat 0)
 have f5 : wrdU ((bs s).data.toList.getD ((i : Int)).toNat 0) = true:=by rw [Int.toNat_natCast,hgd]; exact hw
 have hsp:=zIB s i (by omega) (by omega)
 have hse : i + spanN wrdU (s.drop i) = i + 1 + spanN wrdU (s.drop (i + 1)):=by rw [hdr,spanN,if_pos hw]; omega
 rw [hse] at hsp
 have hx : (bs s).extract ((i : Int)).toNat (((i + 1 + spanN wrdU (s.drop (i + 1)) : Nat) : Int)).toNat = bs (s[i] :: (s.drop (i + 1)).take (spanN wrdU (s.drop (i + 1)))):=by
  rw [Int.toNat_natCast,Int.toNat_natCast,zJk s (by omega) (by omega),hdr,show i + 1 + spanN wrdU (s.drop (i + 1)) - i = spanN wrdU (s.drop (i + 1)) + 1 by omega,List.take_succ_cons]
 have f6 : decide (((i + 1 + spanN wrdU (s.drop (i + 1)) : Nat) : Int) - (i : Int) > 64) = false:=decide_eq_false (by omega)
 rcases hr with hr | hr
 . have f2 : (zf (bs s) ((i : Int)).toNat == 45) = false:=(q 45 (by omega)).trans (by simpa using h45)
   have k1:=kn45 h45
   have k2:=kng hr
   have f3 : decide (zf (bs s) ((i : Int)).toNat >= 48) = false:=by rw [hbt]; exact decide_eq_false (by omega)
   refine zG 116 Tryz.func85 rfl rfl rfl rfl ?_
   intro s0 w he
   repeat' (first
|apply zAN rfl rfl rfl
 . conv => lhs; whnf
 . first | rfl | assumption
 . conv => lhs; whnf
 . first | exact bF1 ‹_› | exact bF2 ‹_› | rfl
|apply zU
 . conv => lhs; whnf
 . assumption
|apply zL
 . conv => lhs; whnf
 . assumption
|exact (k1 ‹_›).elim
|exact (k2 ‹_›).elim
|refine zA ?_
|refine zB ?_
|refine zK ?_
|apply aw_1
 conv => whnf
 refine ⟨?_,trivial⟩
|apply zR rfl rfl
 . conv => lhs; whnf
 . conv => lhs; whnf
 . first | exact bF1 ‹_› | exact bF2 ‹_›
|apply s_1
 conv => whnf; arg 1; arg 4; arg 3; whnf
 refine ⟨?_,?_⟩
|apply zd rfl
 . conv => lhs; whnf
 . conv => lhs; whnf
 . first | exact hsg | exact hlt | exact hsp
|apply zY rfl rfl rfl
 . conv => lhs; whnf
 . conv => lhs; whnf; arg 1; whnf
 . conv => lhs; whnf; arg 1; whnf
 . exact ⟨by kernel_rfl,by kernel_rfl⟩
 . rfl
|apply zD rfl
 . conv => lhs; whnf
 . conv => lhs; whnf
 . first | rfl | assumption
 . conv => lhs; whnf; arg 2; whnf
|apply ze rfl
 . conv => lhs; whnf
 . conv => lhs; whnf
 . first | rfl | assumption
|apply zJ rfl
 . conv => lhs; whnf
 . conv => lhs; whnf
 . conv => lhs; whnf; arg 2; whnf
|refine zM ?_
|refine zO ?_
|refine zC ?_
|exact trivial
|intro hg)
   . refine ⟨_,_,_,rfl,rfl,rfl,?_⟩
     show _ = V.tup [.agg [.c (.int .i64 2),.c (.string ((bs s).extract ((i : Int)).toNat (((i + 1 + spanN wrdU (s.drop (i + 1)) : Nat) : Int)).toNat)),.c (.int .i64 (i : Int))],.c (.int .i64 ((i + 1 + spanN wrdU (s.drop (i + 1)) : Nat) : Int)),.c (.int .i64 0)]
     rw [hx]; rfl
   all_goals first
    | exact zT (by omega)
    | exact ⟨by kernel_rfl,by omega,by omega⟩
    | exact ⟨by kernel_rfl,by omega,by omega,by omega⟩
    | (rw [hbt]; exact zAT _)
    | exact (show Tryz.prog.underlying _ = some TypeDesc.string by kernel_rfl)
    | skip
 . have f2 : (zf (bs s) ((i : Int)).toNat == 45) = false:=(q 45 (by omega)).trans (by simpa using h45)
   have k1:=kn45 h45
   have k2:=kge (by omega)
   have f3 : decide (zf (bs s) ((i : Int)).toNat >= 48) = true:=by rw [hbt]; exact decide_eq_true (by omega)
   have f4 : decide (zf (bs s) ((i : Int)).toNat <= 57) = false:=by rw [hbt]; exact decide_eq_false (by omega)
   refine zG 116 Tryz.func85 rfl rfl rfl rfl ?_
   intro s0 w he
   repeat' (first
|apply zAM rfl rfl rfl
 . conv => lhs; whnf
 . first | rfl | assumption
 . conv => lhs; whnf
 . first | exact bT1 ‹_› | exact bT2 ‹_› | rfl
|apply zU
 . conv => lhs; whnf
 . assumption
|apply zL
 . conv => lhs; whnf
 . assumption
|exact (k1 ‹_›).elim
|exact (k2 ‹_›).elim
|refine zA ?_
|refine zB ?_
|refine zK ?_
|apply aw_1
 conv => whnf
 refine ⟨?_,trivial⟩
|apply zR rfl rfl
 . conv => lhs; whnf
 . conv => lhs; whnf
 . first | exact bF1 ‹_› | exact bF2 ‹_›
|apply s_1
 conv => whnf; arg 1; arg 4; arg 3; whnf
 refine ⟨?_,?_⟩
|apply zd rfl
 . conv => lhs; whnf
 . conv => lhs; whnf
 . first | exact hsg | exact hlt | exact hsp
|apply zY rfl rfl rfl
 . conv => lhs; whnf
 . conv => lhs; whnf; arg 1; whnf
 . conv => lhs; whnf; arg 1; whnf
 . exact ⟨by kernel_rfl,by kernel_rfl⟩
 . rfl
|apply zD rfl
 . conv => lhs; whnf
 . conv => lhs; whnf
 . first | rfl | assumption
 . conv => lhs; whnf; arg 2; whnf
|apply zJ rfl
 . conv => lhs; whnf
 . conv => lhs; whnf
 . conv => lhs; whnf; arg 2; whnf
|refine zM ?_
|refine zO ?_
|refine zC ?_
|exact trivial
|intro hg)
   . refine ⟨_,_,_,rfl,rfl,rfl,?_⟩
     show _ = V.tup [.agg [.c (.int .i64 2),.c (.string ((bs s).extract ((i : Int)).toNat (((i + 1 + spanN wrdU (s.drop (i + 1)) : Nat) : Int)).toNat)),.c (.int .i64 (i : Int))],.c (.int .i64 ((i + 1 + spanN wrdU (s.drop (i + 1)) : Nat) : Int)),.c (.int .i64 0)]
     rw [hx]; rfl
   all_goals first
    | exact zT (by omega)
    | exact ⟨by kernel_rfl,by omega,by omega⟩
    | exact ⟨by kernel_rfl,by omega,by omega,by omega⟩
    | (rw [hbt]; exact zAT _)
    | exact (show Tryz.prog.underlying _ = some TypeDesc.string by kernel_rfl)
    | skip
theorem read_long (h0 : zAc s[i] = false) (h46 : s[i] ≠ 46) (h45 : s[i] ≠ 45) (hr : s[i].toNat < 48 \/ 57 < s[i].toNat) (hw : wrdU s[i] = true) (hlen : ¬ spanN wrdU (s.drop (i + 1)) + 1 <= 64) : AC EN5 Tryz.prog 85 [.c (.string (bs s)),.c (.int .i64 (i : Int))] failR:=by
 have hz:=zg s
 have hbt:=zBz hi
 have hgd:=zEC hi
 have hdr : s.drop i = s[i] :: s.drop (i + 1):=List.drop_eq_getElem_cons hi
 have q : ∀ n : Nat,n < 256 -> (zf (bs s) ((i : Int)).toNat == (n : Int)) = (s[i] == UInt8.ofNat n):=fun n hn => by rw [hbt]; exact zES _ n hn
 have hsg:=zAE ((bs s).data.toList.getD ((i : Int)).toNat 0)
 have f0 : zAc ((bs s).data.toList.getD ((i : Int)).toNat 0) = false:=by rw [Int.toNat_natCast,hgd]; exact h0
 have hle:=zBo wrdU (s.drop (i + 1))
 rw [List.length_drop] at hle
 have f1 : (zf (bs s) ((i : Int)).toNat == 46) = false:=(q 46 (by omega)).trans (by simpa using h46)
 have k45 : s[i] = 45 -> ((zf (bs s) ((i : Int)).toNat == 45) == false) = true -> False:=fun h h2 => by
  have e : (zf (bs s) ((i : Int)).toNat == 45) = true:=(q 45 (by omega)).trans (by rw [h]; rfl)
  rw [e] at h2; cases h2
 have kn45 : s[i] ≠ 45 -> ((zf (bs s) ((i : Int)).toNat == 45) == false) = false -> False:=fun h h2 => by
  have e : (zf (bs s) ((i : Int)).toNat == 45) = false:=(q 45 (by omega)).trans (by simpa using h)
  rw [e] at h2; cases h2
 have kge : 48 <= s[i].toNat -> (decide (zf (bs s) ((i : Int)).toNat >= 48) == true) = false -> False:=fun h h2 => by
  rw [hbt,decide_eq_true (show ((s[i].toNat : Nat) : Int) >= 48 by omega)] at h2; cases h2
 have kng : s[i].toNat < 48 -> (decide (zf (bs s) ((i : Int)).toNat >= 48) == true) = true -> False:=fun h h2 => by
  rw [hbt,decide_eq_false (show ¬ ((s[i].toNat : Nat) : Int) >= 48 by omega)] at h2; cases h2
 have hlt:=zBk ((bs s).data.toList.getD ((i : Int)).toNat 0)
 have f5 : wrdU ((bs s).data.toList.getD ((i : Int)).toNat 0) = true:=by rw [Int.toNat_natCast,hgd]; exact hw
 have hsp:=zIB s i (by omega) (by omega)
 have hse : i + spanN wrdU (s.drop i) = i + 1 + spanN wrdU (s.drop (i + 1)):=by rw [hdr,spanN,if_pos hw]; omega
 rw [hse] at hsp
 have f6 : decide (((i + 1 + spanN wrdU (s.drop (i + 1)) : Nat) : Int) - (i : Int) > 64) = true:=decide_eq_true (by omega)
 rcases hr with hr | hr
 . have f2 : (zf (bs s) ((i : Int)).toNat == 45) = false:=(q 45 (by omega)).trans (by simpa using h45)
   have k1:=kn45 h45
   have k2:=kng hr
   have f3 : decide (zf (bs s) ((i : Int)).toNat >= 48) = false:=by rw [hbt]; exact decide_eq_false (by omega)
   refine zG 116 Tryz.func85 rfl rfl rfl rfl ?_
   intro s0 w he
   repeat' (first
|apply zAN rfl rfl rfl
 . conv => lhs; whnf
 . first | rfl | assumption
 . conv => lhs; whnf
 . first | exact bF1 ‹_› | exact bF2 ‹_› | rfl
|apply zU
 . conv => lhs; whnf
 . assumption
|apply zL
 . conv => lhs; whnf
 . assumption
|exact (k1 ‹_›).elim
|exact (k2 ‹_›).elim
|refine zA ?_
|refine zB ?_
|refine zK ?_
|apply aw_1
 conv => whnf
 refine ⟨?_,trivial⟩
|apply zR rfl rfl
 . conv => lhs; whnf
 . conv => lhs; whnf
 . first | exact bF1 ‹_› | exact bF2 ‹_›
|apply s_1
 conv => whnf; arg 1; arg 4; arg 3; whnf
 refine ⟨?_,?_⟩
|apply zd rfl
 . conv => lhs; whnf
 . conv => lhs; whnf
 . first | exact hsg | exact hlt | exact hsp
|apply zY rfl rfl rfl
 . conv => lhs; whnf
 . conv => lhs; whnf; arg 1; whnf
 . conv => lhs; whnf; arg 1; whnf
 . exact ⟨by kernel_rfl,by kernel_rfl⟩
 . rfl
|apply zD rfl
 . conv => lhs; whnf
 . conv => lhs; whnf
 . first | rfl | assumption
 . conv => lhs; whnf; arg 2; whnf
|apply ze rfl
 . conv => lhs; whnf
 . conv => lhs; whnf
 . first | rfl | assumption
|apply zJ rfl
 . conv => lhs; whnf
 . conv => lhs; whnf
 . conv => lhs; whnf; arg 2; whnf
|refine zM ?_
|refine zO ?_
|refine zC ?_
|exact trivial
|intro hg)
   . exact ⟨_,_,_,rfl,rfl,rfl,rfl⟩
   all_goals first
    | exact zT (by omega)
    | exact ⟨by kernel_rfl,by omega,by omega⟩
    | exact ⟨by kernel_rfl,by omega,by omega,by omega⟩
    | (rw [hbt]; exact zAT _)
    | exact (show Tryz.prog.underlying _ = some TypeDesc.string by kernel_rfl)
    | skip
 . have f2 : (zf (bs s) ((i : Int)).toNat == 45) = false:=(q 45 (by omega)).trans (by simpa using h45)
   have k1:=kn45 h45
   have k2:=kge (by omega)
   have f3 : decide (zf (bs s) ((i : Int)).toNat >= 48) = true:=by rw [hbt]; exact decide_eq_true (by omega)
   have f4 : decide (zf (bs s) ((i : Int)).toNat <= 57) = false:=by rw [hbt]; exact decide_eq_false (by omega)
   refine zG 116 Tryz.func85 rfl rfl rfl rfl ?_
   intro s0 w he
   repeat' (first
|apply zAM rfl rfl rfl
 . conv => lhs; whnf
 . first | rfl | assumption
 . conv => lhs; whnf
 . first | exact bT1 ‹_› | exact bT2 ‹_› | rfl
|apply zU
 . conv => lhs; whnf
 . assumption
|apply zL
 . conv => lhs; whnf
 . assumption
|exact (k1 ‹_›).elim
|exact (k2 ‹_›).elim
|refine zA ?_
|refine zB ?_
|refine zK ?_
|apply aw_1
 conv => whnf
 refine ⟨?_,trivial⟩
|apply zR rfl rfl
 . conv => lhs; whnf
 . conv => lhs; whnf
 . first | exact bF1 ‹_› | exact bF2 ‹_›
|apply s_1
 conv => whnf; arg 1; arg 4; arg 3; whnf
 refine ⟨?_,?_⟩
|apply zd rfl
 . conv => lhs; whnf
 . conv => lhs; whnf
 . first | exact hsg | exact hlt | exact hsp
|apply zY rfl rfl rfl
 . conv => lhs; whnf
 . conv => lhs; whnf; arg 1; whnf
 . conv => lhs; whnf; arg 1; whnf
 . exact ⟨by kernel_rfl,by kernel_rfl⟩
 . rfl
|apply zD rfl
 . conv => lhs; whnf
 . conv => lhs; whnf
 . first | rfl | assumption
 . conv => lhs; whnf; arg 2; whnf
|apply zJ rfl
 . conv => lhs; whnf
 . conv => lhs; whnf
 . conv => lhs; whnf; arg 2; whnf
|refine zM ?_
|refine zO ?_
|refine zC ?_
|exact trivial
|intro hg)
   . exact ⟨_,_,_,rfl,rfl,rfl,rfl⟩
   all_goals first
    | exact zT (by omega)
    | exact ⟨by kernel_rfl,by omega,by omega⟩
    | exact ⟨by kernel_rfl,by omega,by omega,by omega⟩
    | (rw [hbt]; exact zAT _)
    | exact (show Tryz.prog.underlying _ = some TypeDesc.string by kernel_rfl)
    | skip
theorem read_none (h0 : zAc s[i] = false) (h46 : s[i] ≠ 46) (h45 : s[i] ≠ 45) (hr : s[i].toNat < 48 \/ 57 < s[i].toNat) (hw : wrdU s[i] = false) (h34 : s[i] ≠ 34) : AC EN5 Tryz.prog 85 [.c (.string (bs s)),.c (.int .i64 (i : Int))] failR:=by
 have hz:=zg s
 have hbt:=zBz hi
 have hgd:=zEC hi
 have hdr : s.drop i = s[i] :: s.drop (i + 1):=List.drop_eq_getElem_cons hi
 have q : ∀ n : Nat,n < 256 -> (zf (bs s) ((i : Int)).toNat == (n : Int)) = (s[i] == UInt8.ofNat n):=fun n hn => by rw [hbt]; exact zES _ n hn
 have hsg:=zAE ((bs s).data.toList.getD ((i : Int)).toNat 0)
 have f0 : zAc ((bs s).data.toList.getD ((i : Int)).toNat 0) = false:=by rw [Int.toNat_natCast,hgd]; exact h0
 have hle:=zBo wrdU (s.drop (i + 1))
 rw [List.length_drop] at hle
 have f1 : (zf (bs s) ((i : Int)).toNat == 46) = false:=(q 46 (by omega)).trans (by simpa using h46)
 have k45 : s[i] = 45 -> ((zf (bs s) ((i : Int)).toNat == 45) == false) = true -> False:=fun h h2 => by
  have e : (zf (bs s) ((i : Int)).toNat == 45) = true:=(q 45 (by omega)).trans (by rw [h]; rfl)
  rw [e] at h2; cases h2
 have kn45 : s[i] ≠ 45 -> ((zf (bs s) ((i : Int)).toNat == 45) == false) = false -> False:=fun h h2 => by
  have e : (zf (bs s) ((i : Int)).toNat == 45) = false:=(q 45 (by omega)).trans (by simpa using h)
  rw [e] at h2; cases h2
 have kge : 48 <= s[i].toNat -> (decide (zf (bs s) ((i : Int)).toNat >= 48) == true) = false -> False:=fun h h2 => by
  rw [hbt,decide_eq_true (show ((s[i].toNat : Nat) : Int) >= 48 by omega)] at h2; cases h2
 have kng : s[i].toNat < 48 -> (decide (zf (bs s) ((i : Int)).toNat >= 48) == true) = true -> False:=fun h h2 => by
  rw [hbt,decide_eq_false (show ¬ ((s[i].toNat : Nat) : Int) >= 48 by omega)] at h2; cases h2
 have hlt:=zBk ((bs s).data.toList.getD ((i : Int)).toNat 0)
 have f5 : wrdU ((bs s).data.toList.getD ((i : Int)).toNat 0) = false:=by rw [Int.toNat_natCast,hgd]; exact hw
 have f6 : (zf (bs s) ((i : Int)).toNat == 34) = false:=(q 34 (by omega)).trans (by simpa using h34)
 rcases hr with hr | hr
 . have f2 : (zf (bs s) ((i : Int)).toNat == 45) = false:=(q 45 (by omega)).trans (by simpa using h45)
   have k1:=kn45 h45
   have k2:=kng hr
   have f3 : decide (zf (bs s) ((i : Int)).toNat >= 48) = false:=by rw [hbt]; exact decide_eq_false (by omega)
   refine zG 116 Tryz.func85 rfl rfl rfl rfl ?_
   intro s0 w he
   repeat' (first
|apply zAN rfl rfl rfl
 . conv => lhs; whnf
 . first | rfl | assumption
 . conv => lhs; whnf
 . first | exact bF1 ‹_› | exact bF2 ‹_› | rfl
|apply zL
 . conv => lhs; whnf
 . assumption
|exact (k1 ‹_›).elim
|exact (k2 ‹_›).elim
|refine zA ?_
|refine zB ?_
|refine zK ?_
|refine zb ?_
|apply aw_1
 conv => whnf
 refine ⟨?_,trivial⟩
|apply zR rfl rfl
 . conv => lhs; whnf
 . conv => lhs; whnf
 . first | exact bF1 ‹_› | exact bF2 ‹_›
|apply s_1
 conv => whnf; arg 1; arg 4; arg 3; whnf
 refine ⟨?_,?_⟩
|apply zd rfl
 . conv => lhs; whnf
 . conv => lhs; whnf
 . first | exact hsg | exact hlt
|apply zY rfl rfl rfl
 . conv => lhs; whnf
 . conv => lhs; whnf; arg 1; whnf
 . conv => lhs; whnf; arg 1; whnf
 . exact ⟨by kernel_rfl,by kernel_rfl⟩
 . rfl
|apply zD rfl
 . conv => lhs; whnf
 . conv => lhs; whnf
 . first | rfl | assumption
 . conv => lhs; whnf; arg 2; whnf
|apply ze rfl
 . conv => lhs; whnf
 . conv => lhs; whnf
 . first | rfl | assumption
|apply zJ rfl
 . conv => lhs; whnf
 . conv => lhs; whnf
 . conv => lhs; whnf; arg 2; whnf
|refine zC ?_
|exact trivial
|intro hg)
   . exact ⟨_,_,_,rfl,rfl,rfl,rfl⟩
   all_goals first
    | exact zT (by omega)
    | exact ⟨by kernel_rfl,by omega,by omega⟩
    | exact ⟨by kernel_rfl,by omega,by omega,by omega⟩
    | (rw [hbt]; exact zAT _)
    | exact (show Tryz.prog.underlying _ = some TypeDesc.string by kernel_rfl)
    | skip
 . have f2 : (zf (bs s) ((i : Int)).toNat == 45) = false:=(q 45 (by omega)).trans (by simpa using h45)
   have k1:=kn45 h45
   have k2:=kge (by omega)
   have f3 : decide (zf (bs s) ((i : Int)).toNat >= 48) = true:=by rw [hbt]; exact decide_eq_true (by omega)
   have f4 : decide (zf (bs s) ((i : Int)).toNat <= 57) = false:=by rw [hbt]; exact decide_eq_false (by omega)
   refine zG 116 Tryz.func85 rfl rfl rfl rfl ?_
   intro s0 w he
   repeat' (first
|apply zAM rfl rfl rfl
 . conv => lhs; whnf
 . first | rfl | assumption
 . conv => lhs; whnf
 . first | exact bT1 ‹_› | exact bT2 ‹_› | rfl
|apply zL
 . conv => lhs; whnf
 . assumption
|exact (k1 ‹_›).elim
|exact (k2 ‹_›).elim
|refine zA ?_
|refine zB ?_
|refine zK ?_
|refine zb ?_
|apply aw_1
 conv => whnf
 refine ⟨?_,trivial⟩
|apply zR rfl rfl
 . conv => lhs; whnf
 . conv => lhs; whnf
 . first | exact bF1 ‹_› | exact bF2 ‹_›
|apply s_1
 conv => whnf; arg 1; arg 4; arg 3; whnf
 refine ⟨?_,?_⟩
|apply zd rfl
 . conv => lhs; whnf
 . conv => lhs; whnf
 . first | exact hsg | exact hlt
|apply zY rfl rfl rfl
 . conv => lhs; whnf
 . conv => lhs; whnf; arg 1; whnf
 . conv => lhs; whnf; arg 1; whnf
 . exact ⟨by kernel_rfl,by kernel_rfl⟩
 . rfl
|apply zD rfl
 . conv => lhs; whnf
 . conv => lhs; whnf
 . first | rfl | assumption
 . conv => lhs; whnf; arg 2; whnf
|apply zJ rfl
 . conv => lhs; whnf
 . conv => lhs; whnf
 . conv => lhs; whnf; arg 2; whnf
|refine zC ?_
|exact trivial
|intro hg)
   . exact ⟨_,_,_,rfl,rfl,rfl,rfl⟩
   all_goals first
    | exact zT (by omega)
    | exact ⟨by kernel_rfl,by omega,by omega⟩
    | exact ⟨by kernel_rfl,by omega,by omega,by omega⟩
    | (rw [hbt]; exact zAT _)
    | exact (show Tryz.prog.underlying _ = some TypeDesc.string by kernel_rfl)
    | skip
end
end Go.Proofs.YthjiclhfhjdjpaaGreatDoor
