import Derived.Below
import Derived.Carry
import Derived.ChangeSame
import Derived.WideKeyArgs
import Derived.Test.YthppafnlnnpciaaGreatDoorCards
import Derived.Test.YthppafnlnnpciaaGreatDoorTie
import Derived.ProofKit
import Derived.OpenShut
import Derived.Deep.DeepHandedRow
import Derived.Lib.OthersKept
import Derived.Test.YthppafnlnnpciaaGreatDoorRows
import Derived.Test.YthppafnlnnpciaaGreatDoorV25
set_option linter.unusedVariables false
set_option linter.unusedSimpArgs false
namespace Go.Proofs.YthppafnlnnpciaaGreatDoor
section
open Go.RowKit
attribute [local irreducible] wpList Calls Code.wp
mutual
def bulkD:D->Nat
 |.int _=>1
 |.bool _=>1
 |.str s=>s.size+1
 |.list l=>bulkL l+1
 |.obj l=>bulkL l+1
def bulkL:List D->Nat
 |[]=>0
 |d::r=>bulkD d+bulkL r
 end
def Fits (P:Program):Nat->TypeId->D->Prop
 |0,_,_=>False
 |k+1,t,d =>
  match P.underlying t with
  |some .bool => ∃ b,d = .bool b
  |some (.int _) => ∃ n,d = .int n
  |some .string => ∃ s,d = .str s
  |some (.slice e) => ∃ l,d = .list l /\ ∀ i,i<l.length->Fits P k e (gD l i)
  |some (.struct fs) => ∃ l,d = .obj l/\l.length=fs.size /\ ∀ j f,fs[j]? = some f->Fits P k f.type (gD l j)
  |_=>True
theorem Fits.up {P:Program} : ∀ {k:Nat} {t:TypeId} {d:D},Fits P k t d->Fits P (k+1) t d
 |0,_,_,h=>h.elim
 |k+1,t,d,h=>by
  unfold Fits at h |-
  split at h
  . exact h
  . exact h
  . exact h
  . obtain ⟨l,h1,h2⟩:=h
    exact ⟨l,h1,fun i hi=>Fits.up (h2 i hi)⟩
  . obtain ⟨l,h1,h2,h3⟩:=h
    exact ⟨l,h1,h2,fun j f hf=>Fits.up (h3 j f hf)⟩
  . trivial
theorem bulk_pos {H:Type} (d:DataW H):1<=Rows.uptoBulk d:=by
 cases d with
 |lit x=>cases x<;>simp [Rows.uptoBulk]
 |_=>simp [Rows.uptoBulk]
theorem zEN {H:Type} : ∀ (l:List D) (xs:List (DataW H × List MemPlace)),l.length=xs.length->(∀ i (h:i<xs.length),bulkD (gD l i)<=Rows.uptoBulk (xs[i]'h).1)->bulkL l<=Rows.uptoBulkAll (xs.map (·.1))
 |[],_,_,_=>by simp [bulkL]
 |d::r,[],h,_=>by simp at h
 |d::r,x::xs,h,hb=>by
  have h0:=hb 0 (by simp)
  have h1:=zEN r xs (by simpa using h) fun i hi=>by
   have:=hb (i+1) (by simpa using hi)
   simpa [gD] using this
  simp only [List.map_cons,Rows.uptoBulkAll,bulkL]
  have e:gD (d::r) 0=d:=rfl
  rw [e] at h0
  have e2:(((x::xs)[0]'(by simp)).1)=x.1:=rfl
  rw [e2] at h0
  omega
theorem zCn {P:Program} {w:World} {H:Type} {enc:TypeId × Value->H} {held:Bool} {sp:Nat->Bool} : ∀ {k:Nat} {t:TypeId} {cs:List Value} {x:DataW H × List MemPlace},
 DataW.trod enc P w 0 sp held k t cs=some x -> ∃ d,Rep P w (fun b=>b<w.heap.size) k t cs d/\Fits P k t d/\bulkD d<=Rows.uptoBulk x.1
 |0,t,cs,x,h=>by simp [DataW.trod] at h
 |k+1,t,cs,x,h=>by
  have hpos:=bulk_pos x.1
  cases hu:P.underlying t with
  |none=>exact ⟨default,by unfold Rep;rw [hu];trivial,by unfold Fits;rw [hu];trivial,by show bulkD (.obj [])<=_;simpa [bulkD,bulkL] using hpos⟩
  |some ty =>
   cases ty
   case bool =>
    obtain ⟨b,rfl,_⟩:=DataW.trod_bool hu h
    exact ⟨.bool b,.mk_bool hu,by unfold Fits;rw [hu];exact ⟨b,rfl⟩,by simpa [bulkD] using hpos⟩
   case int q =>
    obtain ⟨n,rfl,_,hw⟩:=DataW.trod_int hu h
    exact ⟨.int n,.mk_int hu hw,by unfold Fits;rw [hu];exact ⟨n,rfl⟩,by simpa [bulkD] using hpos⟩
   case string =>
    obtain ⟨s,rfl,hx,hs⟩:=DataW.trod_string hu h
    refine ⟨.str s,.mk_str hu hs,by unfold Fits;rw [hu];exact ⟨s,rfl⟩,?_⟩
    rw [hx]
    simp [bulkD,Rows.uptoBulk]
   case slice e =>
    rcases DataW.trod_slice hu h with ⟨rfl,_⟩ | ⟨a,len,cap,elems,rest,n,hk,rfl,hx,_,hle,hcm,hlen,hel,_⟩
    . exact ⟨.list [],.mk_slice hu rfl (by simp) (by simp [maxLen]) (fun _=>rfl) (Sl.nil _ _ _),by unfold Fits;rw [hu];exact ⟨[],rfl,fun i hi=>by simp at hi⟩,by simpa [bulkD,bulkL] using hpos⟩
    . obtain rfl:n=k:=by omega
      have hx2 : ∀ i,i<len -> ∃ d,(∃ ys,w.cells? 0 (a.add (i*P.cellsOf e)) (P.cellsOf e)=some ys/\Rep P w (fun b=>b<w.heap.size) n e ys d)/\Fits P n e d /\ ∀ h:i<elems.length,bulkD d<=Rows.uptoBulk (elems[i]'h).1:=fun i hi=>by
       have h1:=hel i hi
       rw [List.getElem?_eq_getElem (by omega)] at h1
       obtain ⟨ys,y1,y2⟩:=Option.bind_eq_some_iff.1 h1
       obtain ⟨d,hd,hd2,hd3⟩:=zCn y2
       exact ⟨d,⟨ys,y1,hd⟩,hd2,fun _=>hd3⟩
      obtain ⟨l,hll,hl⟩:=zFk hx2
      refine ⟨.list l,.mk_slice hu hll.symm (by omega) hcm (fun h=>by cases h) ?_,by unfold Fits;rw [hu];exact ⟨l,rfl,fun i hi=>(hl i (by omega)).2.1⟩,?_⟩
      . intro h0 hc
        obtain ⟨b,off,spot⟩:=a
        obtain ⟨⟨ys,y1,_⟩,_⟩:=hl 0 (by omega)
        obtain ⟨_,y3,y4⟩:=World.cells?_some y1
        have y5:=y4 0 hc
        rw [List.getElem?_eq_getElem (by omega)] at y5
        have hspot:spot=none:=by simpa [Addr.add] using World.cell?_spot y5
        subst hspot
        have hbl:b<w.heap.size:=by simpa [Addr.add] using block_lt_of_cell y5
        refine ⟨b,off,rfl,hbl,fun i hi => ?_⟩
        obtain ⟨⟨ys,y1,y2⟩,_⟩:=hl i (by omega)
        obtain ⟨_,y3,y4⟩:=World.cells?_some y1
        refine ⟨ys,y3,fun j u hu => ?_,y2⟩
        have hj:j<P.cellsOf e:=by have:=(List.getElem?_eq_some_iff.1 hu).1;omega
        have:=y4 j hj
        rw [Go.WideShapes.add_plain,Go.WideShapes.add_plain,hu] at this
        exact this
      . have:=zEN l elems (by omega) fun i hi=>(hl i (by omega)).2.2 hi
        rw [hx]
        simp only [bulkD,Rows.uptoBulk]
        omega
   case struct fs =>
    obtain ⟨xs,n,hk,hx,hcs,hxs,hf⟩:=DataW.trod_struct hu h
    obtain rfl:n=k:=by omega
    have hx2 : ∀ j,j<fs.size -> ∃ d,(∀ f,fs[j]? = some f->Rep P w (fun b=>b<w.heap.size) n f.type ((cs.drop f.offset).take (P.cellsOf f.type)) d/\Fits P n f.type d) /\ ∀ h:j<xs.length,bulkD d<=Rows.uptoBulk (xs[j]'h).1:=fun j hj=>by
     have h1:=hf j fs[j] (Array.getElem?_eq_getElem hj)
     rw [List.getElem?_eq_getElem (by omega)] at h1
     obtain ⟨d,hd,hd2,hd3⟩:=zCn h1
     refine ⟨d,fun f hf => ?_,fun _=>hd3⟩
     rw [Array.getElem?_eq_getElem hj] at hf
     cases hf;exact ⟨hd,hd2⟩
    obtain ⟨l,hll,hl⟩:=zFk hx2
    refine ⟨.obj l,.mk_struct hu hcs fun j f hjf=>((hl j (Array.getElem?_eq_some_iff.1 hjf).1).1 f hjf).1,by unfold Fits;rw [hu];exact ⟨l,rfl,hll,fun j f hjf=>((hl j (Array.getElem?_eq_some_iff.1 hjf).1).1 f hjf).2⟩,?_⟩
    have:=zEN l xs (by omega) fun i hi=>(hl i (by omega)).2 hi
    rw [hx]
    simp only [bulkD,Rows.uptoBulk]
    omega
   all_goals exact ⟨default,by unfold Rep;rw [hu];trivial,by unfold Fits;rw [hu];trivial,by show bulkD (.obj [])<=_;simpa [bulkD,bulkL] using hpos⟩
end
section
def commaT:List UInt8:=[44,32]
def i64D (n:Int):Prop:=-9223372036854775808<=n/\n<=9223372036854775807
def Dp:Nat->D->Prop
 |0,_=>False
 |k+1,d => ∀ i,i<(d.f 3).l.length->Dp k (gD (d.f 3).l i)
mutual
def wideD:D->Prop
 |.int n=>i64D n
 |.bool _=>True
 |.str _=>True
 |.list l=>wideL l
 |.obj l=>wideL l
def wideL:List D->Prop
 |[]=>True
 |d::r=>wideD d/\wideL r
end
theorem zE1 : ∀ {l:List D},wideL l -> ∀ i,wideD (gD l i)
 |[],_,i=>by show wideD (.obj []);simp [wideD,wideL]
 |d::r,h,i=>by
  rw [wideL] at h
  cases i with
  |zero=>exact h.1
  |succ i=>exact zE1 h.2 i
theorem wideD.f {d:D} (h:wideD d) (i:Nat):wideD (d.f i):=by
 cases d with
 |obj l=>rw [wideD] at h;exact zE1 h i
 |_=>show wideD (.obj []);simp [wideD,wideL]
theorem wideD.l {d:D} (h:wideD d) (i:Nat):wideD (gD d.l i):=by
 cases d with
 |list l=>rw [wideD] at h;exact zE1 h i
 |_=>show wideD (.obj []);simp [wideD,wideL]
theorem wideD.n {d:D} (h:wideD d):i64D d.n:=by
 cases d with
 |int n=>rw [wideD] at h;exact h
 |_=>show i64D 0;unfold i64D;omega
def sumN (f:Nat->Nat):Nat->Nat
 |0=>0
 |n+1=>sumN f n+f n
theorem zCi {f g:Nat->Nat} : ∀ {n:Nat},(∀ i,i<n->f i<=g i)->sumN f n<=sumN g n
 |0,_=>Nat.le_refl _
 |n+1,h=>by
  have:=zCi (n:=n) fun i hi=>h i (by omega)
  have:=h n (by omega)
  simp only [sumN];omega
theorem zBK (c:Nat) (f:Nat->Nat) : ∀ n,sumN (fun i=>c*f i) n=c*sumN f n
 |0=>by simp [sumN]
 |n+1=>by simp only [sumN,zBK c f n,Nat.mul_add]
theorem zGm (f g:Nat->Nat) : ∀ n,sumN (fun i=>f i+g i) n=sumN f n+sumN g n
 |0=>rfl
 |n+1=>by simp only [sumN,zGm f g n];omega
theorem zAt (f:Nat->Nat) {n m:Nat} (h:n<=m):sumN f n<=sumN f m:=by
 induction m with
 |zero=>have:n=0:=by omega
        subst this;exact Nat.le_refl _
 |succ m ih =>
  rcases Nat.lt_or_ge n (m+1) with h' | h'
  . have:=ih (by omega);simp only [sumN];omega
  . have:n=m+1:=by omega
    subst this;exact Nat.le_refl _
theorem zHh (f:Nat->Nat) : ∀ n,sumN f (n+1)=f 0+sumN (fun i=>f (i+1)) n
 |0=>by simp [sumN]
 |n+1=>by rw [sumN,zHh f n,sumN];omega
def wD (d:D):Nat:=bulkD d-1
theorem zAl (d:D):1<=bulkD d:=by cases d<;>simp [bulkD]
theorem zb (d:D):bulkD d=wD d+1:=by unfold wD;have:=zAl d;omega
theorem zAX (d:D):d.s.size<=wD d:=by
 cases d with
 |str s=>simp [wD,bulkD,D.s]
 |_=>exact Nat.zero_le _
theorem zn (d:D):bulkL d.l<=wD d:=by cases d<;>simp [wD,bulkD,D.l,bulkL]
theorem zAg : ∀ (l:List D),bulkL l=sumN (fun i=>bulkD (gD l i)) l.length
 |[]=>rfl
 |d::r=>by
  rw [bulkL,zAg r,List.length_cons,zHh];rfl
theorem bulkL_out (l:List D) : ∀ n,sumN (fun i=>wD (gD l i)) n<=bulkL l:=by
 intro n
 have hout : ∀ i,l.length<=i->wD (gD l i)=0:=fun i hi=>by
  unfold gD
  rw [List.getD_eq_getElem?_getD,List.getElem?_eq_none hi];rfl
 have hin : ∀ m,m<=l.length->sumN (fun i=>wD (gD l i)) m<=bulkL l:=fun m hm=>by
  rw [zAg]
  refine Nat.le_trans (zAt _ hm) (zCi fun i hi => ?_)
  have:=zb (gD l i);omega
 rcases Nat.le_total n l.length with h | h
 . exact hin n h
 . obtain ⟨m,rfl⟩:=Nat.exists_eq_add_of_le h
   clear h
   induction m with
   |zero=>exact hin _ (Nat.le_refl _)
   |succ m ih =>
    rw [<- Nat.add_assoc,sumN,hout (l.length+m) (by omega)]
    omega
theorem zAJ (d:D) (n:Nat):sumN (fun i=>wD (d.f i)) n<=wD d:=by
 cases d with
 |obj l=>exact bulkL_out l n
 |_ =>
  refine Nat.le_trans (zCi (g:=fun _=>0) fun i _ => ?_) (Nat.le_trans (Nat.le_of_eq ?_) (Nat.zero_le _))
  . show wD (.obj [])<=0
    simp [wD,bulkD,bulkL]
  . induction n with
    |zero=>rfl
    |succ n ih=>simp only [sumN,ih]
theorem wD_f (d:D) (i:Nat):wD (d.f i)<=wD d:=by
 have:=zAJ d (i+1)
 simp only [sumN] at this;omega
theorem zAE {l:List D} {i:Nat} (h:i<l.length):bulkD (gD l i)<=bulkL l:=by
 rw [zAg]
 have:=zAt (fun i=>bulkD (gD l i)) (show i+1<=l.length by omega)
 simp only [sumN] at this;omega
theorem zBq {d:D} {j i:Nat} (h:i<(d.f j).l.length):bulkD (gD (d.f j).l i)<=wD d:=by
 have h1:=zAE h
 have h2:=zn (d.f j)
 have h3:=wD_f d j
 omega
theorem zCR : ∀ (k:Nat) (d:D),bulkD d<=k->Dp k d
 |0,d,h=>by have:=zAl d;omega
 |k+1,d,h=>fun i hi=>zCR k _ (by have:=zBq hi;have:=zb d;omega)
def valT:Nat->D->List UInt8
 |0,_=>[]
 |k+1,d =>
  if (d.f 0).n=1 then (if (d.f 1).n=1 then [116,114,117,101] else [102,97,108,115,101])
  else if (d.f 0).n=2 then Lib.itoa (d.f 1).n
  else if (d.f 0).n=3 then zBC (tx (d.f 2).s)
  else if (d.f 0).n=4 then tx (d.f 2).s
  else if (d.f 0).n=7 then [36]++tx (d.f 2).s
  else if (d.f 0).n=5 then [91]++Lib.join ((List.range (d.f 3).l.length).map fun i=>valT k (gD (d.f 3).l i)) commaT++[93]
  else if (d.f 0).n=6 then [123]++Lib.join ((List.range (min (d.f 4).l.length (d.f 3).l.length)).map fun i=>tx (gD (d.f 4).l i).s++[58,32]++valT k (gD (d.f 3).l i)) commaT++[125]
  else [110,117,108,108]
theorem zE3 : ∀ {k m:Nat} {d:D},Dp k d->k<=m->valT m d=valT k d
 |0,_,_,h,_=>h.elim
 |k+1,0,_,_,hm=>by omega
 |k+1,m+1,d,h,hm=>by
  have hk : ∀ i,i<(d.f 3).l.length->valT m (gD (d.f 3).l i)=valT k (gD (d.f 3).l i):=fun i hi=>zE3 (h i hi) (by omega)
  unfold valT
  have e1:(List.range (d.f 3).l.length).map (fun i=>valT m (gD (d.f 3).l i))=(List.range (d.f 3).l.length).map (fun i=>valT k (gD (d.f 3).l i)):=
   List.map_congr_left fun i hi=>hk i (List.mem_range.1 hi)
  have e2:(List.range (min (d.f 4).l.length (d.f 3).l.length)).map (fun i=>tx (gD (d.f 4).l i).s++[58,32]++valT m (gD (d.f 3).l i))=(List.range (min (d.f 4).l.length (d.f 3).l.length)).map (fun i=>tx (gD (d.f 4).l i).s++[58,32]++valT k (gD (d.f 3).l i)):=
   List.map_congr_left fun i hi=>by rw [hk i (by have:=List.mem_range.1 hi;omega)]
  rw [e1,e2]
theorem join_le (sep:List UInt8) : ∀ (ls:List (List UInt8)),(Lib.join ls sep).length<=(ls.map fun l=>l.length+sep.length).sum:=by
 have tail : ∀ (ls:List (List UInt8)),(Lib.joinTail sep ls).length=(ls.map fun l=>l.length+sep.length).sum:=fun ls=>by
  induction ls with
  |nil=>rfl
  |cons l r ih =>
   unfold Lib.joinTail at ih |-
   simp only [List.map_cons,List.flatten_cons,List.length_append,List.sum_cons,ih]
   omega
 intro ls
 cases ls with
 |nil=>simp [Lib.join_nil]
 |cons x r =>
  rw [Lib.join_cons,List.length_append,tail]
  simp only [List.map_cons,List.sum_cons]
  omega
theorem zHy (f:Nat->Nat) : ∀ n,((List.range n).map f).sum=sumN f n
 |0=>rfl
 |n+1=>by simp [List.range_succ,zHy f n,sumN]
theorem zA6 (n:Nat) (f:Nat->List UInt8) (sep:List UInt8) (b:Nat->Nat) (h : ∀ i,i<n->(f i).length+sep.length<=b i):(Lib.join ((List.range n).map f) sep).length<=sumN b n:=by
 refine Nat.le_trans (join_le _ _) ?_
 rw [List.map_map,zHy]
 exact zCi h
theorem quote_len (l:List UInt8):(zBC l).length<=6*l.length+2:=by
 have:=zDY l
 simp only [zBC,List.length_append,List.length_cons,List.length_nil];omega
theorem zBJ : ∀ (k:Nat) (d:D),wideD d->(valT k d).length+2<=24*bulkD d
 |0,d,_=>by have:=zAl d;simp [valT];omega
 |k+1,d,hw=>by
  have h1:=(hw.f 1).n
  have hd:=zb d
  have hf:=zAJ d 5
  simp only [sumN] at hf
  have h2:=zAX (d.f 2)
  have h3:=zn (d.f 3)
  have h4:=zn (d.f 4)
  have t2:=zA0 (d.f 2).s
  unfold valT
  split
  . split<;>simp<;>omega
  split
  . have:=zIJ _ h1.1 h1.2;omega
  split
  . have:=quote_len (tx (d.f 2).s);omega
  split
  . omega
  split
  . simp only [List.length_append,List.length_cons,List.length_nil];omega
  split
  . have:=zA6 (d.f 3).l.length (fun i=>valT k (gD (d.f 3).l i)) commaT (fun i=>24*bulkD (gD (d.f 3).l i)) fun i hi=>zBJ k _ ((hw.f 3).l i)
    rw [zBK,<- zAg] at this
    simp only [List.length_append,List.length_cons,List.length_nil];omega
  split
  . have:=zA6 (min (d.f 4).l.length (d.f 3).l.length) (fun i=>tx (gD (d.f 4).l i).s++[58,32]++valT k (gD (d.f 3).l i)) commaT (fun i=>24*bulkD (gD (d.f 4).l i)+24*bulkD (gD (d.f 3).l i)) fun i hi=>by
     have a:=zBJ k (gD (d.f 3).l i) ((hw.f 3).l i)
     have b:=zAX (gD (d.f 4).l i)
     have c:=zb (gD (d.f 4).l i)
     have e:=zA0 (gD (d.f 4).l i).s
     have e':commaT.length=2:=rfl
     simp only [List.length_append,List.length_cons,List.length_nil]
     omega
    rw [zGm,zBK,zBK] at this
    have a1:=zAt (fun i=>bulkD (gD (d.f 4).l i)) (show min (d.f 4).l.length (d.f 3).l.length<=(d.f 4).l.length by omega)
    have a2:=zAt (fun i=>bulkD (gD (d.f 3).l i)) (show min (d.f 4).l.length (d.f 3).l.length<=(d.f 3).l.length by omega)
    rw [<- zAg] at a1 a2
    simp only [List.length_append,List.length_cons,List.length_nil];omega
  . simp;omega
def argT (k:Nat) (a:D):List UInt8:=tx (a.f 0).s++[58,32]++valT k (a.f 1)
def zIj (k:Nat) (l:List D):List UInt8:=Lib.join (l.map (argT k)) commaT
def parT (k:Nat) (l:List D):List UInt8:=if l.length=0 then [] else [40]++zIj k l++[41]
def dirT (k:Nat) (x:D):List UInt8:=[64]++tx (x.f 0).s++parT k (x.f 1).l
def zJZ (k:Nat) (l:List D):List UInt8:=Lib.join (l.map (dirT k)) [32]
def zAV (k:Nat) (l:List D):List UInt8:=if l.length=0 then [] else [32]++zJZ k l
theorem zBH (l:List D) (f:D->List UInt8) (sep:List UInt8) (c:Nat) (h : ∀ i,i<l.length->(f (gD l i)).length+sep.length<=c*bulkD (gD l i)):(Lib.join (l.map f) sep).length<=c*bulkL l:=by
 have e:l.map f=(List.range l.length).map fun i=>f (gD l i):=by
  apply List.ext_getElem (by simp)
  intro i h1 h2
  simp [zBp (l:=l) (i:=i) (by simpa using h1)]
 rw [e,zAg,<- zBK]
 exact zA6 _ _ _ _ h
theorem argT_len (k:Nat) (a:D) (h:wideD a):(argT k a).length+2<=28*bulkD a:=by
 have h1:=zBJ k (a.f 1) (h.f 1)
 have h2:=zb (a.f 1)
 have h3:=zb a
 have h4:=zAX (a.f 0)
 have h5:=zAJ a 2
 have h6:=zA0 (a.f 0).s
 simp only [sumN] at h5
 simp only [argT,List.length_append,List.length_cons,List.length_nil]
 omega
theorem zIi (k:Nat) (l:List D) (h : ∀ i,wideD (gD l i)):(zIj k l).length<=28*bulkL l:=zBH l _ _ _ fun i _=>argT_len k _ (h i)
theorem parT_len (k:Nat) (l:List D) (h : ∀ i,wideD (gD l i)):(parT k l).length<=28*bulkL l+2:=by
 have:=zIi k l h
 unfold parT
 split
 . simp
 . simp only [List.length_append,List.length_cons,List.length_nil];omega
theorem dirT_len (k:Nat) (x:D) (h:wideD x):(dirT k x).length+2<=32*bulkD x:=by
 have h1:=parT_len k (x.f 1).l fun i=>(h.f 1).l i
 have h3:=zb x
 have h4:=zAX (x.f 0)
 have h5:=zAJ x 2
 have h6:=zn (x.f 1)
 have h7:=zA0 (x.f 0).s
 simp only [sumN] at h5
 simp only [dirT,List.length_append,List.length_cons,List.length_nil]
 omega
theorem zFe (k:Nat) (l:List D) (h : ∀ i,wideD (gD l i)):(zJZ k l).length<=32*bulkL l:=zBH l _ _ _ fun i _=>by have:=dirT_len k _ (h i);simp only [List.length_cons,List.length_nil];omega
theorem zKL (ls:List (List UInt8)) (l sep:List UInt8) (h:ls≠[]):Lib.join (ls++[l]) sep=Lib.join ls sep++sep++l:=by
 cases ls with
 |nil=>exact absurd rfl h
 |cons x r =>
  rw [List.cons_append,Lib.join_cons,Lib.join_cons]
  simp [Lib.joinTail]
def maxN (f:Nat->Nat):Nat->Nat
 |0=>0
 |n+1=>max (maxN f n) (f n)
def sizeR:Nat->D->Nat
 |0,_=>1
 |k+1,d=>1+sumN (fun i=>sizeR k (gD (d.f 3).l i)) (d.f 3).l.length
def depthR:Nat->D->Nat
 |0,_=>1
 |k+1,d=>maxN (fun i=>depthR k (gD (d.f 3).l i)) (d.f 3).l.length+1
def strsR (d:D):List (List UInt8):=(d.f 4).l.map fun x=>x.s.data.toList
def enumR (s:ByteArray):Bool:=nameB s && !(s.data.toList==[116,114,117,101]) && !(s.data.toList==[102,97,108,115,101]) && !(s.data.toList==[110,117,108,108])
def nodeK (n i:Int) (t:Bool) (a b:Nat) (x v ks y:Bool):Bool:=
 (n==1||n==2||i==0)&&(n==3||n==4||n==7||t)&&(n==6||a==0)&&(n==6||n==5||b==0)&&decide (0<=n/\n<=7)&&(!(n==1)||i==0||i==1)&&(!(n==4)||x)&&(!(n==7)||v)&&(!(n==6)||(ks&&a==b&&y))
def zJG (d:D):Bool:=
 nodeK (d.f 0).n (d.f 1).n ((d.f 2).s.data.toList==[]) (d.f 4).l.length (d.f 3).l.length (enumR (d.f 2).s) (nameB (d.f 2).s) (!((d.f 4).l.any fun x => !nameB x.s)) (decide (strsR d).Nodup)
def everyL:Nat->D->Bool
 |0,_=>false
 |k+1,d=>zJG d && !((d.f 3).l.any fun x => !everyL k x)
def litR (d:D):Bool:=decide (sizeR (bulkD d) d<=4096)&&decide (depthR (bulkD d) d<=24)&&everyL (bulkD d) d
def bareR:Nat->D->Bool
 |0,_=>false
 |k+1,d => !((d.f 0).n==7) && !((d.f 3).l.any fun x => !bareR k x)
def argR (d:D):Bool:=nameB (d.f 0).s&&litR (d.f 1)
def zFo (l:List D):Bool:=decide (l.length<=16) && !(l.any fun x => !argR x)
def dirR (d:D):Bool:=nameB (d.f 0).s&&zFo (d.f 1).l
def zHR (l:List D):Bool:=decide (l.length<=16) && !(l.any fun x => !dirR x)
def titleR (s:ByteArray):Bool:=nameB s && !(s.data.toList==[111,110])
def zJF (s:ByteArray):Bool:=s.data.toList==[]
def selsR (sel:D->Bool) (l:List D) (least lv:Nat):Bool:=decide (least<=l.length)&&decide (l.length<=64)&&(decide (l.length=0)||decide (lv<=24)) && !(l.any fun x => !sel x)
def selR:Nat->Nat->D->Bool
 |0,_,_=>false
 |k+1,lv,d=>zFo (d.f 4).l&&zHR (d.f 5).l &&
  (if (d.f 0).n=1 then zJF (d.f 3).s&&nameB (d.f 2).s&&(zJF (d.f 1).s||nameB (d.f 1).s)&&selsR (selR k (lv+1)) (d.f 6).l 0 (lv+1)
  else if (d.f 0).n=2 then zJF (d.f 3).s&&zJF (d.f 1).s&&decide ((d.f 4).l.length=0)&&decide ((d.f 6).l.length=0)&&titleR (d.f 2).s
  else if (d.f 0).n=3 then zJF (d.f 1).s&&zJF (d.f 2).s&&decide ((d.f 4).l.length=0)&&(zJF (d.f 3).s||nameB (d.f 3).s)&&selsR (selR k (lv+1)) (d.f 6).l 1 (lv+1)
  else false)
def zCZ:List Int->Bool
 |[]=>true
 |[w]=>w==1||w==2
 |w::v::r=>(w==1||w==2) && !(w==1&&v==1)&&zCZ (v::r)
def refR (d:D):Bool:=nameB (d.f 0).s&&decide ((d.f 1).l.length<=24)&&zCZ ((d.f 1).l.map D.n)
section
variable (lit:D->Bool)
def valY (v:D):Bool:=lit v&&bareR (bulkD v) v
def argY (a:D):Bool:=nameB (a.f 0).s&&valY lit (a.f 1)
def argsY (l:List D):Bool:=decide (l.length<=16)&&l.all (argY lit)
def dirY (x:D):Bool:=nameB (x.f 0).s&&argsY lit (x.f 1).l
def dirsY (l:List D):Bool:=decide (l.length<=16)&&l.all (dirY lit)
def inY (x:D):Bool:=nameB (x.f 0).s&&refR (x.f 1)&&dirsY lit (x.f 4).l&&valY lit (x.f 3)&&((x.f 2).b||((x.f 3).f 0).n==0)
def insY (l:List D):Bool:=decide (l.length<=16)&&l.all (inY lit)
def fdY (x:D):Bool:=nameB (x.f 0).s&&insY lit (x.f 1).l&&refR (x.f 2)&&dirsY lit (x.f 3).l
def fdsY (l:List D):Bool:=decide (l.length<=64)&&l.all (fdY lit)
def mbY (u:Bool) (x:D):Bool:=nameB (x.f 0).s&&dirsY lit (x.f 1).l&&(!u||decide ((x.f 1).l.length=0))
def mbsY (u:Bool) (l:List D):Bool:=decide (l.length<=64)&&l.all (mbY lit u)
def imY (l:List D):Bool:=decide (l.length<=64)&&l.all fun x=>nameB x.s
def kindY (k:Int) (a b c e:Nat):Bool:=
 decide (1<=k/\k<=5)&&(decide (e=0)||k==1)&&((k==1||k==2)==decide (0<a))&&((k==3||k==4)==decide (0<b))&&((k==5)==decide (0<c))
def defY (d:D):Bool:=
 kindY (d.f 0).n (d.f 4).l.length (d.f 5).l.length (d.f 6).l.length (d.f 2).l.length&&nameB (d.f 1).s&&dirsY lit (d.f 3).l&&imY (d.f 2).l &&
 fdsY lit (d.f 4).l&&mbsY lit ((d.f 0).n==3) (d.f 5).l&&insY lit (d.f 6).l
def docY (l:List D):Bool:=decide (1<=l.length/\l.length<=64)&&l.all (defY lit)
end
theorem zD9 {p:D->Bool} {l:List D} (h:l.all p=true) : ∀ i,i<l.length->p (gD l i)=true:=fun i hi=>by
 rw [zBp hi];exact List.all_eq_true.1 h _ (List.getElem_mem hi)
structure ValP (v:D):Prop where
 lit:litR v=true
 bare:bareR (bulkD v) v=true
structure ArgP (a:D):Prop where
 name:nameB (a.f 0).s=true
 val:ValP (a.f 1)
structure DirP (x:D):Prop where
 name:nameB (x.f 0).s=true
 len:(x.f 1).l.length<=16
 args : ∀ i,i<(x.f 1).l.length->ArgP (gD (x.f 1).l i)
structure DirsP (l:List D):Prop where
 len:l.length<=16
 dirs : ∀ i,i<l.length->DirP (gD l i)
structure InP (x:D):Prop where
 name:nameB (x.f 0).s=true
 rname:nameB ((x.f 1).f 0).s=true
 rlen:((x.f 1).f 1).l.length<=24
 wraps:zCZ (((x.f 1).f 1).l.map D.n)=true
 dirs:DirsP (x.f 4).l
 val:ValP (x.f 3)
 has:(x.f 2).b=true\/((x.f 3).f 0).n=0
structure InsP (l:List D):Prop where
 len:l.length<=16
 ins : ∀ i,i<l.length->InP (gD l i)
structure FdP (x:D):Prop where
 name:nameB (x.f 0).s=true
 args:InsP (x.f 1).l
 rname:nameB ((x.f 2).f 0).s=true
 rlen:((x.f 2).f 1).l.length<=24
 wraps:zCZ (((x.f 2).f 1).l.map D.n)=true
 dirs:DirsP (x.f 3).l
structure MbP (u:Bool) (x:D):Prop where
 name:nameB (x.f 0).s=true
 dirs:DirsP (x.f 1).l
 no:u=true->(x.f 1).l.length=0
structure DefP (d:D):Prop where
 kind:1<=(d.f 0).n/\(d.f 0).n<=5
 name:nameB (d.f 1).s=true
 dirs:DirsP (d.f 3).l
 ilen:(d.f 2).l.length<=64
 im : ∀ i,i<(d.f 2).l.length->nameB (gD (d.f 2).l i).s=true
 im0:(d.f 2).l.length=0\/(d.f 0).n=1
 f0:((d.f 0).n=1\/(d.f 0).n=2) ↔ 0<(d.f 4).l.length
 m0:((d.f 0).n=3\/(d.f 0).n=4) ↔ 0<(d.f 5).l.length
 i0:(d.f 0).n=5 ↔ 0<(d.f 6).l.length
 flen:(d.f 4).l.length<=64
 fds : ∀ i,i<(d.f 4).l.length->FdP (gD (d.f 4).l i)
 mlen:(d.f 5).l.length<=64
 mbs : ∀ i,i<(d.f 5).l.length->MbP ((d.f 0).n==3) (gD (d.f 5).l i)
 ins:InsP (d.f 6).l
theorem valP {v:D} (h:valY litR v=true):ValP v:=by
 unfold valY at h
 rw [Bool.and_eq_true] at h
 exact ⟨h.1,h.2⟩
theorem argP {a:D} (h:argY litR a=true):ArgP a:=by
 unfold argY at h
 rw [Bool.and_eq_true] at h
 exact ⟨h.1,valP h.2⟩
theorem dirP {x:D} (h:dirY litR x=true):DirP x:=by
 unfold dirY argsY at h
 simp only [Bool.and_eq_true,decide_eq_true_eq] at h
 exact ⟨h.1,h.2.1,fun i hi=>argP (zD9 h.2.2 i hi)⟩
theorem dirsP {l:List D} (h:dirsY litR l=true):DirsP l:=by
 unfold dirsY at h
 simp only [Bool.and_eq_true,decide_eq_true_eq] at h
 exact ⟨h.1,fun i hi=>dirP (zD9 h.2 i hi)⟩
theorem inP {x:D} (h:inY litR x=true):InP x:=by
 unfold inY refR at h
 simp only [Bool.and_eq_true,decide_eq_true_eq,Bool.or_eq_true,beq_iff_eq] at h
 obtain ⟨⟨⟨⟨h1,⟨h2,h3⟩,h4⟩,h5⟩,h6⟩,h7⟩:=h
 exact ⟨h1,h2,h3,h4,dirsP h5,valP h6,h7⟩
theorem insP {l:List D} (h:insY litR l=true):InsP l:=by
 unfold insY at h
 simp only [Bool.and_eq_true,decide_eq_true_eq] at h
 exact ⟨h.1,fun i hi=>inP (zD9 h.2 i hi)⟩
theorem fdP {x:D} (h:fdY litR x=true):FdP x:=by
 unfold fdY refR at h
 simp only [Bool.and_eq_true,decide_eq_true_eq] at h
 obtain ⟨⟨⟨h1,h2⟩,⟨h3,h4⟩,h5⟩,h6⟩:=h
 exact ⟨h1,insP h2,h3,h4,h5,dirsP h6⟩
theorem mbP {u:Bool} {x:D} (h:mbY litR u x=true):MbP u x:=by
 unfold mbY at h
 simp only [Bool.and_eq_true,decide_eq_true_eq,Bool.or_eq_true,Bool.not_eq_true'] at h
 refine ⟨h.1.1,dirsP h.1.2,fun hu => ?_⟩
 rcases h.2 with h2 | h2
 . rw [hu] at h2;cases h2
 . exact h2
theorem defP {d:D} (h:defY litR d=true):DefP d:=by
 unfold defY kindY imY fdsY mbsY at h
 simp only [Bool.and_eq_true,decide_eq_true_eq,Bool.or_eq_true,beq_iff_eq] at h
 obtain ⟨⟨⟨⟨⟨⟨⟨⟨⟨⟨k1,k2⟩,k3⟩,k4⟩,k5⟩,h1⟩,h2⟩,h3,h4⟩,h5,h6⟩,h7,h8⟩,h9⟩:=h
 refine ⟨k1,h1,dirsP h2,h3,fun i hi=>zD9 h4 i hi,k2,?_,?_,?_,h5,fun i hi=>fdP (zD9 h6 i hi),h7,fun i hi=>mbP (zD9 h8 i hi),insP h9⟩
 . rw [<- decide_eq_true_iff (p:=0<(d.f 4).l.length),<- k3];simp
 . rw [<- decide_eq_true_iff (p:=0<(d.f 5).l.length),<- k4];simp
 . rw [<- decide_eq_true_iff (p:=0<(d.f 6).l.length),<- k5];simp
theorem docP {l:List D} (h:docY litR l=true):1<=l.length/\l.length<=64 /\ ∀ i,i<l.length->DefP (gD l i):=by
 unfold docY at h
 simp only [Bool.and_eq_true,decide_eq_true_eq] at h
 exact ⟨h.1.1,h.1.2,fun i hi=>defP (zD9 h.2 i hi)⟩
end
end Go.Proofs.YthppafnlnnpciaaGreatDoor
