import Derived.Test.YthppafnlnnpciaaGreatDoorV35
import Derived.Test.YthppafnlnnpciaaGreatDoorV36
set_option maxHeartbeats 8000000
set_option maxRecDepth 100000
set_option linter.unusedVariables false
set_option linter.unusedSimpArgs false
namespace Go.Proofs.YthppafnlnnpciaaGreatDoor
open Go.RowKit
set_option linter.unusedSectionVars false
attribute [local irreducible] wpList Calls Code.wp AW AWo OpOk seqK zz z8 loopK endK AC zl Yld Sub
attribute [local irreducible] ACB ACX ACE absLexG YldG absLexH
theorem zAu (s:ByteArray):AC EN Tryz.prog 72 [.c (.string s)] (.c (.bool (nameB s))):=by
 refine ac_of (r:=.bool (nameB s)) fun σ w us hus _ => ?_
 obtain ⟨rfl,hs⟩:=zIy hus
 refine ⟨trivial,(nameR s w hs).mono ?_⟩
 rintro e w' ⟨rfl,rfl⟩
 exact ⟨rfl,Below.refl _ _⟩
noncomputable def HSfW (d:D) (n:Int) (i:Nat):Vst 21:=stS 21 [(1,.bx 1 0),(3,.c (.int .i64 n)),(4,.c (.int .i64 (i:Int)))] [(1,.box 53 (cellsV Tryz.prog 12 53 d))]
theorem zHm : ∀ (k:Nat) (d:D),Dp k d->AC EN Tryz.prog 184 [.agg (cellsV Tryz.prog 12 53 d)] (.c (.int .i64 (zI2 k d)))
 |0,_,h=>h.elim
 |k+1,d,h=>by
  refine zEe 2 (by kernel_rfl) fun hL => ?_
  have hl:(d.f 3).l.length<=9223372036854775807:=(zFO hL).1
  clear hL
  have ih:=fun i (hi:i<(d.f 3).l.length)=>zHm k (gD (d.f 3).l i) (h i hi)
  have hs:zI2 (k+1) d=IntKind.i64.wrap ((1+sumN (fun i=>sizeR k (gD (d.f 3).l i)) (d.f 3).l.length:Nat):Int):=rfl
  refine zN 21 Tryz.func184 rfl rfl rfl rfl ?_
  intro s w he
  repeat' (first
|refine zA ?_
|refine zB ?_
|refine zH ?_
|apply aw_1
 conv=>whnf
 refine ⟨?_,trivial⟩
|apply s_1
 conv=>whnf;arg 1;arg 4;arg 3;whnf
 refine ⟨?_,?_⟩
|apply zAL rfl rfl rfl rfl
 . conv=>lhs;whnf;arg 1;whnf
 . rfl
|exact trivial)
  refine zi (fun j st => ∃ i,i+j=(d.f 3).l.length/\Sub (cx EN Tryz.prog s w he) st (HSfW d (IntKind.i64.wrap ((1+sumN (fun i=>sizeR k (gD (d.f 3).l i)) i:Nat):Int)) i)) (d.f 3).l.length ⟨0,by omega,Sub.live ⟨rfl,rfl,rfl,trivial⟩ ⟨rfl,trivial⟩⟩ ?_
  rintro j st ⟨i,hij,hs2⟩
  refine zg hs2 ?_
  clear hs2
  by_cases hi:i<(d.f 3).l.length
  . have f0:decide ((i:Int)<((d.f 3).l.length:Nat))=true:=decide_eq_true (by omega)
    have ih2:=ih i hi
    have hss:sumN (fun i=>sizeR k (gD (d.f 3).l i)) (i+1)=sumN (fun i=>sizeR k (gD (d.f 3).l i)) i+sizeR k (gD (d.f 3).l i):=rfl
    repeat' (first
|apply s_addW (y:=.tmp _) rfl rfl rfl
 . conv=>lhs;whnf
 . conv=>lhs;whnf
|apply zG
 . conv=>lhs;whnf
 . assumption
|refine zA ?_
|refine zB ?_
|refine zH ?_
|refine zR ?_
|apply aw_1
 conv=>whnf
 refine ⟨?_,trivial⟩
|apply s_1
 conv=>whnf;arg 1;arg 4;arg 3;whnf
 refine ⟨?_,?_⟩
|apply ze rfl
 . conv=>lhs;whnf
 . conv=>lhs;whnf
 . first | exact ih2
|exact trivial)
    all_goals first
     |exact zU (by omega)
     |exact zAI hi
     |(refine zI (j':=j-1) (by omega) ⟨i+1,by omega,Sub.live ⟨rfl,?_,rfl,trivial⟩ ⟨rfl,trivial⟩⟩
       refine congrArg (fun n=>V.c (.int .i64 n)) (?_:IntKind.i64.wrap (IntKind.i64.wrap ((1+sumN (fun i=>sizeR k (gD (d.f 3).l i)) i:Nat):Int)+zI2 k (gD (d.f 3).l i))=IntKind.i64.wrap ((1+sumN (fun i=>sizeR k (gD (d.f 3).l i)) (i+1):Nat):Int))
       rw [zFy,hss]
       unfold zI2
       rw [wrap_add_r]
       congr 1
       omega)
  . have f0:decide ((i:Int)<((d.f 3).l.length:Nat))=false:=decide_eq_false (by omega)
    repeat' (first
|apply zC
 . conv=>lhs;whnf
 . assumption
|refine zA ?_
|refine zB ?_
|refine zH ?_
|apply aw_1
 conv=>whnf
 refine ⟨?_,trivial⟩
|apply s_1
 conv=>whnf;arg 1;arg 4;arg 3;whnf
 refine ⟨?_,?_⟩
|refine zM ?_
|refine zK rfl ?_
|refine zJ ?_
|refine zE ?_
|refine ⟨_,by conv=>lhs;whnf;arg 2;whnf,?_⟩;conv=>rhs;whnf
|exact trivial)
    rw [hs,show i=(d.f 3).l.length by omega]
noncomputable def HDfW (d:D) (n:Int) (i:Nat):Vst 22:=stS 22 [(1,.bx 1 0),(3,.c (.int .i64 n)),(4,.c (.int .i64 (i:Int)))] [(1,.box 53 (cellsV Tryz.prog 12 53 d))]
theorem zGW : ∀ (k:Nat) (d:D),Dp k d->AC EN Tryz.prog 185 [.agg (cellsV Tryz.prog 12 53 d)] (.c (.int .i64 (zDN k d)))
 |0,_,h=>h.elim
 |k+1,d,h=>by
  refine zEe 2 (by kernel_rfl) fun hL => ?_
  have hl:(d.f 3).l.length<=9223372036854775807:=(zFO hL).1
  clear hL
  have ih:=fun i (hi:i<(d.f 3).l.length)=>zGW k (gD (d.f 3).l i) (h i hi)
  have hs:zDN (k+1) d=IntKind.i64.wrap (maxW (fun i=>zDN k (gD (d.f 3).l i)) (d.f 3).l.length+1):=rfl
  refine zN 22 Tryz.func185 rfl rfl rfl rfl ?_
  intro s w he
  repeat' (first
|refine zA ?_
|refine zB ?_
|refine zH ?_
|apply aw_1
 conv=>whnf
 refine ⟨?_,trivial⟩
|apply s_1
 conv=>whnf;arg 1;arg 4;arg 3;whnf
 refine ⟨?_,?_⟩
|apply zAL rfl rfl rfl rfl
 . conv=>lhs;whnf;arg 1;whnf
 . rfl
|exact trivial)
  refine zi (fun j st => ∃ i,i+j=(d.f 3).l.length/\Sub (cx EN Tryz.prog s w he) st (HDfW d (maxW (fun i=>zDN k (gD (d.f 3).l i)) i) i)) (d.f 3).l.length ⟨0,by omega,Sub.live ⟨rfl,rfl,rfl,trivial⟩ ⟨rfl,trivial⟩⟩ ?_
  rintro j st ⟨i,hij,hs2⟩
  refine zg hs2 ?_
  clear hs2
  by_cases hi:i<(d.f 3).l.length
  . have f0:decide ((i:Int)<((d.f 3).l.length:Nat))=true:=decide_eq_true (by omega)
    have ih2:=ih i hi
    repeat' (first
|apply s_max rfl rfl rfl
 . conv=>lhs;whnf;arg 1;whnf
 . conv=>lhs;whnf;arg 1;whnf
|apply zG
 . conv=>lhs;whnf
 . assumption
|refine zA ?_
|refine zB ?_
|refine zH ?_
|refine zR ?_
|apply aw_1
 conv=>whnf
 refine ⟨?_,trivial⟩
|apply s_1
 conv=>whnf;arg 1;arg 4;arg 3;whnf
 refine ⟨?_,?_⟩
|apply ze rfl
 . conv=>lhs;whnf
 . conv=>lhs;whnf
 . first | exact ih2
|exact trivial)
    all_goals first
     |exact zU (by omega)
     |exact zAI hi
     |exact zI (j':=j-1) (by omega) ⟨i+1,by omega,Sub.live ⟨rfl,rfl,rfl,trivial⟩ ⟨rfl,trivial⟩⟩
  . have f0:decide ((i:Int)<((d.f 3).l.length:Nat))=false:=decide_eq_false (by omega)
    have e:i=(d.f 3).l.length:=by omega
    subst e
    repeat' (first
|apply s_addW rfl rfl rfl
 . conv=>lhs;whnf
 . conv=>lhs;whnf
|apply zC
 . conv=>lhs;whnf
 . assumption
|refine zA ?_
|refine zB ?_
|refine zH ?_
|apply aw_1
 conv=>whnf
 refine ⟨?_,trivial⟩
|apply s_1
 conv=>whnf;arg 1;arg 4;arg 3;whnf
 refine ⟨?_,?_⟩
|refine zM ?_
|refine zK rfl ?_
|refine zJ ?_
|refine zE ?_
|refine ⟨_,by conv=>lhs;whnf;arg 2;whnf,?_⟩;conv=>rhs;whnf
|exact trivial)
    rfl
def eqStU (l:List D) (i k:Nat):Bool:=(gD l i).s.toList==(gD l k).s.toList
def zHG (l:List D) (i:Nat):Nat->Nat->Bool
 |0,_=>false
 |j+1,k=>eqStU l i k||zHG l i j (k+1)
def zFt (l:List D):Nat->Nat->Bool
 |0,_=>false
 |j+1,i=>zHG l i i 0||zFt l j (i+1)
theorem zIN (l:List D) (i:Nat) : ∀ (j k:Nat),zHG l i j k=true ↔ ∃ m,k<=m/\m<k+j/\eqStU l i m=true
 |0,k=>by simp only [zHG,Bool.false_eq_true,false_iff];rintro ⟨m,h1,h2,-⟩;omega
 |j+1,k=>by
  rw [zHG,Bool.or_eq_true,zIN l i j (k+1)]
  constructor
  . rintro (h | ⟨m,h1,h2,h3⟩)
    . exact ⟨k,Nat.le_refl _,by omega,h⟩
    . exact ⟨m,by omega,by omega,h3⟩
  . rintro ⟨m,h1,h2,h3⟩
    by_cases e:m=k
    . subst e;exact .inl h3
    . exact .inr ⟨m,by omega,by omega,h3⟩
theorem zH3 (l:List D) : ∀ (j i:Nat),zFt l j i=true ↔ ∃ m,i<=m/\m<i+j /\ ∃ k,k<m/\eqStU l m k=true
 |0,i=>by simp only [zFt,Bool.false_eq_true,false_iff];rintro ⟨m,h1,h2,-⟩;omega
 |j+1,i=>by
  rw [zFt,Bool.or_eq_true,zH3 l j (i+1),zIN]
  constructor
  . rintro (⟨k,h1,h2,h3⟩ | ⟨m,h1,h2,h3⟩)
    . exact ⟨i,Nat.le_refl _,by omega,k,by omega,h3⟩
    . exact ⟨m,by omega,by omega,h3⟩
  . rintro ⟨m,h1,h2,k,h3,h4⟩
    by_cases e:m=i
    . subst e;exact .inl ⟨k,by omega,by omega,h4⟩
    . exact .inr ⟨m,by omega,by omega,k,h3,h4⟩
theorem outT_RU (d:D):zFt (d.f 4).l (d.f 4).l.length 0 = !decide (strsR d).Nodup:=by
 rw [Bool.eq_iff_iff,zH3,Bool.not_eq_true',decide_eq_false_iff_not]
 have hlen:(strsR d).length=(d.f 4).l.length:=by simp [strsR]
 have hg : ∀ i (h:i<(d.f 4).l.length),(strsR d)[i]'(by rw [hlen];exact h)=(gD (d.f 4).l i).s.data.toList:=fun i h=>by
  simp only [strsR,List.getElem_map]
  rw [gD,List.getD_eq_getElem?_getD,List.getElem?_eq_getElem h];rfl
 have he : ∀ i k,eqStU (d.f 4).l i k=true ↔ (gD (d.f 4).l i).s.data.toList=(gD (d.f 4).l k).s.data.toList:=fun i k=>by
  unfold eqStU;rw [Lib.toList_data,Lib.toList_data,beq_iff_eq]
 constructor
 . rintro ⟨m,-,h2,k,h3,h4⟩ hn
   have h5:=List.pairwise_iff_getElem.1 hn k m (by omega) (by omega) h3
   rw [hg k (by omega),hg m (by omega)] at h5
   exact h5 ((he m k).1 h4).symm
 . intro hn
   refine Classical.byContradiction fun hc=>hn (List.pairwise_iff_getElem.2 fun k m hk hm hkm hq=>hc ⟨m,Nat.zero_le _,by omega,k,hkm,?_⟩)
   rw [hg k (by omega),hg m (by omega)] at hq
   exact (he m k).2 hq.symm
noncomputable def HToU (l:List D) (i:Nat):Vst 25:=stS 25 [(0,.sl 9 l),(3,.c (.int .i64 (i:Int)))] []
noncomputable def HTiU (l:List D) (i k:Nat):Vst 25:=stS 25 [(0,.sl 9 l),(3,.c (.int .i64 (i:Int))),(4,.c (.int .i64 (k:Int)))] []
theorem twiceFU_ac (d:D):AC EN Tryz.prog 237 [.sl 9 (d.f 4).l] (.c (.bool (!decide (strsR d).Nodup))):=by
 refine zHZ 1 fun hL2 => ?_
 have hl:(d.f 4).l.length<=9223372036854775807:=hL2.1
 clear hL2
 have hR:=outT_RU d
 generalize (!decide (strsR d).Nodup)=R at hR |-
 generalize (d.f 4).l=l at hR hl |-
 refine zN 25 Tryz.func237 rfl rfl rfl rfl ?_
 intro s w he
 repeat' (first
|refine zA ?_
|refine zB ?_
|refine zH ?_
|apply aw_1
 conv=>whnf
 refine ⟨?_,trivial⟩
|apply s_1
 conv=>whnf;arg 1;arg 4;arg 3;whnf
 refine ⟨?_,?_⟩
|exact trivial)
 refine zi (fun j st => ∃ i,i+j=l.length/\zFt l j i=R/\Sub (cx EN Tryz.prog s w he) st (HToU l i)) l.length ⟨0,by omega,hR,Sub.live ⟨rfl,rfl,trivial⟩ trivial⟩ ?_
 clear hR
 rintro j st ⟨i,hij,hR,hs2⟩
 refine zg hs2 ?_
 clear hs2
 by_cases hi:i<l.length
 . obtain ⟨j,rfl⟩ : ∃ q,j=q+1:=⟨j-1,by omega⟩
   have f1:decide ((i:Int)<(l.length:Nat))=true:=decide_eq_true (by omega)
   have hR':(zHG l i i 0||zFt l j (i+1))=R:=hR
   clear hR
   repeat' (first
|apply zG
 . conv=>lhs;whnf
 . assumption
|refine zA ?_
|refine zB ?_
|refine zH ?_
|apply aw_1
 conv=>whnf
 refine ⟨?_,trivial⟩
|apply s_1
 conv=>whnf;arg 1;arg 4;arg 3;whnf
 refine ⟨?_,?_⟩
|exact trivial)
   refine zi (fun jj st => ∃ k,k+jj=i/\(zHG l i jj k||zFt l j (i+1))=R/\Sub (cx EN Tryz.prog s w he) st (HTiU l i k)) i ⟨0,by omega,hR',Sub.live ⟨rfl,rfl,rfl,trivial⟩ trivial⟩ ?_
   clear hR'
   rintro jj st ⟨k,hk,hR,hs2⟩
   refine zg hs2 ?_
   clear hs2
   by_cases hki:k<i
   . obtain ⟨jj,rfl⟩ : ∃ q,jj=q+1:=⟨jj-1,by omega⟩
     have f2:decide ((k:Int)<(i:Int))=true:=decide_eq_true (by omega)
     have hR':(eqStU l i k||zHG l i jj (k+1)||zFt l j (i+1))=R:=hR
     have hkl:k<l.length:=by omega
     repeat' (first
|apply zG
 . conv=>lhs;whnf
 . assumption
|refine zA ?_
|refine zB ?_
|refine zH ?_
|refine zR ?_
|apply aw_1
 conv=>whnf
 refine ⟨?_,trivial⟩
|apply s_1
 conv=>whnf;arg 1;arg 4;arg 3;whnf
 refine ⟨?_,?_⟩
|apply zAF (by kernel_rfl) (by kernel_rfl)
|apply zAs
|apply zAr rfl
 . conv=>lhs;whnf
 . conv=>lhs;whnf;arg 2;whnf
|exact zk
|exact zv
|exact (1000000:Nat)
|refine zZ (by conv=>lhs;whnf) ?_ ?_<;>intro hb
|refine zO ?_
|refine zQ ?_
|refine zy ?_
|refine zE ?_
|refine ⟨_,by conv=>lhs;whnf;arg 2;whnf,?_⟩;conv=>rhs;whnf
|exact trivial)
     all_goals first
      |exact zU (by omega)
      |exact zAI hi
      |exact zAI hkl
      |skip
     . have e:eqStU l i k=true:=by assumption
       rw [<- hR',e];rfl
     . have e:eqStU l i k=false:=by assumption
       exact zI (j':=jj) (by omega) ⟨k+1,by omega,by rw [<- hR',e,Bool.false_or],Sub.live ⟨rfl,rfl,rfl,trivial⟩ trivial⟩
   . obtain rfl:jj=0:=by omega
     have f2:decide ((k:Int)<(i:Int))=false:=decide_eq_false (by omega)
     have hR':zFt l j (i+1)=R:=by rw [<- hR,zHG,Bool.false_or]
     repeat' (first
|apply zC
 . conv=>lhs;whnf
 . assumption
|refine zA ?_
|refine zB ?_
|refine zH ?_
|refine zR ?_
|apply aw_1
 conv=>whnf
 refine ⟨?_,trivial⟩
|apply s_1
 conv=>whnf;arg 1;arg 4;arg 3;whnf
 refine ⟨?_,?_⟩
|refine zM ?_
|refine zK rfl ?_
|refine zJ ?_
|exact trivial)
     all_goals first
      |exact zU (by omega)
      |exact zI (j':=j) (by omega) ⟨i+1,by omega,hR',Sub.live ⟨rfl,rfl,trivial⟩ trivial⟩
      |skip
 . obtain rfl:j=0:=by omega
   have f1:decide ((i:Int)<(l.length:Nat))=false:=decide_eq_false (by omega)
   repeat' (first
|apply zC
 . conv=>lhs;whnf
 . assumption
|refine zA ?_
|refine zB ?_
|refine zH ?_
|apply aw_1
 conv=>whnf
 refine ⟨?_,trivial⟩
|apply s_1
 conv=>whnf;arg 1;arg 4;arg 3;whnf
 refine ⟨?_,?_⟩
|refine zM ?_
|refine zK rfl ?_
|refine zJ ?_
|refine zE ?_
|refine ⟨_,by conv=>lhs;whnf;arg 2;whnf,?_⟩;conv=>rhs;whnf
|exact trivial)
   rw [<- hR];rfl
def zJ9 (n i:Int) (t:Bool) (a b:Nat) (x v y:Bool):Bool:=
 if n=0 then i==0&&t&&b==0&&a==0
 else if n=1 then (i==0||i==1)&&t&&b==0&&a==0
 else if n=2 then t&&b==0&&a==0
 else if n=3 then i==0&&b==0&&a==0
 else if n=4 then i==0&&b==0&&a==0&&x
 else if n=5 then i==0&&t&&a==0
 else if n=6 then i==0&&t&&a==b&&y
 else if n=7 then i==0&&b==0&&a==0&&v
 else false
theorem nodeF_KU (n i:Int) (t:Bool) (a b:Nat) (x v ks y:Bool) (hks:a=0->ks=true):(zJ9 n i t a b x v y&&ks)=nodeK n i t a b x v ks y:=by
 have h0:(a==0)=true->ks=true:=fun h=>hks (by simpa using h)
 unfold zJ9 nodeK
 by_cases n0:n=0
 . subst n0;cases ks<;>simp_all
   try ac_rfl
 by_cases n1:n=1
 . subst n1;cases ks<;>simp_all
   try ac_rfl
 by_cases n2:n=2
 . subst n2;cases ks<;>simp_all
   try ac_rfl
 by_cases n3:n=3
 . subst n3;cases ks<;>simp_all
   try ac_rfl
 by_cases n4:n=4
 . subst n4;cases ks<;>simp_all
   try ac_rfl
 by_cases n5:n=5
 . subst n5;cases ks<;>simp_all
   try ac_rfl
 by_cases n6:n=6
 . subst n6;cases ks<;>simp_all
   try ac_rfl
 by_cases n7:n=7
 . subst n7;cases ks<;>simp_all
   try ac_rfl
 have hd:decide (0<=n/\n<=7)=false:=decide_eq_false (by omega)
 rw [hd]
 simp [n0,n1,n2,n3,n4,n5,n6,n7]
def zEV (d:D):Bool:=zJ9 (d.f 0).n (d.f 1).n ((d.f 2).s.data.toList==[]) (d.f 4).l.length (d.f 3).l.length (enumR (d.f 2).s) (nameB (d.f 2).s) (decide (strsR d).Nodup)
theorem nodeD_LU (d:D):(zEV d && !((d.f 4).l.any fun x => !nameB x.s))=zJG d:=
 nodeF_KU _ _ _ _ _ _ _ _ _ fun h=>by rw [List.eq_nil_of_length_eq_zero h];rfl
theorem nodeFU_ac (d:D):AC EN Tryz.prog 212 [.agg (cellsV Tryz.prog 12 53 d),.c (.bool true)] (.c (.bool (zEV d))):=by
 have h1:=zAu (d.f 2).s
 have h2:=twiceFU_ac d
 have e:cellsV Tryz.prog 12 53 d=[.c (.int .i64 (d.f 0).n),.c (.int .i64 (d.f 1).n),.c (.string (d.f 2).s),.sl 53 (d.f 3).l,.sl 9 (d.f 4).l]:=rfl
 have hT:((d.f 2).s.toList==({ data:=#[] }:ByteArray).toList)=((d.f 2).s.data.toList==[]):=zE8 _ []
 have hT1:((d.f 2).s.toList==({ data:=#[116,114,117,101] }:ByteArray).toList)=((d.f 2).s.data.toList==[116,114,117,101]):=zE8 _ _
 have hT2:((d.f 2).s.toList==({ data:=#[102,97,108,115,101] }:ByteArray).toList)=((d.f 2).s.data.toList==[102,97,108,115,101]):=zE8 _ _
 have hT3:((d.f 2).s.toList==({ data:=#[110,117,108,108] }:ByteArray).toList)=((d.f 2).s.data.toList==[110,117,108,108]):=zE8 _ _
 have z3:(((d.f 3).l.length:Int)==0)=((d.f 3).l.length==0):=by rw [Bool.eq_iff_iff];simp only [beq_iff_eq];omega
 have z4:(((d.f 4).l.length:Int)==0)=((d.f 4).l.length==0):=by rw [Bool.eq_iff_iff];simp only [beq_iff_eq];omega
 have z5:(((d.f 4).l.length:Int)==((d.f 3).l.length:Int))=((d.f 4).l.length==(d.f 3).l.length):=by rw [Bool.eq_iff_iff];simp only [beq_iff_eq];omega
 unfold zEV zJ9 enumR
 rw [e]
 by_cases h8:0<=(d.f 0).n/\(d.f 0).n<=7
 . have h9:(d.f 0).n=0\/(d.f 0).n=1\/(d.f 0).n=2\/(d.f 0).n=3\/(d.f 0).n=4\/(d.f 0).n=5\/(d.f 0).n=6\/(d.f 0).n=7:=by omega
   rcases h9 with hn | hn | hn | hn | hn | hn | hn | hn
   all_goals
    rw [hn]
    simp only [if_pos,if_neg,reduceIte,Int.reduceEq]
    refine zN 193 Tryz.func212 rfl rfl rfl rfl ?_
    intro s w he
    repeat' (first
|refine zA ?_
|refine zB ?_
|refine zH ?_
|apply aw_1
 conv=>whnf
 refine ⟨?_,trivial⟩
|apply zq rfl rfl
 . conv=>lhs;whnf
 . conv=>lhs;whnf
 . first | exact bT1 ‹_› | exact bT2 ‹_›
|apply za rfl rfl
 . conv=>lhs;whnf
 . conv=>lhs;whnf
 . first | exact bF1 ‹_› | exact bF2 ‹_›
|apply s_1
 conv=>whnf;arg 1;arg 4;arg 3;whnf
 refine ⟨?_,?_⟩
|apply zAL rfl rfl rfl rfl
 . conv=>lhs;whnf;arg 1;whnf
 . rfl
|apply zL rfl
 . conv=>lhs;whnf
 . conv=>lhs;whnf
 . first | rfl | assumption
 . conv=>lhs;whnf;arg 2;whnf
|apply zY rfl
 . conv=>lhs;whnf
 . conv=>lhs;whnf
 . first | rfl | assumption
 . conv=>lhs;whnf
 . first | exact h1 | exact h2
|apply zr rfl
 . conv=>lhs;whnf
 . conv=>lhs;whnf
 . first | rfl | assumption
|apply zF rfl
 . conv=>lhs;whnf
 . conv=>lhs;whnf
 . conv=>lhs;whnf;arg 2;whnf
|refine zO ?_
|refine zQ ?_
|refine zE ?_
|refine ⟨_,by conv=>lhs;whnf;arg 2;whnf,?_⟩;conv=>rhs;whnf
|exact trivial
|intro hg)
    all_goals
     refine congrArg (fun b=>V.c (.bool b)) ?_
     clear h1 h2 he e
     simp only [hT,hT1,hT2,hT3,z3,z4,z5] at *
     clear hT hT1 hT2 hT3 z3 z4 z5
     generalize ((d.f 2).s.data.toList==[])=t at *
     generalize ((d.f 2).s.data.toList==[116,114,117,101])=t1 at *
     generalize ((d.f 2).s.data.toList==[102,97,108,115,101])=t2 at *
     generalize ((d.f 2).s.data.toList==[110,117,108,108])=t3 at *
     generalize nameB (d.f 2).s=v at *
     generalize decide (strsR d).Nodup=y at *
     generalize ((d.f 3).l.length==0)=b0 at *
     generalize ((d.f 4).l.length==0)=a0 at *
     generalize ((d.f 4).l.length==(d.f 3).l.length)=ab at *
     generalize (d.f 1).n=i at *
     simp_all
 have n0:(d.f 0).n≠0:=by omega
 have n1:(d.f 0).n≠1:=by omega
 have n2:(d.f 0).n≠2:=by omega
 have n3:(d.f 0).n≠3:=by omega
 have n4:(d.f 0).n≠4:=by omega
 have n5:(d.f 0).n≠5:=by omega
 have n6:(d.f 0).n≠6:=by omega
 have n7:(d.f 0).n≠7:=by omega
 rw [if_neg n0,if_neg n1,if_neg n2,if_neg n3,if_neg n4,if_neg n5,if_neg n6,if_neg n7]
 . have f0:((d.f 0).n==0)=false:=by simpa using n0
   have f1:((d.f 0).n==1)=false:=by simpa using n1
   have f2:((d.f 0).n==2)=false:=by simpa using n2
   have f3:((d.f 0).n==3)=false:=by simpa using n3
   have f4:((d.f 0).n==4)=false:=by simpa using n4
   have f5:((d.f 0).n==5)=false:=by simpa using n5
   have f6:((d.f 0).n==6)=false:=by simpa using n6
   have f7:((d.f 0).n==7)=false:=by simpa using n7
   refine zN 193 Tryz.func212 rfl rfl rfl rfl ?_
   intro s w he
   repeat' (first
|apply zC
 . conv=>lhs;whnf
 . assumption
|refine zA ?_
|refine zB ?_
|refine zH ?_
|refine zR ?_
|apply aw_1
 conv=>whnf
 refine ⟨?_,trivial⟩
|apply s_1
 conv=>whnf;arg 1;arg 4;arg 3;whnf
 refine ⟨?_,?_⟩
|apply zAL rfl rfl rfl rfl
 . conv=>lhs;whnf;arg 1;whnf
 . rfl
|refine zE ?_
|refine ⟨_,by conv=>lhs;whnf;arg 2;whnf,?_⟩;conv=>rhs;whnf
|exact trivial)
def zAU (p:D->Bool) (l:List D):Nat->Nat->Bool
 |0,_=>true
 |j+1,i=>p (gD l i)&&zAU p l j (i+1)
theorem zGb (p:D->Bool) (x:D) (l:List D) : ∀ (j i:Nat),zAU p (x::l) j (i+1)=zAU p l j i
 |0,_=>rfl
 |j+1,i=>by
  unfold zAU
  rw [zGb p x l j (i+1)]
  rfl
theorem zBA (p:D->Bool) : ∀ l:List D,zAU p l l.length 0=l.all p
 |[]=>rfl
 |x::r=>by
  show (p x&&zAU p (x::r) r.length 1)=(p x&&r.all p)
  rw [zGb,zBA p r]
theorem all_anyU (p:D->Bool) (l:List D):l.all p = !(l.any fun x => !p x):=by
 induction l with
 |nil=>rfl
 |cons x r ih=>simp only [List.all_cons,List.any_cons,ih,Bool.not_or,Bool.not_not]
theorem zFq (p:D->Bool) (l:List D):zAU p l l.length 0 = !(l.any fun x => !p x):=by rw [zBA,all_anyU]
noncomputable def HWkU (d:D) (i:Nat):Vst 43:=stS 43 [(1,.c (.bool true)),(2,.bx 2 0),(5,.c (.int .i64 (i:Int)))] [(2,.box 53 (cellsV Tryz.prog 12 53 d))]
noncomputable def HWiU (d:D) (i:Nat):Vst 43:=stS 43 [(1,.c (.bool true)),(2,.bx 2 0),(6,.c (.int .i64 (i:Int)))] [(2,.box 53 (cellsV Tryz.prog 12 53 d))]
theorem zF0 : ∀ (k:Nat) (d:D),Dp k d->AC EN Tryz.prog 186 [.agg (cellsV Tryz.prog 12 53 d),.c (.bool true)] (.c (.bool (everyL k d)))
 |0,_,h=>h.elim
 |k+1,d,h=>by
  refine zEe 2 (by kernel_rfl) fun hL => ?_
  have hl:(d.f 3).l.length<=9223372036854775807:=(zFO hL).1
  have hlk:(d.f 4).l.length<=9223372036854775807:=(zFO hL).2
  clear hL
  have ih:=fun i (hi:i<(d.f 3).l.length)=>zF0 k (gD (d.f 3).l i) (h i hi)
  have hn:=nodeFU_ac d
  have hname:=fun i (_:i<(d.f 4).l.length)=>zAu (gD (d.f 4).l i).s
  have hR:everyL (k+1) d=(zEV d&&zAU (fun x=>nameB x.s) (d.f 4).l (d.f 4).l.length 0&&zAU (everyL k) (d.f 3).l (d.f 3).l.length 0):=by
   rw [zFq,zFq,nodeD_LU];rfl
  generalize everyL (k+1) d=R at hR |-
  refine zN 43 Tryz.func186 rfl rfl rfl rfl ?_
  intro s w he
  repeat' (first
|refine zA ?_
|refine zB ?_
|refine zH ?_
|apply aw_1
 conv=>whnf
 refine ⟨?_,trivial⟩
|apply s_1
 conv=>whnf;arg 1;arg 4;arg 3;whnf
 refine ⟨?_,?_⟩
|apply ze rfl
 . conv=>lhs;whnf
 . conv=>lhs;whnf
 . first | exact hn
|apply zAL rfl rfl rfl rfl
 . conv=>lhs;whnf;arg 1;whnf
 . rfl
|refine zZ (by conv=>lhs;whnf) ?_ ?_<;>intro hb
|refine zO ?_
|refine zE ?_
|refine ⟨_,by conv=>lhs;whnf;arg 2;whnf,?_⟩;conv=>rhs;whnf
|exact trivial)
  . have hb:zEV d=false:=by simpa using (by assumption:(!zEV d)=true)
    rw [hR,hb];rfl
  have hb:zEV d=true:=by simpa using (by assumption:(!zEV d)=false)
  rw [hb,Bool.true_and] at hR
  clear hb hn
  refine zi (fun j st => ∃ i,i+j=(d.f 4).l.length/\R=(zAU (fun x=>nameB x.s) (d.f 4).l j i&&zAU (everyL k) (d.f 3).l (d.f 3).l.length 0)/\Sub (cx EN Tryz.prog s w he) st (HWkU d i)) (d.f 4).l.length ⟨0,by omega,hR,Sub.live ⟨rfl,rfl,rfl,trivial⟩ ⟨rfl,trivial⟩⟩ ?_
  clear hR
  rintro j st ⟨i,hij,hR,hs2⟩
  refine zg hs2 ?_
  clear hs2
  by_cases hi:i<(d.f 4).l.length
  . obtain ⟨j,rfl⟩ : ∃ q,j=q+1:=⟨j-1,by omega⟩
    have f1:decide ((i:Int)<((d.f 4).l.length:Nat))=true:=decide_eq_true (by omega)
    have hR':R=(nameB (gD (d.f 4).l i).s&&zAU (fun x=>nameB x.s) (d.f 4).l j (i+1)&&zAU (everyL k) (d.f 3).l (d.f 3).l.length 0):=hR
    clear hR
    have hn1:=hname i hi
    repeat' (first
|apply zG
 . conv=>lhs;whnf
 . assumption
|refine zA ?_
|refine zB ?_
|refine zH ?_
|refine zR ?_
|apply aw_1
 conv=>whnf
 refine ⟨?_,trivial⟩
|apply s_1
 conv=>whnf;arg 1;arg 4;arg 3;whnf
 refine ⟨?_,?_⟩
|apply zY rfl
 . conv=>lhs;whnf
 . conv=>lhs;whnf
 . first | rfl | assumption
 . conv=>lhs;whnf
 . first | exact hn1
|refine zZ (by conv=>lhs;whnf) ?_ ?_<;>intro hb
|refine zO ?_
|refine zQ ?_
|refine zy ?_
|refine zE ?_
|refine ⟨_,by conv=>lhs;whnf;arg 2;whnf,?_⟩;conv=>rhs;whnf
|exact trivial)
    all_goals first
     |exact zU (by omega)
     |exact zAI hi
     |(have e:nameB (gD (d.f 4).l i).s=false:=by simpa using (by assumption:(!nameB (gD (d.f 4).l i).s)=true)
       rw [hR',e];rfl)
     |(have e:nameB (gD (d.f 4).l i).s=true:=by simpa using (by assumption:(!nameB (gD (d.f 4).l i).s)=false)
       exact zI (j':=j) (by omega) ⟨i+1,by omega,by rw [hR',e,Bool.true_and],Sub.live ⟨rfl,rfl,rfl,trivial⟩ ⟨rfl,trivial⟩⟩)
     |skip
  . obtain rfl:j=0:=by omega
    have f1:decide ((i:Int)<((d.f 4).l.length:Nat))=false:=decide_eq_false (by omega)
    have hR2:R=zAU (everyL k) (d.f 3).l (d.f 3).l.length 0:=by rw [hR,zAU,Bool.true_and]
    clear hR
    repeat' (first
|apply zC
 . conv=>lhs;whnf
 . assumption
|refine zA ?_
|refine zB ?_
|refine zH ?_
|apply aw_1
 conv=>whnf
 refine ⟨?_,trivial⟩
|apply s_1
 conv=>whnf;arg 1;arg 4;arg 3;whnf
 refine ⟨?_,?_⟩
|refine zM ?_
|refine zK rfl ?_
|refine zJ ?_
|exact trivial)
    refine zi (fun j st => ∃ i,i+j=(d.f 3).l.length/\R=zAU (everyL k) (d.f 3).l j i/\Sub (cx EN Tryz.prog s w he) st (HWiU d i)) (d.f 3).l.length ⟨0,by omega,hR2,Sub.live ⟨rfl,rfl,rfl,trivial⟩ ⟨rfl,trivial⟩⟩ ?_
    clear hR2
    rintro j2 st2 ⟨i2,hij2,hR,hs2⟩
    refine zg hs2 ?_
    clear hs2
    by_cases hi2:i2<(d.f 3).l.length
    . obtain ⟨j2,rfl⟩ : ∃ q,j2=q+1:=⟨j2-1,by omega⟩
      have f2:decide ((i2:Int)<((d.f 3).l.length:Nat))=true:=decide_eq_true (by omega)
      have hR':R=(everyL k (gD (d.f 3).l i2)&&zAU (everyL k) (d.f 3).l j2 (i2+1)):=hR
      have ih2:=ih i2 hi2
      repeat' (first
|apply zG
 . conv=>lhs;whnf
 . assumption
|refine zA ?_
|refine zB ?_
|refine zH ?_
|refine zR ?_
|apply aw_1
 conv=>whnf
 refine ⟨?_,trivial⟩
|apply s_1
 conv=>whnf;arg 1;arg 4;arg 3;whnf
 refine ⟨?_,?_⟩
|apply ze rfl
 . conv=>lhs;whnf
 . conv=>lhs;whnf
 . first | exact ih2
|refine zZ (by conv=>lhs;whnf) ?_ ?_<;>intro hb
|refine zO ?_
|refine zQ ?_
|refine zy ?_
|refine zE ?_
|refine ⟨_,by conv=>lhs;whnf;arg 2;whnf,?_⟩;conv=>rhs;whnf
|exact trivial)
      all_goals first
       |exact zU (by omega)
       |exact zAI hi2
       |(have e:everyL k (gD (d.f 3).l i2)=false:=by simpa using (by assumption:(!everyL k (gD (d.f 3).l i2))=true)
         rw [hR',e];rfl)
       |(have e:everyL k (gD (d.f 3).l i2)=true:=by simpa using (by assumption:(!everyL k (gD (d.f 3).l i2))=false)
         exact zI (j':=j2) (by omega) ⟨i2+1,by omega,by rw [hR',e,Bool.true_and],Sub.live ⟨rfl,rfl,rfl,trivial⟩ ⟨rfl,trivial⟩⟩)
       |skip
    . obtain rfl:j2=0:=by omega
      have f2:decide ((i2:Int)<((d.f 3).l.length:Nat))=false:=decide_eq_false (by omega)
      repeat' (first
|apply zC
 . conv=>lhs;whnf
 . assumption
|refine zA ?_
|refine zB ?_
|refine zH ?_
|apply aw_1
 conv=>whnf
 refine ⟨?_,trivial⟩
|apply s_1
 conv=>whnf;arg 1;arg 4;arg 3;whnf
 refine ⟨?_,?_⟩
|refine zM ?_
|refine zK rfl ?_
|refine zJ ?_
|refine zE ?_
|refine ⟨_,by conv=>lhs;whnf;arg 2;whnf,?_⟩;conv=>rhs;whnf
|exact trivial)
      rw [hR];rfl
theorem zKH (d:D):AC EN Tryz.prog 135 [.agg (cellsV Tryz.prog 12 53 d)] (.c (.bool (litW d))):=by
 have h:=zCR (bulkD d) d (Nat.le_refl _)
 have h1:=zHm _ d h
 have h2:=zGW _ d h
 have h3:=zF0 _ d h
 unfold litW
 refine zN 15 Tryz.func135 rfl rfl rfl rfl ?_
 intro s w he
 repeat' (first
|refine zA ?_
|refine zB ?_
|refine zH ?_
|apply aw_1
 conv=>whnf
 refine ⟨?_,trivial⟩
|apply zq rfl rfl
 . conv=>lhs;whnf
 . conv=>lhs;whnf
 . first | exact bT1 ‹_› | exact bT2 ‹_›
|apply za rfl rfl
 . conv=>lhs;whnf
 . conv=>lhs;whnf
 . first | exact bF1 ‹_› | exact bF2 ‹_›
|apply s_1
 conv=>whnf;arg 1;arg 4;arg 3;whnf
 refine ⟨?_,?_⟩
|apply ze rfl
 . conv=>lhs;whnf
 . conv=>lhs;whnf
 . first | exact h1 | exact h2 | exact h3
|apply zAL rfl rfl rfl rfl
 . conv=>lhs;whnf;arg 1;whnf
 . rfl
|apply zL rfl
 . conv=>lhs;whnf
 . conv=>lhs;whnf
 . first | rfl | assumption
 . conv=>lhs;whnf;arg 2;whnf
|apply zY rfl
 . conv=>lhs;whnf
 . conv=>lhs;whnf
 . first | rfl | assumption
 . conv=>lhs;whnf
 . first | exact h1 | exact h2 | exact h3
|apply zr rfl
 . conv=>lhs;whnf
 . conv=>lhs;whnf
 . first | rfl | assumption
|apply zF rfl
 . conv=>lhs;whnf
 . conv=>lhs;whnf
 . conv=>lhs;whnf;arg 2;whnf
|refine zE ?_
|refine ⟨_,by conv=>lhs;whnf;arg 2;whnf,?_⟩;conv=>rhs;whnf
|exact trivial
|intro hg)
 all_goals
  clear h1 h2 h3 he
  refine congrArg (fun b=>V.c (.bool b)) ?_
  simp_all
  try (intros;omega)
end Go.Proofs.YthppafnlnnpciaaGreatDoor
