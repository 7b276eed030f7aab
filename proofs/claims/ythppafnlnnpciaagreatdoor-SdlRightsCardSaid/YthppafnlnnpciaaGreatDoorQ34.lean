import Derived.Test.YthppafnlnnpciaaGreatDoorProg
import Derived.KernelRfl
import Derived.Test.YthppafnlnnpciaaGreatDoorQ33
set_option maxHeartbeats 8000000
set_option maxRecDepth 100000
set_option linter.unusedVariables false
set_option linter.unusedSimpArgs false
namespace Go.Proofs.YthppafnlnnpciaaGreatDoor
section
open Go.RowKit
attribute [local irreducible] wpList Calls Code.wp AW AWo OpOk seqK zm zo loopK endK AC zh Yld Sub
def goodV:Nat->D->Prop
 |0,_=>True
 |k+1,d=>((d.f 0).n=1->(d.f 1).n=0\/(d.f 1).n=1) /\ ∀ i,i<(d.f 3).l.length->goodV k (gD (d.f 3).l i)
structure ArgsOk (k:Nat) (l:List D):Prop where
 wide : ∀ i,wideD (gD l i)
 bulk:bulkL l<=1048576
 dp : ∀ i,i<l.length->Dp k ((gD l i).f 1)
 good : ∀ i,i<l.length->goodV k ((gD l i).f 1)
structure DirsOk (k:Nat) (l:List D):Prop where
 wide : ∀ i,wideD (gD l i)
 bulk:bulkL l<=1048576
 args : ∀ i,i<l.length->ArgsOk k ((gD l i).f 1).l
theorem ArgsOk.name {k:Nat} {l:List D} (h:ArgsOk k l) {i:Nat} (hi:i<l.length):((gD l i).f 0).s.size<=1048576:=by
 have:=zDs hi
 have:=wD_f (gD l i) 0
 have:=zKD ((gD l i).f 0)
 have:=zBj (gD l i)
 have:=h.bulk
 omega
theorem DirsOk.name {k:Nat} {l:List D} (h:DirsOk k l) {i:Nat} (hi:i<l.length):((gD l i).f 0).s.size<=1048576:=by
 have:=zDs hi
 have:=wD_f (gD l i) 0
 have:=zKD ((gD l i).f 0)
 have:=zBj (gD l i)
 have:=h.bulk
 omega
end
section
structure SelOk (K:Nat) (inner:List D->Prop) (s:D):Prop where
 args:ArgsOk K (s.f 4).l
 dirs:DirsOk K (s.f 5).l
 kind:(s.f 0).n=1\/((s.f 0).n=2/\(s.f 6).l=[])\/((s.f 0).n=3/\(s.f 6).l≠[])
 sub:inner (s.f 6).l
abbrev KS:=List (Int × List UInt8)
theorem letB_u : ∀ c:UInt8,letB (c.toNat:Int)=true->letU c=true:=fun c =>
 zDF (p:=fun c=>letB (c.toNat:Int)=true->letU c=true) (by decide +kernel) c
theorem wrdB_u : ∀ c:UInt8,(letB (c.toNat:Int)||digB (c.toNat:Int))=true->wrdU c=true:=fun c =>
 zDF (p:=fun c=>(letB (c.toNat:Int)||digB (c.toNat:Int))=true->wrdU c=true) (by decide +kernel) c
theorem name_u {s:ByteArray} (h:nameB s=true):nameU (tx s)=true:=by
 unfold nameB at h
 have h:=of_decide_eq_true h
 obtain ⟨h1,h2,h3,h4⟩:=h
 have hl:=zH6 s
 have hb : ∀ i,i<s.size->wrdU ((tx s).getD i 0)=true:=fun i hi=>wrdB_u _ (h4 i hi)
 have h0:=h4 0 h1
 rw [h3,Bool.or_false] at h0
 have h5:letU ((tx s).getD 0 0)=true:=letB_u _ h0
 generalize tx s=t at hl hb h5
 cases t with
 |nil=>simp at hl;omega
 |cons c q =>
  simp only [List.length_cons] at hl
  simp only [nameU,Bool.and_eq_true,decide_eq_true_eq]
  refine ⟨⟨h5,List.all_eq_true.2 fun x hx => ?_⟩,by omega⟩
  obtain ⟨i,hi,rfl⟩:=List.getElem_of_mem hx
  have:=hb (i+1) (by omega)
  rw [List.getD_cons_succ,List.getD_eq_getElem?_getD,List.getElem?_eq_getElem hi] at this
  exact this
theorem Pw.nm {s:ByteArray} (h:nameB s=true):Pw (tx s) [(2,tx s)]:=.name (name_u h)
theorem Ps.wrap {a b:UInt8} {t:List UInt8} {k:KS} (ha:signB a=true) (hb:signB b=true) (h:Pw t k):Ps ([a]++t++[b]) ((1,[a])::(k++[(1,[b])])):=by
 have h1:=(Ps.sign ha).appw h
 have h2:=h1.app (Ps.sign hb) ⟨by simp,zHr (zGB b hb).2.2⟩
 exact h2
structure NodeF (d:D):Prop where
 int0:(d.f 0).n=1\/(d.f 0).n=2\/(d.f 1).n=0
 txt0:(d.f 0).n=3\/(d.f 0).n=4\/(d.f 0).n=7\/tx (d.f 2).s=[]
 keys0:(d.f 0).n=6\/(d.f 4).l.length=0
 items0:(d.f 0).n=6\/(d.f 0).n=5\/(d.f 3).l.length=0
 kind:0<=(d.f 0).n/\(d.f 0).n<=7
 bool:(d.f 0).n=1->(d.f 1).n=0\/(d.f 1).n=1
 enum:(d.f 0).n=4->zFv (d.f 2).s=true
 var:(d.f 0).n=7->nameB (d.f 2).s=true
 obj:(d.f 0).n=6->(∀ i,i<(d.f 4).l.length->nameB (gD (d.f 4).l i).s=true)/\(d.f 4).l.length=(d.f 3).l.length/\(strsR d).Nodup
theorem any_noX {p:D->Bool} {l:List D} (h:(l.any fun x => !p x)=false) : ∀ i,i<l.length->p (gD l i)=true:=fun i hi=>by
 rw [List.any_eq_false] at h
 have:=h _ (gD_mem hi)
 simpa using this
theorem xnode {d:D} (h:nodeL d=true):NodeF d:=by
 unfold nodeL zId at h
 simp only [Bool.and_eq_true,Bool.or_eq_true,beq_iff_eq,decide_eq_true_eq,Bool.not_eq_true',beq_eq_false_iff_ne] at h
 obtain ⟨⟨⟨⟨⟨⟨⟨⟨h1,h2⟩,h3⟩,h4⟩,h5⟩,h6⟩,h7⟩,h8⟩,h9⟩:=h
 refine ⟨?_,?_,h3,?_,h5,?_,?_,?_,?_⟩
 . rcases h1 with (h | h) | h
   . exact .inl h
   . exact .inr (.inl h)
   . exact .inr (.inr h)
 . rcases h2 with ((h | h) | h) | h
   . exact .inl h
   . exact .inr (.inl h)
   . exact .inr (.inr (.inl h))
   . exact .inr (.inr (.inr h))
 . rcases h4 with (h | h) | h
   . exact .inl h
   . exact .inr (.inl h)
   . exact .inr (.inr h)
 . intro h
   rcases h6 with (h' | h') | h'
   . exact absurd h h'
   . exact .inl h'
   . exact .inr h'
 . intro h
   rcases h7 with h' | h'
   . exact absurd h h'
   . exact h'
 . intro h
   rcases h8 with h' | h'
   . exact absurd h h'
   . exact h'
 . intro h
   rcases h9 with h' | h'
   . exact absurd h h'
   . exact ⟨any_noX h'.1.1,h'.1.2,h'.2⟩
structure SelF (sub:List D->Nat->Prop) (d:D):Prop where
 args:argsR (d.f 4).l=true
 dirs:dirsR (d.f 5).l=true
 field:(d.f 0).n=1->tx (d.f 3).s=[]/\nameB (d.f 2).s=true/\(tx (d.f 1).s=[]\/nameB (d.f 1).s=true)/\sub (d.f 6).l 0
 spread:(d.f 0).n=2->tx (d.f 3).s=[]/\tx (d.f 1).s=[]/\(d.f 4).l.length=0/\(d.f 6).l.length=0/\nameB (d.f 2).s=true/\tx (d.f 2).s≠[111,110]
 inline:(d.f 0).n=3->tx (d.f 1).s=[]/\tx (d.f 2).s=[]/\(d.f 4).l.length=0/\(tx (d.f 3).s=[]\/nameB (d.f 3).s=true)/\sub (d.f 6).l 1
 kind:(d.f 0).n=1\/(d.f 0).n=2\/(d.f 0).n=3
end
section
open Go.RowKit
set_option linter.unusedSectionVars false
def nullB (d:D):Bool:=(d.f 0).n==0&&(d.f 1).n==0&&((d.f 2).s.data.toList==[])&&decide ((d.f 3).l.length=0)&&decide ((d.f 4).l.length=0)
theorem null_valW (d:D):nullB d=(valY litW d&&(d.f 0).n==0):=by
 obtain ⟨b,hb⟩ : ∃ b,bulkD d=b+1:=⟨bulkD d-1,by have:=zCn d;omega⟩
 have hs:zEz (b+1) d=IntKind.i64.wrap ((1+sumN (fun i=>sizeR b (gD (d.f 3).l i)) (d.f 3).l.length:Nat):Int):=rfl
 have hd:zBh (b+1) d=IntKind.i64.wrap (maxW (fun i=>zBh b (gD (d.f 3).l i)) (d.f 3).l.length+1):=rfl
 have he:everyL (b+1) d=(nodeL d && !((d.f 3).l.any fun x => !everyL b x)):=rfl
 have hr:bareR (b+1) d=(!((d.f 0).n==7) && !((d.f 3).l.any fun x => !bareR b x)):=rfl
 rw [Bool.eq_iff_iff]
 constructor
 . intro h
   unfold nullB at h
   simp only [Bool.and_eq_true,beq_iff_eq,decide_eq_true_eq] at h
   obtain ⟨⟨⟨⟨h0,h1⟩,h2⟩,h3⟩,h4⟩:=h
   have z3:=List.eq_nil_of_length_eq_zero h3
   have z4:=List.eq_nil_of_length_eq_zero h4
   unfold valY litW
   rw [hb,hs,hd,he,hr,h3,z3]
   have hn:nodeL d=true:=by
    unfold nodeL
    rw [h0,h1,h2,h3,h4,show strsR d=[] by unfold strsR;rw [z4];rfl,z4]
    rfl
   rw [hn,h0];rfl
 . intro h
   rw [Bool.and_eq_true,beq_iff_eq] at h
   obtain ⟨h,h0⟩:=h
   unfold valY litW at h
   rw [hb,he] at h
   simp only [Bool.and_eq_true] at h
   have hx:=xnode h.1.2.1
   unfold nullB
   rw [h0]
   have q1:(d.f 1).n=0:=by rcases hx.int0 with h | h | h<;>omega
   have q2:tx (d.f 2).s=[]:=by rcases hx.txt0 with h | h | h | h<;>first | exact h | omega
   have q3:(d.f 3).l.length=0:=by rcases hx.items0 with h | h | h<;>omega
   have q4:(d.f 4).l.length=0:=by rcases hx.keys0 with h | h<;>omega
   have q2:(d.f 2).s.data.toList=[]:=q2
   rw [q1,q2,q3,q4];rfl
attribute [local irreducible] wpList Calls Code.wp AW AWo OpOk seqK zm zo loopK endK AC zh Yld Sub
attribute [local irreducible] ACB ACX ACE absLexG YldG absLexH
theorem nullF_ac (d:D):AC EN Tryz.prog 138 [.agg (cellsV Tryz.prog 12 53 d)] (.c (.bool (nullB d))):=by
 have hT:((d.f 2).s.toList==({ data:=#[] }:ByteArray).toList)=((d.f 2).s.data.toList==[]):=zB7 _ []
 have z3:(((d.f 3).l.length:Int)==0)=decide ((d.f 3).l.length=0):=by rw [Bool.eq_iff_iff];simp only [beq_iff_eq,decide_eq_true_eq];omega
 have z4:(((d.f 4).l.length:Int)==0)=decide ((d.f 4).l.length=0):=by rw [Bool.eq_iff_iff];simp only [beq_iff_eq,decide_eq_true_eq];omega
 unfold nullB
 refine zM 28 Tryz.func138 rfl rfl rfl rfl ?_
 intro s w he
 repeat' (first
|refine zA ?_
|refine zB ?_
|refine zH ?_
|apply aw_1
 conv=>whnf
 refine ⟨?_,trivial⟩
|apply zQ rfl rfl
 . conv=>lhs;whnf
 . conv=>lhs;whnf
 . first | exact bT1 ‹_› | exact bT2 ‹_›
|apply zO rfl rfl
 . conv=>lhs;whnf
 . conv=>lhs;whnf
 . first | exact bF1 ‹_› | exact bF2 ‹_›
|apply s_1
 conv=>whnf;arg 1;arg 4;arg 3;whnf
 refine ⟨?_,?_⟩
|apply zAF rfl rfl rfl rfl
 . conv=>lhs;whnf;arg 1;whnf
 . rfl
|apply zD rfl
 . conv=>lhs;whnf
 . conv=>lhs;whnf
 . first | rfl | assumption
 . conv=>lhs;whnf;arg 2;whnf
|apply zV rfl
 . conv=>lhs;whnf
 . conv=>lhs;whnf
 . first | rfl | assumption
|apply zC rfl
 . conv=>lhs;whnf
 . conv=>lhs;whnf
 . conv=>lhs;whnf;arg 2;whnf
|refine zE ?_
|refine ⟨_,by conv=>lhs;whnf;arg 2;whnf,?_⟩;conv=>rhs;whnf
|exact trivial
|intro hg)
 all_goals
  refine congrArg (fun b=>V.c (.bool b)) ?_
  clear he
  simp only [hT,z3,z4] at *
  clear hT z3 z4
  generalize ((d.f 2).s.data.toList==[])=t at *
  generalize decide ((d.f 3).l.length=0)=b0 at *
  generalize decide ((d.f 4).l.length=0)=a0 at *
  simp_all
noncomputable def HClF (d:D) (i:Nat):Vst 21:=stS 21 [(1,.bx 1 0),(3,.c (.int .i64 (i:Int)))] [(1,.box 53 (cellsV Tryz.prog 12 53 d))]
theorem zGc : ∀ (k:Nat) (d:D),Dp k d->AC EN Tryz.prog 136 [.agg (cellsV Tryz.prog 12 53 d)] (.c (.bool (bareR k d)))
 |0,_,h=>h.elim
 |k+1,d,h=>by
  refine zA1 2 (by kernel_rfl) fun hL => ?_
  have hl:(d.f 3).l.length<=9223372036854775807:=(zA4 hL).1
  clear hL
  have ih:=fun i (hi:i<(d.f 3).l.length)=>zGc k (gD (d.f 3).l i) (h i hi)
  have hR:bareR (k+1) d=(zAD (bareR k) (d.f 3).l (d.f 3).l.length 0 && !((d.f 0).n==7)):=by rw [zFh,Bool.and_comm];rfl
  generalize bareR (k+1) d=R at hR |-
  refine zM 21 Tryz.func136 rfl rfl rfl rfl ?_
  intro s w he
  repeat' (first
|refine zA ?_
|refine zB ?_
|refine zH ?_
|apply aw_1
 conv=>whnf
 refine ⟨?_,trivial⟩
|apply s_1
 conv=>whnf;arg 1;arg 4;arg 3;whnf
 refine ⟨?_,?_⟩
|apply zAF rfl rfl rfl rfl
 . conv=>lhs;whnf;arg 1;whnf
 . rfl
|exact trivial)
  refine zf (fun j st => ∃ i,i+j=(d.f 3).l.length/\R=(zAD (bareR k) (d.f 3).l j i && !((d.f 0).n==7))/\Sub (cx EN Tryz.prog s w he) st (HClF d i)) (d.f 3).l.length ⟨0,by omega,hR,Sub.live ⟨rfl,rfl,trivial⟩ ⟨rfl,trivial⟩⟩ ?_
  clear hR
  rintro j st ⟨i,hij,hR,hs2⟩
  refine zi hs2 ?_
  clear hs2
  by_cases hi:i<(d.f 3).l.length
  . obtain ⟨j,rfl⟩ : ∃ q,j=q+1:=⟨j-1,by omega⟩
    have f1:decide ((i:Int)<((d.f 3).l.length:Nat))=true:=decide_eq_true (by omega)
    have hR':R=(bareR k (gD (d.f 3).l i)&&zAD (bareR k) (d.f 3).l j (i+1) && !((d.f 0).n==7)):=hR
    have ih2:=ih i hi
    repeat' (first
|apply zG
 . conv=>lhs;whnf
 . assumption
|refine zA ?_
|refine zB ?_
|refine zH ?_
|refine zW ?_
|apply aw_1
 conv=>whnf
 refine ⟨?_,trivial⟩
|apply s_1
 conv=>whnf;arg 1;arg 4;arg 3;whnf
 refine ⟨?_,?_⟩
|apply zY rfl
 . conv=>lhs;whnf
 . conv=>lhs;whnf
 . first | exact ih2
|refine ze (by conv=>lhs;whnf) ?_ ?_<;>intro hb
|refine zN ?_
|refine zP ?_
|refine zg ?_
|refine zE ?_
|refine ⟨_,by conv=>lhs;whnf;arg 2;whnf,?_⟩;conv=>rhs;whnf
|exact trivial)
    all_goals first
     |exact zR (by omega)
     |exact zr hi
     |(have e:bareR k (gD (d.f 3).l i)=false:=by simpa using (by assumption:(!bareR k (gD (d.f 3).l i))=true)
       rw [hR',e];rfl)
     |(have e:bareR k (gD (d.f 3).l i)=true:=by simpa using (by assumption:(!bareR k (gD (d.f 3).l i))=false)
       exact zI (j':=j) (by omega) ⟨i+1,by omega,by rw [hR',e,Bool.true_and],Sub.live ⟨rfl,rfl,trivial⟩ ⟨rfl,trivial⟩⟩)
     |skip
  . obtain rfl:j=0:=by omega
    have f1:decide ((i:Int)<((d.f 3).l.length:Nat))=false:=decide_eq_false (by omega)
    repeat' (first
|apply zF
 . conv=>lhs;whnf
 . assumption
|refine zA ?_
|refine zB ?_
|refine zH ?_
|apply aw_1
 conv=>whnf
 refine ⟨?_,trivial⟩
|apply s_1
 conv=>whnf;arg 1;arg 4;arg 3;whnf
 refine ⟨?_,?_⟩
|refine zL ?_
|refine zJ rfl ?_
|refine zK ?_
|refine zE ?_
|refine ⟨_,by conv=>lhs;whnf;arg 2;whnf,?_⟩;conv=>rhs;whnf
|exact trivial)
    rw [hR,zAD,Bool.true_and];rfl
theorem zFd (d:D):AC EN Tryz.prog 136 [.agg (cellsV Tryz.prog 12 53 d)] (.c (.bool (bareR (bulkD d) d))):=zGc _ d (zBY (bulkD d) d (Nat.le_refl _))
noncomputable def HTfU (d:D) (i:Nat):Vst 54:=stS 54 [(1,.bx 1 0),(3,.c (.int .i64 (i:Int)))] [(1,.box 48 (cellsV Tryz.prog 12 48 d))]
theorem zKX (d:D):AC EN Tryz.prog 137 [.agg (cellsV Tryz.prog 12 48 d)] (.c (.bool (refR d))):=by
 refine zA1 2 (by kernel_rfl) fun hL2 => ?_
 have hl:(d.f 1).l.length<=9223372036854775807:=len_ref hL2
 clear hL2
 have hn:=zAg (d.f 0).s
 have hR:refR d=(nameB (d.f 0).s&&decide ((d.f 1).l.length<=24)&&wrapsI (d.f 1).l (d.f 1).l.length 0):=by rw [zGg];rfl
 generalize refR d=R at hR |-
 have e:decide (((d.f 1).l.length:Int)>24) = !decide ((d.f 1).l.length<=24):=by
  rw [Bool.eq_iff_iff]
  simp only [decide_eq_true_eq,Bool.not_eq_true',decide_eq_false_iff_not]
  omega
 refine zM 54 Tryz.func137 rfl rfl rfl rfl ?_
 intro s w he
 repeat' (first
|refine zA ?_
|refine zB ?_
|refine zH ?_
|apply aw_1
 conv=>whnf
 refine ⟨?_,trivial⟩
|apply zQ rfl rfl
 . conv=>lhs;whnf
 . conv=>lhs;whnf
 . first | exact bT1 ‹_› | exact bT2 ‹_›
|apply zO rfl rfl
 . conv=>lhs;whnf
 . conv=>lhs;whnf
 . first | exact bF1 ‹_› | exact bF2 ‹_›
|apply s_1
 conv=>whnf;arg 1;arg 4;arg 3;whnf
 refine ⟨?_,?_⟩
|apply zY rfl
 . conv=>lhs;whnf
 . conv=>lhs;whnf
 . first | exact hn
|apply zAF rfl rfl rfl rfl
 . conv=>lhs;whnf;arg 1;whnf
 . rfl
|apply zD rfl
 . conv=>lhs;whnf
 . conv=>lhs;whnf
 . first | rfl | assumption
 . conv=>lhs;whnf;arg 2;whnf
|apply zV rfl
 . conv=>lhs;whnf
 . conv=>lhs;whnf
 . first | rfl | assumption
|apply zC rfl
 . conv=>lhs;whnf
 . conv=>lhs;whnf
 . conv=>lhs;whnf;arg 2;whnf
|refine ze (by conv=>lhs;whnf) ?_ ?_<;>intro hb
|refine zN ?_
|refine zE ?_
|refine ⟨_,by conv=>lhs;whnf;arg 2;whnf,?_⟩;conv=>rhs;whnf
|exact trivial
|intro hg)
 . simp_all
   intros
   omega
 . have hR2:R=wrapsI (d.f 1).l (d.f 1).l.length 0:=by simp_all
   clear hR hn
   refine zf (fun j st => ∃ i,i+j=(d.f 1).l.length/\R=wrapsI (d.f 1).l j i/\Sub (cx EN Tryz.prog s w he) st (HTfU d i)) (d.f 1).l.length ⟨0,by omega,hR2,Sub.live ⟨rfl,rfl,trivial⟩ ⟨rfl,trivial⟩⟩ ?_
   clear hR2 hg hb e
   rintro j st ⟨i,hij,hR,hs2⟩
   refine zi hs2 ?_
   clear hs2
   by_cases hi:i<(d.f 1).l.length
   . obtain ⟨j,rfl⟩ : ∃ q,j=q+1:=⟨j-1,by omega⟩
     have f1:decide ((i:Int)<((d.f 1).l.length:Nat))=true:=decide_eq_true (by omega)
     have e1:decide ((i:Int)>0)=decide (0<i):=decide_eq_decide.2 (by omega)
     have eT:((i:Int)-1).toNat=i-1:=by omega
     have hR':R=(((gD (d.f (0+1)).l (i:Int).toNat).n==1||(gD (d.f (0+1)).l (i:Int).toNat).n==2) && !((gD (d.f (0+1)).l (i:Int).toNat).n==1&&decide ((i:Int)>0)&&((gD (d.f (0+1)).l ((i:Int)-1).toNat).n==(gD (d.f (0+1)).l (i:Int).toNat).n))&&wrapsI (d.f 1).l j (i+1)):=by
      rw [hR,e1,eT,Int.toNat_natCast];rfl
     clear hR e1
     repeat' (first
|apply zG
 . conv=>lhs;whnf
 . assumption
|refine zA ?_
|refine zB ?_
|refine zH ?_
|refine zW ?_
|apply aw_1
 conv=>whnf
 refine ⟨?_,trivial⟩
|apply zQ rfl rfl
 . conv=>lhs;whnf
 . conv=>lhs;whnf
 . first | exact bT1 ‹_› | exact bT2 ‹_›
|apply zO rfl rfl
 . conv=>lhs;whnf
 . conv=>lhs;whnf
 . first | exact bF1 ‹_› | exact bF2 ‹_›
|apply s_1
 conv=>whnf;arg 1;arg 4;arg 3;whnf
 refine ⟨?_,?_⟩
|apply zD rfl
 . conv=>lhs;whnf
 . conv=>lhs;whnf
 . first | rfl | assumption
 . conv=>lhs;whnf;arg 2;whnf
|apply zV rfl
 . conv=>lhs;whnf
 . conv=>lhs;whnf
 . first | rfl | assumption
|apply zC rfl
 . conv=>lhs;whnf
 . conv=>lhs;whnf
 . conv=>lhs;whnf;arg 2;whnf
|refine ze (by conv=>lhs;whnf) ?_ ?_<;>intro hb
|refine zN ?_
|refine zP ?_
|refine zg ?_
|refine zE ?_
|refine ⟨_,by conv=>lhs;whnf;arg 2;whnf,?_⟩;conv=>rhs;whnf
|exact trivial
|intro hg)
     all_goals first
      |exact zR (by omega)
      |exact zr hi
      |(have h0:(i:Int)>0:=by simp_all
        exact (show 0<=(i:Int)-1/\(i:Int)-1<(((d.f 1).l.length:Nat):Int) from ⟨by omega,by omega⟩))
      |(have h0:(i:Int)>0:=by simp_all
        exact zR (by omega))
      |(have hN:R=wrapsI (d.f 1).l j (i+1):=by simp_all
        exact zI (j':=j) (by omega) ⟨i+1,by omega,hN,Sub.live ⟨rfl,rfl,trivial⟩ ⟨rfl,trivial⟩⟩)
      |skip
     all_goals
      refine congrArg (fun b=>V.c (.bool b)) ?_
      clear eT f1 hi hij he
      simp_all
   . obtain rfl:j=0:=by omega
     have f1:decide ((i:Int)<((d.f 1).l.length:Nat))=false:=decide_eq_false (by omega)
     repeat' (first
|apply zF
 . conv=>lhs;whnf
 . assumption
|refine zA ?_
|refine zB ?_
|refine zH ?_
|apply aw_1
 conv=>whnf
 refine ⟨?_,trivial⟩
|apply s_1
 conv=>whnf;arg 1;arg 4;arg 3;whnf
 refine ⟨?_,?_⟩
|refine zL ?_
|refine zJ rfl ?_
|refine zK ?_
|refine zE ?_
|refine ⟨_,by conv=>lhs;whnf;arg 2;whnf,?_⟩;conv=>rhs;whnf
|exact trivial)
     rw [hR];rfl
 . simp_all
noncomputable def HdFU (l:List D) (i:Nat):Vst 65:=stS 65 [(0,.sl 108 l),(3,.c (.int .i64 (i:Int)))] []
noncomputable def HdGU (l:List D) (i k:Nat):Vst 65:=stS 65 [(0,.sl 108 l),(3,.c (.int .i64 (i:Int))),(4,.c (.int .i64 (k:Int)))] []
theorem zDo (l:List D):AC EN Tryz.prog 73 [.sl 108 l] (.c (.bool (dirsY litW l))):=by
 refine zC7 2 fun hL2 => ?_
 have hl:l.length<=9223372036854775807:=hL2.1
 have hla : ∀ i,i<l.length->((gD l i).f 1).l.length<=9223372036854775807:=fun i hi=>zHR (hL2.2 (by decide +kernel) i hi)
 clear hL2
 by_cases h16:16<l.length
 . have f0:decide ((l.length:Int)>16)=true:=decide_eq_true (by omega)
   rw [show dirsY litW l=false by unfold dirsY;rw [decide_eq_false (by omega)];rfl]
   refine zM 65 Tryz.func73 rfl rfl rfl rfl ?_
   intro s w he
   repeat' (first
|apply zG
 . conv=>lhs;whnf
 . assumption
|refine zA ?_
|refine zB ?_
|refine zH ?_
|apply aw_1
 conv=>whnf
 refine ⟨?_,trivial⟩
|apply s_1
 conv=>whnf;arg 1;arg 4;arg 3;whnf
 refine ⟨?_,?_⟩
|refine zN ?_
|refine zE ?_
|refine ⟨_,by conv=>lhs;whnf;arg 2;whnf,?_⟩;conv=>rhs;whnf
|exact trivial)
 have f0:decide ((l.length:Int)>16)=false:=decide_eq_false (by omega)
 have hR:dirsY litW l=zAD (dirY litW) l l.length 0:=by unfold dirsY;rw [decide_eq_true (by omega),zAv,Bool.true_and]
 generalize dirsY litW l=R at hR |-
 refine zM 65 Tryz.func73 rfl rfl rfl rfl ?_
 intro s w he
 repeat' (first
|apply zF
 . conv=>lhs;whnf
 . assumption
|refine zA ?_
|refine zB ?_
|refine zH ?_
|apply aw_1
 conv=>whnf
 refine ⟨?_,trivial⟩
|apply s_1
 conv=>whnf;arg 1;arg 4;arg 3;whnf
 refine ⟨?_,?_⟩
|exact trivial)
 refine zf (fun j st => ∃ i,i+j=l.length/\R=zAD (dirY litW) l j i/\Sub (cx EN Tryz.prog s w he) st (HdFU l i)) l.length ⟨0,by omega,hR,Sub.live ⟨rfl,rfl,trivial⟩ trivial⟩ ?_
 clear hR
 rintro j st ⟨i,hij,hR,hs2⟩
 refine zi hs2 ?_
 clear hs2
 by_cases hi:i<l.length
 . obtain ⟨j,rfl⟩ : ∃ q,j=q+1:=⟨j-1,by omega⟩
   have f1:decide ((i:Int)<(l.length:Nat))=true:=decide_eq_true (by omega)
   have hR':R=(dirY litW (gD l i)&&zAD (dirY litW) l j (i+1)):=hR
   clear hR
   have ha:=hla i hi
   have h1:=zAg ((gD l i).f 0).s
   cases hnb:nameB ((gD l i).f 0).s with
   |false =>
    have e:dirY litW (gD l i)=false:=by unfold dirY;rw [hnb];rfl
    have hRf:R=false:=by rw [hR',e];rfl
    rw [hRf]
    rw [hnb] at h1
    have K:((!false)==false)=true->False:=by decide
    repeat' (first
|apply zG
 . conv=>lhs;whnf
 . assumption
|refine zA ?_
|refine zB ?_
|refine zH ?_
|apply aw_1
 conv=>whnf
 refine ⟨?_,trivial⟩
|apply s_1
 conv=>whnf;arg 1;arg 4;arg 3;whnf
 refine ⟨?_,?_⟩
|apply zY rfl
 . conv=>lhs;whnf
 . conv=>lhs;whnf
 . first | exact h1
|refine zN ?_
|refine zP ?_
|refine zg ?_
|refine zE ?_
|refine ⟨_,by conv=>lhs;whnf;arg 2;whnf,?_⟩;conv=>rhs;whnf
|exact trivial)
    all_goals first
     |exact zR (by omega)
     |exact zr hi
     |rfl
     |skip
   |true =>
    rw [hnb] at h1
    have K:((!true)==false)=false->False:=by decide
    by_cases h16:16<((gD l i).f 1).l.length
    . have f4:decide ((((gD l i).f 1).l.length:Int)>16)=true:=decide_eq_true (by omega)
      have e:dirY litW (gD l i)=false:=by unfold dirY zFy;rw [decide_eq_false (by omega)];simp
      have hRf:R=false:=by rw [hR',e];rfl
      rw [hRf]
      repeat' (first
|apply zG
 . conv=>lhs;whnf
 . assumption
|refine zA ?_
|refine zB ?_
|refine zH ?_
|apply aw_1
 conv=>whnf
 refine ⟨?_,trivial⟩
|apply s_1
 conv=>whnf;arg 1;arg 4;arg 3;whnf
 refine ⟨?_,?_⟩
|apply zY rfl
 . conv=>lhs;whnf
 . conv=>lhs;whnf
 . first | exact h1
|refine zN ?_
|refine zP ?_
|refine zg ?_
|refine zE ?_
|refine ⟨_,by conv=>lhs;whnf;arg 2;whnf,?_⟩;conv=>rhs;whnf
|exact trivial)
      all_goals first
       |exact zR (by omega)
       |exact zr hi
       |rfl
       |skip
    . have f4:decide ((((gD l i).f 1).l.length:Int)>16)=false:=decide_eq_false (by omega)
      have e:dirY litW (gD l i)=zAD (argY litW) ((gD l i).f 1).l ((gD l i).f 1).l.length 0:=by
       unfold dirY zFy;rw [hnb,decide_eq_true (by omega),zAv,Bool.true_and,Bool.true_and]
      rw [e] at hR'
      clear e
      repeat' (first
|apply zG
 . conv=>lhs;whnf
 . assumption
|apply zF
 . conv=>lhs;whnf
 . assumption
|refine zA ?_
|refine zB ?_
|refine zH ?_
|apply aw_1
 conv=>whnf
 refine ⟨?_,trivial⟩
|apply s_1
 conv=>whnf;arg 1;arg 4;arg 3;whnf
 refine ⟨?_,?_⟩
|apply zY rfl
 . conv=>lhs;whnf
 . conv=>lhs;whnf
 . first | exact h1
|exact trivial)
      all_goals first
       |exact zR (by omega)
       |exact zr hi
       |skip
      clear h1 K f4
      refine zf (fun jj st => ∃ k,k+jj=((gD l i).f 1).l.length/\R=(zAD (argY litW) ((gD l i).f 1).l jj k&&zAD (dirY litW) l j (i+1))/\Sub (cx EN Tryz.prog s w he) st (HdGU l i k)) ((gD l i).f 1).l.length ⟨0,by omega,hR',Sub.live ⟨rfl,rfl,rfl,trivial⟩ trivial⟩ ?_
      clear hR'
      rintro jj st2 ⟨k,hkj,hR,hs3⟩
      refine zi hs3 ?_
      clear hs3
      by_cases hk:k<((gD l i).f 1).l.length
      . obtain ⟨jj,rfl⟩ : ∃ q,jj=q+1:=⟨jj-1,by omega⟩
        have f2:decide ((k:Int)<(((gD l i).f 1).l.length:Nat))=true:=decide_eq_true (by omega)
        have hR':R=(argY litW (gD ((gD l i).f 1).l k)&&zAD (argY litW) ((gD l i).f 1).l jj (k+1)&&zAD (dirY litW) l j (i+1)):=hR
        clear hR
        have e:argY litW (gD ((gD l i).f 1).l k)=(nameB ((gD ((gD l i).f 1).l k).f 0).s&&(litW ((gD ((gD l i).f 1).l k).f 1)&&bareR (bulkD ((gD ((gD l i).f 1).l k).f 1)) ((gD ((gD l i).f 1).l k).f 1))):=rfl
        have q1:=zAg ((gD ((gD l i).f 1).l k).f 0).s
        have q2:=zKn ((gD ((gD l i).f 1).l k).f 1)
        have q3:=zFd ((gD ((gD l i).f 1).l k).f 1)
        generalize nameB ((gD ((gD l i).f 1).l k).f 0).s=a at q1 e
        generalize litW ((gD ((gD l i).f 1).l k).f 1)=b at q2 e
        generalize bareR (bulkD ((gD ((gD l i).f 1).l k).f 1)) ((gD ((gD l i).f 1).l k).f 1)=c at q3 e
        repeat' (first
|apply zG
 . conv=>lhs;whnf
 . assumption
|refine zA ?_
|refine zB ?_
|refine zH ?_
|refine zW ?_
|apply aw_1
 conv=>whnf
 refine ⟨?_,trivial⟩
|apply zQ rfl rfl
 . conv=>lhs;whnf
 . conv=>lhs;whnf
 . first | exact bT1 ‹_› | exact bT2 ‹_›
|apply zO rfl rfl
 . conv=>lhs;whnf
 . conv=>lhs;whnf
 . first | exact bF1 ‹_› | exact bF2 ‹_›
|apply s_1
 conv=>whnf;arg 1;arg 4;arg 3;whnf
 refine ⟨?_,?_⟩
|apply zY rfl
 . conv=>lhs;whnf
 . conv=>lhs;whnf
 . first | exact q1 | exact q2 | exact q3
|apply zT rfl rfl rfl
 . conv=>lhs;whnf
 . conv=>lhs;whnf;arg 1;whnf
 . conv=>lhs;whnf;arg 1;whnf
 . exact ⟨by kernel_rfl,by kernel_rfl⟩
 . rfl
|apply zD rfl
 . conv=>lhs;whnf
 . conv=>lhs;whnf
 . first | rfl | assumption
 . conv=>lhs;whnf;arg 2;whnf
|apply zX rfl
 . conv=>lhs;whnf
 . conv=>lhs;whnf
 . first | rfl | assumption
 . conv=>lhs;whnf
 . first | exact q1 | exact q2 | exact q3
|apply zV rfl
 . conv=>lhs;whnf
 . conv=>lhs;whnf
 . first | rfl | assumption
|apply zC rfl
 . conv=>lhs;whnf
 . conv=>lhs;whnf
 . conv=>lhs;whnf;arg 2;whnf
|refine ze (by conv=>lhs;whnf) ?_ ?_<;>intro hb
|refine zN ?_
|refine zP ?_
|refine zg ?_
|refine zE ?_
|refine ⟨_,by conv=>lhs;whnf;arg 2;whnf,?_⟩;conv=>rhs;whnf
|exact trivial
|intro hg)
        all_goals first
         |exact zR (by omega)
         |exact zr hi
         |exact zr hk
         |(have e2:argY litW (gD ((gD l i).f 1).l k)=false:=by
            rw [e];clear q1 q2 q3 e hR' he;cases a<;>cases b<;>cases c<;>simp_all
           rw [hR',e2];rfl)
         |(have e2:argY litW (gD ((gD l i).f 1).l k)=true:=by
            rw [e];clear q1 q2 q3 e hR' he;cases a<;>cases b<;>cases c<;>simp_all
           exact zI (j':=jj) (by omega) ⟨k+1,by omega,by rw [hR',e2,Bool.true_and],Sub.live ⟨rfl,rfl,rfl,trivial⟩ trivial⟩)
         |skip
      . obtain rfl:jj=0:=by omega
        have f2:decide ((k:Int)<(((gD l i).f 1).l.length:Nat))=false:=decide_eq_false (by omega)
        have hR':R=zAD (dirY litW) l j (i+1):=by rw [hR,zAD,Bool.true_and]
        repeat' (first
|apply zF
 . conv=>lhs;whnf
 . assumption
|refine zA ?_
|refine zB ?_
|refine zH ?_
|refine zW ?_
|apply aw_1
 conv=>whnf
 refine ⟨?_,trivial⟩
|apply s_1
 conv=>whnf;arg 1;arg 4;arg 3;whnf
 refine ⟨?_,?_⟩
|refine zL ?_
|refine zJ rfl ?_
|refine zK ?_
|exact trivial)
        all_goals first
         |exact zR (by omega)
         |exact zr hi
         |exact zI (j':=j) (by omega) ⟨i+1,by omega,hR',Sub.live ⟨rfl,rfl,trivial⟩ trivial⟩
         |skip
 . obtain rfl:j=0:=by omega
   have f1:decide ((i:Int)<(l.length:Nat))=false:=decide_eq_false (by omega)
   repeat' (first
|apply zF
 . conv=>lhs;whnf
 . assumption
|refine zA ?_
|refine zB ?_
|refine zH ?_
|apply aw_1
 conv=>whnf
 refine ⟨?_,trivial⟩
|apply s_1
 conv=>whnf;arg 1;arg 4;arg 3;whnf
 refine ⟨?_,?_⟩
|refine zL ?_
|refine zJ rfl ?_
|refine zK ?_
|refine zE ?_
|refine ⟨_,by conv=>lhs;whnf;arg 2;whnf,?_⟩;conv=>rhs;whnf
|exact trivial)
   rw [hR];rfl
end
section
open Go.RowKit
set_option linter.unusedSectionVars false
theorem inY_eq (x:D):inY litW x=(nameB (x.f 0).s&&refR (x.f 1)&&dirsY litW (x.f 4).l&&(if (x.f 2).b=true then litW (x.f 3)&&bareR (bulkD (x.f 3)) (x.f 3) else nullB (x.f 3))):=by
 unfold inY
 rw [null_valW]
 cases (x.f 2).b<;>simp [valY,Bool.and_assoc]
attribute [local irreducible] wpList Calls Code.wp AW AWo OpOk seqK zm zo loopK endK AC zh Yld Sub
attribute [local irreducible] ACB ACX ACE absLexG YldG absLexH
noncomputable def HinsFU (l:List D) (i:Nat):Vst 59:=stS 59 [(0,.sl 55 l),(3,.c (.int .i64 (i:Int)))] []
theorem zK1 (l:List D):AC EN Tryz.prog 76 [.sl 55 l] (.c (.bool (insY litW l))):=by
 refine zC7 1 fun hL2 => ?_
 have hl:l.length<=9223372036854775807:=hL2.1
 clear hL2
 by_cases hbig:16<l.length
 . have f0:decide ((l.length:Int)>16)=true:=decide_eq_true (by omega)
   rw [show (insY litW l)=false by unfold insY;rw [decide_eq_false (show ¬ l.length<=16 by omega)];simp]
   refine zM 59 Tryz.func76 rfl rfl rfl rfl ?_
   intro s w he
   repeat' (first
|apply zG
 . conv=>lhs;whnf
 . assumption
|refine zA ?_
|refine zB ?_
|refine zH ?_
|apply aw_1
 conv=>whnf
 refine ⟨?_,trivial⟩
|apply s_1
 conv=>whnf;arg 1;arg 4;arg 3;whnf
 refine ⟨?_,?_⟩
|refine zN ?_
|refine zE ?_
|refine ⟨_,by conv=>lhs;whnf;arg 2;whnf,?_⟩;conv=>rhs;whnf
|exact trivial)
   all_goals first
    |rfl
    |skip
 have f0:decide ((l.length:Int)>16)=false:=decide_eq_false (by omega)
 have hR:(insY litW l)=zAD (inY litW) l l.length 0:=by unfold insY;rw [decide_eq_true (show l.length<=16 by omega),zAv,Bool.true_and]
 generalize (insY litW l)=R at hR |-
 refine zM 59 Tryz.func76 rfl rfl rfl rfl ?_
 intro s w he
 repeat' (first
|apply zF
 . conv=>lhs;whnf
 . assumption
|refine zA ?_
|refine zB ?_
|refine zH ?_
|apply aw_1
 conv=>whnf
 refine ⟨?_,trivial⟩
|apply s_1
 conv=>whnf;arg 1;arg 4;arg 3;whnf
 refine ⟨?_,?_⟩
|exact trivial)
 refine zf (fun j st => ∃ i,i+j=l.length/\R=zAD (inY litW) l j i/\Sub (cx EN Tryz.prog s w he) st (HinsFU l i)) l.length ⟨0,by omega,hR,Sub.live ⟨rfl,rfl,trivial⟩ trivial⟩ ?_
 clear hR f0
 rintro j st ⟨i,hij,hR,hs2⟩
 refine zi hs2 ?_
 clear hs2
 by_cases hi:i<l.length
 . obtain ⟨j,rfl⟩ : ∃ q,j=q+1:=⟨j-1,by omega⟩
   have f1:decide ((i:Int)<(l.length:Nat))=true:=decide_eq_true (by omega)
   have hR':R=(inY litW (gD l i)&&zAD (inY litW) l j (i+1)):=hR
   clear hR
   have h1:=zAg ((gD l i).f 0).s
   have h2:=zKX ((gD l i).f 1)
   have h3:=zDo ((gD l i).f 4).l
   have h4:=zKn ((gD l i).f 3)
   have h5:=zFd ((gD l i).f 3)
   have h6:=nullF_ac ((gD l i).f 3)
   have e:inY litW (gD l i)=(nameB ((gD l i).f 0).s&&refR ((gD l i).f 1)&&dirsY litW ((gD l i).f 4).l&&(if ((gD l i).f 2).b=true then litW ((gD l i).f 3)&&bareR (bulkD ((gD l i).f 3)) ((gD l i).f 3) else nullB ((gD l i).f 3))):=inY_eq _
   generalize nameB ((gD l i).f 0).s=a at h1 e
   generalize refR ((gD l i).f 1)=b at h2 e
   generalize dirsY litW ((gD l i).f 4).l=c at h3 e
   generalize litW ((gD l i).f 3)=v at h4 e
   generalize bareR (bulkD ((gD l i).f 3)) ((gD l i).f 3)=w2 at h5 e
   generalize nullB ((gD l i).f 3)=nu at h6 e
   repeat' (first
|apply z7 rfl rfl rfl
 . conv=>lhs;whnf
 . first | rfl | assumption
 . conv=>lhs;whnf
 . first | exact bT1 ‹_› | exact bT2 ‹_› | rfl
|apply zx rfl rfl rfl
 . conv=>lhs;whnf
 . first | rfl | assumption
 . conv=>lhs;whnf
 . first | exact bF1 ‹_› | exact bF2 ‹_› | rfl
|apply zG
 . conv=>lhs;whnf
 . assumption
|refine zA ?_
|refine zB ?_
|refine zH ?_
|refine zW ?_
|apply aw_1
 conv=>whnf
 refine ⟨?_,trivial⟩
|apply zQ rfl rfl
 . conv=>lhs;whnf
 . conv=>lhs;whnf
 . first | exact bT1 ‹_› | exact bT2 ‹_›
|apply zO rfl rfl
 . conv=>lhs;whnf
 . conv=>lhs;whnf
 . first | exact bF1 ‹_› | exact bF2 ‹_›
|apply s_1
 conv=>whnf;arg 1;arg 4;arg 3;whnf
 refine ⟨?_,?_⟩
|apply zY rfl
 . conv=>lhs;whnf
 . conv=>lhs;whnf
 . first | exact h1 | exact h2 | exact h3 | exact h4 | exact h5 | exact h6
|apply zT rfl rfl rfl
 . conv=>lhs;whnf
 . conv=>lhs;whnf;arg 1;whnf
 . conv=>lhs;whnf;arg 1;whnf
 . exact ⟨by kernel_rfl,by kernel_rfl⟩
 . rfl
|apply zD rfl
 . conv=>lhs;whnf
 . conv=>lhs;whnf
 . first | rfl | assumption
 . conv=>lhs;whnf;arg 2;whnf
|apply zX rfl
 . conv=>lhs;whnf
 . conv=>lhs;whnf
 . first | rfl | assumption
 . conv=>lhs;whnf
 . first | exact h1 | exact h2 | exact h3 | exact h4 | exact h5 | exact h6
|apply zV rfl
 . conv=>lhs;whnf
 . conv=>lhs;whnf
 . first | rfl | assumption
|apply zC rfl
 . conv=>lhs;whnf
 . conv=>lhs;whnf
 . conv=>lhs;whnf;arg 2;whnf
|refine ze (by conv=>lhs;whnf) ?_ ?_<;>intro hb
|refine zN ?_
|refine zP ?_
|refine zg ?_
|refine zE ?_
|refine ⟨_,by conv=>lhs;whnf;arg 2;whnf,?_⟩;conv=>rhs;whnf
|exact trivial
|intro hg)
   all_goals first
    |exact zR (by omega)
    |exact zr hi
    |(have e2:inY litW (gD l i)=false:=by
       rw [e];clear e hR' he
       simp_all
      rw [hR',e2];rfl)
    |(have e2:inY litW (gD l i)=true:=by
       rw [e];clear e hR' he
       simp_all
      exact zI (j':=j) (by omega) ⟨i+1,by omega,by rw [hR',e2,Bool.true_and],Sub.live ⟨rfl,rfl,trivial⟩ trivial⟩)
    |skip
 . obtain rfl:j=0:=by omega
   have f1:decide ((i:Int)<(l.length:Nat))=false:=decide_eq_false (by omega)
   repeat' (first
|apply zF
 . conv=>lhs;whnf
 . assumption
|refine zA ?_
|refine zB ?_
|refine zH ?_
|apply aw_1
 conv=>whnf
 refine ⟨?_,trivial⟩
|apply s_1
 conv=>whnf;arg 1;arg 4;arg 3;whnf
 refine ⟨?_,?_⟩
|refine zL ?_
|refine zJ rfl ?_
|refine zK ?_
|refine zE ?_
|refine ⟨_,by conv=>lhs;whnf;arg 2;whnf,?_⟩;conv=>rhs;whnf
|exact trivial)
   rw [hR];rfl
noncomputable def HfdsFU (l:List D) (i:Nat):Vst 52:=stS 52 [(0,.sl 50 l),(3,.c (.int .i64 (i:Int)))] []
theorem fdsFU_ac (l:List D):AC EN Tryz.prog 74 [.sl 50 l] (.c (.bool ((!decide (l.length=0))&&fdsY litW l))):=by
 refine zC7 1 fun hL2 => ?_
 have hl:l.length<=9223372036854775807:=hL2.1
 clear hL2
 by_cases h0:l.length=0
 . have f00:decide ((l.length:Int)<1)=true:=decide_eq_true (by omega)
   have K1:(decide ((l.length:Int)<1)==false)=true->False:=fun h=>by rw [f00] at h;cases h
   rw [show ((!decide (l.length=0))&&fdsY litW l)=false by rw [decide_eq_true h0];rfl]
   refine zM 52 Tryz.func74 rfl rfl rfl rfl ?_
   intro s w he
   repeat' (first
|exact (K1 ‹_›).elim
|refine zA ?_
|refine zB ?_
|refine zH ?_
|apply aw_1
 conv=>whnf
 refine ⟨?_,trivial⟩
|apply zQ rfl rfl
 . conv=>lhs;whnf
 . conv=>lhs;whnf
 . first | exact bT1 ‹_› | exact bT2 ‹_›
|apply s_1
 conv=>whnf;arg 1;arg 4;arg 3;whnf
 refine ⟨?_,?_⟩
|apply zV rfl
 . conv=>lhs;whnf
 . conv=>lhs;whnf
 . first | rfl | assumption
|apply zC rfl
 . conv=>lhs;whnf
 . conv=>lhs;whnf
 . conv=>lhs;whnf;arg 2;whnf
|refine zN ?_
|refine zE ?_
|refine ⟨_,by conv=>lhs;whnf;arg 2;whnf,?_⟩;conv=>rhs;whnf
|exact trivial
|intro hg)
   all_goals first
    |rfl
    |skip
 have f00:decide ((l.length:Int)<1)=false:=decide_eq_false (by omega)
 have K1:(decide ((l.length:Int)<1)==false)=false->False:=fun h=>by rw [f00] at h;cases h
 by_cases hbig:64<l.length
 . have f0:decide ((l.length:Int)>64)=true:=decide_eq_true (by omega)
   rw [show ((!decide (l.length=0))&&fdsY litW l)=false by unfold fdsY;rw [decide_eq_false (show ¬ l.length<=64 by omega)];simp]
   refine zM 52 Tryz.func74 rfl rfl rfl rfl ?_
   intro s w he
   repeat' (first
|apply zG
 . conv=>lhs;whnf
 . assumption
|exact (K1 ‹_›).elim
|refine zA ?_
|refine zB ?_
|refine zH ?_
|apply aw_1
 conv=>whnf
 refine ⟨?_,trivial⟩
|apply zO rfl rfl
 . conv=>lhs;whnf
 . conv=>lhs;whnf
 . first | exact bF1 ‹_› | exact bF2 ‹_›
|apply s_1
 conv=>whnf;arg 1;arg 4;arg 3;whnf
 refine ⟨?_,?_⟩
|apply zD rfl
 . conv=>lhs;whnf
 . conv=>lhs;whnf
 . first | rfl | assumption
 . conv=>lhs;whnf;arg 2;whnf
|apply zC rfl
 . conv=>lhs;whnf
 . conv=>lhs;whnf
 . conv=>lhs;whnf;arg 2;whnf
|refine zN ?_
|refine zE ?_
|refine ⟨_,by conv=>lhs;whnf;arg 2;whnf,?_⟩;conv=>rhs;whnf
|exact trivial
|intro hg)
   all_goals first
    |rfl
    |skip
 have f0:decide ((l.length:Int)>64)=false:=decide_eq_false (by omega)
 have hR:((!decide (l.length=0))&&fdsY litW l)=zAD (fdY litW) l l.length 0:=by unfold fdsY;rw [decide_eq_true (show l.length<=64 by omega),zAv,Bool.true_and,decide_eq_false h0];rfl
 generalize ((!decide (l.length=0))&&fdsY litW l)=R at hR |-
 refine zM 52 Tryz.func74 rfl rfl rfl rfl ?_
 intro s w he
 repeat' (first
|apply zF
 . conv=>lhs;whnf
 . assumption
|exact (K1 ‹_›).elim
|refine zA ?_
|refine zB ?_
|refine zH ?_
|apply aw_1
 conv=>whnf
 refine ⟨?_,trivial⟩
|apply zO rfl rfl
 . conv=>lhs;whnf
 . conv=>lhs;whnf
 . first | exact bF1 ‹_› | exact bF2 ‹_›
|apply s_1
 conv=>whnf;arg 1;arg 4;arg 3;whnf
 refine ⟨?_,?_⟩
|apply zD rfl
 . conv=>lhs;whnf
 . conv=>lhs;whnf
 . first | rfl | assumption
 . conv=>lhs;whnf;arg 2;whnf
|apply zC rfl
 . conv=>lhs;whnf
 . conv=>lhs;whnf
 . conv=>lhs;whnf;arg 2;whnf
|exact trivial
|intro hg)
 refine zf (fun j st => ∃ i,i+j=l.length/\R=zAD (fdY litW) l j i/\Sub (cx EN Tryz.prog s w he) st (HfdsFU l i)) l.length ⟨0,by omega,hR,Sub.live ⟨rfl,rfl,trivial⟩ trivial⟩ ?_
 clear hR f0 f00 K1
 rintro j st ⟨i,hij,hR,hs2⟩
 refine zi hs2 ?_
 clear hs2
 by_cases hi:i<l.length
 . obtain ⟨j,rfl⟩ : ∃ q,j=q+1:=⟨j-1,by omega⟩
   have f1:decide ((i:Int)<(l.length:Nat))=true:=decide_eq_true (by omega)
   have hR':R=(fdY litW (gD l i)&&zAD (fdY litW) l j (i+1)):=hR
   clear hR
   have h1:=zAg ((gD l i).f 0).s
   have h2:=zK1 ((gD l i).f 1).l
   have h3:=zKX ((gD l i).f 2)
   have h4:=zDo ((gD l i).f 3).l
   have e:fdY litW (gD l i)=(nameB ((gD l i).f 0).s&&insY litW ((gD l i).f 1).l&&refR ((gD l i).f 2)&&dirsY litW ((gD l i).f 3).l):=rfl
   generalize nameB ((gD l i).f 0).s=a at h1 e
   generalize insY litW ((gD l i).f 1).l=b at h2 e
   generalize refR ((gD l i).f 2)=c at h3 e
   generalize dirsY litW ((gD l i).f 3).l=v at h4 e
   repeat' (first
|apply zG
 . conv=>lhs;whnf
 . assumption
|refine zA ?_
|refine zB ?_
|refine zH ?_
|refine zW ?_
|apply aw_1
 conv=>whnf
 refine ⟨?_,trivial⟩
|apply zQ rfl rfl
 . conv=>lhs;whnf
 . conv=>lhs;whnf
 . first | exact bT1 ‹_› | exact bT2 ‹_›
|apply zO rfl rfl
 . conv=>lhs;whnf
 . conv=>lhs;whnf
 . first | exact bF1 ‹_› | exact bF2 ‹_›
|apply s_1
 conv=>whnf;arg 1;arg 4;arg 3;whnf
 refine ⟨?_,?_⟩
|apply zY rfl
 . conv=>lhs;whnf
 . conv=>lhs;whnf
 . first | exact h1 | exact h2 | exact h3 | exact h4
|apply zD rfl
 . conv=>lhs;whnf
 . conv=>lhs;whnf
 . first | rfl | assumption
 . conv=>lhs;whnf;arg 2;whnf
|apply zX rfl
 . conv=>lhs;whnf
 . conv=>lhs;whnf
 . first | rfl | assumption
 . conv=>lhs;whnf
 . first | exact h1 | exact h2 | exact h3 | exact h4
|apply zV rfl
 . conv=>lhs;whnf
 . conv=>lhs;whnf
 . first | rfl | assumption
|apply zC rfl
 . conv=>lhs;whnf
 . conv=>lhs;whnf
 . conv=>lhs;whnf;arg 2;whnf
|refine ze (by conv=>lhs;whnf) ?_ ?_<;>intro hb
|refine zN ?_
|refine zP ?_
|refine zg ?_
|refine zE ?_
|refine ⟨_,by conv=>lhs;whnf;arg 2;whnf,?_⟩;conv=>rhs;whnf
|exact trivial
|intro hg)
   all_goals first
    |exact zR (by omega)
    |exact zr hi
    |(have e2:fdY litW (gD l i)=false:=by
       rw [e];clear e hR' he
       simp_all
      rw [hR',e2];rfl)
    |(have e2:fdY litW (gD l i)=true:=by
       rw [e];clear e hR' he
       simp_all
      exact zI (j':=j) (by omega) ⟨i+1,by omega,by rw [hR',e2,Bool.true_and],Sub.live ⟨rfl,rfl,trivial⟩ trivial⟩)
    |skip
 . obtain rfl:j=0:=by omega
   have f1:decide ((i:Int)<(l.length:Nat))=false:=decide_eq_false (by omega)
   repeat' (first
|apply zF
 . conv=>lhs;whnf
 . assumption
|refine zA ?_
|refine zB ?_
|refine zH ?_
|apply aw_1
 conv=>whnf
 refine ⟨?_,trivial⟩
|apply s_1
 conv=>whnf;arg 1;arg 4;arg 3;whnf
 refine ⟨?_,?_⟩
|refine zL ?_
|refine zJ rfl ?_
|refine zK ?_
|refine zE ?_
|refine ⟨_,by conv=>lhs;whnf;arg 2;whnf,?_⟩;conv=>rhs;whnf
|exact trivial)
   rw [hR];rfl
noncomputable def HmbsFU (l:List D) (u:Bool) (i:Nat):Vst 48:=stS 48 [(0,.sl 79 l),(1,.c (.bool u)),(5,.c (.int .i64 (i:Int)))] []
theorem zKl (l:List D) (u:Bool):AC EN Tryz.prog 75 [.sl 79 l,.c (.bool u)] (.c (.bool ((!decide (l.length=0))&&mbsY litW u l))):=by
 refine zC7 1 fun hL2 => ?_
 have hl:l.length<=9223372036854775807:=hL2.1
 clear hL2
 by_cases h0:l.length=0
 . have f00:decide ((l.length:Int)<1)=true:=decide_eq_true (by omega)
   have K1:(decide ((l.length:Int)<1)==false)=true->False:=fun h=>by rw [f00] at h;cases h
   rw [show ((!decide (l.length=0))&&mbsY litW u l)=false by rw [decide_eq_true h0];rfl]
   refine zM 48 Tryz.func75 rfl rfl rfl rfl ?_
   intro s w he
   repeat' (first
|exact (K1 ‹_›).elim
|refine zA ?_
|refine zB ?_
|refine zH ?_
|apply aw_1
 conv=>whnf
 refine ⟨?_,trivial⟩
|apply zQ rfl rfl
 . conv=>lhs;whnf
 . conv=>lhs;whnf
 . first | exact bT1 ‹_› | exact bT2 ‹_›
|apply s_1
 conv=>whnf;arg 1;arg 4;arg 3;whnf
 refine ⟨?_,?_⟩
|apply zV rfl
 . conv=>lhs;whnf
 . conv=>lhs;whnf
 . first | rfl | assumption
|apply zC rfl
 . conv=>lhs;whnf
 . conv=>lhs;whnf
 . conv=>lhs;whnf;arg 2;whnf
|refine zN ?_
|refine zE ?_
|refine ⟨_,by conv=>lhs;whnf;arg 2;whnf,?_⟩;conv=>rhs;whnf
|exact trivial
|intro hg)
   all_goals first
    |rfl
    |skip
 have f00:decide ((l.length:Int)<1)=false:=decide_eq_false (by omega)
 have K1:(decide ((l.length:Int)<1)==false)=false->False:=fun h=>by rw [f00] at h;cases h
 by_cases hbig:64<l.length
 . have f0:decide ((l.length:Int)>64)=true:=decide_eq_true (by omega)
   rw [show ((!decide (l.length=0))&&mbsY litW u l)=false by unfold mbsY;rw [decide_eq_false (show ¬ l.length<=64 by omega)];simp]
   refine zM 48 Tryz.func75 rfl rfl rfl rfl ?_
   intro s w he
   repeat' (first
|apply zG
 . conv=>lhs;whnf
 . assumption
|exact (K1 ‹_›).elim
|refine zA ?_
|refine zB ?_
|refine zH ?_
|apply aw_1
 conv=>whnf
 refine ⟨?_,trivial⟩
|apply zO rfl rfl
 . conv=>lhs;whnf
 . conv=>lhs;whnf
 . first | exact bF1 ‹_› | exact bF2 ‹_›
|apply s_1
 conv=>whnf;arg 1;arg 4;arg 3;whnf
 refine ⟨?_,?_⟩
|apply zD rfl
 . conv=>lhs;whnf
 . conv=>lhs;whnf
 . first | rfl | assumption
 . conv=>lhs;whnf;arg 2;whnf
|apply zC rfl
 . conv=>lhs;whnf
 . conv=>lhs;whnf
 . conv=>lhs;whnf;arg 2;whnf
|refine zN ?_
|refine zE ?_
|refine ⟨_,by conv=>lhs;whnf;arg 2;whnf,?_⟩;conv=>rhs;whnf
|exact trivial
|intro hg)
   all_goals first
    |rfl
    |skip
 have f0:decide ((l.length:Int)>64)=false:=decide_eq_false (by omega)
 have hR:((!decide (l.length=0))&&mbsY litW u l)=zAD (mbY litW u) l l.length 0:=by unfold mbsY;rw [decide_eq_true (show l.length<=64 by omega),zAv,Bool.true_and,decide_eq_false h0];rfl
 generalize ((!decide (l.length=0))&&mbsY litW u l)=R at hR |-
 refine zM 48 Tryz.func75 rfl rfl rfl rfl ?_
 intro s w he
 repeat' (first
|apply zF
 . conv=>lhs;whnf
 . assumption
|exact (K1 ‹_›).elim
|refine zA ?_
|refine zB ?_
|refine zH ?_
|apply aw_1
 conv=>whnf
 refine ⟨?_,trivial⟩
|apply zO rfl rfl
 . conv=>lhs;whnf
 . conv=>lhs;whnf
 . first | exact bF1 ‹_› | exact bF2 ‹_›
|apply s_1
 conv=>whnf;arg 1;arg 4;arg 3;whnf
 refine ⟨?_,?_⟩
|apply zD rfl
 . conv=>lhs;whnf
 . conv=>lhs;whnf
 . first | rfl | assumption
 . conv=>lhs;whnf;arg 2;whnf
|apply zC rfl
 . conv=>lhs;whnf
 . conv=>lhs;whnf
 . conv=>lhs;whnf;arg 2;whnf
|exact trivial
|intro hg)
 refine zf (fun j st => ∃ i,i+j=l.length/\R=zAD (mbY litW u) l j i/\Sub (cx EN Tryz.prog s w he) st (HmbsFU l u i)) l.length ⟨0,by omega,hR,Sub.live ⟨rfl,rfl,rfl,trivial⟩ trivial⟩ ?_
 clear hR f0 f00 K1
 rintro j st ⟨i,hij,hR,hs2⟩
 refine zi hs2 ?_
 clear hs2
 by_cases hi:i<l.length
 . obtain ⟨j,rfl⟩ : ∃ q,j=q+1:=⟨j-1,by omega⟩
   have f1:decide ((i:Int)<(l.length:Nat))=true:=decide_eq_true (by omega)
   have hR':R=(mbY litW u (gD l i)&&zAD (mbY litW u) l j (i+1)):=hR
   clear hR
   have h1:=zAg ((gD l i).f 0).s
   have h2:=zDo ((gD l i).f 1).l
   have e:mbY litW u (gD l i)=(nameB ((gD l i).f 0).s&&dirsY litW ((gD l i).f 1).l&&(!u || !decide ((((gD l i).f 1).l.length:Int)>0))):=by
    have hz:decide (((gD l i).f 1).l.length=0) = !(decide ((((gD l i).f 1).l.length:Int)>0)):=by
     by_cases h0:((gD l i).f 1).l.length=0
     . rw [decide_eq_true h0,decide_eq_false (by omega)];rfl
     . rw [decide_eq_false h0,decide_eq_true (by omega)];rfl
    unfold mbY;rw [hz]
   generalize nameB ((gD l i).f 0).s=a at h1 e
   generalize dirsY litW ((gD l i).f 1).l=b at h2 e
   repeat' (first
|apply z7 rfl rfl rfl
 . conv=>lhs;whnf
 . first | rfl | assumption
 . conv=>lhs;whnf
 . first | exact bT1 ‹_› | exact bT2 ‹_› | rfl
|apply zx rfl rfl rfl
 . conv=>lhs;whnf
 . first | rfl | assumption
 . conv=>lhs;whnf
 . first | exact bF1 ‹_› | exact bF2 ‹_› | rfl
|apply zG
 . conv=>lhs;whnf
 . assumption
|refine zA ?_
|refine zB ?_
|refine zH ?_
|refine zW ?_
|apply aw_1
 conv=>whnf
 refine ⟨?_,trivial⟩
|apply zQ rfl rfl
 . conv=>lhs;whnf
 . conv=>lhs;whnf
 . first | exact bT1 ‹_› | exact bT2 ‹_›
|apply zO rfl rfl
 . conv=>lhs;whnf
 . conv=>lhs;whnf
 . first | exact bF1 ‹_› | exact bF2 ‹_›
|apply s_1
 conv=>whnf;arg 1;arg 4;arg 3;whnf
 refine ⟨?_,?_⟩
|apply zY rfl
 . conv=>lhs;whnf
 . conv=>lhs;whnf
 . first | exact h1 | exact h2
|apply zD rfl
 . conv=>lhs;whnf
 . conv=>lhs;whnf
 . first | rfl | assumption
 . conv=>lhs;whnf;arg 2;whnf
|apply zX rfl
 . conv=>lhs;whnf
 . conv=>lhs;whnf
 . first | rfl | assumption
 . conv=>lhs;whnf
 . first | exact h1 | exact h2
|apply zV rfl
 . conv=>lhs;whnf
 . conv=>lhs;whnf
 . first | rfl | assumption
|apply zC rfl
 . conv=>lhs;whnf
 . conv=>lhs;whnf
 . conv=>lhs;whnf;arg 2;whnf
|refine ze (by conv=>lhs;whnf) ?_ ?_<;>intro hb
|refine zN ?_
|refine zP ?_
|refine zg ?_
|refine zE ?_
|refine ⟨_,by conv=>lhs;whnf;arg 2;whnf,?_⟩;conv=>rhs;whnf
|exact trivial
|intro hg)
   all_goals first
    |exact zR (by omega)
    |exact zr hi
    |(have e2:mbY litW u (gD l i)=false:=by
       rw [e];clear e hR' he
       simp_all
      rw [hR',e2];rfl)
    |(have e2:mbY litW u (gD l i)=true:=by
       rw [e];clear e hR' he
       simp_all
      exact zI (j':=j) (by omega) ⟨i+1,by omega,by rw [hR',e2,Bool.true_and],Sub.live ⟨rfl,rfl,rfl,trivial⟩ trivial⟩)
    |skip
 . obtain rfl:j=0:=by omega
   have f1:decide ((i:Int)<(l.length:Nat))=false:=decide_eq_false (by omega)
   repeat' (first
|apply zF
 . conv=>lhs;whnf
 . assumption
|refine zA ?_
|refine zB ?_
|refine zH ?_
|apply aw_1
 conv=>whnf
 refine ⟨?_,trivial⟩
|apply s_1
 conv=>whnf;arg 1;arg 4;arg 3;whnf
 refine ⟨?_,?_⟩
|refine zL ?_
|refine zJ rfl ?_
|refine zK ?_
|refine zE ?_
|refine ⟨_,by conv=>lhs;whnf;arg 2;whnf,?_⟩;conv=>rhs;whnf
|exact trivial)
   rw [hR];rfl
end
section
open Go.RowKit
set_option linter.unusedSectionVars false
def defK (d:D):Bool:=
 if (d.f 0).n=1 then ((!decide ((d.f 4).l.length=0))&&fdsY litW (d.f 4).l)&&decide ((d.f 5).l.length=0)&&decide ((d.f 6).l.length=0)
 else if (d.f 0).n=2 then decide ((d.f 2).l.length=0)&&((!decide ((d.f 4).l.length=0))&&fdsY litW (d.f 4).l)&&decide ((d.f 5).l.length=0)&&decide ((d.f 6).l.length=0)
 else if (d.f 0).n=3 then decide ((d.f 2).l.length=0)&&decide ((d.f 4).l.length=0)&&((!decide ((d.f 5).l.length=0))&&mbsY litW true (d.f 5).l)&&decide ((d.f 6).l.length=0)
 else if (d.f 0).n=4 then decide ((d.f 2).l.length=0)&&decide ((d.f 4).l.length=0)&&((!decide ((d.f 5).l.length=0))&&mbsY litW false (d.f 5).l)&&decide ((d.f 6).l.length=0)
 else if (d.f 0).n=5 then decide ((d.f 2).l.length=0)&&decide ((d.f 4).l.length=0)&&decide ((d.f 5).l.length=0)&&(!decide ((d.f 6).l.length=0))&&insY litW (d.f 6).l
 else false
theorem zHB (n:Nat):decide (0<n) = !decide (n=0):=by
 by_cases h:n=0
 . subst h;rfl
 . rw [decide_eq_true (by omega),decide_eq_false h];rfl
theorem defY_K (d:D):defY litW d=(nameB (d.f 1).s&&dirsY litW (d.f 3).l&&imY (d.f 2).l&&defK d):=by
 have F0:decide ((d.f 4).l.length=0)=true->fdsY litW (d.f 4).l=true:=fun h=>by rw [List.eq_nil_of_length_eq_zero (of_decide_eq_true h)];rfl
 have M0 : ∀ u,decide ((d.f 5).l.length=0)=true->mbsY litW u (d.f 5).l=true:=fun u h=>by rw [List.eq_nil_of_length_eq_zero (of_decide_eq_true h)];rfl
 have M1:=M0 ((d.f 0).n==3)
 have M2:=M0 true
 have M3:=M0 false
 have I0:decide ((d.f 6).l.length=0)=true->insY litW (d.f 6).l=true:=fun h=>by rw [List.eq_nil_of_length_eq_zero (of_decide_eq_true h)];rfl
 unfold defY kindY defK
 rw [zHB,zHB,zHB,zKp]
 clear M0
 generalize (d.f 0).n=n at *
 by_cases n1:n=1
 . subst n1
   rw [show ((1:Int)==3)=false from rfl] at *
   generalize fdsY litW (d.f 4).l=F at *
   generalize mbsY litW false (d.f 5).l=M at *
   generalize mbsY litW true (d.f 5).l=M' at *
   generalize insY litW (d.f 6).l=I at *
   generalize decide ((d.f 2).l.length=0)=z2 at *
   generalize decide ((d.f 4).l.length=0)=z4 at *
   generalize decide ((d.f 5).l.length=0)=z5 at *
   generalize decide ((d.f 6).l.length=0)=z6 at *
   generalize nameB (d.f 1).s=nm at *
   generalize dirsY litW (d.f 3).l=ds at *
   generalize imY (d.f 2).l=im at *
   cases z4<;>cases z5<;>cases z6<;>simp_all
 by_cases n2:n=2
 . subst n2
   rw [show ((2:Int)==3)=false from rfl] at *
   generalize fdsY litW (d.f 4).l=F at *
   generalize mbsY litW false (d.f 5).l=M at *
   generalize mbsY litW true (d.f 5).l=M' at *
   generalize insY litW (d.f 6).l=I at *
   generalize decide ((d.f 2).l.length=0)=z2 at *
   generalize decide ((d.f 4).l.length=0)=z4 at *
   generalize decide ((d.f 5).l.length=0)=z5 at *
   generalize decide ((d.f 6).l.length=0)=z6 at *
   generalize nameB (d.f 1).s=nm at *
   generalize dirsY litW (d.f 3).l=ds at *
   generalize imY (d.f 2).l=im at *
   cases z4<;>cases z5<;>cases z6<;>cases z2<;>simp_all
 by_cases n3:n=3
 . subst n3
   rw [show ((3:Int)==3)=true from rfl] at *
   generalize fdsY litW (d.f 4).l=F at *
   generalize mbsY litW false (d.f 5).l=M at *
   generalize mbsY litW true (d.f 5).l=M' at *
   generalize insY litW (d.f 6).l=I at *
   generalize decide ((d.f 2).l.length=0)=z2 at *
   generalize decide ((d.f 4).l.length=0)=z4 at *
   generalize decide ((d.f 5).l.length=0)=z5 at *
   generalize decide ((d.f 6).l.length=0)=z6 at *
   generalize nameB (d.f 1).s=nm at *
   generalize dirsY litW (d.f 3).l=ds at *
   generalize imY (d.f 2).l=im at *
   cases z4<;>cases z5<;>cases z6<;>cases z2<;>simp_all
 by_cases n4:n=4
 . subst n4
   rw [show ((4:Int)==3)=false from rfl] at *
   generalize fdsY litW (d.f 4).l=F at *
   generalize mbsY litW false (d.f 5).l=M at *
   generalize mbsY litW true (d.f 5).l=M' at *
   generalize insY litW (d.f 6).l=I at *
   generalize decide ((d.f 2).l.length=0)=z2 at *
   generalize decide ((d.f 4).l.length=0)=z4 at *
   generalize decide ((d.f 5).l.length=0)=z5 at *
   generalize decide ((d.f 6).l.length=0)=z6 at *
   generalize nameB (d.f 1).s=nm at *
   generalize dirsY litW (d.f 3).l=ds at *
   generalize imY (d.f 2).l=im at *
   cases z4<;>cases z5<;>cases z6<;>cases z2<;>simp_all
 by_cases n5:n=5
 . subst n5
   rw [show ((5:Int)==3)=false from rfl] at *
   generalize fdsY litW (d.f 4).l=F at *
   generalize mbsY litW false (d.f 5).l=M at *
   generalize mbsY litW true (d.f 5).l=M' at *
   generalize insY litW (d.f 6).l=I at *
   generalize decide ((d.f 2).l.length=0)=z2 at *
   generalize decide ((d.f 4).l.length=0)=z4 at *
   generalize decide ((d.f 5).l.length=0)=z5 at *
   generalize decide ((d.f 6).l.length=0)=z6 at *
   generalize nameB (d.f 1).s=nm at *
   generalize dirsY litW (d.f 3).l=ds at *
   generalize imY (d.f 2).l=im at *
   cases z4<;>cases z5<;>cases z6<;>cases z2<;>simp_all
 rw [beq_eq_false_iff_ne.2 n1,beq_eq_false_iff_ne.2 n2,beq_eq_false_iff_ne.2 n3,beq_eq_false_iff_ne.2 n4,beq_eq_false_iff_ne.2 n5,if_neg n1,if_neg n2,if_neg n3,if_neg n4,if_neg n5]
 simp
attribute [local irreducible] wpList Calls Code.wp AW AWo OpOk seqK zm zo loopK endK AC zh Yld Sub
attribute [local irreducible] ACB ACX ACE absLexG YldG absLexH absLexU YldU
noncomputable def HdefU (d:D) (i:Nat):Vst 129:=stS 129 [(1,.bx 1 0),(3,.c (.int .i64 (i:Int)))] [(1,.box 45 (cellsV Tryz.prog 12 45 d))]
theorem defFU_ac (d:D) (hl:(d.f 2).l.length<=9223372036854775807):AC EN Tryz.prog 35 [.agg (cellsV Tryz.prog 12 45 d)] (.c (.bool (defY litW d))):=by
 have h1:=zAg (d.f 1).s
 have h2:=zDo (d.f 3).l
 have h3:=fdsFU_ac (d.f 4).l
 have h4:=zKl (d.f 5).l true
 have h5:=zKl (d.f 5).l false
 have h6:=zK1 (d.f 6).l
 have hY:=defY_K d
 by_cases hbad:nameB (d.f 1).s=true/\dirsY litW (d.f 3).l=true/\(d.f 2).l.length<=64
 rotate_left 1
 . have hf:defY litW d=false:=by
    rw [hY]
    unfold imY
    by_cases q:(d.f 2).l.length<=64
    . rw [decide_eq_true q]
      generalize nameB (d.f 1).s=a at *
      generalize dirsY litW (d.f 3).l=b at *
      cases a<;>cases b<;>simp_all
    . rw [decide_eq_false q];simp
   have hz:decide (((d.f 2).l.length:Int)>64) = !decide ((d.f 2).l.length<=64):=by
    rw [Bool.eq_iff_iff];simp;omega
   rw [hf]
   clear hf hY h3 h4 h5 h6
   generalize nameB (d.f 1).s=a at *
   generalize dirsY litW (d.f 3).l=b at *
   generalize decide ((d.f 2).l.length<=64)=c at *
   refine zM 129 Tryz.func35 rfl rfl rfl rfl ?_
   intro s w he
   cases a with
   |false =>
    have K:((!false)==false)=true->False:=by decide
    repeat' (first
|refine zA ?_
|refine zB ?_
|refine zH ?_
|apply aw_1
 conv=>whnf
 refine ⟨?_,trivial⟩
|apply s_1
 conv=>whnf;arg 1;arg 4;arg 3;whnf
 refine ⟨?_,?_⟩
|apply zY rfl
 . conv=>lhs;whnf
 . conv=>lhs;whnf
 . first | exact h1
|apply zAF rfl rfl rfl rfl
 . conv=>lhs;whnf;arg 1;whnf
 . rfl
|refine zN ?_
|refine zE ?_
|refine ⟨_,by conv=>lhs;whnf;arg 2;whnf,?_⟩;conv=>rhs;whnf
|exact trivial)
    all_goals first
     |rfl
     |skip
   |true =>
    have K:((!true)==false)=false->False:=by decide
    cases b with
    |false =>
     repeat' (first
|refine zA ?_
|refine zB ?_
|refine zH ?_
|apply aw_1
 conv=>whnf
 refine ⟨?_,trivial⟩
|apply s_1
 conv=>whnf;arg 1;arg 4;arg 3;whnf
 refine ⟨?_,?_⟩
|apply zY rfl
 . conv=>lhs;whnf
 . conv=>lhs;whnf
 . first | exact h1 | exact h2
|apply zAF rfl rfl rfl rfl
 . conv=>lhs;whnf;arg 1;whnf
 . rfl
|apply zX rfl
 . conv=>lhs;whnf
 . conv=>lhs;whnf
 . first | rfl | assumption
 . conv=>lhs;whnf
 . first | exact h1 | exact h2
|refine zN ?_
|refine zE ?_
|refine ⟨_,by conv=>lhs;whnf;arg 2;whnf,?_⟩;conv=>rhs;whnf
|exact trivial)
     all_goals first
      |rfl
      |skip
    |true =>
     have f1:decide (((d.f 2).l.length:Int)>64)=true:=decide_eq_true (by simp at hbad;omega)
     repeat' (first
|apply zG
 . conv=>lhs;whnf
 . assumption
|refine zA ?_
|refine zB ?_
|refine zH ?_
|apply aw_1
 conv=>whnf
 refine ⟨?_,trivial⟩
|apply s_1
 conv=>whnf;arg 1;arg 4;arg 3;whnf
 refine ⟨?_,?_⟩
|apply zY rfl
 . conv=>lhs;whnf
 . conv=>lhs;whnf
 . first | exact h1 | exact h2
|apply zAF rfl rfl rfl rfl
 . conv=>lhs;whnf;arg 1;whnf
 . rfl
|apply zX rfl
 . conv=>lhs;whnf
 . conv=>lhs;whnf
 . first | rfl | assumption
 . conv=>lhs;whnf
 . first | exact h1 | exact h2
|refine zN ?_
|refine zE ?_
|refine ⟨_,by conv=>lhs;whnf;arg 2;whnf,?_⟩;conv=>rhs;whnf
|exact trivial)
     all_goals first
      |rfl
      |skip
 obtain ⟨ha,hb,h64⟩:=hbad
 rw [ha] at h1
 rw [hb] at h2
 have hR:defY litW d=(zAD (fun x=>nameB x.s) (d.f 2).l (d.f 2).l.length 0&&defK d):=by
  rw [hY,ha,hb,zAv]
  unfold imY
  rw [decide_eq_true h64];rfl
 clear hY
 generalize defY litW d=R at hR |-
 have f0:decide (((d.f 2).l.length:Int)>64)=false:=decide_eq_false (by omega)
 have K:((!true)==false)=false->False:=by decide
 refine zM 129 Tryz.func35 rfl rfl rfl rfl ?_
 intro s w he
 repeat' (first
|apply zF
 . conv=>lhs;whnf
 . assumption
|refine zA ?_
|refine zB ?_
|refine zH ?_
|apply aw_1
 conv=>whnf
 refine ⟨?_,trivial⟩
|apply s_1
 conv=>whnf;arg 1;arg 4;arg 3;whnf
 refine ⟨?_,?_⟩
|apply zY rfl
 . conv=>lhs;whnf
 . conv=>lhs;whnf
 . first | exact h1 | exact h2
|apply zAF rfl rfl rfl rfl
 . conv=>lhs;whnf;arg 1;whnf
 . rfl
|apply zX rfl
 . conv=>lhs;whnf
 . conv=>lhs;whnf
 . first | rfl | assumption
 . conv=>lhs;whnf
 . first | exact h1 | exact h2
|exact trivial)
 all_goals first
  |exact zR (by omega)
  |skip
 clear h1 h2 K f0
 refine zf (fun j st => ∃ i,i+j=(d.f 2).l.length/\R=(zAD (fun x=>nameB x.s) (d.f 2).l j i&&defK d)/\Sub (cx EN Tryz.prog s w he) st (HdefU d i)) (d.f 2).l.length ⟨0,by omega,hR,Sub.live ⟨rfl,rfl,trivial⟩ ⟨rfl,trivial⟩⟩ ?_
 clear hR
 rintro j st ⟨i,hij,hR,hs2⟩
 refine zi hs2 ?_
 clear hs2
 by_cases hi:i<(d.f 2).l.length
 . obtain ⟨j,rfl⟩ : ∃ q,j=q+1:=⟨j-1,by omega⟩
   have f1:decide ((i:Int)<((d.f 2).l.length:Nat))=true:=decide_eq_true (by omega)
   have hR':R=(nameB (gD (d.f 2).l i).s&&zAD (fun x=>nameB x.s) (d.f 2).l j (i+1)&&defK d):=hR
   clear hR
   have hn1:=zAg (gD (d.f 2).l i).s
   repeat' (first
|apply zG
 . conv=>lhs;whnf
 . assumption
|refine zA ?_
|refine zB ?_
|refine zH ?_
|refine zW ?_
|apply aw_1
 conv=>whnf
 refine ⟨?_,trivial⟩
|apply s_1
 conv=>whnf;arg 1;arg 4;arg 3;whnf
 refine ⟨?_,?_⟩
|apply zY rfl
 . conv=>lhs;whnf
 . conv=>lhs;whnf
 . first | exact hn1
|refine ze (by conv=>lhs;whnf) ?_ ?_<;>intro hb
|refine zN ?_
|refine zP ?_
|refine zg ?_
|refine zE ?_
|refine ⟨_,by conv=>lhs;whnf;arg 2;whnf,?_⟩;conv=>rhs;whnf
|exact trivial)
   all_goals first
    |exact zR (by omega)
    |exact zr hi
    |(have e:nameB (gD (d.f 2).l i).s=false:=by simpa using (by assumption:(!nameB (gD (d.f 2).l i).s)=true)
      rw [hR',e];rfl)
    |(have e:nameB (gD (d.f 2).l i).s=true:=by simpa using (by assumption:(!nameB (gD (d.f 2).l i).s)=false)
      exact zI (j':=j) (by omega) ⟨i+1,by omega,by rw [hR',e,Bool.true_and],Sub.live ⟨rfl,rfl,trivial⟩ ⟨rfl,trivial⟩⟩)
    |skip
 . obtain rfl:j=0:=by omega
   have f1:decide ((i:Int)<((d.f 2).l.length:Nat))=false:=decide_eq_false (by omega)
   have hRK:R=defK d:=by rw [hR,zAD,Bool.true_and]
   clear hR
   have z2:(((d.f 2).l.length:Int)==0)=decide ((d.f 2).l.length=0):=by rw [Bool.eq_iff_iff];simp only [beq_iff_eq,decide_eq_true_eq];omega
   have z4:(((d.f 4).l.length:Int)==0)=decide ((d.f 4).l.length=0):=by rw [Bool.eq_iff_iff];simp only [beq_iff_eq,decide_eq_true_eq];omega
   have z5:(((d.f 5).l.length:Int)==0)=decide ((d.f 5).l.length=0):=by rw [Bool.eq_iff_iff];simp only [beq_iff_eq,decide_eq_true_eq];omega
   have z6:(((d.f 6).l.length:Int)==0)=decide ((d.f 6).l.length=0):=by rw [Bool.eq_iff_iff];simp only [beq_iff_eq,decide_eq_true_eq];omega
   have y6:decide (((d.f 6).l.length:Int)>0) = !decide ((d.f 6).l.length=0):=by rw [<- zHB];exact decide_eq_decide.2 (by omega)
   unfold defK at hRK
   generalize fdsY litW (d.f 4).l=F at *
   generalize mbsY litW true (d.f 5).l=M1 at *
   generalize mbsY litW false (d.f 5).l=M2 at *
   generalize insY litW (d.f 6).l=I at *
   have h9:(d.f 0).n=1\/(d.f 0).n=2\/(d.f 0).n=3\/(d.f 0).n=4\/(d.f 0).n=5\/((d.f 0).n≠1/\(d.f 0).n≠2/\(d.f 0).n≠3/\(d.f 0).n≠4/\(d.f 0).n≠5):=by omega
   rcases h9 with hn | hn | hn | hn | hn | hn
   . have g1:((d.f 0).n==1)=true:=by rw [hn];rfl
     rw [if_pos hn] at hRK
     repeat' (first
|apply zG
 . conv=>lhs;whnf
 . assumption
|apply zF
 . conv=>lhs;whnf
 . assumption
|refine zA ?_
|refine zB ?_
|refine zH ?_
|apply aw_1
 conv=>whnf
 refine ⟨?_,trivial⟩
|apply zQ rfl rfl
 . conv=>lhs;whnf
 . conv=>lhs;whnf
 . first | exact bT1 ‹_› | exact bT2 ‹_›
|apply zO rfl rfl
 . conv=>lhs;whnf
 . conv=>lhs;whnf
 . first | exact bF1 ‹_› | exact bF2 ‹_›
|apply s_1
 conv=>whnf;arg 1;arg 4;arg 3;whnf
 refine ⟨?_,?_⟩
|apply zY rfl
 . conv=>lhs;whnf
 . conv=>lhs;whnf
 . first | exact h3 | exact h4 | exact h5 | exact h6
|apply zC rfl
 . conv=>lhs;whnf
 . conv=>lhs;whnf
 . conv=>lhs;whnf;arg 2;whnf
|apply zAN (by kernel_rfl) (by kernel_rfl)
|apply zBl
|apply zBk rfl
 . conv=>lhs;whnf
 . conv=>lhs;whnf;arg 2;whnf
|exact zn
|exact zv
|exact (1000000:Nat)
|refine zL ?_
|refine zN ?_
|refine zP ?_
|refine zJ rfl ?_
|refine zK ?_
|refine zE ?_
|refine ⟨_,by conv=>lhs;whnf;arg 2;whnf,?_⟩;conv=>rhs;whnf
|exact trivial
|intro hg)
     all_goals first
      |(rw [hRK];done)
      |(refine cB ?_
        clear h3 h4 h5 h6 he hn f1
        rw [hRK]
        simp only [z2,z4,z5,z6,y6] at *
        clear z2 z4 z5 z6 y6 hRK
        generalize decide ((d.f 2).l.length=0)=w2 at *
        generalize decide ((d.f 4).l.length=0)=w4 at *
        generalize decide ((d.f 5).l.length=0)=w5 at *
        generalize decide ((d.f 6).l.length=0)=w6 at *
        simp_all
        done)
      |exact (show Tryz.prog.underlying 4=some TypeDesc.bool by kernel_rfl)
      |skip
   . have g1:((d.f 0).n==1)=false:=by rw [hn];rfl
     have g2:((d.f 0).n==2)=true:=by rw [hn];rfl
     rw [if_neg (by omega),if_pos hn] at hRK
     repeat' (first
|apply zG
 . conv=>lhs;whnf
 . assumption
|apply zF
 . conv=>lhs;whnf
 . assumption
|refine zA ?_
|refine zB ?_
|refine zH ?_
|apply aw_1
 conv=>whnf
 refine ⟨?_,trivial⟩
|apply zQ rfl rfl
 . conv=>lhs;whnf
 . conv=>lhs;whnf
 . first | exact bT1 ‹_› | exact bT2 ‹_›
|apply zO rfl rfl
 . conv=>lhs;whnf
 . conv=>lhs;whnf
 . first | exact bF1 ‹_› | exact bF2 ‹_›
|apply s_1
 conv=>whnf;arg 1;arg 4;arg 3;whnf
 refine ⟨?_,?_⟩
|apply zD rfl
 . conv=>lhs;whnf
 . conv=>lhs;whnf
 . first | rfl | assumption
 . conv=>lhs;whnf;arg 2;whnf
|apply zX rfl
 . conv=>lhs;whnf
 . conv=>lhs;whnf
 . first | rfl | assumption
 . conv=>lhs;whnf
 . first | exact h3 | exact h4 | exact h5 | exact h6
|apply zV rfl
 . conv=>lhs;whnf
 . conv=>lhs;whnf
 . first | rfl | assumption
|apply zC rfl
 . conv=>lhs;whnf
 . conv=>lhs;whnf
 . conv=>lhs;whnf;arg 2;whnf
|apply zAN (by kernel_rfl) (by kernel_rfl)
|apply zBl
|apply zBk rfl
 . conv=>lhs;whnf
 . conv=>lhs;whnf;arg 2;whnf
|exact zn
|exact zv
|exact (1000000:Nat)
|refine zL ?_
|refine zN ?_
|refine zP ?_
|refine zJ rfl ?_
|refine zK ?_
|refine zE ?_
|refine ⟨_,by conv=>lhs;whnf;arg 2;whnf,?_⟩;conv=>rhs;whnf
|exact trivial
|intro hg)
     all_goals first
      |(rw [hRK];done)
      |(refine cB ?_
        clear h3 h4 h5 h6 he hn f1
        rw [hRK]
        simp only [z2,z4,z5,z6,y6] at *
        clear z2 z4 z5 z6 y6 hRK
        generalize decide ((d.f 2).l.length=0)=w2 at *
        generalize decide ((d.f 4).l.length=0)=w4 at *
        generalize decide ((d.f 5).l.length=0)=w5 at *
        generalize decide ((d.f 6).l.length=0)=w6 at *
        simp_all
        done)
      |exact (show Tryz.prog.underlying 4=some TypeDesc.bool by kernel_rfl)
      |skip
   . have g1:((d.f 0).n==1)=false:=by rw [hn];rfl
     have g2:((d.f 0).n==2)=false:=by rw [hn];rfl
     have g3:((d.f 0).n==3)=true:=by rw [hn];rfl
     rw [if_neg (by omega),if_neg (by omega),if_pos hn] at hRK
     repeat' (first
|apply zG
 . conv=>lhs;whnf
 . assumption
|apply zF
 . conv=>lhs;whnf
 . assumption
|refine zA ?_
|refine zB ?_
|refine zH ?_
|apply aw_1
 conv=>whnf
 refine ⟨?_,trivial⟩
|apply zQ rfl rfl
 . conv=>lhs;whnf
 . conv=>lhs;whnf
 . first | exact bT1 ‹_› | exact bT2 ‹_›
|apply zO rfl rfl
 . conv=>lhs;whnf
 . conv=>lhs;whnf
 . first | exact bF1 ‹_› | exact bF2 ‹_›
|apply s_1
 conv=>whnf;arg 1;arg 4;arg 3;whnf
 refine ⟨?_,?_⟩
|apply zD rfl
 . conv=>lhs;whnf
 . conv=>lhs;whnf
 . first | rfl | assumption
 . conv=>lhs;whnf;arg 2;whnf
|apply zX rfl
 . conv=>lhs;whnf
 . conv=>lhs;whnf
 . first | rfl | assumption
 . conv=>lhs;whnf
 . first | exact h3 | exact h4 | exact h5 | exact h6
|apply zV rfl
 . conv=>lhs;whnf
 . conv=>lhs;whnf
 . first | rfl | assumption
|apply zC rfl
 . conv=>lhs;whnf
 . conv=>lhs;whnf
 . conv=>lhs;whnf;arg 2;whnf
|apply zAN (by kernel_rfl) (by kernel_rfl)
|apply zBl
|apply zBk rfl
 . conv=>lhs;whnf
 . conv=>lhs;whnf;arg 2;whnf
|exact zn
|exact zv
|exact (1000000:Nat)
|refine zL ?_
|refine zN ?_
|refine zP ?_
|refine zJ rfl ?_
|refine zK ?_
|refine zE ?_
|refine ⟨_,by conv=>lhs;whnf;arg 2;whnf,?_⟩;conv=>rhs;whnf
|exact trivial
|intro hg)
     all_goals first
      |(rw [hRK];done)
      |(refine cB ?_
        clear h3 h4 h5 h6 he hn f1
        rw [hRK]
        simp only [z2,z4,z5,z6,y6] at *
        clear z2 z4 z5 z6 y6 hRK
        generalize decide ((d.f 2).l.length=0)=w2 at *
        generalize decide ((d.f 4).l.length=0)=w4 at *
        generalize decide ((d.f 5).l.length=0)=w5 at *
        generalize decide ((d.f 6).l.length=0)=w6 at *
        simp_all
        done)
      |exact (show Tryz.prog.underlying 4=some TypeDesc.bool by kernel_rfl)
      |skip
   . have g1:((d.f 0).n==1)=false:=by rw [hn];rfl
     have g2:((d.f 0).n==2)=false:=by rw [hn];rfl
     have g3:((d.f 0).n==3)=false:=by rw [hn];rfl
     have g4:((d.f 0).n==4)=true:=by rw [hn];rfl
     rw [if_neg (by omega),if_neg (by omega),if_neg (by omega),if_pos hn] at hRK
     repeat' (first
|apply zG
 . conv=>lhs;whnf
 . assumption
|apply zF
 . conv=>lhs;whnf
 . assumption
|refine zA ?_
|refine zB ?_
|refine zH ?_
|apply aw_1
 conv=>whnf
 refine ⟨?_,trivial⟩
|apply zQ rfl rfl
 . conv=>lhs;whnf
 . conv=>lhs;whnf
 . first | exact bT1 ‹_› | exact bT2 ‹_›
|apply zO rfl rfl
 . conv=>lhs;whnf
 . conv=>lhs;whnf
 . first | exact bF1 ‹_› | exact bF2 ‹_›
|apply s_1
 conv=>whnf;arg 1;arg 4;arg 3;whnf
 refine ⟨?_,?_⟩
|apply zD rfl
 . conv=>lhs;whnf
 . conv=>lhs;whnf
 . first | rfl | assumption
 . conv=>lhs;whnf;arg 2;whnf
|apply zX rfl
 . conv=>lhs;whnf
 . conv=>lhs;whnf
 . first | rfl | assumption
 . conv=>lhs;whnf
 . first | exact h3 | exact h4 | exact h5 | exact h6
|apply zV rfl
 . conv=>lhs;whnf
 . conv=>lhs;whnf
 . first | rfl | assumption
|apply zC rfl
 . conv=>lhs;whnf
 . conv=>lhs;whnf
 . conv=>lhs;whnf;arg 2;whnf
|apply zAN (by kernel_rfl) (by kernel_rfl)
|apply zBl
|apply zBk rfl
 . conv=>lhs;whnf
 . conv=>lhs;whnf;arg 2;whnf
|exact zn
|exact zv
|exact (1000000:Nat)
|refine zL ?_
|refine zN ?_
|refine zP ?_
|refine zJ rfl ?_
|refine zK ?_
|refine zE ?_
|refine ⟨_,by conv=>lhs;whnf;arg 2;whnf,?_⟩;conv=>rhs;whnf
|exact trivial
|intro hg)
     all_goals first
      |(rw [hRK];done)
      |(refine cB ?_
        clear h3 h4 h5 h6 he hn f1
        rw [hRK]
        simp only [z2,z4,z5,z6,y6] at *
        clear z2 z4 z5 z6 y6 hRK
        generalize decide ((d.f 2).l.length=0)=w2 at *
        generalize decide ((d.f 4).l.length=0)=w4 at *
        generalize decide ((d.f 5).l.length=0)=w5 at *
        generalize decide ((d.f 6).l.length=0)=w6 at *
        simp_all
        done)
      |exact (show Tryz.prog.underlying 4=some TypeDesc.bool by kernel_rfl)
      |skip
   . have g1:((d.f 0).n==1)=false:=by rw [hn];rfl
     have g2:((d.f 0).n==2)=false:=by rw [hn];rfl
     have g3:((d.f 0).n==3)=false:=by rw [hn];rfl
     have g4:((d.f 0).n==4)=false:=by rw [hn];rfl
     have g5:((d.f 0).n==5)=true:=by rw [hn];rfl
     rw [if_neg (by omega),if_neg (by omega),if_neg (by omega),if_neg (by omega),if_pos hn] at hRK
     repeat' (first
|apply zG
 . conv=>lhs;whnf
 . assumption
|apply zF
 . conv=>lhs;whnf
 . assumption
|refine zA ?_
|refine zB ?_
|refine zH ?_
|apply aw_1
 conv=>whnf
 refine ⟨?_,trivial⟩
|apply zQ rfl rfl
 . conv=>lhs;whnf
 . conv=>lhs;whnf
 . first | exact bT1 ‹_› | exact bT2 ‹_›
|apply zO rfl rfl
 . conv=>lhs;whnf
 . conv=>lhs;whnf
 . first | exact bF1 ‹_› | exact bF2 ‹_›
|apply s_1
 conv=>whnf;arg 1;arg 4;arg 3;whnf
 refine ⟨?_,?_⟩
|apply zD rfl
 . conv=>lhs;whnf
 . conv=>lhs;whnf
 . first | rfl | assumption
 . conv=>lhs;whnf;arg 2;whnf
|apply zX rfl
 . conv=>lhs;whnf
 . conv=>lhs;whnf
 . first | rfl | assumption
 . conv=>lhs;whnf
 . first | exact h3 | exact h4 | exact h5 | exact h6
|apply zV rfl
 . conv=>lhs;whnf
 . conv=>lhs;whnf
 . first | rfl | assumption
|apply zC rfl
 . conv=>lhs;whnf
 . conv=>lhs;whnf
 . conv=>lhs;whnf;arg 2;whnf
|apply zAN (by kernel_rfl) (by kernel_rfl)
|apply zBl
|apply zBk rfl
 . conv=>lhs;whnf
 . conv=>lhs;whnf;arg 2;whnf
|exact zn
|exact zv
|exact (1000000:Nat)
|refine zL ?_
|refine zN ?_
|refine zP ?_
|refine zJ rfl ?_
|refine zK ?_
|refine zE ?_
|refine ⟨_,by conv=>lhs;whnf;arg 2;whnf,?_⟩;conv=>rhs;whnf
|exact trivial
|intro hg)
     all_goals first
      |(rw [hRK];done)
      |(refine cB ?_
        clear h3 h4 h5 h6 he hn f1
        rw [hRK]
        simp only [z2,z4,z5,z6,y6] at *
        clear z2 z4 z5 z6 y6 hRK
        generalize decide ((d.f 2).l.length=0)=w2 at *
        generalize decide ((d.f 4).l.length=0)=w4 at *
        generalize decide ((d.f 5).l.length=0)=w5 at *
        generalize decide ((d.f 6).l.length=0)=w6 at *
        simp_all
        done)
      |exact (show Tryz.prog.underlying 4=some TypeDesc.bool by kernel_rfl)
      |skip
   . have g1:((d.f 0).n==1)=false:=by simpa using hn.1
     have g2:((d.f 0).n==2)=false:=by simpa using hn.2.1
     have g3:((d.f 0).n==3)=false:=by simpa using hn.2.2.1
     have g4:((d.f 0).n==4)=false:=by simpa using hn.2.2.2.1
     have g5:((d.f 0).n==5)=false:=by simpa using hn.2.2.2.2
     rw [if_neg (by omega),if_neg (by omega),if_neg (by omega),if_neg (by omega),if_neg (by omega)] at hRK
     repeat' (first
|apply zF
 . conv=>lhs;whnf
 . assumption
|refine zA ?_
|refine zB ?_
|refine zH ?_
|refine zW ?_
|apply aw_1
 conv=>whnf
 refine ⟨?_,trivial⟩
|apply s_1
 conv=>whnf;arg 1;arg 4;arg 3;whnf
 refine ⟨?_,?_⟩
|apply zAN (by kernel_rfl) (by kernel_rfl)
|apply zBl
|apply zBk rfl
 . conv=>lhs;whnf
 . conv=>lhs;whnf;arg 2;whnf
|exact zn
|exact zv
|exact (1000000:Nat)
|refine zL ?_
|refine zJ rfl ?_
|refine zK ?_
|refine zE ?_
|refine ⟨_,by conv=>lhs;whnf;arg 2;whnf,?_⟩;conv=>rhs;whnf
|exact trivial)
     all_goals first
      |(rw [hRK];done)
      |(refine cB ?_
        clear h3 h4 h5 h6 he hn f1
        rw [hRK]
        simp only [z2,z4,z5,z6,y6] at *
        clear z2 z4 z5 z6 y6 hRK
        generalize decide ((d.f 2).l.length=0)=w2 at *
        generalize decide ((d.f 4).l.length=0)=w4 at *
        generalize decide ((d.f 5).l.length=0)=w5 at *
        generalize decide ((d.f 6).l.length=0)=w6 at *
        simp_all
        done)
      |exact (show Tryz.prog.underlying 4=some TypeDesc.bool by kernel_rfl)
      |skip
noncomputable def HrFU (d:D) (i:Nat):Vst 28:=stS 28 [(1,.bx 1 0),(3,.c (.int .i64 (i:Int)))] [(1,.box 25 (cellsV Tryz.prog 12 25 d))]
theorem zDa (d:D):AC EN Tryz.prog 15 [.agg (cellsV Tryz.prog 12 25 d)] (.c (.bool (docY litW (d.f 0).l))):=by
 refine zA1 4 (by kernel_rfl) fun hL2 => ?_
 have hl:(d.f 0).l.length<=9223372036854775807:=zHQ hL2
 have hd:=fun i (hi:i<(d.f 0).l.length)=>defFU_ac (gD (d.f 0).l i) (len_im (zHS hL2 i hi))
 clear hL2
 by_cases h0:(d.f 0).l.length=0
 . have f00:decide (((d.f 0).l.length:Int)<1)=true:=decide_eq_true (by omega)
   have K1:(decide (((d.f 0).l.length:Int)<1)==false)=true->False:=fun h=>by rw [f00] at h;cases h
   rw [show docY litW (d.f 0).l=false by unfold docY;rw [decide_eq_false (by omega)];rfl]
   refine zM 28 Tryz.func15 rfl rfl rfl rfl ?_
   intro s w he
   repeat' (first
|exact (K1 ‹_›).elim
|refine zA ?_
|refine zB ?_
|refine zH ?_
|apply aw_1
 conv=>whnf
 refine ⟨?_,trivial⟩
|apply zQ rfl rfl
 . conv=>lhs;whnf
 . conv=>lhs;whnf
 . first | exact bT1 ‹_› | exact bT2 ‹_›
|apply s_1
 conv=>whnf;arg 1;arg 4;arg 3;whnf
 refine ⟨?_,?_⟩
|apply zAF rfl rfl rfl rfl
 . conv=>lhs;whnf;arg 1;whnf
 . rfl
|apply zV rfl
 . conv=>lhs;whnf
 . conv=>lhs;whnf
 . first | rfl | assumption
|apply zC rfl
 . conv=>lhs;whnf
 . conv=>lhs;whnf
 . conv=>lhs;whnf;arg 2;whnf
|refine zN ?_
|refine zE ?_
|refine ⟨_,by conv=>lhs;whnf;arg 2;whnf,?_⟩;conv=>rhs;whnf
|exact trivial
|intro hg)
   all_goals first
    |rfl
    |skip
 have f00:decide (((d.f 0).l.length:Int)<1)=false:=decide_eq_false (by omega)
 have K1:(decide (((d.f 0).l.length:Int)<1)==false)=false->False:=fun h=>by rw [f00] at h;cases h
 by_cases hbig:64<(d.f 0).l.length
 . have f0:decide (((d.f 0).l.length:Int)>64)=true:=decide_eq_true (by omega)
   rw [show docY litW (d.f 0).l=false by unfold docY;rw [decide_eq_false (by omega)];rfl]
   refine zM 28 Tryz.func15 rfl rfl rfl rfl ?_
   intro s w he
   repeat' (first
|apply zG
 . conv=>lhs;whnf
 . assumption
|exact (K1 ‹_›).elim
|refine zA ?_
|refine zB ?_
|refine zH ?_
|apply aw_1
 conv=>whnf
 refine ⟨?_,trivial⟩
|apply zO rfl rfl
 . conv=>lhs;whnf
 . conv=>lhs;whnf
 . first | exact bF1 ‹_› | exact bF2 ‹_›
|apply s_1
 conv=>whnf;arg 1;arg 4;arg 3;whnf
 refine ⟨?_,?_⟩
|apply zAF rfl rfl rfl rfl
 . conv=>lhs;whnf;arg 1;whnf
 . rfl
|apply zD rfl
 . conv=>lhs;whnf
 . conv=>lhs;whnf
 . first | rfl | assumption
 . conv=>lhs;whnf;arg 2;whnf
|apply zC rfl
 . conv=>lhs;whnf
 . conv=>lhs;whnf
 . conv=>lhs;whnf;arg 2;whnf
|refine zN ?_
|refine zE ?_
|refine ⟨_,by conv=>lhs;whnf;arg 2;whnf,?_⟩;conv=>rhs;whnf
|exact trivial
|intro hg)
   all_goals first
    |rfl
    |skip
 have f0:decide (((d.f 0).l.length:Int)>64)=false:=decide_eq_false (by omega)
 have hR:docY litW (d.f 0).l=zAD (defY litW) (d.f 0).l (d.f 0).l.length 0:=by unfold docY;rw [decide_eq_true (by omega),zAv,Bool.true_and]
 generalize docY litW (d.f 0).l=R at hR |-
 refine zM 28 Tryz.func15 rfl rfl rfl rfl ?_
 intro s w he
 repeat' (first
|apply zF
 . conv=>lhs;whnf
 . assumption
|exact (K1 ‹_›).elim
|refine zA ?_
|refine zB ?_
|refine zH ?_
|apply aw_1
 conv=>whnf
 refine ⟨?_,trivial⟩
|apply zO rfl rfl
 . conv=>lhs;whnf
 . conv=>lhs;whnf
 . first | exact bF1 ‹_› | exact bF2 ‹_›
|apply s_1
 conv=>whnf;arg 1;arg 4;arg 3;whnf
 refine ⟨?_,?_⟩
|apply zAF rfl rfl rfl rfl
 . conv=>lhs;whnf;arg 1;whnf
 . rfl
|apply zD rfl
 . conv=>lhs;whnf
 . conv=>lhs;whnf
 . first | rfl | assumption
 . conv=>lhs;whnf;arg 2;whnf
|apply zC rfl
 . conv=>lhs;whnf
 . conv=>lhs;whnf
 . conv=>lhs;whnf;arg 2;whnf
|exact trivial
|intro hg)
 refine zf (fun j st => ∃ i,i+j=(d.f 0).l.length/\R=zAD (defY litW) (d.f 0).l j i/\Sub (cx EN Tryz.prog s w he) st (HrFU d i)) (d.f 0).l.length ⟨0,by omega,hR,Sub.live ⟨rfl,rfl,trivial⟩ ⟨rfl,trivial⟩⟩ ?_
 clear hR f0 f00 K1
 rintro j st ⟨i,hij,hR,hs2⟩
 refine zi hs2 ?_
 clear hs2
 by_cases hi:i<(d.f 0).l.length
 . obtain ⟨j,rfl⟩ : ∃ q,j=q+1:=⟨j-1,by omega⟩
   have f1:decide ((i:Int)<((d.f 0).l.length:Nat))=true:=decide_eq_true (by omega)
   have hR':R=(defY litW (gD (d.f 0).l i)&&zAD (defY litW) (d.f 0).l j (i+1)):=hR
   clear hR
   have hd1:=hd i hi
   repeat' (first
|apply zG
 . conv=>lhs;whnf
 . assumption
|refine zA ?_
|refine zB ?_
|refine zH ?_
|refine zW ?_
|apply aw_1
 conv=>whnf
 refine ⟨?_,trivial⟩
|apply s_1
 conv=>whnf;arg 1;arg 4;arg 3;whnf
 refine ⟨?_,?_⟩
|apply zY rfl
 . conv=>lhs;whnf
 . conv=>lhs;whnf
 . first | exact hd1
|refine ze (by conv=>lhs;whnf) ?_ ?_<;>intro hb
|refine zN ?_
|refine zP ?_
|refine zg ?_
|refine zE ?_
|refine ⟨_,by conv=>lhs;whnf;arg 2;whnf,?_⟩;conv=>rhs;whnf
|exact trivial)
   all_goals first
    |exact zR (by omega)
    |exact zr hi
    |(have e:defY litW (gD (d.f 0).l i)=false:=by simpa using (by assumption:(!defY litW (gD (d.f 0).l i))=true)
      rw [hR',e];rfl)
    |(have e:defY litW (gD (d.f 0).l i)=true:=by simpa using (by assumption:(!defY litW (gD (d.f 0).l i))=false)
      exact zI (j':=j) (by omega) ⟨i+1,by omega,by rw [hR',e,Bool.true_and],Sub.live ⟨rfl,rfl,trivial⟩ ⟨rfl,trivial⟩⟩)
    |skip
 . obtain rfl:j=0:=by omega
   have f1:decide ((i:Int)<((d.f 0).l.length:Nat))=false:=decide_eq_false (by omega)
   repeat' (first
|apply zF
 . conv=>lhs;whnf
 . assumption
|refine zA ?_
|refine zB ?_
|refine zH ?_
|apply aw_1
 conv=>whnf
 refine ⟨?_,trivial⟩
|apply s_1
 conv=>whnf;arg 1;arg 4;arg 3;whnf
 refine ⟨?_,?_⟩
|refine zL ?_
|refine zJ rfl ?_
|refine zK ?_
|refine zE ?_
|refine ⟨_,by conv=>lhs;whnf;arg 2;whnf,?_⟩;conv=>rhs;whnf
|exact trivial)
   rw [hR];rfl
end
section
open Go.RowKit
set_option linter.unusedSectionVars false
attribute [local irreducible] wpList Calls Code.wp
theorem spaces6_ac (s:List UInt8):AC EN5 Tryz.prog 5 [.c (.string (bs s))] (.c (.bool true)):=by
 by_cases hs:4000<s.length
 . exact spaces6Big zDC s hs
 have hs:s.length<=4000:=by omega
 cases hc:scanT s with
 |error x=>exact zJZ zDC s hs hc
 |ok ts =>
  cases hp:parseD s with
  |error x=>exact spaces6Err zDC s hs hc (i:=x.1) (e:=x.2) hp
  |ok q =>
   obtain ⟨ds,rfl,hY,-⟩:=zDg hp
   exact spaces6Ok zDC s hs hc hp hY (zDM (zA2 ds)) (zDa (zA2 ds)).five
theorem rowSpaces6 {W:World} (s:ByteArray) (hs:s.size<=140737488351232) (he:Env W):Calls Tryz.prog 5 #[.string s] W fun e W'=>e = .returned (.bool true)/\Below W.heap.size W W':=by
 have h:=spaces6_ac (tx s)
 rw [bs_tx] at h
 exact zCl h (relL1 (zG7 (by unfold maxLen;omega))) he
end
section
open Go.RowKit
set_option linter.unusedSectionVars false
def wrW (n:Int):Int:=IntKind.i64.wrap n
def stepW (g:Nat->Int->Int):Nat->Nat->Int->Int
 |0,_,n=>n
 |j+1,i,n=>if n<=2000 then stepW g j (i+1) (g i n) else n
theorem zA5 {g:Nat->Int->Int} {j i:Nat} {n R:Int} (h:stepW g (j+1) i n=R) (hn:n<=2000):stepW g j (i+1) (g i n)=R:=by
 rw [<- h];conv=>rhs;unfold stepW
 rw [if_pos hn]
theorem zw {g:Nat->Int->Int} {j i:Nat} {n R:Int} (h:stepW g j i n=R) (hn : ¬ n<=2000\/j=0):n=R:=by
 cases j with
 |zero=>exact h
 |succ j =>
  unfold stepW at h
  rwa [if_neg (hn.resolve_right (by omega))] at h
def weightW:Nat->D->Int
 |0,_=>1
 |k+1,d=>stepW (fun i n=>wrW (n+weightW k (gD (d.f 3).l i))) (d.f 3).l.length 0 (stepW (fun i n=>wrW (wrW (n+1)+((gD (d.f 4).l i).s.size:Int))) (d.f 4).l.length 0 (wrW (1+((d.f 2).s.size:Int))))
def zB1 (d:D):Int:=weightW (bulkD d) d
def dirsWt (l:List D):Int:=stepW (fun i n=>stepW (fun k n=>wrW (wrW (n+1)+zB1 ((gD ((gD l i).f 1).l k).f 1))) ((gD l i).f 1).l.length 0 (wrW (n+1))) l.length 0 0
def insWt (l:List D):Int:=stepW (fun i n=>wrW (wrW (wrW (wrW (n+1)+(((gD l i).f 1).f 1).l.length)+zB1 ((gD l i).f 3))+dirsWt ((gD l i).f 4).l)) l.length 0 0
def fdWt (d:D) (i:Nat) (n:Int):Int:=wrW (wrW (wrW (wrW (n+1)+(((gD (d.f 4).l i).f 2).f 1).l.length)+insWt ((gD (d.f 4).l i).f 1).l)+dirsWt ((gD (d.f 4).l i).f 3).l)
def mbWt (d:D) (i:Nat) (n:Int):Int:=wrW (wrW (n+1)+dirsWt ((gD (d.f 5).l i).f 1).l)
def defWt (d:D) (n:Int):Int:=stepW (mbWt d) (d.f 5).l.length 0 (stepW (fdWt d) (d.f 4).l.length 0 (wrW (wrW (wrW (n+(d.f 2).l.length)+dirsWt (d.f 3).l)+insWt (d.f 6).l)))
def docWt (l:List D):Int:=stepW (fun i n=>defWt (gD l i) n) l.length 0 (l.length:Int)
theorem wr1 {i:Nat} (h:i<9223372036854775807):V.c (.int .i64 (IntKind.i64.wrap ((i:Int)+1)))=V.c (.int .i64 ((i+1:Nat):Int)):=by
 rw [zJO ⟨by omega,by omega⟩];rfl
attribute [local irreducible] wpList Calls Code.wp AW AWo OpOk seqK zm zo loopK endK AC zh Yld Sub
attribute [local irreducible] ACB ACX ACE absLexG YldG absLexH
noncomputable def HW1 (d:D) (n:Int) (i:Nat):Vst 55:=stS 55 [(1,.c (.int .i64 2000)),(2,.bx 2 0),(5,.c (.int .i64 n)),(6,.c (.int .i64 (i:Int)))] [(2,.box 53 (cellsV Tryz.prog 12 53 d))]
noncomputable def HW2 (d:D) (n:Int) (i:Nat):Vst 55:=stS 55 [(1,.c (.int .i64 2000)),(2,.bx 2 0),(5,.c (.int .i64 n)),(7,.c (.int .i64 (i:Int)))] [(2,.box 53 (cellsV Tryz.prog 12 53 d))]
theorem zH0 : ∀ (k:Nat) (d:D),Dp k d->AC EN Tryz.prog 66 [.agg (cellsV Tryz.prog 12 53 d),.c (.int .i64 2000)] (.c (.int .i64 (weightW k d)))
 |0,_,h=>h.elim
 |k+1,d,h=>by
  refine zA1 2 (by kernel_rfl) fun hL => ?_
  have hl3:(d.f 3).l.length<=9223372036854775807:=(zA4 hL).1
  have hl4:(d.f 4).l.length<=9223372036854775807:=(zA4 hL).2
  clear hL
  have ih:=fun i (hi:i<(d.f 3).l.length)=>zH0 k (gD (d.f 3).l i) (h i hi)
  obtain ⟨R,hR⟩ : ∃ R,weightW (k+1) d=R:=⟨_,rfl⟩
  obtain ⟨R1,hR1⟩ : ∃ R,stepW (fun i n=>wrW (wrW (n+1)+((gD (d.f 4).l i).s.size:Int))) (d.f 4).l.length 0 (wrW (1+((d.f 2).s.size:Int)))=R:=⟨_,rfl⟩
  unfold weightW at hR
  rw [hR1] at hR
  have hgoal:weightW (k+1) d=R:=by unfold weightW;rw [hR1,hR]
  rw [hgoal]
  clear hgoal
  refine zM 55 Tryz.func66 rfl rfl rfl rfl ?_
  intro s w he
  repeat' (first
|apply zAz (y:=.tmp _) rfl rfl rfl
 . conv=>lhs;whnf
 . conv=>lhs;whnf
|refine zA ?_
|refine zB ?_
|refine zH ?_
|apply aw_1
 conv=>whnf
 refine ⟨?_,trivial⟩
|apply s_1
 conv=>whnf;arg 1;arg 4;arg 3;whnf
 refine ⟨?_,?_⟩
|apply zAF rfl rfl rfl rfl
 . conv=>lhs;whnf;arg 1;whnf
 . rfl
|exact trivial)
  rotate_left 1
  . exact (show Tryz.prog.underlying 9=some TypeDesc.string by kernel_rfl)
  refine zf (fun j st => ∃ i n,i+j=(d.f 4).l.length/\stepW (fun i n=>wrW (wrW (n+1)+((gD (d.f 4).l i).s.size:Int))) j i n=R1/\Sub (cx EN Tryz.prog s w he) st (HW1 d n i)) (d.f 4).l.length ⟨0,_,by omega,hR1,Sub.live ⟨rfl,rfl,rfl,rfl,trivial⟩ ⟨rfl,trivial⟩⟩ ?_
  rintro j st ⟨i,n,hij,hR1,hs2⟩
  refine zi hs2 ?_
  clear hs2
  have h3:(i<(d.f 4).l.length/\n<=2000)\/(i<(d.f 4).l.length /\ ¬ n<=2000) \/ ¬ i<(d.f 4).l.length:=by omega
  rcases h3 with ⟨hi,hn⟩ | ⟨hi,hn⟩ | hi
  . obtain ⟨j,rfl⟩ : ∃ q,j=q+1:=⟨j-1,by omega⟩
    have f1:decide ((i:Int)<((d.f 4).l.length:Nat))=true:=decide_eq_true (by omega)
    have f2:decide (n<=2000)=true:=decide_eq_true hn
    have K1:(decide ((i:Int)<((d.f 4).l.length:Nat))==true)=false->False:=fun h=>by rw [f1] at h;cases h
    repeat' (first
|apply zAz rfl rfl rfl
 . conv=>lhs;whnf
 . conv=>lhs;whnf
|apply zG
 . conv=>lhs;whnf
 . assumption
|exact (K1 ‹_›).elim
|refine zA ?_
|refine zB ?_
|refine zH ?_
|refine zW ?_
|apply aw_1
 conv=>whnf
 refine ⟨?_,trivial⟩
|apply zQ rfl rfl
 . conv=>lhs;whnf
 . conv=>lhs;whnf
 . first | exact bT1 ‹_› | exact bT2 ‹_›
|apply s_1
 conv=>whnf;arg 1;arg 4;arg 3;whnf
 refine ⟨?_,?_⟩
|apply zD rfl
 . conv=>lhs;whnf
 . conv=>lhs;whnf
 . first | rfl | assumption
 . conv=>lhs;whnf;arg 2;whnf
|apply zC rfl
 . conv=>lhs;whnf
 . conv=>lhs;whnf
 . conv=>lhs;whnf;arg 2;whnf
|exact trivial
|intro hg)
    all_goals first
     |exact (show Tryz.prog.underlying 9=some TypeDesc.string by kernel_rfl)
     |exact zR (by omega)
     |exact zr hi
     |exact zI (j':=j) (by omega) ⟨i+1,_,by omega,zA5 hR1 hn,Sub.live ⟨rfl,rfl,rfl,wr1 (by omega),trivial⟩ ⟨rfl,trivial⟩⟩
     |skip
  all_goals
   have hE:n=R1:=zw hR1 (by first | exact .inl hn | exact .inr (by omega))
   rw [<- hE] at hR
   clear hR1 hE
  . have f1:decide ((i:Int)<((d.f 4).l.length:Nat))=true:=decide_eq_true (by omega)
    have f2:decide (n<=2000)=false:=decide_eq_false hn
    have K1:(decide ((i:Int)<((d.f 4).l.length:Nat))==true)=false->False:=fun h=>by rw [f1] at h;cases h
    repeat' (first
|apply zF
 . conv=>lhs;whnf
 . assumption
|exact (K1 ‹_›).elim
|refine zA ?_
|refine zB ?_
|refine zH ?_
|apply aw_1
 conv=>whnf
 refine ⟨?_,trivial⟩
|apply zQ rfl rfl
 . conv=>lhs;whnf
 . conv=>lhs;whnf
 . first | exact bT1 ‹_› | exact bT2 ‹_›
|apply s_1
 conv=>whnf;arg 1;arg 4;arg 3;whnf
 refine ⟨?_,?_⟩
|apply zD rfl
 . conv=>lhs;whnf
 . conv=>lhs;whnf
 . first | rfl | assumption
 . conv=>lhs;whnf;arg 2;whnf
|apply zC rfl
 . conv=>lhs;whnf
 . conv=>lhs;whnf
 . conv=>lhs;whnf;arg 2;whnf
|refine zL ?_
|refine zJ rfl ?_
|refine zK ?_
|exact trivial
|intro hg)
    clear K1 f1
    refine zf (fun j st => ∃ i m,i+j=(d.f 3).l.length/\stepW (fun i n=>wrW (n+weightW k (gD (d.f 3).l i))) j i m=R/\Sub (cx EN Tryz.prog s w he) st (HW2 d m i)) (d.f 3).l.length ⟨0,_,by omega,hR,Sub.live ⟨rfl,rfl,rfl,rfl,trivial⟩ ⟨rfl,trivial⟩⟩ ?_
    clear hR
    rintro j2 st2 ⟨i2,m,hij2,hR,hs3⟩
    refine zi hs3 ?_
    clear hs3
    have h4:(i2<(d.f 3).l.length/\m<=2000)\/(i2<(d.f 3).l.length /\ ¬ m<=2000) \/ ¬ i2<(d.f 3).l.length:=by omega
    rcases h4 with ⟨hi2,hm⟩ | ⟨hi2,hm⟩ | hi2
    . obtain ⟨j2,rfl⟩ : ∃ q,j2=q+1:=⟨j2-1,by omega⟩
      have g1:decide ((i2:Int)<((d.f 3).l.length:Nat))=true:=decide_eq_true (by omega)
      have g2:decide (m<=2000)=true:=decide_eq_true hm
      have K2:(decide ((i2:Int)<((d.f 3).l.length:Nat))==true)=false->False:=fun h=>by rw [g1] at h;cases h
      have ih2:=ih i2 hi2
      repeat' (first
|apply zAz (y:=.tmp _) rfl rfl rfl
 . conv=>lhs;whnf
 . conv=>lhs;whnf
|apply zG
 . conv=>lhs;whnf
 . assumption
|exact (K2 ‹_›).elim
|refine zA ?_
|refine zB ?_
|refine zH ?_
|refine zW ?_
|apply aw_1
 conv=>whnf
 refine ⟨?_,trivial⟩
|apply zQ rfl rfl
 . conv=>lhs;whnf
 . conv=>lhs;whnf
 . first | exact bT1 ‹_› | exact bT2 ‹_›
|apply s_1
 conv=>whnf;arg 1;arg 4;arg 3;whnf
 refine ⟨?_,?_⟩
|apply zY rfl
 . conv=>lhs;whnf
 . conv=>lhs;whnf
 . first | exact ih2
|apply zD rfl
 . conv=>lhs;whnf
 . conv=>lhs;whnf
 . first | rfl | assumption
 . conv=>lhs;whnf;arg 2;whnf
|apply zC rfl
 . conv=>lhs;whnf
 . conv=>lhs;whnf
 . conv=>lhs;whnf;arg 2;whnf
|exact trivial
|intro hg)
      all_goals first
       |exact zR (by omega)
       |exact zr hi2
       |exact zI (j':=j2) (by omega) ⟨i2+1,_,by omega,zA5 hR hm,Sub.live ⟨rfl,rfl,rfl,rfl,trivial⟩ ⟨rfl,trivial⟩⟩
       |skip
    . have g1:decide ((i2:Int)<((d.f 3).l.length:Nat))=true:=decide_eq_true (by omega)
      have g2:decide (m<=2000)=false:=decide_eq_false hm
      have K2:(decide ((i2:Int)<((d.f 3).l.length:Nat))==true)=false->False:=fun h=>by rw [g1] at h;cases h
      repeat' (first
|apply zF
 . conv=>lhs;whnf
 . assumption
|exact (K2 ‹_›).elim
|refine zA ?_
|refine zB ?_
|refine zH ?_
|apply aw_1
 conv=>whnf
 refine ⟨?_,trivial⟩
|apply zQ rfl rfl
 . conv=>lhs;whnf
 . conv=>lhs;whnf
 . first | exact bT1 ‹_› | exact bT2 ‹_›
|apply s_1
 conv=>whnf;arg 1;arg 4;arg 3;whnf
 refine ⟨?_,?_⟩
|apply zD rfl
 . conv=>lhs;whnf
 . conv=>lhs;whnf
 . first | rfl | assumption
 . conv=>lhs;whnf;arg 2;whnf
|apply zC rfl
 . conv=>lhs;whnf
 . conv=>lhs;whnf
 . conv=>lhs;whnf;arg 2;whnf
|refine zL ?_
|refine zJ rfl ?_
|refine zK ?_
|refine zE ?_
|refine ⟨_,by conv=>lhs;whnf;arg 2;whnf,?_⟩;conv=>rhs;whnf
|exact trivial
|intro hg)
      all_goals first
       |(rw [zw hR (.inl hm)];done)
       |skip
    . have g1:decide ((i2:Int)<((d.f 3).l.length:Nat))=false:=decide_eq_false (by omega)
      have K2:(decide ((i2:Int)<((d.f 3).l.length:Nat))==true)=true->False:=fun h=>by rw [g1] at h;cases h
      repeat' (first
|exact (K2 ‹_›).elim
|refine zA ?_
|refine zB ?_
|refine zH ?_
|apply aw_1
 conv=>whnf
 refine ⟨?_,trivial⟩
|apply zO rfl rfl
 . conv=>lhs;whnf
 . conv=>lhs;whnf
 . first | exact bF1 ‹_› | exact bF2 ‹_›
|apply s_1
 conv=>whnf;arg 1;arg 4;arg 3;whnf
 refine ⟨?_,?_⟩
|apply zV rfl
 . conv=>lhs;whnf
 . conv=>lhs;whnf
 . first | rfl | assumption
|apply zC rfl
 . conv=>lhs;whnf
 . conv=>lhs;whnf
 . conv=>lhs;whnf;arg 2;whnf
|refine zL ?_
|refine zJ rfl ?_
|refine zK ?_
|refine zE ?_
|refine ⟨_,by conv=>lhs;whnf;arg 2;whnf,?_⟩;conv=>rhs;whnf
|exact trivial
|intro hg)
      all_goals first
       |(rw [zw hR (.inr (by omega))];done)
       |skip
  . have f1:decide ((i:Int)<((d.f 4).l.length:Nat))=false:=decide_eq_false (by omega)
    have K1:(decide ((i:Int)<((d.f 4).l.length:Nat))==true)=true->False:=fun h=>by rw [f1] at h;cases h
    repeat' (first
|exact (K1 ‹_›).elim
|refine zA ?_
|refine zB ?_
|refine zH ?_
|apply aw_1
 conv=>whnf
 refine ⟨?_,trivial⟩
|apply zO rfl rfl
 . conv=>lhs;whnf
 . conv=>lhs;whnf
 . first | exact bF1 ‹_› | exact bF2 ‹_›
|apply s_1
 conv=>whnf;arg 1;arg 4;arg 3;whnf
 refine ⟨?_,?_⟩
|apply zV rfl
 . conv=>lhs;whnf
 . conv=>lhs;whnf
 . first | rfl | assumption
|apply zC rfl
 . conv=>lhs;whnf
 . conv=>lhs;whnf
 . conv=>lhs;whnf;arg 2;whnf
|refine zL ?_
|refine zJ rfl ?_
|refine zK ?_
|exact trivial
|intro hg)
    clear K1 f1
    refine zf (fun j st => ∃ i m,i+j=(d.f 3).l.length/\stepW (fun i n=>wrW (n+weightW k (gD (d.f 3).l i))) j i m=R/\Sub (cx EN Tryz.prog s w he) st (HW2 d m i)) (d.f 3).l.length ⟨0,_,by omega,hR,Sub.live ⟨rfl,rfl,rfl,rfl,trivial⟩ ⟨rfl,trivial⟩⟩ ?_
    clear hR
    rintro j2 st2 ⟨i2,m,hij2,hR,hs3⟩
    refine zi hs3 ?_
    clear hs3
    have h4:(i2<(d.f 3).l.length/\m<=2000)\/(i2<(d.f 3).l.length /\ ¬ m<=2000) \/ ¬ i2<(d.f 3).l.length:=by omega
    rcases h4 with ⟨hi2,hm⟩ | ⟨hi2,hm⟩ | hi2
    . obtain ⟨j2,rfl⟩ : ∃ q,j2=q+1:=⟨j2-1,by omega⟩
      have g1:decide ((i2:Int)<((d.f 3).l.length:Nat))=true:=decide_eq_true (by omega)
      have g2:decide (m<=2000)=true:=decide_eq_true hm
      have K2:(decide ((i2:Int)<((d.f 3).l.length:Nat))==true)=false->False:=fun h=>by rw [g1] at h;cases h
      have ih2:=ih i2 hi2
      repeat' (first
|apply zAz (y:=.tmp _) rfl rfl rfl
 . conv=>lhs;whnf
 . conv=>lhs;whnf
|apply zG
 . conv=>lhs;whnf
 . assumption
|exact (K2 ‹_›).elim
|refine zA ?_
|refine zB ?_
|refine zH ?_
|refine zW ?_
|apply aw_1
 conv=>whnf
 refine ⟨?_,trivial⟩
|apply zQ rfl rfl
 . conv=>lhs;whnf
 . conv=>lhs;whnf
 . first | exact bT1 ‹_› | exact bT2 ‹_›
|apply s_1
 conv=>whnf;arg 1;arg 4;arg 3;whnf
 refine ⟨?_,?_⟩
|apply zY rfl
 . conv=>lhs;whnf
 . conv=>lhs;whnf
 . first | exact ih2
|apply zD rfl
 . conv=>lhs;whnf
 . conv=>lhs;whnf
 . first | rfl | assumption
 . conv=>lhs;whnf;arg 2;whnf
|apply zC rfl
 . conv=>lhs;whnf
 . conv=>lhs;whnf
 . conv=>lhs;whnf;arg 2;whnf
|exact trivial
|intro hg)
      all_goals first
       |exact zR (by omega)
       |exact zr hi2
       |exact zI (j':=j2) (by omega) ⟨i2+1,_,by omega,zA5 hR hm,Sub.live ⟨rfl,rfl,rfl,rfl,trivial⟩ ⟨rfl,trivial⟩⟩
       |skip
    . have g1:decide ((i2:Int)<((d.f 3).l.length:Nat))=true:=decide_eq_true (by omega)
      have g2:decide (m<=2000)=false:=decide_eq_false hm
      have K2:(decide ((i2:Int)<((d.f 3).l.length:Nat))==true)=false->False:=fun h=>by rw [g1] at h;cases h
      repeat' (first
|apply zF
 . conv=>lhs;whnf
 . assumption
|exact (K2 ‹_›).elim
|refine zA ?_
|refine zB ?_
|refine zH ?_
|apply aw_1
 conv=>whnf
 refine ⟨?_,trivial⟩
|apply zQ rfl rfl
 . conv=>lhs;whnf
 . conv=>lhs;whnf
 . first | exact bT1 ‹_› | exact bT2 ‹_›
|apply s_1
 conv=>whnf;arg 1;arg 4;arg 3;whnf
 refine ⟨?_,?_⟩
|apply zD rfl
 . conv=>lhs;whnf
 . conv=>lhs;whnf
 . first | rfl | assumption
 . conv=>lhs;whnf;arg 2;whnf
|apply zC rfl
 . conv=>lhs;whnf
 . conv=>lhs;whnf
 . conv=>lhs;whnf;arg 2;whnf
|refine zL ?_
|refine zJ rfl ?_
|refine zK ?_
|refine zE ?_
|refine ⟨_,by conv=>lhs;whnf;arg 2;whnf,?_⟩;conv=>rhs;whnf
|exact trivial
|intro hg)
      all_goals first
       |(rw [zw hR (.inl hm)];done)
       |skip
    . have g1:decide ((i2:Int)<((d.f 3).l.length:Nat))=false:=decide_eq_false (by omega)
      have K2:(decide ((i2:Int)<((d.f 3).l.length:Nat))==true)=true->False:=fun h=>by rw [g1] at h;cases h
      repeat' (first
|exact (K2 ‹_›).elim
|refine zA ?_
|refine zB ?_
|refine zH ?_
|apply aw_1
 conv=>whnf
 refine ⟨?_,trivial⟩
|apply zO rfl rfl
 . conv=>lhs;whnf
 . conv=>lhs;whnf
 . first | exact bF1 ‹_› | exact bF2 ‹_›
|apply s_1
 conv=>whnf;arg 1;arg 4;arg 3;whnf
 refine ⟨?_,?_⟩
|apply zV rfl
 . conv=>lhs;whnf
 . conv=>lhs;whnf
 . first | rfl | assumption
|apply zC rfl
 . conv=>lhs;whnf
 . conv=>lhs;whnf
 . conv=>lhs;whnf;arg 2;whnf
|refine zL ?_
|refine zJ rfl ?_
|refine zK ?_
|refine zE ?_
|refine ⟨_,by conv=>lhs;whnf;arg 2;whnf,?_⟩;conv=>rhs;whnf
|exact trivial
|intro hg)
      all_goals first
       |(rw [zw hR (.inr (by omega))];done)
       |skip
theorem zF5 (d:D):AC EN Tryz.prog 66 [.agg (cellsV Tryz.prog 12 53 d),.c (.int .i64 2000)] (.c (.int .i64 (zB1 d))):=zH0 _ d (zBY (bulkD d) d (Nat.le_refl _))
noncomputable def HWd (l:List D) (n:Int) (i:Nat):Vst 51:=stS 51 [(0,.sl 108 l),(1,.c (.int .i64 2000)),(5,.c (.int .i64 n)),(6,.c (.int .i64 (i:Int)))] []
noncomputable def HWe (l:List D) (n:Int) (i k:Nat):Vst 51:=stS 51 [(0,.sl 108 l),(1,.c (.int .i64 2000)),(5,.c (.int .i64 n)),(6,.c (.int .i64 (i:Int))),(7,.c (.int .i64 (k:Int)))] []
theorem zCj (l:List D):AC EN Tryz.prog 32 [.sl 108 l,.c (.int .i64 2000)] (.c (.int .i64 (dirsWt l))):=by
 refine zC7 2 fun hL2 => ?_
 have hl:l.length<=9223372036854775807:=hL2.1
 have hla : ∀ i,i<l.length->((gD l i).f 1).l.length<=9223372036854775807:=fun i hi=>zHR (hL2.2 (by decide +kernel) i hi)
 clear hL2
 obtain ⟨R,hR⟩ : ∃ R,dirsWt l=R:=⟨_,rfl⟩
 rw [hR]
 unfold dirsWt at hR
 refine zM 51 Tryz.func32 rfl rfl rfl rfl ?_
 intro s w he
 repeat' (first
|refine zA ?_
|refine zB ?_
|refine zH ?_
|apply aw_1
 conv=>whnf
 refine ⟨?_,trivial⟩
|apply s_1
 conv=>whnf;arg 1;arg 4;arg 3;whnf
 refine ⟨?_,?_⟩
|exact trivial)
 refine zf (fun j st => ∃ i n,i+j=l.length/\stepW (fun i n=>stepW (fun k n=>wrW (wrW (n+1)+zB1 ((gD ((gD l i).f 1).l k).f 1))) ((gD l i).f 1).l.length 0 (wrW (n+1))) j i n=R/\Sub (cx EN Tryz.prog s w he) st (HWd l n i)) l.length ⟨0,_,by omega,hR,Sub.live ⟨rfl,rfl,rfl,rfl,trivial⟩ trivial⟩ ?_
 clear hR
 rintro j st ⟨i,n,hij,hR,hs2⟩
 refine zi hs2 ?_
 clear hs2
 have h3:(i<l.length/\n<=2000)\/(i<l.length /\ ¬ n<=2000) \/ ¬ i<l.length:=by omega
 rcases h3 with ⟨hi,hn⟩ | ⟨hi,hn⟩ | hi
 . obtain ⟨j,rfl⟩ : ∃ q,j=q+1:=⟨j-1,by omega⟩
   have f1:decide ((i:Int)<(l.length:Nat))=true:=decide_eq_true (by omega)
   have f2:decide (n<=2000)=true:=decide_eq_true hn
   have K1:(decide ((i:Int)<(l.length:Nat))==true)=false->False:=fun h=>by rw [f1] at h;cases h
   have hR:=zA5 hR hn
   obtain ⟨R1,hR1⟩ : ∃ R,stepW (fun k n=>wrW (wrW (n+1)+zB1 ((gD ((gD l i).f 1).l k).f 1))) ((gD l i).f 1).l.length 0 (wrW (n+1))=R:=⟨_,rfl⟩
   try dsimp only at hR
   rw [hR1] at hR
   have ha:=hla i hi
   repeat' (first
|apply zAz rfl rfl rfl
 . conv=>lhs;whnf
 . conv=>lhs;whnf
|apply zG
 . conv=>lhs;whnf
 . assumption
|exact (K1 ‹_›).elim
|refine zA ?_
|refine zB ?_
|refine zH ?_
|apply aw_1
 conv=>whnf
 refine ⟨?_,trivial⟩
|apply zQ rfl rfl
 . conv=>lhs;whnf
 . conv=>lhs;whnf
 . first | exact bT1 ‹_› | exact bT2 ‹_›
|apply s_1
 conv=>whnf;arg 1;arg 4;arg 3;whnf
 refine ⟨?_,?_⟩
|apply zD rfl
 . conv=>lhs;whnf
 . conv=>lhs;whnf
 . first | rfl | assumption
 . conv=>lhs;whnf;arg 2;whnf
|apply zC rfl
 . conv=>lhs;whnf
 . conv=>lhs;whnf
 . conv=>lhs;whnf;arg 2;whnf
|exact trivial
|intro hg)
   all_goals first
    |exact zR (by omega)
    |exact zr hi
    |skip
   clear K1 f2
   refine zf (fun jj st => ∃ k m,k+jj=((gD l i).f 1).l.length/\stepW (fun k n=>wrW (wrW (n+1)+zB1 ((gD ((gD l i).f 1).l k).f 1))) jj k m=R1/\Sub (cx EN Tryz.prog s w he) st (HWe l m i k)) ((gD l i).f 1).l.length ⟨0,_,by omega,hR1,Sub.live ⟨rfl,rfl,rfl,rfl,rfl,trivial⟩ trivial⟩ ?_
   rintro jj st2 ⟨k,m,hkj,hR1,hs3⟩
   refine zi hs3 ?_
   clear hs3
   have h4:(k<((gD l i).f 1).l.length/\m<=2000)\/(k<((gD l i).f 1).l.length /\ ¬ m<=2000) \/ ¬ k<((gD l i).f 1).l.length:=by omega
   rcases h4 with ⟨hk,hm⟩ | ⟨hk,hm⟩ | hk
   . obtain ⟨jj,rfl⟩ : ∃ q,jj=q+1:=⟨jj-1,by omega⟩
     have g1:decide ((k:Int)<(((gD l i).f 1).l.length:Nat))=true:=decide_eq_true (by omega)
     have g2:decide (m<=2000)=true:=decide_eq_true hm
     have K2:(decide ((k:Int)<(((gD l i).f 1).l.length:Nat))==true)=false->False:=fun h=>by rw [g1] at h;cases h
     have hw:=zF5 ((gD ((gD l i).f 1).l k).f 1)
     repeat' (first
|apply zAz rfl rfl rfl
 . conv=>lhs;whnf
 . conv=>lhs;whnf
|apply zG
 . conv=>lhs;whnf
 . assumption
|exact (K2 ‹_›).elim
|refine zA ?_
|refine zB ?_
|refine zH ?_
|refine zW ?_
|apply aw_1
 conv=>whnf
 refine ⟨?_,trivial⟩
|apply zQ rfl rfl
 . conv=>lhs;whnf
 . conv=>lhs;whnf
 . first | exact bT1 ‹_› | exact bT2 ‹_›
|apply s_1
 conv=>whnf;arg 1;arg 4;arg 3;whnf
 refine ⟨?_,?_⟩
|apply zY rfl
 . conv=>lhs;whnf
 . conv=>lhs;whnf
 . first | exact hw
|apply zD rfl
 . conv=>lhs;whnf
 . conv=>lhs;whnf
 . first | rfl | assumption
 . conv=>lhs;whnf;arg 2;whnf
|apply zC rfl
 . conv=>lhs;whnf
 . conv=>lhs;whnf
 . conv=>lhs;whnf;arg 2;whnf
|exact trivial
|intro hg)
     all_goals first
      |exact zR (by omega)
      |exact zr hi
      |exact zr hk
      |exact zI (j':=jj) (by omega) ⟨k+1,_,by omega,zA5 hR1 hm,Sub.live ⟨rfl,rfl,rfl,rfl,wr1 (by omega),trivial⟩ trivial⟩
      |skip
   . have g1:decide ((k:Int)<(((gD l i).f 1).l.length:Nat))=true:=decide_eq_true (by omega)
     have g2:decide (m<=2000)=false:=decide_eq_false hm
     have K2:(decide ((k:Int)<(((gD l i).f 1).l.length:Nat))==true)=false->False:=fun h=>by rw [g1] at h;cases h
     repeat' (first
|apply zF
 . conv=>lhs;whnf
 . assumption
|exact (K2 ‹_›).elim
|refine zA ?_
|refine zB ?_
|refine zH ?_
|refine zW ?_
|apply aw_1
 conv=>whnf
 refine ⟨?_,trivial⟩
|apply zQ rfl rfl
 . conv=>lhs;whnf
 . conv=>lhs;whnf
 . first | exact bT1 ‹_› | exact bT2 ‹_›
|apply s_1
 conv=>whnf;arg 1;arg 4;arg 3;whnf
 refine ⟨?_,?_⟩
|apply zD rfl
 . conv=>lhs;whnf
 . conv=>lhs;whnf
 . first | rfl | assumption
 . conv=>lhs;whnf;arg 2;whnf
|apply zC rfl
 . conv=>lhs;whnf
 . conv=>lhs;whnf
 . conv=>lhs;whnf;arg 2;whnf
|refine zL ?_
|refine zJ rfl ?_
|refine zK ?_
|exact trivial
|intro hg)
     all_goals first
      |exact zR (by omega)
      |exact zr hi
      |exact zI (j':=j) (by omega) ⟨i+1,R1,by omega,hR,Sub.live ⟨rfl,rfl,(by rw [<- zw hR1 (.inl hm)];rfl),rfl,trivial⟩ trivial⟩
      |skip
   . have g1:decide ((k:Int)<(((gD l i).f 1).l.length:Nat))=false:=decide_eq_false (by omega)
     have K2:(decide ((k:Int)<(((gD l i).f 1).l.length:Nat))==true)=true->False:=fun h=>by rw [g1] at h;cases h
     repeat' (first
|exact (K2 ‹_›).elim
|refine zA ?_
|refine zB ?_
|refine zH ?_
|refine zW ?_
|apply aw_1
 conv=>whnf
 refine ⟨?_,trivial⟩
|apply zO rfl rfl
 . conv=>lhs;whnf
 . conv=>lhs;whnf
 . first | exact bF1 ‹_› | exact bF2 ‹_›
|apply s_1
 conv=>whnf;arg 1;arg 4;arg 3;whnf
 refine ⟨?_,?_⟩
|apply zV rfl
 . conv=>lhs;whnf
 . conv=>lhs;whnf
 . first | rfl | assumption
|apply zC rfl
 . conv=>lhs;whnf
 . conv=>lhs;whnf
 . conv=>lhs;whnf;arg 2;whnf
|refine zL ?_
|refine zJ rfl ?_
|refine zK ?_
|exact trivial
|intro hg)
     all_goals first
      |exact zR (by omega)
      |exact zr hi
      |exact zI (j':=j) (by omega) ⟨i+1,R1,by omega,hR,Sub.live ⟨rfl,rfl,(by rw [<- zw hR1 (.inr (by omega))];rfl),rfl,trivial⟩ trivial⟩
      |skip
 . have f1:decide ((i:Int)<(l.length:Nat))=true:=decide_eq_true (by omega)
   have f2:decide (n<=2000)=false:=decide_eq_false hn
   have K1:(decide ((i:Int)<(l.length:Nat))==true)=false->False:=fun h=>by rw [f1] at h;cases h
   repeat' (first
|apply zF
 . conv=>lhs;whnf
 . assumption
|exact (K1 ‹_›).elim
|refine zA ?_
|refine zB ?_
|refine zH ?_
|apply aw_1
 conv=>whnf
 refine ⟨?_,trivial⟩
|apply zQ rfl rfl
 . conv=>lhs;whnf
 . conv=>lhs;whnf
 . first | exact bT1 ‹_› | exact bT2 ‹_›
|apply s_1
 conv=>whnf;arg 1;arg 4;arg 3;whnf
 refine ⟨?_,?_⟩
|apply zD rfl
 . conv=>lhs;whnf
 . conv=>lhs;whnf
 . first | rfl | assumption
 . conv=>lhs;whnf;arg 2;whnf
|apply zC rfl
 . conv=>lhs;whnf
 . conv=>lhs;whnf
 . conv=>lhs;whnf;arg 2;whnf
|refine zL ?_
|refine zJ rfl ?_
|refine zK ?_
|refine zE ?_
|refine ⟨_,by conv=>lhs;whnf;arg 2;whnf,?_⟩;conv=>rhs;whnf
|exact trivial
|intro hg)
   all_goals first
    |(rw [zw hR (.inl hn)];done)
    |skip
 . have f1:decide ((i:Int)<(l.length:Nat))=false:=decide_eq_false (by omega)
   have K1:(decide ((i:Int)<(l.length:Nat))==true)=true->False:=fun h=>by rw [f1] at h;cases h
   repeat' (first
|exact (K1 ‹_›).elim
|refine zA ?_
|refine zB ?_
|refine zH ?_
|apply aw_1
 conv=>whnf
 refine ⟨?_,trivial⟩
|apply zO rfl rfl
 . conv=>lhs;whnf
 . conv=>lhs;whnf
 . first | exact bF1 ‹_› | exact bF2 ‹_›
|apply s_1
 conv=>whnf;arg 1;arg 4;arg 3;whnf
 refine ⟨?_,?_⟩
|apply zV rfl
 . conv=>lhs;whnf
 . conv=>lhs;whnf
 . first | rfl | assumption
|apply zC rfl
 . conv=>lhs;whnf
 . conv=>lhs;whnf
 . conv=>lhs;whnf;arg 2;whnf
|refine zL ?_
|refine zJ rfl ?_
|refine zK ?_
|refine zE ?_
|refine ⟨_,by conv=>lhs;whnf;arg 2;whnf,?_⟩;conv=>rhs;whnf
|exact trivial
|intro hg)
   all_goals first
    |(rw [zw hR (.inr (by omega))];done)
    |skip
noncomputable def HWi (l:List D) (n:Int) (i:Nat):Vst 45:=stS 45 [(0,.sl 55 l),(1,.c (.int .i64 2000)),(5,.c (.int .i64 n)),(6,.c (.int .i64 (i:Int)))] []
theorem zK0 (l:List D):AC EN Tryz.prog 33 [.sl 55 l,.c (.int .i64 2000)] (.c (.int .i64 (insWt l))):=by
 refine zC7 1 fun hL2 => ?_
 have hl:l.length<=9223372036854775807:=hL2.1
 clear hL2
 obtain ⟨R,hR⟩ : ∃ R,insWt l=R:=⟨_,rfl⟩
 rw [hR]
 unfold insWt at hR
 refine zM 45 Tryz.func33 rfl rfl rfl rfl ?_
 intro s w he
 repeat' (first
|refine zA ?_
|refine zB ?_
|refine zH ?_
|apply aw_1
 conv=>whnf
 refine ⟨?_,trivial⟩
|apply s_1
 conv=>whnf;arg 1;arg 4;arg 3;whnf
 refine ⟨?_,?_⟩
|exact trivial)
 refine zf (fun j st => ∃ i n,i+j=l.length/\stepW (fun i n=>wrW (wrW (wrW (wrW (n+1)+(((gD l i).f 1).f 1).l.length)+zB1 ((gD l i).f 3))+dirsWt ((gD l i).f 4).l)) j i n=R/\Sub (cx EN Tryz.prog s w he) st (HWi l n i)) l.length ⟨0,_,by omega,hR,Sub.live ⟨rfl,rfl,rfl,rfl,trivial⟩ trivial⟩ ?_
 clear hR
 rintro j st ⟨i,n,hij,hR,hs2⟩
 refine zi hs2 ?_
 clear hs2
 have h3:(i<l.length/\n<=2000)\/(i<l.length /\ ¬ n<=2000) \/ ¬ i<l.length:=by omega
 rcases h3 with ⟨hi,hn⟩ | ⟨hi,hn⟩ | hi
 . obtain ⟨j,rfl⟩ : ∃ q,j=q+1:=⟨j-1,by omega⟩
   have f1:decide ((i:Int)<(l.length:Nat))=true:=decide_eq_true (by omega)
   have f2:decide (n<=2000)=true:=decide_eq_true hn
   have K1:(decide ((i:Int)<(l.length:Nat))==true)=false->False:=fun h=>by rw [f1] at h;cases h
   have hw:=zF5 ((gD l i).f 3)
   have hd:=zCj ((gD l i).f 4).l
   repeat' (first
|apply zAz rfl rfl rfl
 . conv=>lhs;whnf
 . conv=>lhs;whnf
|apply y_addW rfl rfl rfl
 . conv=>lhs;whnf
 . conv=>lhs;whnf
|apply zG
 . conv=>lhs;whnf
 . assumption
|exact (K1 ‹_›).elim
|refine zA ?_
|refine zB ?_
|refine zH ?_
|refine zW ?_
|apply aw_1
 conv=>whnf
 refine ⟨?_,trivial⟩
|apply zQ rfl rfl
 . conv=>lhs;whnf
 . conv=>lhs;whnf
 . first | exact bT1 ‹_› | exact bT2 ‹_›
|apply s_1
 conv=>whnf;arg 1;arg 4;arg 3;whnf
 refine ⟨?_,?_⟩
|apply zD rfl
 . conv=>lhs;whnf
 . conv=>lhs;whnf
 . first | rfl | assumption
 . conv=>lhs;whnf;arg 2;whnf
|apply zC rfl
 . conv=>lhs;whnf
 . conv=>lhs;whnf
 . conv=>lhs;whnf;arg 2;whnf
|apply zAN (by kernel_rfl) (by kernel_rfl)
|apply zBl
|apply zBk rfl
 . conv=>lhs;whnf
 . conv=>lhs;whnf;arg 2;whnf
|apply zF1 rfl
 . conv=>lhs;whnf
 . conv=>lhs;whnf
 . first | exact hw | exact hd
|exact zn
|exact zv
|exact (1000000:Nat)
|exact trivial
|intro hg)
   all_goals first
    |exact zR (by omega)
    |exact zr hi
    |exact zI (j':=j) (by omega) ⟨i+1,_,by omega,zA5 hR hn,Sub.live ⟨rfl,rfl,rfl,wr1 (by omega),trivial⟩ trivial⟩
    |skip
 . have f1:decide ((i:Int)<(l.length:Nat))=true:=decide_eq_true (by omega)
   have f2:decide (n<=2000)=false:=decide_eq_false hn
   have K1:(decide ((i:Int)<(l.length:Nat))==true)=false->False:=fun h=>by rw [f1] at h;cases h
   repeat' (first
|apply zF
 . conv=>lhs;whnf
 . assumption
|exact (K1 ‹_›).elim
|refine zA ?_
|refine zB ?_
|refine zH ?_
|apply aw_1
 conv=>whnf
 refine ⟨?_,trivial⟩
|apply zQ rfl rfl
 . conv=>lhs;whnf
 . conv=>lhs;whnf
 . first | exact bT1 ‹_› | exact bT2 ‹_›
|apply s_1
 conv=>whnf;arg 1;arg 4;arg 3;whnf
 refine ⟨?_,?_⟩
|apply zD rfl
 . conv=>lhs;whnf
 . conv=>lhs;whnf
 . first | rfl | assumption
 . conv=>lhs;whnf;arg 2;whnf
|apply zC rfl
 . conv=>lhs;whnf
 . conv=>lhs;whnf
 . conv=>lhs;whnf;arg 2;whnf
|refine zL ?_
|refine zJ rfl ?_
|refine zK ?_
|refine zE ?_
|refine ⟨_,by conv=>lhs;whnf;arg 2;whnf,?_⟩;conv=>rhs;whnf
|exact trivial
|intro hg)
   all_goals first
    |(rw [zw hR (.inl hn)];done)
    |skip
 . have f1:decide ((i:Int)<(l.length:Nat))=false:=decide_eq_false (by omega)
   have K1:(decide ((i:Int)<(l.length:Nat))==true)=true->False:=fun h=>by rw [f1] at h;cases h
   repeat' (first
|exact (K1 ‹_›).elim
|refine zA ?_
|refine zB ?_
|refine zH ?_
|apply aw_1
 conv=>whnf
 refine ⟨?_,trivial⟩
|apply zO rfl rfl
 . conv=>lhs;whnf
 . conv=>lhs;whnf
 . first | exact bF1 ‹_› | exact bF2 ‹_›
|apply s_1
 conv=>whnf;arg 1;arg 4;arg 3;whnf
 refine ⟨?_,?_⟩
|apply zV rfl
 . conv=>lhs;whnf
 . conv=>lhs;whnf
 . first | rfl | assumption
|apply zC rfl
 . conv=>lhs;whnf
 . conv=>lhs;whnf
 . conv=>lhs;whnf;arg 2;whnf
|refine zL ?_
|refine zJ rfl ?_
|refine zK ?_
|refine zE ?_
|refine ⟨_,by conv=>lhs;whnf;arg 2;whnf,?_⟩;conv=>rhs;whnf
|exact trivial
|intro hg)
   all_goals first
    |(rw [zw hR (.inr (by omega))];done)
    |skip
end
section
open Go.RowKit
set_option linter.unusedSectionVars false
theorem len_fdm {n:Nat} {d:D} (h:LenT Tryz.prog (n+2) 45 d):(d.f 4).l.length<=maxLen/\(d.f 5).l.length<=maxLen:=
 ⟨(LenT.lst (t:=41) (e:=50) (by kernel_rfl) (LenT.fld 4 (fs:=Tryz.prog.fieldsOf 45) (f:=(Tryz.prog.fieldsOf 45)[4]!) (by kernel_rfl) (by kernel_rfl) h)).1,
  (LenT.lst (t:=42) (e:=79) (by kernel_rfl) (LenT.fld 5 (fs:=Tryz.prog.fieldsOf 45) (f:=(Tryz.prog.fieldsOf 45)[5]!) (by kernel_rfl) (by kernel_rfl) h)).1⟩
attribute [local irreducible] wpList Calls Code.wp AW AWo OpOk seqK zm zo loopK endK AC zh Yld Sub
attribute [local irreducible] ACB ACX ACE absLexG YldG absLexH
noncomputable def HWo (d:D) (n:Int) (i:Nat):Vst 110:=stS 110 [(1,.c (.int .i64 2000)),(2,.bx 2 0),(5,.c (.int .i64 n)),(6,.c (.int .i64 (i:Int)))] [(2,.box 25 (cellsV Tryz.prog 12 25 d))]
noncomputable def HWf (d t:D) (n:Int) (i k:Nat):Vst 110:=stS 110 [(1,.c (.int .i64 2000)),(2,.bx 2 0),(5,.c (.int .i64 n)),(6,.c (.int .i64 (i:Int))),(7,.bx 7 0),(8,.c (.int .i64 (k:Int)))] [(2,.box 25 (cellsV Tryz.prog 12 25 d)),(7,.box 45 (cellsV Tryz.prog 12 45 t))]
noncomputable def HWm (d t:D) (n:Int) (i k:Nat):Vst 110:=stS 110 [(1,.c (.int .i64 2000)),(2,.bx 2 0),(5,.c (.int .i64 n)),(6,.c (.int .i64 (i:Int))),(7,.bx 7 0),(9,.c (.int .i64 (k:Int)))] [(2,.box 25 (cellsV Tryz.prog 12 25 d)),(7,.box 45 (cellsV Tryz.prog 12 45 t))]
theorem docWt_ac (d:D):AC EN Tryz.prog 13 [.agg (cellsV Tryz.prog 12 25 d),.c (.int .i64 2000)] (.c (.int .i64 (docWt (d.f 0).l))):=by
 refine zA1 4 (by kernel_rfl) fun hL2 => ?_
 have hl:(d.f 0).l.length<=9223372036854775807:=zHQ hL2
 have hld:=fun i (hi:i<(d.f 0).l.length)=>len_fdm (zHS hL2 i hi)
 clear hL2
 obtain ⟨R,hR⟩ : ∃ R,docWt (d.f 0).l=R:=⟨_,rfl⟩
 rw [hR]
 unfold docWt at hR
 refine zM 110 Tryz.func13 rfl rfl rfl rfl ?_
 intro s w he
 repeat' (first
|refine zA ?_
|refine zB ?_
|refine zH ?_
|apply aw_1
 conv=>whnf
 refine ⟨?_,trivial⟩
|apply s_1
 conv=>whnf;arg 1;arg 4;arg 3;whnf
 refine ⟨?_,?_⟩
|apply zAF rfl rfl rfl rfl
 . conv=>lhs;whnf;arg 1;whnf
 . rfl
|exact trivial)
 refine zf (fun j st => ∃ i n,i+j=(d.f 0).l.length/\stepW (fun i n=>defWt (gD (d.f 0).l i) n) j i n=R/\Sub (cx EN Tryz.prog s w he) st (HWo d n i)) (d.f 0).l.length ⟨0,_,by omega,hR,Sub.live ⟨rfl,rfl,rfl,rfl,trivial⟩ ⟨rfl,trivial⟩⟩ ?_
 clear hR
 rintro j st ⟨i,n,hij,hR,hs2⟩
 refine zi hs2 ?_
 clear hs2
 have h3:(i<(d.f 0).l.length/\n<=2000)\/(i<(d.f 0).l.length /\ ¬ n<=2000) \/ ¬ i<(d.f 0).l.length:=by omega
 rcases h3 with ⟨hi,hn⟩ | ⟨hi,hn⟩ | hi
 . obtain ⟨j,rfl⟩ : ∃ q,j=q+1:=⟨j-1,by omega⟩
   have f1:decide ((i:Int)<((d.f 0).l.length:Nat))=true:=decide_eq_true (by omega)
   have f2:decide (n<=2000)=true:=decide_eq_true hn
   have K1:(decide ((i:Int)<((d.f 0).l.length:Nat))==true)=false->False:=fun h=>by rw [f1] at h;cases h
   have hR:=zA5 hR hn
   obtain ⟨h4,h5⟩:=hld i hi
   have h4:((gD (d.f 0).l i).f 4).l.length<=9223372036854775807:=h4
   have h5:((gD (d.f 0).l i).f 5).l.length<=9223372036854775807:=h5
   obtain ⟨RF,hRF⟩ : ∃ R,stepW (fdWt (gD (d.f 0).l i)) ((gD (d.f 0).l i).f 4).l.length 0 (wrW (wrW (wrW (n+((gD (d.f 0).l i).f 2).l.length)+dirsWt ((gD (d.f 0).l i).f 3).l)+insWt ((gD (d.f 0).l i).f 6).l))=R:=⟨_,rfl⟩
   obtain ⟨RM,hRM⟩ : ∃ R,stepW (mbWt (gD (d.f 0).l i)) ((gD (d.f 0).l i).f 5).l.length 0 RF=R:=⟨_,rfl⟩
   have hR:stepW (fun i n=>defWt (gD (d.f 0).l i) n) j (i+1) RM=R:=by
    rw [<- hR,<- hRM,<- hRF];rfl
   have hd1:=zCj ((gD (d.f 0).l i).f 3).l
   have hi1:=zK0 ((gD (d.f 0).l i).f 6).l
   repeat' (first
|apply y_addW rfl rfl rfl
 . conv=>lhs;whnf
 . conv=>lhs;whnf
|apply zG
 . conv=>lhs;whnf
 . assumption
|exact (K1 ‹_›).elim
|refine zA ?_
|refine zB ?_
|refine zH ?_
|apply aw_1
 conv=>whnf
 refine ⟨?_,trivial⟩
|apply zQ rfl rfl
 . conv=>lhs;whnf
 . conv=>lhs;whnf
 . first | exact bT1 ‹_› | exact bT2 ‹_›
|apply s_1
 conv=>whnf;arg 1;arg 4;arg 3;whnf
 refine ⟨?_,?_⟩
|apply zT rfl rfl rfl
 . conv=>lhs;whnf
 . conv=>lhs;whnf;arg 1;whnf
 . conv=>lhs;whnf;arg 1;whnf
 . exact ⟨by kernel_rfl,by kernel_rfl⟩
 . rfl
|apply zD rfl
 . conv=>lhs;whnf
 . conv=>lhs;whnf
 . first | rfl | assumption
 . conv=>lhs;whnf;arg 2;whnf
|apply zC rfl
 . conv=>lhs;whnf
 . conv=>lhs;whnf
 . conv=>lhs;whnf;arg 2;whnf
|apply zAN (by kernel_rfl) (by kernel_rfl)
|apply zBl
|apply zBk rfl
 . conv=>lhs;whnf
 . conv=>lhs;whnf;arg 2;whnf
|apply zF1 rfl
 . conv=>lhs;whnf
 . conv=>lhs;whnf
 . first | exact hd1 | exact hi1
|exact zn
|exact zv
|exact (1000000:Nat)
|exact trivial
|intro hg)
   all_goals first
    |exact zR (by omega)
    |exact zr hi
    |skip
   clear K1 f2 hd1 hi1
   refine zf (fun jj st => ∃ k m,k+jj=((gD (d.f 0).l i).f 4).l.length/\stepW (fdWt (gD (d.f 0).l i)) jj k m=RF/\Sub (cx EN Tryz.prog s w he) st (HWf d (gD (d.f 0).l i) m i k)) ((gD (d.f 0).l i).f 4).l.length ⟨0,_,by omega,hRF,Sub.live ⟨rfl,rfl,rfl,rfl,rfl,rfl,trivial⟩ ⟨rfl,rfl,trivial⟩⟩ ?_
   clear hRF
   rintro jj st2 ⟨k,m,hkj,hRF,hs3⟩
   refine zi hs3 ?_
   clear hs3
   have h6:(k<((gD (d.f 0).l i).f 4).l.length/\m<=2000)\/(k<((gD (d.f 0).l i).f 4).l.length /\ ¬ m<=2000) \/ ¬ k<((gD (d.f 0).l i).f 4).l.length:=by omega
   rcases h6 with ⟨hk,hm⟩ | ⟨hk,hm⟩ | hk
   . obtain ⟨jj,rfl⟩ : ∃ q,jj=q+1:=⟨jj-1,by omega⟩
     have g1:decide ((k:Int)<(((gD (d.f 0).l i).f 4).l.length:Nat))=true:=decide_eq_true (by omega)
     have g2:decide (m<=2000)=true:=decide_eq_true hm
     have K2:(decide ((k:Int)<(((gD (d.f 0).l i).f 4).l.length:Nat))==true)=false->False:=fun h=>by rw [g1] at h;cases h
     have hd1:=zCj ((gD ((gD (d.f 0).l i).f 4).l k).f 3).l
     have hi1:=zK0 ((gD ((gD (d.f 0).l i).f 4).l k).f 1).l
     repeat' (first
|apply zAz rfl rfl rfl
 . conv=>lhs;whnf
 . conv=>lhs;whnf
|apply y_addW rfl rfl rfl
 . conv=>lhs;whnf
 . conv=>lhs;whnf
|apply zG
 . conv=>lhs;whnf
 . assumption
|exact (K2 ‹_›).elim
|refine zA ?_
|refine zB ?_
|refine zH ?_
|refine zW ?_
|apply aw_1
 conv=>whnf
 refine ⟨?_,trivial⟩
|apply zQ rfl rfl
 . conv=>lhs;whnf
 . conv=>lhs;whnf
 . first | exact bT1 ‹_› | exact bT2 ‹_›
|apply s_1
 conv=>whnf;arg 1;arg 4;arg 3;whnf
 refine ⟨?_,?_⟩
|apply zD rfl
 . conv=>lhs;whnf
 . conv=>lhs;whnf
 . first | rfl | assumption
 . conv=>lhs;whnf;arg 2;whnf
|apply zC rfl
 . conv=>lhs;whnf
 . conv=>lhs;whnf
 . conv=>lhs;whnf;arg 2;whnf
|apply zAN (by kernel_rfl) (by kernel_rfl)
|apply zBl
|apply zBk rfl
 . conv=>lhs;whnf
 . conv=>lhs;whnf;arg 2;whnf
|apply zF1 rfl
 . conv=>lhs;whnf
 . conv=>lhs;whnf
 . first | exact hd1 | exact hi1
|exact zn
|exact zv
|exact (1000000:Nat)
|exact trivial
|intro hg)
     all_goals first
      |exact zR (by omega)
      |exact zr hi
      |exact zr hk
      |exact zI (j':=jj) (by omega) ⟨k+1,_,by omega,zA5 hRF hm,Sub.live ⟨rfl,rfl,rfl,rfl,rfl,wr1 (by omega),trivial⟩ ⟨rfl,rfl,trivial⟩⟩
      |skip
   . have g1:decide ((k:Int)<(((gD (d.f 0).l i).f 4).l.length:Nat))=true:=decide_eq_true (by omega)
     have g2:decide (m<=2000)=false:=decide_eq_false hm
     have K2:(decide ((k:Int)<(((gD (d.f 0).l i).f 4).l.length:Nat))==true)=false->False:=fun h=>by rw [g1] at h;cases h
     have hE:=zw hRF (.inl hm)
     repeat' (first
|apply zF
 . conv=>lhs;whnf
 . assumption
|exact (K2 ‹_›).elim
|refine zA ?_
|refine zB ?_
|refine zH ?_
|apply aw_1
 conv=>whnf
 refine ⟨?_,trivial⟩
|apply zQ rfl rfl
 . conv=>lhs;whnf
 . conv=>lhs;whnf
 . first | exact bT1 ‹_› | exact bT2 ‹_›
|apply s_1
 conv=>whnf;arg 1;arg 4;arg 3;whnf
 refine ⟨?_,?_⟩
|apply zD rfl
 . conv=>lhs;whnf
 . conv=>lhs;whnf
 . first | rfl | assumption
 . conv=>lhs;whnf;arg 2;whnf
|apply zC rfl
 . conv=>lhs;whnf
 . conv=>lhs;whnf
 . conv=>lhs;whnf;arg 2;whnf
|refine zL ?_
|refine zJ rfl ?_
|refine zK ?_
|exact trivial
|intro hg)
     rw [<- hE] at hRM
     clear K2 hRF hE
     refine zf (fun jj st => ∃ k x,k+jj=((gD (d.f 0).l i).f 5).l.length/\stepW (mbWt (gD (d.f 0).l i)) jj k x=RM/\Sub (cx EN Tryz.prog s w he) st (HWm d (gD (d.f 0).l i) x i k)) ((gD (d.f 0).l i).f 5).l.length ⟨0,_,by omega,hRM,Sub.live ⟨rfl,rfl,rfl,rfl,rfl,rfl,trivial⟩ ⟨rfl,rfl,trivial⟩⟩ ?_
     clear hRM
     rintro j3 st3 ⟨q,x,hqj,hRM,hs4⟩
     refine zi hs4 ?_
     clear hs4
     have h7:(q<((gD (d.f 0).l i).f 5).l.length/\x<=2000)\/(q<((gD (d.f 0).l i).f 5).l.length /\ ¬ x<=2000) \/ ¬ q<((gD (d.f 0).l i).f 5).l.length:=by omega
     rcases h7 with ⟨hq,hx⟩ | ⟨hq,hx⟩ | hq
     . obtain ⟨j3,rfl⟩ : ∃ q,j3=q+1:=⟨j3-1,by omega⟩
       have e1:decide ((q:Int)<(((gD (d.f 0).l i).f 5).l.length:Nat))=true:=decide_eq_true (by omega)
       have e2:decide (x<=2000)=true:=decide_eq_true hx
       have K3:(decide ((q:Int)<(((gD (d.f 0).l i).f 5).l.length:Nat))==true)=false->False:=fun h=>by rw [e1] at h;cases h
       have hd1:=zCj ((gD ((gD (d.f 0).l i).f 5).l q).f 1).l
       repeat' (first
|apply zAz rfl rfl rfl
 . conv=>lhs;whnf
 . conv=>lhs;whnf
|apply zG
 . conv=>lhs;whnf
 . assumption
|exact (K3 ‹_›).elim
|refine zA ?_
|refine zB ?_
|refine zH ?_
|refine zW ?_
|apply aw_1
 conv=>whnf
 refine ⟨?_,trivial⟩
|apply zQ rfl rfl
 . conv=>lhs;whnf
 . conv=>lhs;whnf
 . first | exact bT1 ‹_› | exact bT2 ‹_›
|apply s_1
 conv=>whnf;arg 1;arg 4;arg 3;whnf
 refine ⟨?_,?_⟩
|apply zY rfl
 . conv=>lhs;whnf
 . conv=>lhs;whnf
 . first | exact hd1
|apply zD rfl
 . conv=>lhs;whnf
 . conv=>lhs;whnf
 . first | rfl | assumption
 . conv=>lhs;whnf;arg 2;whnf
|apply zC rfl
 . conv=>lhs;whnf
 . conv=>lhs;whnf
 . conv=>lhs;whnf;arg 2;whnf
|exact trivial
|intro hg)
       all_goals first
        |exact zR (by omega)
        |exact zr hi
        |exact zr hq
        |exact zI (j':=j3) (by omega) ⟨q+1,_,by omega,zA5 hRM hx,Sub.live ⟨rfl,rfl,rfl,rfl,rfl,wr1 (by omega),trivial⟩ ⟨rfl,rfl,trivial⟩⟩
        |skip
     . have e1:decide ((q:Int)<(((gD (d.f 0).l i).f 5).l.length:Nat))=true:=decide_eq_true (by omega)
       have e2:decide (x<=2000)=false:=decide_eq_false hx
       have K3:(decide ((q:Int)<(((gD (d.f 0).l i).f 5).l.length:Nat))==true)=false->False:=fun h=>by rw [e1] at h;cases h
       have hE:=zw hRM (.inl hx)
       rw [<- hE] at hR
       repeat' (first
|apply zAz rfl rfl rfl
 . conv=>lhs;whnf
 . conv=>lhs;whnf
|apply zF
 . conv=>lhs;whnf
 . assumption
|exact (K3 ‹_›).elim
|refine zA ?_
|refine zB ?_
|refine zH ?_
|refine zW ?_
|apply aw_1
 conv=>whnf
 refine ⟨?_,trivial⟩
|apply zQ rfl rfl
 . conv=>lhs;whnf
 . conv=>lhs;whnf
 . first | exact bT1 ‹_› | exact bT2 ‹_›
|apply s_1
 conv=>whnf;arg 1;arg 4;arg 3;whnf
 refine ⟨?_,?_⟩
|apply zD rfl
 . conv=>lhs;whnf
 . conv=>lhs;whnf
 . first | rfl | assumption
 . conv=>lhs;whnf;arg 2;whnf
|apply zC rfl
 . conv=>lhs;whnf
 . conv=>lhs;whnf
 . conv=>lhs;whnf;arg 2;whnf
|refine zL ?_
|refine zJ rfl ?_
|refine zK ?_
|exact trivial
|intro hg)
       all_goals first
        |exact zR (by omega)
        |exact zI (j':=j) (by omega) ⟨i+1,_,by omega,hR,Sub.live ⟨rfl,rfl,rfl,wr1 (by omega),trivial⟩ ⟨rfl,trivial⟩⟩
        |skip
     . have e1:decide ((q:Int)<(((gD (d.f 0).l i).f 5).l.length:Nat))=false:=decide_eq_false (by omega)
       have K3:(decide ((q:Int)<(((gD (d.f 0).l i).f 5).l.length:Nat))==true)=true->False:=fun h=>by rw [e1] at h;cases h
       have hE:=zw hRM (.inr (by omega))
       rw [<- hE] at hR
       repeat' (first
|apply zAz rfl rfl rfl
 . conv=>lhs;whnf
 . conv=>lhs;whnf
|exact (K3 ‹_›).elim
|refine zA ?_
|refine zB ?_
|refine zH ?_
|refine zW ?_
|apply aw_1
 conv=>whnf
 refine ⟨?_,trivial⟩
|apply zO rfl rfl
 . conv=>lhs;whnf
 . conv=>lhs;whnf
 . first | exact bF1 ‹_› | exact bF2 ‹_›
|apply s_1
 conv=>whnf;arg 1;arg 4;arg 3;whnf
 refine ⟨?_,?_⟩
|apply zV rfl
 . conv=>lhs;whnf
 . conv=>lhs;whnf
 . first | rfl | assumption
|apply zC rfl
 . conv=>lhs;whnf
 . conv=>lhs;whnf
 . conv=>lhs;whnf;arg 2;whnf
|refine zL ?_
|refine zJ rfl ?_
|refine zK ?_
|exact trivial
|intro hg)
       all_goals first
        |exact zR (by omega)
        |exact zI (j':=j) (by omega) ⟨i+1,_,by omega,hR,Sub.live ⟨rfl,rfl,rfl,wr1 (by omega),trivial⟩ ⟨rfl,trivial⟩⟩
        |skip
   . have g1:decide ((k:Int)<(((gD (d.f 0).l i).f 4).l.length:Nat))=false:=decide_eq_false (by omega)
     have K2:(decide ((k:Int)<(((gD (d.f 0).l i).f 4).l.length:Nat))==true)=true->False:=fun h=>by rw [g1] at h;cases h
     have hE:=zw hRF (.inr (by omega))
     repeat' (first
|exact (K2 ‹_›).elim
|refine zA ?_
|refine zB ?_
|refine zH ?_
|apply aw_1
 conv=>whnf
 refine ⟨?_,trivial⟩
|apply zO rfl rfl
 . conv=>lhs;whnf
 . conv=>lhs;whnf
 . first | exact bF1 ‹_› | exact bF2 ‹_›
|apply s_1
 conv=>whnf;arg 1;arg 4;arg 3;whnf
 refine ⟨?_,?_⟩
|apply zV rfl
 . conv=>lhs;whnf
 . conv=>lhs;whnf
 . first | rfl | assumption
|apply zC rfl
 . conv=>lhs;whnf
 . conv=>lhs;whnf
 . conv=>lhs;whnf;arg 2;whnf
|refine zL ?_
|refine zJ rfl ?_
|refine zK ?_
|exact trivial
|intro hg)
     rw [<- hE] at hRM
     clear K2 hRF hE
     refine zf (fun jj st => ∃ k x,k+jj=((gD (d.f 0).l i).f 5).l.length/\stepW (mbWt (gD (d.f 0).l i)) jj k x=RM/\Sub (cx EN Tryz.prog s w he) st (HWm d (gD (d.f 0).l i) x i k)) ((gD (d.f 0).l i).f 5).l.length ⟨0,_,by omega,hRM,Sub.live ⟨rfl,rfl,rfl,rfl,rfl,rfl,trivial⟩ ⟨rfl,rfl,trivial⟩⟩ ?_
     clear hRM
     rintro j3 st3 ⟨q,x,hqj,hRM,hs4⟩
     refine zi hs4 ?_
     clear hs4
     have h7:(q<((gD (d.f 0).l i).f 5).l.length/\x<=2000)\/(q<((gD (d.f 0).l i).f 5).l.length /\ ¬ x<=2000) \/ ¬ q<((gD (d.f 0).l i).f 5).l.length:=by omega
     rcases h7 with ⟨hq,hx⟩ | ⟨hq,hx⟩ | hq
     . obtain ⟨j3,rfl⟩ : ∃ q,j3=q+1:=⟨j3-1,by omega⟩
       have e1:decide ((q:Int)<(((gD (d.f 0).l i).f 5).l.length:Nat))=true:=decide_eq_true (by omega)
       have e2:decide (x<=2000)=true:=decide_eq_true hx
       have K3:(decide ((q:Int)<(((gD (d.f 0).l i).f 5).l.length:Nat))==true)=false->False:=fun h=>by rw [e1] at h;cases h
       have hd1:=zCj ((gD ((gD (d.f 0).l i).f 5).l q).f 1).l
       repeat' (first
|apply zAz rfl rfl rfl
 . conv=>lhs;whnf
 . conv=>lhs;whnf
|apply zG
 . conv=>lhs;whnf
 . assumption
|exact (K3 ‹_›).elim
|refine zA ?_
|refine zB ?_
|refine zH ?_
|refine zW ?_
|apply aw_1
 conv=>whnf
 refine ⟨?_,trivial⟩
|apply zQ rfl rfl
 . conv=>lhs;whnf
 . conv=>lhs;whnf
 . first | exact bT1 ‹_› | exact bT2 ‹_›
|apply s_1
 conv=>whnf;arg 1;arg 4;arg 3;whnf
 refine ⟨?_,?_⟩
|apply zY rfl
 . conv=>lhs;whnf
 . conv=>lhs;whnf
 . first | exact hd1
|apply zD rfl
 . conv=>lhs;whnf
 . conv=>lhs;whnf
 . first | rfl | assumption
 . conv=>lhs;whnf;arg 2;whnf
|apply zC rfl
 . conv=>lhs;whnf
 . conv=>lhs;whnf
 . conv=>lhs;whnf;arg 2;whnf
|exact trivial
|intro hg)
       all_goals first
        |exact zR (by omega)
        |exact zr hi
        |exact zr hq
        |exact zI (j':=j3) (by omega) ⟨q+1,_,by omega,zA5 hRM hx,Sub.live ⟨rfl,rfl,rfl,rfl,rfl,wr1 (by omega),trivial⟩ ⟨rfl,rfl,trivial⟩⟩
        |skip
     . have e1:decide ((q:Int)<(((gD (d.f 0).l i).f 5).l.length:Nat))=true:=decide_eq_true (by omega)
       have e2:decide (x<=2000)=false:=decide_eq_false hx
       have K3:(decide ((q:Int)<(((gD (d.f 0).l i).f 5).l.length:Nat))==true)=false->False:=fun h=>by rw [e1] at h;cases h
       have hE:=zw hRM (.inl hx)
       rw [<- hE] at hR
       repeat' (first
|apply zAz rfl rfl rfl
 . conv=>lhs;whnf
 . conv=>lhs;whnf
|apply zF
 . conv=>lhs;whnf
 . assumption
|exact (K3 ‹_›).elim
|refine zA ?_
|refine zB ?_
|refine zH ?_
|refine zW ?_
|apply aw_1
 conv=>whnf
 refine ⟨?_,trivial⟩
|apply zQ rfl rfl
 . conv=>lhs;whnf
 . conv=>lhs;whnf
 . first | exact bT1 ‹_› | exact bT2 ‹_›
|apply s_1
 conv=>whnf;arg 1;arg 4;arg 3;whnf
 refine ⟨?_,?_⟩
|apply zD rfl
 . conv=>lhs;whnf
 . conv=>lhs;whnf
 . first | rfl | assumption
 . conv=>lhs;whnf;arg 2;whnf
|apply zC rfl
 . conv=>lhs;whnf
 . conv=>lhs;whnf
 . conv=>lhs;whnf;arg 2;whnf
|refine zL ?_
|refine zJ rfl ?_
|refine zK ?_
|exact trivial
|intro hg)
       all_goals first
        |exact zR (by omega)
        |exact zI (j':=j) (by omega) ⟨i+1,_,by omega,hR,Sub.live ⟨rfl,rfl,rfl,wr1 (by omega),trivial⟩ ⟨rfl,trivial⟩⟩
        |skip
     . have e1:decide ((q:Int)<(((gD (d.f 0).l i).f 5).l.length:Nat))=false:=decide_eq_false (by omega)
       have K3:(decide ((q:Int)<(((gD (d.f 0).l i).f 5).l.length:Nat))==true)=true->False:=fun h=>by rw [e1] at h;cases h
       have hE:=zw hRM (.inr (by omega))
       rw [<- hE] at hR
       repeat' (first
|apply zAz rfl rfl rfl
 . conv=>lhs;whnf
 . conv=>lhs;whnf
|exact (K3 ‹_›).elim
|refine zA ?_
|refine zB ?_
|refine zH ?_
|refine zW ?_
|apply aw_1
 conv=>whnf
 refine ⟨?_,trivial⟩
|apply zO rfl rfl
 . conv=>lhs;whnf
 . conv=>lhs;whnf
 . first | exact bF1 ‹_› | exact bF2 ‹_›
|apply s_1
 conv=>whnf;arg 1;arg 4;arg 3;whnf
 refine ⟨?_,?_⟩
|apply zV rfl
 . conv=>lhs;whnf
 . conv=>lhs;whnf
 . first | rfl | assumption
|apply zC rfl
 . conv=>lhs;whnf
 . conv=>lhs;whnf
 . conv=>lhs;whnf;arg 2;whnf
|refine zL ?_
|refine zJ rfl ?_
|refine zK ?_
|exact trivial
|intro hg)
       all_goals first
        |exact zR (by omega)
        |exact zI (j':=j) (by omega) ⟨i+1,_,by omega,hR,Sub.live ⟨rfl,rfl,rfl,wr1 (by omega),trivial⟩ ⟨rfl,trivial⟩⟩
        |skip
 . have f1:decide ((i:Int)<((d.f 0).l.length:Nat))=true:=decide_eq_true (by omega)
   have f2:decide (n<=2000)=false:=decide_eq_false hn
   have K1:(decide ((i:Int)<((d.f 0).l.length:Nat))==true)=false->False:=fun h=>by rw [f1] at h;cases h
   have hE:=zw hR (.inl hn)
   repeat' (first
|apply zF
 . conv=>lhs;whnf
 . assumption
|exact (K1 ‹_›).elim
|refine zA ?_
|refine zB ?_
|refine zH ?_
|apply aw_1
 conv=>whnf
 refine ⟨?_,trivial⟩
|apply zQ rfl rfl
 . conv=>lhs;whnf
 . conv=>lhs;whnf
 . first | exact bT1 ‹_› | exact bT2 ‹_›
|apply s_1
 conv=>whnf;arg 1;arg 4;arg 3;whnf
 refine ⟨?_,?_⟩
|apply zD rfl
 . conv=>lhs;whnf
 . conv=>lhs;whnf
 . first | rfl | assumption
 . conv=>lhs;whnf;arg 2;whnf
|apply zC rfl
 . conv=>lhs;whnf
 . conv=>lhs;whnf
 . conv=>lhs;whnf;arg 2;whnf
|refine zL ?_
|refine zJ rfl ?_
|refine zK ?_
|refine zE ?_
|refine ⟨_,by conv=>lhs;whnf;arg 2;whnf,?_⟩;conv=>rhs;whnf
|exact trivial
|intro hg)
   all_goals first
    |(rw [hE];done)
    |skip
 . have f1:decide ((i:Int)<((d.f 0).l.length:Nat))=false:=decide_eq_false (by omega)
   have K1:(decide ((i:Int)<((d.f 0).l.length:Nat))==true)=true->False:=fun h=>by rw [f1] at h;cases h
   have hE:=zw hR (.inr (by omega))
   repeat' (first
|exact (K1 ‹_›).elim
|refine zA ?_
|refine zB ?_
|refine zH ?_
|apply aw_1
 conv=>whnf
 refine ⟨?_,trivial⟩
|apply zO rfl rfl
 . conv=>lhs;whnf
 . conv=>lhs;whnf
 . first | exact bF1 ‹_› | exact bF2 ‹_›
|apply s_1
 conv=>whnf;arg 1;arg 4;arg 3;whnf
 refine ⟨?_,?_⟩
|apply zV rfl
 . conv=>lhs;whnf
 . conv=>lhs;whnf
 . first | rfl | assumption
|apply zC rfl
 . conv=>lhs;whnf
 . conv=>lhs;whnf
 . conv=>lhs;whnf;arg 2;whnf
|refine zL ?_
|refine zJ rfl ?_
|refine zK ?_
|refine zE ?_
|refine ⟨_,by conv=>lhs;whnf;arg 2;whnf,?_⟩;conv=>rhs;whnf
|exact trivial
|intro hg)
   all_goals first
    |(rw [hE];done)
    |skip
theorem rights6_ac (d:D):AC EN5 Tryz.prog 4 [.agg (cellsV Tryz.prog 12 25 d)] (.c (.bool true)):=by
 have h1:=(docWt_ac d).five
 have h2:=zDM d
 have h3:=(zDa d).five
 have h4:=zDC
 generalize docWt (d.f 0).l=n at h1
 generalize docY litW (d.f 0).l=b at h2 h3
 have K1:((b==b)==true)=false->False:=fun h=>by simp at h
 have K2:(b==b)=false->False:=fun h=>by simp at h
 refine zM 16 Tryz.func4 rfl rfl rfl rfl ?_
 intro s w he
 repeat' (first
|exact (K1 ‹_›).elim
|refine zA ?_
|refine zB ?_
|refine zH ?_
|apply aw_1
 conv=>whnf
 refine ⟨?_,trivial⟩
|apply s_1
 conv=>whnf;arg 1;arg 4;arg 3;whnf
 refine ⟨?_,?_⟩
|apply zAF rfl rfl rfl rfl
 . conv=>lhs;whnf;arg 1;whnf
 . rfl
|apply zAN (by kernel_rfl) (by kernel_rfl)
|apply zBl
|apply y_pick_t rfl rfl
 . conv=>lhs;whnf
 . conv=>lhs;whnf
 . first | exact bT1 ‹_› | exact bT2 ‹_›
|apply zDS rfl rfl
 . conv=>lhs;whnf
 . conv=>lhs;whnf
 . first | exact bF1 ‹_› | exact bF2 ‹_›
|apply zBk rfl
 . conv=>lhs;whnf
 . conv=>lhs;whnf;arg 2;whnf
|apply zF1 rfl
 . conv=>lhs;whnf
 . conv=>lhs;whnf
 . first | exact h1 | exact h2 | exact h3 | exact h4
|apply zAl rfl
 . conv=>lhs;whnf
 . conv=>lhs;whnf
 . first | rfl | assumption
 . conv=>lhs;whnf;arg 2;whnf
|apply zAq rfl
 . conv=>lhs;whnf
 . conv=>lhs;whnf
 . first | rfl | assumption
 . conv=>lhs;whnf
 . first | exact h1 | exact h2 | exact h3 | exact h4
|apply y_skip rfl
 . conv=>lhs;whnf
 . conv=>lhs;whnf
 . first | rfl | assumption
|apply zBO rfl
 . conv=>lhs;whnf
 . conv=>lhs;whnf
 . conv=>lhs;whnf;arg 2;whnf
|apply zHy rfl
 . conv=>lhs;whnf
 . conv=>lhs;whnf
 . conv=>lhs;whnf
 . first | exact h1 | exact h2 | exact h3 | exact h4
|exact zn
|exact zv
|exact (1000000:Nat)
|refine zE ?_
|refine ⟨_,by conv=>lhs;whnf;arg 2;whnf,?_⟩;conv=>rhs;whnf
|exact trivial
|intro hg)
 all_goals first
  |rfl
  |exact (show Tryz.prog.underlying 4=some TypeDesc.bool by kernel_rfl)
  |skip
end
section
open Go.ChangeShapes Go.WideShapes Go.ChangeAt Go.RowKit
attribute [local irreducible] wpList Calls Code.wp
theorem arg_in {H:Type} {enc:TypeId × Value->H} {W:World} {v:Value} {base:Nat} {dw:DataW H} {ps:List MemPlace} {t:TypeId} {fs:Array Field} (ht:Tryz.prog.underlying t=some (.struct fs)) (hv:Value.okWide Tryz.prog W .any base t v)
 (hd:DataW.Trod enc Tryz.prog W 0 (fun _=>true) true t v dw ps) :
 ∃ (k:Nat) (cs:Array Value) (d:D),v = .agg cs/\Rep Tryz.prog W (fun b=>b<W.heap.size) k t cs.toList d/\Fits Tryz.prog k t d/\bulkD d<=Rows.uptoBulk dw:=by
 obtain ⟨cs,rfl,_⟩:=okWide_struct ht hv
 obtain ⟨k,hk⟩:=hd
 obtain ⟨d,h1,h2,h3⟩:=zCX hk
 exact ⟨k,cs,d,rfl,by simpa [Value.cells] using h1,h2,h3⟩
theorem rep_len {P:Program} {w:World} {I:Nat->Prop} {k:Nat} {t:TypeId} {cs:List Value} {d:D} {fs:Array Field} (ht:P.underlying t=some (.struct fs)) (h:Rep P w I k t cs d):cs.length=P.cellsOf t:=by
 cases k with
 |zero=>exact h.elim
 |succ k=>unfold Rep at h;rw [ht] at h;exact h.1
theorem cells0 {W:World} {k:Nat} {t:TypeId} {cs:Array Value} {d:D} {fs:Array Field} (ht:Tryz.prog.underlying t=some (.struct fs)) (hl:layB Tryz.prog 12 t=true) (hr:Rep Tryz.prog W (fun b=>b<W.heap.size) k t cs.toList d):rel Tryz.prog (sg0 W) W (.agg (cellsV Tryz.prog 12 t d)) (.agg cs):=by
 rw [rel]
 exact ⟨cs,rfl,zDr (s:=sg0 W) 12 k t cs.toList d (RepF.of_rep hr fun b o _ h=>h) (rep_len ht hr) hl⟩
theorem rowRights6 {H:Type} {enc:TypeId × Value->H} {W:World} {v:Value} {base:Nat} {dw:DataW H} {ps:List MemPlace} (hv:Value.okWide Tryz.prog W .any base 25 v) (hd:DataW.Trod enc Tryz.prog W 0 (fun _=>true) true 25 v dw ps) (he:Env W) :
 Calls Tryz.prog 4 #[v] W fun e W'=>e = .returned (.bool true)/\Below W.heap.size W W':=by
 obtain ⟨k,cs,d,rfl,hr,hf,hbk⟩:=arg_in Tryz.underlying25 hv hd
 exact zCl (rights6_ac d) (relL1 (cells0 Tryz.underlying25 (by kernel_rfl) hr)) he
end
end Go.Proofs.YthppafnlnnpciaaGreatDoor
