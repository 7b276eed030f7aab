import Derived.Test.YthjiclhfhjdjpaaGreatDoorQ32
set_option maxHeartbeats 8000000
set_option maxRecDepth 100000
set_option linter.unusedVariables false
set_option linter.unusedSimpArgs false
namespace Go.Proofs.YthjiclhfhjdjpaaGreatDoor
section
open Go.RowKit
attribute [local irreducible] wpList Calls Code.wp AW AWo OpOk seqK zAG zAP loopK endK AC zt Yld Sub
def outR (K:Nat) (o:D) (i:Nat):List UInt8:=zAz o++(if i=0 then [] else [40]++Lib.join (((o.f 2).l.map (varT K)).take i) commaT)
theorem zEE {K:Nat} {o:D} {i:Nat} (h:i<(o.f 2).l.length):outR K o (i+1)=(outR K o i++if i=0 then [40] else [44,32])++varT K (gD (o.f 2).l i):=by
 unfold outR
 rw [if_neg (by omega),zEI _ h]
 by_cases h0:i=0
 . subst h0
   rw [if_pos rfl,if_pos rfl,List.take_zero,List.nil_append,Lib.join_one]
   simp
 . rw [if_neg h0,if_neg h0,zEK _ _ _ (fun e=>by have h2:=congrArg List.length e;rw [List.length_take,List.length_map] at h2;simp only [List.length_nil] at h2;omega)]
   simp [commaT]
noncomputable def HrA (o:D):Vst 78:=stS 78 [(1,.bx 1 0)] [(1,.box 57 (cellsV Tryz.prog 12 57 o))]
noncomputable def HrM (o:D):Vst 78:=stS 78 [(1,.bx 1 0),(3,.c (.string (bs (if (o.f 0).n=2 then [109,117,116,97,116,105,111,110] else [113,117,101,114,121]))))] [(1,.box 57 (cellsV Tryz.prog 12 57 o))]
noncomputable def HrW (o:D):Vst 78:=stS 78 [(1,.bx 1 0),(3,.c (.string (bs (zBc (o.f 0).n))))] [(1,.box 57 (cellsV Tryz.prog 12 57 o))]
noncomputable def HrB (K:Nat) (o:D) (i:Nat):Vst 78:=stS 78 [(1,.bx 1 0),(3,.c (.string (bs (outR K o i)))),(4,.c (.int .i64 i))] [(1,.box 57 (cellsV Tryz.prog 12 57 o))]
noncomputable def HrC (o:D):Vst 78:=stS 78 [(1,.bx 1 0),(3,.c (.string (bs (zAz o))))] [(1,.box 57 (cellsV Tryz.prog 12 57 o))]
theorem opHeadR_ac (K:Nat) (o:D) (h:VarsOk K (o.f 2).l) (hn:(o.f 1).s.size<=8388608):AC EN Tryz.prog 60 [.agg (cellsV Tryz.prog 12 57 o)] (.c (.string (bs (opT K o)))):=by
 have hwl:=zFT (o.f 0).n
 have hll:=Nat.le_trans (zAK (o.f 2).l) h.bulk
 have hnl:(zAz o).length<=8388700:=by
  have:=zAF (o.f 1).s
  unfold zAz
  split<;>simp only [List.length_append,List.length_cons,List.length_nil]<;>omega
 have hol : ∀ i,(outR K o i).length<=480000000:=fun i=>by
  have h1:=zFV K _ h.wide
  have h2:=h.bulk
  have h3:=zFK ((o.f 2).l.map (varT K)) commaT i
  unfold zHp at h1
  unfold outR
  split<;>simp only [List.length_append,List.length_cons,List.length_nil]<;>omega
 by_cases hc:(o.f 0).n=1/\tx (o.f 1).s=[]/\(o.f 2).l.length=0
 . have k1:(((o.f 0).n==1)==true)=false->False:=fun h=>by rw [hc.1] at h;cases h
   have k2:(((o.f 1).s.toList==(⟨#[]⟩:ByteArray).toList)==true)=false->False:=fun h=>e_ne (bF1 h) hc.2.1
   have k3:((((o.f 2).l.length:Int))==0)=false->False:=fun h=>by rw [hc.2.2] at h;cases h
   refine zG 78 Tryz.func60 rfl rfl rfl rfl ?_
   intro s w he
   repeat' (first
|exact (k1 ‹_›).elim
|exact (k2 ‹_›).elim
|exact (k3 ‹_›).elim
|refine zB ?_
|refine zC ?_
|refine zI ?_
|apply aw_1
 conv=>whnf
 refine ⟨?_,trivial⟩
|apply ze rfl rfl
 . conv=>lhs;whnf
 . conv=>lhs;whnf
 . first | exact bT1 ‹_› | exact bT2 ‹_›
|apply s_1
 conv=>whnf;arg 1;arg 4;arg 3;whnf
 refine ⟨?_,?_⟩
|apply zAE rfl rfl rfl rfl
 . conv=>lhs;whnf;arg 1;whnf
 . rfl
|apply zF rfl
 . conv=>lhs;whnf
 . conv=>lhs;whnf
 . first | rfl | assumption
 . conv=>lhs;whnf;arg 2;whnf
|apply zBR rfl
 . conv=>lhs;whnf
 . conv=>lhs;whnf
 . conv=>lhs;whnf;arg 2;whnf
|refine zV (by conv=>lhs;whnf) ?_ ?_<;>intro hb
|refine zO ?_
|refine zD ?_
|refine ⟨_,by conv=>lhs;whnf;arg 2;whnf,?_⟩;conv=>rhs;whnf
|exact trivial
|intro hg)
   rw [opT,if_pos hc];rfl
 . have kf:(((o.f 0).n==1)==true)=true->(((o.f 1).s.toList==(⟨#[]⟩:ByteArray).toList)==true)=true->((((o.f 2).l.length:Int))==0)=true->False:=fun h1 h2 h3=>hc ⟨by simpa using bT1 h1,e_eq (bT1 h2),leq0 h3⟩
   refine zG 78 Tryz.func60 rfl rfl rfl rfl ?_
   intro s w he
   repeat' (first
|apply zAW 3 (HrA o) rfl
|apply zAW 6 (HrM o) rfl
|apply zAW 8 (HrW o) rfl
|apply zAW 10 (HrC o) rfl
|exact (kf ‹_› ‹_› ‹_›).elim
|refine zEj ?_
|refine zB ?_
|refine zC ?_
|refine zI ?_
|apply aw_1
 conv=>whnf
 refine ⟨?_,trivial⟩
|apply ze rfl rfl
 . conv=>lhs;whnf
 . conv=>lhs;whnf
 . first | exact bT1 ‹_› | exact bT2 ‹_›
|apply zZ rfl rfl
 . conv=>lhs;whnf
 . conv=>lhs;whnf
 . first | exact bF1 ‹_› | exact bF2 ‹_›
|apply s_1
 conv=>whnf;arg 1;arg 4;arg 3;whnf
 refine ⟨?_,?_⟩
|apply zAE rfl rfl rfl rfl
 . conv=>lhs;whnf;arg 1;whnf
 . rfl
|apply zF rfl
 . conv=>lhs;whnf
 . conv=>lhs;whnf
 . first | rfl | assumption
 . conv=>lhs;whnf;arg 2;whnf
|apply zH8 rfl
 . conv=>lhs;whnf
 . conv=>lhs;whnf
 . first | rfl | assumption
|apply zBR rfl
 . conv=>lhs;whnf
 . conv=>lhs;whnf
 . conv=>lhs;whnf;arg 2;whnf
|refine zV (by conv=>lhs;whnf) ?_ ?_<;>intro hb
|exact trivial
|intro hg)
   all_goals first
    |exact Sub.live ⟨rfl,trivial⟩ ⟨rfl,trivial⟩
    |((simp only [ByteArray.size_append,zS,zh,List.size_toArray,List.length_append,List.length_cons,List.length_nil,maxLen,Nat.reduceAdd,Int.toNat_natCast];omega);done)
    |skip
   . have e:(o.f 0).n=2:=by simpa using hb
     refine Sub.live ⟨rfl,?_,trivial⟩ ⟨rfl,trivial⟩
     show V.c (.string ⟨#[109,117,116,97,116,105,111,110]⟩)=V.c (.string (bs _))
     rw [if_pos e];rfl
   . have e : ¬ (o.f 0).n=2:=by simpa using hb
     refine Sub.live ⟨rfl,?_,trivial⟩ ⟨rfl,trivial⟩
     show V.c (.string ⟨#[113,117,101,114,121]⟩)=V.c (.string (bs _))
     rw [if_neg e];rfl
   . have e:(o.f 0).n=3:=by simpa using hb
     refine Sub.live ⟨rfl,?_,trivial⟩ ⟨rfl,trivial⟩
     show V.c (.string ⟨#[115,117,98,115,99,114,105,112,116,105,111,110]⟩)=V.c (.string (bs (zBc (o.f 0).n)))
     rw [zBc,if_neg (by omega),if_pos e];rfl
   . have e : ¬ (o.f 0).n=3:=by simpa using hb
     refine Sub.live ⟨rfl,?_,trivial⟩ ⟨rfl,trivial⟩
     show V.c (.string (bs (if (o.f 0).n=2 then [109,117,116,97,116,105,111,110] else [113,117,101,114,121])))=V.c (.string (bs (zBc (o.f 0).n)))
     rw [zBc,if_neg e]
   . have hne : ¬ tx (o.f 1).s=[]:=s_ne hb
     refine Sub.live ⟨rfl,?_,trivial⟩ ⟨rfl,trivial⟩
     show V.c (.string (bs (zBc (o.f 0).n)++⟨#[32]⟩++(o.f 1).s))=V.c (.string (bs (zAz o)))
     refine (zAv ?_).symm
     rw [zAz,if_neg hne]
     simp only [zp,zAX,List.append_assoc];rfl
   . have hne:tx (o.f 1).s=[]:=s_eq hb
     refine Sub.live ⟨rfl,?_,trivial⟩ ⟨rfl,trivial⟩
     show V.c (.string (bs (zBc (o.f 0).n)))=V.c (.string (bs (zAz o)))
     rw [zAz,if_pos hne,List.append_nil]
   . refine zi (fun j st => ∃ i,i+j=(o.f 2).l.length/\Sub (cx EN Tryz.prog s w he) st (HrB K o i)) (o.f 2).l.length ⟨0,by omega,?_⟩ ?_
     . refine Sub.live ⟨rfl,?_,rfl,trivial⟩ ⟨rfl,trivial⟩
       show V.c (.string (bs (zAz o)))=V.c (.string (bs (outR K o 0)))
       rw [outR,if_pos rfl,List.append_nil]
     . rintro j st ⟨i,hij,hs2⟩
       refine zf hs2 ?_
       have ho:=hol i
       by_cases hi:i<(o.f 2).l.length
       . obtain ⟨z1,z2,z3,z4,z5,z6⟩:=h.sz hi
         have hv:=zD1 K ((gD (o.f 2).l i).f 3) (h.dp i hi) ((h.wide i).f 3) z5
         have hr:=refR_d ((gD (o.f 2).l i).f 1) (Nat.le_trans z2 (by omega)) (Nat.le_trans z3 (by omega))
         have hge:decide ((i:Int)<((o.f 2).l.length:Int))=false->False:=fun h=>by have:=zCo h;omega
         repeat' (first
|exact (hge ‹_›).elim
|refine zB ?_
|refine zC ?_
|refine zI ?_
|refine zY ?_
|apply aw_1
 conv=>whnf
 refine ⟨?_,trivial⟩
|apply s_1
 conv=>whnf;arg 1;arg 4;arg 3;whnf
 refine ⟨?_,?_⟩
|apply zd rfl
 . conv=>lhs;whnf
 . conv=>lhs;whnf
 . first | exact hv | exact hr
|apply zX rfl rfl rfl
 . conv=>lhs;whnf
 . conv=>lhs;whnf;arg 1;whnf
 . conv=>lhs;whnf;arg 1;whnf
 . exact ⟨by kernel_rfl,by kernel_rfl⟩
 . rfl
|apply zAD (by kernel_rfl) (by kernel_rfl)
|apply zAq
|apply zAp rfl
 . conv=>lhs;whnf
 . conv=>lhs;whnf;arg 2;whnf
|apply zA9 rfl
 . conv=>lhs;whnf
 . conv=>lhs;whnf
 . first | exact hv | exact hr
|exact zj
|exact zx
|exact (1000000:Nat)
|refine zV (by conv=>lhs;whnf) ?_ ?_<;>intro hb
|exact trivial)
         all_goals first
          |exact za (by omega)
          |((simp only [ByteArray.size_append,zS,zh,List.size_toArray,List.length_append,List.length_cons,List.length_nil,maxLen,Nat.reduceAdd,Int.toNat_natCast];omega);done)
          |exact ⟨by omega,by omega⟩
          |skip
         . rename_i h1 h0
           have e0:i=0:=leq0 h0
           have hhas:((gD (o.f 2).l i).f 2).b=true:=hb
           refine zE (j':=j-1) (by omega) ⟨i+1,by omega,Sub.live ⟨rfl,?_,rfl,trivial⟩ ⟨rfl,trivial⟩⟩
           show V.c (.string (bs (outR K o i)++⟨#[40]⟩++⟨#[36]⟩++((gD (o.f 2).l i).f 0).s++⟨#[58,32]⟩++bs (refB (tx (((gD (o.f 2).l i).f 1).f 0).s) (((gD (o.f 2).l i).f 1).f 1).l)++⟨#[32,61,32]⟩++bs (valT K ((gD (o.f 2).l i).f 3))))=V.c (.string (bs (outR K o (i+1))))
           refine (zAv ?_).symm
           rw [zEE hi,if_pos e0,varT,hhas,if_pos rfl]
           simp only [zp,zAX,List.append_assoc];rfl
         . rename_i h1 h0
           have e0:i=0:=leq0 h0
           have hhas:((gD (o.f 2).l i).f 2).b=false:=hb
           refine zE (j':=j-1) (by omega) ⟨i+1,by omega,Sub.live ⟨rfl,?_,rfl,trivial⟩ ⟨rfl,trivial⟩⟩
           show V.c (.string (bs (outR K o i)++⟨#[40]⟩++⟨#[36]⟩++((gD (o.f 2).l i).f 0).s++⟨#[58,32]⟩++bs (refB (tx (((gD (o.f 2).l i).f 1).f 0).s) (((gD (o.f 2).l i).f 1).f 1).l)))=V.c (.string (bs (outR K o (i+1))))
           refine (zAv ?_).symm
           rw [zEE hi,if_pos e0,varT,hhas,if_neg (by decide),List.append_nil]
           simp only [zp,zAX,List.append_assoc];rfl
         . rename_i h1 h0
           have e0 : ¬ i=0:=fun e=>by rw [e] at h0;cases h0
           have hhas:((gD (o.f 2).l i).f 2).b=true:=hb
           refine zE (j':=j-1) (by omega) ⟨i+1,by omega,Sub.live ⟨rfl,?_,rfl,trivial⟩ ⟨rfl,trivial⟩⟩
           show V.c (.string (bs (outR K o i)++⟨#[44,32]⟩++⟨#[36]⟩++((gD (o.f 2).l i).f 0).s++⟨#[58,32]⟩++bs (refB (tx (((gD (o.f 2).l i).f 1).f 0).s) (((gD (o.f 2).l i).f 1).f 1).l)++⟨#[32,61,32]⟩++bs (valT K ((gD (o.f 2).l i).f 3))))=V.c (.string (bs (outR K o (i+1))))
           refine (zAv ?_).symm
           rw [zEE hi,if_neg e0,varT,hhas,if_pos rfl]
           simp only [zp,zAX,List.append_assoc];rfl
         . rename_i h1 h0
           have e0 : ¬ i=0:=fun e=>by rw [e] at h0;cases h0
           have hhas:((gD (o.f 2).l i).f 2).b=false:=hb
           refine zE (j':=j-1) (by omega) ⟨i+1,by omega,Sub.live ⟨rfl,?_,rfl,trivial⟩ ⟨rfl,trivial⟩⟩
           show V.c (.string (bs (outR K o i)++⟨#[44,32]⟩++⟨#[36]⟩++((gD (o.f 2).l i).f 0).s++⟨#[58,32]⟩++bs (refB (tx (((gD (o.f 2).l i).f 1).f 0).s) (((gD (o.f 2).l i).f 1).f 1).l)))=V.c (.string (bs (outR K o (i+1))))
           refine (zAv ?_).symm
           rw [zEE hi,if_neg e0,varT,hhas,if_neg (by decide),List.append_nil]
           simp only [zp,zAX,List.append_assoc];rfl
       . have hno:decide ((i:Int)<((o.f 2).l.length:Int))=true->False:=fun h=>hi (zAL h)
         have e:i=(o.f 2).l.length:=by omega
         repeat' (first
|exact (hno ‹_›).elim
|refine zB ?_
|refine zC ?_
|refine zI ?_
|apply aw_1
 conv=>whnf
 refine ⟨?_,trivial⟩
|apply s_1
 conv=>whnf;arg 1;arg 4;arg 3;whnf
 refine ⟨?_,?_⟩
|refine zV (by conv=>lhs;whnf) ?_ ?_<;>intro hb
|refine zN ?_
|refine zJ rfl ?_
|refine zK ?_
|refine zD ?_
|refine ⟨_,by conv=>lhs;whnf;arg 2;whnf,?_⟩;conv=>rhs;whnf
|exact trivial)
         all_goals first
          |((simp only [ByteArray.size_append,zS,zh,List.size_toArray,List.length_append,List.length_cons,List.length_nil,maxLen,Nat.reduceAdd,Int.toNat_natCast];omega);done)
          |skip
         . have hp : ¬ (o.f 2).l.length=0:=by have:((o.f 2).l.length:Int)>0:=of_decide_eq_true hb
                                              omega
           refine zAv ?_
           rw [opT,if_neg hc,if_neg hp,<- zAz,e,outR,if_neg hp,show (o.f 2).l.length=((o.f 2).l.map (varT K)).length by simp,List.take_length]
           simp only [zp,zAX,List.append_assoc];rfl
         . have hp:(o.f 2).l.length=0:=len0 hb
           refine zAv ?_
           rw [opT,if_neg hc,if_pos hp,<- zAz,e,outR,if_pos hp,List.append_nil]
           simp only [zp,zAX,List.append_assoc];rfl
end
section
open Go.RowKit
attribute [local irreducible] wpList Calls Code.wp AW AWo OpOk seqK zAG zAP loopK endK AC zt Yld Sub
attribute [local irreducible] ACB absLexG YldG
def zDE (K F:Nat) (first:List UInt8) (l:List D):List UInt8:=zAl 0 first++selsT K F 1 l++zAl 0 [125]
def opB (K F:Nat) (o:D):List UInt8:=zDE K F (opT K o) (o.f 3).l
def zE9 (fr:D):List UInt8:=[102,114,97,103,109,101,110,116,32]++tx (fr.f 0).s++[32,111,110,32]++tx (fr.f 1).s++[32,123]
def zCT (K F:Nat) (fr:D):List UInt8:=zDE K F (zE9 fr) (fr.f 2).l
def docT (K F:Nat) (q:D):List UInt8:=Lib.join ((q.f 0).l.map (opB K F)++(q.f 1).l.map (zCT K F)) [10]
structure DocOk (K f:Nat) (q:D):Prop where
 wide:wideD q
 bulk:bulkD q<=8388608
 deep:f<=299
 vars : ∀ i,i<(q.f 0).l.length->VarsOk K ((gD (q.f 0).l i).f 2).l
 sels : ∀ i,i<(q.f 0).l.length->SelsOk K (f+1) ((gD (q.f 0).l i).f 3).l
 frag : ∀ i,i<(q.f 1).l.length->SelsOk K (f+1) ((gD (q.f 1).l i).f 2).l
theorem zEv (K f:Nat) (first:List UInt8) (l:List D) (hw : ∀ i,wideD (gD l i)) (hf:f<=299):(zDE K (f+1) first l).length<=first.length+1274*bulkL l+3:=by
 have h:=zCV K (f+1) 1 l hw
 have h2:(4*(1+(f+1))+70)*bulkL l<=1274*bulkL l:=Nat.mul_le_mul_right _ (by omega)
 simp only [zDE,List.length_append,zAU,List.length_cons,List.length_nil]
 omega
theorem zJT (K:Nat) (o:D) (h:wideD o):(opT K o).length<=18+(o.f 1).s.size+40*bulkL (o.f 2).l:=by
 have h1:=zFT (o.f 0).n
 have h2:=zAF (o.f 1).s
 have h3:=zFV K (o.f 2).l fun i=>(h.f 2).l i
 unfold opT
 split
 . simp;omega
 . split<;>split<;>simp only [List.length_append,List.length_cons,List.length_nil]<;>omega
theorem opB_len (K f:Nat) (o:D) (h:wideD o) (hf:f<=299):(opB K (f+1) o).length+1<=1274*bulkD o:=by
 have h1:=zJT K o h
 have h2:=zEv K f (opT K o) (o.f 3).l (fun i=>(h.f 3).l i) hf
 have h3:=zAd o 4
 have h4:=zy (o.f 1)
 have h5:=zr (o.f 2)
 have h6:=zr (o.f 3)
 have h7:=zW o
 simp only [sumN] at h3
 unfold opB
 omega
theorem fragB_len (K f:Nat) (o:D) (h:wideD o) (hf:f<=299):(zCT K (f+1) o).length+1<=1274*bulkD o:=by
 have h2:=zEv K f (zE9 o) (o.f 2).l (fun i=>(h.f 2).l i) hf
 have h3:=zAd o 3
 have h4:=zy (o.f 0)
 have h5:=zy (o.f 1)
 have h6:=zr (o.f 2)
 have h7:=zW o
 have h8:=zAF (o.f 0).s
 have h9:=zAF (o.f 1).s
 have h1:(zE9 o).length=15+(o.f 0).s.size+(o.f 1).s.size:=by simp only [zE9,List.length_append,List.length_cons,List.length_nil];omega
 simp only [sumN] at h3
 unfold zCT
 omega
theorem zJb (a b:List (List UInt8)) (sep:List UInt8):(Lib.join (a++b) sep).length<=(a.map fun l=>l.length+sep.length).sum+(b.map fun l=>l.length+sep.length).sum:=by
 refine Nat.le_trans (join_le sep _) ?_
 rw [List.map_append,List.sum_append]
 exact Nat.le_refl _
theorem zGM (l:List D) (f:D->List UInt8) (s c:Nat) (h : ∀ i,i<l.length->(f (gD l i)).length+s<=c*bulkD (gD l i)):((l.map f).map fun t=>t.length+s).sum<=c*bulkL l:=by
 induction l with
 |nil=>simp
 |cons x r ih =>
  have h0:=h 0 (by simp)
  have h1:=ih fun i hi=>h (i+1) (by simpa using hi)
  simp only [List.map_cons,List.sum_cons,bulkL,Nat.mul_add]
  have e:gD (x::r) 0=x:=rfl
  rw [e] at h0
  omega
theorem zFN (K f:Nat) (q:D) (h:wideD q) (hf:f<=299):(docT K (f+1) q).length<=1274*bulkD q:=by
 have h1:=zJb ((q.f 0).l.map (opB K (f+1))) ((q.f 1).l.map (zCT K (f+1))) [10]
 have h2:=zGM (q.f 0).l (opB K (f+1)) 1 1274 fun i _=>opB_len K f _ ((h.f 0).l i) hf
 have h3:=zGM (q.f 1).l (zCT K (f+1)) 1 1274 fun i _=>fragB_len K f _ ((h.f 1).l i) hf
 have h4:=zAd q 2
 have h5:=zr (q.f 0)
 have h6:=zr (q.f 1)
 have h7:=zW q
 simp only [sumN] at h4
 unfold docT
 simp only [List.length_cons,List.length_nil,Nat.zero_add] at h1
 omega
theorem zLQ (K f:Nat) (first:List UInt8) (l:List D) (h:SelsOk K (f+1) l) (hw : ∀ i,wideD (gD l i)) (hb:bulkL l<=8388608) (hf:f<=299) (hs:first.length<=800000000) :
 AC EN Tryz.prog 57 [.c (.string (bs first)),.sl 76 l] (.c (.string (bs (zDE K (f+1) first l)))):=by
 have h1:=zCV K (f+1) 1 l hw
 have h2:(4*(1+(f+1))+70)*bulkL l<=1274*8388608:=Nat.mul_le_mul (by omega) hb
 have l0:ACB EN Tryz.prog 115 [.bx (pn 0) 0,.c (.int .i64 0),.c (.string (bs first))] [.bld 110 5 []] (.tup []) [.bld 110 5 (zAl 0 first)]:=
  zDK [] 0 (bs first) (by omega) (by rw [zS];omega) (by simp)
 have l1:ACB EN Tryz.prog 55 [.bx (pn 0) 0,.sl 76 l,.c (.int .i64 1)] [.bld 110 5 (zAl 0 first)] (.tup []) [.bld 110 5 (zAl 0 first++selsT K (f+1) 1 l)]:=
  sels_acb K f 1 l (zAl 0 first) h hw hb (by omega) (by rw [zAU];omega)
 have l2:ACB EN Tryz.prog 115 [.bx (pn 0) 0,.c (.int .i64 0),.c (.string ⟨#[125]⟩)] [.bld 110 5 (zAl 0 first++selsT K (f+1) 1 l)] (.tup []) [.bld 110 5 (zDE K (f+1) first l)]:=
  zDK (zAl 0 first++selsT K (f+1) 1 l) 0 ⟨#[125]⟩ (by omega) (by decide) (by rw [List.length_append,zAU];omega)
 have hl:=zEv K f first l hw hf
 refine zG 13 Tryz.func57 rfl rfl rfl rfl ?_
 intro s w he
 repeat' (first
|apply s_bcall0 rfl
 . conv=>lhs;whnf
 . conv=>lhs;whnf
 . rfl
 . rfl
 . first | exact l0
 . rfl
 . exact fun _=>rfl
 . exact fun _=>rfl
|apply zHE rfl
 . conv=>lhs;whnf
 . conv=>lhs;whnf
 . rfl
 . conv=>lhs;whnf;arg 1;whnf
 . first | exact l1 | exact l2
 . exact fun _=>rfl
 . exact fun _=>rfl
|apply s_bs rfl
 . conv=>lhs;whnf
 . conv=>lhs;whnf
 . rfl
 . conv=>lhs;whnf;arg 1;whnf
 . exact ⟨rfl,rfl⟩
 . rfl
|refine zB ?_
|refine zC ?_
|refine zI ?_
|apply aw_1
 conv=>whnf
 refine ⟨?_,trivial⟩
|apply s_1
 conv=>whnf;arg 1;arg 4;arg 3;whnf
 refine ⟨?_,?_⟩
|refine zD ?_
|refine ⟨_,by conv=>lhs;whnf;arg 2;whnf,?_⟩;conv=>rhs;whnf
|exact trivial)
 all_goals (unfold maxLen;omega)
end
section
structure J (e:Tok) (r:List Tok) (a:List Tok) (x x':PS):Prop where
 l:x.ts=a++[e]
 r:x'.ts=a++r
 vr:x'.vr=x.vr
 nd:x'.nd=x.nd
def LO (e:Tok) (r:List Tok) {α:Type} (a:List Tok) (p p':PR α):Prop:=
 ∀ v y,p = .ok (v,y) -> ∃ b,(∃ d,a=d++b)/\y.ts=b++[e]/\(b≠[] -> ∃ y',p' = .ok (v,y')/\J e r b y y')
def LS (e:Tok) (r:List Tok) {α:Type} (a:List Tok) (p p':PR α):Prop:=
 ∀ v y,p = .ok (v,y) -> ∃ b y',(∃ t d,a=t::d++b)/\p' = .ok (v,y')/\J e r b y y'
structure Ends (e:Tok) (r:List Tok):Prop where
 k:e.k=5
 r:r≠[]
section
variable {e:Tok} {r:List Tok} {α β:Type}
theorem LS.lo {a:List Tok} {p p':PR α} (h:LS e r a p p'):LO e r a p p':=fun v y hp=>by
 obtain ⟨b,y',⟨t,d,hd⟩,h1,h2⟩:=h v y hp
 exact ⟨b,⟨t::d,hd⟩,h2.l,fun _=>⟨y',h1,h2⟩⟩
theorem LO.zero {p p' p'':PR α} (h:LO e r [] p p'):LO e r [] p p'':=fun v y hp=>by
 obtain ⟨b,⟨d,hd⟩,h1,h2⟩:=h v y hp
 have:b=[]:=(List.append_eq_nil_iff.1 hd.symm).2
 subst this
 exact ⟨[],⟨[],rfl⟩,h1,fun h=>(h rfl).elim⟩
theorem LS.zero {p p' p'':PR α} (h:LS e r [] p p'):LS e r [] p p'':=fun v y hp=>by
 obtain ⟨b,y',⟨t,d,hd⟩,-⟩:=h v y hp
 cases hd
theorem LO.err {a:List Tok} {q:Nat × Int} {p':PR α}:LO e r a (.error q) p':=fun _ _ h=>by cases h
theorem LS.err {a:List Tok} {q:Nat × Int} {p':PR α}:LS e r a (.error q) p':=fun _ _ h=>by cases h
theorem LO.okk {a:List Tok} {x x':PS} (h:J e r a x x') (v:α):LO e r a (.ok (v,x)) (.ok (v,x')):=fun w y hp=>by
 cases hp
 exact ⟨a,⟨[],rfl⟩,h.l,fun _=>⟨x',rfl,h⟩⟩
theorem LO.mono {a b:List Tok} {p p':PR α} (h:LO e r b p p') (hab : ∃ d,a=d++b):LO e r a p p':=fun v y hp=>by
 obtain ⟨c,⟨d,hd⟩,h1⟩:=h v y hp
 obtain ⟨d2,hd2⟩:=hab
 exact ⟨c,⟨d2++d,by rw [hd2,hd,List.append_assoc]⟩,h1⟩
theorem LS.mono {a b:List Tok} {p p':PR α} (h:LS e r b p p') (hab : ∃ d,a=d++b):LS e r a p p':=fun v y hp=>by
 obtain ⟨c,y',⟨t,d,hd⟩,h1⟩:=h v y hp
 obtain ⟨d2,hd2⟩:=hab
 cases d2 with
 |nil=>exact ⟨c,y',⟨t,d,by rw [hd2,hd];rfl⟩,h1⟩
 |cons t2 d2=>exact ⟨c,y',⟨t2,d2++t::d,by rw [hd2,hd];simp⟩,h1⟩
theorem LS.okn {t:Tok} {a:List Tok} {x x':PS} (h:J e r a x x') (v:α):LS e r (t::a) (.ok (v,x)) (.ok (v,x')):=fun w y hp=>by
 cases hp
 exact ⟨a,x',⟨t,[],rfl⟩,rfl,h⟩
theorem LO.ite {a:List Tok} {c c':Prop} [Decidable c] [Decidable c'] {A A' B B':PR α} (hc:a≠[]->(c ↔ c')) (h1:c->LO e r a A A') (h2 : ¬ c->LO e r a B B'):LO e r a (if c then A else B) (if c' then A' else B'):=by
 by_cases ha:a=[]
 . subst ha
   by_cases h:c
   . rw [if_pos h];exact (h1 h).zero
   . rw [if_neg h];exact (h2 h).zero
 . by_cases h:c
   . rw [if_pos h,if_pos ((hc ha).1 h)];exact h1 h
   . rw [if_neg h,if_neg fun h'=>h ((hc ha).2 h')];exact h2 h
theorem LS.ite {a:List Tok} {c c':Prop} [Decidable c] [Decidable c'] {A A' B B':PR α} (hc:a≠[]->(c ↔ c')) (h1:c->LS e r a A A') (h2 : ¬ c->LS e r a B B'):LS e r a (if c then A else B) (if c' then A' else B'):=by
 by_cases ha:a=[]
 . subst ha
   by_cases h:c
   . rw [if_pos h];exact (h1 h).zero
   . rw [if_neg h];exact (h2 h).zero
 . by_cases h:c
   . rw [if_pos h,if_pos ((hc ha).1 h)];exact h1 h
   . rw [if_neg h,if_neg fun h'=>h ((hc ha).2 h')];exact h2 h
theorem LO.then {a:List Tok} {p p':PR α} {f f':α->PS->PR β} (h:LO e r a p p') (hf : ∀ v b y y',J e r b y y'->LO e r b (f v y) (f' v y')):LO e r a (thenQ p f) (thenQ p' f'):=fun w z hp=>by
 cases hpp:p with
 |error q=>rw [hpp] at hp;cases hp
 |ok q =>
  obtain ⟨v,y⟩:=q
  obtain ⟨b,hab,h1,h2⟩:=h v y hpp
  rw [hpp] at hp
  have hp:f v y = .ok (w,z):=hp
  by_cases hb:b=[]
  . subst hb
    obtain ⟨c,⟨d,hd⟩,h3,-⟩:=hf v [] y ⟨r,y.vr,y.nd⟩ ⟨h1,rfl,rfl,rfl⟩ w z hp
    have:c=[]:=(List.append_eq_nil_iff.1 hd.symm).2
    subst this
    exact ⟨[],hab,h3,fun h=>(h rfl).elim⟩
  . obtain ⟨y',h3,h4⟩:=h2 hb
    rw [h3]
    exact ((hf v b y y' h4).mono hab) w z hp
theorem LS.then {a:List Tok} {p p':PR α} {f f':α->PS->PR β} (h:LO e r a p p') (hf : ∀ v b y y',J e r b y y'->LS e r b (f v y) (f' v y')):LS e r a (thenQ p f) (thenQ p' f'):=fun w z hp=>by
 cases hpp:p with
 |error q=>rw [hpp] at hp;cases hp
 |ok q =>
  obtain ⟨v,y⟩:=q
  obtain ⟨b,hab,h1,h2⟩:=h v y hpp
  rw [hpp] at hp
  have hp:f v y = .ok (w,z):=hp
  by_cases hb:b=[]
  . subst hb
    obtain ⟨c,y',⟨t,d,hd⟩,-⟩:=hf v [] y ⟨r,y.vr,y.nd⟩ ⟨h1,rfl,rfl,rfl⟩ w z hp
    cases hd
  . obtain ⟨y',h3,h4⟩:=h2 hb
    rw [h3]
    exact ((hf v b y y' h4).mono hab) w z hp
theorem LS.pure {a:List Tok} {p p':PR α} {f f':α->PS->PR β} (h:LS e r a p p') (hf : ∀ v b y y',J e r b y y' -> ∃ w z z',f v y = .ok (w,z)/\f' v y' = .ok (w,z')/\J e r b z z'):LS e r a (thenQ p f) (thenQ p' f'):=fun w z hp=>by
 cases hpp:p with
 |error q=>rw [hpp] at hp;cases hp
 |ok q =>
  obtain ⟨v,y⟩:=q
  obtain ⟨b,y',hab,h1,h2⟩:=h v y hpp
  rw [hpp] at hp
  have hp:f v y = .ok (w,z):=hp
  obtain ⟨w2,z2,z',h3,h4,h5⟩:=hf v b y y' h2
  rw [hp] at h3
  cases h3
  rw [h1]
  exact ⟨b,z',hab,h4,h5⟩
variable (hE:Ends e r)
theorem J.hd {a:List Tok} {x x':PS} (h:J e r a x x') (ha:a≠[]):hdT x'=hdT x:=by
 cases a with
 |nil=>exact (ha rfl).elim
 |cons t a=>unfold hdT;rw [h.l,h.r];rfl
theorem J.sg {a:List Tok} {x x':PS} (h:J e r a x x') (s:List UInt8) (ha:a≠[]):isS x s=true ↔ isS x' s=true:=by
 unfold isS;rw [h.hd ha]
include hE
theorem J.k5 {x x':PS} (h:J e r [] x x'):(hdT x).k=5:=by unfold hdT;rw [h.l];exact hE.k
theorem J.ne_of_k {a:List Tok} {x x':PS} (h:J e r a x x') (hk:(hdT x).k≠5) : ∃ t a',a=t::a'/\J e r a' (nxT x) (nxT x'):=by
 cases a with
 |nil=>exact (hk (h.k5 hE)).elim
 |cons t a =>
  have h1:=h.hd (by simp)
  refine ⟨t,a,rfl,?_⟩
  unfold nxT
  rw [h1,if_neg hk,if_neg hk]
  exact ⟨by show x.ts.drop 1=_;rw [h.l];rfl,by show x'.ts.drop 1=_;rw [h.r];rfl,h.vr,h.nd⟩
theorem J.ne_of_isS {a:List Tok} {x x':PS} (h:J e r a x x') {s:List UInt8} (hs:isS x s=true) : ∃ t a',a=t::a'/\J e r a' (nxT x) (nxT x'):=by
 refine h.ne_of_k hE ?_
 unfold isS at hs
 simp only [Bool.and_eq_true,beq_iff_eq] at hs
 rw [hs.1];decide
theorem J.len {a:List Tok} {x x':PS} (h:J e r a x x'):x.ts.length<=x'.ts.length:=by
 rw [h.l,h.r,List.length_append,List.length_append]
 have:0<r.length:=List.length_pos_iff.2 hE.r
 simp;omega
theorem zCz {a:List Tok} {x x':PS} (h:J e r a x x') (s:List UInt8):LS e r a (takeQ s x) (takeQ s x'):=by
 unfold takeQ
 refine .ite (h.sg s) (fun hs => ?_) fun _ => .err
 obtain ⟨t,a',rfl,h'⟩:=h.ne_of_isS hE hs
 exact .okn h' _
theorem zBC {a:List Tok} {x x':PS} (h:J e r a x x'):LS e r a (nameQ x) (nameQ x'):=by
 unfold nameQ
 refine .ite (fun ha=>by rw [h.hd ha]) (fun hk => ?_) fun _ => .err
 obtain ⟨t,a',rfl,h'⟩:=h.ne_of_k hE (by rw [hk];decide)
 rw [h.hd (by simp)]
 exact .okn h' _
theorem open_j : ∀ (f g:Nat) {a:List Tok} {x x':PS},J e r a x x'->x.ts.length<=f->x'.ts.length<=g -> ∃ b,(∃ d,a=d++b)/\(openQ f x).2.ts=b++[e]/\(b≠[]->(openQ g x').1=(openQ f x).1/\J e r b (openQ f x).2 (openQ g x').2)
 |0,g,a,x,x',h,hf,_=>by rw [h.l] at hf;simp at hf
 |f+1,0,a,x,x',h,_,hg=>by have:=h.len hE;rw [h.l] at this;simp at this;omega
 |f+1,g+1,a,x,x',h,hf,hg=>by
  by_cases hs:isS x [91]=true
  . obtain ⟨t,a',rfl,h'⟩:=h.ne_of_isS hE hs
    have hs':=(h.sg [91] (by simp)).1 hs
    have e1:openQ (f+1) x=((openQ f (nxT x)).1+1,(openQ f (nxT x)).2):=by rw [openQ,if_pos hs]
    have e2:openQ (g+1) x'=((openQ g (nxT x')).1+1,(openQ g (nxT x')).2):=by rw [openQ,if_pos hs']
    rw [e1,e2]
    obtain ⟨b,⟨d,hd⟩,h1,h2⟩:=open_j f g h' (by rw [h'.l];rw [h.l] at hf;simpa using hf) (by rw [h'.r];rw [h.r] at hg;simpa using hg)
    exact ⟨b,⟨t::d,by rw [hd];rfl⟩,h1,fun hb=>⟨by rw [(h2 hb).1],(h2 hb).2⟩⟩
  . have e1:openQ (f+1) x=(0,x):=by rw [openQ,if_neg hs]
    rw [e1]
    refine ⟨a,⟨[],rfl⟩,h.l,fun ha => ?_⟩
    have e2:openQ (g+1) x'=(0,x'):=by rw [openQ,if_neg fun hq=>hs ((h.sg [91] ha).2 hq)]
    rw [e2]
    exact ⟨rfl,h⟩
theorem zHc : ∀ (n:Nat) (w:List Int) {a:List Tok} {x x':PS},J e r a x x'->LO e r a (closeQ n w x) (closeQ n w x')
 |0,w,a,x,x',h=>by
  have e1 : ∀ x,closeQ 0 w x=if isS x [33]=true then .ok (1::w,nxT x) else .ok (w,x):=fun x=>by unfold closeQ;split<;>rfl
  rw [e1,e1]
  refine .ite (h.sg _) (fun hs => ?_) fun _ => .okk h _
  obtain ⟨t,a',rfl,h'⟩:=h.ne_of_isS hE hs
  exact (LS.okn h' _).lo
 |n+1,w,a,x,x',h=>by
  have e1 : ∀ x,closeQ (n+1) w x=if isS x [33]=true then thenQ (takeQ [93] (nxT x)) fun _ y=>closeQ n (2::1::w) y else thenQ (takeQ [93] x) fun _ y=>closeQ n (2::w) y:=fun x=>by
   rw [closeQ];split<;>rfl
  rw [e1,e1]
  refine .ite (h.sg _) (fun hs => ?_) fun _ => .then (zCz hE h _).lo fun _ _ _ _ hy=>zHc n _ hy
  obtain ⟨t,a',rfl,h'⟩:=h.ne_of_isS hE hs
  exact (LO.then (zCz hE h' _).lo fun _ _ _ _ hy=>zHc n _ hy).mono ⟨[t],rfl⟩
theorem inner_lo {a:List Tok} {x x':PS} (h:J e r a x x'):LO e r a (innerQ x) (innerQ x'):=by
 obtain ⟨b,hab,h1,h2⟩:=open_j hE x.ts.length x'.ts.length h (Nat.le_refl _) (Nat.le_refl _)
 unfold innerQ
 by_cases hb:b=[]
 . subst hb
   intro v y hp
   have hk:nameQ (openQ x.ts.length x).2 = .error ((hdT (openQ x.ts.length x).2).i,3):=by
    unfold nameQ
    rw [if_neg]
    unfold hdT
    rw [h1]
    show ¬ e.k=2
    rw [hE.k];decide
   rw [hk] at hp
   cases hp
 . obtain ⟨h3,h4⟩:=h2 hb
   rw [h3]
   refine LO.mono (b:=b) ?_ hab
   exact .then (zBC hE h4).lo fun _ _ _ _ hy => .then (zHc hE _ _ hy) fun _ _ _ _ hz => .okk hz _
theorem typ_lo {a:List Tok} {x x':PS} (h:J e r a x x'):LO e r a (typQ x) (typQ x'):=
 .then (inner_lo hE h) fun _ _ _ _ hy => .ite (fun _=>Iff.rfl) (fun _ => .err) fun _ => .okk hy _
theorem zHQ {v v':PS->PR D} (hv : ∀ {a:List Tok} {x x':PS},J e r a x x'->LO e r a (v x) (v' x')) : ∀ (f g:Nat) (acc:List D) {a:List Tok} {x x':PS},f<=g->J e r a x x'->LS e r a (itemsQ v f acc x) (itemsQ v' g acc x')
 |0,_,_,_,_,_,_,_ => .err
 |f+1,0,_,_,_,_,hfg,_=>by omega
 |f+1,g+1,acc,a,x,x',hfg,h=>by
  unfold itemsQ
  refine .ite (h.sg _) (fun hs => ?_) fun _ => .then (hv h) fun _ _ _ _ hy=>zHQ hv f g _ (by omega) hy
  obtain ⟨t,a',rfl,h'⟩:=h.ne_of_isS hE hs
  exact .okn h' _
theorem zFx {v v':PS->PR D} (hv : ∀ {a:List Tok} {x x':PS},J e r a x x'->LO e r a (v x) (v' x')) : ∀ (f g:Nat) (ks:List (List UInt8)) (acc:List D) {a:List Tok} {x x':PS},f<=g->J e r a x x'->LS e r a (zAJ v f ks acc x) (zAJ v' g ks acc x')
 |0,_,_,_,_,_,_,_,_ => .err
 |f+1,0,_,_,_,_,_,hfg,_=>by omega
 |f+1,g+1,ks,acc,a,x,x',hfg,h=>by
  unfold zAJ
  refine .ite (h.sg _) (fun hs => ?_) fun _ => .then (zBC hE h).lo fun k _ _ _ hy => .ite (fun _=>Iff.rfl) (fun _ => .err) fun _ => .then (zCz hE hy _).lo fun _ _ _ _ hz => .then (hv hz) fun _ _ _ _ hu=>zFx hv f g _ _ (by omega) hu
  obtain ⟨t,a',rfl,h'⟩:=h.ne_of_isS hE hs
  exact .okn h' _
theorem zDF : ∀ (f lv:Nat) {a:List Tok} {x x':PS},J e r a x x'->LO e r a (valueQ f lv x) (valueQ f lv x')
 |0,_,_,_,_,_ => .err
 |f+1,lv,a,x,x',h=>by
  by_cases ha:a=[]
  . intro v y hp
    subst ha
    have hk:=h.k5 hE
    unfold valueQ at hp
    rw [if_pos (by unfold zCt;rw [hk];rfl)] at hp
    cases hp
  . have hh:=h.hd ha
    have hn:zCt x'=zCt x:=by unfold zCt isS;rw [hh,h.vr]
    unfold valueQ
    rw [hn,hh,h.nd]
    refine .ite (fun _=>Iff.rfl) (fun _ => .err) fun hno => ?_
    obtain ⟨t,a',rfl,h'⟩:=h.ne_of_k hE (fun hk=>hno (by unfold zCt;rw [hk];rfl))
    have hy:J e r a' { nxT x with nd:=x.nd+1 } { nxT x' with nd:=x.nd+1 }:=⟨h'.l,h'.r,h'.vr,rfl⟩
    have hlen:(nxT x).ts.length<=(nxT x').ts.length:=h'.len hE
    refine .ite (fun _=>Iff.rfl) (fun _ => .err) fun _ => .ite (fun _=>Iff.rfl) (fun _ => .err) fun _ => ?_
    dsimp only
    refine LO.mono (b:=a') ?_ ⟨[t],rfl⟩
    refine .ite (fun _=>Iff.rfl) (fun _ => .okk hy _) fun _ => .ite (fun _=>Iff.rfl) (fun _ => .okk hy _) fun _ => .ite (fun _=>Iff.rfl) (fun _ => .okk hy _) fun _ => .ite (fun _=>Iff.rfl) (fun _ => .then (zBC hE hy).lo fun _ _ _ _ hz => .okk hz _) fun _ => .ite (fun _=>Iff.rfl) (fun _ => ?_) fun _ => ?_
    . exact .then (zHQ hE (fun h=>zDF f (lv+1) h) _ _ _ (by omega) hy).lo fun _ _ _ _ hz => .okk hz _
    . exact .then (zFx hE (fun h=>zDF f (lv+1) h) _ _ _ _ (by omega) hy).lo fun _ _ _ _ hz => .okk hz _
theorem zGz {a:List Tok} {x x':PS} (h:J e r a x x'):LO e r a (zA4 x) (zA4 x'):=zDF hE _ _ ⟨h.l,h.r,h.vr,rfl⟩
theorem zLY : ∀ (f g:Nat) (acc:List D) {a:List Tok} {x x':PS},f<=g->J e r a x x'->LS e r a (argsF f acc x) (argsF g acc x')
 |0,_,_,_,_,_,_,_ => .err
 |f+1,0,_,_,_,_,hfg,_=>by omega
 |f+1,g+1,acc,a,x,x',hfg,h=>by
  unfold argsF
  refine .ite (fun ha=>by rw [h.sg _ ha]) (fun hs => ?_) fun _ => .ite (fun ha=>by rw [h.hd ha]) (fun _ => .err) fun _ => .then (zBC hE h).lo fun _ _ _ _ hy => .then (zCz hE hy _).lo fun _ _ _ _ hz => .then (zGz hE hz) fun _ _ _ _ hu=>zLY f g _ (by omega) hu
  obtain ⟨t,a',rfl,h'⟩:=h.ne_of_isS hE hs.2
  exact .okn h' _
theorem zHh {a:List Tok} {x x':PS} (h:J e r a x x'):LO e r a (argsQ x) (argsQ x'):=by
 unfold argsQ
 refine .ite (h.sg _) (fun hs => ?_) fun _ => .okk h _
 obtain ⟨t,a',rfl,h'⟩:=h.ne_of_isS hE hs
 exact (zLY hE _ _ _ (h.len hE) h').lo.mono ⟨[t],rfl⟩
theorem zLG : ∀ (f g:Nat) (acc:List D) {a:List Tok} {x x':PS},f<=g->J e r a x x'->LO e r a (dirsF f acc x) (dirsF g acc x')
 |0,_,_,_,_,_,_,_ => .err
 |f+1,0,_,_,_,_,hfg,_=>by omega
 |f+1,g+1,acc,a,x,x',hfg,h=>by
  unfold dirsF
  refine .ite (h.sg _) (fun hs => ?_) fun _ => .okk h _
  obtain ⟨t,a',rfl,h'⟩:=h.ne_of_isS hE hs
  exact LO.mono (b:=a') (.ite (fun _=>Iff.rfl) (fun _ => .err) fun _ => .then (zBC hE h').lo fun _ _ _ _ hy => .then (zHh hE hy) fun _ _ _ _ hz=>zLG f g _ (by omega) hz) ⟨[t],rfl⟩
theorem zDr {a:List Tok} {x x':PS} (h:J e r a x x'):LO e r a (dirsQ x) (dirsQ x'):=zLG hE _ _ _ (by have:=h.len hE;omega) h
theorem sel_lo {v v':PS->PR (List D)} (hv : ∀ {a:List Tok} {x x':PS},J e r a x x'->LO e r a (v x) (v' x')) {a:List Tok} {x x':PS} (h:J e r a x x'):LO e r a (selQ v x) (selQ v' x'):=by
 unfold selQ
 refine .ite (h.sg _) (fun hs => ?_) fun _ => ?_
 . obtain ⟨t,a',rfl,h'⟩:=h.ne_of_isS hE hs
   refine LO.mono (b:=a') ?_ ⟨[t],rfl⟩
   dsimp only
   refine .ite (fun ha=>by rw [h'.hd ha]) (fun hk => ?_) fun _ => ?_
   . obtain ⟨t2,a2,rfl,h2⟩:=h'.ne_of_k hE (by rw [hk.1];decide)
     rw [h'.hd (by simp)]
     exact LO.mono (b:=a2) (.then (zDr hE h2) fun _ _ _ _ hz => .okk hz _) ⟨[t2],rfl⟩
   . refine .then (.ite (fun ha=>by rw [h'.hd ha]) (fun hk => ?_) fun _ => .okk h' _) fun _ _ _ _ hz => .then (zDr hE hz) fun _ _ _ _ hu => .then (hv hu) fun _ _ _ _ ho => .okk ho _
     obtain ⟨t2,a2,rfl,h2⟩:=h'.ne_of_k hE (by rw [hk];decide)
     exact (zBC hE h2).lo.mono ⟨[t2],rfl⟩
 . refine .then (zBC hE h).lo fun n _ y y' hy => .then (.ite (hy.sg _) (fun hs => ?_) fun _ => .okk hy _) fun _ _ _ _ hz => .then (zHh hE hz) fun _ _ _ _ hu => .then (zDr hE hu) fun _ _ _ _ hw => .then (.ite (hw.sg _) (fun _=>hv hw) fun _ => .okk hw _) fun _ _ _ _ ho => .okk ho _
   obtain ⟨t2,a2,rfl,h2⟩:=hy.ne_of_isS hE hs
   exact LO.mono (b:=a2) (.then (zBC hE h2).lo fun _ _ _ _ hz => .okk hz _) ⟨[t2],rfl⟩
theorem setF_ls {v v':PS->PR D} (hv : ∀ {a:List Tok} {x x':PS},J e r a x x'->LO e r a (v x) (v' x')) : ∀ (f g:Nat) (acc:List D) {a:List Tok} {x x':PS},f<=g->J e r a x x'->LS e r a (setF v f acc x) (setF v' g acc x')
 |0,_,_,_,_,_,_,_ => .err
 |f+1,0,_,_,_,_,hfg,_=>by omega
 |f+1,g+1,acc,a,x,x',hfg,h=>by
  unfold setF
  refine .ite (fun ha=>by rw [h.sg _ ha]) (fun hs => ?_) fun _ => .ite (fun ha=>by rw [h.hd ha,h.sg _ ha]) (fun _ => .err) fun _ => .then (hv h) fun _ _ _ _ hy=>setF_ls hv f g _ (by omega) hy
  obtain ⟨t,a',rfl,h'⟩:=h.ne_of_isS hE hs.2
  exact .okn h' _
theorem zEb : ∀ (f lv:Nat) {a:List Tok} {x x':PS},J e r a x x'->LS e r a (selsQ f lv x) (selsQ f lv x')
 |0,_,_,_,_,_ => .err
 |f+1,lv,a,x,x',h=>by
  unfold selsQ
  refine .ite (fun ha=>by rw [h.sg _ ha]) (fun _ => .err) fun _ => .then (zCz hE h _).lo fun _ _ y y' hy => ?_
  exact setF_ls hE (fun h=>sel_lo hE (fun h=>(zEb f (lv+1) h).lo) h) _ _ _ (by have:=hy.len hE;omega) hy
theorem set_ls {a:List Tok} {x x':PS} (h:J e r a x x'):LS e r a (setQ x) (setQ x'):=zEb hE _ _ h
theorem zJ8 : ∀ (f g:Nat) (acc:List D) {a:List Tok} {x x':PS},f<=g->J e r a x x'->LS e r a (varsF f acc x) (varsF g acc x')
 |0,_,_,_,_,_,_,_ => .err
 |f+1,0,_,_,_,_,hfg,_=>by omega
 |f+1,g+1,acc,a,x,x',hfg,h=>by
  unfold varsF
  refine .ite (fun ha=>by rw [h.sg _ ha]) (fun hs => ?_) fun _ => .ite (fun ha=>by rw [h.sg _ ha]) (fun _ => .err) fun _ => .then (zCz hE h _).lo fun _ _ _ _ hy => .then (zBC hE hy).lo fun _ _ _ _ hz => .then (zCz hE hz _).lo fun _ _ _ _ hu => .then (typ_lo hE hu) fun _ _ v v' hv => .then (.ite (hv.sg _) (fun hs => ?_) fun _ => .okk hv _) fun _ _ _ _ ho=>zJ8 f g _ (by omega) ho
  . obtain ⟨t,a',rfl,h'⟩:=h.ne_of_isS hE hs.2
    exact .okn h' _
  . obtain ⟨t,a',rfl,h'⟩:=hv.ne_of_isS hE hs
    exact LO.mono (b:=a') (.then (zGz hE (x:={ nxT v with vr:=false }) (x':={ nxT v' with vr:=false }) ⟨h'.l,h'.r,rfl,h'.nd⟩) fun _ _ o o' ho => .okk (x:={ o with vr:=true }) (x':={ o' with vr:=true }) ⟨ho.l,ho.r,rfl,ho.nd⟩ _) ⟨[t],rfl⟩
theorem op_ls (k:Int) {a:List Tok} {x x':PS} (h:J e r a x x'):LS e r a (opQ k x) (opQ k x'):=by
 unfold opQ
 refine .then (.ite (fun ha=>by rw [h.hd ha]) (fun hk => ?_) fun _ => .okk h _) fun _ _ y y' hy => .then (.ite (hy.sg _) (fun hs => ?_) fun _ => .okk hy _) fun _ _ _ _ hz => .pure (set_ls hE hz) fun _ _ u u' hu=>⟨_,u,u',rfl,rfl,hu⟩
 . obtain ⟨t,a',rfl,h'⟩:=h.ne_of_k hE (by rw [hk];decide)
   rw [h.hd (by simp)]
   exact (LS.okn h' _).lo
 . obtain ⟨t,a',rfl,h'⟩:=hy.ne_of_isS hE hs
   exact (zJ8 hE _ _ _ (hy.len hE) h').lo.mono ⟨[t],rfl⟩
theorem frag_ls {a:List Tok} {x x':PS} (h:J e r a x x'):LS e r a (fragQ x) (fragQ x'):=by
 unfold fragQ
 refine .ite (fun ha=>by rw [h.hd ha]) (fun _ => .err) fun _ => .then (zBC hE h).lo fun _ _ y y' hy => .ite (fun ha=>by rw [hy.hd ha]) (fun hk => ?_) fun _ => .err
 obtain ⟨t,a',rfl,h'⟩:=hy.ne_of_k hE (by rw [hk.1];decide)
 refine LS.mono (b:=a') ?_ ⟨[t],rfl⟩
 exact .then (zBC hE h').lo fun _ _ _ _ hz => .pure (set_ls hE hz) fun _ _ u u' hu=>⟨_,u,u',rfl,rfl,hu⟩
end
def En (x:PS):Prop:=∃ a e,x.ts=a++[e]/\e.k=5 /\ ∀ t∈x.ts,t.s.length<=100000
theorem En.cons {x:PS} (h:En x) : ∃ t r,x.ts=t::r:=by
 obtain ⟨a,e,h1,-⟩:=h
 rw [h1]
 cases a with
 |nil=>exact ⟨e,[],rfl⟩
 |cons t a=>exact ⟨t,a++[e],rfl⟩
theorem En.lo {α:Type} {x y:PS} {v:α} (h:En x) {p:PS->PR α} (hp : ∀ {e:Tok} {a:List Tok} {x x':PS},Ends e [e]->J e [e] a x x'->LO e [e] a (p x) (p x')) (hq:p x = .ok (v,y)):En y/\y.ts.length<=x.ts.length:=by
 obtain ⟨a,e,h1,h2,h4⟩:=h
 obtain ⟨b,⟨d,hd⟩,h3,-⟩:=hp (e:=e) (a:=a) (x:=x) (x':=x) ⟨h2,by simp⟩ ⟨h1,h1,rfl,rfl⟩ v y hq
 exact ⟨⟨b,e,h3,h2,fun t ht=>h4 t (by rw [h1,hd];rw [h3] at ht;simp at ht |-;exact .inr ht)⟩,by rw [h3,h1,hd];simp⟩
theorem En.ls {α:Type} {x y:PS} {v:α} (h:En x) {p:PS->PR α} (hp : ∀ {e:Tok} {a:List Tok} {x x':PS},Ends e [e]->J e [e] a x x'->LS e [e] a (p x) (p x')) (hq:p x = .ok (v,y)):En y/\y.ts.length<x.ts.length:=by
 obtain ⟨a,e,h1,h2,h4⟩:=h
 obtain ⟨b,y',⟨t,d,hd⟩,-,h3⟩:=hp (e:=e) (a:=a) (x:=x) (x':=x) ⟨h2,by simp⟩ ⟨h1,h1,rfl,rfl⟩ v y hq
 exact ⟨⟨b,e,h3.l,h2,fun t ht=>h4 t (by rw [h1,hd];rw [h3.l] at ht;simp at ht |-;exact .inr (.inr ht))⟩,by rw [h3.l,h1,hd];simp;omega⟩
theorem En.name {x y:PS} {v:List UInt8} (h:En x) (hq:nameQ x = .ok (v,y)):En y/\y.ts.length<x.ts.length:=h.ls (p:=nameQ) (fun hE h=>zBC hE h) hq
theorem En.take {x y:PS} {s:List UInt8} (h:En x) (hq:takeQ s x = .ok ((),y)):En y/\y.ts.length<x.ts.length:=h.ls (p:=takeQ s) (fun hE h=>zCz hE h s) hq
theorem En.typ {x y:PS} {v:D} (h:En x) (hq:typQ x = .ok (v,y)):En y/\y.ts.length<=x.ts.length:=h.lo (p:=typQ) (fun hE h=>typ_lo hE h) hq
theorem En.value {f lv:Nat} {x y:PS} {v:D} (h:En x) (hq:valueQ f lv x = .ok (v,y)):En y/\y.ts.length<=x.ts.length:=h.lo (p:=valueQ f lv) (fun hE h=>zDF hE f lv h) hq
theorem En.whole {x y:PS} {v:D} (h:En x) (hq:zA4 x = .ok (v,y)):En y/\y.ts.length<=x.ts.length:=h.lo (p:=zA4) (fun hE h=>zGz hE h) hq
theorem En.args {x y:PS} {v:List D} (h:En x) (hq:argsQ x = .ok (v,y)):En y/\y.ts.length<=x.ts.length:=h.lo (p:=argsQ) (fun hE h=>zHh hE h) hq
theorem En.dirs {x y:PS} {v:List D} (h:En x) (hq:dirsQ x = .ok (v,y)):En y/\y.ts.length<=x.ts.length:=h.lo (p:=dirsQ) (fun hE h=>zDr hE h) hq
theorem En.sel {f lv:Nat} {x y:PS} {v:D} (h:En x) (hq:selQ (selsQ f lv) x = .ok (v,y)):En y/\y.ts.length<=x.ts.length:=h.lo (p:=selQ (selsQ f lv)) (fun hE h=>sel_lo hE (fun h=>(zEb hE f lv h).lo) h) hq
theorem En.sels {f lv:Nat} {x y:PS} {v:List D} (h:En x) (hq:selsQ f lv x = .ok (v,y)):En y/\y.ts.length<x.ts.length:=h.ls (p:=selsQ f lv) (fun hE h=>zEb hE f lv h) hq
theorem En.op {k:Int} {x y:PS} {v:D} (h:En x) (hq:opQ k x = .ok (v,y)):En y/\y.ts.length<x.ts.length:=h.ls (p:=opQ k) (fun hE h=>op_ls hE k h) hq
theorem En.frag {x y:PS} {v:D} (h:En x) (hq:fragQ x = .ok (v,y)):En y/\y.ts.length<x.ts.length:=h.ls (p:=fragQ) (fun hE h=>frag_ls hE h) hq
theorem En.nx {x:PS} (h:En x) (hk:(hdT x).k≠5):En (nxT x)/\(nxT x).ts.length<x.ts.length:=by
 obtain ⟨a,e,h1,h2,h4⟩:=h
 have hJ:J e [e] a x x:=⟨h1,h1,rfl,rfl⟩
 obtain ⟨t,a',rfl,h3⟩:=hJ.ne_of_k (e:=e) (r:=[e]) ⟨h2,by simp⟩ hk
 exact ⟨⟨a',e,h3.l,h2,fun t ht=>h4 t (by rw [h1];rw [h3.l] at ht;simp at ht |-;exact .inr ht)⟩,by rw [h3.l,h1];simp⟩
theorem En.hd {x:PS} (h:En x):(hdT x).s.length<=100000:=by
 obtain ⟨t,r,ht⟩:=h.cons
 obtain ⟨a,e,-,-,h4⟩:=h
 have:hdT x=t:=by unfold hdT;rw [ht];rfl
 rw [this]
 exact h4 t (by rw [ht];simp)
theorem En.sg {x:PS} {s:List UInt8} (h:En x) (hk:isS x s=true):En (nxT x)/\(nxT x).ts.length<x.ts.length:=by
 refine h.nx ?_
 unfold isS at hk
 simp only [Bool.and_eq_true,beq_iff_eq] at hk
 rw [hk.1];decide
theorem En.nx0 {x:PS} (h:En x):En (nxT x):=by
 by_cases hk:(hdT x).k=5
 . have:nxT x=x:=by unfold nxT;rw [if_pos hk]
   rw [this];exact h
 . exact (h.nx hk).1
theorem En.valueL {f lv:Nat} {x y:PS} {v:D} (h:En x) (hq:valueQ f lv x = .ok (v,y)):En y/\y.ts.length<x.ts.length:=by
 refine ⟨(h.value hq).1,?_⟩
 cases f with
 |zero=>cases hq
 |succ f =>
  unfold valueQ at hq
  split at hq
  . cases hq
  . rename_i hno
    have hk:(hdT x).k≠5:=fun hk=>hno (by unfold zCt;rw [hk];rfl)
    have h1:=h.nx hk
    have hy:En ({ nxT x with nd:=x.nd+1 }:PS):=h1.1
    split at hq
    . cases hq
    split at hq
    . cases hq
    dsimp only at hq
    split at hq
    . cases hq;exact h1.2
    split at hq
    . cases hq;exact h1.2
    split at hq
    . cases hq;exact h1.2
    split at hq
    . have:=(hy.lo (p:=fun x=>thenQ (nameQ x) fun n z => .ok (valD 7 0 n [] [],z)) (fun hE h => .then (zBC hE h).lo fun _ _ _ _ hz => .okk hz _) hq).2
      exact Nat.lt_of_le_of_lt this h1.2
    split at hq
    . have:=(hy.lo (p:=fun x=>thenQ (itemsQ (valueQ f (lv+1)) (x.ts.length+1) [] x) fun l z => .ok (valD 5 0 [] l [],z)) (fun hE h => .then (zHQ hE (fun h=>zDF hE f (lv+1) h) _ _ _ (by have:=h.len hE;omega) h).lo fun _ _ _ _ hz => .okk hz _) hq).2
      exact Nat.lt_of_le_of_lt this h1.2
    . have:=(hy.lo (p:=fun x=>thenQ (zAJ (valueQ f (lv+1)) (x.ts.length+1) [] [] x) fun l z => .ok (valD 6 0 [] l.2 l.1,z)) (fun hE h => .then (zFx hE (fun h=>zDF hE f (lv+1) h) _ _ _ _ (by have:=h.len hE;omega) h).lo fun _ _ _ _ hz => .okk hz _) hq).2
      exact Nat.lt_of_le_of_lt this h1.2
theorem zAt {x:PS} {t:Tok} {r:List Tok} (h:x.ts=t::r):hdT x=t:=by unfold hdT;rw [h];rfl
end
end Go.Proofs.YthjiclhfhjdjpaaGreatDoor
