import Derived.Maps.OwnSet
import Derived.Test.YthppafnlnnpciaaGreatDoorV43
set_option maxHeartbeats 8000000
set_option maxRecDepth 100000
set_option linter.unusedVariables false
set_option linter.unusedSimpArgs false
namespace Go.Proofs.YthppafnlnnpciaaGreatDoor
section
open Go.RowKit
set_option linter.unusedSectionVars false
attribute [local irreducible] wpList Calls Code.wp AW AWo OpOk seqK zz z8 loopK endK AC zl Yld Sub
attribute [local irreducible] ACB ACX ACE absLexG YldG
def tupR (t:Tok) (k:Nat) (e:Int):V:=.tup [.agg (tokC t),.c (.int .i64 (k:Int)),.c (.int .i64 e)]
def failR:V:=tupR ⟨0,[],0⟩ 0 3
def readV (l:List UInt8) (i:Nat):V:=
 match l with
 |[] => .any
 |c::r =>
  if zAi c then tupR ⟨1,[c],i⟩ (i+1) 0
  else if c==46 then (if r.take 2=[46,46] then tupR ⟨1,[46,46,46],i⟩ (i+3) 0 else failR)
  else if c==45||digU c then tupR ⟨3,c::r.take (spanN wrdU r),i⟩ (i+1+spanN wrdU r) (nerU (numU (c::r.take (spanN wrdU r))))
  else if wrdU c then (if spanN wrdU r+1>64 then failR else tupR ⟨2,c::r.take (spanN wrdU r),i⟩ (i+1+spanN wrdU r) 0)
  else if c==34 then
   (match litN r with
   |none=>failR
   |some n=>tupR ⟨4,(unquoteU (c::r.take n)).getD [],i⟩ (i+1+n) (uqE (unquoteU (c::r.take n))))
  else failR
theorem zKg (s:List UInt8) {a b:Nat} (ha:a<=b) (hb:b<=s.length):(bs s).extract a b=bs ((s.drop a).take (b-a)):=by
 apply ByteArray.ext
 rw [ByteArray.data_extract]
 apply Array.ext'
 rw [Array.toList_extract,zAq,zAq]
section
variable {s:List UInt8} {i:Nat} (hi:i<s.length) (hs:s.length<=70000)
include hi hs
theorem read_sign (h:zAi s[i]=true):AC EN5 Tryz.prog 47 [.c (.string (bs s)),.c (.int .i64 (i:Int))] (tupR ⟨1,[s[i]],i⟩ (i+1) 0):=by
 have hz:=zW s
 have hbt:=zCV hi
 have hgd:=zEk hi
 have hdr:s.drop i=s[i]::s.drop (i+1):=List.drop_eq_getElem_cons hi
 have q : ∀ n:Nat,n<256->(zh (bs s) ((i:Int)).toNat==(n:Int))=(s[i]==UInt8.ofNat n):=fun n hn=>by rw [hbt];exact zE5 _ n hn
 have hsg:=zAR ((bs s).data.toList.getD ((i:Int)).toNat 0)
 have f0:zAi ((bs s).data.toList.getD ((i:Int)).toNat 0)=true:=by rw [Int.toNat_natCast,hgd];exact h
 have hx:(bs s).extract ((i:Int)).toNat (((i:Int)+1)).toNat=bs [s[i]]:=by
  rw [show (((i:Int)+1)).toNat=i+1 by omega,Int.toNat_natCast,zKg s (by omega) (by omega),hdr,Nat.add_sub_cancel_left];rfl
 refine zN 116 Tryz.func47 rfl rfl rfl rfl ?_
 intro s0 w he
 repeat' (first
|apply zG
 . conv=>lhs;whnf
 . assumption
|refine zA ?_
|refine zB ?_
|refine zH ?_
|apply aw_1
 conv=>whnf
 refine ⟨?_,trivial⟩
|apply s_1
 conv=>whnf;arg 1;arg 4;arg 3;whnf
 refine ⟨?_,?_⟩
|apply ze rfl
 . conv=>lhs;whnf
 . conv=>lhs;whnf
 . first | exact hsg
|apply zS rfl rfl rfl
 . conv=>lhs;whnf
 . conv=>lhs;whnf;arg 1;whnf
 . conv=>lhs;whnf;arg 1;whnf
 . exact ⟨by kernel_rfl,by kernel_rfl⟩
 . rfl
|refine zO ?_
|refine zQ ?_
|refine zE ?_
|exact trivial)
 . refine ⟨_,_,_,rfl,rfl,rfl,?_⟩
   show _=V.tup [.agg [.c (.int .i64 1),.c (.string ((bs s).extract ((i:Int)).toNat (((i:Int)+1)).toNat)),.c (.int .i64 (i:Int))],.c (.int .i64 ((i:Int)+1)),.c (.int .i64 0)]
   rw [hx];rfl
 all_goals first
  |exact zU (by omega)
  |exact ⟨by kernel_rfl,by omega,by omega⟩
  |exact ⟨by kernel_rfl,by omega,by omega,by omega⟩
  |(rw [hbt];exact zAc _)
  |exact (show Tryz.prog.underlying _=some TypeDesc.string by kernel_rfl)
  |skip
theorem read_dots (h0:zAi s[i]=false) (h:s[i]=46) (b:Bool) (hb:Lib.hasPrefix (s.drop i) [46,46,46]=b) (hl:b=true->i+3<=s.length):AC EN5 Tryz.prog 47 [.c (.string (bs s)),.c (.int .i64 (i:Int))] (if b=true then tupR ⟨1,[46,46,46],i⟩ (i+3) 0 else failR):=by
 have hz:=zW s
 have hbt:=zCV hi
 have hgd:=zEk hi
 have hdr:s.drop i=s[i]::s.drop (i+1):=List.drop_eq_getElem_cons hi
 have q : ∀ n:Nat,n<256->(zh (bs s) ((i:Int)).toNat==(n:Int))=(s[i]==UInt8.ofNat n):=fun n hn=>by rw [hbt];exact zE5 _ n hn
 have hsg:=zAR ((bs s).data.toList.getD ((i:Int)).toNat 0)
 have f0:zAi ((bs s).data.toList.getD ((i:Int)).toNat 0)=false:=by rw [Int.toNat_natCast,hgd];exact h0
 have f1:(zh (bs s) ((i:Int)).toNat==46)=true:=(q 46 (by omega)).trans (by rw [h];rfl)
 have hpr:=prefix_ac ((bs s).extract ((i:Int)).toNat (bs s).size) { data:=#[46,46,46] }
 rw [zKe] at hpr
 have hb2:Lib.hasPrefix (s.drop i) ({ data:=#[46,46,46] }:ByteArray).data.toList=b:=hb
 rw [hb2] at hpr
 cases b
 . refine zN 116 Tryz.func47 rfl rfl rfl rfl ?_
   intro s0 w he
   repeat' (first
|apply zG
 . conv=>lhs;whnf
 . assumption
|apply zC
 . conv=>lhs;whnf
 . assumption
|refine zA ?_
|refine zB ?_
|refine zH ?_
|apply aw_1
 conv=>whnf
 refine ⟨?_,trivial⟩
|apply s_1
 conv=>whnf;arg 1;arg 4;arg 3;whnf
 refine ⟨?_,?_⟩
|apply ze rfl
 . conv=>lhs;whnf
 . conv=>lhs;whnf
 . first | exact hsg | exact hpr
|apply zS rfl rfl rfl
 . conv=>lhs;whnf
 . conv=>lhs;whnf;arg 1;whnf
 . conv=>lhs;whnf;arg 1;whnf
 . exact ⟨by kernel_rfl,by kernel_rfl⟩
 . rfl
|refine zO ?_
|refine zQ ?_
|refine zE ?_
|exact trivial)
   . exact ⟨_,_,_,rfl,rfl,rfl,rfl⟩
   all_goals first
    |exact zU (by omega)
    |exact ⟨by kernel_rfl,by omega,by omega⟩
    |exact ⟨by kernel_rfl,by omega,by omega,by omega⟩
    |(rw [hbt];exact zAc _)
    |exact (show Tryz.prog.underlying _=some TypeDesc.string by kernel_rfl)
    |skip
 . have hl2:=hl rfl
   refine zN 116 Tryz.func47 rfl rfl rfl rfl ?_
   intro s0 w he
   repeat' (first
|apply zG
 . conv=>lhs;whnf
 . assumption
|apply zC
 . conv=>lhs;whnf
 . assumption
|refine zA ?_
|refine zB ?_
|refine zH ?_
|apply aw_1
 conv=>whnf
 refine ⟨?_,trivial⟩
|apply s_1
 conv=>whnf;arg 1;arg 4;arg 3;whnf
 refine ⟨?_,?_⟩
|apply ze rfl
 . conv=>lhs;whnf
 . conv=>lhs;whnf
 . first | exact hsg | exact hpr
|apply zS rfl rfl rfl
 . conv=>lhs;whnf
 . conv=>lhs;whnf;arg 1;whnf
 . conv=>lhs;whnf;arg 1;whnf
 . exact ⟨by kernel_rfl,by kernel_rfl⟩
 . rfl
|refine zO ?_
|refine zQ ?_
|refine zE ?_
|exact trivial)
   . exact ⟨_,_,_,rfl,rfl,rfl,rfl⟩
   all_goals first
    |exact zU (by omega)
    |exact ⟨by kernel_rfl,by omega,by omega⟩
    |exact ⟨by kernel_rfl,by omega,by omega,by omega⟩
    |(rw [hbt];exact zAc _)
    |exact (show Tryz.prog.underlying _=some TypeDesc.string by kernel_rfl)
    |skip
theorem read_num (h0:zAi s[i]=false) (h46:s[i]≠46) (h:s[i]=45\/(s[i]≠45/\digU s[i]=true)) :
 AC EN5 Tryz.prog 47 [.c (.string (bs s)),.c (.int .i64 (i:Int))] (tupR ⟨3,s[i]::(s.drop (i+1)).take (spanN wrdU (s.drop (i+1))),i⟩ (i+1+spanN wrdU (s.drop (i+1))) (nerU (numU (s[i]::(s.drop (i+1)).take (spanN wrdU (s.drop (i+1))))))):=by
 have hz:=zW s
 have hbt:=zCV hi
 have hgd:=zEk hi
 have hdr:s.drop i=s[i]::s.drop (i+1):=List.drop_eq_getElem_cons hi
 have q : ∀ n:Nat,n<256->(zh (bs s) ((i:Int)).toNat==(n:Int))=(s[i]==UInt8.ofNat n):=fun n hn=>by rw [hbt];exact zE5 _ n hn
 have hsg:=zAR ((bs s).data.toList.getD ((i:Int)).toNat 0)
 have f0:zAi ((bs s).data.toList.getD ((i:Int)).toNat 0)=false:=by rw [Int.toNat_natCast,hgd];exact h0
 have hle:=zBy wrdU (s.drop (i+1))
 rw [List.length_drop] at hle
 have f1:(zh (bs s) ((i:Int)).toNat==46)=false:=(q 46 (by omega)).trans (by simpa using h46)
 have hsp:=zI0 s (i+1) (by omega) (by omega)
 have hx:(bs s).extract ((i:Int)).toNat (((i+1+spanN wrdU (s.drop (i+1)):Nat):Int)).toNat=bs (s[i]::(s.drop (i+1)).take (spanN wrdU (s.drop (i+1)))):=by
  rw [Int.toNat_natCast,Int.toNat_natCast,zKg s (by omega) (by omega),hdr,show i+1+spanN wrdU (s.drop (i+1))-i=spanN wrdU (s.drop (i+1))+1 by omega,List.take_succ_cons]
 have hsz:((bs s).extract ((i:Int)).toNat (((i+1+spanN wrdU (s.drop (i+1)):Nat):Int)).toNat).size<=281474976710656:=by rw [ByteArray.size_extract];omega
 have hnu:=zGI _ hsz
 unfold numVV at hnu
 have htx:tx ((bs s).extract ((i:Int)).toNat (((i+1+spanN wrdU (s.drop (i+1)):Nat):Int)).toNat)=s[i]::(s.drop (i+1)).take (spanN wrdU (s.drop (i+1))):=by rw [hx];exact zAq _
 rw [htx] at hnu
 have k45:s[i]=45->((zh (bs s) ((i:Int)).toNat==45)==false)=true->False:=fun h h2=>by
  have e:(zh (bs s) ((i:Int)).toNat==45)=true:=(q 45 (by omega)).trans (by rw [h];rfl)
  rw [e] at h2;cases h2
 have kn45:s[i]≠45->((zh (bs s) ((i:Int)).toNat==45)==false)=false->False:=fun h h2=>by
  have e:(zh (bs s) ((i:Int)).toNat==45)=false:=(q 45 (by omega)).trans (by simpa using h)
  rw [e] at h2;cases h2
 have kge:48<=s[i].toNat->(decide (zh (bs s) ((i:Int)).toNat>=48)==true)=false->False:=fun h h2=>by
  rw [hbt,decide_eq_true (show ((s[i].toNat:Nat):Int)>=48 by omega)] at h2;cases h2
 have kng:s[i].toNat<48->(decide (zh (bs s) ((i:Int)).toNat>=48)==true)=true->False:=fun h h2=>by
  rw [hbt,decide_eq_false (show ¬ ((s[i].toNat:Nat):Int)>=48 by omega)] at h2;cases h2
 rcases h with h | ⟨h,hd⟩
 . have f2:(zh (bs s) ((i:Int)).toNat==45)=true:=(q 45 (by omega)).trans (by rw [h];rfl)
   have k1:=k45 h
   refine zN 116 Tryz.func47 rfl rfl rfl rfl ?_
   intro s0 w he
   repeat' (first
|apply zC
 . conv=>lhs;whnf
 . assumption
|exact (k1 ‹_›).elim
|refine zA ?_
|refine zB ?_
|refine zH ?_
|apply aw_1
 conv=>whnf
 refine ⟨?_,trivial⟩
|apply zq rfl rfl
 . conv=>lhs;whnf
 . conv=>lhs;whnf
 . first | exact bT1 ‹_› | exact bT2 ‹_›
|apply s_1
 conv=>whnf;arg 1;arg 4;arg 3;whnf
 refine ⟨?_,?_⟩
|apply ze rfl
 . conv=>lhs;whnf
 . conv=>lhs;whnf
 . first | exact hsg | exact hsp | exact hnu
|apply zS rfl rfl rfl
 . conv=>lhs;whnf
 . conv=>lhs;whnf;arg 1;whnf
 . conv=>lhs;whnf;arg 1;whnf
 . exact ⟨by kernel_rfl,by kernel_rfl⟩
 . rfl
|apply zr rfl
 . conv=>lhs;whnf
 . conv=>lhs;whnf
 . first | rfl | assumption
|apply zF rfl
 . conv=>lhs;whnf
 . conv=>lhs;whnf
 . conv=>lhs;whnf;arg 2;whnf
|refine zO ?_
|refine zQ ?_
|refine zE ?_
|exact trivial
|intro hg)
   . refine ⟨_,_,_,rfl,rfl,rfl,?_⟩
     show _=V.tup [.agg [.c (.int .i64 3),.c (.string ((bs s).extract ((i:Int)).toNat (((i+1+spanN wrdU (s.drop (i+1)):Nat):Int)).toNat)),.c (.int .i64 (i:Int))],.c (.int .i64 ((i+1+spanN wrdU (s.drop (i+1)):Nat):Int)),.c (.int .i64 (nerU (numU (s[i]::(s.drop (i+1)).take (spanN wrdU (s.drop (i+1)))))))]
     rw [hx];rfl
   all_goals first
    |exact zU (by omega)
    |exact ⟨by kernel_rfl,by omega,by omega⟩
    |exact ⟨by kernel_rfl,by omega,by omega,by omega⟩
    |(rw [hbt];exact zAc _)
    |exact (show Tryz.prog.underlying _=some TypeDesc.string by kernel_rfl)
    |skip
 . have f2:(zh (bs s) ((i:Int)).toNat==45)=false:=(q 45 (by omega)).trans (by simpa using h)
   have hd2:48<=s[i].toNat/\s[i].toNat<=57:=by simpa [digU] using hd
   have f3:decide (zh (bs s) ((i:Int)).toNat>=48)=true:=by rw [hbt];exact decide_eq_true (by omega)
   have f4:decide (zh (bs s) ((i:Int)).toNat<=57)=true:=by rw [hbt];exact decide_eq_true (by omega)
   have k1:=kn45 h
   have k2:=kge hd2.1
   refine zN 116 Tryz.func47 rfl rfl rfl rfl ?_
   intro s0 w he
   repeat' (first
|apply zAj rfl rfl rfl
 . conv=>lhs;whnf
 . first | rfl | assumption
 . conv=>lhs;whnf
 . first | exact bT1 ‹_› | exact bT2 ‹_› | rfl
|apply zG
 . conv=>lhs;whnf
 . assumption
|apply zC
 . conv=>lhs;whnf
 . assumption
|exact (k1 ‹_›).elim
|exact (k2 ‹_›).elim
|refine zA ?_
|refine zB ?_
|refine zH ?_
|apply aw_1
 conv=>whnf
 refine ⟨?_,trivial⟩
|apply za rfl rfl
 . conv=>lhs;whnf
 . conv=>lhs;whnf
 . first | exact bF1 ‹_› | exact bF2 ‹_›
|apply s_1
 conv=>whnf;arg 1;arg 4;arg 3;whnf
 refine ⟨?_,?_⟩
|apply ze rfl
 . conv=>lhs;whnf
 . conv=>lhs;whnf
 . first | exact hsg | exact hsp | exact hnu
|apply zS rfl rfl rfl
 . conv=>lhs;whnf
 . conv=>lhs;whnf;arg 1;whnf
 . conv=>lhs;whnf;arg 1;whnf
 . exact ⟨by kernel_rfl,by kernel_rfl⟩
 . rfl
|apply zL rfl
 . conv=>lhs;whnf
 . conv=>lhs;whnf
 . first | rfl | assumption
 . conv=>lhs;whnf;arg 2;whnf
|apply zF rfl
 . conv=>lhs;whnf
 . conv=>lhs;whnf
 . conv=>lhs;whnf;arg 2;whnf
|refine zO ?_
|refine zQ ?_
|refine zE ?_
|exact trivial
|intro hg)
   . refine ⟨_,_,_,rfl,rfl,rfl,?_⟩
     show _=V.tup [.agg [.c (.int .i64 3),.c (.string ((bs s).extract ((i:Int)).toNat (((i+1+spanN wrdU (s.drop (i+1)):Nat):Int)).toNat)),.c (.int .i64 (i:Int))],.c (.int .i64 ((i+1+spanN wrdU (s.drop (i+1)):Nat):Int)),.c (.int .i64 (nerU (numU (s[i]::(s.drop (i+1)).take (spanN wrdU (s.drop (i+1)))))))]
     rw [hx];rfl
   all_goals first
    |exact zU (by omega)
    |exact ⟨by kernel_rfl,by omega,by omega⟩
    |exact ⟨by kernel_rfl,by omega,by omega,by omega⟩
    |(rw [hbt];exact zAc _)
    |exact (show Tryz.prog.underlying _=some TypeDesc.string by kernel_rfl)
    |skip
theorem read_word (h0:zAi s[i]=false) (h46:s[i]≠46) (h45:s[i]≠45) (hr:s[i].toNat<48\/57<s[i].toNat) (hw:wrdU s[i]=true) (hlen:spanN wrdU (s.drop (i+1))+1<=64):AC EN5 Tryz.prog 47 [.c (.string (bs s)),.c (.int .i64 (i:Int))] (tupR ⟨2,s[i]::(s.drop (i+1)).take (spanN wrdU (s.drop (i+1))),i⟩ (i+1+spanN wrdU (s.drop (i+1))) 0):=by
 have hz:=zW s
 have hbt:=zCV hi
 have hgd:=zEk hi
 have hdr:s.drop i=s[i]::s.drop (i+1):=List.drop_eq_getElem_cons hi
 have q : ∀ n:Nat,n<256->(zh (bs s) ((i:Int)).toNat==(n:Int))=(s[i]==UInt8.ofNat n):=fun n hn=>by rw [hbt];exact zE5 _ n hn
 have hsg:=zAR ((bs s).data.toList.getD ((i:Int)).toNat 0)
 have f0:zAi ((bs s).data.toList.getD ((i:Int)).toNat 0)=false:=by rw [Int.toNat_natCast,hgd];exact h0
 have hle:=zBy wrdU (s.drop (i+1))
 rw [List.length_drop] at hle
 have f1:(zh (bs s) ((i:Int)).toNat==46)=false:=(q 46 (by omega)).trans (by simpa using h46)
 have k45:s[i]=45->((zh (bs s) ((i:Int)).toNat==45)==false)=true->False:=fun h h2=>by
  have e:(zh (bs s) ((i:Int)).toNat==45)=true:=(q 45 (by omega)).trans (by rw [h];rfl)
  rw [e] at h2;cases h2
 have kn45:s[i]≠45->((zh (bs s) ((i:Int)).toNat==45)==false)=false->False:=fun h h2=>by
  have e:(zh (bs s) ((i:Int)).toNat==45)=false:=(q 45 (by omega)).trans (by simpa using h)
  rw [e] at h2;cases h2
 have kge:48<=s[i].toNat->(decide (zh (bs s) ((i:Int)).toNat>=48)==true)=false->False:=fun h h2=>by
  rw [hbt,decide_eq_true (show ((s[i].toNat:Nat):Int)>=48 by omega)] at h2;cases h2
 have kng:s[i].toNat<48->(decide (zh (bs s) ((i:Int)).toNat>=48)==true)=true->False:=fun h h2=>by
  rw [hbt,decide_eq_false (show ¬ ((s[i].toNat:Nat):Int)>=48 by omega)] at h2;cases h2
 have hlt:=zCA ((bs s).data.toList.getD ((i:Int)).toNat 0)
 have f5:wrdU ((bs s).data.toList.getD ((i:Int)).toNat 0)=true:=by rw [Int.toNat_natCast,hgd];exact hw
 have hsp:=zI0 s i (by omega) (by omega)
 have hse:i+spanN wrdU (s.drop i)=i+1+spanN wrdU (s.drop (i+1)):=by rw [hdr,spanN,if_pos hw];omega
 rw [hse] at hsp
 have hx:(bs s).extract ((i:Int)).toNat (((i+1+spanN wrdU (s.drop (i+1)):Nat):Int)).toNat=bs (s[i]::(s.drop (i+1)).take (spanN wrdU (s.drop (i+1)))):=by
  rw [Int.toNat_natCast,Int.toNat_natCast,zKg s (by omega) (by omega),hdr,show i+1+spanN wrdU (s.drop (i+1))-i=spanN wrdU (s.drop (i+1))+1 by omega,List.take_succ_cons]
 have f6:decide (((i+1+spanN wrdU (s.drop (i+1)):Nat):Int)-(i:Int)>64)=false:=decide_eq_false (by omega)
 rcases hr with hr | hr
 . have f2:(zh (bs s) ((i:Int)).toNat==45)=false:=(q 45 (by omega)).trans (by simpa using h45)
   have k1:=kn45 h45
   have k2:=kng hr
   have f3:decide (zh (bs s) ((i:Int)).toNat>=48)=false:=by rw [hbt];exact decide_eq_false (by omega)
   refine zN 116 Tryz.func47 rfl rfl rfl rfl ?_
   intro s0 w he
   repeat' (first
|apply zAe rfl rfl rfl
 . conv=>lhs;whnf
 . first | rfl | assumption
 . conv=>lhs;whnf
 . first | exact bF1 ‹_› | exact bF2 ‹_› | rfl
|apply zG
 . conv=>lhs;whnf
 . assumption
|apply zC
 . conv=>lhs;whnf
 . assumption
|exact (k1 ‹_›).elim
|exact (k2 ‹_›).elim
|refine zA ?_
|refine zB ?_
|refine zH ?_
|apply aw_1
 conv=>whnf
 refine ⟨?_,trivial⟩
|apply za rfl rfl
 . conv=>lhs;whnf
 . conv=>lhs;whnf
 . first | exact bF1 ‹_› | exact bF2 ‹_›
|apply s_1
 conv=>whnf;arg 1;arg 4;arg 3;whnf
 refine ⟨?_,?_⟩
|apply ze rfl
 . conv=>lhs;whnf
 . conv=>lhs;whnf
 . first | exact hsg | exact hlt | exact hsp
|apply zS rfl rfl rfl
 . conv=>lhs;whnf
 . conv=>lhs;whnf;arg 1;whnf
 . conv=>lhs;whnf;arg 1;whnf
 . exact ⟨by kernel_rfl,by kernel_rfl⟩
 . rfl
|apply zL rfl
 . conv=>lhs;whnf
 . conv=>lhs;whnf
 . first | rfl | assumption
 . conv=>lhs;whnf;arg 2;whnf
|apply zr rfl
 . conv=>lhs;whnf
 . conv=>lhs;whnf
 . first | rfl | assumption
|apply zF rfl
 . conv=>lhs;whnf
 . conv=>lhs;whnf
 . conv=>lhs;whnf;arg 2;whnf
|refine zO ?_
|refine zQ ?_
|refine zE ?_
|exact trivial
|intro hg)
   . refine ⟨_,_,_,rfl,rfl,rfl,?_⟩
     show _=V.tup [.agg [.c (.int .i64 2),.c (.string ((bs s).extract ((i:Int)).toNat (((i+1+spanN wrdU (s.drop (i+1)):Nat):Int)).toNat)),.c (.int .i64 (i:Int))],.c (.int .i64 ((i+1+spanN wrdU (s.drop (i+1)):Nat):Int)),.c (.int .i64 0)]
     rw [hx];rfl
   all_goals first
    |exact zU (by omega)
    |exact ⟨by kernel_rfl,by omega,by omega⟩
    |exact ⟨by kernel_rfl,by omega,by omega,by omega⟩
    |(rw [hbt];exact zAc _)
    |exact (show Tryz.prog.underlying _=some TypeDesc.string by kernel_rfl)
    |skip
 . have f2:(zh (bs s) ((i:Int)).toNat==45)=false:=(q 45 (by omega)).trans (by simpa using h45)
   have k1:=kn45 h45
   have k2:=kge (by omega)
   have f3:decide (zh (bs s) ((i:Int)).toNat>=48)=true:=by rw [hbt];exact decide_eq_true (by omega)
   have f4:decide (zh (bs s) ((i:Int)).toNat<=57)=false:=by rw [hbt];exact decide_eq_false (by omega)
   refine zN 116 Tryz.func47 rfl rfl rfl rfl ?_
   intro s0 w he
   repeat' (first
|apply zAj rfl rfl rfl
 . conv=>lhs;whnf
 . first | rfl | assumption
 . conv=>lhs;whnf
 . first | exact bT1 ‹_› | exact bT2 ‹_› | rfl
|apply zG
 . conv=>lhs;whnf
 . assumption
|apply zC
 . conv=>lhs;whnf
 . assumption
|exact (k1 ‹_›).elim
|exact (k2 ‹_›).elim
|refine zA ?_
|refine zB ?_
|refine zH ?_
|apply aw_1
 conv=>whnf
 refine ⟨?_,trivial⟩
|apply za rfl rfl
 . conv=>lhs;whnf
 . conv=>lhs;whnf
 . first | exact bF1 ‹_› | exact bF2 ‹_›
|apply s_1
 conv=>whnf;arg 1;arg 4;arg 3;whnf
 refine ⟨?_,?_⟩
|apply ze rfl
 . conv=>lhs;whnf
 . conv=>lhs;whnf
 . first | exact hsg | exact hlt | exact hsp
|apply zS rfl rfl rfl
 . conv=>lhs;whnf
 . conv=>lhs;whnf;arg 1;whnf
 . conv=>lhs;whnf;arg 1;whnf
 . exact ⟨by kernel_rfl,by kernel_rfl⟩
 . rfl
|apply zL rfl
 . conv=>lhs;whnf
 . conv=>lhs;whnf
 . first | rfl | assumption
 . conv=>lhs;whnf;arg 2;whnf
|apply zF rfl
 . conv=>lhs;whnf
 . conv=>lhs;whnf
 . conv=>lhs;whnf;arg 2;whnf
|refine zO ?_
|refine zQ ?_
|refine zE ?_
|exact trivial
|intro hg)
   . refine ⟨_,_,_,rfl,rfl,rfl,?_⟩
     show _=V.tup [.agg [.c (.int .i64 2),.c (.string ((bs s).extract ((i:Int)).toNat (((i+1+spanN wrdU (s.drop (i+1)):Nat):Int)).toNat)),.c (.int .i64 (i:Int))],.c (.int .i64 ((i+1+spanN wrdU (s.drop (i+1)):Nat):Int)),.c (.int .i64 0)]
     rw [hx];rfl
   all_goals first
    |exact zU (by omega)
    |exact ⟨by kernel_rfl,by omega,by omega⟩
    |exact ⟨by kernel_rfl,by omega,by omega,by omega⟩
    |(rw [hbt];exact zAc _)
    |exact (show Tryz.prog.underlying _=some TypeDesc.string by kernel_rfl)
    |skip
theorem read_long (h0:zAi s[i]=false) (h46:s[i]≠46) (h45:s[i]≠45) (hr:s[i].toNat<48\/57<s[i].toNat) (hw:wrdU s[i]=true) (hlen : ¬ spanN wrdU (s.drop (i+1))+1<=64):AC EN5 Tryz.prog 47 [.c (.string (bs s)),.c (.int .i64 (i:Int))] failR:=by
 have hz:=zW s
 have hbt:=zCV hi
 have hgd:=zEk hi
 have hdr:s.drop i=s[i]::s.drop (i+1):=List.drop_eq_getElem_cons hi
 have q : ∀ n:Nat,n<256->(zh (bs s) ((i:Int)).toNat==(n:Int))=(s[i]==UInt8.ofNat n):=fun n hn=>by rw [hbt];exact zE5 _ n hn
 have hsg:=zAR ((bs s).data.toList.getD ((i:Int)).toNat 0)
 have f0:zAi ((bs s).data.toList.getD ((i:Int)).toNat 0)=false:=by rw [Int.toNat_natCast,hgd];exact h0
 have hle:=zBy wrdU (s.drop (i+1))
 rw [List.length_drop] at hle
 have f1:(zh (bs s) ((i:Int)).toNat==46)=false:=(q 46 (by omega)).trans (by simpa using h46)
 have k45:s[i]=45->((zh (bs s) ((i:Int)).toNat==45)==false)=true->False:=fun h h2=>by
  have e:(zh (bs s) ((i:Int)).toNat==45)=true:=(q 45 (by omega)).trans (by rw [h];rfl)
  rw [e] at h2;cases h2
 have kn45:s[i]≠45->((zh (bs s) ((i:Int)).toNat==45)==false)=false->False:=fun h h2=>by
  have e:(zh (bs s) ((i:Int)).toNat==45)=false:=(q 45 (by omega)).trans (by simpa using h)
  rw [e] at h2;cases h2
 have kge:48<=s[i].toNat->(decide (zh (bs s) ((i:Int)).toNat>=48)==true)=false->False:=fun h h2=>by
  rw [hbt,decide_eq_true (show ((s[i].toNat:Nat):Int)>=48 by omega)] at h2;cases h2
 have kng:s[i].toNat<48->(decide (zh (bs s) ((i:Int)).toNat>=48)==true)=true->False:=fun h h2=>by
  rw [hbt,decide_eq_false (show ¬ ((s[i].toNat:Nat):Int)>=48 by omega)] at h2;cases h2
 have hlt:=zCA ((bs s).data.toList.getD ((i:Int)).toNat 0)
 have f5:wrdU ((bs s).data.toList.getD ((i:Int)).toNat 0)=true:=by rw [Int.toNat_natCast,hgd];exact hw
 have hsp:=zI0 s i (by omega) (by omega)
 have hse:i+spanN wrdU (s.drop i)=i+1+spanN wrdU (s.drop (i+1)):=by rw [hdr,spanN,if_pos hw];omega
 rw [hse] at hsp
 have f6:decide (((i+1+spanN wrdU (s.drop (i+1)):Nat):Int)-(i:Int)>64)=true:=decide_eq_true (by omega)
 rcases hr with hr | hr
 . have f2:(zh (bs s) ((i:Int)).toNat==45)=false:=(q 45 (by omega)).trans (by simpa using h45)
   have k1:=kn45 h45
   have k2:=kng hr
   have f3:decide (zh (bs s) ((i:Int)).toNat>=48)=false:=by rw [hbt];exact decide_eq_false (by omega)
   refine zN 116 Tryz.func47 rfl rfl rfl rfl ?_
   intro s0 w he
   repeat' (first
|apply zAe rfl rfl rfl
 . conv=>lhs;whnf
 . first | rfl | assumption
 . conv=>lhs;whnf
 . first | exact bF1 ‹_› | exact bF2 ‹_› | rfl
|apply zG
 . conv=>lhs;whnf
 . assumption
|apply zC
 . conv=>lhs;whnf
 . assumption
|exact (k1 ‹_›).elim
|exact (k2 ‹_›).elim
|refine zA ?_
|refine zB ?_
|refine zH ?_
|apply aw_1
 conv=>whnf
 refine ⟨?_,trivial⟩
|apply za rfl rfl
 . conv=>lhs;whnf
 . conv=>lhs;whnf
 . first | exact bF1 ‹_› | exact bF2 ‹_›
|apply s_1
 conv=>whnf;arg 1;arg 4;arg 3;whnf
 refine ⟨?_,?_⟩
|apply ze rfl
 . conv=>lhs;whnf
 . conv=>lhs;whnf
 . first | exact hsg | exact hlt | exact hsp
|apply zS rfl rfl rfl
 . conv=>lhs;whnf
 . conv=>lhs;whnf;arg 1;whnf
 . conv=>lhs;whnf;arg 1;whnf
 . exact ⟨by kernel_rfl,by kernel_rfl⟩
 . rfl
|apply zL rfl
 . conv=>lhs;whnf
 . conv=>lhs;whnf
 . first | rfl | assumption
 . conv=>lhs;whnf;arg 2;whnf
|apply zr rfl
 . conv=>lhs;whnf
 . conv=>lhs;whnf
 . first | rfl | assumption
|apply zF rfl
 . conv=>lhs;whnf
 . conv=>lhs;whnf
 . conv=>lhs;whnf;arg 2;whnf
|refine zO ?_
|refine zQ ?_
|refine zE ?_
|exact trivial
|intro hg)
   . exact ⟨_,_,_,rfl,rfl,rfl,rfl⟩
   all_goals first
    |exact zU (by omega)
    |exact ⟨by kernel_rfl,by omega,by omega⟩
    |exact ⟨by kernel_rfl,by omega,by omega,by omega⟩
    |(rw [hbt];exact zAc _)
    |exact (show Tryz.prog.underlying _=some TypeDesc.string by kernel_rfl)
    |skip
 . have f2:(zh (bs s) ((i:Int)).toNat==45)=false:=(q 45 (by omega)).trans (by simpa using h45)
   have k1:=kn45 h45
   have k2:=kge (by omega)
   have f3:decide (zh (bs s) ((i:Int)).toNat>=48)=true:=by rw [hbt];exact decide_eq_true (by omega)
   have f4:decide (zh (bs s) ((i:Int)).toNat<=57)=false:=by rw [hbt];exact decide_eq_false (by omega)
   refine zN 116 Tryz.func47 rfl rfl rfl rfl ?_
   intro s0 w he
   repeat' (first
|apply zAj rfl rfl rfl
 . conv=>lhs;whnf
 . first | rfl | assumption
 . conv=>lhs;whnf
 . first | exact bT1 ‹_› | exact bT2 ‹_› | rfl
|apply zG
 . conv=>lhs;whnf
 . assumption
|apply zC
 . conv=>lhs;whnf
 . assumption
|exact (k1 ‹_›).elim
|exact (k2 ‹_›).elim
|refine zA ?_
|refine zB ?_
|refine zH ?_
|apply aw_1
 conv=>whnf
 refine ⟨?_,trivial⟩
|apply za rfl rfl
 . conv=>lhs;whnf
 . conv=>lhs;whnf
 . first | exact bF1 ‹_› | exact bF2 ‹_›
|apply s_1
 conv=>whnf;arg 1;arg 4;arg 3;whnf
 refine ⟨?_,?_⟩
|apply ze rfl
 . conv=>lhs;whnf
 . conv=>lhs;whnf
 . first | exact hsg | exact hlt | exact hsp
|apply zS rfl rfl rfl
 . conv=>lhs;whnf
 . conv=>lhs;whnf;arg 1;whnf
 . conv=>lhs;whnf;arg 1;whnf
 . exact ⟨by kernel_rfl,by kernel_rfl⟩
 . rfl
|apply zL rfl
 . conv=>lhs;whnf
 . conv=>lhs;whnf
 . first | rfl | assumption
 . conv=>lhs;whnf;arg 2;whnf
|apply zF rfl
 . conv=>lhs;whnf
 . conv=>lhs;whnf
 . conv=>lhs;whnf;arg 2;whnf
|refine zO ?_
|refine zQ ?_
|refine zE ?_
|exact trivial
|intro hg)
   . exact ⟨_,_,_,rfl,rfl,rfl,rfl⟩
   all_goals first
    |exact zU (by omega)
    |exact ⟨by kernel_rfl,by omega,by omega⟩
    |exact ⟨by kernel_rfl,by omega,by omega,by omega⟩
    |(rw [hbt];exact zAc _)
    |exact (show Tryz.prog.underlying _=some TypeDesc.string by kernel_rfl)
    |skip
theorem read_none (h0:zAi s[i]=false) (h46:s[i]≠46) (h45:s[i]≠45) (hr:s[i].toNat<48\/57<s[i].toNat) (hw:wrdU s[i]=false) (h34:s[i]≠34):AC EN5 Tryz.prog 47 [.c (.string (bs s)),.c (.int .i64 (i:Int))] failR:=by
 have hz:=zW s
 have hbt:=zCV hi
 have hgd:=zEk hi
 have hdr:s.drop i=s[i]::s.drop (i+1):=List.drop_eq_getElem_cons hi
 have q : ∀ n:Nat,n<256->(zh (bs s) ((i:Int)).toNat==(n:Int))=(s[i]==UInt8.ofNat n):=fun n hn=>by rw [hbt];exact zE5 _ n hn
 have hsg:=zAR ((bs s).data.toList.getD ((i:Int)).toNat 0)
 have f0:zAi ((bs s).data.toList.getD ((i:Int)).toNat 0)=false:=by rw [Int.toNat_natCast,hgd];exact h0
 have hle:=zBy wrdU (s.drop (i+1))
 rw [List.length_drop] at hle
 have f1:(zh (bs s) ((i:Int)).toNat==46)=false:=(q 46 (by omega)).trans (by simpa using h46)
 have k45:s[i]=45->((zh (bs s) ((i:Int)).toNat==45)==false)=true->False:=fun h h2=>by
  have e:(zh (bs s) ((i:Int)).toNat==45)=true:=(q 45 (by omega)).trans (by rw [h];rfl)
  rw [e] at h2;cases h2
 have kn45:s[i]≠45->((zh (bs s) ((i:Int)).toNat==45)==false)=false->False:=fun h h2=>by
  have e:(zh (bs s) ((i:Int)).toNat==45)=false:=(q 45 (by omega)).trans (by simpa using h)
  rw [e] at h2;cases h2
 have kge:48<=s[i].toNat->(decide (zh (bs s) ((i:Int)).toNat>=48)==true)=false->False:=fun h h2=>by
  rw [hbt,decide_eq_true (show ((s[i].toNat:Nat):Int)>=48 by omega)] at h2;cases h2
 have kng:s[i].toNat<48->(decide (zh (bs s) ((i:Int)).toNat>=48)==true)=true->False:=fun h h2=>by
  rw [hbt,decide_eq_false (show ¬ ((s[i].toNat:Nat):Int)>=48 by omega)] at h2;cases h2
 have hlt:=zCA ((bs s).data.toList.getD ((i:Int)).toNat 0)
 have f5:wrdU ((bs s).data.toList.getD ((i:Int)).toNat 0)=false:=by rw [Int.toNat_natCast,hgd];exact hw
 have f6:(zh (bs s) ((i:Int)).toNat==34)=false:=(q 34 (by omega)).trans (by simpa using h34)
 rcases hr with hr | hr
 . have f2:(zh (bs s) ((i:Int)).toNat==45)=false:=(q 45 (by omega)).trans (by simpa using h45)
   have k1:=kn45 h45
   have k2:=kng hr
   have f3:decide (zh (bs s) ((i:Int)).toNat>=48)=false:=by rw [hbt];exact decide_eq_false (by omega)
   refine zN 116 Tryz.func47 rfl rfl rfl rfl ?_
   intro s0 w he
   repeat' (first
|apply zAe rfl rfl rfl
 . conv=>lhs;whnf
 . first | rfl | assumption
 . conv=>lhs;whnf
 . first | exact bF1 ‹_› | exact bF2 ‹_› | rfl
|apply zC
 . conv=>lhs;whnf
 . assumption
|exact (k1 ‹_›).elim
|exact (k2 ‹_›).elim
|refine zA ?_
|refine zB ?_
|refine zH ?_
|refine zR ?_
|apply aw_1
 conv=>whnf
 refine ⟨?_,trivial⟩
|apply za rfl rfl
 . conv=>lhs;whnf
 . conv=>lhs;whnf
 . first | exact bF1 ‹_› | exact bF2 ‹_›
|apply s_1
 conv=>whnf;arg 1;arg 4;arg 3;whnf
 refine ⟨?_,?_⟩
|apply ze rfl
 . conv=>lhs;whnf
 . conv=>lhs;whnf
 . first | exact hsg | exact hlt
|apply zS rfl rfl rfl
 . conv=>lhs;whnf
 . conv=>lhs;whnf;arg 1;whnf
 . conv=>lhs;whnf;arg 1;whnf
 . exact ⟨by kernel_rfl,by kernel_rfl⟩
 . rfl
|apply zL rfl
 . conv=>lhs;whnf
 . conv=>lhs;whnf
 . first | rfl | assumption
 . conv=>lhs;whnf;arg 2;whnf
|apply zr rfl
 . conv=>lhs;whnf
 . conv=>lhs;whnf
 . first | rfl | assumption
|apply zF rfl
 . conv=>lhs;whnf
 . conv=>lhs;whnf
 . conv=>lhs;whnf;arg 2;whnf
|refine zE ?_
|exact trivial
|intro hg)
   . exact ⟨_,_,_,rfl,rfl,rfl,rfl⟩
   all_goals first
    |exact zU (by omega)
    |exact ⟨by kernel_rfl,by omega,by omega⟩
    |exact ⟨by kernel_rfl,by omega,by omega,by omega⟩
    |(rw [hbt];exact zAc _)
    |exact (show Tryz.prog.underlying _=some TypeDesc.string by kernel_rfl)
    |skip
 . have f2:(zh (bs s) ((i:Int)).toNat==45)=false:=(q 45 (by omega)).trans (by simpa using h45)
   have k1:=kn45 h45
   have k2:=kge (by omega)
   have f3:decide (zh (bs s) ((i:Int)).toNat>=48)=true:=by rw [hbt];exact decide_eq_true (by omega)
   have f4:decide (zh (bs s) ((i:Int)).toNat<=57)=false:=by rw [hbt];exact decide_eq_false (by omega)
   refine zN 116 Tryz.func47 rfl rfl rfl rfl ?_
   intro s0 w he
   repeat' (first
|apply zAj rfl rfl rfl
 . conv=>lhs;whnf
 . first | rfl | assumption
 . conv=>lhs;whnf
 . first | exact bT1 ‹_› | exact bT2 ‹_› | rfl
|apply zC
 . conv=>lhs;whnf
 . assumption
|exact (k1 ‹_›).elim
|exact (k2 ‹_›).elim
|refine zA ?_
|refine zB ?_
|refine zH ?_
|refine zR ?_
|apply aw_1
 conv=>whnf
 refine ⟨?_,trivial⟩
|apply za rfl rfl
 . conv=>lhs;whnf
 . conv=>lhs;whnf
 . first | exact bF1 ‹_› | exact bF2 ‹_›
|apply s_1
 conv=>whnf;arg 1;arg 4;arg 3;whnf
 refine ⟨?_,?_⟩
|apply ze rfl
 . conv=>lhs;whnf
 . conv=>lhs;whnf
 . first | exact hsg | exact hlt
|apply zS rfl rfl rfl
 . conv=>lhs;whnf
 . conv=>lhs;whnf;arg 1;whnf
 . conv=>lhs;whnf;arg 1;whnf
 . exact ⟨by kernel_rfl,by kernel_rfl⟩
 . rfl
|apply zL rfl
 . conv=>lhs;whnf
 . conv=>lhs;whnf
 . first | rfl | assumption
 . conv=>lhs;whnf;arg 2;whnf
|apply zF rfl
 . conv=>lhs;whnf
 . conv=>lhs;whnf
 . conv=>lhs;whnf;arg 2;whnf
|refine zE ?_
|exact trivial
|intro hg)
   . exact ⟨_,_,_,rfl,rfl,rfl,rfl⟩
   all_goals first
    |exact zU (by omega)
    |exact ⟨by kernel_rfl,by omega,by omega⟩
    |exact ⟨by kernel_rfl,by omega,by omega,by omega⟩
    |(rw [hbt];exact zAc _)
    |exact (show Tryz.prog.underlying _=some TypeDesc.string by kernel_rfl)
    |skip
end
end
section
open Go.RowKit
set_option linter.unusedSectionVars false
attribute [local irreducible] wpList Calls Code.wp AW AWo OpOk seqK zz z8 loopK endK AC zl Yld Sub
attribute [local irreducible] ACB ACX ACE absLexG YldG
section
variable {s:List UInt8} {i:Nat} (hi:i<s.length) (hs:s.length<=70000)
include hi hs
theorem read_open (h:s[i]=34) (hn:litN (s.drop (i+1))=none):AC EN5 Tryz.prog 47 [.c (.string (bs s)),.c (.int .i64 (i:Int))] failR:=by
 have hz:=zW s
 have hbt:=zCV hi
 have hgd:=zEk hi
 have hdr:s.drop i=s[i]::s.drop (i+1):=List.drop_eq_getElem_cons hi
 have q : ∀ n:Nat,n<256->(zh (bs s) ((i:Int)).toNat==(n:Int))=(s[i]==UInt8.ofNat n):=fun n hn=>by rw [hbt];exact zE5 _ n hn
 have hsg:=zAR ((bs s).data.toList.getD ((i:Int)).toNat 0)
 have f0:zAi ((bs s).data.toList.getD ((i:Int)).toNat 0)=false:=by rw [Int.toNat_natCast,hgd,h];rfl
 have f1:(zh (bs s) ((i:Int)).toNat==46)=false:=(q 46 (by omega)).trans (by rw [h];rfl)
 have f2:(zh (bs s) ((i:Int)).toNat==45)=false:=(q 45 (by omega)).trans (by rw [h];rfl)
 have f3:decide (zh (bs s) ((i:Int)).toNat>=48)=false:=by rw [hbt,h];rfl
 have k1:((zh (bs s) ((i:Int)).toNat==45)==false)=false->False:=fun h2=>by rw [f2] at h2;cases h2
 have k2:(decide (zh (bs s) ((i:Int)).toNat>=48)==true)=true->False:=fun h2=>by rw [f3] at h2;cases h2
 have hlt:=zCA ((bs s).data.toList.getD ((i:Int)).toNat 0)
 have f5:wrdU ((bs s).data.toList.getD ((i:Int)).toNat 0)=false:=by rw [Int.toNat_natCast,hgd,h];rfl
 have f6:(zh (bs s) ((i:Int)).toNat==34)=true:=(q 34 (by omega)).trans (by rw [h];rfl)
 have hll:=zGL s i hi (by omega)
 have hv:litV s i = -1:=by unfold litV;rw [hn]
 rw [hv] at hll
 refine zN 116 Tryz.func47 rfl rfl rfl rfl ?_
 intro s0 w he
 repeat' (first
|apply zAe rfl rfl rfl
 . conv=>lhs;whnf
 . first | rfl | assumption
 . conv=>lhs;whnf
 . first | exact bF1 ‹_› | exact bF2 ‹_› | rfl
|apply zG
 . conv=>lhs;whnf
 . assumption
|apply zC
 . conv=>lhs;whnf
 . assumption
|exact (k1 ‹_›).elim
|exact (k2 ‹_›).elim
|refine zA ?_
|refine zB ?_
|refine zH ?_
|apply aw_1
 conv=>whnf
 refine ⟨?_,trivial⟩
|apply za rfl rfl
 . conv=>lhs;whnf
 . conv=>lhs;whnf
 . first | exact bF1 ‹_› | exact bF2 ‹_›
|apply s_1
 conv=>whnf;arg 1;arg 4;arg 3;whnf
 refine ⟨?_,?_⟩
|apply ze rfl
 . conv=>lhs;whnf
 . conv=>lhs;whnf
 . first | exact hsg | exact hlt | exact hll
|apply zS rfl rfl rfl
 . conv=>lhs;whnf
 . conv=>lhs;whnf;arg 1;whnf
 . conv=>lhs;whnf;arg 1;whnf
 . exact ⟨by kernel_rfl,by kernel_rfl⟩
 . rfl
|apply zL rfl
 . conv=>lhs;whnf
 . conv=>lhs;whnf
 . first | rfl | assumption
 . conv=>lhs;whnf;arg 2;whnf
|apply zr rfl
 . conv=>lhs;whnf
 . conv=>lhs;whnf
 . first | rfl | assumption
|apply zF rfl
 . conv=>lhs;whnf
 . conv=>lhs;whnf
 . conv=>lhs;whnf;arg 2;whnf
|refine zO ?_
|refine zQ ?_
|refine zE ?_
|exact trivial
|intro hg)
 . exact ⟨_,_,_,rfl,rfl,rfl,rfl⟩
 all_goals first
  |exact zU (by omega)
  |exact ⟨by kernel_rfl,by omega,by omega⟩
  |exact ⟨by kernel_rfl,by omega,by omega,by omega⟩
  |(rw [hbt];exact zAc _)
  |exact (show Tryz.prog.underlying _=some TypeDesc.string by kernel_rfl)
  |skip
theorem read_text (h:s[i]=34) (n:Nat) (hn:litN (s.drop (i+1))=some n):AC EN5 Tryz.prog 47 [.c (.string (bs s)),.c (.int .i64 (i:Int))] (tupR ⟨4,(unquoteU (s[i]::(s.drop (i+1)).take n)).getD [],i⟩ (i+1+n) (uqE (unquoteU (s[i]::(s.drop (i+1)).take n)))):=by
 have hz:=zW s
 have hbt:=zCV hi
 have hgd:=zEk hi
 have hdr:s.drop i=s[i]::s.drop (i+1):=List.drop_eq_getElem_cons hi
 have q : ∀ n:Nat,n<256->(zh (bs s) ((i:Int)).toNat==(n:Int))=(s[i]==UInt8.ofNat n):=fun n hn=>by rw [hbt];exact zE5 _ n hn
 have hsg:=zAR ((bs s).data.toList.getD ((i:Int)).toNat 0)
 have f0:zAi ((bs s).data.toList.getD ((i:Int)).toNat 0)=false:=by rw [Int.toNat_natCast,hgd,h];rfl
 have f1:(zh (bs s) ((i:Int)).toNat==46)=false:=(q 46 (by omega)).trans (by rw [h];rfl)
 have f2:(zh (bs s) ((i:Int)).toNat==45)=false:=(q 45 (by omega)).trans (by rw [h];rfl)
 have f3:decide (zh (bs s) ((i:Int)).toNat>=48)=false:=by rw [hbt,h];rfl
 have k1:((zh (bs s) ((i:Int)).toNat==45)==false)=false->False:=fun h2=>by rw [f2] at h2;cases h2
 have k2:(decide (zh (bs s) ((i:Int)).toNat>=48)==true)=true->False:=fun h2=>by rw [f3] at h2;cases h2
 have hlt:=zCA ((bs s).data.toList.getD ((i:Int)).toNat 0)
 have f5:wrdU ((bs s).data.toList.getD ((i:Int)).toNat 0)=false:=by rw [Int.toNat_natCast,hgd,h];rfl
 have f6:(zh (bs s) ((i:Int)).toNat==34)=true:=(q 34 (by omega)).trans (by rw [h];rfl)
 have hll:=zGL s i hi (by omega)
 have hln:=zFM _ n hn
 rw [List.length_drop] at hln
 have hv:litV s i=((i+1+n:Nat):Int):=by unfold litV;rw [hn]
 rw [hv] at hll
 have f7:decide (((i+1+n:Nat):Int)<0)=false:=decide_eq_false (by omega)
 have hx:(bs s).extract ((i:Int)).toNat (((i+1+n:Nat):Int)).toNat=bs (s[i]::(s.drop (i+1)).take n):=by
  rw [Int.toNat_natCast,Int.toNat_natCast,zKg s (by omega) (by omega),hdr,show i+1+n-i=n+1 by omega,List.take_succ_cons]
 have hsz:((bs s).extract ((i:Int)).toNat (((i+1+n:Nat):Int)).toNat).size<=100000:=by rw [ByteArray.size_extract];omega
 have huq:=zIv _ hsz
 unfold uqVV at huq
 have htx:tx ((bs s).extract ((i:Int)).toNat (((i+1+n:Nat):Int)).toNat)=s[i]::(s.drop (i+1)).take n:=by rw [hx];exact zAq _
 rw [htx] at huq
 refine zN 116 Tryz.func47 rfl rfl rfl rfl ?_
 intro s0 w he
 repeat' (first
|apply zAe rfl rfl rfl
 . conv=>lhs;whnf
 . first | rfl | assumption
 . conv=>lhs;whnf
 . first | exact bF1 ‹_› | exact bF2 ‹_› | rfl
|apply zG
 . conv=>lhs;whnf
 . assumption
|apply zC
 . conv=>lhs;whnf
 . assumption
|exact (k1 ‹_›).elim
|exact (k2 ‹_›).elim
|refine zA ?_
|refine zB ?_
|refine zH ?_
|apply aw_1
 conv=>whnf
 refine ⟨?_,trivial⟩
|apply za rfl rfl
 . conv=>lhs;whnf
 . conv=>lhs;whnf
 . first | exact bF1 ‹_› | exact bF2 ‹_›
|apply s_1
 conv=>whnf;arg 1;arg 4;arg 3;whnf
 refine ⟨?_,?_⟩
|apply ze rfl
 . conv=>lhs;whnf
 . conv=>lhs;whnf
 . first | exact hsg | exact hlt | exact hll | exact huq
|apply zS rfl rfl rfl
 . conv=>lhs;whnf
 . conv=>lhs;whnf;arg 1;whnf
 . conv=>lhs;whnf;arg 1;whnf
 . exact ⟨by kernel_rfl,by kernel_rfl⟩
 . rfl
|apply zL rfl
 . conv=>lhs;whnf
 . conv=>lhs;whnf
 . first | rfl | assumption
 . conv=>lhs;whnf;arg 2;whnf
|apply zr rfl
 . conv=>lhs;whnf
 . conv=>lhs;whnf
 . first | rfl | assumption
|apply zF rfl
 . conv=>lhs;whnf
 . conv=>lhs;whnf
 . conv=>lhs;whnf;arg 2;whnf
|refine zO ?_
|refine zQ ?_
|refine zE ?_
|exact trivial
|intro hg)
 . exact ⟨_,_,_,rfl,rfl,rfl,rfl⟩
 all_goals first
  |exact zU (by omega)
  |exact ⟨by kernel_rfl,by omega,by omega⟩
  |exact ⟨by kernel_rfl,by omega,by omega,by omega⟩
  |(rw [hbt];exact zAc _)
  |exact (show Tryz.prog.underlying _=some TypeDesc.string by kernel_rfl)
  |skip
theorem read_ac:AC EN5 Tryz.prog 47 [.c (.string (bs s)),.c (.int .i64 (i:Int))] (readV (s.drop i) i):=by
 have hdr:s.drop i=s[i]::s.drop (i+1):=List.drop_eq_getElem_cons hi
 rw [hdr]
 unfold readV
 simp only []
 by_cases h0:zAi s[i]=true
 . rw [if_pos h0];exact read_sign hi hs h0
 rw [if_neg h0]
 have h0:zAi s[i]=false:=by simpa using h0
 by_cases h46:s[i]=46
 . rw [if_pos (by simp [h46])]
   have hp:Lib.hasPrefix (s.drop i) [46,46,46]=decide ((s.drop (i+1)).take 2=[46,46]):=by
    rw [hdr,h46]
    show List.isPrefixOf [46,46] (s.drop (i+1))=_
    rw [Bool.eq_iff_iff]
    simp only [List.isPrefixOf_iff_prefix,decide_eq_true_eq,List.prefix_iff_eq_take]
    exact eq_comm
   have:=read_dots hi hs h0 h46 _ hp (fun hd=>by
    have:=congrArg List.length (of_decide_eq_true hd)
    rw [List.length_take,List.length_drop] at this
    simp at this;omega)
   simpa using this
 rw [if_neg (by simpa using h46)]
 by_cases hd:(s[i]==45||digU s[i])=true
 . rw [if_pos hd]
   refine read_num hi hs h0 h46 ?_
   by_cases h45:s[i]=45
   . exact .inl h45
   . exact .inr ⟨h45,by simpa [h45] using hd⟩
 rw [if_neg hd]
 have hd:(s[i]==45||digU s[i])=false:=by simpa using hd
 rw [Bool.or_eq_false_iff] at hd
 have h45:s[i]≠45:=by simpa using hd.1
 have hr:s[i].toNat<48\/57<s[i].toNat:=by
  have:=hd.2
  simp only [digU,decide_eq_false_iff_not] at this
  omega
 by_cases hw:wrdU s[i]=true
 . rw [if_pos hw]
   by_cases hl:spanN wrdU (s.drop (i+1))+1>64
   . rw [if_pos hl];exact read_long hi hs h0 h46 h45 hr hw (by omega)
   . rw [if_neg hl];exact read_word hi hs h0 h46 h45 hr hw (by omega)
 rw [if_neg hw]
 have hw:wrdU s[i]=false:=by simpa using hw
 by_cases h34:s[i]=34
 . rw [if_pos (by simp [h34])]
   cases hn:litN (s.drop (i+1)) with
   |none=>exact read_open hi hs h34 hn
   |some n=>exact read_text hi hs h34 n hn
 . rw [if_neg (by simpa using h34)]
   exact read_none hi hs h0 h46 h45 hr hw h34
end
theorem rd_split (c:UInt8) (r:List UInt8) (i:Nat) :
 (∀ k t n,readU (c::r) = .ok (k,t,n)->readV (c::r) i=tupR ⟨k,t,i⟩ (i+n) 0)/\(∀ e,readU (c::r) = .error e->e≠0 /\ ∃ t k,readV (c::r) i=tupR t k e):=by
 unfold readU readV
 simp only []
 have f3 : ∀ e:Int,(3:Int)=e->e≠0 /\ ∃ t k,failR=tupR t k e:=fun e he=>by subst he;exact ⟨by decide,_,_,rfl⟩
 by_cases h0:zAi c=true
 . rw [if_pos h0,if_pos h0]
   exact ⟨fun k t n h=>by cases h;rfl,fun e h=>by cases h⟩
 rw [if_neg h0,if_neg h0]
 by_cases h46:(c==46)=true
 . rw [if_pos h46,if_pos h46]
   by_cases hp:r.take 2=[46,46]
   . rw [if_pos hp,if_pos hp]
     exact ⟨fun k t n h=>by cases h;rfl,fun e h=>by cases h⟩
   . rw [if_neg hp,if_neg hp]
     exact ⟨fun k t n h=>(by cases h),fun e h=>by cases h;exact f3 _ rfl⟩
 rw [if_neg h46,if_neg h46]
 by_cases hd:(c==45||digU c)=true
 . rw [if_pos hd,if_pos hd]
   by_cases hn:nerU (numU (c::r.take (spanN wrdU r)))=0
   . rw [if_pos hn]
     refine ⟨fun k t n h => ?_,fun e h=>by cases h⟩
     cases h
     rw [hn,show i+1+spanN wrdU r=i+(spanN wrdU r+1) by omega]
   . rw [if_neg hn]
     exact ⟨fun k t n h=>(by cases h),fun e h=>by cases h;exact ⟨hn,_,_,rfl⟩⟩
 rw [if_neg hd,if_neg hd]
 have hd:(c==45||digU c)=false:=by simpa using hd
 rw [Bool.or_eq_false_iff] at hd
 have hwl:wrdU c=letU c:=by unfold wrdU;rw [hd.2,Bool.or_false]
 rw [hwl]
 by_cases hw:letU c=true
 . rw [if_pos hw,if_pos hw]
   by_cases hl:spanN wrdU r+1>64
   . rw [if_pos hl,if_pos hl]
     exact ⟨fun k t n h=>(by cases h),fun e h=>by cases h;exact f3 _ rfl⟩
   . rw [if_neg hl,if_neg hl]
     refine ⟨fun k t n h => ?_,fun e h=>by cases h⟩
     cases h
     rw [show i+1+spanN wrdU r=i+(spanN wrdU r+1) by omega]
 rw [if_neg hw,if_neg hw]
 by_cases h34:(c==34)=true
 . rw [if_pos h34,if_pos h34]
   cases hn:litN r with
   |none=>exact ⟨fun k t n h=>(by cases h),fun e h=>by cases h;exact f3 _ rfl⟩
   |some n =>
    dsimp only
    cases hu:unquoteU (c::r.take n) with
    |none=>exact ⟨fun k t n h=>(by cases h),fun e h=>by cases h;exact ⟨by decide,_,_,rfl⟩⟩
    |some t =>
     refine ⟨fun k t n h => ?_,fun e h=>by cases h⟩
     cases h
     show tupR ⟨4,t,i⟩ (i+1+n) 0=tupR ⟨4,t,i⟩ (i+(n+1)) 0
     rw [show i+1+n=i+(n+1) by omega]
 . rw [if_neg h34,if_neg h34]
   exact ⟨fun k t n h=>(by cases h),fun e h=>by cases h;exact f3 _ rfl⟩
theorem zHM:zAD Tryz.prog 56=some (89,32):=by kernel_rfl
def scanG (f:Nat) (l:List UInt8) (k:Nat):Except (Nat × Int) (List Tok):=
 match l with
 |[] => .ok [⟨5,[],k⟩]
 |c::r=>match zEh (c::r) k with
  |.error e => .error (k,e)
  |.ok (t,n)=>match scanF f ((c::r).drop n) (k+n) with
   |.error e => .error e
   |.ok ts => .ok (t::ts)
theorem scan_G (f:Nat) (l:List UInt8) (i:Nat):scanF (f+1) l i=scanG f (l.drop (skipM false l)) (i+skipM false l):=by
 have hle:=zA2 false l
 rw [scanF]
 unfold scanG
 cases h:l.drop (skipM false l) with
 |nil =>
  have:=congrArg List.length h
  rw [List.length_drop] at this
  have e:skipM false l=l.length:=by simp at this;omega
  rw [e]
 |cons c r=>rfl
def ahead (acc:List Tok):Except (Nat × Int) (List Tok)->Except (Nat × Int) (List Tok)
 |.error e => .error e
 |.ok ts => .ok (acc++ts)
noncomputable def scanW:Except (Nat × Int) (List Tok)->V
 |.ok ts => .tup [.sl 89 (ts.map tokD),.c (.int .i64 0),.c (.int .i64 0)]
 |.error x => .tup [.c (.slice none 0 0),.c (.int .i64 (x.1:Int)),.c (.int .i64 x.2)]
theorem zF8 (r:Except (Nat × Int) (List Tok)):(scanW r).pure=true:=by cases r<;>rfl
noncomputable def HSn (s:List UInt8) (k:Nat) (acc:List Tok):Vst 44:=
 stS 44 [(0,.c (.string (bs s))),(5,.own 5 89 (acc.map tokD)),(6,.c (.int .i64 (k:Int)))] [(5,.tok 89 (acc.map tokD).length)]
theorem scan_big (s:List UInt8) (hs:65536<s.length) (hs2:s.length<=4000000000):AC EN5 Tryz.prog 23 [.c (.string (bs s))] (scanW (scanT s)):=by
 have hz:=zW s
 have e:scanT s = .error (65536,4):=by unfold scanT;rw [if_pos hs]
 have f0:decide (((bs s).size:Int)>65536)=true:=decide_eq_true (by omega)
 rw [e]
 refine zN 44 Tryz.func23 rfl rfl rfl (zF8 _) ?_
 intro s0 w he
 repeat' (first
|apply zG
 . conv=>lhs;whnf
 . assumption
|refine zA ?_
|refine zB ?_
|refine zH ?_
|apply aw_1
 conv=>whnf
 refine ⟨?_,trivial⟩
|apply s_1
 conv=>whnf;arg 1;arg 4;arg 3;whnf
 refine ⟨?_,?_⟩
|refine zO ?_
|refine zE ?_
|exact trivial)
 . exact ⟨_,_,_,rfl,rfl,rfl,rfl⟩
 all_goals exact (show Tryz.prog.underlying _=some TypeDesc.string by kernel_rfl)
theorem scan_ac (s:List UInt8) (hs:s.length<=4000000000):AC EN5 Tryz.prog 23 [.c (.string (bs s))] (scanW (scanT s)):=by
 by_cases hbig:65536<s.length
 . exact scan_big s hbig hs
 have hz:=zW s
 have f0:decide (((bs s).size:Int)>65536)=false:=decide_eq_false (by omega)
 have hsk0:=skip_ac s 0 (by omega) (by omega)
 rw [Nat.zero_add,List.drop_zero] at hsk0
 have hkl:=zA2 false s
 have e0:scanT s=ahead [] (scanG s.length (s.drop (skipM false s)) (skipM false s)):=by
  unfold scanT
  rw [if_neg hbig,scan_G,Nat.zero_add]
  cases scanG s.length (s.drop (skipM false s)) (skipM false s)<;>rfl
 refine zN 44 Tryz.func23 rfl rfl rfl (zF8 _) ?_
 intro s0 w he
 repeat' (first
|apply zC
 . conv=>lhs;whnf
 . assumption
|refine zA ?_
|refine zB ?_
|refine zH ?_
|apply aw_1
 conv=>whnf
 refine ⟨?_,trivial⟩
|apply s_1
 conv=>whnf;arg 1;arg 4;arg 3;whnf
 refine ⟨?_,?_⟩
|apply ze rfl
 . conv=>lhs;whnf
 . conv=>lhs;whnf
 . first | exact hsk0
|exact trivial)
 refine zg (Sub.own (t:=5) (e:=89) rfl rfl) ?_
 refine zi (fun j st => ∃ k acc f,k+j=s.length/\acc.length<=k/\s.length<f+k+1/\scanT s=ahead acc (scanG f (s.drop k) k)/\Sub (cx EN5 Tryz.prog s0 w he) st (HSn s k acc)) (s.length-skipM false s) ⟨skipM false s,[],s.length,by omega,by simp,by omega,e0,?_⟩ ?_
 . exact Sub.live ⟨rfl,rfl,rfl,trivial⟩ ⟨rfl,trivial⟩
 rintro j st ⟨k,acc,f,hkj,hacc,hf,hI,hs2⟩
 refine zg hs2 ?_
 clear hs2 hsk0
 rw [hI]
 clear hI e0
 by_cases hk:k<s.length
 . have f1:decide ((k:Int)<((bs s).size:Nat))=true:=decide_eq_true (by omega)
   have hrd:=read_ac hk (by omega)
   have hdr:s.drop k=s[k]::s.drop (k+1):=List.drop_eq_getElem_cons hk
   obtain ⟨r1,r2⟩:=rd_split s[k] (s.drop (k+1)) k
   rw [hdr] at hrd |-
   cases hr:readU (s[k]::s.drop (k+1)) with
   |error e =>
    obtain ⟨he0,t',k',ht⟩:=r2 e hr
    rw [ht] at hrd
    unfold tupR at hrd
    have hrt:zEh (s[k]::s.drop (k+1)) k = .error e:=by unfold zEh;rw [hr]
    have eG:scanG f (s[k]::s.drop (k+1)) k = .error (k,e):=by unfold scanG;simp only [hrt]
    rw [eG]
    have f2:(e != 0)=true:=by simpa using he0
    repeat' (first
|apply zG
 . conv=>lhs;whnf
 . assumption
|refine zA ?_
|refine zB ?_
|refine zH ?_
|apply aw_1
 conv=>whnf
 refine ⟨?_,trivial⟩
|apply s_1
 conv=>whnf;arg 1;arg 4;arg 3;whnf
 refine ⟨?_,?_⟩
|apply ze rfl
 . conv=>lhs;whnf
 . conv=>lhs;whnf
 . first | exact hrd
|apply zS rfl rfl rfl
 . conv=>lhs;whnf
 . conv=>lhs;whnf;arg 1;whnf
 . conv=>lhs;whnf;arg 1;whnf
 . exact ⟨by kernel_rfl,by kernel_rfl⟩
 . rfl
|refine zO ?_
|refine zQ ?_
|refine zy ?_
|refine zE ?_
|exact trivial)
    . exact ⟨_,_,_,rfl,rfl,rfl,rfl⟩
    all_goals exact (show Tryz.prog.underlying _=some TypeDesc.string by kernel_rfl)
   |ok p =>
    obtain ⟨kk,t,n⟩:=p
    have hn:=zC6 hr
    have hdl:(s[k]::s.drop (k+1)).length=s.length-k:=by rw [<- hdr,List.length_drop]
    rw [hdl] at hn
    rw [r1 kk t n hr] at hrd
    unfold tupR at hrd
    have hsk:=skip_ac s (k+n) (by omega) (by omega)
    have hsl:=zA2 false (s.drop (k+n))
    rw [List.length_drop] at hsl
    have hrt:zEh (s[k]::s.drop (k+1)) k = .ok (⟨kk,t,k⟩,n):=by unfold zEh;rw [hr]
    obtain ⟨f',rfl⟩ : ∃ f',f=f'+1:=⟨f-1,by omega⟩
    have hdn:(s[k]::s.drop (k+1)).drop n=s.drop (k+n):=by rw [<- hdr,List.drop_drop]
    have eG:ahead acc (scanG (f'+1) (s[k]::s.drop (k+1)) k)=ahead (acc++[⟨kk,t,k⟩]) (scanG f' (s.drop (k+n+skipM false (s.drop (k+n)))) (k+n+skipM false (s.drop (k+n)))):=by
     conv=>lhs;unfold scanG
     simp only [hrt,hdn]
     rw [scan_G,List.drop_drop]
     cases scanG f' (s.drop (k+n+skipM false (s.drop (k+n)))) (k+n+skipM false (s.drop (k+n))) with
     |error x=>rfl
     |ok ts=>show Except.ok (acc++_::ts)=Except.ok ((acc++[_])++ts);rw [List.append_assoc];rfl
    rw [eG]
    repeat' (first
|apply zEg [tokD ⟨kk,t,k⟩] rfl rfl
 . conv=>lhs;whnf
 . first | exact zHM | (conv=>lhs;whnf;arg 1;whnf)
 . rfl
 . rfl
 . repeat' (first | exact trivial | apply And.intro | rfl)
|apply zG
 . conv=>lhs;whnf
 . assumption
|refine zA ?_
|refine zB ?_
|refine zH ?_
|refine zR ?_
|apply aw_1
 conv=>whnf
 refine ⟨?_,trivial⟩
|apply s_1
 conv=>whnf;arg 1;arg 4;arg 3;whnf
 refine ⟨?_,?_⟩
|apply ze rfl
 . conv=>lhs;whnf
 . conv=>lhs;whnf
 . first | exact hrd | exact hsk
|apply zS rfl rfl rfl
 . conv=>lhs;whnf
 . conv=>lhs;whnf;arg 1;whnf
 . conv=>lhs;whnf;arg 1;whnf
 . exact ⟨by kernel_rfl,by kernel_rfl⟩
 . rfl
|apply zBf rfl rfl
 . conv=>lhs;whnf
 . first | exact zHM | (conv=>lhs;whnf;arg 1;whnf)
 . first | exact fun _=>rfl | (intro _;kernel_rfl)
 . conv=>lhs;whnf
 . conv=>lhs;whnf;arg 1;whnf
 . conv=>lhs;whnf
|exact trivial)
    . refine zI (j':=j-(n+skipM false (s.drop (k+n)))) (by omega) ⟨k+n+skipM false (s.drop (k+n)),acc++[⟨kk,t,k⟩],f',by omega,by rw [List.length_append];simp only [List.length_cons,List.length_nil];omega,by omega,rfl,Sub.live ⟨rfl,?_,rfl,trivial⟩ ⟨?_,trivial⟩⟩
      . show V.own 5 _ (acc.map tokD++[tokD ⟨kk,t,k⟩])=V.own 5 _ ((acc++[(⟨kk,t,k⟩:Tok)]).map tokD)
        rw [List.map_append];rfl
      . show some (Res.tok _ ((acc.map tokD).length+1))=some (Res.tok _ ((acc++[(⟨kk,t,k⟩:Tok)]).map tokD).length)
        simp
    . refine ⟨by simp,?_,?_⟩<;>simp only [List.length_cons,List.length_nil,List.length_map,maxLen]<;>omega
    . exact (show Tryz.prog.underlying _=some TypeDesc.string by kernel_rfl)
 . have f1:decide ((k:Int)<((bs s).size:Nat))=false:=decide_eq_false (by omega)
   have hdr:s.drop k=[]:=List.drop_of_length_le (by omega)
   rw [hdr]
   have ek:k=s.length:=by omega
   repeat' (first
|apply zEg [tokD ⟨5,[],(bs s).size⟩] rfl rfl
 . conv=>lhs;whnf
 . first | exact zHM | (conv=>lhs;whnf;arg 1;whnf)
 . rfl
 . rfl
 . repeat' (first | exact trivial | apply And.intro | rfl)
|apply zC
 . conv=>lhs;whnf
 . assumption
|refine zA ?_
|refine zB ?_
|refine zH ?_
|apply aw_1
 conv=>whnf
 refine ⟨?_,trivial⟩
|apply s_1
 conv=>whnf;arg 1;arg 4;arg 3;whnf
 refine ⟨?_,?_⟩
|apply zBf rfl rfl
 . conv=>lhs;whnf
 . first | exact zHM | (conv=>lhs;whnf;arg 1;whnf)
 . first | exact fun _=>rfl | (intro _;kernel_rfl)
 . conv=>lhs;whnf
 . conv=>lhs;whnf;arg 1;whnf
 . conv=>lhs;whnf
|refine zM ?_
|refine zK rfl ?_
|refine zJ ?_
|refine zE ?_
|exact trivial)
   . refine ⟨_,_,_,rfl,rfl,rfl,?_⟩
     show V.tup [.sl 89 ((acc++[(⟨5,[],k⟩:Tok)]).map tokD),.c (.int .i64 0),.c (.int .i64 0)]=V.tup [.sl 89 (acc.map tokD++[tokD ⟨5,[],(bs s).size⟩]),.c (.int .i64 0),.c (.int .i64 0)]
     rw [ek,hz,List.map_append];rfl
   . refine ⟨by simp,?_,?_⟩<;>simp only [List.length_cons,List.length_nil,List.length_map,maxLen]<;>omega
   all_goals exact (show Tryz.prog.underlying _=some TypeDesc.string by kernel_rfl)
 exact (show Tryz.prog.underlying _=some TypeDesc.string by kernel_rfl)
end
section
open Go.RowKit
attribute [local irreducible] wpList Calls Code.wp AW AWo OpOk seqK zz z8 loopK endK endKB AC ACB ACX zl absLexG Yld YldG Sub
def zH4 {ε α S:Type} (bsf:S->List Res) (toV:α->V) (toP:ε->Value):Except ε (α × S)->Out
 |.ok (a,x) => .ret (toV a) (bsf x)
 |.error e => .die (toP e)
section
variable {X:Cx} {nn:Nat} {st:Vst nn} {o:Oper} {ops:Array Oper} {l:List Oper} {d:Option Tmp} {KK:Vst nn->Prop} {Q:Vst nn->Prop} {rd wr:Nat->List Nat} {k:Nat}
theorem zGu {ε α S:Type} {f:FuncId} {vs args:List V} {bs:List Res} {spec:Except ε (α × S)} {toV:α->V} {toP:ε->Value} {bsf:S->List Res} (ns:List Nat) (hg:o.guard=none) (hd:o.dst=d) (h:act1 X.P st.rs (ev st) o.op = .call f vs)
 (hc:ACE X.e X.P f args bs (zH4 bsf toV toP spec)) (hnd:ns.Nodup) (ha:renL (φin ns) vs=args) (hb:ns.map (fun n=>(st.rs n).map (renR (φin ns)))=bs.map some)
 (hE : ∀ e,spec = .error e->X.pk (toP e) st.tm (forgetN st.rs ns)) (hK : ∀ a x',spec = .ok (a,x')->AWo X ops l ((st.resN ns ((bsf x').map (renR (φout ns)))).put d (renV (φout ns) (toV a))) KK):AWo X ops (o::l) st KK:=by
 refine zAC hg (zGH ns h hc hnd ha hb (fun r bs' e => ?_) fun pv e => ?_)
 . cases hs:spec with
   |error q=>rw [hs] at e;simp [zH4] at e
   |ok q =>
    obtain ⟨a,x'⟩:=q
    rw [hs] at e
    simp only [zH4,Out.ret.injEq] at e
    obtain ⟨rfl,rfl⟩:=e
    rw [hd]
    exact hK a x' hs
 . cases hs:spec with
   |error q=>rw [hs] at e;simp only [zH4,Out.die.injEq] at e;subst e;exact hE q hs
   |ok q=>rw [hs] at e;simp [zH4] at e
theorem zB8 {f:FuncId} {vs args:List V} {bs:List Res} {pv:Value} (ns:List Nat) (hg:o.guard=none) (h:act1 X.P st.rs (ev st) o.op = .call f vs) (hc:ACE X.e X.P f args bs (.die pv)) (hnd:ns.Nodup) (ha:renL (φin ns) vs=args) (hb:ns.map (fun n=>(st.rs n).map (renR (φin ns)))=bs.map some)
 (hK:X.pk pv st.tm (forgetN st.rs ns)):AWo X ops (o::l) st KK:=
 zAC hg (zEG ns h hc hnd ha hb hK)
theorem g_prN {ε α S:Type} {f:FuncId} {vs args:List V} {bs:List Res} {spec:Except ε (α × S)} {toV:α->V} {toP:ε->Value} {bsf:S->List Res} (ns:List Nat) (dv:α) (ρs:List Res) (hg:o.guard=none) (hd:o.dst=d) (h:act1 X.P st.rs (ev st) o.op = .call f vs)
 (hc:ACE X.e X.P f args bs (zH4 bsf toV toP spec)) (hnd:ns.Nodup) (ha:renL (φin ns) vs=args) (hb:ns.map (fun n=>(st.rs n).map (renR (φin ns)))=bs.map some) (hlen : ∀ x,(bsf x).length=ns.length) (hlen2:ρs.length=ns.length) (hl:ns.all (fun n=>(wr k).contains n)=true)
 (hE : ∀ e,spec = .error e -> ∀ tm rs,X.pk (toP e) tm rs) (hK : ∀ a x',spec = .ok (a,x')->absLexG X ops rd wr Q (k+1) l ((st.resN ns ((bsf x').map (renR (φout ns)))).put d (renV (φout ns) (toV a))))
 (hD : ∀ e,spec = .error e->absLexG X ops rd wr Q (k+1) l ((st.resN ns ρs).put d (toV dv))):absLexG X ops rd wr Q k (o::l) st:=by
 cases hs:spec with
 |error e =>
  rw [hs] at hc
  exact zJR ns (toV dv) ρs hg hd h hc hnd ha hb hlen2 hl (hE e hs) (hD e hs)
 |ok q =>
  obtain ⟨a,x'⟩:=q
  rw [hs] at hc
  exact g_callB ns hg hd h hc hnd ha hb (hlen x') hl (hK a x' hs)
theorem zHE {P:Program} {rs:Array ResultVar} {x:ResultVar} {out:Out} {v:V} (hx:rs.toList=[x]) (h:res1 P st x = .val True v) (ho : ∃ bs',out = .ret v.out bs'/\zEj st 0 bs'):zFc P rs out .normal st:=by
 obtain ⟨bs',h1,h2⟩:=ho
 exact zKJ h1 (by rw [hx];exact ⟨v,h,rfl⟩) h2
theorem zCu {P:Program} {rs:Array ResultVar} {out:Out} (hx:rs.toList=[]) (ho : ∃ bs',out = .ret (.tup []) bs'/\zEj st 0 bs'):zFc P rs out .normal st:=by
 obtain ⟨bs',h1,h2⟩:=ho
 exact zKJ h1 (by rw [hx];rfl) h2
end
end
section
open Go.RowKit
set_option linter.unusedSectionVars false
attribute [local irreducible] wpList Calls Code.wp AW AWo OpOk seqK zz z8 loopK endK AC zl Yld Sub
attribute [local irreducible] ACB ACX ACE absLexG YldG YldU
def clS (al:List Tok) (x:PS):List V:=[.sl 89 (al.map tokD),.c (.int .i64 ((al.length-x.ts.length:Nat):Int))]
theorem zP (al:List Tok) (φ:Nat->Option Nat) (x:PS):renL φ (clS al x)=clS al x:=rfl
def boxS (al:List Tok) (x:PS):Res:=.box 64 (clS al x)
def zE9 (e:Nat × Int):Value:=.iface 60 (.agg #[.int .i64 (e.1:Int),.int .i64 e.2])
def outS {α:Type} (al:List Tok) (toV:α->V) (r:PR α):Out:=outP 64 (clS al) toV zE9 r
theorem zu (al:List Tok) (x:PS):clS al x=clS al x:=rfl
section
variable {al:List Tok} {x:PS} (h:Sx al x)
include h
theorem etaS1 (hk:(hdT x).k≠5):[V.sl 89 (al.map tokD),.c (.int .i64 (((al.length-x.ts.length:Nat):Int)+1))]=clS al (nxT x):=by
 have h1:=(h.nx hk).2
 have h2:=h.len
 unfold clS
 rw [show ((al.length-(nxT x).ts.length:Nat):Int)=((al.length-x.ts.length:Nat):Int)+1 by omega]
theorem atS:0<=((al.length-x.ts.length:Nat):Int)/\((al.length-x.ts.length:Nat):Int)<((al.map tokD).length:Int):=by
 have h1:=h.pos
 have h2:=h.len
 rw [List.length_map]
 omega
theorem gdS:gD (al.map tokD) (((al.length-x.ts.length:Nat):Int)).toNat=tokD (hdT x):=by
 have h1:=h.pos
 have h2:=h.len
 rw [<- h.hd,Int.toNat_natCast]
 unfold gD
 rw [List.getD_eq_getElem?_getD,List.getD_eq_getElem?_getD,List.getElem?_map,List.getElem?_eq_getElem (by omega)];rfl
variable (hal:al.length<=100000)
include hal
theorem zG2:ACB EN5 Tryz.prog 48 [.bx (pn 0) 0] [boxS al x] (.agg (tokC (hdT x))) [boxS al x]:=by
 have hgd:=gdS h
 refine zBX (fn:=Tryz.f48) 13 Tryz.func48 rfl rfl ?_
 intro pas w0 w he hp
 repeat' (first
|refine zA ?_
|refine zB ?_
|refine zH ?_
|apply aw_1
 conv=>whnf
 refine ⟨?_,trivial⟩
|apply s_1
 conv=>whnf;arg 1;arg 4;arg 3;whnf
 refine ⟨?_,?_⟩
|apply zAF (by kernel_rfl) (by kernel_rfl)
|apply zAs
|apply zAr rfl
 . conv=>lhs;whnf
 . conv=>lhs;whnf;arg 2;whnf
|apply zDP rfl rfl rfl
 . conv=>lhs;whnf
 . rfl
 . rfl
 . conv=>lhs;whnf;arg 1;whnf
 . conv=>lhs;whnf;arg 1;whnf
 . exact ⟨by kernel_rfl,by kernel_rfl⟩
 . rfl
|exact zk
|show zA9 _ _=true;rfl
|refine zEW ⟨?_,?_⟩
|refine ⟨_,by conv=>lhs;whnf;arg 2;whnf,?_⟩;conv=>rhs;whnf
|exact trivial)
 all_goals first
  |exact atS h
  |exact ⟨rfl,trivial⟩
  |skip
 . rw [hgd];rfl
theorem zEE:ACB EN5 Tryz.prog 49 [.bx (pn 0) 0] [boxS al x] (.c (.bool ((hdT x).k==2))) [boxS al x]:=by
 have hn:=zG2 h hal
 refine zBX (fn:=Tryz.f49) 7 Tryz.func49 rfl rfl ?_
 intro pas w0 w he hp
 repeat' (first
|apply s_m (clS al) (zP al) rfl
 . conv=>lhs;whnf
 . conv=>lhs;whnf
 . rfl
 . conv=>lhs;whnf;arg 1;whnf
 . first | exact zu _ _
 . first | exact hn
 . exact fun _=>rfl
 . exact fun _=>rfl
|refine zA ?_
|refine zB ?_
|refine zH ?_
|apply aw_1
 conv=>whnf
 refine ⟨?_,trivial⟩
|apply s_1
 conv=>whnf;arg 1;arg 4;arg 3;whnf
 refine ⟨?_,?_⟩
|refine zEW ⟨?_,?_⟩
|refine ⟨_,by conv=>lhs;whnf;arg 2;whnf,?_⟩;conv=>rhs;whnf
|exact trivial)
 all_goals first
  |exact ⟨rfl,trivial⟩
  |rfl
theorem zCp (e:Int):ACE EN5 Tryz.prog 51 [.bx (pn 0) 0,.c (.int .i64 e)] [boxS al x] (.die (zE9 ((hdT x).i,e))):=by
 have hn:=zG2 h hal
 refine zo (fn:=Tryz.f51) 10 Tryz.func51 rfl rfl ?_
 intro pas w0 w he hp
 repeat' (first
|apply s_m (clS al) (zP al) rfl
 . conv=>lhs;whnf
 . conv=>lhs;whnf
 . rfl
 . conv=>lhs;whnf;arg 1;whnf
 . first | exact zu _ _
 . first | exact hn
 . exact fun _=>rfl
 . exact fun _=>rfl
|apply s_die rfl rfl
 . conv=>lhs;whnf
 change _=Out.die _
|refine zA ?_
|apply s_1
 conv=>whnf;arg 1;arg 4;arg 3;whnf
 refine ⟨?_,?_⟩
|exact trivial)
 rfl
theorem p_is (s:List UInt8):ACB EN5 Tryz.prog 174 [.bx (pn 0) 0,.c (.string (bs s))] [boxS al x] (.c (.bool (isS x s))) [boxS al x]:=by
 have hn:=zG2 h hal
 have e:isS x s=((hdT x).k==1&&(bs (hdT x).s).toList==(bs s).toList):=by
  unfold isS
  rw [Lib.toList_data,Lib.toList_data,zAq,zAq]
 rw [e]
 refine zBX (fn:=Tryz.f174) 17 Tryz.func174 rfl rfl ?_
 intro pas w0 w he hp
 repeat' (first
|apply s_m (clS al) (zP al) rfl
 . conv=>lhs;whnf
 . conv=>lhs;whnf
 . rfl
 . conv=>lhs;whnf;arg 1;whnf
 . first | exact zu _ _
 . first | exact hn
 . exact fun _=>rfl
 . exact fun _=>rfl
|apply zr rfl
 . conv=>lhs;whnf
 . conv=>lhs;whnf
 . first | rfl | assumption
|refine zA ?_
|refine zB ?_
|refine zH ?_
|apply aw_1
 conv=>whnf
 refine ⟨?_,trivial⟩
|apply zq rfl rfl
 . conv=>lhs;whnf
 . conv=>lhs;whnf
 . first | exact bT1 ‹_› | exact bT2 ‹_›
|apply za rfl rfl
 . conv=>lhs;whnf
 . conv=>lhs;whnf
 . first | exact bF1 ‹_› | exact bF2 ‹_›
|apply s_1
 conv=>whnf;arg 1;arg 4;arg 3;whnf
 refine ⟨?_,?_⟩
|apply zS rfl rfl rfl
 . conv=>lhs;whnf
 . conv=>lhs;whnf;arg 1;whnf
 . conv=>lhs;whnf;arg 1;whnf
 . exact ⟨by kernel_rfl,by kernel_rfl⟩
 . rfl
|apply zL rfl
 . conv=>lhs;whnf
 . conv=>lhs;whnf
 . first | rfl | assumption
 . conv=>lhs;whnf;arg 2;whnf
|apply zF rfl
 . conv=>lhs;whnf
 . conv=>lhs;whnf
 . conv=>lhs;whnf;arg 2;whnf
|refine zEW ⟨?_,?_⟩
|refine ⟨_,by conv=>lhs;whnf;arg 2;whnf,?_⟩;conv=>rhs;whnf
|exact trivial
|intro hg)
 all_goals first
  |exact ⟨rfl,trivial⟩
  |skip
 . have h:((hdT x).k==1)=true:=bT1 ‹_›
   rw [h];rfl
 . have h:((hdT x).k==1)=false:=bF1 ‹_›
   rw [h];rfl
theorem zFI {s:List UInt8} (hs:isS x s=true):ACB EN5 Tryz.prog 173 [.bx (pn 0) 0,.c (.string (bs s))] [boxS al x] (.c (.bool true)) [boxS al (nxT x)]:=by
 have hi:=p_is h hal s
 rw [hs] at hi
 have hk:(hdT x).k≠5:=by unfold isS at hs;simp only [Bool.and_eq_true,beq_iff_eq] at hs;rw [hs.1];decide
 have hl:=h.len
 have he1:=etaS1 h hk
 refine zBX (fn:=Tryz.f173) 16 Tryz.func173 rfl rfl ?_
 intro pas w0 w he hp
 repeat' (first
|apply s_m (clS al) (zP al) rfl
 . conv=>lhs;whnf
 . conv=>lhs;whnf
 . rfl
 . conv=>lhs;whnf;arg 1;whnf
 . first | exact zu _ _
 . first | exact hi
 . exact fun _=>rfl
 . exact fun _=>rfl
|refine zA ?_
|refine zB ?_
|refine zH ?_
|apply aw_1
 conv=>whnf
 refine ⟨?_,trivial⟩
|apply s_1
 conv=>whnf;arg 1;arg 4;arg 3;whnf
 refine ⟨?_,?_⟩
|apply zS rfl rfl rfl
 . conv=>lhs;whnf
 . conv=>lhs;whnf;arg 1;whnf
 . conv=>lhs;whnf;arg 1;whnf
 . exact ⟨by kernel_rfl,by kernel_rfl⟩
 . rfl
|refine zEW ⟨?_,?_⟩
|refine ⟨_,by conv=>lhs;whnf;arg 2;whnf,?_⟩;conv=>rhs;whnf
|exact trivial)
 all_goals first
  |exact zU (by omega)
  |exact ⟨congrArg (fun c=>some (Res.box _ c)) he1,trivial⟩
  |rfl
  |skip
theorem zDq {s:List UInt8} (hs:isS x s=false):ACB EN5 Tryz.prog 173 [.bx (pn 0) 0,.c (.string (bs s))] [boxS al x] (.c (.bool false)) [boxS al x]:=by
 have hi:=p_is h hal s
 rw [hs] at hi
 refine zBX (fn:=Tryz.f173) 16 Tryz.func173 rfl rfl ?_
 intro pas w0 w he hp
 repeat' (first
|apply s_m (clS al) (zP al) rfl
 . conv=>lhs;whnf
 . conv=>lhs;whnf
 . rfl
 . conv=>lhs;whnf;arg 1;whnf
 . first | exact zu _ _
 . first | exact hi
 . exact fun _=>rfl
 . exact fun _=>rfl
|refine zA ?_
|refine zB ?_
|refine zH ?_
|apply aw_1
 conv=>whnf
 refine ⟨?_,trivial⟩
|apply s_1
 conv=>whnf;arg 1;arg 4;arg 3;whnf
 refine ⟨?_,?_⟩
|refine zO ?_
|refine zEW ⟨?_,?_⟩
|refine ⟨_,by conv=>lhs;whnf;arg 2;whnf,?_⟩;conv=>rhs;whnf
|exact trivial)
 all_goals first
  |exact ⟨rfl,trivial⟩
  |rfl
  |skip
theorem p_acc (s:List UInt8):ACB EN5 Tryz.prog 173 [.bx (pn 0) 0,.c (.string (bs s))] [boxS al x] (.c (.bool (isS x s))) [boxS al (if isS x s=true then nxT x else x)]:=by
 by_cases hs:isS x s=true
 . rw [if_pos hs,hs];exact zFI h hal hs
 . have hs:isS x s=false:=by simpa using hs
   rw [if_neg (by rw [hs];decide),hs];exact zDq h hal hs
theorem zBL (s:List UInt8):ACE EN5 Tryz.prog 119 [.bx (pn 0) 0,.c (.string (bs s))] [boxS al x] (outS al (fun _ => .tup []) (takeQ s x)):=by
 have hf:=zCp h hal 3
 by_cases hs:isS x s=true
 . have ha:=zFI h hal hs
   rw [takeQ,if_pos hs]
   refine zo (fn:=Tryz.f119) 10 Tryz.func119 rfl rfl ?_
   intro pas w0 w he hp
   repeat' (first
|apply s_m (clS al) (zP al) rfl
 . conv=>lhs;whnf
 . conv=>lhs;whnf
 . rfl
 . conv=>lhs;whnf;arg 1;whnf
 . first | exact zu _ _
 . first | exact ha
 . exact fun _=>rfl
 . exact fun _=>rfl
|refine zA ?_
|refine zB ?_
|refine zH ?_
|apply aw_1
 conv=>whnf
 refine ⟨?_,trivial⟩
|apply s_1
 conv=>whnf;arg 1;arg 4;arg 3;whnf
 refine ⟨?_,?_⟩
|apply zKI rfl
 . conv=>lhs;whnf;arg 1;whnf
|exact trivial)
   rfl
 . have ha:=zDq h hal (by simpa using hs)
   rw [takeQ,if_neg hs]
   refine zo (fn:=Tryz.f119) 10 Tryz.func119 rfl rfl ?_
   intro pas w0 w he hp
   repeat' (first
|apply s_m (clS al) (zP al) rfl
 . conv=>lhs;whnf
 . conv=>lhs;whnf
 . rfl
 . conv=>lhs;whnf;arg 1;whnf
 . first | exact zu _ _
 . first | exact ha
 . exact fun _=>rfl
 . exact fun _=>rfl
|apply zB8 [pn 0] rfl
 . conv=>lhs;whnf
 . first | exact hf
 . decide
 . rfl
 . rfl
 change _=Out.die _
|refine zA ?_
|refine zB ?_
|refine zH ?_
|apply aw_1
 conv=>whnf
 refine ⟨?_,trivial⟩
|apply s_1
 conv=>whnf;arg 1;arg 4;arg 3;whnf
 refine ⟨?_,?_⟩
|exact trivial)
   rfl
theorem zDp:ACE EN5 Tryz.prog 116 [.bx (pn 0) 0] [boxS al x] (outS al (fun n => .c (.string (bs n))) (nameQ x)):=by
 have hf:=zCp h hal 3
 have hm:=zEE h hal
 have hn:=zG2 h hal
 have hl:=h.len
 by_cases hk:(hdT x).k=2
 . have he1:=etaS1 h (by rw [hk];decide)
   rw [show ((hdT x).k==2)=true by simpa using hk] at hm
   rw [nameQ,if_pos hk]
   refine zo (fn:=Tryz.f116) 20 Tryz.func116 rfl rfl ?_
   intro pas w0 w he hp
   repeat' (first
|apply s_m (clS al) (zP al) rfl
 . conv=>lhs;whnf
 . conv=>lhs;whnf
 . rfl
 . conv=>lhs;whnf;arg 1;whnf
 . first | exact zu _ _
 . first | exact hm | exact hn
 . exact fun _=>rfl
 . exact fun _=>rfl
|refine zA ?_
|refine zB ?_
|refine zH ?_
|apply aw_1
 conv=>whnf
 refine ⟨?_,trivial⟩
|apply s_1
 conv=>whnf;arg 1;arg 4;arg 3;whnf
 refine ⟨?_,?_⟩
|apply zS rfl rfl rfl
 . conv=>lhs;whnf
 . conv=>lhs;whnf;arg 1;whnf
 . conv=>lhs;whnf;arg 1;whnf
 . exact ⟨by kernel_rfl,by kernel_rfl⟩
 . rfl
|apply zAb rfl
 . conv=>lhs;whnf;arg 2;whnf
 . conv=>lhs;whnf;arg 1;whnf
|exact trivial)
   all_goals first
    |exact zU (by omega)
    |(refine congrArg (fun c=>Out.ret _ [Res.box _ c]) ?_;exact he1.symm)
    |skip
 . rw [show ((hdT x).k==2)=false by simpa using hk] at hm
   rw [nameQ,if_neg hk]
   refine zo (fn:=Tryz.f116) 20 Tryz.func116 rfl rfl ?_
   intro pas w0 w he hp
   repeat' (first
|apply s_m (clS al) (zP al) rfl
 . conv=>lhs;whnf
 . conv=>lhs;whnf
 . rfl
 . conv=>lhs;whnf;arg 1;whnf
 . first | exact zu _ _
 . first | exact hm | exact hn
 . exact fun _=>rfl
 . exact fun _=>rfl
|apply zB8 [pn 0] rfl
 . conv=>lhs;whnf
 . first | exact hf
 . decide
 . rfl
 . rfl
 change _=Out.die _
|refine zA ?_
|refine zB ?_
|refine zH ?_
|apply aw_1
 conv=>whnf
 refine ⟨?_,trivial⟩
|apply s_1
 conv=>whnf;arg 1;arg 4;arg 3;whnf
 refine ⟨?_,?_⟩
|exact trivial)
   rfl
def zHw (n most:Nat) (x:PS):PR Unit:=if (hdT x).k=2/\most<=n then .error ((hdT x).i,4) else .ok ((),x)
theorem p_room (n most:Nat):ACE EN5 Tryz.prog 172 [.bx (pn 0) 0,.c (.int .i64 n),.c (.int .i64 most)] [boxS al x] (outS al (fun _ => .tup []) (zHw n most x)):=by
 have hf:=zCp h hal 4
 have hm:=zEE h hal
 refine zo (fn:=Tryz.f172) 15 Tryz.func172 rfl rfl ?_
 intro pas w0 w he hp
 repeat' (first
|apply s_m (clS al) (zP al) rfl
 . conv=>lhs;whnf
 . conv=>lhs;whnf
 . rfl
 . conv=>lhs;whnf;arg 1;whnf
 . first | exact zu _ _
 . first | exact hm
 . exact fun _=>rfl
 . exact fun _=>rfl
|apply zr rfl
 . conv=>lhs;whnf
 . conv=>lhs;whnf
 . first | rfl | assumption
|apply zB8 [pn 0] rfl
 . conv=>lhs;whnf
 . first | exact hf
 . decide
 . rfl
 . rfl
 change _=Out.die _
|refine zA ?_
|refine zB ?_
|refine zH ?_
|apply aw_1
 conv=>whnf
 refine ⟨?_,trivial⟩
|apply zq rfl rfl
 . conv=>lhs;whnf
 . conv=>lhs;whnf
 . first | exact bT1 ‹_› | exact bT2 ‹_›
|apply za rfl rfl
 . conv=>lhs;whnf
 . conv=>lhs;whnf
 . first | exact bF1 ‹_› | exact bF2 ‹_›
|apply s_1
 conv=>whnf;arg 1;arg 4;arg 3;whnf
 refine ⟨?_,?_⟩
|apply zL rfl
 . conv=>lhs;whnf
 . conv=>lhs;whnf
 . first | rfl | assumption
 . conv=>lhs;whnf;arg 2;whnf
|apply zF rfl
 . conv=>lhs;whnf
 . conv=>lhs;whnf
 . conv=>lhs;whnf;arg 2;whnf
|refine zZ (by conv=>lhs;whnf) ?_ ?_<;>intro hb
|apply zKI rfl
 . conv=>lhs;whnf;arg 1;whnf
|exact trivial
|intro hg)
 . have h1:(hdT x).k=2:=beq_iff_eq.1 (bT1 ‹_›)
   have h2:most<=n:=by have h2:decide ((n:Int)>=(most:Int))=true:=by assumption
                       simpa using h2
   rw [zHw,if_pos ⟨h1,h2⟩];rfl
 . have h2 : ¬ most<=n:=by have h2:decide ((n:Int)>=(most:Int))=false:=by assumption
                           simpa using h2
   rw [zHw,if_neg (fun h=>h2 h.2)];rfl
 . have h1 : ¬ (hdT x).k=2:=beq_eq_false_iff_ne.1 (bF1 ‹_›)
   rw [zHw,if_neg (fun h=>h1 h.1)];rfl
end
end
section
open Go.RowKit
def zC1 (w:List Int) (x:PS):List Int:=if isS x [33]=true then 1::w else w
def zEP (x:PS):PS:=if isS x [33]=true then nxT x else x
def zEc:Nat->List Int->PS->PR (List Int)
 |0,w,x => .ok (w,x)
 |n+1,w,x=>thenQ (takeQ [93] x) fun _ y=>zEc n (zC1 (2::w) y) (zEP y)
theorem zKy : ∀ (n:Nat) (w:List Int) (x:PS),closeQ n w x=zEc n (zC1 w x) (zEP x)
 |0,w,x=>by unfold closeQ zEc zC1 zEP;split<;>rfl
 |n+1,w,x=>by
  unfold closeQ zEc
  show thenQ (takeQ [93] (zEP x)) (fun _ y=>closeQ n (2::zC1 w x) y)=_
  congr 1
  funext _ y
  exact zKy n _ y
attribute [local irreducible] wpList Calls Code.wp AW AWo OpOk seqK zz z8 loopK endK AC zl Yld Sub
attribute [local irreducible] ACB ACX ACE absLexG YldG YldU
theorem Sx.bang {al:List Tok} {x:PS} (h:Sx al x):Sx al (zEP x)/\(zEP x).ts.length<=x.ts.length:=by
 unfold zEP
 split
 . rename_i hs;have:=h.sg hs;exact ⟨this.1,by omega⟩
 . exact ⟨h,Nat.le_refl _⟩
def zRef:List V:=[.c (.string ⟨#[]⟩),.c (.slice none 0 0)]
noncomputable def HwO (al:List Tok) (y:PS) (n:Nat):Vst 50:=
 stS 50 [(0,.bx (pn 0) 0),(2,.bx 2 0),(3,.bx 3 0),(4,.c (.int .i64 (n:Int)))] [(pn 0,boxS al y),(2,.box 48 zRef),(3,.box 48 zRef)]
noncomputable def HwB (al:List Tok) (y:PS) (nm:List UInt8) (n:Nat) (b:List D):Vst 50:=
 stS 50 [(0,.bx (pn 0) 0),(2,.bx 2 0),(3,.bx 3 0),(4,.c (.int .i64 (n:Int))),(5,.own 5 3 b)] [(pn 0,boxS al y),(2,.box 48 zRef),(3,.box 48 [.c (.string (bs nm)),.c (.slice none 0 0)]),(5,.tok 3 b.length)]
noncomputable def HwC (al:List Tok) (y:PS) (nm:List UInt8) (n i:Nat) (b:List D):Vst 50:=
 stS 50 [(0,.bx (pn 0) 0),(2,.bx 2 0),(3,.bx 3 0),(5,.own 5 3 b),(19,.c (.int .i64 (n:Int))),(20,.c (.int .i64 (i:Int)))] [(pn 0,boxS al y),(2,.box 48 zRef),(3,.box 48 [.c (.string (bs nm)),.c (.slice none 0 0)]),(5,.tok 3 b.length)]
noncomputable def HwD (al:List Tok) (y:PS) (nm:List UInt8) (b:List D) (i:Int) (a:List D):Vst 50:=
 stS 50 [(0,.bx (pn 0) 0),(2,.bx 2 0),(3,.bx 3 0),(5,.own 5 3 b),(6,.c (.int .i64 i))] [(pn 0,boxS al y),(2,.box 48 zRef),(3,.box 48 [.c (.string (bs nm)),.own 906 3 a]),(5,.tok 3 b.length),(906,.tok 3 a.length)]
abbrev VI (t:List UInt8 × List Int):V:=.agg [.c (.string (bs t.1)),.sl 3 (t.2.map D.int)]
theorem rev_step {l:List D} {j:Nat} (hj:j+1<=l.length):(l.drop (j+1)).reverse++[gD l j]=(l.drop j).reverse:=by
 have hj:j<l.length:=by omega
 rw [List.drop_eq_getElem_cons hj,List.reverse_cons,zBp hj]
theorem p_wrapped {al:List Tok} {x:PS} (h:Sx al x) (hal:al.length<=100000):ACE EN5 Tryz.prog 203 [.bx (pn 0) 0] [boxS al x] (outS al VI (zA7 x)):=by
 have hxl:=h.len
 refine zo (fn:=Tryz.f203) 50 Tryz.func203 rfl rfl ?_
 intro pas w0 w he hp
 repeat' (first
|refine zA ?_
|refine zB ?_
|refine zH ?_
|apply aw_1
 conv=>whnf
 refine ⟨?_,trivial⟩
|apply s_1
 conv=>whnf;arg 1;arg 4;arg 3;whnf
 refine ⟨?_,?_⟩
|exact trivial)
 refine zi (fun j st => ∃ y n,Sx al y/\y.ts.length<=j/\n+y.ts.length<=x.ts.length/\openQ x.ts.length x=((openQ j y).1+n,(openQ j y).2)/\Sub (cxE EN5 Tryz.prog pas w0 w he hp (outS al VI (zA7 x))) st (HwO al y n)) x.ts.length ⟨x,0,h,Nat.le_refl _,by omega,rfl,?_⟩ ?_
 . exact Sub.live ⟨rfl,rfl,rfl,rfl,trivial⟩ ⟨rfl,rfl,rfl,trivial⟩
 rintro j st ⟨y,n,hy,hyj,hyl,hO,hsub⟩
 refine zg hsub ?_
 clear hsub
 have hyp:=hy.pos
 cases j with
 |zero=>omega
 |succ j =>
 by_cases hs:isS y [91]=true
 . have ha:=zFI hy hal hs
   have hsg:=hy.sg hs
   repeat' (first
|apply s_m (clS al) (zP al) rfl
 . conv=>lhs;whnf
 . conv=>lhs;whnf
 . rfl
 . conv=>lhs;whnf;arg 1;whnf
 . first | exact zu _ _
 . first | exact ha
 . exact fun _=>rfl
 . exact fun _=>rfl
|refine zA ?_
|refine zB ?_
|refine zH ?_
|refine zR ?_
|apply aw_1
 conv=>whnf
 refine ⟨?_,trivial⟩
|apply s_1
 conv=>whnf;arg 1;arg 4;arg 3;whnf
 refine ⟨?_,?_⟩
|exact trivial)
   all_goals first
    |exact zU (by omega)
    |skip
   refine zI (j':=j) (by omega) ⟨nxT y,n+1,hsg.1,by omega,by omega,?_,Sub.live ⟨rfl,rfl,rfl,rfl,trivial⟩ ⟨rfl,rfl,rfl,trivial⟩⟩
   rw [hO,openQ,if_pos hs]
   show ((openQ j (nxT y)).1+1+n,_)=((openQ j (nxT y)).1+(n+1),_)
   rw [Nat.add_assoc,Nat.add_comm 1 n]
 have hs:isS y [91]=false:=by simpa using hs
 have ha:=zDq hy hal hs
 have hnm:=zDp hy hal
 have hO2:openQ x.ts.length x=(n,y):=by rw [hO,openQ,if_neg (by rw [hs];decide)];simp
 have hI0:zA7 x=thenQ (nameQ y) fun nm z=>thenQ (closeQ n [] z) fun w u => .ok ((nm,w),u):=by
  unfold zA7
  rw [hO2]
 have hb0 : ∀ {k z},nameQ y = .ok (k,z)->ACB EN5 Tryz.prog 173 [.bx (pn 0) 0,.c (.string (bs [33]))] [boxS al z] (.c (.bool (isS z [33]))) [boxS al (zEP z)]:=fun hq=>p_acc (hy.name hq).1 hal [33]
 clear hO
 repeat' (first
|apply s_m (clS al) (zP al) rfl
 . conv=>lhs;whnf
 . conv=>lhs;whnf
 . rfl
 . conv=>lhs;whnf;arg 1;whnf
 . first | exact zu _ _
 . first | exact ha | exact hb0 ‹_›
 . exact fun _=>rfl
 . exact fun _=>rfl
|apply s_pr (clS al) (zP al) rfl
 . conv=>lhs;whnf
 . conv=>lhs;whnf
 . rfl
 . conv=>lhs;whnf;arg 1;whnf
 . first | exact zu _ _
 . first | exact hnm
 . exact fun _=>rfl
 . first | (intro _ _;simp only [renL,renV,ren_cells];done) | exact fun _ _=>rfl
 refine fun ee hq => ?_
 change _=Out.die _
 rotate_left 1
 refine fun aa xx hq => ?_
 first | (replace hq:=zAM hq;obtain ⟨hq,rfl⟩:=hq) | (cases hq;have hq:=True.intro) | skip
|apply z7 7 (HwB al xx aa n []) rfl
|apply z7 9 (HwB al (zEP xx) aa n ((zC1 [] xx).reverse.map D.int)) rfl
|refine zCB ?_
|refine zA ?_
|refine zB ?_
|refine zH ?_
|apply aw_1
 conv=>whnf
 refine ⟨?_,trivial⟩
|apply s_1
 conv=>whnf;arg 1;arg 4;arg 3;whnf
 refine ⟨?_,?_⟩
|apply zS rfl rfl rfl
 . conv=>lhs;whnf
 . conv=>lhs;whnf;arg 1;whnf
 . conv=>lhs;whnf;arg 1;whnf
 . exact ⟨by kernel_rfl,by kernel_rfl⟩
 . rfl
|apply zBf rfl rfl
 . conv=>lhs;whnf
 . first | exact zDB | (conv=>lhs;whnf;arg 1;whnf)
 . first | exact fun _=>rfl | (intro _;kernel_rfl)
 . conv=>lhs;whnf
 . conv=>lhs;whnf;arg 1;whnf
 . conv=>lhs;whnf
|apply zBb rfl rfl
 . conv=>lhs;whnf
 . first | exact zDB | (conv=>lhs;whnf;arg 1;whnf)
 . conv=>lhs;whnf;arg 1;whnf
 . rfl
 . rfl
|refine zZ (by conv=>lhs;whnf) ?_ ?_<;>intro hb
|refine zM ?_
|refine zK rfl ?_
|refine zJ ?_
|exact trivial)
 . exact (Sub.own (t:=5) (e:=3) rfl rfl).trans (Sub.live ⟨rfl,rfl,rfl,rfl,rfl,trivial⟩ ⟨rfl,rfl,rfl,rfl,trivial⟩)
 . rw [zC1,if_pos hb]
   exact Sub.live ⟨rfl,rfl,rfl,rfl,rfl,trivial⟩ ⟨rfl,rfl,rfl,rfl,trivial⟩
 . refine ⟨by simp,?_,?_⟩<;>simp only [List.length_cons,List.length_nil,maxLen]<;>omega
 . rw [zC1,if_neg (by rw [hb];decide)]
   exact Sub.live ⟨rfl,rfl,rfl,rfl,rfl,trivial⟩ ⟨rfl,rfl,rfl,rfl,trivial⟩
 rotate_left 1
 . rw [hI0,hq];rfl
 have hI:zA7 x=thenQ (zEc n (zC1 [] xx) (zEP xx)) fun w u => .ok ((aa,w),u):=by rw [hI0,hq,<- zKy];rfl
 have hxx:=(hy.name hq).1
 have hxl2:=(hy.name hq).2
 have hb1:=hxx.bang
 have hwl:(zC1 [] xx).length<=1:=by unfold zC1;split<;>simp
 clear ha hnm hO2 hI0 hb0
 rename List UInt8=>nm
 rename PS=>z0
 refine zi (fun j st => ∃ z w' i,i+j=n/\Sx al z/\w'.length+2*j<=2*n+1/\zA7 x=thenQ (zEc j w' z) (fun w u => .ok ((nm,w),u))/\Sub (cxE EN5 Tryz.prog pas w0 w he hp (outS al VI (zA7 x))) st (HwC al z nm n i (w'.reverse.map D.int))) n ⟨zEP z0,zC1 [] z0,0,by omega,hb1.1,by omega,hI,?_⟩ ?_
 . exact Sub.live ⟨rfl,rfl,rfl,rfl,rfl,rfl,trivial⟩ ⟨rfl,rfl,rfl,rfl,trivial⟩
 rintro j st ⟨z,w',i,hij,hz,hwl',hI2,hsub⟩
 refine zg hsub ?_
 clear hsub hI
 cases j with
 |zero =>
  have hin:i=n:=by omega
  subst hin
  have K:decide ((i:Int)<(i:Int))=true->False:=fun h=>by simp at h
  obtain ⟨b,hbd⟩ : ∃ b:List D,b=w'.reverse.map D.int:=⟨_,rfl⟩
  have hbl:b.length<=2*i+1:=by rw [hbd,List.length_map,List.length_reverse];omega
  have hI3:zA7 x = .ok ((nm,w'),z):=by rw [hI2];rfl
  rw [<- hbd]
  repeat' (first
|exact (K ‹_›).elim
|refine zA ?_
|refine zB ?_
|refine zH ?_
|apply aw_1
 conv=>whnf
 refine ⟨?_,trivial⟩
|apply s_1
 conv=>whnf;arg 1;arg 4;arg 3;whnf
 refine ⟨?_,?_⟩
|refine zZ (by conv=>lhs;whnf) ?_ ?_<;>intro hb
|refine zM ?_
|refine zK rfl ?_
|refine zJ ?_
|exact trivial)
  all_goals first
   |exact zU (by omega)
   |skip
  refine zg (Sub.ownF (m:=3) (q:=906) (i:=1) (e:=3) rfl (by decide) rfl rfl rfl) ?_
  refine zi (fun j st=>j<=b.length/\Sub (cxE EN5 Tryz.prog pas w0 w he hp (outS al VI (zA7 x))) st (HwD al z nm b ((j:Int)-1) (b.drop j).reverse)) b.length ⟨Nat.le_refl _,?_⟩ ?_
  . rw [List.drop_length]
    exact Sub.live ⟨rfl,rfl,rfl,rfl,rfl,trivial⟩ ⟨rfl,rfl,rfl,rfl,rfl,trivial⟩
  rintro j st ⟨hjl,hsub⟩
  refine zg hsub ?_
  clear hsub
  cases j with
  |zero =>
   have K:decide ((((0:Nat):Int)-1)>=0)=true->False:=fun h=>by simp at h
   repeat' (first
|refine zA ?_
|refine zB ?_
|refine zH ?_
|apply aw_1
 conv=>whnf
 refine ⟨?_,trivial⟩
|apply s_1
 conv=>whnf;arg 1;arg 4;arg 3;whnf
 refine ⟨?_,?_⟩
|apply zS rfl rfl rfl
 . conv=>lhs;whnf
 . conv=>lhs;whnf;arg 1;whnf
 . conv=>lhs;whnf;arg 1;whnf
 . exact ⟨by kernel_rfl,by kernel_rfl⟩
 . rfl
|refine zM ?_
|refine zK rfl ?_
|refine zJ ?_
|apply zAb rfl
 . conv=>lhs;whnf;arg 2;whnf
 . conv=>lhs;whnf;arg 1;whnf
|exact trivial)
   rw [hI3]
   show Out.ret (V.agg [.c (.string (bs nm)),.sl 3 (w'.map D.int)]) _=Out.ret (V.agg [.c (.string (bs nm)),.sl 3 (b.drop 0).reverse]) _
   rw [List.drop_zero,hbd,<- List.map_reverse,List.reverse_reverse]
  |succ j =>
   have K:decide ((((j+1:Nat):Int)-1)>=0)=false->False:=fun h=>by simp at h
   repeat' (first
|apply zIh 10 ([(1,[3]),(4,[5]),(5,[5])]) ([(7,[906]),(9,[3])]) rfl (by kernel_rfl) (by kernel_rfl) (by kernel_rfl)
|apply zHK
|apply zHJ rfl
 . conv=>lhs;whnf
 . conv=>lhs;whnf;arg 2;whnf
|apply zIO rfl rfl
 . conv=>lhs;whnf
 . first | exact zDB | (conv=>lhs;whnf;arg 1;whnf)
 . first | exact fun _=>rfl | (intro _;kernel_rfl)
 . conv=>lhs;whnf
 . rfl
 . conv=>lhs;whnf;arg 1;whnf
 . conv=>lhs;whnf
|apply zCQ rfl rfl rfl
 . conv=>lhs;whnf
 . rfl
 . conv=>lhs;whnf;arg 1;whnf
 . conv=>lhs;whnf;arg 1;whnf
 . exact ⟨by kernel_rfl,by kernel_rfl⟩
 . rfl
|show inO _ _=true;rfl
|apply zDx [gD b (((j+1:Nat):Int)-1).toNat] rfl rfl
 . conv=>lhs;whnf
 . first | exact zDB | (conv=>lhs;whnf;arg 1;whnf)
 . rfl
 . rfl
 . repeat' (first | exact trivial | apply And.intro | rfl)
|exact (K ‹_›).elim
|refine zA ?_
|refine zB ?_
|refine zH ?_
|refine zR ?_
|apply aw_1
 conv=>whnf
 refine ⟨?_,trivial⟩
|apply s_1
 conv=>whnf;arg 1;arg 4;arg 3;whnf
 refine ⟨?_,?_⟩
|refine zZ (by conv=>lhs;whnf) ?_ ?_<;>intro hb
|exact trivial)
   all_goals first
    |exact zU (by omega)
    |exact (⟨by omega,by omega⟩:0<=((j+1:Nat):Int)-1/\((j+1:Nat):Int)-1<(b.length:Int))
    |(refine ⟨by simp,?_,?_⟩<;>simp only [List.length_reverse,List.length_drop,List.length_cons,List.length_nil,maxLen]<;>omega)
    |skip
   . refine zI (j':=j) (by omega) ⟨by omega,?_⟩
     have e1:(((j+1:Nat):Int)-1).toNat=j:=by omega
     have e2:=rev_step (l:=b) (j:=j) hjl
     refine Sub.live ⟨rfl,rfl,rfl,rfl,?_,trivial⟩ ⟨rfl,rfl,?_,rfl,?_,trivial⟩
     . show V.c (.int .i64 (((j+1:Nat):Int)-1-1))=V.c (.int .i64 ((j:Int)-1))
       rw [show ((j+1:Nat):Int)-1-1=(j:Int)-1 by omega]
     . show some (Res.box _ [_,V.own 906 _ ((b.drop (j+1)).reverse++[gD b (((j+1:Nat):Int)-1).toNat])])=some (Res.box _ [_,V.own 906 _ (b.drop j).reverse])
       rw [e1,e2]
     . show some (Res.tok _ ((b.drop (j+1)).reverse.length+1))=some (Res.tok _ (b.drop j).reverse.length)
       rw [<- e2,List.length_append];rfl
 |succ j =>
  have K:decide ((i:Int)<(n:Int))=false->False:=fun h=>by simp at h;omega
  have hex:=zBL hz hal [93]
  rcases hT:takeQ [93] z with ee | ⟨⟨⟩,x1⟩
  . have K2 : ∀ {u y},takeQ [93] z = .ok (u,y)->False:=fun h=>by rw [hT] at h;cases h
    repeat' (first
|apply s_pr (clS al) (zP al) rfl
 . conv=>lhs;whnf
 . conv=>lhs;whnf
 . rfl
 . conv=>lhs;whnf;arg 1;whnf
 . first | exact zu _ _
 . first | exact hex
 . exact fun _=>rfl
 . first | (intro _ _;simp only [renL,renV,ren_cells];done) | exact fun _ _=>rfl
 refine fun ee hq => ?_
 change _=Out.die _
 rotate_left 1
 refine fun aa xx hq => ?_
 first | (replace hq:=zAM hq;obtain ⟨hq,rfl⟩:=hq) | (cases hq;have hq:=True.intro) | skip
|exact (K ‹_›).elim
|exact (K2 ‹_›).elim
|refine zA ?_
|refine zB ?_
|refine zH ?_
|apply aw_1
 conv=>whnf
 refine ⟨?_,trivial⟩
|apply s_1
 conv=>whnf;arg 1;arg 4;arg 3;whnf
 refine ⟨?_,?_⟩
|refine zZ (by conv=>lhs;whnf) ?_ ?_<;>intro hb
|exact trivial)
    rw [hI2,zEc,hq];rfl
  rw [hT] at hex
  have hx1:=hz.take hT
  have hb0:=p_acc hx1.1 hal [33]
  repeat' (first
|apply s_m (clS al) (zP al) rfl
 . conv=>lhs;whnf
 . conv=>lhs;whnf
 . rfl
 . conv=>lhs;whnf;arg 1;whnf
 . first | exact zu _ _
 . first | exact hb0
 . exact fun _=>rfl
 . exact fun _=>rfl
|apply s_pr (clS al) (zP al) rfl
 . conv=>lhs;whnf
 . conv=>lhs;whnf
 . rfl
 . conv=>lhs;whnf;arg 1;whnf
 . first | exact zu _ _
 . first | exact hex
 . exact fun _=>rfl
 . first | (intro _ _;simp only [renL,renV,ren_cells];done) | exact fun _ _=>rfl
 refine fun ee hq => ?_
 change _=Out.die _
 rotate_left 1
 refine fun aa xx hq => ?_
 first | (replace hq:=zAM hq;obtain ⟨hq,rfl⟩:=hq) | (cases hq;have hq:=True.intro) | skip
|exact (K ‹_›).elim
|apply z7 13 (HwC al x1 nm n i ((2::w').reverse.map D.int)) rfl
|apply z7 15 (HwC al (zEP x1) nm n i ((zC1 (2::w') x1).reverse.map D.int)) rfl
|refine zCB ?_
|refine zA ?_
|refine zB ?_
|refine zH ?_
|refine zR ?_
|apply aw_1
 conv=>whnf
 refine ⟨?_,trivial⟩
|apply s_1
 conv=>whnf;arg 1;arg 4;arg 3;whnf
 refine ⟨?_,?_⟩
|apply zBf rfl rfl
 . conv=>lhs;whnf
 . first | exact zDB | (conv=>lhs;whnf;arg 1;whnf)
 . first | exact fun _=>rfl | (intro _;kernel_rfl)
 . conv=>lhs;whnf
 . conv=>lhs;whnf;arg 1;whnf
 . conv=>lhs;whnf
|apply zBb rfl rfl
 . conv=>lhs;whnf
 . first | exact zDB | (conv=>lhs;whnf;arg 1;whnf)
 . conv=>lhs;whnf;arg 1;whnf
 . rfl
 . rfl
|refine zZ (by conv=>lhs;whnf) ?_ ?_<;>intro hb
|exact trivial)
  all_goals first
   |exact zU (by omega)
   |(refine ⟨by simp,?_,?_⟩<;>simp only [List.length_reverse,List.length_map,List.length_cons,List.length_nil,maxLen]<;>omega)
   |(cases hq;done)
   |skip
  . refine Sub.live ⟨rfl,rfl,rfl,?_,rfl,rfl,trivial⟩ ⟨rfl,rfl,rfl,?_,trivial⟩
    . show V.own 5 _ (w'.reverse.map D.int++[D.int 2])=V.own 5 _ ((2::w').reverse.map D.int)
      rw [List.reverse_cons,List.map_append];rfl
    . show some (Res.tok _ ((w'.reverse.map D.int).length+1))=some (Res.tok _ ((2::w').reverse.map D.int).length)
      rw [List.reverse_cons,List.map_append,List.length_append];rfl
  . rw [show zC1 (2::w') x1=1::2::w' from if_pos hb]
    have er:(1::2::w':List Int).reverse=(2::w').reverse++[1]:=List.reverse_cons
    refine Sub.live ⟨rfl,rfl,rfl,?_,rfl,rfl,trivial⟩ ⟨rfl,rfl,rfl,?_,trivial⟩
    . show V.own 5 _ ((2::w').reverse.map D.int++[D.int 1])=V.own 5 _ ((1::2::w').reverse.map D.int)
      rw [er,List.map_append];rfl
    . show some (Res.tok _ (((2::w').reverse.map D.int).length+1))=some (Res.tok _ ((1::2::w').reverse.map D.int).length)
      rw [er,List.map_append,List.length_append];rfl
  . rw [show zC1 (2::w') x1=2::w' from if_neg (by rw [hb];decide)]
    exact Sub.live ⟨rfl,rfl,rfl,rfl,rfl,rfl,trivial⟩ ⟨rfl,rfl,rfl,rfl,trivial⟩
  . refine zI (j':=j) (by omega) ⟨zEP x1,zC1 (2::w') x1,i+1,by omega,hx1.1.bang.1,?_,by rw [hI2,zEc,hT];rfl,Sub.live ⟨rfl,rfl,rfl,rfl,rfl,rfl,trivial⟩ ⟨rfl,rfl,rfl,rfl,trivial⟩⟩
    have:(zC1 (2::w') x1).length<=w'.length+2:=by unfold zC1;split<;>simp
    omega
theorem p_ref {al:List Tok} {x:PS} (h:Sx al x) (hal:al.length<=100000):ACE EN5 Tryz.prog 179 [.bx (pn 0) 0] [boxS al x] (outS al (fun d => .agg (cellsV Tryz.prog 12 48 d)) (typQ x)):=by
 have hi:=p_wrapped h hal
 have hn:=zG2 h hal
 refine zo (fn:=Tryz.f179) 18 Tryz.func179 rfl rfl ?_
 intro pas w0 w he hp
 repeat' (first
|apply s_m (clS al) (zP al) rfl
 . conv=>lhs;whnf
 . conv=>lhs;whnf
 . rfl
 . conv=>lhs;whnf;arg 1;whnf
 . first | exact zu _ _
 . first | exact hn
 . exact fun _=>rfl
 . exact fun _=>rfl
|apply s_pr (clS al) (zP al) rfl
 . conv=>lhs;whnf
 . conv=>lhs;whnf
 . rfl
 . conv=>lhs;whnf;arg 1;whnf
 . first | exact zu _ _
 . first | exact hi
 . exact fun _=>rfl
 . first | (intro _ _;simp only [renL,renV,ren_cells];done) | exact fun _ _=>rfl
 refine fun ee hq => ?_
 change _=Out.die _
 rotate_left 1
 refine fun aa xx hq => ?_
 first | (replace hq:=zAM hq;obtain ⟨hq,rfl⟩:=hq) | (cases hq;have hq:=True.intro) | skip
|apply s_die rfl rfl
 . conv=>lhs;whnf
 change _=Out.die _
|refine zA ?_
|refine zB ?_
|refine zH ?_
|apply aw_1
 conv=>whnf
 refine ⟨?_,trivial⟩
|apply s_1
 conv=>whnf;arg 1;arg 4;arg 3;whnf
 refine ⟨?_,?_⟩
|apply zS rfl rfl rfl
 . conv=>lhs;whnf
 . conv=>lhs;whnf;arg 1;whnf
 . conv=>lhs;whnf;arg 1;whnf
 . exact ⟨by kernel_rfl,by kernel_rfl⟩
 . rfl
|refine zZ (by conv=>lhs;whnf) ?_ ?_<;>intro hb
|apply zAb rfl
 . conv=>lhs;whnf;arg 2;whnf
 . conv=>lhs;whnf;arg 1;whnf
|exact trivial)
 . have hb:24<aa.2.length:=by simp at hb;omega
   unfold typQ thenQ
   rw [hq]
   dsimp only
   rw [if_pos hb];rfl
 . have hb : ¬ 24<aa.2.length:=by simp at hb;omega
   unfold typQ thenQ
   rw [hq]
   dsimp only
   rw [if_neg hb];rfl
 . unfold typQ thenQ
   rw [hq];rfl
end
section
open Go.RowKit Go.WideMaps Go.Maps
attribute [local irreducible] wpList Calls Code.wp
def mapR (P:Program) (q:Bool) (e:TypeId):Value->Option (DataW Unit × List MemPlace):=if q then plainElem P e else unitElem
def SetB (P:Program) (q:Bool) (k e:TypeId) (l:List (List UInt8)) (w:World) (b:Nat):Prop:=
 ∃ M:DataW Unit,w.ownsMap P k (mapR P q e) b l.length M/\IsMap M/\(∀ u:List UInt8,has M (.string u)=decide (u∈l)) /\ ∀ u:List UInt8,q=true->M.atKey (.string u) (.lit (.bool false)) = .lit (.bool (decide (u∈l)))
def setK (P:Program) (q:Bool) (k e:TypeId) (l:List (List UInt8)):Res:=.blk (SetB P q k e l)
structure MapOk (P:Program) (t k e:TypeId) (q:Bool):Prop where
 ht:P.underlying t=some (.map k e)
 hk:P.underlying k=some .string
 hz : ∀ w,(zeroValue e).run P w = .ok (if q then .bool false else .agg #[]) w
 he:q=true->P.underlying e=some .bool
section
variable {P:Program} {q:Bool} {k e:TypeId} {l:List (List UInt8)} {w w1 w2:World} {b:Nat}
theorem zHn (h:w2.heap[b]? = w1.heap[b]?):SetB P q k e l w1 b->SetB P q k e l w2 b:=fun ⟨M,⟨es,clock,hb,r⟩,hM⟩=>⟨M,⟨es,clock,h.trans hb,r⟩,hM⟩
theorem setB_nil:SetB P q k e [] (w.alloc (.map #[] 0)) w.heap.size:=
 ⟨.map [],World.ownsMap_made _ _ _ _,isMap_empty,fun u=>by rw [decide_eq_false (by simp)];rfl,fun u _=>by rw [decide_eq_false (by simp)];rfl⟩
theorem has_put {M:DataW Unit} (hM:IsMap M) (hh : ∀ u:List UInt8,has M (.string u)=decide (u∈l)) (u:List UInt8) (d:DataW Unit) (v:List UInt8):has (M.put (.string u) d) (.string v)=decide (v∈l++[u]):=by
 by_cases e:v=u
 . subst e
   rw [has_put_same hM (show WideAt.IsKeyLit (.string v) from trivial),decide_eq_true (by simp)]
 . rw [has_put_other (fun h=>e (by injection h)),hh v]
   congr 1
   simp [e]
theorem at_put {M:DataW Unit} (hM:IsMap M) (hh : ∀ u:List UInt8,M.atKey (.string u) (.lit (.bool false)) = .lit (.bool (decide (u∈l)))) (u v:List UInt8):(M.put (.string u) (.lit (.bool true))).atKey (.string v) (.lit (.bool false)) = .lit (.bool (decide (v∈l++[u]))):=by
 by_cases e:v=u
 . subst e
   rw [atKey_put_same hM (show WideAt.IsKeyLit (.string v) from trivial),decide_eq_true (by simp)]
 . rw [atKey_put_other (fun h=>e (by injection h)),hh v]
   congr 2
   simp [e]
variable {pas:Nat->Prop} {B:Nat} {rs:Nat->Option Res} {s:Sg}
theorem MemOk.nameK (h:MemOk P pas B rs s w) (hB:B<=w.heap.size) (n:Nat) (o:Obj) (H:World->Nat->Prop) (hH:H (w.alloc o) w.heap.size) (hst : ∀ w1 w2:World,w2.heap[w.heap.size]? = w1.heap[w.heap.size]? -> H w1 w.heap.size->H w2 w.heap.size) (hf : ∀ m ρ,m≠n->rs m=some ρ->ρ.free n=true) :
 MemOk P pas B (updR rs n (.blk H)) (s.name n w.heap.size) (w.alloc o) where
 fx b i hb:=by rw [zAn (h.fx b i hb)];exact h.fx b i hb
 ho m ρ hm:=by
  by_cases e:m=n
  . subst e
    simp only [updR,if_true] at hm
    cases hm
    refine ⟨w.heap.size,by simp [Sg.name],by simp,hH,hst,fun i hi => ?_⟩
    obtain ⟨v,hv⟩:=Option.isSome_iff_exists.1 (h.fx _ i hi)
    have:=block_lt_of_cell hv
    simp at this
  . simp only [updR,if_neg e] at hm
    exact (h.ho m ρ hm).keep (zD0 h n _) e rfl rfl (fun k hk=>by subst hk;exact hf m ρ e hm) (fun b hb=>Below.heap_alloc _ _ _ ((h.ho m ρ hm).lt hb)) (fun _ _ _ h=>h)
 bs m ρ b hm hb:=by
  by_cases e:m=n
  . subst e
    simp only [updR,if_true] at hm
    cases hm
    simp only [Sg.bk,Sg.name,if_true] at hb
    cases hb;exact .inl hB
  . simp only [updR,if_neg e] at hm
    rw [zBO e] at hb
    exact h.bs m ρ b hm hb
 dj m k ρ ρ' b hm hk hmb hkb:=by
  by_cases e:m=n<;>by_cases e':k=n
  . rw [e,e']
  . simp only [updR,if_neg e'] at hk
    rw [zBO e'] at hkb
    subst e
    simp only [updR,if_true] at hm
    cases hm
    simp only [Sg.bk,Sg.name,if_true] at hmb
    cases hmb
    have:=(h.ho k ρ' hk).lt hkb
    omega
  . simp only [updR,if_neg e] at hm
    rw [zBO e] at hmb
    subst e'
    simp only [updR,if_true] at hk
    cases hk
    simp only [Sg.bk,Sg.name,if_true] at hkb
    cases hkb
    have:=(h.ho m ρ hm).lt hmb
    omega
  . simp only [updR,if_neg e] at hm
    simp only [updR,if_neg e'] at hk
    rw [zBO e] at hmb
    rw [zBO e'] at hkb
    exact h.dj m k ρ ρ' b hm hk hmb hkb
theorem MemOk.writeK (h:MemOk P pas B rs s w) {n b:Nat} {H H':World->Nat->Prop} {w':World} (hn:rs n=some (.blk H)) (hb:s.bx n=some b) (hH:H' w' b) (hst : ∀ w1 w2:World,w2.heap[b]? = w1.heap[b]? -> H' w1 b->H' w2 b) (hlt:b<w'.heap.size)
 (hsame : ∀ k,k≠b->w'.heap[k]? = w.heap[k]?):Ext (fun _=>False) s w s w'/\MemOk P pas B (updR rs n (.blk H')) s w':=by
 obtain ⟨b',h1,h2,h3,h4,h5⟩:=h.ho n _ hn
 rw [h1] at hb;cases hb
 have hcell : ∀ k o,s.F k o->w'.cell? ⟨k,o,none⟩=w.cell? ⟨k,o,none⟩:=fun k o hF=>World.cell?_of_block (w:=w) (hsame k fun e=>by subst e;exact h5 o hF)
 have hx:Ext (fun _=>False) s w s w':=⟨fun k o hF=>⟨hcell k o hF,hF⟩,fun _ _=>rfl,fun _ _ => .inl rfl⟩
 have this : ∀ q ρ,updR rs n (.blk H') q=some ρ -> ∃ ρ',rs q=some ρ'/\s.bk q ρ'=s.bk q ρ:=fun q ρ hq=>by
  by_cases e:q=n
  . subst e
    simp only [updR,if_true] at hq
    cases hq;exact ⟨_,hn,rfl⟩
  . simp only [updR,if_neg e] at hq;exact ⟨_,hq,rfl⟩
 refine ⟨hx,?_,?_,?_,?_⟩
 . intro k o hF;rw [hcell k o hF];exact h.fx k o hF
 . intro m ρ hm
   by_cases e:m=n
   . subst e
     simp only [updR,if_true] at hm
     cases hm
     exact ⟨b,h1,hlt,hH,hst,h5⟩
   . simp only [updR,if_neg e] at hm
     refine (h.ho m ρ hm).keep hx (fun h=>h) rfl rfl (fun _ h=>h.elim) (fun k hk=>hsame k fun e' => ?_) (fun _ _ _ h=>h)
     subst e'
     exact e (h.dj m n _ _ k hm hn hk h1)
 . intro m ρ k hm hk
   obtain ⟨r1,hr1,e1⟩:=this m ρ hm
   exact h.bs m r1 k hr1 (by rw [e1];exact hk)
 . intro m k ρ ρ' j hm hk hmj hkj
   obtain ⟨r1,hr1,e1⟩:=this m ρ hm
   obtain ⟨r2,hr2,e2⟩:=this k ρ' hk
   exact h.dj m k _ _ j hr1 hr2 (by rw [e1];exact hmj) (by rw [e2];exact hkj)
end
section
variable {X:Cx} {nn:Nat} {st:Vst nn} {o:Oper} {K:Vst nn->Prop} {t k e:TypeId} {q:Bool} {l:List (List UInt8)}
theorem opOk_mkmap {d:Nat} (ho:o.op = .makeMap t none) (hd:o.dst=some d) (hdl:Nat.ble d 999999=true) (q:Bool) (k e:TypeId) (hK:K (((st.kill d).res d (setK X.P q k e [])).put (some d) (.mp d))):OpOk X o st K:=by
 intro s w a hI N Q hP hN
 have hrun:(execOp a.eval o).run X.P w = .ok (.value (.map (some w.heap.size))) (w.alloc (.map #[] 0)):=by
  simp [execOp,ho,run_makeMap]
 unfold Oper.wp
 rw [hrun,Oper.upon_value,hd]
 have hI':=hI.kill d
 refine hN _ (s.name d w.heap.size) _ _ (Inv.put (v:=.mp d) ?_ (some d) (by rw [rel];exact ⟨w.heap.size,by simp [Sg.name],rfl⟩)) hK
 have hx:=zD0 hI'.mem d (.map #[] 0)
 refine ⟨hI.sz,fun i hi => ?_,hI.df,hI.fr.trans (zCx w _ (fun _=>False)) (fun _ h=>h.elim),hI.kp.trans hx.keeps,hI.nf,?_,hI.pe.ext hx fun m hm=>by subst hm;exact Nat.le_of_ble_eq_true hdl⟩
 . exact rel.ext hx _ _ (zAW (hI.tm i hi)).1 fun n hn=>by subst hn;exact (zAW (hI.tm i hi)).2
 . exact hI'.mem.nameK hI.base d _ _ setB_nil (fun w1 w2 h=>zHn h) fun m ρ _ hm=>zCs st d m hm
theorem opOk_look {m x:Operand} {n:Nat} {u:ByteArray} (ho:o.op = .lookup t m x true) (hm:ev st m = .mp n) (hr:st.rs n=some (setK X.P false k e l)) (hx:ev st x = .c (.string u)) (hk:MapOk X.P t k e false)
 (hK:K (st.put o.dst (.tup [.agg [],.c (.bool (decide (u.data.toList∈l)))]))):OpOk X o st K:=by
 intro s w a hI N Q hP hN
 have h1:=hI.ev m
 rw [hm,rel] at h1
 obtain ⟨b,hb,hb2⟩:=h1
 have h2:=hI.ev x
 rw [hx,rel] at h2
 obtain ⟨h2,hsz⟩:=h2
 obtain ⟨b',q1,q2,⟨M,hown,hM,hhas,-⟩,q4,q5⟩:=hI.mem.ho n _ hr
 rw [hb] at q1;cases q1
 have hkey:keyOf X.P k (.string u)=some (.string u.data.toList):=keyOf_string_mk hk.hk hsz
 obtain ⟨v,ps,hrun,hv⟩:=hown.look_ok (string_keyed hk.hk) hk.ht (hk.hz w) (zd:=.agg []) (zp:=[]) rfl hkey
 obtain ⟨rfl,-⟩:=unitElem_inv hv
 have hrun2:(execOp a.eval o).run X.P w = .ok (.value (.tuple #[.agg #[],.bool (has M (.string u.data.toList))])) w:=by
  simp [execOp,ho,hb2,h2,hrun,Result.andThen]
 unfold Oper.wp
 rw [hrun2,Oper.upon_value]
 refine hN _ _ _ _ (hI.put o.dst ?_) hK
 rw [hhas,rel]
 exact ⟨_,rfl,by simp [relL,rel,okV]⟩
theorem opOk_mput {m x y:Operand} {n:Nat} {u:ByteArray} (ho:o.op = .mapUpdate t m x y) (hd:o.dst=none) (hm:ev st m = .mp n) (hr:st.rs n=some (setK X.P q k e l)) (hx:ev st x = .c (.string u)) (hy:ev st y=if q then .c (.bool true) else .agg []) (hk:MapOk X.P t k e q) (hl:l.length<maxLen)
 (hK:K (st.res n (setK X.P q k e (l++[u.data.toList])))):OpOk X o st K:=by
 intro s w a hI N Q hP hN
 have h1:=hI.ev m
 rw [hm,rel] at h1
 obtain ⟨b,hb,hb2⟩:=h1
 have h2:=hI.ev x
 rw [hx,rel] at h2
 obtain ⟨h2,hsz⟩:=h2
 have h3:=hI.ev y
 obtain ⟨b',q1,q2,⟨M,hown,hM,hhas,hat⟩,q4,q5⟩:=hI.mem.ho n _ hr
 rw [hb] at q1;cases q1
 have hkey:keyOf X.P k (.string u)=some (.string u.data.toList):=keyOf_string_mk hk.hk hsz
 have hval:mapR X.P q e (a.eval y)=some (if q then .lit (.bool true) else .agg [],[]):=by
  rw [hy] at h3
  cases q with
  |true =>
   have h3:rel X.P s w (.c (.bool true)) (a.eval y):=h3
   rw [rel] at h3
   rw [h3.1]
   exact plainElem_bool (hk.he rfl) true
  |false =>
   have h3:rel X.P s w (.agg []) (a.eval y):=h3
   rw [rel] at h3
   obtain ⟨cs,hcs,hr⟩:=h3
   have:cs = #[]:=by
    have:=hr.length
    exact Array.eq_empty_of_size_eq_zero (by simpa using this.symm)
   rw [hcs,this]
   rfl
 obtain ⟨w',hrun,hown',hturn⟩:=hown.store (string_keyed hk.hk) hk.ht hl hkey hval
 have hset:SetB X.P q k e (l++[u.data.toList]) w' b:=by
  refine ⟨_,by rw [List.length_append];exact hown',hM.put _ _,has_put hM hhas _ _,fun v hq => ?_⟩
  subst hq
  exact at_put hM (fun u=>hat u rfl) _ v
 have hrun2:(execOp a.eval o).run X.P w = .ok .skip w':=by
  simp [execOp,ho,hb2,h2,hrun,Result.andThen]
 have hgr:=hturn.grown
 have hsame : ∀ i,i≠b->w'.heap[i]? = w.heap[i]?:=fun i hi=>by
  obtain ⟨es,clock,es',clock',hbb,rfl⟩:=hturn
  exact Go.ChangeMaps.heap_setBlock_other hbb _ hi
 have hsz':w'.heap.size=w.heap.size:=by
  obtain ⟨es,clock,es',clock',hbb,rfl⟩:=hturn
  simp [Go.ChangeMaps.setBlock]
 have hos:w'.os=w.os/\w'.tape=w.tape/\w'.output=w.output:=by
  obtain ⟨es,clock,es',clock',hbb,rfl⟩:=hturn
  exact ⟨rfl,rfl,rfl⟩
 unfold Oper.wp
 rw [hrun2,Oper.upon_skip,hd]
 have hm:=hI.mem.writeK hr hb hset (fun w1 w2 h=>zHn h) (by rw [hsz'];exact q2) hsame
 refine hN _ s _ _ ?_ hK
 have hfr:Frm (fun b=>X.w0.heap.size<=b\/X.pas b) w w':=⟨hos.1,hos.2.1,hos.2.2,by omega,fun i _ hi=>hsame i fun e=>hi (by subst e;exact hI.mem.bs n _ _ hr hb)⟩
 exact ⟨hI.sz,fun i hi=>(hI.tm i hi).ext0 hm.1,hI.df,hI.fr.trans hfr fun _ h=>h,hI.kp.trans hm.1.keeps,hI.nf,hm.2,hI.pe.ext0 hm.1⟩
variable {ops:Array Oper} {ol:List Oper} {d:Option Tmp} {KK:Vst nn->Prop}
theorem s_mkmap {d:Nat} (hg:o.guard=none) (ho:o.op = .makeMap t none) (hd:o.dst=some d) (hdl:Nat.ble d 999999=true) (q:Bool) (k e:TypeId) (hK:AWo X ops ol (((st.kill d).res d (setK X.P q k e [])).put (some d) (.mp d)) KK):AWo X ops (o::ol) st KK:=zAC hg (opOk_mkmap ho hd hdl q k e hK)
theorem s_look {m x:Operand} {n:Nat} {u:ByteArray} (hg:o.guard=none) (hd:o.dst=d) (ho:o.op = .lookup t m x true) (hm:ev st m = .mp n) (hr:st.rs n=some (setK X.P false k e l)) (hx:ev st x = .c (.string u)) (hk:MapOk X.P t k e false)
 (hK:AWo X ops ol (st.put d (.tup [.agg [],.c (.bool (decide (u.data.toList∈l)))])) KK):AWo X ops (o::ol) st KK:=zAC hg (opOk_look ho hm hr hx hk (by rw [hd];exact hK))
theorem s_mput {m x y:Operand} {n:Nat} {u:ByteArray} (hg:o.guard=none) (ho:o.op = .mapUpdate t m x y) (hd:o.dst=none) (hm:ev st m = .mp n) (hr:st.rs n=some (setK X.P q k e l)) (hx:ev st x = .c (.string u)) (hy:ev st y=if q then .c (.bool true) else .agg []) (hk:MapOk X.P t k e q)
 (hK:AWo X ops ol (st.res n (setK X.P q k e (l++[u.data.toList]))) KK) (hl:l.length<maxLen):AWo X ops (o::ol) st KK:=zAC hg (opOk_mput ho hd hm hr hx hy hk hl hK)
end
end
end Go.Proofs.YthppafnlnnpciaaGreatDoor
