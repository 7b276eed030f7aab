import Derived.Test.YthppafnlnnpciaaGreatDoorV32
set_option maxHeartbeats 8000000
set_option maxRecDepth 100000
set_option linter.unusedVariables false
set_option linter.unusedSimpArgs false
namespace Go.Proofs.YthppafnlnnpciaaGreatDoor
section
open Go.RowKit
set_option linter.unusedSectionVars false
theorem zAL (f:Nat->List UInt8) (i:Nat):flatN f (i+1)=flatN f i++f i:=rfl
def zEa (k:Nat) (d:D) (i:Nat):List UInt8:=(if (d.f 0).n=6 then [32]++tx (gD (d.f 4).l i).s++[32,58] else [])++([32]++litS k (gD (d.f 3).l i))
theorem z8 {a b:ByteArray} (h:tx a=tx b):V.c (.string a)=V.c (.string b):=by rw [<- zHv a,h,zHv]
theorem zAE (l:List UInt8):tx ({ data:=l.toArray }:ByteArray)=l:=rfl
attribute [local irreducible] wpList Calls Code.wp AW AWo OpOk seqK zq zt loopK endK AC zg Yld Sub
attribute [local irreducible] ACB ACX ACE absLexG YldG absLexH
noncomputable def HLi (d:D) (P E:List UInt8) (i:Nat):Vst 68:=stS 68 [(1,.bx 1 0),(3,.c (.string (bs P))),(4,.c (.string (bs E))),(5,.c (.int .i64 (i:Int)))] [(1,.box 53 (cellsV Tryz.prog 12 53 d))]
theorem litW_ac : ∀ (k:Nat) (d:D),Dp k d->wideD d->bulkD d<=1048576->everyL k d=true->AC EN Tryz.prog 142 [.agg (cellsV Tryz.prog 12 53 d)] (.c (.string (bs (litS k d))))
 |0,_,h,_,_,_=>h.elim
 |k+1,d,h,hw,hb,hy=>by
  obtain ⟨hn,hi⟩:=zDC hy
  have hk:=hn.kind
  have hin:=bk_in hb
  have hl3:=hin.items
  have hl4:=hin.keys
  have hsz:=zEq (k+1) d hw
  have ih:=fun i (hl:i<(d.f 3).l.length)=>litW_ac k (gD (d.f 3).l i) (h i hl) ((hw.f 3).l i) (by have:=hin.at_ i hl;omega) (hi i hl)
  have hsi:=fun i=>zEq k (gD (d.f 3).l i) ((hw.f 3).l i)
  have hd:=(zJ5 (d.f 1).n (hw.f 1).n.1 (hw.f 1).n.2)
  have hq:=quoteR_ac (d.f 2).s (by have:=hin.text;omega)
  have h9:(d.f 0).n=0\/(d.f 0).n=1\/(d.f 0).n=2\/(d.f 0).n=3\/(d.f 0).n=4\/(d.f 0).n=7\/(d.f 0).n=5\/(d.f 0).n=6:=by omega
  rcases h9 with h0 | h0 | h0 | h0 | h0 | h0 | h0 | h0
  . have g0:((d.f 0).n==0)=true:=by rw [h0];rfl
    have e:litS (k+1) d=[110,117,108,108]:=by
     unfold litS;rw [if_pos h0]
    rw [e]
    refine zN 68 Tryz.func142 rfl rfl rfl rfl ?_
    intro s w he
    repeat' (first
|apply zG
 . conv=>lhs;whnf
 . assumption
|refine zA ?_
|refine zB ?_
|refine zK ?_
|apply aw_1
 conv=>whnf
 refine ⟨?_,trivial⟩
|apply s_1
 conv=>whnf;arg 1;arg 4;arg 3;whnf
 refine ⟨?_,?_⟩
|apply zAA rfl rfl rfl rfl
 . conv=>lhs;whnf;arg 1;whnf
 . rfl
|refine zM ?_
|refine zO ?_
|refine zE ?_
|refine ⟨_,by conv=>lhs;whnf;arg 2;whnf,?_⟩;conv=>rhs;whnf
|exact trivial)
    all_goals first
     |rfl
     |(refine z8 ?_;simp only [zo,zAm,zAE];done)
     |(rw [zHv];done)
     |(have q:=hin.text;simp only [zw,List.size_toArray,List.length_cons,List.length_nil,maxLen,Nat.zero_add,Nat.reduceAdd];omega)
     |skip
  . have g0:((d.f 0).n==0)=false:=by rw [h0];rfl
    have g1:((d.f 0).n==1)=true:=by rw [h0];rfl
    have e:litS (k+1) d=(if (d.f 1).n=1 then [116,114,117,101] else [102,97,108,115,101]):=by
     unfold litS;rw [if_neg (by omega),if_pos h0]
    rw [e]
    refine zN 68 Tryz.func142 rfl rfl rfl rfl ?_
    intro s w he
    repeat' (first
|apply zG
 . conv=>lhs;whnf
 . assumption
|apply zD
 . conv=>lhs;whnf
 . assumption
|refine zA ?_
|refine zB ?_
|refine zK ?_
|apply aw_1
 conv=>whnf
 refine ⟨?_,trivial⟩
|apply s_1
 conv=>whnf;arg 1;arg 4;arg 3;whnf
 refine ⟨?_,?_⟩
|apply zAA rfl rfl rfl rfl
 . conv=>lhs;whnf;arg 1;whnf
 . rfl
|refine zZ (by conv=>lhs;whnf) ?_ ?_<;>intro hb
|refine zM ?_
|refine zO ?_
|refine zE ?_
|refine ⟨_,by conv=>lhs;whnf;arg 2;whnf,?_⟩;conv=>rhs;whnf
|exact trivial)
    all_goals first
     |rfl
     |(refine z8 ?_;simp only [zo,zAm,zAE];done)
     |(rw [zHv];done)
     |(have q:=hin.text;simp only [zw,List.size_toArray,List.length_cons,List.length_nil,maxLen,Nat.zero_add,Nat.reduceAdd];omega)
     |(rw [if_pos (by simpa using (by assumption:((d.f 1).n==1)=true))];rfl)
     |(rw [if_neg (by simpa using (by assumption:((d.f 1).n==1)=false))];rfl)
     |skip
  . have g0:((d.f 0).n==0)=false:=by rw [h0];rfl
    have g1:((d.f 0).n==1)=false:=by rw [h0];rfl
    have g2:((d.f 0).n==2)=true:=by rw [h0];rfl
    have e:litS (k+1) d=Lib.itoa (d.f 1).n:=by
     unfold litS;rw [if_neg (by omega),if_neg (by omega),if_pos h0]
    rw [e]
    refine zN 68 Tryz.func142 rfl rfl rfl rfl ?_
    intro s w he
    repeat' (first
|apply zG
 . conv=>lhs;whnf
 . assumption
|apply zD
 . conv=>lhs;whnf
 . assumption
|refine zA ?_
|refine zB ?_
|refine zK ?_
|apply aw_1
 conv=>whnf
 refine ⟨?_,trivial⟩
|apply s_1
 conv=>whnf;arg 1;arg 4;arg 3;whnf
 refine ⟨?_,?_⟩
|apply zb rfl
 . conv=>lhs;whnf
 . conv=>lhs;whnf
 . first | exact hd | exact hq
|apply zAA rfl rfl rfl rfl
 . conv=>lhs;whnf;arg 1;whnf
 . rfl
|refine zM ?_
|refine zO ?_
|refine zE ?_
|refine ⟨_,by conv=>lhs;whnf;arg 2;whnf,?_⟩;conv=>rhs;whnf
|exact trivial)
    all_goals first
     |rfl
     |(refine z8 ?_;simp only [zo,zAm,zAE];done)
     |(rw [zHv];done)
     |(have q:=hin.text;simp only [zw,List.size_toArray,List.length_cons,List.length_nil,maxLen,Nat.zero_add,Nat.reduceAdd];omega)
     |skip
  . have g0:((d.f 0).n==0)=false:=by rw [h0];rfl
    have g1:((d.f 0).n==1)=false:=by rw [h0];rfl
    have g2:((d.f 0).n==2)=false:=by rw [h0];rfl
    have g3:((d.f 0).n==3)=true:=by rw [h0];rfl
    have e:litS (k+1) d=zAp (tx (d.f 2).s):=by
     unfold litS;rw [if_neg (by omega),if_neg (by omega),if_neg (by omega),if_pos h0]
    rw [e]
    refine zN 68 Tryz.func142 rfl rfl rfl rfl ?_
    intro s w he
    repeat' (first
|apply zG
 . conv=>lhs;whnf
 . assumption
|apply zD
 . conv=>lhs;whnf
 . assumption
|refine zA ?_
|refine zB ?_
|refine zK ?_
|apply aw_1
 conv=>whnf
 refine ⟨?_,trivial⟩
|apply s_1
 conv=>whnf;arg 1;arg 4;arg 3;whnf
 refine ⟨?_,?_⟩
|apply zb rfl
 . conv=>lhs;whnf
 . conv=>lhs;whnf
 . first | exact hd | exact hq
|apply zAA rfl rfl rfl rfl
 . conv=>lhs;whnf;arg 1;whnf
 . rfl
|refine zM ?_
|refine zO ?_
|refine zE ?_
|refine ⟨_,by conv=>lhs;whnf;arg 2;whnf,?_⟩;conv=>rhs;whnf
|exact trivial)
    all_goals first
     |rfl
     |(refine z8 ?_;simp only [zo,zAm,zAE];done)
     |(rw [zHv];done)
     |(have q:=hin.text;simp only [zw,List.size_toArray,List.length_cons,List.length_nil,maxLen,Nat.zero_add,Nat.reduceAdd];omega)
     |skip
  . have g0:((d.f 0).n==0)=false:=by rw [h0];rfl
    have g1:((d.f 0).n==1)=false:=by rw [h0];rfl
    have g2:((d.f 0).n==2)=false:=by rw [h0];rfl
    have g3:((d.f 0).n==3)=false:=by rw [h0];rfl
    have g4:((d.f 0).n==4)=true:=by rw [h0];rfl
    have e:litS (k+1) d=tx (d.f 2).s:=by
     unfold litS;rw [if_neg (by omega),if_neg (by omega),if_neg (by omega),if_neg (by omega),if_pos h0]
    rw [e]
    refine zN 68 Tryz.func142 rfl rfl rfl rfl ?_
    intro s w he
    repeat' (first
|apply zG
 . conv=>lhs;whnf
 . assumption
|apply zD
 . conv=>lhs;whnf
 . assumption
|refine zA ?_
|refine zB ?_
|refine zK ?_
|apply aw_1
 conv=>whnf
 refine ⟨?_,trivial⟩
|apply s_1
 conv=>whnf;arg 1;arg 4;arg 3;whnf
 refine ⟨?_,?_⟩
|apply zAA rfl rfl rfl rfl
 . conv=>lhs;whnf;arg 1;whnf
 . rfl
|refine zM ?_
|refine zO ?_
|refine zE ?_
|refine ⟨_,by conv=>lhs;whnf;arg 2;whnf,?_⟩;conv=>rhs;whnf
|exact trivial)
    all_goals first
     |rfl
     |(refine z8 ?_;simp only [zo,zAm,zAE];done)
     |(rw [zHv];done)
     |(have q:=hin.text;simp only [zw,List.size_toArray,List.length_cons,List.length_nil,maxLen,Nat.zero_add,Nat.reduceAdd];omega)
     |skip
  . have g0:((d.f 0).n==0)=false:=by rw [h0];rfl
    have g1:((d.f 0).n==1)=false:=by rw [h0];rfl
    have g2:((d.f 0).n==2)=false:=by rw [h0];rfl
    have g3:((d.f 0).n==3)=false:=by rw [h0];rfl
    have g4:((d.f 0).n==4)=false:=by rw [h0];rfl
    have g7:((d.f 0).n==7)=true:=by rw [h0];rfl
    have e:litS (k+1) d=[36,32]++tx (d.f 2).s:=by
     unfold litS;rw [if_neg (by omega),if_neg (by omega),if_neg (by omega),if_neg (by omega),if_neg (by omega),if_pos h0]
    rw [e]
    refine zN 68 Tryz.func142 rfl rfl rfl rfl ?_
    intro s w he
    repeat' (first
|apply zG
 . conv=>lhs;whnf
 . assumption
|apply zD
 . conv=>lhs;whnf
 . assumption
|refine zA ?_
|refine zB ?_
|refine zK ?_
|apply aw_1
 conv=>whnf
 refine ⟨?_,trivial⟩
|apply s_1
 conv=>whnf;arg 1;arg 4;arg 3;whnf
 refine ⟨?_,?_⟩
|apply zAA rfl rfl rfl rfl
 . conv=>lhs;whnf;arg 1;whnf
 . rfl
|refine zM ?_
|refine zO ?_
|refine zE ?_
|refine ⟨_,by conv=>lhs;whnf;arg 2;whnf,?_⟩;conv=>rhs;whnf
|exact trivial)
    all_goals first
     |rfl
     |(refine z8 ?_;simp only [zo,zAm,zAE];done)
     |(rw [zHv];done)
     |(have q:=hin.text;simp only [zw,List.size_toArray,List.length_cons,List.length_nil,maxLen,Nat.zero_add,Nat.reduceAdd];omega)
     |skip
  . have g0:((d.f 0).n==0)=false:=by rw [h0];rfl
    have g1:((d.f 0).n==1)=false:=by rw [h0];rfl
    have g2:((d.f 0).n==2)=false:=by rw [h0];rfl
    have g3:((d.f 0).n==3)=false:=by rw [h0];rfl
    have g4:((d.f 0).n==4)=false:=by rw [h0];rfl
    have g7:((d.f 0).n==7)=false:=by rw [h0];rfl
    have g6:((d.f 0).n==6)=false:=by rw [h0];rfl
    have e:litS (k+1) d=[91]++flatN (zEa k d) (d.f 3).l.length++[32,93]:=by
     unfold litS
     rw [if_neg (by omega),if_neg (by omega),if_neg (by omega),if_neg (by omega),if_neg (by omega),if_neg (by omega)]
     rw [if_neg (show ¬ (d.f 0).n=6 by omega),if_neg (show ¬ (d.f 0).n=6 by omega)];rfl
    rw [e] at hsz |-
    simp only [List.length_append,List.length_cons,List.length_nil] at hsz
    skip
    refine zN 68 Tryz.func142 rfl rfl rfl rfl ?_
    intro s w he
    repeat' (first
|apply zD
 . conv=>lhs;whnf
 . assumption
|refine zA ?_
|refine zB ?_
|refine zK ?_
|refine zP ?_
|apply aw_1
 conv=>whnf
 refine ⟨?_,trivial⟩
|apply s_1
 conv=>whnf;arg 1;arg 4;arg 3;whnf
 refine ⟨?_,?_⟩
|apply zAA rfl rfl rfl rfl
 . conv=>lhs;whnf;arg 1;whnf
 . rfl
|exact trivial)
    refine za (fun j st => ∃ i,i+j=(d.f 3).l.length/\Sub (cx EN Tryz.prog s w he) st (HLi d ([91]++flatN (zEa k d) i) [32,93] i)) (d.f 3).l.length ⟨0,by omega,Sub.live ⟨rfl,rfl,rfl,rfl,trivial⟩ ⟨rfl,trivial⟩⟩ ?_
    rintro j st ⟨i,hij,hs2⟩
    refine zi hs2 ?_
    clear hs2
    by_cases hii:i<(d.f 3).l.length
    . have f1:decide ((i:Int)<((d.f 3).l.length:Nat))=true:=decide_eq_true (by omega)
      have ih2:=ih i hii
      have hp:=zAg (zEa k d) hii
      have hsi2:=hsi i
      have he2:zEa k d i=[32]++litS k (gD (d.f 3).l i):=by
       unfold zEa;rw [if_neg (show ¬ (d.f 0).n=6 by omega)];rfl
      have hel:(zEa k d i).length=1+(litS k (gD (d.f 3).l i)).length:=by
       rw [he2];simp only [List.length_append,List.length_cons,List.length_nil];try omega
      repeat' (first
|apply zG
 . conv=>lhs;whnf
 . assumption
|apply zD
 . conv=>lhs;whnf
 . assumption
|refine zA ?_
|refine zB ?_
|refine zK ?_
|refine zP ?_
|apply aw_1
 conv=>whnf
 refine ⟨?_,trivial⟩
|apply s_1
 conv=>whnf;arg 1;arg 4;arg 3;whnf
 refine ⟨?_,?_⟩
|apply zb rfl
 . conv=>lhs;whnf
 . conv=>lhs;whnf
 . first | exact ih2
|exact trivial)
      all_goals first
       |exact zS (by omega)
       |exact zu hii
       |fail
       |(refine zH (j':=j-1) (by omega) ⟨i+1,by omega,Sub.live ⟨rfl,?_,rfl,rfl,trivial⟩ ⟨rfl,trivial⟩⟩
         refine z8 ?_
         rw [zAL,he2]
         simp only [zo,zAm,zAE,List.append_assoc]
         try rfl)
       |(simp only [ByteArray.size_append,ze,zw,List.size_toArray,List.length_append,List.length_cons,List.length_nil,maxLen,Int.toNat_natCast,Nat.zero_add,Nat.reduceAdd];omega)
       |skip
    . have f1:decide ((i:Int)<((d.f 3).l.length:Nat))=false:=decide_eq_false (by omega)
      have ei:i=(d.f 3).l.length:=by omega
      subst ei
      repeat' (first
|apply zD
 . conv=>lhs;whnf
 . assumption
|refine zA ?_
|refine zB ?_
|refine zK ?_
|apply aw_1
 conv=>whnf
 refine ⟨?_,trivial⟩
|apply s_1
 conv=>whnf;arg 1;arg 4;arg 3;whnf
 refine ⟨?_,?_⟩
|refine zL ?_
|refine zJ rfl ?_
|refine zI ?_
|refine zE ?_
|refine ⟨_,by conv=>lhs;whnf;arg 2;whnf,?_⟩;conv=>rhs;whnf
|exact trivial)
      all_goals first
       |(refine z8 ?_;simp only [zo,zAm];done)
       |(simp only [ByteArray.size_append,ze,zw,List.size_toArray,List.length_append,List.length_cons,List.length_nil,maxLen,Nat.zero_add,Nat.reduceAdd];omega)
       |skip
  . have g0:((d.f 0).n==0)=false:=by rw [h0];rfl
    have g1:((d.f 0).n==1)=false:=by rw [h0];rfl
    have g2:((d.f 0).n==2)=false:=by rw [h0];rfl
    have g3:((d.f 0).n==3)=false:=by rw [h0];rfl
    have g4:((d.f 0).n==4)=false:=by rw [h0];rfl
    have g7:((d.f 0).n==7)=false:=by rw [h0];rfl
    have g6:((d.f 0).n==6)=true:=by rw [h0];rfl
    have e:litS (k+1) d=[123]++flatN (zEa k d) (d.f 3).l.length++[32,125]:=by
     unfold litS
     rw [if_neg (by omega),if_neg (by omega),if_neg (by omega),if_neg (by omega),if_neg (by omega),if_neg (by omega)]
     rw [if_pos h0,if_pos h0];rfl
    rw [e] at hsz |-
    simp only [List.length_append,List.length_cons,List.length_nil] at hsz
    have hkeys:=(hn.obj h0).2.1
    refine zN 68 Tryz.func142 rfl rfl rfl rfl ?_
    intro s w he
    repeat' (first
|apply zG
 . conv=>lhs;whnf
 . assumption
|apply zD
 . conv=>lhs;whnf
 . assumption
|refine zA ?_
|refine zB ?_
|refine zK ?_
|refine zP ?_
|apply aw_1
 conv=>whnf
 refine ⟨?_,trivial⟩
|apply s_1
 conv=>whnf;arg 1;arg 4;arg 3;whnf
 refine ⟨?_,?_⟩
|apply zAA rfl rfl rfl rfl
 . conv=>lhs;whnf;arg 1;whnf
 . rfl
|exact trivial)
    refine za (fun j st => ∃ i,i+j=(d.f 3).l.length/\Sub (cx EN Tryz.prog s w he) st (HLi d ([123]++flatN (zEa k d) i) [32,125] i)) (d.f 3).l.length ⟨0,by omega,Sub.live ⟨rfl,rfl,rfl,rfl,trivial⟩ ⟨rfl,trivial⟩⟩ ?_
    rintro j st ⟨i,hij,hs2⟩
    refine zi hs2 ?_
    clear hs2
    by_cases hii:i<(d.f 3).l.length
    . have f1:decide ((i:Int)<((d.f 3).l.length:Nat))=true:=decide_eq_true (by omega)
      have ih2:=ih i hii
      have hp:=zAg (zEa k d) hii
      have hsi2:=hsi i
      have he2:zEa k d i=[32]++tx (gD (d.f 4).l i).s++[32,58]++([32]++litS k (gD (d.f 3).l i)):=by
       unfold zEa;rw [if_pos h0]
      have hel:(zEa k d i).length=4+(gD (d.f 4).l i).s.size+(litS k (gD (d.f 3).l i)).length:=by
       rw [he2];have:=zAR (gD (d.f 4).l i).s;simp only [List.length_append,List.length_cons,List.length_nil];omega
      repeat' (first
|apply zG
 . conv=>lhs;whnf
 . assumption
|refine zA ?_
|refine zB ?_
|refine zK ?_
|refine zP ?_
|apply aw_1
 conv=>whnf
 refine ⟨?_,trivial⟩
|apply s_1
 conv=>whnf;arg 1;arg 4;arg 3;whnf
 refine ⟨?_,?_⟩
|apply zb rfl
 . conv=>lhs;whnf
 . conv=>lhs;whnf
 . first | exact ih2
|exact trivial)
      all_goals first
       |exact zS (by omega)
       |exact zu hii
       |exact (show 0<=(i:Int)/\(i:Int)<((d.f 4).l.length:Int) from ⟨by omega,by omega⟩)
       |(refine zH (j':=j-1) (by omega) ⟨i+1,by omega,Sub.live ⟨rfl,?_,rfl,rfl,trivial⟩ ⟨rfl,trivial⟩⟩
         refine z8 ?_
         rw [zAL,he2]
         simp only [zo,zAm,zAE,List.append_assoc]
         try rfl)
       |(simp only [ByteArray.size_append,ze,zw,List.size_toArray,List.length_append,List.length_cons,List.length_nil,maxLen,Int.toNat_natCast,Nat.zero_add,Nat.reduceAdd];omega)
       |skip
    . have f1:decide ((i:Int)<((d.f 3).l.length:Nat))=false:=decide_eq_false (by omega)
      have ei:i=(d.f 3).l.length:=by omega
      subst ei
      repeat' (first
|apply zD
 . conv=>lhs;whnf
 . assumption
|refine zA ?_
|refine zB ?_
|refine zK ?_
|apply aw_1
 conv=>whnf
 refine ⟨?_,trivial⟩
|apply s_1
 conv=>whnf;arg 1;arg 4;arg 3;whnf
 refine ⟨?_,?_⟩
|refine zL ?_
|refine zJ rfl ?_
|refine zI ?_
|refine zE ?_
|refine ⟨_,by conv=>lhs;whnf;arg 2;whnf,?_⟩;conv=>rhs;whnf
|exact trivial)
      all_goals first
       |(refine z8 ?_;simp only [zo,zAm];done)
       |(simp only [ByteArray.size_append,ze,zw,List.size_toArray,List.length_append,List.length_cons,List.length_nil,maxLen,Nat.zero_add,Nat.reduceAdd];omega)
       |skip
theorem zKu (d:D) (hw:wideD d) (hb:bulkD d<=1048576) (hy:litR d=true):AC EN Tryz.prog 142 [.agg (cellsV Tryz.prog 12 53 d)] (.c (.string (bs (zF3 d)))):=by
 unfold litR at hy
 rw [Bool.and_eq_true] at hy
 exact litW_ac _ d (zBP (bulkD d) d (Nat.le_refl _)) hw hb hy.2
noncomputable def HWs (l:List D) (P:List UInt8) (i:Nat):Vst 68:=stS 68 [(0,.sl 108 l),(3,.c (.string (bs P))),(4,.c (.int .i64 (i:Int)))] []
noncomputable def HWt (l:List D) (P:List UInt8) (i k:Nat):Vst 68:=stS 68 [(0,.sl 108 l),(3,.c (.string (bs P))),(4,.c (.int .i64 (i:Int))),(5,.c (.int .i64 (k:Int)))] []
def argPx (l:List D) (k:Nat):List UInt8:=if k=0 then [] else [32,40]++flatN (fun i=>argS (gD l i)) k
theorem zEu (l:List D) (hp:DirsP l) (hw : ∀ i,wideD (gD l i)) (hb:bulkL l<=1048576):AC EN Tryz.prog 86 [.sl 108 l] (.c (.string (bs (dirsS l)))):=by
 have hlen:=zAc l
 have hsz:=zB5 l hw
 have e:dirsS l=flatN (fun i=>dirS (gD l i)) l.length:=rfl
 rw [e] at hsz |-
 refine zN 68 Tryz.func86 rfl rfl rfl rfl ?_
 intro s w he
 repeat' (first
|refine zA ?_
|refine zB ?_
|refine zK ?_
|apply aw_1
 conv=>whnf
 refine ⟨?_,trivial⟩
|apply s_1
 conv=>whnf;arg 1;arg 4;arg 3;whnf
 refine ⟨?_,?_⟩
|exact trivial)
 refine za (fun j st => ∃ i,i+j=l.length/\Sub (cx EN Tryz.prog s w he) st (HWs l (flatN (fun i=>dirS (gD l i)) i) i)) l.length ⟨0,by omega,Sub.live ⟨rfl,rfl,rfl,trivial⟩ trivial⟩ ?_
 rintro j st ⟨i,hij,hs2⟩
 refine zi hs2 ?_
 clear hs2
 by_cases hi:i<l.length
 . have f1:decide ((i:Int)<(l.length:Nat))=true:=decide_eq_true (by omega)
   have hpt:=zAg (fun i=>dirS (gD l i)) hi
   have hbk:=zAP hi
   have hwd:=zl (gD l i)
   have hf0:=wD_f (gD l i) 0
   have hf1:=wD_f (gD l i) 1
   have hst:=zAN ((gD l i).f 0)
   have hal:=zx ((gD l i).f 1)
   have han:=zAc ((gD l i).f 1).l
   have hds:=hp.dirs i hi
   obtain ⟨A,hA⟩ : ∃ A,A=((gD l i).f 1).l:=⟨_,rfl⟩
   have eD:dirS (gD l i)=[32,64,32]++tx ((gD l i).f 0).s++argPx A A.length++(if A.length=0 then [] else [32,41]):=by
    unfold dirS argPx zBf
    rw [<- hA]
    by_cases h0:A.length=0
    . rw [if_pos h0,if_pos h0,if_pos h0];simp
    . rw [if_neg h0,if_neg h0,if_neg h0];simp
   have htl:=zAR ((gD l i).f 0).s
   have eDl:=congrArg List.length eD
   simp only [List.length_append,List.length_cons,List.length_nil] at eDl
   have hap : ∀ k,k<=A.length->(argPx A k).length<=(argPx A A.length).length:=fun k hk=>by
    unfold argPx
    by_cases h0:k=0
    . rw [if_pos h0];exact Nat.zero_le _
    . rw [if_neg h0,if_neg (by omega)]
      have:=zGe (fun i=>argS (gD A i)) hk
      simp only [List.length_append];omega
   try dsimp only at hpt
   repeat' (first
|apply zG
 . conv=>lhs;whnf
 . assumption
|refine zA ?_
|refine zB ?_
|refine zK ?_
|apply aw_1
 conv=>whnf
 refine ⟨?_,trivial⟩
|apply s_1
 conv=>whnf;arg 1;arg 4;arg 3;whnf
 refine ⟨?_,?_⟩
|exact trivial)
   all_goals first
    |exact zS (by omega)
    |exact zu hi
    |(simp only [ByteArray.size_append,ze,zw,List.size_toArray,List.length_append,List.length_cons,List.length_nil,maxLen,Int.toNat_natCast,Nat.zero_add,Nat.reduceAdd];omega)
    |skip
   have hA2:((gD l i).f 1).l.length=A.length:=by rw [hA]
   refine za (fun jj st => ∃ k,k+jj=A.length/\Sub (cx EN Tryz.prog s w he) st (HWt l (flatN (fun i=>dirS (gD l i)) i++[32,64,32]++tx ((gD l i).f 0).s++argPx A k) i k)) A.length ⟨0,by omega,Sub.live ⟨rfl,?_,rfl,rfl,trivial⟩ trivial⟩ ?_
   . refine z8 ?_
     show _=tx (bs (flatN (fun i=>dirS (gD l i)) i++[32,64,32]++tx ((gD l i).f 0).s++[]))
     simp only [zo,zAm,zAE,List.append_nil]
     rfl
   rintro jj st2 ⟨k,hkj,hs3⟩
   refine zi hs3 ?_
   clear hs3
   by_cases hk:k<A.length
   . have g1:decide ((k:Int)<(((gD l i).f 1).l.length:Nat))=true:=decide_eq_true (by omega)
     have hpk:=hap (k+1) (by omega)
     have hk2:k<((gD l i).f 1).l.length:=by omega
     have hag:=hds.args k hk2
     have hwk:=(((hw i).f 1).l k)
     have hbk2:=zAP hk2
     have hbw:=zl (gD ((gD l i).f 1).l k)
     have hbf:=wD_f (gD ((gD l i).f 1).l k) 1
     have hbf0:=wD_f (gD ((gD l i).f 1).l k) 0
     have hbs0:=zAN ((gD ((gD l i).f 1).l k).f 0)
     have hbd:=zl ((gD ((gD l i).f 1).l k).f 1)
     have hq:=zKu ((gD ((gD l i).f 1).l k).f 1) (hwk.f 1) (by omega) hag.val.lit
     have eA:argPx A (k+1)=argPx A k++(if k=0 then [32,40] else [])++argS (gD A k):=by
      unfold argPx
      rw [if_neg (Nat.succ_ne_zero k),zAL]
      by_cases h0:k=0
      . subst h0;rfl
      . rw [if_neg h0,if_neg h0];simp
     have eA2:argS (gD A k)=[32]++tx ((gD ((gD l i).f 1).l k).f 0).s++[32,58,32]++zF3 ((gD ((gD l i).f 1).l k).f 1):=by rw [hA];rfl
     have htk:=zAR ((gD ((gD l i).f 1).l k).f 0).s
     have eAl:=congrArg List.length eA
     rw [eA2] at eAl
     simp only [List.length_append,List.length_cons,List.length_nil] at eAl
     by_cases h0:k=0
     . have g2:((k:Int)==0)=true:=by rw [h0];rfl
       rw [if_pos h0] at eA eAl
       simp only [List.length_cons,List.length_nil] at eAl
       repeat' (first
|apply zG
 . conv=>lhs;whnf
 . assumption
|refine zA ?_
|refine zB ?_
|refine zK ?_
|refine zP ?_
|apply aw_1
 conv=>whnf
 refine ⟨?_,trivial⟩
|apply s_1
 conv=>whnf;arg 1;arg 4;arg 3;whnf
 refine ⟨?_,?_⟩
|apply zAC (by kernel_rfl) (by kernel_rfl)
|apply zAs
|apply zAr rfl
 . conv=>lhs;whnf
 . conv=>lhs;whnf;arg 2;whnf
|apply zCX rfl
 . conv=>lhs;whnf
 . conv=>lhs;whnf
 . first | exact hq
|exact zj
|exact zr
|exact (1000000:Nat)
|exact trivial)
       all_goals first
        |exact zS (by omega)
        |exact zu hi
        |exact zu hk2
        |(refine zH (j':=jj-1) (by omega) ⟨k+1,by omega,Sub.live ⟨rfl,?_,rfl,rfl,trivial⟩ trivial⟩
          refine z8 ?_
          rw [eA,eA2]
          simp only [zo,zAm,zAE,List.append_assoc]
          try rfl)
        |(simp only [ByteArray.size_append,ze,zw,List.size_toArray,List.length_append,List.length_cons,List.length_nil,maxLen,Int.toNat_natCast,Nat.zero_add,Nat.reduceAdd];omega)
        |skip
     . have g2:((k:Int)==0)=false:=by rw [beq_eq_false_iff_ne];omega
       rw [if_neg h0] at eA eAl
       simp only [List.length_nil] at eAl
       repeat' (first
|apply zG
 . conv=>lhs;whnf
 . assumption
|apply zD
 . conv=>lhs;whnf
 . assumption
|refine zA ?_
|refine zB ?_
|refine zK ?_
|refine zP ?_
|apply aw_1
 conv=>whnf
 refine ⟨?_,trivial⟩
|apply s_1
 conv=>whnf;arg 1;arg 4;arg 3;whnf
 refine ⟨?_,?_⟩
|apply zAC (by kernel_rfl) (by kernel_rfl)
|apply zAs
|apply zAr rfl
 . conv=>lhs;whnf
 . conv=>lhs;whnf;arg 2;whnf
|apply zCX rfl
 . conv=>lhs;whnf
 . conv=>lhs;whnf
 . first | exact hq
|exact zj
|exact zr
|exact (1000000:Nat)
|exact trivial)
       all_goals first
        |exact zS (by omega)
        |exact zu hi
        |exact zu hk2
        |(refine zH (j':=jj-1) (by omega) ⟨k+1,by omega,Sub.live ⟨rfl,?_,rfl,rfl,trivial⟩ trivial⟩
          refine z8 ?_
          rw [eA,eA2]
          simp only [zo,zAm,zAE,List.append_assoc,List.append_nil]
          try rfl)
        |(simp only [ByteArray.size_append,ze,zw,List.size_toArray,List.length_append,List.length_cons,List.length_nil,maxLen,Int.toNat_natCast,Nat.zero_add,Nat.reduceAdd];omega)
        |skip
   . have g1:decide ((k:Int)<(((gD l i).f 1).l.length:Nat))=false:=decide_eq_false (by omega)
     have ek:k=A.length:=by omega
     subst ek
     by_cases h0:A.length=0
     . have g2:decide ((((gD l i).f 1).l.length:Int)>0)=false:=decide_eq_false (by omega)
       rw [if_pos h0] at eD
       repeat' (first
|apply zD
 . conv=>lhs;whnf
 . assumption
|refine zA ?_
|refine zB ?_
|refine zK ?_
|refine zP ?_
|apply aw_1
 conv=>whnf
 refine ⟨?_,trivial⟩
|apply s_1
 conv=>whnf;arg 1;arg 4;arg 3;whnf
 refine ⟨?_,?_⟩
|refine zL ?_
|refine zJ rfl ?_
|refine zI ?_
|exact trivial)
       all_goals first
        |exact zS (by omega)
        |exact zu hi
        |(refine zH (j':=j-1) (by omega) ⟨i+1,by omega,Sub.live ⟨rfl,?_,rfl,trivial⟩ trivial⟩
          refine z8 ?_
          rw [zAL,eD]
          simp only [zo,zAm,zAE,List.append_assoc,List.append_nil])
        |skip
     . have g2:decide ((((gD l i).f 1).l.length:Int)>0)=true:=decide_eq_true (by omega)
       rw [if_neg h0] at eD eDl
       simp only [List.length_cons,List.length_nil] at eDl
       repeat' (first
|apply zG
 . conv=>lhs;whnf
 . assumption
|apply zD
 . conv=>lhs;whnf
 . assumption
|refine zA ?_
|refine zB ?_
|refine zK ?_
|refine zP ?_
|apply aw_1
 conv=>whnf
 refine ⟨?_,trivial⟩
|apply s_1
 conv=>whnf;arg 1;arg 4;arg 3;whnf
 refine ⟨?_,?_⟩
|refine zL ?_
|refine zJ rfl ?_
|refine zI ?_
|exact trivial)
       all_goals first
        |exact zS (by omega)
        |exact zu hi
        |(refine zH (j':=j-1) (by omega) ⟨i+1,by omega,Sub.live ⟨rfl,?_,rfl,trivial⟩ trivial⟩
          refine z8 ?_
          rw [zAL,eD]
          simp only [zo,zAm,zAE,List.append_assoc])
        |(simp only [ByteArray.size_append,ze,zw,List.size_toArray,List.length_append,List.length_cons,List.length_nil,maxLen,Int.toNat_natCast,Nat.zero_add,Nat.reduceAdd];omega)
        |skip
 . have f1:decide ((i:Int)<(l.length:Nat))=false:=decide_eq_false (by omega)
   have ei:i=l.length:=by omega
   subst ei
   repeat' (first
|apply zD
 . conv=>lhs;whnf
 . assumption
|refine zA ?_
|refine zB ?_
|refine zK ?_
|apply aw_1
 conv=>whnf
 refine ⟨?_,trivial⟩
|apply s_1
 conv=>whnf;arg 1;arg 4;arg 3;whnf
 refine ⟨?_,?_⟩
|refine zL ?_
|refine zJ rfl ?_
|refine zI ?_
|refine zE ?_
|refine ⟨_,by conv=>lhs;whnf;arg 2;whnf,?_⟩;conv=>rhs;whnf
|exact trivial)
theorem refW_ac (d:D) (hb:bulkD d<=1048576):AC EN Tryz.prog 88 [.agg (cellsV Tryz.prog 12 48 d)] (.c (.string (bs (refS d)))):=by
 have h0:=zl d
 have h1:=wD_f d 0
 have h2:=zAN (d.f 0)
 have h3:=wD_f d 1
 have h4:=zx (d.f 1)
 have h5:=zAc (d.f 1).l
 have h6:=zAR (d.f 0).s
 have h:=refR_ac (tx (d.f 0).s) (by omega) (d.f 1).l (by omega)
 rw [zHv] at h
 exact h
noncomputable def HWu (l:List D) (P:List UInt8) (i:Nat):Vst 50:=stS 50 [(0,.sl 55 l),(3,.c (.string (bs P))),(4,.c (.int .i64 (i:Int)))] []
theorem insW_ac (l:List D) (hp:InsP l) (hw : ∀ i,wideD (gD l i)) (hb:bulkL l<=1048576):AC EN Tryz.prog 87 [.sl 55 l] (.c (.string (bs (insS l)))):=by
 have hlen:=zAc l
 have hsz:=zEr l hw
 have e:insS l=flatN (fun i=>inS (gD l i)) l.length:=rfl
 rw [e] at hsz |-
 refine zN 50 Tryz.func87 rfl rfl rfl rfl ?_
 intro s w he
 repeat' (first
|refine zA ?_
|refine zB ?_
|refine zK ?_
|apply aw_1
 conv=>whnf
 refine ⟨?_,trivial⟩
|apply s_1
 conv=>whnf;arg 1;arg 4;arg 3;whnf
 refine ⟨?_,?_⟩
|exact trivial)
 refine za (fun j st => ∃ i,i+j=l.length/\Sub (cx EN Tryz.prog s w he) st (HWu l (flatN (fun i=>inS (gD l i)) i) i)) l.length ⟨0,by omega,Sub.live ⟨rfl,rfl,rfl,trivial⟩ trivial⟩ ?_
 rintro j st ⟨i,hij,hs2⟩
 refine zi hs2 ?_
 clear hs2
 by_cases hi:i<l.length
 . have f1:decide ((i:Int)<(l.length:Nat))=true:=decide_eq_true (by omega)
   have hpt:=zAg (fun i=>inS (gD l i)) hi
   have hbk:=zAP hi
   have hwd:=zl (gD l i)
   have hff:=zAG (gD l i) 5
   simp only [sumN] at hff
   have hst:=zAN ((gD l i).f 0)
   have hb1:=zl ((gD l i).f 1)
   have hb3:=zl ((gD l i).f 3)
   have hal:=zx ((gD l i).f 4)
   have hx:=hp.ins i hi
   have hwi:=hw i
   have q1:=refW_ac ((gD l i).f 1) (by omega)
   have q2:=zKu ((gD l i).f 3) (hwi.f 3) (by omega) hx.val.lit
   have q3:=zEu ((gD l i).f 4).l hx.dirs (hwi.f 4).l (by omega)
   have htl:=zAR ((gD l i).f 0).s
   have eI:inS (gD l i)=[32]++tx ((gD l i).f 0).s++[32,58,32]++refS ((gD l i).f 1)++(if ((gD l i).f 2).b=true then [32,61,32]++zF3 ((gD l i).f 3) else [])++dirsS ((gD l i).f 4).l:=rfl
   have eIl:=congrArg List.length eI
   try dsimp only at hpt
   cases hh:((gD l i).f 2).b with
   |true =>
    rw [hh,if_pos rfl] at eI eIl
    simp only [List.length_append,List.length_cons,List.length_nil] at eIl
    repeat' (first
|apply zG
 . conv=>lhs;whnf
 . assumption
|refine zA ?_
|refine zB ?_
|refine zK ?_
|refine zP ?_
|apply aw_1
 conv=>whnf
 refine ⟨?_,trivial⟩
|apply s_1
 conv=>whnf;arg 1;arg 4;arg 3;whnf
 refine ⟨?_,?_⟩
|apply zb rfl
 . conv=>lhs;whnf
 . conv=>lhs;whnf
 . first | exact q1 | exact q2 | exact q3
|apply zAC (by kernel_rfl) (by kernel_rfl)
|apply zAs
|apply zAr rfl
 . conv=>lhs;whnf
 . conv=>lhs;whnf;arg 2;whnf
|apply zCX rfl
 . conv=>lhs;whnf
 . conv=>lhs;whnf
 . first | exact q1 | exact q2 | exact q3
|exact zj
|exact zr
|exact (1000000:Nat)
|exact trivial)
    all_goals first
     |exact zS (by omega)
     |exact zu hi
     |(refine zH (j':=j-1) (by omega) ⟨i+1,by omega,Sub.live ⟨rfl,?_,rfl,trivial⟩ trivial⟩
       refine z8 ?_
       rw [zAL,eI]
       simp only [zo,zAm,zAE,List.append_assoc]
       try rfl)
     |(simp only [ByteArray.size_append,ze,zw,List.size_toArray,List.length_append,List.length_cons,List.length_nil,maxLen,Int.toNat_natCast,Nat.zero_add,Nat.reduceAdd];omega)
     |skip
   |false =>
    rw [hh,if_neg (by decide)] at eI eIl
    simp only [List.length_append,List.length_cons,List.length_nil] at eIl
    repeat' (first
|apply zG
 . conv=>lhs;whnf
 . assumption
|apply zD
 . conv=>lhs;whnf
 . assumption
|refine zA ?_
|refine zB ?_
|refine zK ?_
|refine zP ?_
|apply aw_1
 conv=>whnf
 refine ⟨?_,trivial⟩
|apply s_1
 conv=>whnf;arg 1;arg 4;arg 3;whnf
 refine ⟨?_,?_⟩
|apply zb rfl
 . conv=>lhs;whnf
 . conv=>lhs;whnf
 . first | exact q1 | exact q2 | exact q3
|apply zAC (by kernel_rfl) (by kernel_rfl)
|apply zAs
|apply zAr rfl
 . conv=>lhs;whnf
 . conv=>lhs;whnf;arg 2;whnf
|apply zCX rfl
 . conv=>lhs;whnf
 . conv=>lhs;whnf
 . first | exact q1 | exact q2 | exact q3
|exact zj
|exact zr
|exact (1000000:Nat)
|exact trivial)
    all_goals first
     |exact zS (by omega)
     |exact zu hi
     |(refine zH (j':=j-1) (by omega) ⟨i+1,by omega,Sub.live ⟨rfl,?_,rfl,trivial⟩ trivial⟩
       refine z8 ?_
       rw [zAL,eI]
       simp only [zo,zAm,zAE,List.append_assoc,List.append_nil,List.nil_append]
       try rfl)
     |(simp only [ByteArray.size_append,ze,zw,List.size_toArray,List.length_append,List.length_cons,List.length_nil,maxLen,Int.toNat_natCast,Nat.zero_add,Nat.reduceAdd];omega)
     |skip
 . have f1:decide ((i:Int)<(l.length:Nat))=false:=decide_eq_false (by omega)
   have ei:i=l.length:=by omega
   subst ei
   repeat' (first
|apply zD
 . conv=>lhs;whnf
 . assumption
|refine zA ?_
|refine zB ?_
|refine zK ?_
|apply aw_1
 conv=>whnf
 refine ⟨?_,trivial⟩
|apply s_1
 conv=>whnf;arg 1;arg 4;arg 3;whnf
 refine ⟨?_,?_⟩
|refine zL ?_
|refine zJ rfl ?_
|refine zI ?_
|refine zE ?_
|refine ⟨_,by conv=>lhs;whnf;arg 2;whnf,?_⟩;conv=>rhs;whnf
|exact trivial)
end
section
open Go.RowKit
set_option linter.unusedSectionVars false
def kwS:List D:=[.str ⟨#[]⟩,.str ⟨#[116,121,112,101]⟩,.str ⟨#[105,110,116,101,114,102,97,99,101]⟩,.str ⟨#[117,110,105,111,110]⟩,.str ⟨#[101,110,117,109]⟩,.str ⟨#[105,110,112,117,116]⟩]
theorem kwS_at {n:Int} (h:1<=n/\n<=5):(gD kwS n.toNat).s=bs (wordD n):=by
 have:n=1\/n=2\/n=3\/n=4\/n=5:=by omega
 rcases this with e | e | e | e | e<;>subst e<;>rfl
theorem kwS_in {n:Int} (h:1<=n/\n<=5):0<=n/\n<(kwS.length:Int):=⟨by omega,by show n<6;omega⟩
def facF (l:List D) (i:Nat):List UInt8:=(if i=0 then [32]++zIw++[32] else [32,38,32])++tx (gD l i).s
def uniF (l:List D) (i:Nat):List UInt8:=(if i=0 then [32,61,32] else [32,124,32])++tx ((gD l i).f 0).s
theorem zI5 (l:List D):zGk l=flatN (facF l) l.length:=rfl
theorem zH8 (l:List D):zE8 l=flatN (uniF l) l.length:=rfl
attribute [local irreducible] wpList Calls Code.wp AW AWo OpOk seqK zq zt loopK endK AC zg Yld Sub
attribute [local irreducible] ACB ACX ACE absLexG YldG absLexH
noncomputable def HDw (d:D) (P:List UInt8) (q:Nat) (i:Nat):Vst 151:=stS 151 [(1,.bx 1 0),(4,.c (.string (bs P))),(q,.c (.int .i64 (i:Int)))] [(1,.box 45 (cellsV Tryz.prog 12 45 d))]
theorem defW_ac (d:D) (hp:DefP d) (hw:wideD d) (hb:bulkD d<=1048576):AC EN Tryz.prog 39 [.agg (cellsV Tryz.prog 12 45 d)] (.c (.string (bs (defS d)))):=by
 have hk:=hp.kind
 have hkw:=kwS_at hk
 have hkl:=zH1 (d.f 0).n
 have hff:=zAG d 7
 simp only [sumN] at hff
 have hwd:=zl d
 have hs1:=zAN (d.f 1)
 have hs1':=zAR (d.f 1).s
 have hl2:=zx (d.f 2);have hl2':=zAc (d.f 2).l
 have hl3:=zx (d.f 3)
 have hl4:=zx (d.f 4);have hl4':=zAc (d.f 4).l
 have hl5:=zx (d.f 5);have hl5':=zAc (d.f 5).l
 have hl6:=zx (d.f 6)
 have z2:=zGj (d.f 2).l
 have z3:=zB5 (d.f 3).l (hw.f 3).l
 have z4:=zBe fdS (d.f 4).l 48 fun i _=>fdS_len _ ((hw.f 4).l i)
 have z5:=zBe mbS (d.f 5).l 44 fun i _=>mbS_len _ ((hw.f 5).l i)
 have z5':=zGG (d.f 5).l
 have z6:=zEr (d.f 6).l (hw.f 6).l
 have q1:=zEu (d.f 3).l hp.dirs (hw.f 3).l (by omega)
 have q2:=insW_ac (d.f 6).l hp.ins (hw.f 6).l (by omega)
 obtain ⟨P1,eP1⟩ : ∃ P,wordD (d.f 0).n++[32]++tx (d.f 1).s=P:=⟨_,rfl⟩
 have hP1:P1.length<=2000000:=by rw [<- eP1];simp only [List.length_append,List.length_cons,List.length_nil];omega
 have eD:defS d=P1++zGk (d.f 2).l++dirsS (d.f 3).l++(if (d.f 0).n=3 then zE8 (d.f 5).l else [32,123]++zBf fdS (d.f 4).l++zBf mbS (d.f 5).l++insS (d.f 6).l++[32,125]):=by
  rw [<- eP1];rfl
 rw [eD]
 clear eD
 refine zN 151 Tryz.func39 rfl rfl rfl rfl ?_
 intro s w he
 repeat' (first
|apply zFI kwS rfl rfl
 . conv=>lhs;whnf
 . first | exact zBx | (conv=>lhs;whnf;arg 1;whnf)
 . rfl
 . rfl
 . repeat' (first | exact trivial | apply And.intro | rfl)
|refine zA ?_
|refine zB ?_
|refine zK ?_
|apply aw_1
 conv=>whnf
 refine ⟨?_,trivial⟩
|apply s_1
 conv=>whnf;arg 1;arg 4;arg 3;whnf
 refine ⟨?_,?_⟩
|apply zAA rfl rfl rfl rfl
 . conv=>lhs;whnf;arg 1;whnf
 . rfl
|apply zAC (by kernel_rfl) (by kernel_rfl)
|apply zAs
|apply zAr rfl
 . conv=>lhs;whnf
 . conv=>lhs;whnf;arg 2;whnf
|exact zj
|exact zr
|exact (1000000:Nat)
|exact trivial)
 all_goals first
  |exact kwS_in hk
  |(rw [hkw];(simp only [ByteArray.size_append,ze,zw,List.size_toArray,List.length_append,List.length_cons,List.length_nil,maxLen,Int.toNat_natCast,Nat.zero_add,Nat.reduceAdd];omega))
  |(simp only [ByteArray.size_append,ze,zw,List.size_toArray,List.length_append,List.length_cons,List.length_nil,maxLen,Int.toNat_natCast,Nat.zero_add,Nat.reduceAdd];omega)
  |skip
 refine za (fun j st => ∃ i,i+j=(d.f 2).l.length/\Sub (cx EN Tryz.prog s w he) st (HDw d (P1++flatN (facF (d.f 2).l) i) 5 i)) (d.f 2).l.length ⟨0,by omega,Sub.live ⟨rfl,?_,rfl,trivial⟩ ⟨rfl,trivial⟩⟩ ?_
 . refine z8 ?_
   show tx ((gD kwS (d.f 0).n.toNat).s ++ { data:=#[32] }++(d.f 1).s)=tx (bs (P1++[]))
   rw [hkw,<- eP1]
   simp only [zo,zAm,zAE,List.append_nil]
 rintro j st ⟨i,hij,hs2⟩
 refine zi hs2 ?_
 clear hs2
 rw [zI5] at z2
 by_cases hi:i<(d.f 2).l.length
 . have f1:decide ((i:Int)<((d.f 2).l.length:Nat))=true:=decide_eq_true (by omega)
   have hpt:=zAg (facF (d.f 2).l) hi
   have hnl:=zAR (gD (d.f 2).l i).s
   have hbs:=zAN (gD (d.f 2).l i)
   have hbg:=zAP hi
   have hbw:=zl (gD (d.f 2).l i)
   by_cases h0:i=0
   . have g0:((i:Int)==0)=true:=by rw [h0];rfl
     have eF:facF (d.f 2).l i=[32,105,109,112,108,101,109,101,110,116,115,32]++tx (gD (d.f 2).l i).s:=by unfold facF;rw [if_pos h0];rfl
     repeat' (first
|apply zG
 . conv=>lhs;whnf
 . assumption
|refine zA ?_
|refine zB ?_
|refine zK ?_
|refine zP ?_
|apply aw_1
 conv=>whnf
 refine ⟨?_,trivial⟩
|apply s_1
 conv=>whnf;arg 1;arg 4;arg 3;whnf
 refine ⟨?_,?_⟩
|exact trivial)
     all_goals first
      |exact zS (by omega)
      |exact zu hi
      |(refine zH (j':=j-1) (by omega) ⟨i+1,by omega,Sub.live ⟨rfl,?_,rfl,trivial⟩ ⟨rfl,trivial⟩⟩
        refine z8 ?_
        rw [zAL,eF]
        simp only [zo,zAm,zAE,List.append_assoc]
        try rfl)
      |(simp only [ByteArray.size_append,ze,zw,List.size_toArray,List.length_append,List.length_cons,List.length_nil,maxLen,Int.toNat_natCast,Nat.zero_add,Nat.reduceAdd];omega)
      |skip
   . have g0:((i:Int)==0)=false:=by rw [beq_eq_false_iff_ne];omega
     have eF:facF (d.f 2).l i=[32,38,32]++tx (gD (d.f 2).l i).s:=by unfold facF;rw [if_neg h0]
     repeat' (first
|apply zG
 . conv=>lhs;whnf
 . assumption
|apply zD
 . conv=>lhs;whnf
 . assumption
|refine zA ?_
|refine zB ?_
|refine zK ?_
|refine zP ?_
|apply aw_1
 conv=>whnf
 refine ⟨?_,trivial⟩
|apply s_1
 conv=>whnf;arg 1;arg 4;arg 3;whnf
 refine ⟨?_,?_⟩
|exact trivial)
     all_goals first
      |exact zS (by omega)
      |exact zu hi
      |(refine zH (j':=j-1) (by omega) ⟨i+1,by omega,Sub.live ⟨rfl,?_,rfl,trivial⟩ ⟨rfl,trivial⟩⟩
        refine z8 ?_
        rw [zAL,eF]
        simp only [zo,zAm,zAE,List.append_assoc]
        try rfl)
      |(simp only [ByteArray.size_append,ze,zw,List.size_toArray,List.length_append,List.length_cons,List.length_nil,maxLen,Int.toNat_natCast,Nat.zero_add,Nat.reduceAdd];omega)
      |skip
 have f1:decide ((i:Int)<((d.f 2).l.length:Nat))=false:=decide_eq_false (by omega)
 have ei:i=(d.f 2).l.length:=by omega
 subst ei
 clear hij
 obtain ⟨P2,eP2⟩ : ∃ P,P1++flatN (facF (d.f 2).l) (d.f 2).l.length++dirsS (d.f 3).l=P:=⟨_,rfl⟩
 have hP2:P2.length<=200000000:=by rw [<- eP2];simp only [List.length_append];omega
 rw [zI5,eP2]
 by_cases h3:(d.f 0).n=3
 . have g3:((d.f 0).n==3)=true:=by rw [h3];rfl
   rw [if_pos h3,zH8]
   rw [zH8] at z5'
   repeat' (first
|apply zG
 . conv=>lhs;whnf
 . assumption
|apply zD
 . conv=>lhs;whnf
 . assumption
|refine zA ?_
|refine zB ?_
|refine zK ?_
|apply aw_1
 conv=>whnf
 refine ⟨?_,trivial⟩
|apply s_1
 conv=>whnf;arg 1;arg 4;arg 3;whnf
 refine ⟨?_,?_⟩
|apply zb rfl
 . conv=>lhs;whnf
 . conv=>lhs;whnf
 . first | exact q1
|refine zL ?_
|refine zJ rfl ?_
|refine zI ?_
|exact trivial)
   all_goals first
    |(simp only [ByteArray.size_append,ze,zw,List.size_toArray,List.length_append,List.length_cons,List.length_nil,maxLen,Int.toNat_natCast,Nat.zero_add,Nat.reduceAdd];omega)
    |skip
   refine za (fun j st => ∃ i,i+j=(d.f 5).l.length/\Sub (cx EN Tryz.prog s w he) st (HDw d (P2++flatN (uniF (d.f 5).l) i) 6 i)) (d.f 5).l.length ⟨0,by omega,Sub.live ⟨rfl,?_,rfl,trivial⟩ ⟨rfl,trivial⟩⟩ ?_
   . refine z8 ?_
     show _=tx (bs (P2++[]))
     rw [<- eP2]
     simp only [zo,zAm,List.append_nil]
   rintro j st ⟨i,hij,hs2⟩
   refine zi hs2 ?_
   clear hs2
   by_cases hi:i<(d.f 5).l.length
   . have f1:decide ((i:Int)<((d.f 5).l.length:Nat))=true:=decide_eq_true (by omega)
     have hpt:=zAg (uniF (d.f 5).l) hi
     have hnl:=zAR ((gD (d.f 5).l i).f 0).s
     have hbs:=zAN ((gD (d.f 5).l i).f 0)
     have hbf:=wD_f (gD (d.f 5).l i) 0
     have hbg:=zAP hi
     have hbw:=zl (gD (d.f 5).l i)
     by_cases h0:i=0
     . have g0:((i:Int)==0)=true:=by rw [h0];rfl
       have eF:uniF (d.f 5).l i=[32,61,32]++tx ((gD (d.f 5).l i).f 0).s:=by unfold uniF;rw [if_pos h0]
       repeat' (first
|apply zG
 . conv=>lhs;whnf
 . assumption
|refine zA ?_
|refine zB ?_
|refine zK ?_
|refine zP ?_
|apply aw_1
 conv=>whnf
 refine ⟨?_,trivial⟩
|apply s_1
 conv=>whnf;arg 1;arg 4;arg 3;whnf
 refine ⟨?_,?_⟩
|exact trivial)
       all_goals first
        |exact zS (by omega)
        |exact zu hi
        |(refine zH (j':=j-1) (by omega) ⟨i+1,by omega,Sub.live ⟨rfl,?_,rfl,trivial⟩ ⟨rfl,trivial⟩⟩
          refine z8 ?_
          rw [zAL,eF]
          simp only [zo,zAm,zAE,List.append_assoc]
          try rfl)
        |(simp only [ByteArray.size_append,ze,zw,List.size_toArray,List.length_append,List.length_cons,List.length_nil,maxLen,Int.toNat_natCast,Nat.zero_add,Nat.reduceAdd];omega)
        |skip
     . have g0:((i:Int)==0)=false:=by rw [beq_eq_false_iff_ne];omega
       have eF:uniF (d.f 5).l i=[32,124,32]++tx ((gD (d.f 5).l i).f 0).s:=by unfold uniF;rw [if_neg h0]
       repeat' (first
|apply zG
 . conv=>lhs;whnf
 . assumption
|apply zD
 . conv=>lhs;whnf
 . assumption
|refine zA ?_
|refine zB ?_
|refine zK ?_
|refine zP ?_
|apply aw_1
 conv=>whnf
 refine ⟨?_,trivial⟩
|apply s_1
 conv=>whnf;arg 1;arg 4;arg 3;whnf
 refine ⟨?_,?_⟩
|exact trivial)
       all_goals first
        |exact zS (by omega)
        |exact zu hi
        |(refine zH (j':=j-1) (by omega) ⟨i+1,by omega,Sub.live ⟨rfl,?_,rfl,trivial⟩ ⟨rfl,trivial⟩⟩
          refine z8 ?_
          rw [zAL,eF]
          simp only [zo,zAm,zAE,List.append_assoc]
          try rfl)
        |(simp only [ByteArray.size_append,ze,zw,List.size_toArray,List.length_append,List.length_cons,List.length_nil,maxLen,Int.toNat_natCast,Nat.zero_add,Nat.reduceAdd];omega)
        |skip
   . have f1:decide ((i:Int)<((d.f 5).l.length:Nat))=false:=decide_eq_false (by omega)
     have ei:i=(d.f 5).l.length:=by omega
     subst ei
     repeat' (first
|apply zD
 . conv=>lhs;whnf
 . assumption
|refine zA ?_
|refine zB ?_
|refine zK ?_
|apply aw_1
 conv=>whnf
 refine ⟨?_,trivial⟩
|apply s_1
 conv=>whnf;arg 1;arg 4;arg 3;whnf
 refine ⟨?_,?_⟩
|refine zL ?_
|refine zM ?_
|refine zJ rfl ?_
|refine zI ?_
|refine zE ?_
|refine ⟨_,by conv=>lhs;whnf;arg 2;whnf,?_⟩;conv=>rhs;whnf
|exact trivial)
 have g3:((d.f 0).n==3)=false:=by simpa using h3
 rw [if_neg h3]
 repeat' (first
|apply zD
 . conv=>lhs;whnf
 . assumption
|refine zA ?_
|refine zB ?_
|refine zK ?_
|apply aw_1
 conv=>whnf
 refine ⟨?_,trivial⟩
|apply s_1
 conv=>whnf;arg 1;arg 4;arg 3;whnf
 refine ⟨?_,?_⟩
|apply zb rfl
 . conv=>lhs;whnf
 . conv=>lhs;whnf
 . first | exact q1
|refine zL ?_
|refine zJ rfl ?_
|refine zI ?_
|exact trivial)
 all_goals first
  |(simp only [ByteArray.size_append,ze,zw,List.size_toArray,List.length_append,List.length_cons,List.length_nil,maxLen,Int.toNat_natCast,Nat.zero_add,Nat.reduceAdd];omega)
  |skip
 obtain ⟨P3,eP3⟩ : ∃ P,P2++[32,123]=P:=⟨_,rfl⟩
 have hP3:P3.length<=200000010:=by rw [<- eP3];simp only [List.length_append,List.length_cons,List.length_nil];omega
 have eF4:zBf fdS (d.f 4).l=flatN (fun i=>fdS (gD (d.f 4).l i)) (d.f 4).l.length:=rfl
 have eF5:zBf mbS (d.f 5).l=flatN (fun i=>mbS (gD (d.f 5).l i)) (d.f 5).l.length:=rfl
 rw [eF4] at z4
 rw [eF5] at z5
 have eE:P2++([32,123]++zBf fdS (d.f 4).l++zBf mbS (d.f 5).l++insS (d.f 6).l++[32,125])=P3++flatN (fun i=>fdS (gD (d.f 4).l i)) (d.f 4).l.length++flatN (fun i=>mbS (gD (d.f 5).l i)) (d.f 5).l.length++insS (d.f 6).l++[32,125]:=by
  rw [<- eP3,eF4,eF5];simp only [List.append_assoc]
 rw [eE]
 clear eE
 refine za (fun j st => ∃ i,i+j=(d.f 4).l.length/\Sub (cx EN Tryz.prog s w he) st (HDw d (P3++flatN (fun i=>fdS (gD (d.f 4).l i)) i) 7 i)) (d.f 4).l.length ⟨0,by omega,Sub.live ⟨rfl,?_,rfl,trivial⟩ ⟨rfl,trivial⟩⟩ ?_
 . refine z8 ?_
   show _=tx (bs (P3++[]))
   rw [<- eP3,<- eP2]
   simp only [zo,zAm,zAE,List.append_nil]
 rintro j st ⟨i,hij,hs2⟩
 refine zi hs2 ?_
 clear hs2
 by_cases hi:i<(d.f 4).l.length
 . have f1:decide ((i:Int)<((d.f 4).l.length:Nat))=true:=decide_eq_true (by omega)
   have hpt:=zAg (fun i=>fdS (gD (d.f 4).l i)) hi
   have hwx:=(hw.f 4).l i
   have hx:=hp.fds i hi
   have hbg:=zAP hi
   have hbw:=zl (gD (d.f 4).l i)
   have hbf:=zAG (gD (d.f 4).l i) 4
   simp only [sumN] at hbf
   have hnl:=zAR ((gD (d.f 4).l i).f 0).s
   have hbs:=zAN ((gD (d.f 4).l i).f 0)
   have ha1:=zx ((gD (d.f 4).l i).f 1);have ha1':=zAc ((gD (d.f 4).l i).f 1).l
   have hr2:=zl ((gD (d.f 4).l i).f 2)
   have ha3:=zx ((gD (d.f 4).l i).f 3)
   have k1:=insW_ac ((gD (d.f 4).l i).f 1).l hx.args (hwx.f 1).l (by omega)
   have k2:=refW_ac ((gD (d.f 4).l i).f 2) (by omega)
   have k3:=zEu ((gD (d.f 4).l i).f 3).l hx.dirs (hwx.f 3).l (by omega)
   have eF:fdS (gD (d.f 4).l i)=[32]++tx ((gD (d.f 4).l i).f 0).s++(if ((gD (d.f 4).l i).f 1).l.length=0 then [] else [32,40]++insS ((gD (d.f 4).l i).f 1).l++[32,41])++[32,58,32]++refS ((gD (d.f 4).l i).f 2)++dirsS ((gD (d.f 4).l i).f 3).l:=rfl
   have eFl:=congrArg List.length eF
   try dsimp only at hpt
   by_cases h0:((gD (d.f 4).l i).f 1).l.length=0
   . have g0:decide ((((gD (d.f 4).l i).f 1).l.length:Int)>0)=false:=decide_eq_false (by omega)
     rw [if_pos h0] at eF eFl
     simp only [List.length_append,List.length_cons,List.length_nil] at eFl
     repeat' (first
|apply zG
 . conv=>lhs;whnf
 . assumption
|apply zD
 . conv=>lhs;whnf
 . assumption
|refine zA ?_
|refine zB ?_
|refine zK ?_
|refine zP ?_
|apply aw_1
 conv=>whnf
 refine ⟨?_,trivial⟩
|apply s_1
 conv=>whnf;arg 1;arg 4;arg 3;whnf
 refine ⟨?_,?_⟩
|apply zV rfl rfl rfl
 . conv=>lhs;whnf
 . conv=>lhs;whnf;arg 1;whnf
 . conv=>lhs;whnf;arg 1;whnf
 . exact ⟨by kernel_rfl,by kernel_rfl⟩
 . rfl
|apply zAC (by kernel_rfl) (by kernel_rfl)
|apply zAs
|apply zAr rfl
 . conv=>lhs;whnf
 . conv=>lhs;whnf;arg 2;whnf
|apply zCX rfl
 . conv=>lhs;whnf
 . conv=>lhs;whnf
 . first | exact k1 | exact k2 | exact k3
|exact zj
|exact zr
|exact (1000000:Nat)
|exact trivial)
     all_goals first
      |exact zS (by omega)
      |exact zu hi
      |(refine zH (j':=j-1) (by omega) ⟨i+1,by omega,Sub.live ⟨rfl,?_,rfl,trivial⟩ ⟨rfl,trivial⟩⟩
        refine z8 ?_
        rw [zAL,eF]
        simp only [zo,zAm,zAE,List.append_assoc,List.append_nil,List.nil_append]
        try rfl)
      |(simp only [ByteArray.size_append,ze,zw,List.size_toArray,List.length_append,List.length_cons,List.length_nil,maxLen,Int.toNat_natCast,Nat.zero_add,Nat.reduceAdd];omega)
      |skip
   . have g0:decide ((((gD (d.f 4).l i).f 1).l.length:Int)>0)=true:=decide_eq_true (by omega)
     rw [if_neg h0] at eF eFl
     simp only [List.length_append,List.length_cons,List.length_nil] at eFl
     repeat' (first
|apply zG
 . conv=>lhs;whnf
 . assumption
|refine zA ?_
|refine zB ?_
|refine zK ?_
|refine zP ?_
|apply aw_1
 conv=>whnf
 refine ⟨?_,trivial⟩
|apply s_1
 conv=>whnf;arg 1;arg 4;arg 3;whnf
 refine ⟨?_,?_⟩
|apply zb rfl
 . conv=>lhs;whnf
 . conv=>lhs;whnf
 . first | exact k1 | exact k2 | exact k3
|apply zV rfl rfl rfl
 . conv=>lhs;whnf
 . conv=>lhs;whnf;arg 1;whnf
 . conv=>lhs;whnf;arg 1;whnf
 . exact ⟨by kernel_rfl,by kernel_rfl⟩
 . rfl
|apply zAC (by kernel_rfl) (by kernel_rfl)
|apply zAs
|apply zAr rfl
 . conv=>lhs;whnf
 . conv=>lhs;whnf;arg 2;whnf
|apply zCX rfl
 . conv=>lhs;whnf
 . conv=>lhs;whnf
 . first | exact k1 | exact k2 | exact k3
|exact zj
|exact zr
|exact (1000000:Nat)
|exact trivial)
     all_goals first
      |exact zS (by omega)
      |exact zu hi
      |(refine zH (j':=j-1) (by omega) ⟨i+1,by omega,Sub.live ⟨rfl,?_,rfl,trivial⟩ ⟨rfl,trivial⟩⟩
        refine z8 ?_
        rw [zAL,eF]
        simp only [zo,zAm,zAE,List.append_assoc]
        try rfl)
      |(simp only [ByteArray.size_append,ze,zw,List.size_toArray,List.length_append,List.length_cons,List.length_nil,maxLen,Int.toNat_natCast,Nat.zero_add,Nat.reduceAdd];omega)
      |skip
 have f1:decide ((i:Int)<((d.f 4).l.length:Nat))=false:=decide_eq_false (by omega)
 have ei:i=(d.f 4).l.length:=by omega
 subst ei
 clear hij
 obtain ⟨P4,eP4⟩ : ∃ P,P3++flatN (fun i=>fdS (gD (d.f 4).l i)) (d.f 4).l.length=P:=⟨_,rfl⟩
 have hP4:P4.length<=400000010:=by rw [<- eP4];simp only [List.length_append];omega
 rw [eP4]
 repeat' (first
|apply zD
 . conv=>lhs;whnf
 . assumption
|refine zA ?_
|refine zB ?_
|refine zK ?_
|apply aw_1
 conv=>whnf
 refine ⟨?_,trivial⟩
|apply s_1
 conv=>whnf;arg 1;arg 4;arg 3;whnf
 refine ⟨?_,?_⟩
|refine zL ?_
|refine zJ rfl ?_
|refine zI ?_
|exact trivial)
 refine za (fun j st => ∃ i,i+j=(d.f 5).l.length/\Sub (cx EN Tryz.prog s w he) st (HDw d (P4++flatN (fun i=>mbS (gD (d.f 5).l i)) i) 9 i)) (d.f 5).l.length ⟨0,by omega,Sub.live ⟨rfl,?_,rfl,trivial⟩ ⟨rfl,trivial⟩⟩ ?_
 . refine z8 ?_
   show _=tx (bs (P4++[]))
   simp only [zAm,List.append_nil]
 rintro j st ⟨i,hij,hs2⟩
 refine zi hs2 ?_
 clear hs2
 by_cases hi:i<(d.f 5).l.length
 . have f1:decide ((i:Int)<((d.f 5).l.length:Nat))=true:=decide_eq_true (by omega)
   have hpt:=zAg (fun i=>mbS (gD (d.f 5).l i)) hi
   have hwx:=(hw.f 5).l i
   have hx:=hp.mbs i hi
   have hbg:=zAP hi
   have hbw:=zl (gD (d.f 5).l i)
   have hbf:=zAG (gD (d.f 5).l i) 2
   simp only [sumN] at hbf
   have hnl:=zAR ((gD (d.f 5).l i).f 0).s
   have hbs:=zAN ((gD (d.f 5).l i).f 0)
   have ha1:=zx ((gD (d.f 5).l i).f 1)
   have k3:=zEu ((gD (d.f 5).l i).f 1).l hx.dirs (hwx.f 1).l (by omega)
   have eF:mbS (gD (d.f 5).l i)=[32]++tx ((gD (d.f 5).l i).f 0).s++dirsS ((gD (d.f 5).l i).f 1).l:=rfl
   have eFl:=congrArg List.length eF
   simp only [List.length_append,List.length_cons,List.length_nil] at eFl
   try dsimp only at hpt
   repeat' (first
|apply zG
 . conv=>lhs;whnf
 . assumption
|refine zA ?_
|refine zB ?_
|refine zK ?_
|refine zP ?_
|apply aw_1
 conv=>whnf
 refine ⟨?_,trivial⟩
|apply s_1
 conv=>whnf;arg 1;arg 4;arg 3;whnf
 refine ⟨?_,?_⟩
|apply zAC (by kernel_rfl) (by kernel_rfl)
|apply zAs
|apply zAr rfl
 . conv=>lhs;whnf
 . conv=>lhs;whnf;arg 2;whnf
|apply zCX rfl
 . conv=>lhs;whnf
 . conv=>lhs;whnf
 . first | exact k3
|exact zj
|exact zr
|exact (1000000:Nat)
|exact trivial)
   all_goals first
    |exact zS (by omega)
    |exact zu hi
    |(refine zH (j':=j-1) (by omega) ⟨i+1,by omega,Sub.live ⟨rfl,?_,rfl,trivial⟩ ⟨rfl,trivial⟩⟩
      refine z8 ?_
      rw [zAL,eF]
      simp only [zo,zAm,zAE,List.append_assoc]
      try rfl)
    |(simp only [ByteArray.size_append,ze,zw,List.size_toArray,List.length_append,List.length_cons,List.length_nil,maxLen,Int.toNat_natCast,Nat.zero_add,Nat.reduceAdd];omega)
    |skip
 . have f1:decide ((i:Int)<((d.f 5).l.length:Nat))=false:=decide_eq_false (by omega)
   have ei:i=(d.f 5).l.length:=by omega
   subst ei
   repeat' (first
|apply zD
 . conv=>lhs;whnf
 . assumption
|refine zA ?_
|refine zB ?_
|refine zK ?_
|apply aw_1
 conv=>whnf
 refine ⟨?_,trivial⟩
|apply s_1
 conv=>whnf;arg 1;arg 4;arg 3;whnf
 refine ⟨?_,?_⟩
|apply zb rfl
 . conv=>lhs;whnf
 . conv=>lhs;whnf
 . first | exact q2
|refine zL ?_
|refine zJ rfl ?_
|refine zI ?_
|refine zE ?_
|refine ⟨_,by conv=>lhs;whnf;arg 2;whnf,?_⟩;conv=>rhs;whnf
|exact trivial)
   all_goals first
    |(refine z8 ?_;simp only [zo,zAm,zAE,List.append_assoc];done)
    |(simp only [ByteArray.size_append,ze,zw,List.size_toArray,List.length_append,List.length_cons,List.length_nil,maxLen,Int.toNat_natCast,Nat.zero_add,Nat.reduceAdd];omega)
    |skip
noncomputable def HWrD (d:D) (P:List UInt8) (i:Nat):Vst 25:=stS 25 [(1,.bx 1 0),(3,.c (.string (bs P))),(4,.c (.int .i64 (i:Int)))] [(1,.box 25 (cellsV Tryz.prog 12 25 d))]
theorem writeW_ac (d:D) (hp : ∀ i,i<(d.f 0).l.length->DefP (gD (d.f 0).l i)) (hw:wideD d) (hb:bulkD d<=1048576):AC EN Tryz.prog 18 [.agg (cellsV Tryz.prog 12 25 d)] (.c (.string (bs (docS (d.f 0).l)))):=by
 have hwd:=zl d
 have hf0:=wD_f d 0
 have hl0:=zx (d.f 0);have hl0':=zAc (d.f 0).l
 have hsz:=docS_len (d.f 0).l (hw.f 0).l
 have e:docS (d.f 0).l=flatN (fun i=>(if i=0 then [] else [32])++defS (gD (d.f 0).l i)) (d.f 0).l.length:=rfl
 rw [e] at hsz |-
 clear e
 refine zN 25 Tryz.func18 rfl rfl rfl rfl ?_
 intro s w he
 repeat' (first
|refine zA ?_
|refine zB ?_
|refine zK ?_
|apply aw_1
 conv=>whnf
 refine ⟨?_,trivial⟩
|apply s_1
 conv=>whnf;arg 1;arg 4;arg 3;whnf
 refine ⟨?_,?_⟩
|apply zAA rfl rfl rfl rfl
 . conv=>lhs;whnf;arg 1;whnf
 . rfl
|exact trivial)
 refine za (fun j st => ∃ i,i+j=(d.f 0).l.length/\Sub (cx EN Tryz.prog s w he) st (HWrD d (flatN (fun i=>(if i=0 then [] else [32])++defS (gD (d.f 0).l i)) i) i)) (d.f 0).l.length ⟨0,by omega,Sub.live ⟨rfl,rfl,rfl,trivial⟩ ⟨rfl,trivial⟩⟩ ?_
 rintro j st ⟨i,hij,hs2⟩
 refine zi hs2 ?_
 clear hs2
 by_cases hi:i<(d.f 0).l.length
 . have f1:decide ((i:Int)<((d.f 0).l.length:Nat))=true:=decide_eq_true (by omega)
   have hpt:=zAg (fun i=>(if i=0 then [] else [32])++defS (gD (d.f 0).l i)) hi
   have hbg:=zAP hi
   have hd:=defW_ac (gD (d.f 0).l i) (hp i hi) ((hw.f 0).l i) (by omega)
   try dsimp only at hpt
   rw [List.length_append] at hpt
   by_cases h0:i=0
   . have g0:decide ((i:Int)>0)=false:=decide_eq_false (by omega)
     repeat' (first
|apply zG
 . conv=>lhs;whnf
 . assumption
|apply zD
 . conv=>lhs;whnf
 . assumption
|refine zA ?_
|refine zB ?_
|refine zK ?_
|refine zP ?_
|apply aw_1
 conv=>whnf
 refine ⟨?_,trivial⟩
|apply s_1
 conv=>whnf;arg 1;arg 4;arg 3;whnf
 refine ⟨?_,?_⟩
|apply zb rfl
 . conv=>lhs;whnf
 . conv=>lhs;whnf
 . first | exact hd
|exact trivial)
     all_goals first
      |exact zS (by omega)
      |exact zu hi
      |(refine zH (j':=j-1) (by omega) ⟨i+1,by omega,Sub.live ⟨rfl,?_,rfl,trivial⟩ ⟨rfl,trivial⟩⟩
        refine z8 ?_
        rw [zAL,if_pos h0]
        simp only [zo,zAm,zAE,List.append_assoc,List.nil_append]
        try rfl)
      |(simp only [ByteArray.size_append,ze,zw,List.size_toArray,List.length_append,List.length_cons,List.length_nil,maxLen,Int.toNat_natCast,Nat.zero_add,Nat.reduceAdd];omega)
      |skip
   . have g0:decide ((i:Int)>0)=true:=decide_eq_true (by omega)
     rw [if_neg h0] at hpt
     simp only [List.length_cons,List.length_nil] at hpt
     repeat' (first
|apply zG
 . conv=>lhs;whnf
 . assumption
|refine zA ?_
|refine zB ?_
|refine zK ?_
|refine zP ?_
|apply aw_1
 conv=>whnf
 refine ⟨?_,trivial⟩
|apply s_1
 conv=>whnf;arg 1;arg 4;arg 3;whnf
 refine ⟨?_,?_⟩
|apply zb rfl
 . conv=>lhs;whnf
 . conv=>lhs;whnf
 . first | exact hd
|exact trivial)
     all_goals first
      |exact zS (by omega)
      |exact zu hi
      |(refine zH (j':=j-1) (by omega) ⟨i+1,by omega,Sub.live ⟨rfl,?_,rfl,trivial⟩ ⟨rfl,trivial⟩⟩
        refine z8 ?_
        rw [zAL,if_neg h0]
        simp only [zo,zAm,zAE,List.append_assoc]
        try rfl)
      |(simp only [ByteArray.size_append,ze,zw,List.size_toArray,List.length_append,List.length_cons,List.length_nil,maxLen,Int.toNat_natCast,Nat.zero_add,Nat.reduceAdd];omega)
      |skip
 . have f1:decide ((i:Int)<((d.f 0).l.length:Nat))=false:=decide_eq_false (by omega)
   have ei:i=(d.f 0).l.length:=by omega
   subst ei
   repeat' (first
|apply zD
 . conv=>lhs;whnf
 . assumption
|refine zA ?_
|refine zB ?_
|refine zK ?_
|apply aw_1
 conv=>whnf
 refine ⟨?_,trivial⟩
|apply s_1
 conv=>whnf;arg 1;arg 4;arg 3;whnf
 refine ⟨?_,?_⟩
|refine zL ?_
|refine zJ rfl ?_
|refine zI ?_
|refine zE ?_
|refine ⟨_,by conv=>lhs;whnf;arg 2;whnf,?_⟩;conv=>rhs;whnf
|exact trivial)
end
section
open Go.RowKit
set_option linter.unusedSectionVars false
theorem any_no {p:D->Bool} {l:List D} (h : ∀ m,m<l.length->p (gD l m)=false):l.any p=false:=by
 rw [List.any_eq_false]
 intro x hx
 obtain ⟨i,hi,rfl⟩:=List.getElem_of_mem hx
 rw [<- zA2 hi,h i hi];decide
theorem any_at {p:D->Bool} {l:List D} {i:Nat} (hi:i<l.length) (h:p (gD l i)=true):l.any p=true:=by
 rw [List.any_eq_true]
 exact ⟨_,List.getElem_mem hi,by rw [<- zA2 hi];exact h⟩
theorem zDa {p:D->Bool} {l:List D} (h : ∀ m,m<l.length->p (gD l m)=true):l.all p=true:=by
 rw [List.all_eq_true]
 intro x hx
 obtain ⟨i,hi,rfl⟩:=List.getElem_of_mem hx
 rw [<- zA2 hi];exact h i hi
theorem zFu {p:D->Bool} {l:List D} {i:Nat} (hi:i<l.length) (h:p (gD l i)=false):l.all p=false:=by
 rw [List.all_eq_false]
 exact ⟨_,List.getElem_mem hi,by rw [<- zA2 hi,h];decide⟩
theorem zFs : ∀ (k k':Nat) (d:D),Dp k d->Dp k' d->bareR k d=bareR k' d
 |0,_,_,h,_=>h.elim
 |_+1,0,_,_,h=>h.elim
 |k+1,k'+1,d,h,h'=>by
  unfold bareR
  congr 2
  by_cases hx : ∃ i,i<(d.f 3).l.length/\bareR k (gD (d.f 3).l i)=false
  . obtain ⟨i,hi,hb⟩:=hx
    rw [any_at (p:=fun x => !bareR k x) hi (by rw [hb];rfl),any_at (p:=fun x => !bareR k' x) hi (by rw [<- zFs k k' _ (h i hi) (h' i hi),hb];rfl)]
  . have hb : ∀ i,i<(d.f 3).l.length->bareR k (gD (d.f 3).l i)=true:=fun i hi=>by
     cases hq:bareR k (gD (d.f 3).l i) with
     |true=>rfl
     |false=>exact (hx ⟨i,hi,hq⟩).elim
    rw [any_no (p:=fun x => !bareR k x) fun i hi=>by rw [hb i hi];rfl,any_no (p:=fun x => !bareR k' x) fun i hi=>by rw [<- zFs k k' _ (h i hi) (h' i hi),hb i hi];rfl]
attribute [local irreducible] wpList Calls Code.wp AW AWo OpOk seqK zq zt loopK endK AC zg Yld Sub
attribute [local irreducible] ACB ACX ACE absLexG YldG absLexH
noncomputable def HvD (d:D) (i:Nat):Vst 18:=stS 18 [(1,.bx 1 0),(6,.sl 53 (d.f 3).l),(7,.c (.int .i64 ((d.f 3).l.length:Int))),(8,.c (.int .i64 (i:Int)))] [(1,.box 53 (cellsV Tryz.prog 12 53 d))]
theorem zEJ : ∀ (k:Nat) (d:D),Dp k d->AC EN5 Tryz.prog 183 [.agg (cellsV Tryz.prog 12 53 d)] (.c (.bool (!bareR k d)))
 |0,_,h=>h.elim
 |k+1,d,h=>by
  refine zA9 2 (by kernel_rfl) fun hL => ?_
  have hl3:(d.f 3).l.length<=9223372036854775807:=(zBB hL).1
  have ih:=fun i (hi:i<(d.f 3).l.length)=>zEJ k (gD (d.f 3).l i) (h i hi)
  refine zN 18 Tryz.func183 rfl rfl rfl rfl ?_
  intro s w he
  repeat' (first
|refine zA ?_
|refine zB ?_
|refine zK ?_
|apply aw_1
 conv=>whnf
 refine ⟨?_,trivial⟩
|apply s_1
 conv=>whnf;arg 1;arg 4;arg 3;whnf
 refine ⟨?_,?_⟩
|apply zAA rfl rfl rfl rfl
 . conv=>lhs;whnf;arg 1;whnf
 . rfl
|exact trivial)
  refine za (fun j st => ∃ i,i+j=(d.f 3).l.length/\(∀ m,m<i->bareR k (gD (d.f 3).l m)=true)/\Sub (cx EN5 Tryz.prog s w he) st (HvD d i)) (d.f 3).l.length ⟨0,by omega,fun m hm=>absurd hm (Nat.not_lt_zero m),Sub.live ⟨rfl,rfl,rfl,rfl,trivial⟩ ⟨rfl,trivial⟩⟩ ?_
  rintro j st ⟨i,hij,hno,hs2⟩
  refine zi hs2 ?_
  clear hs2
  by_cases hi:i<(d.f 3).l.length
  . have g1:decide ((i:Int)<((d.f 3).l.length:Nat))=true:=decide_eq_true (by omega)
    have ih2:=ih i hi
    cases hb:bareR k (gD (d.f 3).l i) with
    |false =>
     have hr:(!bareR (k+1) d)=true:=by
      unfold bareR
      rw [any_at (p:=fun x => !bareR k x) hi (by rw [hb];rfl)]
      simp
     rw [hr]
     rw [hb] at ih2
     have f3:(!false)=true:=rfl
     repeat' (first
|apply zG
 . conv=>lhs;whnf
 . assumption
|refine zA ?_
|refine zB ?_
|refine zK ?_
|apply aw_1
 conv=>whnf
 refine ⟨?_,trivial⟩
|apply s_1
 conv=>whnf;arg 1;arg 4;arg 3;whnf
 refine ⟨?_,?_⟩
|apply zb rfl
 . conv=>lhs;whnf
 . conv=>lhs;whnf
 . first | exact ih2
|apply zV rfl rfl rfl
 . conv=>lhs;whnf
 . conv=>lhs;whnf;arg 1;whnf
 . conv=>lhs;whnf;arg 1;whnf
 . exact ⟨by kernel_rfl,by kernel_rfl⟩
 . rfl
|refine zM ?_
|refine zO ?_
|refine zh ?_
|refine zE ?_
|refine ⟨_,by conv=>lhs;whnf;arg 2;whnf,?_⟩;conv=>rhs;whnf
|exact trivial)
     all_goals first
      |exact zS (by omega)
      |exact zu hi
      |rfl
    |true =>
     rw [hb] at ih2
     have f3:(!true)=false:=rfl
     repeat' (first
|apply zG
 . conv=>lhs;whnf
 . assumption
|apply zD
 . conv=>lhs;whnf
 . assumption
|refine zA ?_
|refine zB ?_
|refine zK ?_
|refine zP ?_
|apply aw_1
 conv=>whnf
 refine ⟨?_,trivial⟩
|apply s_1
 conv=>whnf;arg 1;arg 4;arg 3;whnf
 refine ⟨?_,?_⟩
|apply zb rfl
 . conv=>lhs;whnf
 . conv=>lhs;whnf
 . first | exact ih2
|apply zV rfl rfl rfl
 . conv=>lhs;whnf
 . conv=>lhs;whnf;arg 1;whnf
 . conv=>lhs;whnf;arg 1;whnf
 . exact ⟨by kernel_rfl,by kernel_rfl⟩
 . rfl
|exact trivial)
     all_goals first
      |exact zS (by omega)
      |exact zu hi
      |skip
     refine zH (j':=j-1) (by omega) ⟨i+1,by omega,fun m hm => ?_,Sub.live ⟨rfl,rfl,rfl,rfl,trivial⟩ ⟨rfl,trivial⟩⟩
     by_cases e:m=i
     . subst e;exact hb
     . exact hno m (by omega)
  . have g1:decide ((i:Int)<((d.f 3).l.length:Nat))=false:=decide_eq_false (by omega)
    have hr:(!bareR (k+1) d)=((d.f 0).n==7):=by
     unfold bareR
     rw [any_no (p:=fun x => !bareR k x) fun m hm=>by rw [hno m (by omega)];rfl]
     simp
    rw [hr]
    repeat' (first
|apply zD
 . conv=>lhs;whnf
 . assumption
|refine zA ?_
|refine zB ?_
|refine zK ?_
|apply aw_1
 conv=>whnf
 refine ⟨?_,trivial⟩
|apply s_1
 conv=>whnf;arg 1;arg 4;arg 3;whnf
 refine ⟨?_,?_⟩
|refine zL ?_
|refine zJ rfl ?_
|refine zI ?_
|refine zE ?_
|refine ⟨_,by conv=>lhs;whnf;arg 2;whnf,?_⟩;conv=>rhs;whnf
|exact trivial)
    all_goals first
     |rfl
     |skip
section
variable {lit:D->Bool} (hN : ∀ s:ByteArray,AC EN5 Tryz.prog 67 [.c (.string s)] (.c (.bool (nameB s)))) (hL : ∀ d:D,AC EN5 Tryz.prog 182 [.agg (cellsV Tryz.prog 12 53 d)] (.c (.bool (lit d))))
include hL
theorem zDM (d:D):AC EN5 Tryz.prog 131 [.agg (cellsV Tryz.prog 12 53 d)] (.c (.bool (valY lit d))):=by
 have h1:=hL d
 have h2:=zEJ _ d (zBP (bulkD d) d (Nat.le_refl _))
 rw [zFs _ (bulkD d) d (zBP (bulkD d) d (Nat.le_refl _)) (zBP (bulkD d) d (Nat.le_refl _))] at h2
 refine zN 10 Tryz.func131 rfl rfl rfl rfl ?_
 intro s w he
 repeat' (first
|refine zA ?_
|refine zB ?_
|refine zK ?_
|apply aw_1
 conv=>whnf
 refine ⟨?_,trivial⟩
|apply zT rfl rfl
 . conv=>lhs;whnf
 . conv=>lhs;whnf
 . first | exact bT1 ‹_› | exact bT2 ‹_›
|apply zQ rfl rfl
 . conv=>lhs;whnf
 . conv=>lhs;whnf
 . first | exact bF1 ‹_› | exact bF2 ‹_›
|apply s_1
 conv=>whnf;arg 1;arg 4;arg 3;whnf
 refine ⟨?_,?_⟩
|apply zb rfl
 . conv=>lhs;whnf
 . conv=>lhs;whnf
 . first | exact h1 | exact h2
|apply zAA rfl rfl rfl rfl
 . conv=>lhs;whnf;arg 1;whnf
 . rfl
|apply zF rfl
 . conv=>lhs;whnf
 . conv=>lhs;whnf
 . first | rfl | assumption
 . conv=>lhs;whnf;arg 2;whnf
|apply zU rfl
 . conv=>lhs;whnf
 . conv=>lhs;whnf
 . first | rfl | assumption
 . conv=>lhs;whnf
 . first | exact h1 | exact h2
|apply zX rfl
 . conv=>lhs;whnf
 . conv=>lhs;whnf
 . first | rfl | assumption
|apply zC rfl
 . conv=>lhs;whnf
 . conv=>lhs;whnf
 . conv=>lhs;whnf;arg 2;whnf
|refine zE ?_
|refine ⟨_,by conv=>lhs;whnf;arg 2;whnf,?_⟩;conv=>rhs;whnf
|exact trivial
|intro hg)
 . rw [valY,bT1 hg,Bool.not_not];rfl
 . rw [valY,bF1 hg];rfl
include hN
noncomputable def HrD (l:List D) (i:Nat):Vst 45:=stS 45 [(0,.sl 108 l),(7,.sl 108 l),(8,.c (.int .i64 (l.length:Int))),(9,.c (.int .i64 (i:Int)))] []
noncomputable def HrA (l:List D) (i k:Nat):Vst 45:=stS 45 [(0,.sl 108 l),(7,.sl 108 l),(8,.c (.int .i64 (l.length:Int))),(9,.c (.int .i64 (i:Int))),(24,.sl 111 ((gD l i).f 1).l),(25,.c (.int .i64 (((gD l i).f 1).l.length:Int))),(26,.c (.int .i64 (k:Int)))] []
theorem zBX (l:List D):AC EN5 Tryz.prog 68 [.sl 108 l] (.c (.bool (dirsY lit l))):=by
 refine zDL 2 fun hL2 => ?_
 have hl:l.length<=9223372036854775807:=hL2.1
 have hla : ∀ i,i<l.length->((gD l i).f 1).l.length<=9223372036854775807:=fun i hi=>zHV (hL2.2 (by decide +kernel) i hi)
 refine zN 45 Tryz.func68 rfl rfl rfl rfl ?_
 intro s w he
 repeat' (first
|refine zA ?_
|refine zB ?_
|refine zK ?_
|apply aw_1
 conv=>whnf
 refine ⟨?_,trivial⟩
|apply s_1
 conv=>whnf;arg 1;arg 4;arg 3;whnf
 refine ⟨?_,?_⟩
|exact trivial)
 refine za (fun j st => ∃ i,i+j=l.length/\(∀ m,m<i->dirY lit (gD l m)=true)/\Sub (cx EN5 Tryz.prog s w he) st (HrD l i)) l.length ⟨0,by omega,fun m hm=>absurd hm (Nat.not_lt_zero m),Sub.live ⟨rfl,rfl,rfl,rfl,trivial⟩ trivial⟩ ?_
 rintro j st ⟨i,hij,hno,hs2⟩
 refine zi hs2 ?_
 clear hs2
 by_cases hi:i<l.length
 . have g1:decide ((i:Int)<(l.length:Nat))=true:=decide_eq_true (by omega)
   have ha:=hla i hi
   have hn:=hN ((gD l i).f 0).s
   have hbad:dirY lit (gD l i)=false->dirsY lit l=false:=fun h=>by unfold dirsY;rw [zFu hi h,Bool.and_false]
   cases hnb:nameB ((gD l i).f 0).s with
   |false =>
    rw [hbad (by unfold dirY;rw [hnb];rfl)]
    rw [hnb] at hn
    have K:((!false)==false)=true->False:=by decide
    repeat' (first
|apply zG
 . conv=>lhs;whnf
 . assumption
|refine zA ?_
|refine zB ?_
|refine zK ?_
|apply aw_1
 conv=>whnf
 refine ⟨?_,trivial⟩
|apply s_1
 conv=>whnf;arg 1;arg 4;arg 3;whnf
 refine ⟨?_,?_⟩
|apply zb rfl
 . conv=>lhs;whnf
 . conv=>lhs;whnf
 . first | exact hn
|apply zV rfl rfl rfl
 . conv=>lhs;whnf
 . conv=>lhs;whnf;arg 1;whnf
 . conv=>lhs;whnf;arg 1;whnf
 . exact ⟨by kernel_rfl,by kernel_rfl⟩
 . rfl
|refine zM ?_
|refine zO ?_
|refine zh ?_
|refine zE ?_
|refine ⟨_,by conv=>lhs;whnf;arg 2;whnf,?_⟩;conv=>rhs;whnf
|exact trivial)
    all_goals first
     |exact zS (by omega)
     |exact zu hi
     |rfl
     |skip
   |true =>
    rw [hnb] at hn
    have K:((!true)==false)=false->False:=by decide
    by_cases h16:16<((gD l i).f 1).l.length
    . have f4:decide ((((gD l i).f 1).l.length:Int)>16)=true:=decide_eq_true (by omega)
      rw [hbad (by unfold dirY zEf;rw [decide_eq_false (by omega)];simp)]
      repeat' (first
|apply zG
 . conv=>lhs;whnf
 . assumption
|refine zA ?_
|refine zB ?_
|refine zK ?_
|apply aw_1
 conv=>whnf
 refine ⟨?_,trivial⟩
|apply s_1
 conv=>whnf;arg 1;arg 4;arg 3;whnf
 refine ⟨?_,?_⟩
|apply zb rfl
 . conv=>lhs;whnf
 . conv=>lhs;whnf
 . first | exact hn
|apply zV rfl rfl rfl
 . conv=>lhs;whnf
 . conv=>lhs;whnf;arg 1;whnf
 . conv=>lhs;whnf;arg 1;whnf
 . exact ⟨by kernel_rfl,by kernel_rfl⟩
 . rfl
|refine zM ?_
|refine zO ?_
|refine zh ?_
|refine zE ?_
|refine ⟨_,by conv=>lhs;whnf;arg 2;whnf,?_⟩;conv=>rhs;whnf
|exact trivial)
      all_goals first
       |exact zS (by omega)
       |exact zu hi
       |rfl
       |skip
    . have f4:decide ((((gD l i).f 1).l.length:Int)>16)=false:=decide_eq_false (by omega)
      repeat' (first
|apply zG
 . conv=>lhs;whnf
 . assumption
|apply zD
 . conv=>lhs;whnf
 . assumption
|refine zA ?_
|refine zB ?_
|refine zK ?_
|apply aw_1
 conv=>whnf
 refine ⟨?_,trivial⟩
|apply s_1
 conv=>whnf;arg 1;arg 4;arg 3;whnf
 refine ⟨?_,?_⟩
|apply zb rfl
 . conv=>lhs;whnf
 . conv=>lhs;whnf
 . first | exact hn
|apply zV rfl rfl rfl
 . conv=>lhs;whnf
 . conv=>lhs;whnf;arg 1;whnf
 . conv=>lhs;whnf;arg 1;whnf
 . exact ⟨by kernel_rfl,by kernel_rfl⟩
 . rfl
|exact trivial)
      all_goals first
       |exact zS (by omega)
       |exact zu hi
       |skip
      refine za (fun j st => ∃ k,k+j=((gD l i).f 1).l.length/\(∀ m,m<k->argY lit (gD ((gD l i).f 1).l m)=true)/\Sub (cx EN5 Tryz.prog s w he) st (HrA l i k)) ((gD l i).f 1).l.length ⟨0,by omega,fun m hm=>absurd hm (Nat.not_lt_zero m),Sub.live ⟨rfl,rfl,rfl,rfl,rfl,rfl,rfl,trivial⟩ trivial⟩ ?_
      rintro j2 st2 ⟨k,hkj,hno2,hs3⟩
      refine zi hs3 ?_
      clear hs3
      by_cases hk:k<((gD l i).f 1).l.length
      . have g2:decide ((k:Int)<(((gD l i).f 1).l.length:Nat))=true:=decide_eq_true (by omega)
        have hn2:=hN ((gD ((gD l i).f 1).l k).f 0).s
        have hv2:=zDM hL ((gD ((gD l i).f 1).l k).f 1)
        have hbad2:argY lit (gD ((gD l i).f 1).l k)=false->dirsY lit l=false:=fun h=>hbad (by unfold dirY zEf;rw [zFu hk h];simp)
        cases hnb2:nameB ((gD ((gD l i).f 1).l k).f 0).s with
        |false =>
         rw [hbad2 (by unfold argY;rw [hnb2];rfl)]
         rw [hnb2] at hn2
         have K3:((!false)==false)=true->False:=by decide
         repeat' (first
|apply zG
 . conv=>lhs;whnf
 . assumption
|refine zA ?_
|refine zB ?_
|refine zK ?_
|apply aw_1
 conv=>whnf
 refine ⟨?_,trivial⟩
|apply s_1
 conv=>whnf;arg 1;arg 4;arg 3;whnf
 refine ⟨?_,?_⟩
|apply zb rfl
 . conv=>lhs;whnf
 . conv=>lhs;whnf
 . first | exact hn2
|apply zV rfl rfl rfl
 . conv=>lhs;whnf
 . conv=>lhs;whnf;arg 1;whnf
 . conv=>lhs;whnf;arg 1;whnf
 . exact ⟨by kernel_rfl,by kernel_rfl⟩
 . rfl
|refine zM ?_
|refine zO ?_
|refine zh ?_
|refine zE ?_
|refine ⟨_,by conv=>lhs;whnf;arg 2;whnf,?_⟩;conv=>rhs;whnf
|exact trivial)
         all_goals first
          |exact zS (by omega)
          |exact zu hk
          |rfl
          |skip
        |true =>
         rw [hnb2] at hn2
         cases hvb:valY lit ((gD ((gD l i).f 1).l k).f 1) with
         |false =>
          rw [hbad2 (by unfold argY;rw [hnb2,hvb];rfl)]
          rw [hvb] at hv2
          have f5:(!false)=true:=rfl
          repeat' (first
|apply zG
 . conv=>lhs;whnf
 . assumption
|refine zA ?_
|refine zB ?_
|refine zK ?_
|apply aw_1
 conv=>whnf
 refine ⟨?_,trivial⟩
|apply zQ rfl rfl
 . conv=>lhs;whnf
 . conv=>lhs;whnf
 . first | exact bF1 ‹_› | exact bF2 ‹_›
|apply s_1
 conv=>whnf;arg 1;arg 4;arg 3;whnf
 refine ⟨?_,?_⟩
|apply zb rfl
 . conv=>lhs;whnf
 . conv=>lhs;whnf
 . first | exact hn2 | exact hv2
|apply zV rfl rfl rfl
 . conv=>lhs;whnf
 . conv=>lhs;whnf;arg 1;whnf
 . conv=>lhs;whnf;arg 1;whnf
 . exact ⟨by kernel_rfl,by kernel_rfl⟩
 . rfl
|apply zU rfl
 . conv=>lhs;whnf
 . conv=>lhs;whnf
 . first | rfl | assumption
 . conv=>lhs;whnf
 . first | exact hn2 | exact hv2
|refine zM ?_
|refine zO ?_
|refine zh ?_
|refine zE ?_
|refine ⟨_,by conv=>lhs;whnf;arg 2;whnf,?_⟩;conv=>rhs;whnf
|exact trivial)
          all_goals first
           |exact zS (by omega)
           |exact zu hk
           |rfl
           |skip
         |true =>
          rw [hvb] at hv2
          have f5:(!true)=false:=rfl
          repeat' (first
|apply zG
 . conv=>lhs;whnf
 . assumption
|apply zD
 . conv=>lhs;whnf
 . assumption
|refine zA ?_
|refine zB ?_
|refine zK ?_
|refine zP ?_
|apply aw_1
 conv=>whnf
 refine ⟨?_,trivial⟩
|apply zQ rfl rfl
 . conv=>lhs;whnf
 . conv=>lhs;whnf
 . first | exact bF1 ‹_› | exact bF2 ‹_›
|apply s_1
 conv=>whnf;arg 1;arg 4;arg 3;whnf
 refine ⟨?_,?_⟩
|apply zb rfl
 . conv=>lhs;whnf
 . conv=>lhs;whnf
 . first | exact hn2 | exact hv2
|apply zV rfl rfl rfl
 . conv=>lhs;whnf
 . conv=>lhs;whnf;arg 1;whnf
 . conv=>lhs;whnf;arg 1;whnf
 . exact ⟨by kernel_rfl,by kernel_rfl⟩
 . rfl
|apply zU rfl
 . conv=>lhs;whnf
 . conv=>lhs;whnf
 . first | rfl | assumption
 . conv=>lhs;whnf
 . first | exact hn2 | exact hv2
|exact trivial)
          all_goals first
           |exact zS (by omega)
           |exact zu hk
           |skip
          refine zH (j':=j2-1) (by omega) ⟨k+1,by omega,fun m hm => ?_,Sub.live ⟨rfl,rfl,rfl,rfl,rfl,rfl,rfl,trivial⟩ trivial⟩
          by_cases e:m=k
          . subst e;unfold argY;rw [hnb2,hvb];rfl
          . exact hno2 m (by omega)
      . have g2:decide ((k:Int)<(((gD l i).f 1).l.length:Nat))=false:=decide_eq_false (by omega)
        have hd:dirY lit (gD l i)=true:=by
         unfold dirY zEf
         rw [hnb,decide_eq_true (by omega),zDa fun m hm=>hno2 m (by omega)];rfl
        repeat' (first
|apply zD
 . conv=>lhs;whnf
 . assumption
|refine zA ?_
|refine zB ?_
|refine zK ?_
|refine zP ?_
|apply aw_1
 conv=>whnf
 refine ⟨?_,trivial⟩
|apply s_1
 conv=>whnf;arg 1;arg 4;arg 3;whnf
 refine ⟨?_,?_⟩
|refine zL ?_
|refine zJ rfl ?_
|refine zI ?_
|exact trivial)
        all_goals first
         |exact zS (by omega)
         |skip
        refine zH (j':=j-1) (by omega) ⟨i+1,by omega,fun m hm => ?_,Sub.live ⟨rfl,rfl,rfl,rfl,trivial⟩ trivial⟩
        by_cases e:m=i
        . subst e;exact hd
        . exact hno m (by omega)
 . have g1:decide ((i:Int)<(l.length:Nat))=false:=decide_eq_false (by omega)
   have hr:dirsY lit l=decide ((l.length:Int)<=16):=by
    unfold dirsY
    rw [zDa fun m hm=>hno m (by omega),Bool.and_true]
    exact decide_eq_decide.2 (by omega)
   rw [hr]
   repeat' (first
|apply zD
 . conv=>lhs;whnf
 . assumption
|refine zA ?_
|refine zB ?_
|refine zK ?_
|apply aw_1
 conv=>whnf
 refine ⟨?_,trivial⟩
|apply s_1
 conv=>whnf;arg 1;arg 4;arg 3;whnf
 refine ⟨?_,?_⟩
|refine zL ?_
|refine zJ rfl ?_
|refine zI ?_
|refine zE ?_
|refine ⟨_,by conv=>lhs;whnf;arg 2;whnf,?_⟩;conv=>rhs;whnf
|exact trivial)
   all_goals first
    |rfl
    |skip
end
end
section
open Go.RowKit
set_option linter.unusedSectionVars false
theorem nb1 {x:Bool} (h:((!x)==false)=true):x=true:=by cases x<;>simp_all
theorem nb0 {x:Bool} (h:((!x)==false)=false):x=false:=by cases x<;>simp_all
theorem nc1 {x:Bool} (h:((!x)==true)=true):x=false:=by cases x<;>simp_all
theorem nc0 {x:Bool} (h:((!x)==true)=false):x=true:=by cases x<;>simp_all
theorem nz1 {n:Int} (h:(n != 0)=true):(n==0)=false:=by simp_all
theorem nz0 {n:Int} (h:(n != 0)=false):(n==0)=true:=by simp_all
theorem cB {a b:Bool} (h:a=b):V.c (.bool a)=V.c (.bool b):=by rw [h]
attribute [local irreducible] wpList Calls Code.wp AW AWo OpOk seqK zq zt loopK endK AC zg Yld Sub
attribute [local irreducible] ACB ACX ACE absLexG YldG absLexH
section
variable {lit:D->Bool} (hN : ∀ s:ByteArray,AC EN5 Tryz.prog 67 [.c (.string s)] (.c (.bool (nameB s)))) (hL : ∀ d:D,AC EN5 Tryz.prog 182 [.agg (cellsV Tryz.prog 12 53 d)] (.c (.bool (lit d)))) (hR : ∀ d:D,AC EN5 Tryz.prog 132 [.agg (cellsV Tryz.prog 12 48 d)] (.c (.bool (refR d))))
include hN hL hR
noncomputable def HrI (l:List D) (i:Nat):Vst 48:=stS 48 [(0,.sl 55 l),(5,.sl 55 l),(6,.c (.int .i64 (l.length:Int))),(7,.c (.int .i64 (i:Int)))] []
theorem zCm (l:List D):AC EN5 Tryz.prog 71 [.sl 55 l] (.c (.bool (insY lit l))):=by
 refine zDL 1 fun hL2 => ?_
 have hl:l.length<=9223372036854775807:=hL2.1
 refine zN 48 Tryz.func71 rfl rfl rfl rfl ?_
 intro s w he
 repeat' (first
|refine zA ?_
|refine zB ?_
|refine zK ?_
|apply aw_1
 conv=>whnf
 refine ⟨?_,trivial⟩
|apply s_1
 conv=>whnf;arg 1;arg 4;arg 3;whnf
 refine ⟨?_,?_⟩
|exact trivial)
 refine za (fun j st => ∃ i,i+j=l.length/\(∀ m,m<i->inY lit (gD l m)=true)/\Sub (cx EN5 Tryz.prog s w he) st (HrI l i)) l.length ⟨0,by omega,fun m hm=>absurd hm (Nat.not_lt_zero m),Sub.live ⟨rfl,rfl,rfl,rfl,trivial⟩ trivial⟩ ?_
 rintro j st ⟨i,hij,hno,hs2⟩
 refine zi hs2 ?_
 clear hs2
 by_cases hi:i<l.length
 . have g1:decide ((i:Int)<(l.length:Nat))=true:=decide_eq_true (by omega)
   have hn:=hN ((gD l i).f 0).s
   have hr:=hR ((gD l i).f 1)
   have hd:=zBX hN hL ((gD l i).f 4).l
   have hv:=zDM hL ((gD l i).f 3)
   have hbad:inY lit (gD l i)=false->insY lit l=false:=fun h=>by unfold insY;rw [zFu hi h,Bool.and_false]
   have hY:inY lit (gD l i)=(nameB ((gD l i).f 0).s&&refR ((gD l i).f 1)&&dirsY lit ((gD l i).f 4).l&&valY lit ((gD l i).f 3)&&(((gD l i).f 2).b||(((gD l i).f 3).f 0).n==0)):=rfl
   generalize nameB ((gD l i).f 0).s=a at hn hY
   generalize refR ((gD l i).f 1)=b at hr hY
   generalize dirsY lit ((gD l i).f 4).l=c at hd hY
   generalize valY lit ((gD l i).f 3)=v at hv hY
   repeat' (first
|apply zAK rfl rfl rfl
 . conv=>lhs;whnf
 . first | rfl | assumption
 . conv=>lhs;whnf
 . first | exact bT1 ‹_› | exact bT2 ‹_› | rfl
|apply zAH rfl rfl rfl
 . conv=>lhs;whnf
 . first | rfl | assumption
 . conv=>lhs;whnf
 . first | exact bF1 ‹_› | exact bF2 ‹_› | rfl
|apply zG
 . conv=>lhs;whnf
 . assumption
|refine zA ?_
|refine zB ?_
|refine zK ?_
|refine zP ?_
|apply aw_1
 conv=>whnf
 refine ⟨?_,trivial⟩
|apply zT rfl rfl
 . conv=>lhs;whnf
 . conv=>lhs;whnf
 . first | exact bT1 ‹_› | exact bT2 ‹_›
|apply zQ rfl rfl
 . conv=>lhs;whnf
 . conv=>lhs;whnf
 . first | exact bF1 ‹_› | exact bF2 ‹_›
|apply s_1
 conv=>whnf;arg 1;arg 4;arg 3;whnf
 refine ⟨?_,?_⟩
|apply zb rfl
 . conv=>lhs;whnf
 . conv=>lhs;whnf
 . first | exact hn | exact hr | exact hd | exact hv
|apply zV rfl rfl rfl
 . conv=>lhs;whnf
 . conv=>lhs;whnf;arg 1;whnf
 . conv=>lhs;whnf;arg 1;whnf
 . exact ⟨by kernel_rfl,by kernel_rfl⟩
 . rfl
|apply zF rfl
 . conv=>lhs;whnf
 . conv=>lhs;whnf
 . first | rfl | assumption
 . conv=>lhs;whnf;arg 2;whnf
|apply zU rfl
 . conv=>lhs;whnf
 . conv=>lhs;whnf
 . first | rfl | assumption
 . conv=>lhs;whnf
 . first | exact hn | exact hr | exact hd | exact hv
|apply zX rfl
 . conv=>lhs;whnf
 . conv=>lhs;whnf
 . first | rfl | assumption
|apply zC rfl
 . conv=>lhs;whnf
 . conv=>lhs;whnf
 . conv=>lhs;whnf;arg 2;whnf
|refine zZ (by conv=>lhs;whnf) ?_ ?_<;>intro hb
|refine zM ?_
|refine zO ?_
|refine zh ?_
|refine zE ?_
|refine ⟨_,by conv=>lhs;whnf;arg 2;whnf,?_⟩;conv=>rhs;whnf
|exact trivial
|intro hg)
   all_goals first
    |exact zS (by omega)
    |exact zu hi
    |exact cB (hbad (by rw [hY,nb0 (x:=a) ‹_›];rfl))
    |exact cB (hbad (by rw [hY,nb1 (x:=a) ‹_›,nb0 (x:=b) ‹_›];rfl))
    |exact cB (hbad (by rw [hY,nb1 (x:=a) ‹_›,nb1 (x:=b) ‹_›,nb0 (x:=c) ‹_›];rfl))
    |exact cB (hbad (by rw [hY,nb1 (x:=a) ‹_›,nb1 (x:=b) ‹_›,nb1 (x:=c) ‹_›,nb0 (x:=v) ‹_›];rfl))
    |exact cB (hbad (by rw [hY,nb1 (x:=a) ‹_›,nb1 (x:=b) ‹_›,nb1 (x:=c) ‹_›,nb1 (x:=v) ‹_›,show ((gD l i).f 2).b=false from nc1 hg,show ((((gD l i).f 3).f 0).n==0)=false from nz1 hb];rfl))
    |skip
   all_goals
    have hok:inY lit (gD l i)=true:=by
     rw [hY,nb1 (x:=a) ‹_›,nb1 (x:=b) ‹_›,nb1 (x:=c) ‹_›,nb1 (x:=v) ‹_›]
     first
      |(rw [show ((gD l i).f 2).b=true from nc0 hg];rfl)
      |(rw [show ((gD l i).f 2).b=false from nc1 hg,show ((((gD l i).f 3).f 0).n==0)=true from nz0 hb];rfl)
    refine zH (j':=j-1) (by omega) ⟨i+1,by omega,fun m hm => ?_,Sub.live ⟨rfl,rfl,rfl,rfl,trivial⟩ trivial⟩
    by_cases e:m=i
    . subst e;exact hok
    . exact hno m (by omega)
 . have g1:decide ((i:Int)<(l.length:Nat))=false:=decide_eq_false (by omega)
   have hr:insY lit l=decide ((l.length:Int)<=16):=by
    unfold insY
    rw [zDa fun m hm=>hno m (by omega),Bool.and_true]
    exact decide_eq_decide.2 (by omega)
   rw [hr]
   repeat' (first
|apply zD
 . conv=>lhs;whnf
 . assumption
|refine zA ?_
|refine zB ?_
|refine zK ?_
|apply aw_1
 conv=>whnf
 refine ⟨?_,trivial⟩
|apply s_1
 conv=>whnf;arg 1;arg 4;arg 3;whnf
 refine ⟨?_,?_⟩
|refine zL ?_
|refine zJ rfl ?_
|refine zI ?_
|refine zE ?_
|refine ⟨_,by conv=>lhs;whnf;arg 2;whnf,?_⟩;conv=>rhs;whnf
|exact trivial)
   all_goals first
    |rfl
    |skip
noncomputable def HrF (l:List D) (i:Nat):Vst 37:=stS 37 [(0,.sl 50 l),(5,.sl 50 l),(6,.c (.int .i64 (l.length:Int))),(7,.c (.int .i64 (i:Int)))] []
theorem zFK (l:List D):AC EN5 Tryz.prog 69 [.sl 50 l] (.c (.bool (fdsY lit l))):=by
 refine zDL 1 fun hL2 => ?_
 have hl:l.length<=9223372036854775807:=hL2.1
 refine zN 37 Tryz.func69 rfl rfl rfl rfl ?_
 intro s w he
 repeat' (first
|refine zA ?_
|refine zB ?_
|refine zK ?_
|apply aw_1
 conv=>whnf
 refine ⟨?_,trivial⟩
|apply s_1
 conv=>whnf;arg 1;arg 4;arg 3;whnf
 refine ⟨?_,?_⟩
|exact trivial)
 refine za (fun j st => ∃ i,i+j=l.length/\(∀ m,m<i->fdY lit (gD l m)=true)/\Sub (cx EN5 Tryz.prog s w he) st (HrF l i)) l.length ⟨0,by omega,fun m hm=>absurd hm (Nat.not_lt_zero m),Sub.live ⟨rfl,rfl,rfl,rfl,trivial⟩ trivial⟩ ?_
 rintro j st ⟨i,hij,hno,hs2⟩
 refine zi hs2 ?_
 clear hs2
 by_cases hi:i<l.length
 . have g1:decide ((i:Int)<(l.length:Nat))=true:=decide_eq_true (by omega)
   have hn:=hN ((gD l i).f 0).s
   have hv:=zCm hN hL hR ((gD l i).f 1).l
   have hr:=hR ((gD l i).f 2)
   have hd:=zBX hN hL ((gD l i).f 3).l
   have hbad:fdY lit (gD l i)=false->fdsY lit l=false:=fun h=>by unfold fdsY;rw [zFu hi h,Bool.and_false]
   have hY:fdY lit (gD l i)=(nameB ((gD l i).f 0).s&&insY lit ((gD l i).f 1).l&&refR ((gD l i).f 2)&&dirsY lit ((gD l i).f 3).l):=rfl
   generalize nameB ((gD l i).f 0).s=a at hn hY
   generalize refR ((gD l i).f 2)=b at hr hY
   generalize dirsY lit ((gD l i).f 3).l=c at hd hY
   generalize insY lit ((gD l i).f 1).l=v at hv hY
   repeat' (first
|apply zG
 . conv=>lhs;whnf
 . assumption
|refine zA ?_
|refine zB ?_
|refine zK ?_
|refine zP ?_
|apply aw_1
 conv=>whnf
 refine ⟨?_,trivial⟩
|apply zT rfl rfl
 . conv=>lhs;whnf
 . conv=>lhs;whnf
 . first | exact bT1 ‹_› | exact bT2 ‹_›
|apply zQ rfl rfl
 . conv=>lhs;whnf
 . conv=>lhs;whnf
 . first | exact bF1 ‹_› | exact bF2 ‹_›
|apply s_1
 conv=>whnf;arg 1;arg 4;arg 3;whnf
 refine ⟨?_,?_⟩
|apply zb rfl
 . conv=>lhs;whnf
 . conv=>lhs;whnf
 . first | exact hn | exact hr | exact hd | exact hv
|apply zV rfl rfl rfl
 . conv=>lhs;whnf
 . conv=>lhs;whnf;arg 1;whnf
 . conv=>lhs;whnf;arg 1;whnf
 . exact ⟨by kernel_rfl,by kernel_rfl⟩
 . rfl
|apply zF rfl
 . conv=>lhs;whnf
 . conv=>lhs;whnf
 . first | rfl | assumption
 . conv=>lhs;whnf;arg 2;whnf
|apply zU rfl
 . conv=>lhs;whnf
 . conv=>lhs;whnf
 . first | rfl | assumption
 . conv=>lhs;whnf
 . first | exact hn | exact hr | exact hd | exact hv
|apply zX rfl
 . conv=>lhs;whnf
 . conv=>lhs;whnf
 . first | rfl | assumption
|apply zC rfl
 . conv=>lhs;whnf
 . conv=>lhs;whnf
 . conv=>lhs;whnf;arg 2;whnf
|refine zZ (by conv=>lhs;whnf) ?_ ?_<;>intro hb
|refine zM ?_
|refine zO ?_
|refine zh ?_
|refine zE ?_
|refine ⟨_,by conv=>lhs;whnf;arg 2;whnf,?_⟩;conv=>rhs;whnf
|exact trivial
|intro hg)
   all_goals first
    |exact zS (by omega)
    |exact zu hi
    |exact cB (hbad (by rw [hY,nb0 (x:=a) ‹_›];rfl))
    |exact cB (hbad (by rw [hY,nb1 (x:=a) ‹_›,nb0 (x:=b) ‹_›];cases v<;>rfl))
    |exact cB (hbad (by rw [hY,nb1 (x:=a) ‹_›,nb1 (x:=b) ‹_›,nb0 (x:=c) ‹_›];cases v<;>rfl))
    |exact cB (hbad (by rw [hY,nb1 (x:=a) ‹_›,nb1 (x:=b) ‹_›,nb1 (x:=c) ‹_›,show v=false by simpa using hb];rfl))
    |skip
   all_goals
    have hok:fdY lit (gD l i)=true:=by
     rw [hY,nb1 (x:=a) ‹_›,nb1 (x:=b) ‹_›,nb1 (x:=c) ‹_›,show v=true by simpa using hb];rfl
    refine zH (j':=j-1) (by omega) ⟨i+1,by omega,fun m hm => ?_,Sub.live ⟨rfl,rfl,rfl,rfl,trivial⟩ trivial⟩
    by_cases e:m=i
    . subst e;exact hok
    . exact hno m (by omega)
 . have g1:decide ((i:Int)<(l.length:Nat))=false:=decide_eq_false (by omega)
   have hr:fdsY lit l=decide ((l.length:Int)<=64):=by
    unfold fdsY
    rw [zDa fun m hm=>hno m (by omega),Bool.and_true]
    exact decide_eq_decide.2 (by omega)
   rw [hr]
   repeat' (first
|apply zD
 . conv=>lhs;whnf
 . assumption
|refine zA ?_
|refine zB ?_
|refine zK ?_
|apply aw_1
 conv=>whnf
 refine ⟨?_,trivial⟩
|apply s_1
 conv=>whnf;arg 1;arg 4;arg 3;whnf
 refine ⟨?_,?_⟩
|refine zL ?_
|refine zJ rfl ?_
|refine zI ?_
|refine zE ?_
|refine ⟨_,by conv=>lhs;whnf;arg 2;whnf,?_⟩;conv=>rhs;whnf
|exact trivial)
   all_goals first
    |rfl
    |skip
end
end
section
open Go.RowKit
set_option linter.unusedSectionVars false
attribute [local irreducible] wpList Calls Code.wp AW AWo OpOk seqK zq zt loopK endK AC zg Yld Sub
attribute [local irreducible] ACB ACX ACE absLexG YldG absLexH
section
variable {lit:D->Bool} (hN : ∀ s:ByteArray,AC EN5 Tryz.prog 67 [.c (.string s)] (.c (.bool (nameB s)))) (hL : ∀ d:D,AC EN5 Tryz.prog 182 [.agg (cellsV Tryz.prog 12 53 d)] (.c (.bool (lit d))))
include hN hL
noncomputable def HrM (l:List D) (u:Bool) (i:Nat):Vst 36:=stS 36 [(0,.sl 79 l),(1,.c (.bool u)),(7,.sl 79 l),(8,.c (.int .i64 (l.length:Int))),(9,.c (.int .i64 (i:Int)))] []
theorem zEX (l:List D) (u:Bool):AC EN5 Tryz.prog 70 [.sl 79 l,.c (.bool u)] (.c (.bool (mbsY lit u l))):=by
 refine zDL 1 fun hL2 => ?_
 have hl:l.length<=9223372036854775807:=hL2.1
 refine zN 36 Tryz.func70 rfl rfl rfl rfl ?_
 intro s w he
 repeat' (first
|refine zA ?_
|refine zB ?_
|refine zK ?_
|apply aw_1
 conv=>whnf
 refine ⟨?_,trivial⟩
|apply s_1
 conv=>whnf;arg 1;arg 4;arg 3;whnf
 refine ⟨?_,?_⟩
|exact trivial)
 refine za (fun j st => ∃ i,i+j=l.length/\(∀ m,m<i->mbY lit u (gD l m)=true)/\Sub (cx EN5 Tryz.prog s w he) st (HrM l u i)) l.length ⟨0,by omega,fun m hm=>absurd hm (Nat.not_lt_zero m),Sub.live ⟨rfl,rfl,rfl,rfl,rfl,trivial⟩ trivial⟩ ?_
 rintro j st ⟨i,hij,hno,hs2⟩
 refine zi hs2 ?_
 clear hs2
 by_cases hi:i<l.length
 . have g1:decide ((i:Int)<(l.length:Nat))=true:=decide_eq_true (by omega)
   have hn:=hN ((gD l i).f 0).s
   have hd:=zBX hN hL ((gD l i).f 1).l
   have hbad:mbY lit u (gD l i)=false->mbsY lit u l=false:=fun h=>by unfold mbsY;rw [zFu hi h,Bool.and_false]
   have hz:decide (((gD l i).f 1).l.length=0) = !(decide ((((gD l i).f 1).l.length:Int)>0)):=by
    by_cases h0:((gD l i).f 1).l.length=0
    . rw [decide_eq_true h0,decide_eq_false (by omega)];rfl
    . rw [decide_eq_false h0,decide_eq_true (by omega)];rfl
   have hY:mbY lit u (gD l i)=(nameB ((gD l i).f 0).s&&dirsY lit ((gD l i).f 1).l&&(!u || !(decide ((((gD l i).f 1).l.length:Int)>0)))):=by unfold mbY;rw [hz]
   generalize nameB ((gD l i).f 0).s=a at hn hY
   generalize dirsY lit ((gD l i).f 1).l=c at hd hY
   cases u with
   |false =>
    have K:(false==true)=true->False:=by decide
    repeat' (first
|apply zAH rfl rfl rfl
 . conv=>lhs;whnf
 . first | rfl | assumption
 . conv=>lhs;whnf
 . first | exact bF1 ‹_› | exact bF2 ‹_› | rfl
|apply zG
 . conv=>lhs;whnf
 . assumption
|refine zA ?_
|refine zB ?_
|refine zK ?_
|refine zP ?_
|apply aw_1
 conv=>whnf
 refine ⟨?_,trivial⟩
|apply zT rfl rfl
 . conv=>lhs;whnf
 . conv=>lhs;whnf
 . first | exact bT1 ‹_› | exact bT2 ‹_›
|apply zQ rfl rfl
 . conv=>lhs;whnf
 . conv=>lhs;whnf
 . first | exact bF1 ‹_› | exact bF2 ‹_›
|apply s_1
 conv=>whnf;arg 1;arg 4;arg 3;whnf
 refine ⟨?_,?_⟩
|apply zb rfl
 . conv=>lhs;whnf
 . conv=>lhs;whnf
 . first | exact hn | exact hd
|apply zV rfl rfl rfl
 . conv=>lhs;whnf
 . conv=>lhs;whnf;arg 1;whnf
 . conv=>lhs;whnf;arg 1;whnf
 . exact ⟨by kernel_rfl,by kernel_rfl⟩
 . rfl
|apply zF rfl
 . conv=>lhs;whnf
 . conv=>lhs;whnf
 . first | rfl | assumption
 . conv=>lhs;whnf;arg 2;whnf
|apply zU rfl
 . conv=>lhs;whnf
 . conv=>lhs;whnf
 . first | rfl | assumption
 . conv=>lhs;whnf
 . first | exact hn | exact hd
|apply zX rfl
 . conv=>lhs;whnf
 . conv=>lhs;whnf
 . first | rfl | assumption
|apply zC rfl
 . conv=>lhs;whnf
 . conv=>lhs;whnf
 . conv=>lhs;whnf;arg 2;whnf
|refine zM ?_
|refine zO ?_
|refine zh ?_
|refine zE ?_
|refine ⟨_,by conv=>lhs;whnf;arg 2;whnf,?_⟩;conv=>rhs;whnf
|exact trivial
|intro hg)
    all_goals first
     |exact zS (by omega)
     |exact zu hi
     |exact cB (hbad (by rw [hY,nb0 (x:=a) ‹_›];rfl))
     |exact cB (hbad (by rw [hY,nb1 (x:=a) ‹_›,nb0 (x:=c) ‹_›];rfl))
     |skip
    all_goals
     have hok:mbY lit false (gD l i)=true:=by
      rw [hY,nb1 (x:=a) ‹_›,nb1 (x:=c) ‹_›];rfl
     refine zH (j':=j-1) (by omega) ⟨i+1,by omega,fun m hm => ?_,Sub.live ⟨rfl,rfl,rfl,rfl,rfl,trivial⟩ trivial⟩
     by_cases e:m=i
     . subst e;exact hok
     . exact hno m (by omega)
   |true =>
    have K:(true==true)=false->False:=by decide
    repeat' (first
|apply zAK rfl rfl rfl
 . conv=>lhs;whnf
 . first | rfl | assumption
 . conv=>lhs;whnf
 . first | exact bT1 ‹_› | exact bT2 ‹_› | rfl
|apply zG
 . conv=>lhs;whnf
 . assumption
|refine zA ?_
|refine zB ?_
|refine zK ?_
|refine zP ?_
|apply aw_1
 conv=>whnf
 refine ⟨?_,trivial⟩
|apply zT rfl rfl
 . conv=>lhs;whnf
 . conv=>lhs;whnf
 . first | exact bT1 ‹_› | exact bT2 ‹_›
|apply zQ rfl rfl
 . conv=>lhs;whnf
 . conv=>lhs;whnf
 . first | exact bF1 ‹_› | exact bF2 ‹_›
|apply s_1
 conv=>whnf;arg 1;arg 4;arg 3;whnf
 refine ⟨?_,?_⟩
|apply zb rfl
 . conv=>lhs;whnf
 . conv=>lhs;whnf
 . first | exact hn | exact hd
|apply zV rfl rfl rfl
 . conv=>lhs;whnf
 . conv=>lhs;whnf;arg 1;whnf
 . conv=>lhs;whnf;arg 1;whnf
 . exact ⟨by kernel_rfl,by kernel_rfl⟩
 . rfl
|apply zF rfl
 . conv=>lhs;whnf
 . conv=>lhs;whnf
 . first | rfl | assumption
 . conv=>lhs;whnf;arg 2;whnf
|apply zU rfl
 . conv=>lhs;whnf
 . conv=>lhs;whnf
 . first | rfl | assumption
 . conv=>lhs;whnf
 . first | exact hn | exact hd
|apply zX rfl
 . conv=>lhs;whnf
 . conv=>lhs;whnf
 . first | rfl | assumption
|apply zC rfl
 . conv=>lhs;whnf
 . conv=>lhs;whnf
 . conv=>lhs;whnf;arg 2;whnf
|refine zZ (by conv=>lhs;whnf) ?_ ?_<;>intro hb
|refine zM ?_
|refine zO ?_
|refine zh ?_
|refine zE ?_
|refine ⟨_,by conv=>lhs;whnf;arg 2;whnf,?_⟩;conv=>rhs;whnf
|exact trivial
|intro hg)
    all_goals first
     |exact zS (by omega)
     |exact zu hi
     |exact cB (hbad (by rw [hY,nb0 (x:=a) ‹_›];rfl))
     |exact cB (hbad (by rw [hY,nb1 (x:=a) ‹_›,nb0 (x:=c) ‹_›];rfl))
     |exact cB (hbad (by rw [hY,nb1 (x:=a) ‹_›,nb1 (x:=c) ‹_›,show decide ((((gD l i).f 1).l.length:Int)>0)=true from hb];rfl))
     |skip
    all_goals
     have hok:mbY lit true (gD l i)=true:=by
      rw [hY,nb1 (x:=a) ‹_›,nb1 (x:=c) ‹_›,show decide ((((gD l i).f 1).l.length:Int)>0)=false from hb];rfl
     refine zH (j':=j-1) (by omega) ⟨i+1,by omega,fun m hm => ?_,Sub.live ⟨rfl,rfl,rfl,rfl,rfl,trivial⟩ trivial⟩
     by_cases e:m=i
     . subst e;exact hok
     . exact hno m (by omega)
 . have g1:decide ((i:Int)<(l.length:Nat))=false:=decide_eq_false (by omega)
   have hr:mbsY lit u l=decide ((l.length:Int)<=64):=by
    unfold mbsY
    rw [zDa fun m hm=>hno m (by omega),Bool.and_true]
    exact decide_eq_decide.2 (by omega)
   rw [hr]
   repeat' (first
|apply zD
 . conv=>lhs;whnf
 . assumption
|refine zA ?_
|refine zB ?_
|refine zK ?_
|apply aw_1
 conv=>whnf
 refine ⟨?_,trivial⟩
|apply s_1
 conv=>whnf;arg 1;arg 4;arg 3;whnf
 refine ⟨?_,?_⟩
|refine zL ?_
|refine zJ rfl ?_
|refine zI ?_
|refine zE ?_
|refine ⟨_,by conv=>lhs;whnf;arg 2;whnf,?_⟩;conv=>rhs;whnf
|exact trivial)
   all_goals first
    |rfl
    |skip
end
end
section
open Go.RowKit
attribute [local irreducible] wpList Calls Code.wp
section
variable {X:Cx} {nn:Nat} {st:Vst nn} {ops:Array Oper} {o:Oper}
theorem opOk_callR {K:Vst nn->Prop} {f:FuncId} {vargs args:List V} {bs:List Res} {r:V} (ns:List Nat) (h:act1 X.P st.rs (ev st) o.op = .call f vargs) (hc:ACB X.e X.P f args bs r bs) (hnd:ns.Nodup) (ha:renL (φin ns) vargs=args)
 (hb:ns.map st.rs=bs.map some) (hp : ∀ ρ∈bs,∀ φ,renR φ ρ=ρ) (hK:K (st.put o.dst (renV (φout ns) r))):OpOk X o st K:=by
 have hall:=fun ρ (h:ρ∈bs) φ=>hp ρ h φ
 have hget : ∀ (i q:Nat),ns[i]? = some q->bs[i]? = st.rs q:=fun i q hq=>by
  have h3:(ns.map st.rs)[i]? = (bs.map some)[i]?:=by rw [hb]
  rw [List.getElem?_map,List.getElem?_map,hq] at h3
  cases hbi:bs[i]? with
  |none=>rw [hbi] at h3;simp at h3
  |some ρ=>rw [hbi] at h3;simp at h3;exact h3.symm
 refine zAq ns h hc hnd ha ?_ ?_
 . rw [<- hb]
   refine List.map_congr_left fun q hq => ?_
   obtain ⟨i,hi⟩:=List.getElem?_of_mem hq
   cases hr:st.rs q with
   |none=>rfl
   |some ρ =>
    have:=(hget i q hi).trans hr
    rw [Option.map_some,hall ρ (List.mem_of_getElem? this) _]
 . have e:bs.map (renR (φout ns))=bs:=by
    conv=>rhs;rw [<- List.map_id bs]
    exact List.map_congr_left fun ρ hρ=>hall ρ hρ _
   have e2:st.resN ns bs=st:=by
    unfold Vst.resN
    have:updN st.rs ns bs=st.rs:=by
     funext m
     unfold updN
     split
     . rename_i i hi;exact hget i m (zBO hi)
     . rfl
    rw [this]
   rw [e,e2];exact hK
def gvD (ops:Array Oper) (st:Vst nn) (j:Nat):Option (Option Bool):=
 match (ops[j]?).bind (·.dst) with
 |some d=>match ev st (.tmp d) with | .c (.bool b)=>some (some b) | .tup []=>some none | _=>none
 |none=>none
def gwD (ops:Array Oper) (o:Oper) (st:Vst nn):Option Bool:=
 match o.guard with
 |none=>some true
 |some (j,want)=>(gvD ops st j).map (· == some want)
theorem gvD_of {j:Nat} {b:Bool} (h:gval ops st j=some b):gvD ops st j=some (some b):=by
 unfold gval at h
 unfold gvD
 split at h
 . rename_i d hd
   rw [hd]
   dsimp only
   split at h
   . rename_i b' hb;rw [hb];cases h;rfl
   . cases h
 . cases h
theorem gwD_ok {s:Sg} {w:World} {a:Act} {b:Bool} (h:gwD ops o st=some b) (hI:Inv X st s w a):Region.wanted o (yielded ops a.tmps)=b:=by
 unfold gwD at h
 split at h
 . rename_i hg;unfold Region.wanted;rw [hg];cases h;rfl
 . rename_i j want hg
   obtain ⟨q,hq,rfl⟩:=Option.map_eq_some_iff.1 h
   cases q with
   |some b' =>
    have hb:gval ops st j=some b':=by
     unfold gvD at hq
     unfold gval
     split at hq
     . rename_i d hd
       rw [hd]
       dsimp only
       split at hq
       . rename_i b2 hb;rw [hb];cases hq;rfl
       . cases hq
       . cases hq
     . cases hq
    unfold Region.wanted
    rw [hg]
    simp [zHf hb hI]
   |none =>
    unfold gvD at hq
    split at hq
    . rename_i t ht
      split at hq
      . cases hq
      . rename_i hu
        have hr:=hI.ev (.tmp t)
        rw [hu,rel] at hr
        have he:a.tmps.getD t undef=undef:=by
         obtain ⟨cs,h1,h2⟩:=hr
         have:cs = #[]:=by
          apply Array.ext'
          cases hc:cs.toList with
          |nil=>rfl
          |cons x xs=>rw [hc] at h2;simp [relL] at h2
         have h3:a.tmps.getD t undef = .tuple cs:=h1
         rw [h3,this];rfl
        have hy:yielded ops a.tmps j=none:=by
         unfold yielded
         rw [ht]
         simp only [Option.bind_some]
         rw [Array.getD_eq_getD_getElem?] at he
         cases hq:a.tmps[t]? with
         |none=>simp
         |some u=>rw [hq] at he;simp at he;rw [he];rfl
        unfold Region.wanted
        rw [hg]
        cases hq
        simp [hy]
      . cases hq
    . cases hq
inductive YldT (X:Cx) (rd wr:List Nat) (o:Oper) (st:Vst nn):V->List (Nat × Res)->Prop where
 |val {p:Prop} {v:V} (h:act1 X.P st.rs (ev st) o.op = .val p v) (hp:p) (hl:inO rd (loads (ev st) o.op)=true):YldT X rd wr o st v []
 |valW {p:Prop} {v v':V} (h:act1 X.P st.rs (ev st) o.op = .val p v) (hle:VLe v v') (hp:p) (hl:inO rd (loads (ev st) o.op)=true):YldT X rd wr o st v' []
 |call {f:FuncId} {args:List V} {v:V} (h:act1 X.P st.rs (ev st) o.op = .call f args) (hc:AC X.e X.P f (outL args) v):YldT X rd wr o st v []
 |lit {t e:TypeId} {b m:Nat} {parts:Array (Nat × Operand)} {ds:List D} (ho:o.op = .buildSlice t m parts) (he:zz X.P t=some (e,b)) (hn:m=ds.length) (hs:m*X.P.cellsOf e<=2^24) (hp:zCo X.P e (ev st) parts.toList 0 ds):YldT X rd wr o st (.lit e ds) []
 |pick {c x y:Operand} {b:Bool} (ho:o.op = .pick c x y) (hc:ev st c = .c (.bool b)):YldT X rd wr o st (bif b then ev st x else ev st y) []
 |callB {f:FuncId} {vargs args:List V} {bs bs':List Res} {r:V} (ns:List Nat) (h:act1 X.P st.rs (ev st) o.op = .call f vargs) (hc:ACB X.e X.P f args bs r bs') (hnd:ns.Nodup) (ha:renL (φin ns) vargs=args) (hb:ns.map (fun n=>(st.rs n).map (renR (φin ns)))=bs.map some)
   (hl:ns.all (fun n=>wr.contains n)=true) (hlen:bs'.length=ns.length):YldT X rd wr o st (renV (φout ns) r) (ns.zip (bs'.map (renR (φout ns))))
 |callR {f:FuncId} {vargs args:List V} {bs:List Res} {r:V} (ns:List Nat) (h:act1 X.P st.rs (ev st) o.op = .call f vargs) (hc:ACB X.e X.P f args bs r bs) (hnd:ns.Nodup) (ha:renL (φin ns) vargs=args) (hb:ns.map st.rs=bs.map some) (hp : ∀ ρ∈bs,∀ φ,renR φ ρ=ρ)
   (hl:ns.all (fun n=>rd.contains n)=true):YldT X rd wr o st (renV (φout ns) r) []
 |onlit {t e:TypeId} {b:Nat} {x y:Operand} {l l2:List D} (ho:o.op = .call { callee:=.builtin .append,args:=#[x,y],argTypes:=#[t,t] }) (he:zz X.P t=some (e,b)) (hleaf : ∀ d,(cellsV X.P 12 e d).all V.leaf=true)
   (hx:ev st x = .lit e l) (hy:(ev st y).out = .sl e l2) (hp:l.length+l2.length<=maxLen/\(l.length+l2.length)*b<=140737488355328):YldT X rd wr o st (.sl e (l++l2)) []
 |app {t e:TypeId} {b k:Nat} {x y:Operand} {l l2:List D} (hk:wr.contains k=true) (ho:o.op = .call { callee:=.builtin .append,args:=#[x,y],argTypes:=#[t,t] }) (he:zz X.P t=some (e,b)) (hleaf : ∀ d,(cellsV X.P 12 e d).all V.leaf=true)
   (hx:ev st x = .own k e l) (hr:st.rs k=some (.tok e l.length)) (hy:(ev st y).out = .sl e l2) (hp:0<l2.length/\l.length+l2.length<=maxLen/\(l.length+l2.length)*b<=140737488355328) :
   YldT X rd wr o st (.own k e (l++l2)) [(k,.tok e (l.length+l2.length))]
 |store {t t':TypeId} {x y:Operand} {n off:Nat} {vs xs:List V} (hk:wr.contains n=true) (ho:o.op = .store t x y) (hd:o.dst=none) (hx:ev st x = .bx n off) (hr:st.rs n=some (.box t' vs)) (hc:cellsOf (ev st y)=some xs)
   (hs:X.P.cellsOf t=xs.length/\(X.P.info? t).isSome) (hl:off+xs.length<=vs.length):YldT X rd wr o st .any [(n,.box t' (splice vs off xs))]
def YldU (X:Cx) (ops:Array Oper) (rd wr:List Nat) (o:Oper) (st:Vst nn) (v:V) (u:List (Nat × Res)):Prop:=
 (gwD ops o st=some true/\YldT X rd wr o st v u)\/(gwD ops o st=some false/\v = .tup []/\u=[])
theorem opOk_yldT {rd wr:List Nat} {K:Vst nn->Prop} {v:V} {u:List (Nat × Res)} (h:YldT X rd wr o st v u) (hK:K (stp st o.dst v u)):OpOk X o st K:=by
 cases h with
 |val h hp hl=>exact zC5 h hp hK
 |valW h hle hp hl=>exact zFN _ h hle hp hK
 |call h hc=>exact zCq h hc hK
 |lit ho he hn hs hp=>exact zEm ho he hn hs hp hK
 |callR ns h hc hnd ha hb hp hl=>exact opOk_callR ns h hc hnd ha hb hp hK
 |callB ns h hc hnd ha hb hl hlen =>
  refine zAq ns h hc hnd ha hb ?_
  unfold stp at hK
  rw [zDg hnd (by simpa using hlen)] at hK
  exact hK
 |pick ho hc=>exact zAx ho hc hK
 |onlit ho he hleaf hx hy hp=>exact zAy ho he hleaf hx hy hp.1 hp.2 hK
 |app hk ho he hleaf hx hr hy hp =>
  unfold stp at hK;rw [zCB] at hK
  exact zAb ho he hleaf hx hr hy hp.1 hp.2.1 hp.2.2 hK
 |store hk ho hd hx hr hc hs hl =>
  unfold stp at hK;rw [zCB,hd] at hK
  exact zC6 ho hd hx hr hc hs hl hK
theorem YldT.congr {rd wr:List Nat} {st st':Vst nn} {v:V} {u:List (Nat × Res)} (hev : ∀ x∈o.op.operands,ev st' x=ev st x) (hrs : ∀ n,rd.contains n=true\/wr.contains n=true->st'.rs n=st.rs n) (hact:inO rd (loads (ev st) o.op)=true->act1 X.P st'.rs (ev st') o.op=act1 X.P st.rs (ev st) o.op)
 (hact2 : ∀ f args,act1 X.P st'.rs (ev st') o.op = .call f args ↔ act1 X.P st.rs (ev st) o.op = .call f args) (h:YldT X rd wr o st v u):YldT X rd wr o st' v u:=by
 have hloads:=zBc o.op hev
 cases h with
 |val h hp hl=>exact .val (by rw [hact hl];exact h) hp (by rw [hloads];exact hl)
 |valW h hle hp hl=>exact .valW (by rw [hact hl];exact h) hle hp (by rw [hloads];exact hl)
 |call h hc=>exact .call ((hact2 _ _).2 h) hc
 |lit ho he hn hs hp=>exact .lit ho he hn hs (zBJ _ _ _ (fun p hp=>(hev p.2 (by rw [ho];simp [Op.operands];exact ⟨p.1,by simpa using hp⟩)).symm) hp)
 |callB ns h hc hnd ha hb hl hlen =>
  refine .callB ns ((hact2 _ _).2 h) hc hnd ha ?_ hl hlen
  rw [<- hb]
  exact List.map_congr_left fun q hq=>by rw [hrs q (.inr (List.all_eq_true.1 hl q hq))]
 |callR ns h hc hnd ha hb hp hl =>
  refine .callR ns ((hact2 _ _).2 h) hc hnd ha ?_ hp hl
  rw [<- hb]
  exact List.map_congr_left fun q hq=>hrs q (.inl (List.all_eq_true.1 hl q hq))
 |pick ho hc =>
  rename_i c x y b
  rw [<- hev c (by rw [ho];simp [Op.operands])] at hc
  rw [<- hev x (by rw [ho];simp [Op.operands]),<- hev y (by rw [ho];simp [Op.operands])]
  exact .pick ho hc
 |onlit ho he hleaf hx hy hp =>
  rw [<- hev _ (by rw [ho];simp [Op.operands,Call.operands])] at hx
  rw [<- hev _ (by rw [ho];simp [Op.operands,Call.operands])] at hy
  exact .onlit ho he hleaf hx hy hp
 |app hk ho he hleaf hx hr hy hp =>
  rw [<- hev _ (by rw [ho];simp [Op.operands,Call.operands])] at hx
  rw [<- hev _ (by rw [ho];simp [Op.operands,Call.operands])] at hy
  exact .app hk ho he hleaf hx (by rw [hrs _ (.inr hk)];exact hr) hy hp
 |store hk ho hd hx hr hc hs hl =>
  rw [<- hev _ (by rw [ho];simp [Op.operands])] at hx
  rw [<- hev _ (by rw [ho];simp [Op.operands])] at hc
  exact .store hk ho hd hx (by rw [hrs _ (.inr hk)];exact hr) hc hs hl
theorem YldU.of {rd wr:List Nat} {d:Option Tmp} {v v':V} {u u':List (Nat × Res)} (hd : ∀ t,d=some t->t ∉ o.looksAt ops) (hu:Off rd wr u') :
 YldU X ops rd wr o (stp st d v' u') v u ↔ YldU X ops rd wr o st v u:=by
 have hev : ∀ x∈o.op.operands,ev (stp st d v' u') x=ev st x:=fun x hx=>zFg fun t ht hxt=>hd t ht (by
  subst hxt
  exact List.mem_append_left _ (List.mem_filterMap.2 ⟨.tmp t,by simpa using hx,rfl⟩))
 have hloads:=zBc o.op hev
 have hact:inO rd (loads (ev st) o.op)=true->act1 X.P (stp st d v' u').rs (ev (stp st d v' u')) o.op=act1 X.P st.rs (ev st) o.op:=fun hl=>by
  rw [zBZ o.op hev,zCj]
  exact zLo hu _ hl
 have hact2 : ∀ f args,act1 X.P (stp st d v' u').rs (ev (stp st d v' u')) o.op = .call f args ↔ act1 X.P st.rs (ev st) o.op = .call f args:=fun f args=>by
  rw [zBZ o.op hev]
  cases ho:o.op
  case load t x =>
   have nob : ∀ rs,act1 X.P rs (ev st) (.load t x) ≠ .call f args:=fun rs h=>by
    simp only [act1,zFT,zBn] at h
    repeat' (split at h)
    all_goals cases h
   exact ⟨fun h=>(nob _ h).elim,fun h=>(nob _ h).elim⟩
  case slice t x lo hi mx=>cases mx<;>rfl
  all_goals rfl
 have hgv : ∀ j want,o.guard=some (j,want)->gvD ops (stp st d v' u') j=gvD ops st j:=fun j want hg=>by
  unfold gvD
  cases ht:(ops[j]?).bind (·.dst) with
  |none=>rfl
  |some t =>
   have:ev (stp st d v' u') (.tmp t)=ev st (.tmp t):=zFg fun q hq hqt=>by
    cases hqt
    exact hd t hq (by simp [Oper.looksAt,hg,ht])
   simp only [this]
 have hgw:gwD ops o (stp st d v' u')=gwD ops o st:=by
  unfold gwD
  cases hg:o.guard with
  |none=>rfl
  |some jw=>simp only [hgv jw.1 jw.2 hg]
 have hrs : ∀ n,rd.contains n=true\/wr.contains n=true->(stp st d v' u').rs n=st.rs n:=fun n hn=>by
  rw [zCj];exact zEj hu hn
 unfold YldU
 rw [hgw]
 refine or_congr (and_congr Iff.rfl ⟨fun h => ?_,fun h => ?_⟩) Iff.rfl
 . exact h.congr (fun x hx=>(hev x hx).symm) (fun n hn=>(hrs n hn).symm) (fun hl=>(hact (by rw [hloads] at hl;exact hl)).symm) fun f args=>(hact2 f args).symm
 . exact h.congr hev hrs hact hact2
theorem YldU.names {rd wr:List Nat} {v:V} {u:List (Nat × Res)} (h:YldU X ops rd wr o st v u) : ∀ p∈u,wr.contains p.1=true:=by
 rcases h with ⟨_,h⟩ | ⟨_,_,rfl⟩
 . cases h with
   |app hk=>exact fun p hp=>by simp at hp;subst hp;exact hk
   |store hk=>exact fun p hp=>by simp at hp;subst hp;exact hk
   |callB ns h hc hnd ha hb hl hlen=>exact fun p hp=>List.all_eq_true.1 hl _ (List.of_mem_zip hp).1
   |_=>exact fun p hp=>by simp at hp
 . exact fun p hp=>by simp at hp
variable {rd wr:Nat->List Nat}
def aOpU (X:Cx) (ops:Array Oper) (rd wr:Nat->List Nat) (i:Nat) (K:Vst nn->Prop) (st:Vst nn):Prop:=
 match ops[i]? with
 |none=>K st
 |some o => ∃ v u,YldU X ops (rd i) (wr i) o st v u/\K (stp st o.dst v u)
theorem aOpU_mono {i:Nat} {K K':Vst nn->Prop} (h : ∀ st,K st->K' st) (hh:aOpU X ops rd wr i K st):aOpU X ops rd wr i K' st:=by
 unfold aOpU at *
 split
 . rename_i hn;simp only [hn] at hh;exact h _ hh
 . rename_i o ho
   simp only [ho] at hh
   obtain ⟨v,u,h1,h2⟩:=hh
   exact ⟨v,u,h1,h _ h2⟩
def absAnyU (X:Cx) (ops:Array Oper) (rd wr:Nat->List Nat) (Q:Vst nn->Prop):Nat->Array Bool->Vst nn->Prop
 |0,listed,st=>Region.ready .any ops listed=[]/\Q st
 |fuel+1,listed,st=>(Region.ready .any ops listed=[]->Q st) /\ ∀ i∈Region.ready .any ops listed,aOpU X ops rd wr i (absAnyU X ops rd wr Q fuel (listed.setIfInBounds i true)) st
theorem aOpU_put {i j:Nat} {oi oj:Oper} {v:V} {u:List (Nat × Res)} (hj:ops[j]? = some oj) (hap:oi.apart ops oj=true) (hn:zBi (wr i) (rd j)=true/\zBi (wr i) (wr j)=true/\zBi (wr j) (rd i)=true) {K:Vst nn->Prop} (hy:YldU X ops (rd i) (wr i) oi st v u) (h:aOpU X ops rd wr j K (stp st oi.dst v u)) :
 aOpU X ops rd wr j (fun st'=>YldU X ops (rd i) (wr i) oi st' v u/\K (stp st' oi.dst v u)) st:=by
 obtain ⟨h1,h2,h3⟩:=Oper.apart_spec hap
 unfold aOpU at *
 simp only [hj] at *
 obtain ⟨v',u',hy',hK⟩:=h
 have hu:Off (rd j) (wr j) u:=fun p hp=>by
  have hw:=hy.names p hp
  refine ⟨?_,?_⟩
  . cases hq:(rd j).contains p.1
    . rfl
    . exact (zAW hn.1 hw hq).elim
  . cases hq:(wr j).contains p.1
    . rfl
    . exact (zAW hn.2.1 hw hq).elim
 have hyj:YldU X ops (rd j) (wr j) oj st v' u':=(YldU.of h1 hu).1 hy'
 have hu':Off (rd i) (wr i) u':=fun p hp=>by
  have hw:=hyj.names p hp
  refine ⟨?_,?_⟩
  . cases hq:(rd i).contains p.1
    . rfl
    . exact (zAW hn.2.2 hw hq).elim
  . cases hq:(wr i).contains p.1
    . rfl
    . exact (zAW hn.2.1 hq hw).elim
 have huu : ∀ p∈u,∀ q∈u',p.1≠q.1:=fun p hp q hq e=>by
  have h5:=hy.names p hp
  have h6:=hyj.names q hq
  rw [<- e] at h6
  exact zAW hn.2.1 h5 h6
 exact ⟨v',u',hyj,(YldU.of h3 hu').2 hy,by rw [<- zFD h2 huu];exact hK⟩
theorem zHy {Q:Vst nn->Prop} {i:Nat} {oi:Oper} {v:V} {u:List (Nat × Res)} (hi:ops[i]? = some oi) (hN:zB1 ops rd wr=true) :
 ∀ (fuel:Nat) (listed:Array Bool) (st:Vst nn),Closed ops listed->(∀ j,j<i->listed.getD j false=true) ->
   (∀ j oj,ops[j]? = some oj->j≠i->listed.getD j true=false->(∀ e∈oj.after,Region.binds .any e=true->e.on≠i)->oi.apart ops oj=true) ->
   i∈Region.ready .any ops listed->YldU X ops (rd i) (wr i) oi st v u ->
   absAnyU X ops rd wr Q fuel (listed.setIfInBounds i true) (stp st oi.dst v u)->absAnyU X ops rd wr Q (fuel+1) listed st:=by
 intro fuel
 induction fuel with
 |zero =>
  intro listed st _ _ _ hr hy H
  refine ⟨fun h=>(by rw [h] at hr;cases hr),fun j hj => ?_⟩
  by_cases hji:j=i
  . subst hji;unfold aOpU;simp only [hi];exact ⟨v,u,hy,H⟩
  . have:=ready_mono hj hji
    rw [H.1] at this
    cases this
 |succ fuel ih =>
  intro listed st hcl hlow hfree hr hy H
  refine ⟨fun h=>(by rw [h] at hr;cases hr),fun j hj => ?_⟩
  by_cases hji:j=i
  . subst hji;unfold aOpU;simp only [hi];exact ⟨v,u,hy,H⟩
  . have h1:=H.2 j (ready_mono hj hji)
    obtain ⟨hjun,oj,hoj,hall⟩:=mem_ready.1 hj
    have hiun:=(mem_ready.1 hr).1
    have hnot : ∀ e∈oj.after,Region.binds .any e=true->e.on≠i:=fun e he hb heq=>by
     have h1:=hall e he hb
     rw [heq] at h1
     exact zAQ hiun h1
    have hij:i<j:=by
     rcases Nat.lt_trichotomy i j with h | h | h
     . exact h
     . exact absurd h.symm hji
     . exact (zAQ hjun (hlow j h)).elim
    have hsz:j<ops.size:=(Array.getElem?_eq_some_iff.1 hoj).1
    have hnm:zBi (wr i) (rd j)=true/\zBi (wr i) (wr j)=true/\zBi (wr j) (rd i)=true:=by
     have h2:=List.all_eq_true.1 (List.all_eq_true.1 hN j (List.mem_range.2 hsz)) i (List.mem_range.2 hij)
     rw [Bool.or_eq_true] at h2
     rcases h2 with h2 | h2
     . simp only [Bool.and_eq_true] at h2;exact ⟨h2.1.1,h2.1.2,h2.2⟩
     . refine (zAQ hiun (zDl hcl _ _ (fun k hk => ?_) i (by simpa using h2))).elim
       unfold zF1 at hk
       rw [hoj] at hk
       obtain ⟨e,he,rfl⟩:=List.mem_map.1 hk
       obtain ⟨h2,h3⟩:=List.mem_filter.1 he
       exact hall e (by simpa using h2) h3
    have h2:=aOpU_put (i:=i) hoj (hfree j oj hoj hji hjun hnot) hnm hy h1
    have hfree' : ∀ k ok,ops[k]? = some ok->k≠i->(listed.setIfInBounds j true).getD k true=false ->
     (∀ e∈ok.after,Region.binds .any e=true->e.on≠i)->oi.apart ops ok=true:=fun k ok hk hki hun hno=>by
     refine hfree k ok hk hki ?_ hno
     by_cases hjk:j=k
     . subst hjk;exact hjun
     . rw [getD_set_ne true hjk] at hun;exact hun
    refine aOpU_mono (fun st' h3=>ih (listed.setIfInBounds j true) st' (hcl.set hj) (fun k hk=>getD_set_true (hlow k hk)) hfree' (ready_mono hr (Ne.symm hji)) h3.1 ?_) h2
    rw [Array.setIfInBounds_comm _ _ hji]
    exact h3.2
def absLexU (X:Cx) (ops:Array Oper) (rd wr:Nat->List Nat) (Q:Vst nn->Prop):Nat->List Oper->Vst nn->Prop
 |_,[],st=>Q st
 |k,o::rest,st => ∃ v u,YldU X ops (rd k) (wr k) o st v u/\absLexU X ops rd wr Q (k+1) rest (stp st o.dst v u)
theorem zFz {Q:Vst nn->Prop} (hN:zB1 ops rd wr=true) : ∀ (l:List Oper) (k:Nat) (listed:Array Bool) (st:Vst nn),(∀ j,l[j]? = ops[k+j]?)->Closed ops listed->(∀ j,j<k->listed.getD j false=true)->listed.size=ops.size ->
 Region.lexFrom .any ops l.length k listed=true->absLexU X ops rd wr Q k l st->absAnyU X ops rd wr Q l.length listed st
 |[],_,_,_,_,_,_,_,hB,h=>⟨by simpa [Region.lexFrom] using hB,h⟩
 |o::l,k,listed,st,hl,hcl,hlow,hsz,hB,h=>by
  have h0:ops[k]? = some o:=by simpa using (hl 0).symm
  have hk:k<ops.size:=(Array.getElem?_eq_some_iff.1 h0).1
  simp only [List.length_cons,Region.lexFrom,Bool.and_eq_true] at hB
  obtain ⟨⟨hr,hf⟩,hB'⟩:=hB
  have hr:k∈Region.ready .any ops listed:=by simpa using hr
  obtain ⟨v,u,hy,hK⟩:=h
  exact zHy h0 hN l.length listed st hcl hlow (Region.free_spec h0 hf) hr hy
   (zFz hN l (k+1) _ _ (fun j=>by have:=hl (j+1);simpa [Nat.add_assoc,Nat.add_comm 1 j] using this) (hcl.set hr) (fun j hj=>by
     by_cases e:j=k
     . subst e;exact zCH (by omega)
     . exact getD_set_true (hlow j (by omega))) (by simpa using hsz) hB' hK)
theorem zBT {Q:Vst nn->Prop} {Q':Exit->Act->World->Prop} (hP:PQ X nn Q') (hQ : ∀ st' s' w' a',Inv X st' s' w' a'->Q st'->Q' .normal a' w') : ∀ (fuel:Nat) (listed:Array Bool) (st:Vst nn) (s:Sg) (w:World) (a:Act),Inv X st s w a ->
 absAnyU X ops rd wr Q fuel listed st->wpAny X.P .any ops Q' fuel listed a w
 |0,_,_,_,_,_,hI,h=>⟨h.1,hQ _ _ _ _ hI h.2⟩
 |fuel+1,listed,st,s,w,a,hI,h=>⟨fun h0=>hQ _ _ _ _ hI (h.1 h0),fun i hi=>by
  have h1:=h.2 i hi
  unfold aOpU at h1
  unfold wpOp
  cases ho:ops[i]? with
  |none =>
   simp only [ho] at h1 |-
   exact zBT hP hQ fuel _ st s w a hI h1
  |some o =>
   simp only [ho] at h1 |-
   obtain ⟨v,u,hy,hK⟩:=h1
   rcases hy with ⟨hg,hy⟩ | ⟨hg,rfl,rfl⟩
   . rw [if_pos (gwD_ok hg hI)]
     exact .inl (opOk_yldT (K:=absAnyU X ops rd wr Q fuel (listed.setIfInBounds i true)) hy hK s w a hI _ _ hP fun st' s' w' a' hI' hK'=>zBT hP hQ fuel _ st' s' w' a' hI' hK')
   . rw [if_neg (by rw [gwD_ok hg hI];simp)]
     exact zBT hP hQ fuel _ _ s w (a.put o.dst undef) (hI.put o.dst (by rw [rel];exact ⟨#[],rfl,by simp [relL]⟩)) hK⟩
theorem aw_drawU (r w:List (Nat × List Nat)) {id:Nat} {l:List Oper} {K:Exit->Vst nn->Prop} (hm:X.P.follows .mixedOrders=true) (hB:Region.lexB .any l.toArray=true) (hN:zB1 l.toArray (nmf r) (nmf w)=true) (h:absLexU X l.toArray (nmf r) (nmf w) (K .normal) 0 l st):AW X (.region id l.toArray true) st K:=fun s wd a hI=>by
 simp only [Region.lexB,Bool.and_eq_true] at hB
 refine wp_region_any hm (zBT (rd:=nmf r) (wr:=nmf w) (Q:=K .normal) (fun pv st' s' w' a' hI' hp=>⟨st',s',hI',.inr ⟨pv,rfl,hp⟩⟩) (fun st' s' w' a' hI' hK=>⟨st',s',hI',.inl hK⟩) _ _ st s _ a hI.drew ?_)
 have:=zFz (X:=X) (rd:=nmf r) (wr:=nmf w) (Q:=K .normal) hN l 0 (Array.replicate l.toArray.size false) st (by simp) (fun k o _ hk=>by
  have e:(Array.replicate l.toArray.size false).getD k false=false:=by
   rw [Array.getD_eq_getD_getElem?,Array.getElem?_replicate]
   split<;>rfl
  rw [e] at hk;cases hk) (fun j hj=>absurd hj (Nat.not_lt_zero j)) (by simp) (by simpa using hB.2) h
 simpa using this
section
variable {l:List Oper} {Q:Vst nn->Prop} {d:Option Tmp} {k:Nat}
theorem u_nil (h:Q st):absLexU X ops rd wr Q k [] st:=h
theorem u_val {p:Prop} {v:V} (hg:o.guard=none) (hd:o.dst=d) (h:act1 X.P st.rs (ev st) o.op = .val p v) (hK:absLexU X ops rd wr Q (k+1) l (st.put d v)) (hp:p) (hl:inO (rd k) (loads (ev st) o.op)=true):absLexU X ops rd wr Q k (o::l) st:=
 ⟨v,[],.inl ⟨by simp [gwD,hg],.val h hp hl⟩,by rw [hd];exact hK⟩
theorem u_skip {j:Nat} {want b:Bool} (hg:o.guard=some (j,want)) (hd:o.dst=d) (hb:gval ops st j=some b) (hne:(b==want)=false) (hK:absLexU X ops rd wr Q (k+1) l (st.put d (.tup []))):absLexU X ops rd wr Q k (o::l) st:=
 ⟨.tup [],[],.inr ⟨by simp [gwD,hg,gvD_of hb,hne],rfl,rfl⟩,by rw [hd];exact hK⟩
theorem u_pick_t {c x y:Operand} {b:Bool} (hg:o.guard=none) (ho:o.op = .pick c x y) (hd:o.dst=d) (hc:ev st c = .c (.bool b)) (hb:b=true) (hK:absLexU X ops rd wr Q (k+1) l (st.put d (ev st x))):absLexU X ops rd wr Q k (o::l) st:=
 ⟨_,[],.inl ⟨by simp [gwD,hg],.pick ho hc⟩,by rw [hd,hb];exact hK⟩
theorem u_pick_f {c x y:Operand} {b:Bool} (hg:o.guard=none) (ho:o.op = .pick c x y) (hd:o.dst=d) (hc:ev st c = .c (.bool b)) (hb:b=false) (hK:absLexU X ops rd wr Q (k+1) l (st.put d (ev st y))):absLexU X ops rd wr Q k (o::l) st:=
 ⟨_,[],.inl ⟨by simp [gwD,hg],.pick ho hc⟩,by rw [hd,hb];exact hK⟩
theorem zEK {j:Nat} {want b:Bool} {p:Prop} {v:V} (hg:o.guard=some (j,want)) (hd:o.dst=d) (hb:gval ops st j=some b) (hne:(b==want)=true) (h:act1 X.P st.rs (ev st) o.op = .val p v) (hK:absLexU X ops rd wr Q (k+1) l (st.put d v)) (hp:p) (hl:inO (rd k) (loads (ev st) o.op)=true):absLexU X ops rd wr Q k (o::l) st:=
 ⟨v,[],.inl ⟨by simp [gwD,hg,gvD_of hb,hne],.val h hp hl⟩,by rw [hd];exact hK⟩
theorem zJU {j:Nat} {want b:Bool} {p:Prop} {v:V} (hg:o.guard=some (j,want)) (hd:o.dst=d) (hb:gval ops st j=some b) (h:act1 X.P st.rs (ev st) o.op = .val p v) (hK:(b==want)=true->absLexU X ops rd wr Q (k+1) l (st.put d v)) (hp:(b==want)=true->p)
 (hl:inO (rd k) (loads (ev st) o.op)=true) (hN:(b==want)=false->absLexU X ops rd wr Q (k+1) l (st.put d (.tup []))):absLexU X ops rd wr Q k (o::l) st:=by
 cases e:b==want
 . exact u_skip hg hd hb e (hN e)
 . exact zEK hg hd hb e h (hK e) (hp e) hl
theorem aw_drawUn (n:Nat) (r w:List (Nat × List Nat)) {id:Nat} {l:List Oper} {K:Exit->Vst nn->Prop} (hn:l.length=n) (hm:X.P.follows .mixedOrders=true) (hB:Region.lexB .any l.toArray=true) (hN:zB1 l.toArray (nmf r) (nmf w)=true) (h:absLexU X l.toArray (nmf r) (nmf w) (K .normal) 0 l st):AW X (.region id l.toArray true) st K:=
 aw_drawU r w hm hB hN h
end
end
end
section
open Go.RowKit
set_option linter.unusedSectionVars false
theorem zKx (k:Int):decide (1<=k/\k<=5)=((k==1||k==2)||(k==3||k==4)||k==5):=by
 by_cases h1:k=1
 . subst h1;rfl
 by_cases h2:k=2
 . subst h2;rfl
 by_cases h3:k=3
 . subst h3;rfl
 by_cases h4:k=4
 . subst h4;rfl
 by_cases h5:k=5
 . subst h5;rfl
 rw [decide_eq_false (by omega),beq_eq_false_iff_ne.2 h1,beq_eq_false_iff_ne.2 h2,beq_eq_false_iff_ne.2 h3,beq_eq_false_iff_ne.2 h4,beq_eq_false_iff_ne.2 h5];rfl
theorem zJf (n:Nat):decide (0<n)=decide ((n:Int)>0):=decide_eq_decide.2 (by omega)
theorem defY_eq (lit:D->Bool) (d:D):defY lit d =
 ((((d.f 0).n==1||(d.f 0).n==2)||((d.f 0).n==3||(d.f 0).n==4)||(d.f 0).n==5)&&(decide ((d.f 2).l.length=0)||(d.f 0).n==1)&&(((d.f 0).n==1||(d.f 0).n==2)==decide (((d.f 4).l.length:Int)>0))&&(((d.f 0).n==3||(d.f 0).n==4)==decide (((d.f 5).l.length:Int)>0))&&(((d.f 0).n==5)==decide (((d.f 6).l.length:Int)>0))&&nameB (d.f 1).s&&dirsY lit (d.f 3).l&&(decide (((d.f 2).l.length:Int)<=64)&&(d.f 2).l.all fun x=>nameB x.s)&&fdsY lit (d.f 4).l&&mbsY lit ((d.f 0).n==3) (d.f 5).l&&insY lit (d.f 6).l):=by
 unfold defY zJt imY
 rw [zKx,zJf,zJf,zJf,show decide ((d.f 2).l.length<=64)=decide (((d.f 2).l.length:Int)<=64) from decide_eq_decide.2 (by omega)]
attribute [local irreducible] wpList Calls Code.wp AW AWo OpOk seqK zq zt loopK endK AC zg Yld Sub
attribute [local irreducible] ACB ACX ACE absLexG YldG absLexH absLexU YldU
noncomputable def HdR (d:D) (F M I:Bool):Vst 109:=stS 109 [(1,.bx 1 0),(3,.c (.bool F)),(4,.c (.bool M)),(5,.c (.bool I))] [(1,.box 45 (cellsV Tryz.prog 12 45 d))]
noncomputable def HdS (d:D) (i:Nat):Vst 109:=stS 109 [(1,.bx 1 0),(72,.sl 9 (d.f 2).l),(73,.c (.int .i64 ((d.f 2).l.length:Int))),(74,.c (.int .i64 (i:Int)))] [(1,.box 45 (cellsV Tryz.prog 12 45 d))]
section
variable {lit:D->Bool} (hN : ∀ s:ByteArray,AC EN5 Tryz.prog 67 [.c (.string s)] (.c (.bool (nameB s)))) (hL : ∀ d:D,AC EN5 Tryz.prog 182 [.agg (cellsV Tryz.prog 12 53 d)] (.c (.bool (lit d)))) (hR : ∀ d:D,AC EN5 Tryz.prog 132 [.agg (cellsV Tryz.prog 12 48 d)] (.c (.bool (refR d))))
include hN hL hR
theorem zIQ (d:D) (hl:(d.f 2).l.length<=9223372036854775807):AC EN5 Tryz.prog 34 [.agg (cellsV Tryz.prog 12 45 d)] (.c (.bool (defY lit d))):=by
 have hn:=hN (d.f 1).s
 have hd:=zBX hN hL (d.f 3).l
 have hfs:=zFK hN hL hR (d.f 4).l
 have hms:=zEX hN hL (d.f 5).l ((d.f 0).n==3)
 have his:=zCm hN hL hR (d.f 6).l
 have hY:=defY_eq lit d
 obtain ⟨r,hr⟩ : ∃ r,r=defY lit d:=⟨_,rfl⟩
 rw [<- hr]
 rw [<- hr] at hY
 clear hr
 generalize nameB (d.f 1).s=a at hn hY
 generalize dirsY lit (d.f 3).l=c at hd hY
 generalize fdsY lit (d.f 4).l=fs at hfs hY
 generalize mbsY lit ((d.f 0).n==3) (d.f 5).l=ms at hms hY
 generalize insY lit (d.f 6).l=is at his hY
 obtain ⟨F,hF⟩ : ∃ F,F=((d.f 0).n==1||(d.f 0).n==2):=⟨_,rfl⟩
 obtain ⟨M,hM⟩ : ∃ M,M=((d.f 0).n==3||(d.f 0).n==4):=⟨_,rfl⟩
 obtain ⟨I,hI⟩ : ∃ I,I=((d.f 0).n==5):=⟨_,rfl⟩
 refine zN 109 Tryz.func34 rfl rfl rfl rfl ?_
 intro s w he
 repeat' (first
|apply aw_drawUn 22 ([(1,[1]),(5,[1]),(9,[1]),(13,[1]),(17,[1])]) ([]) rfl (by kernel_rfl) (by kernel_rfl) (by kernel_rfl)
|apply u_nil
|apply u_pick_t rfl rfl
 . conv=>lhs;whnf
 . conv=>lhs;whnf
 . first | exact bT1 ‹_› | exact bT2 ‹_›
|apply u_pick_f rfl rfl
 . conv=>lhs;whnf
 . conv=>lhs;whnf
 . first | exact bF1 ‹_› | exact bF2 ‹_›
|apply u_val rfl
 . conv=>lhs;whnf
 . conv=>lhs;whnf;arg 2;whnf
|apply zEK rfl
 . conv=>lhs;whnf
 . conv=>lhs;whnf
 . first | rfl | assumption
 . conv=>lhs;whnf;arg 2;whnf
|apply u_skip rfl
 . conv=>lhs;whnf
 . conv=>lhs;whnf
 . first | rfl | assumption
|apply zJU rfl
 . conv=>lhs;whnf
 . conv=>lhs;whnf
 . conv=>lhs;whnf;arg 2;whnf
|show inO _ _=true;rfl
|apply zv 2 (HdR d F M I) rfl
|refine zB3 ?_
|refine zA ?_
|refine zB ?_
|refine zK ?_
|apply aw_1
 conv=>whnf
 refine ⟨?_,trivial⟩
|apply zT rfl rfl
 . conv=>lhs;whnf
 . conv=>lhs;whnf
 . first | exact bT1 ‹_› | exact bT2 ‹_›
|apply zQ rfl rfl
 . conv=>lhs;whnf
 . conv=>lhs;whnf
 . first | exact bF1 ‹_› | exact bF2 ‹_›
|apply s_1
 conv=>whnf;arg 1;arg 4;arg 3;whnf
 refine ⟨?_,?_⟩
|apply zAA rfl rfl rfl rfl
 . conv=>lhs;whnf;arg 1;whnf
 . rfl
|apply zF rfl
 . conv=>lhs;whnf
 . conv=>lhs;whnf
 . first | rfl | assumption
 . conv=>lhs;whnf;arg 2;whnf
|apply zU rfl
 . conv=>lhs;whnf
 . conv=>lhs;whnf
 . first | rfl | assumption
 . conv=>lhs;whnf
 . first | exact hn | exact hd | exact hfs | exact hms | exact his
|apply zX rfl
 . conv=>lhs;whnf
 . conv=>lhs;whnf
 . first | rfl | assumption
|apply zC rfl
 . conv=>lhs;whnf
 . conv=>lhs;whnf
 . conv=>lhs;whnf;arg 2;whnf
|refine zZ (by conv=>lhs;whnf) ?_ ?_<;>intro hb
|refine zM ?_
|refine zE ?_
|refine ⟨_,by conv=>lhs;whnf;arg 2;whnf,?_⟩;conv=>rhs;whnf
|exact trivial
|intro hg)
 all_goals first
  |exact zS (by omega)
  |exact (show Tryz.prog.underlying 4=some TypeDesc.bool by kernel_rfl)
  |(refine Sub.live ⟨rfl,cB ?_,cB ?_,cB ?_,trivial⟩ ⟨rfl,trivial⟩<;>clear hn hd hfs hms his hN hL hR he hY<;>simp_all;done)
  |(refine cB ?_;clear hn hd hfs hms his hN hL hR he;rw [hY,<- hF,<- hM,<- hI];clear hF hM hI hY;simp_all;done)
  |skip
 all_goals
  clear hn hd
  refine za (fun j st => ∃ i,i+j=(d.f 2).l.length/\(∀ m,m<i->((d.f 0).n==1)=true/\nameB (gD (d.f 2).l m).s=true)/\Sub (cx EN5 Tryz.prog s w he) st (HdS d i)) (d.f 2).l.length ⟨0,by omega,fun m hm=>absurd hm (Nat.not_lt_zero m),Sub.live ⟨rfl,rfl,rfl,rfl,trivial⟩ ⟨rfl,trivial⟩⟩ ?_
  rintro j st ⟨i,hij,hno,hs2⟩
  refine zi hs2 ?_
  clear hs2
  by_cases hi:i<(d.f 2).l.length
  . have g1:decide ((i:Int)<((d.f 2).l.length:Nat))=true:=decide_eq_true (by omega)
    have he0:decide ((d.f 2).l.length=0)=false:=decide_eq_false (by omega)
    cases hk1:((d.f 0).n==1) with
    |false =>
     have hrf:r=false:=by
      rw [hY,he0,hk1]
      simp
     have K:((d.f 0).n != 1)=false->False:=fun h=>by
      have h:(!((d.f 0).n==1))=false:=h
      rw [hk1] at h;cases h
     have K2:(((d.f 0).n != 1)==false)=true->False:=fun h=>by
      have h:((!((d.f 0).n==1))==false)=true:=h
      rw [hk1] at h;cases h
     rw [hrf]
     repeat' (first
|apply zG
 . conv=>lhs;whnf
 . assumption
|exact (K2 ‹_›).elim
|refine zA ?_
|refine zB ?_
|refine zK ?_
|apply aw_1
 conv=>whnf
 refine ⟨?_,trivial⟩
|apply zT rfl rfl
 . conv=>lhs;whnf
 . conv=>lhs;whnf
 . first | exact bT1 ‹_› | exact bT2 ‹_›
|apply s_1
 conv=>whnf;arg 1;arg 4;arg 3;whnf
 refine ⟨?_,?_⟩
|apply zX rfl
 . conv=>lhs;whnf
 . conv=>lhs;whnf
 . first | rfl | assumption
|apply zC rfl
 . conv=>lhs;whnf
 . conv=>lhs;whnf
 . conv=>lhs;whnf;arg 2;whnf
|refine zM ?_
|refine zO ?_
|refine zh ?_
|refine zE ?_
|refine ⟨_,by conv=>lhs;whnf;arg 2;whnf,?_⟩;conv=>rhs;whnf
|exact trivial
|intro hg)
     all_goals first
      |exact zS (by omega)
      |exact zu hi
      |rfl
      |skip
    |true =>
     have K:((d.f 0).n != 1)=true->False:=fun h=>by
      have h:(!((d.f 0).n==1))=true:=h
      rw [hk1] at h;cases h
     have K2:(((d.f 0).n != 1)==false)=false->False:=fun h=>by
      have h:((!((d.f 0).n==1))==false)=false:=h
      rw [hk1] at h;cases h
     have hn2:=hN (gD (d.f 2).l i).s
     cases hnb:nameB (gD (d.f 2).l i).s with
     |false =>
      have hrf:r=false:=by
       rw [hY,zFu (p:=fun x=>nameB x.s) hi hnb]
       simp
      rw [hrf]
      rw [hnb] at hn2
      have f5:(!false)=true:=rfl
      repeat' (first
|apply zG
 . conv=>lhs;whnf
 . assumption
|exact (K2 ‹_›).elim
|refine zA ?_
|refine zB ?_
|refine zK ?_
|apply aw_1
 conv=>whnf
 refine ⟨?_,trivial⟩
|apply zQ rfl rfl
 . conv=>lhs;whnf
 . conv=>lhs;whnf
 . first | exact bF1 ‹_› | exact bF2 ‹_›
|apply s_1
 conv=>whnf;arg 1;arg 4;arg 3;whnf
 refine ⟨?_,?_⟩
|apply zF rfl
 . conv=>lhs;whnf
 . conv=>lhs;whnf
 . first | rfl | assumption
 . conv=>lhs;whnf;arg 2;whnf
|apply zU rfl
 . conv=>lhs;whnf
 . conv=>lhs;whnf
 . first | rfl | assumption
 . conv=>lhs;whnf
 . first | exact hn2
|apply zC rfl
 . conv=>lhs;whnf
 . conv=>lhs;whnf
 . conv=>lhs;whnf;arg 2;whnf
|refine zM ?_
|refine zO ?_
|refine zh ?_
|refine zE ?_
|refine ⟨_,by conv=>lhs;whnf;arg 2;whnf,?_⟩;conv=>rhs;whnf
|exact trivial
|intro hg)
      all_goals first
       |exact zS (by omega)
       |exact zu hi
       |rfl
       |skip
     |true =>
      rw [hnb] at hn2
      have f5:(!true)=false:=rfl
      repeat' (first
|apply zG
 . conv=>lhs;whnf
 . assumption
|apply zD
 . conv=>lhs;whnf
 . assumption
|exact (K2 ‹_›).elim
|refine zA ?_
|refine zB ?_
|refine zK ?_
|refine zP ?_
|apply aw_1
 conv=>whnf
 refine ⟨?_,trivial⟩
|apply zQ rfl rfl
 . conv=>lhs;whnf
 . conv=>lhs;whnf
 . first | exact bF1 ‹_› | exact bF2 ‹_›
|apply s_1
 conv=>whnf;arg 1;arg 4;arg 3;whnf
 refine ⟨?_,?_⟩
|apply zF rfl
 . conv=>lhs;whnf
 . conv=>lhs;whnf
 . first | rfl | assumption
 . conv=>lhs;whnf;arg 2;whnf
|apply zU rfl
 . conv=>lhs;whnf
 . conv=>lhs;whnf
 . first | rfl | assumption
 . conv=>lhs;whnf
 . first | exact hn2
|apply zC rfl
 . conv=>lhs;whnf
 . conv=>lhs;whnf
 . conv=>lhs;whnf;arg 2;whnf
|exact trivial
|intro hg)
      all_goals first
       |exact zS (by omega)
       |exact zu hi
       |skip
      refine zH (j':=j-1) (by omega) ⟨i+1,by omega,fun m hm => ?_,Sub.live ⟨rfl,rfl,rfl,rfl,trivial⟩ ⟨rfl,trivial⟩⟩
      by_cases e:m=i
      . subst e;exact ⟨rfl,hnb⟩
      . exact ⟨rfl,(hno m (by omega)).2⟩
  . have g1:decide ((i:Int)<((d.f 2).l.length:Nat))=false:=decide_eq_false (by omega)
    have hall:((d.f 2).l.all fun x=>nameB x.s)=true:=zDa fun m hm=>(hno m (by omega)).2
    have hei:(decide ((d.f 2).l.length=0)||(d.f 0).n==1)=true:=by
     by_cases h0:(d.f 2).l.length=0
     . rw [decide_eq_true h0];rfl
     . rw [(hno 0 (by omega)).1];simp
    rw [hall,hei] at hY
    repeat' (first
|apply zD
 . conv=>lhs;whnf
 . assumption
|refine zA ?_
|refine zB ?_
|refine zK ?_
|apply aw_1
 conv=>whnf
 refine ⟨?_,trivial⟩
|apply zT rfl rfl
 . conv=>lhs;whnf
 . conv=>lhs;whnf
 . first | exact bT1 ‹_› | exact bT2 ‹_›
|apply zQ rfl rfl
 . conv=>lhs;whnf
 . conv=>lhs;whnf
 . first | exact bF1 ‹_› | exact bF2 ‹_›
|apply s_1
 conv=>whnf;arg 1;arg 4;arg 3;whnf
 refine ⟨?_,?_⟩
|apply zF rfl
 . conv=>lhs;whnf
 . conv=>lhs;whnf
 . first | rfl | assumption
 . conv=>lhs;whnf;arg 2;whnf
|apply zU rfl
 . conv=>lhs;whnf
 . conv=>lhs;whnf
 . first | rfl | assumption
 . conv=>lhs;whnf
 . first | exact hfs | exact hms | exact his
|apply zX rfl
 . conv=>lhs;whnf
 . conv=>lhs;whnf
 . first | rfl | assumption
|apply zC rfl
 . conv=>lhs;whnf
 . conv=>lhs;whnf
 . conv=>lhs;whnf;arg 2;whnf
|refine zL ?_
|refine zJ rfl ?_
|refine zI ?_
|refine zE ?_
|refine ⟨_,by conv=>lhs;whnf;arg 2;whnf,?_⟩;conv=>rhs;whnf
|exact trivial
|intro hg)
    all_goals first
     |(refine cB ?_;rw [hY,show decide (((d.f 2).l.length:Int)<=64)=false from bF1 hg];simp;done)
     |(refine cB ?_;clear hfs hms his hN hL hR he hno hall hei hij g1 hl;rw [hY,<- hF,<- hM,<- hI];clear hF hM hI hY;simp_all;done)
     |skip
end
end
section
open Go.RowKit
set_option linter.unusedSectionVars false
theorem len_im {n:Nat} {d:D} (h:LenT Tryz.prog (n+2) 45 d):(d.f 2).l.length<=maxLen:=
 (LenT.lst (t:=39) (e:=9) (by kernel_rfl) (LenT.fld 2 (fs:=Tryz.prog.fieldsOf 45) (f:=(Tryz.prog.fieldsOf 45)[2]!) (by kernel_rfl) (by kernel_rfl) h)).1
theorem zHW {n:Nat} {d:D} (h:LenT Tryz.prog (n+2) 25 d) : ∀ i,i<(d.f 0).l.length->LenT Tryz.prog n 45 (gD (d.f 0).l i):=
 (LenT.lst (t:=23) (e:=45) (by kernel_rfl) (LenT.fld 0 (fs:=Tryz.prog.fieldsOf 25) (f:=(Tryz.prog.fieldsOf 25)[0]!) (by kernel_rfl) (by kernel_rfl) h)).2 (by decide +kernel)
theorem docY_eq (lit:D->Bool) (l:List D) (h:l.all (defY lit)=true):docY lit l=(decide ((l.length:Int)>=1)&&decide ((l.length:Int)<=64)):=by
 unfold docY
 rw [h,Bool.and_true,Bool.decide_and]
 congr 1
 . exact decide_eq_decide.2 (by omega)
 . exact decide_eq_decide.2 (by omega)
attribute [local irreducible] wpList Calls Code.wp AW AWo OpOk seqK zq zt loopK endK AC zg Yld Sub
attribute [local irreducible] ACB ACX ACE absLexG YldG absLexH absLexU YldU
noncomputable def HrQ (d:D) (i:Nat):Vst 26:=stS 26 [(1,.bx 1 0),(6,.sl 45 (d.f 0).l),(7,.c (.int .i64 ((d.f 0).l.length:Int))),(8,.c (.int .i64 (i:Int)))] [(1,.box 25 (cellsV Tryz.prog 12 25 d))]
section
variable {lit:D->Bool} (hN : ∀ s:ByteArray,AC EN5 Tryz.prog 67 [.c (.string s)] (.c (.bool (nameB s)))) (hL : ∀ d:D,AC EN5 Tryz.prog 182 [.agg (cellsV Tryz.prog 12 53 d)] (.c (.bool (lit d)))) (hR : ∀ d:D,AC EN5 Tryz.prog 132 [.agg (cellsV Tryz.prog 12 48 d)] (.c (.bool (refR d))))
include hN hL hR
theorem zII (d:D):AC EN5 Tryz.prog 14 [.agg (cellsV Tryz.prog 12 25 d)] (.c (.bool (docY lit (d.f 0).l))):=by
 refine zA9 4 (by kernel_rfl) fun hL2 => ?_
 have hl:(d.f 0).l.length<=9223372036854775807:=zHU hL2
 have hd:=fun i (hi:i<(d.f 0).l.length)=>zIQ hN hL hR (gD (d.f 0).l i) (len_im (zHW hL2 i hi))
 refine zN 26 Tryz.func14 rfl rfl rfl rfl ?_
 intro s w he
 repeat' (first
|refine zA ?_
|refine zB ?_
|refine zK ?_
|apply aw_1
 conv=>whnf
 refine ⟨?_,trivial⟩
|apply s_1
 conv=>whnf;arg 1;arg 4;arg 3;whnf
 refine ⟨?_,?_⟩
|apply zAA rfl rfl rfl rfl
 . conv=>lhs;whnf;arg 1;whnf
 . rfl
|exact trivial)
 refine za (fun j st => ∃ i,i+j=(d.f 0).l.length/\(∀ m,m<i->defY lit (gD (d.f 0).l m)=true)/\Sub (cx EN5 Tryz.prog s w he) st (HrQ d i)) (d.f 0).l.length ⟨0,by omega,fun m hm=>absurd hm (Nat.not_lt_zero m),Sub.live ⟨rfl,rfl,rfl,rfl,trivial⟩ ⟨rfl,trivial⟩⟩ ?_
 rintro j st ⟨i,hij,hno,hs2⟩
 refine zi hs2 ?_
 clear hs2
 by_cases hi:i<(d.f 0).l.length
 . have g1:decide ((i:Int)<((d.f 0).l.length:Nat))=true:=decide_eq_true (by omega)
   have h1:=hd i hi
   cases hY:defY lit (gD (d.f 0).l i) with
   |false =>
    rw [hY] at h1
    rw [show docY lit (d.f 0).l=false by unfold docY;rw [zFu hi hY,Bool.and_false]]
    have f5:(!false)=true:=rfl
    repeat' (first
|apply zG
 . conv=>lhs;whnf
 . assumption
|refine zA ?_
|refine zB ?_
|refine zK ?_
|apply aw_1
 conv=>whnf
 refine ⟨?_,trivial⟩
|apply s_1
 conv=>whnf;arg 1;arg 4;arg 3;whnf
 refine ⟨?_,?_⟩
|apply zb rfl
 . conv=>lhs;whnf
 . conv=>lhs;whnf
 . first | exact h1
|apply zV rfl rfl rfl
 . conv=>lhs;whnf
 . conv=>lhs;whnf;arg 1;whnf
 . conv=>lhs;whnf;arg 1;whnf
 . exact ⟨by kernel_rfl,by kernel_rfl⟩
 . rfl
|refine zM ?_
|refine zO ?_
|refine zh ?_
|refine zE ?_
|refine ⟨_,by conv=>lhs;whnf;arg 2;whnf,?_⟩;conv=>rhs;whnf
|exact trivial)
    all_goals first
     |exact zS (by omega)
     |exact zu hi
     |rfl
     |skip
   |true =>
    rw [hY] at h1
    have f5:(!true)=false:=rfl
    repeat' (first
|apply zG
 . conv=>lhs;whnf
 . assumption
|apply zD
 . conv=>lhs;whnf
 . assumption
|refine zA ?_
|refine zB ?_
|refine zK ?_
|refine zP ?_
|apply aw_1
 conv=>whnf
 refine ⟨?_,trivial⟩
|apply s_1
 conv=>whnf;arg 1;arg 4;arg 3;whnf
 refine ⟨?_,?_⟩
|apply zb rfl
 . conv=>lhs;whnf
 . conv=>lhs;whnf
 . first | exact h1
|apply zV rfl rfl rfl
 . conv=>lhs;whnf
 . conv=>lhs;whnf;arg 1;whnf
 . conv=>lhs;whnf;arg 1;whnf
 . exact ⟨by kernel_rfl,by kernel_rfl⟩
 . rfl
|exact trivial)
    all_goals first
     |exact zS (by omega)
     |exact zu hi
     |skip
    refine zH (j':=j-1) (by omega) ⟨i+1,by omega,fun m hm => ?_,Sub.live ⟨rfl,rfl,rfl,rfl,trivial⟩ ⟨rfl,trivial⟩⟩
    by_cases e:m=i
    . subst e;exact hY
    . exact hno m (by omega)
 . have g1:decide ((i:Int)<((d.f 0).l.length:Nat))=false:=decide_eq_false (by omega)
   rw [docY_eq lit _ (zDa fun m hm=>hno m (by omega))]
   repeat' (first
|apply zD
 . conv=>lhs;whnf
 . assumption
|refine zA ?_
|refine zB ?_
|refine zK ?_
|apply aw_1
 conv=>whnf
 refine ⟨?_,trivial⟩
|apply zT rfl rfl
 . conv=>lhs;whnf
 . conv=>lhs;whnf
 . first | exact bT1 ‹_› | exact bT2 ‹_›
|apply zQ rfl rfl
 . conv=>lhs;whnf
 . conv=>lhs;whnf
 . first | exact bF1 ‹_› | exact bF2 ‹_›
|apply s_1
 conv=>whnf;arg 1;arg 4;arg 3;whnf
 refine ⟨?_,?_⟩
|apply zF rfl
 . conv=>lhs;whnf
 . conv=>lhs;whnf
 . first | rfl | assumption
 . conv=>lhs;whnf;arg 2;whnf
|apply zX rfl
 . conv=>lhs;whnf
 . conv=>lhs;whnf
 . first | rfl | assumption
|apply zC rfl
 . conv=>lhs;whnf
 . conv=>lhs;whnf
 . conv=>lhs;whnf;arg 2;whnf
|refine zL ?_
|refine zJ rfl ?_
|refine zI ?_
|refine zE ?_
|refine ⟨_,by conv=>lhs;whnf;arg 2;whnf,?_⟩;conv=>rhs;whnf
|exact trivial
|intro hg)
   all_goals first
    |exact cB (by rw [show decide (((d.f 0).l.length:Int)>=1)=true from bT1 hg];rfl)
    |exact cB (by rw [show decide (((d.f 0).l.length:Int)>=1)=false from bF1 hg];rfl)
    |skip
end
end
section
open Go.RowKit
set_option linter.unusedSectionVars false
def wrW (n:Int):Int:=IntKind.i64.wrap n
def stepW (g:Nat->Int->Int):Nat->Nat->Int->Int
 |0,_,n=>n
 |j+1,i,n=>if n<=2000 then stepW g j (i+1) (g i n) else n
theorem zBD {g:Nat->Int->Int} {j i:Nat} {n R:Int} (h:stepW g (j+1) i n=R) (hn:n<=2000):stepW g j (i+1) (g i n)=R:=by
 rw [<- h];conv=>rhs;unfold stepW
 rw [if_pos hn]
theorem zAB {g:Nat->Int->Int} {j i:Nat} {n R:Int} (h:stepW g j i n=R) (hn : ¬ n<=2000\/j=0):n=R:=by
 cases j with
 |zero=>exact h
 |succ j =>
  unfold stepW at h
  rwa [if_neg (hn.resolve_right (by omega))] at h
def weightW:Nat->D->Int
 |0,_=>1
 |k+1,d=>stepW (fun i n=>wrW (n+weightW k (gD (d.f 3).l i))) (d.f 3).l.length 0 (stepW (fun i n=>wrW (wrW (n+1)+((gD (d.f 4).l i).s.size:Int))) (d.f 4).l.length 0 (wrW (1+((d.f 2).s.size:Int))))
def zB9 (d:D):Int:=weightW (bulkD d) d
def dirsWt (l:List D):Int:=stepW (fun i n=>stepW (fun k n=>wrW (wrW (n+1)+zB9 ((gD ((gD l i).f 1).l k).f 1))) ((gD l i).f 1).l.length 0 (wrW (n+1))) l.length 0 0
def insWt (l:List D):Int:=stepW (fun i n=>wrW (wrW (wrW (wrW (n+1)+(((gD l i).f 1).f 1).l.length)+zB9 ((gD l i).f 3))+dirsWt ((gD l i).f 4).l)) l.length 0 0
def fdWt (d:D) (i:Nat) (n:Int):Int:=wrW (wrW (wrW (wrW (n+1)+(((gD (d.f 4).l i).f 2).f 1).l.length)+insWt ((gD (d.f 4).l i).f 1).l)+dirsWt ((gD (d.f 4).l i).f 3).l)
def mbWt (d:D) (i:Nat) (n:Int):Int:=wrW (wrW (n+1)+dirsWt ((gD (d.f 5).l i).f 1).l)
def defWt (d:D) (n:Int):Int:=stepW (mbWt d) (d.f 5).l.length 0 (stepW (fdWt d) (d.f 4).l.length 0 (wrW (wrW (wrW (n+(d.f 2).l.length)+dirsWt (d.f 3).l)+insWt (d.f 6).l)))
def docWt (l:List D):Int:=stepW (fun i n=>defWt (gD l i) n) l.length 0 (l.length:Int)
theorem wr1 {i:Nat} (h:i<9223372036854775807):V.c (.int .i64 (IntKind.i64.wrap ((i:Int)+1)))=V.c (.int .i64 ((i+1:Nat):Int)):=by
 rw [zE5 ⟨by omega,by omega⟩];rfl
attribute [local irreducible] wpList Calls Code.wp AW AWo OpOk seqK zq zt loopK endK AC zg Yld Sub
attribute [local irreducible] ACB ACX ACE absLexG YldG absLexH
noncomputable def HW1 (d:D) (n:Int) (i:Nat):Vst 55:=stS 55 [(1,.c (.int .i64 2000)),(2,.bx 2 0),(5,.c (.int .i64 n)),(6,.c (.int .i64 (i:Int)))] [(2,.box 53 (cellsV Tryz.prog 12 53 d))]
noncomputable def HW2 (d:D) (n:Int) (i:Nat):Vst 55:=stS 55 [(1,.c (.int .i64 2000)),(2,.bx 2 0),(5,.c (.int .i64 n)),(7,.c (.int .i64 (i:Int)))] [(2,.box 53 (cellsV Tryz.prog 12 53 d))]
theorem zH3 : ∀ (k:Nat) (d:D),Dp k d->AC EN Tryz.prog 66 [.agg (cellsV Tryz.prog 12 53 d),.c (.int .i64 2000)] (.c (.int .i64 (weightW k d)))
 |0,_,h=>h.elim
 |k+1,d,h=>by
  refine zA9 2 (by kernel_rfl) fun hL => ?_
  have hl3:(d.f 3).l.length<=9223372036854775807:=(zBB hL).1
  have hl4:(d.f 4).l.length<=9223372036854775807:=(zBB hL).2
  clear hL
  have ih:=fun i (hi:i<(d.f 3).l.length)=>zH3 k (gD (d.f 3).l i) (h i hi)
  obtain ⟨R,hR⟩ : ∃ R,weightW (k+1) d=R:=⟨_,rfl⟩
  obtain ⟨R1,hR1⟩ : ∃ R,stepW (fun i n=>wrW (wrW (n+1)+((gD (d.f 4).l i).s.size:Int))) (d.f 4).l.length 0 (wrW (1+((d.f 2).s.size:Int)))=R:=⟨_,rfl⟩
  unfold weightW at hR
  rw [hR1] at hR
  have hgoal:weightW (k+1) d=R:=by unfold weightW;rw [hR1,hR]
  rw [hgoal]
  clear hgoal
  refine zN 55 Tryz.func66 rfl rfl rfl rfl ?_
  intro s w he
  repeat' (first
|apply zA8 (y:=.tmp _) rfl rfl rfl
 . conv=>lhs;whnf
 . conv=>lhs;whnf
|refine zA ?_
|refine zB ?_
|refine zK ?_
|apply aw_1
 conv=>whnf
 refine ⟨?_,trivial⟩
|apply s_1
 conv=>whnf;arg 1;arg 4;arg 3;whnf
 refine ⟨?_,?_⟩
|apply zAA rfl rfl rfl rfl
 . conv=>lhs;whnf;arg 1;whnf
 . rfl
|exact trivial)
  rotate_left 1
  . exact (show Tryz.prog.underlying 9=some TypeDesc.string by kernel_rfl)
  refine za (fun j st => ∃ i n,i+j=(d.f 4).l.length/\stepW (fun i n=>wrW (wrW (n+1)+((gD (d.f 4).l i).s.size:Int))) j i n=R1/\Sub (cx EN Tryz.prog s w he) st (HW1 d n i)) (d.f 4).l.length ⟨0,_,by omega,hR1,Sub.live ⟨rfl,rfl,rfl,rfl,trivial⟩ ⟨rfl,trivial⟩⟩ ?_
  rintro j st ⟨i,n,hij,hR1,hs2⟩
  refine zi hs2 ?_
  clear hs2
  have h3:(i<(d.f 4).l.length/\n<=2000)\/(i<(d.f 4).l.length /\ ¬ n<=2000) \/ ¬ i<(d.f 4).l.length:=by omega
  rcases h3 with ⟨hi,hn⟩ | ⟨hi,hn⟩ | hi
  . obtain ⟨j,rfl⟩ : ∃ q,j=q+1:=⟨j-1,by omega⟩
    have f1:decide ((i:Int)<((d.f 4).l.length:Nat))=true:=decide_eq_true (by omega)
    have f2:decide (n<=2000)=true:=decide_eq_true hn
    have K1:(decide ((i:Int)<((d.f 4).l.length:Nat))==true)=false->False:=fun h=>by rw [f1] at h;cases h
    repeat' (first
|apply zA8 rfl rfl rfl
 . conv=>lhs;whnf
 . conv=>lhs;whnf
|apply zG
 . conv=>lhs;whnf
 . assumption
|exact (K1 ‹_›).elim
|refine zA ?_
|refine zB ?_
|refine zK ?_
|refine zP ?_
|apply aw_1
 conv=>whnf
 refine ⟨?_,trivial⟩
|apply zT rfl rfl
 . conv=>lhs;whnf
 . conv=>lhs;whnf
 . first | exact bT1 ‹_› | exact bT2 ‹_›
|apply s_1
 conv=>whnf;arg 1;arg 4;arg 3;whnf
 refine ⟨?_,?_⟩
|apply zF rfl
 . conv=>lhs;whnf
 . conv=>lhs;whnf
 . first | rfl | assumption
 . conv=>lhs;whnf;arg 2;whnf
|apply zC rfl
 . conv=>lhs;whnf
 . conv=>lhs;whnf
 . conv=>lhs;whnf;arg 2;whnf
|exact trivial
|intro hg)
    all_goals first
     |exact (show Tryz.prog.underlying 9=some TypeDesc.string by kernel_rfl)
     |exact zS (by omega)
     |exact zu hi
     |exact zH (j':=j) (by omega) ⟨i+1,_,by omega,zBD hR1 hn,Sub.live ⟨rfl,rfl,rfl,wr1 (by omega),trivial⟩ ⟨rfl,trivial⟩⟩
     |skip
  all_goals
   have hE:n=R1:=zAB hR1 (by first | exact .inl hn | exact .inr (by omega))
   rw [<- hE] at hR
   clear hR1 hE
  . have f1:decide ((i:Int)<((d.f 4).l.length:Nat))=true:=decide_eq_true (by omega)
    have f2:decide (n<=2000)=false:=decide_eq_false hn
    have K1:(decide ((i:Int)<((d.f 4).l.length:Nat))==true)=false->False:=fun h=>by rw [f1] at h;cases h
    repeat' (first
|apply zD
 . conv=>lhs;whnf
 . assumption
|exact (K1 ‹_›).elim
|refine zA ?_
|refine zB ?_
|refine zK ?_
|apply aw_1
 conv=>whnf
 refine ⟨?_,trivial⟩
|apply zT rfl rfl
 . conv=>lhs;whnf
 . conv=>lhs;whnf
 . first | exact bT1 ‹_› | exact bT2 ‹_›
|apply s_1
 conv=>whnf;arg 1;arg 4;arg 3;whnf
 refine ⟨?_,?_⟩
|apply zF rfl
 . conv=>lhs;whnf
 . conv=>lhs;whnf
 . first | rfl | assumption
 . conv=>lhs;whnf;arg 2;whnf
|apply zC rfl
 . conv=>lhs;whnf
 . conv=>lhs;whnf
 . conv=>lhs;whnf;arg 2;whnf
|refine zL ?_
|refine zJ rfl ?_
|refine zI ?_
|exact trivial
|intro hg)
    clear K1 f1
    refine za (fun j st => ∃ i m,i+j=(d.f 3).l.length/\stepW (fun i n=>wrW (n+weightW k (gD (d.f 3).l i))) j i m=R/\Sub (cx EN Tryz.prog s w he) st (HW2 d m i)) (d.f 3).l.length ⟨0,_,by omega,hR,Sub.live ⟨rfl,rfl,rfl,rfl,trivial⟩ ⟨rfl,trivial⟩⟩ ?_
    clear hR
    rintro j2 st2 ⟨i2,m,hij2,hR,hs3⟩
    refine zi hs3 ?_
    clear hs3
    have h4:(i2<(d.f 3).l.length/\m<=2000)\/(i2<(d.f 3).l.length /\ ¬ m<=2000) \/ ¬ i2<(d.f 3).l.length:=by omega
    rcases h4 with ⟨hi2,hm⟩ | ⟨hi2,hm⟩ | hi2
    . obtain ⟨j2,rfl⟩ : ∃ q,j2=q+1:=⟨j2-1,by omega⟩
      have g1:decide ((i2:Int)<((d.f 3).l.length:Nat))=true:=decide_eq_true (by omega)
      have g2:decide (m<=2000)=true:=decide_eq_true hm
      have K2:(decide ((i2:Int)<((d.f 3).l.length:Nat))==true)=false->False:=fun h=>by rw [g1] at h;cases h
      have ih2:=ih i2 hi2
      repeat' (first
|apply zA8 (y:=.tmp _) rfl rfl rfl
 . conv=>lhs;whnf
 . conv=>lhs;whnf
|apply zG
 . conv=>lhs;whnf
 . assumption
|exact (K2 ‹_›).elim
|refine zA ?_
|refine zB ?_
|refine zK ?_
|refine zP ?_
|apply aw_1
 conv=>whnf
 refine ⟨?_,trivial⟩
|apply zT rfl rfl
 . conv=>lhs;whnf
 . conv=>lhs;whnf
 . first | exact bT1 ‹_› | exact bT2 ‹_›
|apply s_1
 conv=>whnf;arg 1;arg 4;arg 3;whnf
 refine ⟨?_,?_⟩
|apply zb rfl
 . conv=>lhs;whnf
 . conv=>lhs;whnf
 . first | exact ih2
|apply zF rfl
 . conv=>lhs;whnf
 . conv=>lhs;whnf
 . first | rfl | assumption
 . conv=>lhs;whnf;arg 2;whnf
|apply zC rfl
 . conv=>lhs;whnf
 . conv=>lhs;whnf
 . conv=>lhs;whnf;arg 2;whnf
|exact trivial
|intro hg)
      all_goals first
       |exact zS (by omega)
       |exact zu hi2
       |exact zH (j':=j2) (by omega) ⟨i2+1,_,by omega,zBD hR hm,Sub.live ⟨rfl,rfl,rfl,rfl,trivial⟩ ⟨rfl,trivial⟩⟩
       |skip
    . have g1:decide ((i2:Int)<((d.f 3).l.length:Nat))=true:=decide_eq_true (by omega)
      have g2:decide (m<=2000)=false:=decide_eq_false hm
      have K2:(decide ((i2:Int)<((d.f 3).l.length:Nat))==true)=false->False:=fun h=>by rw [g1] at h;cases h
      repeat' (first
|apply zD
 . conv=>lhs;whnf
 . assumption
|exact (K2 ‹_›).elim
|refine zA ?_
|refine zB ?_
|refine zK ?_
|apply aw_1
 conv=>whnf
 refine ⟨?_,trivial⟩
|apply zT rfl rfl
 . conv=>lhs;whnf
 . conv=>lhs;whnf
 . first | exact bT1 ‹_› | exact bT2 ‹_›
|apply s_1
 conv=>whnf;arg 1;arg 4;arg 3;whnf
 refine ⟨?_,?_⟩
|apply zF rfl
 . conv=>lhs;whnf
 . conv=>lhs;whnf
 . first | rfl | assumption
 . conv=>lhs;whnf;arg 2;whnf
|apply zC rfl
 . conv=>lhs;whnf
 . conv=>lhs;whnf
 . conv=>lhs;whnf;arg 2;whnf
|refine zL ?_
|refine zJ rfl ?_
|refine zI ?_
|refine zE ?_
|refine ⟨_,by conv=>lhs;whnf;arg 2;whnf,?_⟩;conv=>rhs;whnf
|exact trivial
|intro hg)
      all_goals first
       |(rw [zAB hR (.inl hm)];done)
       |skip
    . have g1:decide ((i2:Int)<((d.f 3).l.length:Nat))=false:=decide_eq_false (by omega)
      have K2:(decide ((i2:Int)<((d.f 3).l.length:Nat))==true)=true->False:=fun h=>by rw [g1] at h;cases h
      repeat' (first
|exact (K2 ‹_›).elim
|refine zA ?_
|refine zB ?_
|refine zK ?_
|apply aw_1
 conv=>whnf
 refine ⟨?_,trivial⟩
|apply zQ rfl rfl
 . conv=>lhs;whnf
 . conv=>lhs;whnf
 . first | exact bF1 ‹_› | exact bF2 ‹_›
|apply s_1
 conv=>whnf;arg 1;arg 4;arg 3;whnf
 refine ⟨?_,?_⟩
|apply zX rfl
 . conv=>lhs;whnf
 . conv=>lhs;whnf
 . first | rfl | assumption
|apply zC rfl
 . conv=>lhs;whnf
 . conv=>lhs;whnf
 . conv=>lhs;whnf;arg 2;whnf
|refine zL ?_
|refine zJ rfl ?_
|refine zI ?_
|refine zE ?_
|refine ⟨_,by conv=>lhs;whnf;arg 2;whnf,?_⟩;conv=>rhs;whnf
|exact trivial
|intro hg)
      all_goals first
       |(rw [zAB hR (.inr (by omega))];done)
       |skip
  . have f1:decide ((i:Int)<((d.f 4).l.length:Nat))=false:=decide_eq_false (by omega)
    have K1:(decide ((i:Int)<((d.f 4).l.length:Nat))==true)=true->False:=fun h=>by rw [f1] at h;cases h
    repeat' (first
|exact (K1 ‹_›).elim
|refine zA ?_
|refine zB ?_
|refine zK ?_
|apply aw_1
 conv=>whnf
 refine ⟨?_,trivial⟩
|apply zQ rfl rfl
 . conv=>lhs;whnf
 . conv=>lhs;whnf
 . first | exact bF1 ‹_› | exact bF2 ‹_›
|apply s_1
 conv=>whnf;arg 1;arg 4;arg 3;whnf
 refine ⟨?_,?_⟩
|apply zX rfl
 . conv=>lhs;whnf
 . conv=>lhs;whnf
 . first | rfl | assumption
|apply zC rfl
 . conv=>lhs;whnf
 . conv=>lhs;whnf
 . conv=>lhs;whnf;arg 2;whnf
|refine zL ?_
|refine zJ rfl ?_
|refine zI ?_
|exact trivial
|intro hg)
    clear K1 f1
    refine za (fun j st => ∃ i m,i+j=(d.f 3).l.length/\stepW (fun i n=>wrW (n+weightW k (gD (d.f 3).l i))) j i m=R/\Sub (cx EN Tryz.prog s w he) st (HW2 d m i)) (d.f 3).l.length ⟨0,_,by omega,hR,Sub.live ⟨rfl,rfl,rfl,rfl,trivial⟩ ⟨rfl,trivial⟩⟩ ?_
    clear hR
    rintro j2 st2 ⟨i2,m,hij2,hR,hs3⟩
    refine zi hs3 ?_
    clear hs3
    have h4:(i2<(d.f 3).l.length/\m<=2000)\/(i2<(d.f 3).l.length /\ ¬ m<=2000) \/ ¬ i2<(d.f 3).l.length:=by omega
    rcases h4 with ⟨hi2,hm⟩ | ⟨hi2,hm⟩ | hi2
    . obtain ⟨j2,rfl⟩ : ∃ q,j2=q+1:=⟨j2-1,by omega⟩
      have g1:decide ((i2:Int)<((d.f 3).l.length:Nat))=true:=decide_eq_true (by omega)
      have g2:decide (m<=2000)=true:=decide_eq_true hm
      have K2:(decide ((i2:Int)<((d.f 3).l.length:Nat))==true)=false->False:=fun h=>by rw [g1] at h;cases h
      have ih2:=ih i2 hi2
      repeat' (first
|apply zA8 (y:=.tmp _) rfl rfl rfl
 . conv=>lhs;whnf
 . conv=>lhs;whnf
|apply zG
 . conv=>lhs;whnf
 . assumption
|exact (K2 ‹_›).elim
|refine zA ?_
|refine zB ?_
|refine zK ?_
|refine zP ?_
|apply aw_1
 conv=>whnf
 refine ⟨?_,trivial⟩
|apply zT rfl rfl
 . conv=>lhs;whnf
 . conv=>lhs;whnf
 . first | exact bT1 ‹_› | exact bT2 ‹_›
|apply s_1
 conv=>whnf;arg 1;arg 4;arg 3;whnf
 refine ⟨?_,?_⟩
|apply zb rfl
 . conv=>lhs;whnf
 . conv=>lhs;whnf
 . first | exact ih2
|apply zF rfl
 . conv=>lhs;whnf
 . conv=>lhs;whnf
 . first | rfl | assumption
 . conv=>lhs;whnf;arg 2;whnf
|apply zC rfl
 . conv=>lhs;whnf
 . conv=>lhs;whnf
 . conv=>lhs;whnf;arg 2;whnf
|exact trivial
|intro hg)
      all_goals first
       |exact zS (by omega)
       |exact zu hi2
       |exact zH (j':=j2) (by omega) ⟨i2+1,_,by omega,zBD hR hm,Sub.live ⟨rfl,rfl,rfl,rfl,trivial⟩ ⟨rfl,trivial⟩⟩
       |skip
    . have g1:decide ((i2:Int)<((d.f 3).l.length:Nat))=true:=decide_eq_true (by omega)
      have g2:decide (m<=2000)=false:=decide_eq_false hm
      have K2:(decide ((i2:Int)<((d.f 3).l.length:Nat))==true)=false->False:=fun h=>by rw [g1] at h;cases h
      repeat' (first
|apply zD
 . conv=>lhs;whnf
 . assumption
|exact (K2 ‹_›).elim
|refine zA ?_
|refine zB ?_
|refine zK ?_
|apply aw_1
 conv=>whnf
 refine ⟨?_,trivial⟩
|apply zT rfl rfl
 . conv=>lhs;whnf
 . conv=>lhs;whnf
 . first | exact bT1 ‹_› | exact bT2 ‹_›
|apply s_1
 conv=>whnf;arg 1;arg 4;arg 3;whnf
 refine ⟨?_,?_⟩
|apply zF rfl
 . conv=>lhs;whnf
 . conv=>lhs;whnf
 . first | rfl | assumption
 . conv=>lhs;whnf;arg 2;whnf
|apply zC rfl
 . conv=>lhs;whnf
 . conv=>lhs;whnf
 . conv=>lhs;whnf;arg 2;whnf
|refine zL ?_
|refine zJ rfl ?_
|refine zI ?_
|refine zE ?_
|refine ⟨_,by conv=>lhs;whnf;arg 2;whnf,?_⟩;conv=>rhs;whnf
|exact trivial
|intro hg)
      all_goals first
       |(rw [zAB hR (.inl hm)];done)
       |skip
    . have g1:decide ((i2:Int)<((d.f 3).l.length:Nat))=false:=decide_eq_false (by omega)
      have K2:(decide ((i2:Int)<((d.f 3).l.length:Nat))==true)=true->False:=fun h=>by rw [g1] at h;cases h
      repeat' (first
|exact (K2 ‹_›).elim
|refine zA ?_
|refine zB ?_
|refine zK ?_
|apply aw_1
 conv=>whnf
 refine ⟨?_,trivial⟩
|apply zQ rfl rfl
 . conv=>lhs;whnf
 . conv=>lhs;whnf
 . first | exact bF1 ‹_› | exact bF2 ‹_›
|apply s_1
 conv=>whnf;arg 1;arg 4;arg 3;whnf
 refine ⟨?_,?_⟩
|apply zX rfl
 . conv=>lhs;whnf
 . conv=>lhs;whnf
 . first | rfl | assumption
|apply zC rfl
 . conv=>lhs;whnf
 . conv=>lhs;whnf
 . conv=>lhs;whnf;arg 2;whnf
|refine zL ?_
|refine zJ rfl ?_
|refine zI ?_
|refine zE ?_
|refine ⟨_,by conv=>lhs;whnf;arg 2;whnf,?_⟩;conv=>rhs;whnf
|exact trivial
|intro hg)
      all_goals first
       |(rw [zAB hR (.inr (by omega))];done)
       |skip
theorem zGC (d:D):AC EN Tryz.prog 66 [.agg (cellsV Tryz.prog 12 53 d),.c (.int .i64 2000)] (.c (.int .i64 (zB9 d))):=zH3 _ d (zBP (bulkD d) d (Nat.le_refl _))
noncomputable def HWd (l:List D) (n:Int) (i:Nat):Vst 51:=stS 51 [(0,.sl 108 l),(1,.c (.int .i64 2000)),(5,.c (.int .i64 n)),(6,.c (.int .i64 (i:Int)))] []
noncomputable def HWe (l:List D) (n:Int) (i k:Nat):Vst 51:=stS 51 [(0,.sl 108 l),(1,.c (.int .i64 2000)),(5,.c (.int .i64 n)),(6,.c (.int .i64 (i:Int))),(7,.c (.int .i64 (k:Int)))] []
theorem zCy (l:List D):AC EN Tryz.prog 32 [.sl 108 l,.c (.int .i64 2000)] (.c (.int .i64 (dirsWt l))):=by
 refine zDL 2 fun hL2 => ?_
 have hl:l.length<=9223372036854775807:=hL2.1
 have hla : ∀ i,i<l.length->((gD l i).f 1).l.length<=9223372036854775807:=fun i hi=>zHV (hL2.2 (by decide +kernel) i hi)
 clear hL2
 obtain ⟨R,hR⟩ : ∃ R,dirsWt l=R:=⟨_,rfl⟩
 rw [hR]
 unfold dirsWt at hR
 refine zN 51 Tryz.func32 rfl rfl rfl rfl ?_
 intro s w he
 repeat' (first
|refine zA ?_
|refine zB ?_
|refine zK ?_
|apply aw_1
 conv=>whnf
 refine ⟨?_,trivial⟩
|apply s_1
 conv=>whnf;arg 1;arg 4;arg 3;whnf
 refine ⟨?_,?_⟩
|exact trivial)
 refine za (fun j st => ∃ i n,i+j=l.length/\stepW (fun i n=>stepW (fun k n=>wrW (wrW (n+1)+zB9 ((gD ((gD l i).f 1).l k).f 1))) ((gD l i).f 1).l.length 0 (wrW (n+1))) j i n=R/\Sub (cx EN Tryz.prog s w he) st (HWd l n i)) l.length ⟨0,_,by omega,hR,Sub.live ⟨rfl,rfl,rfl,rfl,trivial⟩ trivial⟩ ?_
 clear hR
 rintro j st ⟨i,n,hij,hR,hs2⟩
 refine zi hs2 ?_
 clear hs2
 have h3:(i<l.length/\n<=2000)\/(i<l.length /\ ¬ n<=2000) \/ ¬ i<l.length:=by omega
 rcases h3 with ⟨hi,hn⟩ | ⟨hi,hn⟩ | hi
 . obtain ⟨j,rfl⟩ : ∃ q,j=q+1:=⟨j-1,by omega⟩
   have f1:decide ((i:Int)<(l.length:Nat))=true:=decide_eq_true (by omega)
   have f2:decide (n<=2000)=true:=decide_eq_true hn
   have K1:(decide ((i:Int)<(l.length:Nat))==true)=false->False:=fun h=>by rw [f1] at h;cases h
   have hR:=zBD hR hn
   obtain ⟨R1,hR1⟩ : ∃ R,stepW (fun k n=>wrW (wrW (n+1)+zB9 ((gD ((gD l i).f 1).l k).f 1))) ((gD l i).f 1).l.length 0 (wrW (n+1))=R:=⟨_,rfl⟩
   try dsimp only at hR
   rw [hR1] at hR
   have ha:=hla i hi
   repeat' (first
|apply zA8 rfl rfl rfl
 . conv=>lhs;whnf
 . conv=>lhs;whnf
|apply zG
 . conv=>lhs;whnf
 . assumption
|exact (K1 ‹_›).elim
|refine zA ?_
|refine zB ?_
|refine zK ?_
|apply aw_1
 conv=>whnf
 refine ⟨?_,trivial⟩
|apply zT rfl rfl
 . conv=>lhs;whnf
 . conv=>lhs;whnf
 . first | exact bT1 ‹_› | exact bT2 ‹_›
|apply s_1
 conv=>whnf;arg 1;arg 4;arg 3;whnf
 refine ⟨?_,?_⟩
|apply zF rfl
 . conv=>lhs;whnf
 . conv=>lhs;whnf
 . first | rfl | assumption
 . conv=>lhs;whnf;arg 2;whnf
|apply zC rfl
 . conv=>lhs;whnf
 . conv=>lhs;whnf
 . conv=>lhs;whnf;arg 2;whnf
|exact trivial
|intro hg)
   all_goals first
    |exact zS (by omega)
    |exact zu hi
    |skip
   clear K1 f2
   refine za (fun jj st => ∃ k m,k+jj=((gD l i).f 1).l.length/\stepW (fun k n=>wrW (wrW (n+1)+zB9 ((gD ((gD l i).f 1).l k).f 1))) jj k m=R1/\Sub (cx EN Tryz.prog s w he) st (HWe l m i k)) ((gD l i).f 1).l.length ⟨0,_,by omega,hR1,Sub.live ⟨rfl,rfl,rfl,rfl,rfl,trivial⟩ trivial⟩ ?_
   rintro jj st2 ⟨k,m,hkj,hR1,hs3⟩
   refine zi hs3 ?_
   clear hs3
   have h4:(k<((gD l i).f 1).l.length/\m<=2000)\/(k<((gD l i).f 1).l.length /\ ¬ m<=2000) \/ ¬ k<((gD l i).f 1).l.length:=by omega
   rcases h4 with ⟨hk,hm⟩ | ⟨hk,hm⟩ | hk
   . obtain ⟨jj,rfl⟩ : ∃ q,jj=q+1:=⟨jj-1,by omega⟩
     have g1:decide ((k:Int)<(((gD l i).f 1).l.length:Nat))=true:=decide_eq_true (by omega)
     have g2:decide (m<=2000)=true:=decide_eq_true hm
     have K2:(decide ((k:Int)<(((gD l i).f 1).l.length:Nat))==true)=false->False:=fun h=>by rw [g1] at h;cases h
     have hw:=zGC ((gD ((gD l i).f 1).l k).f 1)
     repeat' (first
|apply zA8 rfl rfl rfl
 . conv=>lhs;whnf
 . conv=>lhs;whnf
|apply zG
 . conv=>lhs;whnf
 . assumption
|exact (K2 ‹_›).elim
|refine zA ?_
|refine zB ?_
|refine zK ?_
|refine zP ?_
|apply aw_1
 conv=>whnf
 refine ⟨?_,trivial⟩
|apply zT rfl rfl
 . conv=>lhs;whnf
 . conv=>lhs;whnf
 . first | exact bT1 ‹_› | exact bT2 ‹_›
|apply s_1
 conv=>whnf;arg 1;arg 4;arg 3;whnf
 refine ⟨?_,?_⟩
|apply zb rfl
 . conv=>lhs;whnf
 . conv=>lhs;whnf
 . first | exact hw
|apply zF rfl
 . conv=>lhs;whnf
 . conv=>lhs;whnf
 . first | rfl | assumption
 . conv=>lhs;whnf;arg 2;whnf
|apply zC rfl
 . conv=>lhs;whnf
 . conv=>lhs;whnf
 . conv=>lhs;whnf;arg 2;whnf
|exact trivial
|intro hg)
     all_goals first
      |exact zS (by omega)
      |exact zu hi
      |exact zu hk
      |exact zH (j':=jj) (by omega) ⟨k+1,_,by omega,zBD hR1 hm,Sub.live ⟨rfl,rfl,rfl,rfl,wr1 (by omega),trivial⟩ trivial⟩
      |skip
   . have g1:decide ((k:Int)<(((gD l i).f 1).l.length:Nat))=true:=decide_eq_true (by omega)
     have g2:decide (m<=2000)=false:=decide_eq_false hm
     have K2:(decide ((k:Int)<(((gD l i).f 1).l.length:Nat))==true)=false->False:=fun h=>by rw [g1] at h;cases h
     repeat' (first
|apply zD
 . conv=>lhs;whnf
 . assumption
|exact (K2 ‹_›).elim
|refine zA ?_
|refine zB ?_
|refine zK ?_
|refine zP ?_
|apply aw_1
 conv=>whnf
 refine ⟨?_,trivial⟩
|apply zT rfl rfl
 . conv=>lhs;whnf
 . conv=>lhs;whnf
 . first | exact bT1 ‹_› | exact bT2 ‹_›
|apply s_1
 conv=>whnf;arg 1;arg 4;arg 3;whnf
 refine ⟨?_,?_⟩
|apply zF rfl
 . conv=>lhs;whnf
 . conv=>lhs;whnf
 . first | rfl | assumption
 . conv=>lhs;whnf;arg 2;whnf
|apply zC rfl
 . conv=>lhs;whnf
 . conv=>lhs;whnf
 . conv=>lhs;whnf;arg 2;whnf
|refine zL ?_
|refine zJ rfl ?_
|refine zI ?_
|exact trivial
|intro hg)
     all_goals first
      |exact zS (by omega)
      |exact zu hi
      |exact zH (j':=j) (by omega) ⟨i+1,R1,by omega,hR,Sub.live ⟨rfl,rfl,(by rw [<- zAB hR1 (.inl hm)];rfl),rfl,trivial⟩ trivial⟩
      |skip
   . have g1:decide ((k:Int)<(((gD l i).f 1).l.length:Nat))=false:=decide_eq_false (by omega)
     have K2:(decide ((k:Int)<(((gD l i).f 1).l.length:Nat))==true)=true->False:=fun h=>by rw [g1] at h;cases h
     repeat' (first
|exact (K2 ‹_›).elim
|refine zA ?_
|refine zB ?_
|refine zK ?_
|refine zP ?_
|apply aw_1
 conv=>whnf
 refine ⟨?_,trivial⟩
|apply zQ rfl rfl
 . conv=>lhs;whnf
 . conv=>lhs;whnf
 . first | exact bF1 ‹_› | exact bF2 ‹_›
|apply s_1
 conv=>whnf;arg 1;arg 4;arg 3;whnf
 refine ⟨?_,?_⟩
|apply zX rfl
 . conv=>lhs;whnf
 . conv=>lhs;whnf
 . first | rfl | assumption
|apply zC rfl
 . conv=>lhs;whnf
 . conv=>lhs;whnf
 . conv=>lhs;whnf;arg 2;whnf
|refine zL ?_
|refine zJ rfl ?_
|refine zI ?_
|exact trivial
|intro hg)
     all_goals first
      |exact zS (by omega)
      |exact zu hi
      |exact zH (j':=j) (by omega) ⟨i+1,R1,by omega,hR,Sub.live ⟨rfl,rfl,(by rw [<- zAB hR1 (.inr (by omega))];rfl),rfl,trivial⟩ trivial⟩
      |skip
 . have f1:decide ((i:Int)<(l.length:Nat))=true:=decide_eq_true (by omega)
   have f2:decide (n<=2000)=false:=decide_eq_false hn
   have K1:(decide ((i:Int)<(l.length:Nat))==true)=false->False:=fun h=>by rw [f1] at h;cases h
   repeat' (first
|apply zD
 . conv=>lhs;whnf
 . assumption
|exact (K1 ‹_›).elim
|refine zA ?_
|refine zB ?_
|refine zK ?_
|apply aw_1
 conv=>whnf
 refine ⟨?_,trivial⟩
|apply zT rfl rfl
 . conv=>lhs;whnf
 . conv=>lhs;whnf
 . first | exact bT1 ‹_› | exact bT2 ‹_›
|apply s_1
 conv=>whnf;arg 1;arg 4;arg 3;whnf
 refine ⟨?_,?_⟩
|apply zF rfl
 . conv=>lhs;whnf
 . conv=>lhs;whnf
 . first | rfl | assumption
 . conv=>lhs;whnf;arg 2;whnf
|apply zC rfl
 . conv=>lhs;whnf
 . conv=>lhs;whnf
 . conv=>lhs;whnf;arg 2;whnf
|refine zL ?_
|refine zJ rfl ?_
|refine zI ?_
|refine zE ?_
|refine ⟨_,by conv=>lhs;whnf;arg 2;whnf,?_⟩;conv=>rhs;whnf
|exact trivial
|intro hg)
   all_goals first
    |(rw [zAB hR (.inl hn)];done)
    |skip
 . have f1:decide ((i:Int)<(l.length:Nat))=false:=decide_eq_false (by omega)
   have K1:(decide ((i:Int)<(l.length:Nat))==true)=true->False:=fun h=>by rw [f1] at h;cases h
   repeat' (first
|exact (K1 ‹_›).elim
|refine zA ?_
|refine zB ?_
|refine zK ?_
|apply aw_1
 conv=>whnf
 refine ⟨?_,trivial⟩
|apply zQ rfl rfl
 . conv=>lhs;whnf
 . conv=>lhs;whnf
 . first | exact bF1 ‹_› | exact bF2 ‹_›
|apply s_1
 conv=>whnf;arg 1;arg 4;arg 3;whnf
 refine ⟨?_,?_⟩
|apply zX rfl
 . conv=>lhs;whnf
 . conv=>lhs;whnf
 . first | rfl | assumption
|apply zC rfl
 . conv=>lhs;whnf
 . conv=>lhs;whnf
 . conv=>lhs;whnf;arg 2;whnf
|refine zL ?_
|refine zJ rfl ?_
|refine zI ?_
|refine zE ?_
|refine ⟨_,by conv=>lhs;whnf;arg 2;whnf,?_⟩;conv=>rhs;whnf
|exact trivial
|intro hg)
   all_goals first
    |(rw [zAB hR (.inr (by omega))];done)
    |skip
noncomputable def HWi (l:List D) (n:Int) (i:Nat):Vst 45:=stS 45 [(0,.sl 55 l),(1,.c (.int .i64 2000)),(5,.c (.int .i64 n)),(6,.c (.int .i64 (i:Int)))] []
theorem zK6 (l:List D):AC EN Tryz.prog 33 [.sl 55 l,.c (.int .i64 2000)] (.c (.int .i64 (insWt l))):=by
 refine zDL 1 fun hL2 => ?_
 have hl:l.length<=9223372036854775807:=hL2.1
 clear hL2
 obtain ⟨R,hR⟩ : ∃ R,insWt l=R:=⟨_,rfl⟩
 rw [hR]
 unfold insWt at hR
 refine zN 45 Tryz.func33 rfl rfl rfl rfl ?_
 intro s w he
 repeat' (first
|refine zA ?_
|refine zB ?_
|refine zK ?_
|apply aw_1
 conv=>whnf
 refine ⟨?_,trivial⟩
|apply s_1
 conv=>whnf;arg 1;arg 4;arg 3;whnf
 refine ⟨?_,?_⟩
|exact trivial)
 refine za (fun j st => ∃ i n,i+j=l.length/\stepW (fun i n=>wrW (wrW (wrW (wrW (n+1)+(((gD l i).f 1).f 1).l.length)+zB9 ((gD l i).f 3))+dirsWt ((gD l i).f 4).l)) j i n=R/\Sub (cx EN Tryz.prog s w he) st (HWi l n i)) l.length ⟨0,_,by omega,hR,Sub.live ⟨rfl,rfl,rfl,rfl,trivial⟩ trivial⟩ ?_
 clear hR
 rintro j st ⟨i,n,hij,hR,hs2⟩
 refine zi hs2 ?_
 clear hs2
 have h3:(i<l.length/\n<=2000)\/(i<l.length /\ ¬ n<=2000) \/ ¬ i<l.length:=by omega
 rcases h3 with ⟨hi,hn⟩ | ⟨hi,hn⟩ | hi
 . obtain ⟨j,rfl⟩ : ∃ q,j=q+1:=⟨j-1,by omega⟩
   have f1:decide ((i:Int)<(l.length:Nat))=true:=decide_eq_true (by omega)
   have f2:decide (n<=2000)=true:=decide_eq_true hn
   have K1:(decide ((i:Int)<(l.length:Nat))==true)=false->False:=fun h=>by rw [f1] at h;cases h
   have hw:=zGC ((gD l i).f 3)
   have hd:=zCy ((gD l i).f 4).l
   repeat' (first
|apply zA8 rfl rfl rfl
 . conv=>lhs;whnf
 . conv=>lhs;whnf
|apply y_addW rfl rfl rfl
 . conv=>lhs;whnf
 . conv=>lhs;whnf
|apply zG
 . conv=>lhs;whnf
 . assumption
|exact (K1 ‹_›).elim
|refine zA ?_
|refine zB ?_
|refine zK ?_
|refine zP ?_
|apply aw_1
 conv=>whnf
 refine ⟨?_,trivial⟩
|apply zT rfl rfl
 . conv=>lhs;whnf
 . conv=>lhs;whnf
 . first | exact bT1 ‹_› | exact bT2 ‹_›
|apply s_1
 conv=>whnf;arg 1;arg 4;arg 3;whnf
 refine ⟨?_,?_⟩
|apply zF rfl
 . conv=>lhs;whnf
 . conv=>lhs;whnf
 . first | rfl | assumption
 . conv=>lhs;whnf;arg 2;whnf
|apply zC rfl
 . conv=>lhs;whnf
 . conv=>lhs;whnf
 . conv=>lhs;whnf;arg 2;whnf
|apply zAC (by kernel_rfl) (by kernel_rfl)
|apply zAs
|apply zAr rfl
 . conv=>lhs;whnf
 . conv=>lhs;whnf;arg 2;whnf
|apply zCX rfl
 . conv=>lhs;whnf
 . conv=>lhs;whnf
 . first | exact hw | exact hd
|exact zj
|exact zr
|exact (1000000:Nat)
|exact trivial
|intro hg)
   all_goals first
    |exact zS (by omega)
    |exact zu hi
    |exact zH (j':=j) (by omega) ⟨i+1,_,by omega,zBD hR hn,Sub.live ⟨rfl,rfl,rfl,wr1 (by omega),trivial⟩ trivial⟩
    |skip
 . have f1:decide ((i:Int)<(l.length:Nat))=true:=decide_eq_true (by omega)
   have f2:decide (n<=2000)=false:=decide_eq_false hn
   have K1:(decide ((i:Int)<(l.length:Nat))==true)=false->False:=fun h=>by rw [f1] at h;cases h
   repeat' (first
|apply zD
 . conv=>lhs;whnf
 . assumption
|exact (K1 ‹_›).elim
|refine zA ?_
|refine zB ?_
|refine zK ?_
|apply aw_1
 conv=>whnf
 refine ⟨?_,trivial⟩
|apply zT rfl rfl
 . conv=>lhs;whnf
 . conv=>lhs;whnf
 . first | exact bT1 ‹_› | exact bT2 ‹_›
|apply s_1
 conv=>whnf;arg 1;arg 4;arg 3;whnf
 refine ⟨?_,?_⟩
|apply zF rfl
 . conv=>lhs;whnf
 . conv=>lhs;whnf
 . first | rfl | assumption
 . conv=>lhs;whnf;arg 2;whnf
|apply zC rfl
 . conv=>lhs;whnf
 . conv=>lhs;whnf
 . conv=>lhs;whnf;arg 2;whnf
|refine zL ?_
|refine zJ rfl ?_
|refine zI ?_
|refine zE ?_
|refine ⟨_,by conv=>lhs;whnf;arg 2;whnf,?_⟩;conv=>rhs;whnf
|exact trivial
|intro hg)
   all_goals first
    |(rw [zAB hR (.inl hn)];done)
    |skip
 . have f1:decide ((i:Int)<(l.length:Nat))=false:=decide_eq_false (by omega)
   have K1:(decide ((i:Int)<(l.length:Nat))==true)=true->False:=fun h=>by rw [f1] at h;cases h
   repeat' (first
|exact (K1 ‹_›).elim
|refine zA ?_
|refine zB ?_
|refine zK ?_
|apply aw_1
 conv=>whnf
 refine ⟨?_,trivial⟩
|apply zQ rfl rfl
 . conv=>lhs;whnf
 . conv=>lhs;whnf
 . first | exact bF1 ‹_› | exact bF2 ‹_›
|apply s_1
 conv=>whnf;arg 1;arg 4;arg 3;whnf
 refine ⟨?_,?_⟩
|apply zX rfl
 . conv=>lhs;whnf
 . conv=>lhs;whnf
 . first | rfl | assumption
|apply zC rfl
 . conv=>lhs;whnf
 . conv=>lhs;whnf
 . conv=>lhs;whnf;arg 2;whnf
|refine zL ?_
|refine zJ rfl ?_
|refine zI ?_
|refine zE ?_
|refine ⟨_,by conv=>lhs;whnf;arg 2;whnf,?_⟩;conv=>rhs;whnf
|exact trivial
|intro hg)
   all_goals first
    |(rw [zAB hR (.inr (by omega))];done)
    |skip
end
section
open Go.RowKit
set_option linter.unusedSectionVars false
def nullB (d:D):Bool:=(d.f 0).n==0&&(d.f 1).n==0&&((d.f 2).s.data.toList==[])&&decide ((d.f 3).l.length=0)&&decide ((d.f 4).l.length=0)
theorem null_valW (d:D):nullB d=(valY litW d&&(d.f 0).n==0):=by
 obtain ⟨b,hb⟩ : ∃ b,bulkD d=b+1:=⟨bulkD d-1,by have:=zAY d;omega⟩
 have hs:zEU (b+1) d=IntKind.i64.wrap ((1+sumN (fun i=>sizeR b (gD (d.f 3).l i)) (d.f 3).l.length:Nat):Int):=rfl
 have hd:zBS (b+1) d=IntKind.i64.wrap (maxW (fun i=>zBS b (gD (d.f 3).l i)) (d.f 3).l.length+1):=rfl
 have he:everyL (b+1) d=(nodeL d && !((d.f 3).l.any fun x => !everyL b x)):=rfl
 have hr:bareR (b+1) d=(!((d.f 0).n==7) && !((d.f 3).l.any fun x => !bareR b x)):=rfl
 rw [Bool.eq_iff_iff]
 constructor
 . intro h
   unfold nullB at h
   simp only [Bool.and_eq_true,beq_iff_eq,decide_eq_true_eq] at h
   obtain ⟨⟨⟨⟨h0,h1⟩,h2⟩,h3⟩,h4⟩:=h
   have z3:=List.eq_nil_of_length_eq_zero h3
   have z4:=List.eq_nil_of_length_eq_zero h4
   unfold valY litW
   rw [hb,hs,hd,he,hr,h3,z3]
   have hn:nodeL d=true:=by
    unfold nodeL
    rw [h0,h1,h2,h3,h4,show strsR d=[] by unfold strsR;rw [z4];rfl,z4]
    rfl
   rw [hn,h0];rfl
 . intro h
   rw [Bool.and_eq_true,beq_iff_eq] at h
   obtain ⟨h,h0⟩:=h
   unfold valY litW at h
   rw [hb,he] at h
   simp only [Bool.and_eq_true] at h
   have hx:=xnode h.1.2.1
   unfold nullB
   rw [h0]
   have q1:(d.f 1).n=0:=by rcases hx.int0 with h | h | h<;>omega
   have q2:tx (d.f 2).s=[]:=by rcases hx.txt0 with h | h | h | h<;>first | exact h | omega
   have q3:(d.f 3).l.length=0:=by rcases hx.items0 with h | h | h<;>omega
   have q4:(d.f 4).l.length=0:=by rcases hx.keys0 with h | h<;>omega
   have q2:(d.f 2).s.data.toList=[]:=q2
   rw [q1,q2,q3,q4];rfl
attribute [local irreducible] wpList Calls Code.wp AW AWo OpOk seqK zq zt loopK endK AC zg Yld Sub
attribute [local irreducible] ACB ACX ACE absLexG YldG absLexH
theorem nullF_ac (d:D):AC EN Tryz.prog 138 [.agg (cellsV Tryz.prog 12 53 d)] (.c (.bool (nullB d))):=by
 have hT:((d.f 2).s.toList==({ data:=#[] }:ByteArray).toList)=((d.f 2).s.data.toList==[]):=zCE _ []
 have z3:(((d.f 3).l.length:Int)==0)=decide ((d.f 3).l.length=0):=by rw [Bool.eq_iff_iff];simp only [beq_iff_eq,decide_eq_true_eq];omega
 have z4:(((d.f 4).l.length:Int)==0)=decide ((d.f 4).l.length=0):=by rw [Bool.eq_iff_iff];simp only [beq_iff_eq,decide_eq_true_eq];omega
 unfold nullB
 refine zN 28 Tryz.func138 rfl rfl rfl rfl ?_
 intro s w he
 repeat' (first
|refine zA ?_
|refine zB ?_
|refine zK ?_
|apply aw_1
 conv=>whnf
 refine ⟨?_,trivial⟩
|apply zT rfl rfl
 . conv=>lhs;whnf
 . conv=>lhs;whnf
 . first | exact bT1 ‹_› | exact bT2 ‹_›
|apply zQ rfl rfl
 . conv=>lhs;whnf
 . conv=>lhs;whnf
 . first | exact bF1 ‹_› | exact bF2 ‹_›
|apply s_1
 conv=>whnf;arg 1;arg 4;arg 3;whnf
 refine ⟨?_,?_⟩
|apply zAA rfl rfl rfl rfl
 . conv=>lhs;whnf;arg 1;whnf
 . rfl
|apply zF rfl
 . conv=>lhs;whnf
 . conv=>lhs;whnf
 . first | rfl | assumption
 . conv=>lhs;whnf;arg 2;whnf
|apply zX rfl
 . conv=>lhs;whnf
 . conv=>lhs;whnf
 . first | rfl | assumption
|apply zC rfl
 . conv=>lhs;whnf
 . conv=>lhs;whnf
 . conv=>lhs;whnf;arg 2;whnf
|refine zE ?_
|refine ⟨_,by conv=>lhs;whnf;arg 2;whnf,?_⟩;conv=>rhs;whnf
|exact trivial
|intro hg)
 all_goals
  refine congrArg (fun b=>V.c (.bool b)) ?_
  clear he
  simp only [hT,z3,z4] at *
  clear hT z3 z4
  generalize ((d.f 2).s.data.toList==[])=t at *
  generalize decide ((d.f 3).l.length=0)=b0 at *
  generalize decide ((d.f 4).l.length=0)=a0 at *
  simp_all
noncomputable def HClF (d:D) (i:Nat):Vst 21:=stS 21 [(1,.bx 1 0),(3,.c (.int .i64 (i:Int)))] [(1,.box 53 (cellsV Tryz.prog 12 53 d))]
theorem zGp : ∀ (k:Nat) (d:D),Dp k d->AC EN Tryz.prog 136 [.agg (cellsV Tryz.prog 12 53 d)] (.c (.bool (bareR k d)))
 |0,_,h=>h.elim
 |k+1,d,h=>by
  refine zA9 2 (by kernel_rfl) fun hL => ?_
  have hl:(d.f 3).l.length<=9223372036854775807:=(zBB hL).1
  clear hL
  have ih:=fun i (hi:i<(d.f 3).l.length)=>zGp k (gD (d.f 3).l i) (h i hi)
  have hR:bareR (k+1) d=(zAM (bareR k) (d.f 3).l (d.f 3).l.length 0 && !((d.f 0).n==7)):=by rw [zFv,Bool.and_comm];rfl
  generalize bareR (k+1) d=R at hR |-
  refine zN 21 Tryz.func136 rfl rfl rfl rfl ?_
  intro s w he
  repeat' (first
|refine zA ?_
|refine zB ?_
|refine zK ?_
|apply aw_1
 conv=>whnf
 refine ⟨?_,trivial⟩
|apply s_1
 conv=>whnf;arg 1;arg 4;arg 3;whnf
 refine ⟨?_,?_⟩
|apply zAA rfl rfl rfl rfl
 . conv=>lhs;whnf;arg 1;whnf
 . rfl
|exact trivial)
  refine za (fun j st => ∃ i,i+j=(d.f 3).l.length/\R=(zAM (bareR k) (d.f 3).l j i && !((d.f 0).n==7))/\Sub (cx EN Tryz.prog s w he) st (HClF d i)) (d.f 3).l.length ⟨0,by omega,hR,Sub.live ⟨rfl,rfl,trivial⟩ ⟨rfl,trivial⟩⟩ ?_
  clear hR
  rintro j st ⟨i,hij,hR,hs2⟩
  refine zi hs2 ?_
  clear hs2
  by_cases hi:i<(d.f 3).l.length
  . obtain ⟨j,rfl⟩ : ∃ q,j=q+1:=⟨j-1,by omega⟩
    have f1:decide ((i:Int)<((d.f 3).l.length:Nat))=true:=decide_eq_true (by omega)
    have hR':R=(bareR k (gD (d.f 3).l i)&&zAM (bareR k) (d.f 3).l j (i+1) && !((d.f 0).n==7)):=hR
    have ih2:=ih i hi
    repeat' (first
|apply zG
 . conv=>lhs;whnf
 . assumption
|refine zA ?_
|refine zB ?_
|refine zK ?_
|refine zP ?_
|apply aw_1
 conv=>whnf
 refine ⟨?_,trivial⟩
|apply s_1
 conv=>whnf;arg 1;arg 4;arg 3;whnf
 refine ⟨?_,?_⟩
|apply zb rfl
 . conv=>lhs;whnf
 . conv=>lhs;whnf
 . first | exact ih2
|refine zZ (by conv=>lhs;whnf) ?_ ?_<;>intro hb
|refine zM ?_
|refine zO ?_
|refine zh ?_
|refine zE ?_
|refine ⟨_,by conv=>lhs;whnf;arg 2;whnf,?_⟩;conv=>rhs;whnf
|exact trivial)
    all_goals first
     |exact zS (by omega)
     |exact zu hi
     |(have e:bareR k (gD (d.f 3).l i)=false:=by simpa using (by assumption:(!bareR k (gD (d.f 3).l i))=true)
       rw [hR',e];rfl)
     |(have e:bareR k (gD (d.f 3).l i)=true:=by simpa using (by assumption:(!bareR k (gD (d.f 3).l i))=false)
       exact zH (j':=j) (by omega) ⟨i+1,by omega,by rw [hR',e,Bool.true_and],Sub.live ⟨rfl,rfl,trivial⟩ ⟨rfl,trivial⟩⟩)
     |skip
  . obtain rfl:j=0:=by omega
    have f1:decide ((i:Int)<((d.f 3).l.length:Nat))=false:=decide_eq_false (by omega)
    repeat' (first
|apply zD
 . conv=>lhs;whnf
 . assumption
|refine zA ?_
|refine zB ?_
|refine zK ?_
|apply aw_1
 conv=>whnf
 refine ⟨?_,trivial⟩
|apply s_1
 conv=>whnf;arg 1;arg 4;arg 3;whnf
 refine ⟨?_,?_⟩
|refine zL ?_
|refine zJ rfl ?_
|refine zI ?_
|refine zE ?_
|refine ⟨_,by conv=>lhs;whnf;arg 2;whnf,?_⟩;conv=>rhs;whnf
|exact trivial)
    rw [hR,zAM,Bool.true_and];rfl
theorem zFo (d:D):AC EN Tryz.prog 136 [.agg (cellsV Tryz.prog 12 53 d)] (.c (.bool (bareR (bulkD d) d))):=zGp _ d (zBP (bulkD d) d (Nat.le_refl _))
noncomputable def HTfU (d:D) (i:Nat):Vst 54:=stS 54 [(1,.bx 1 0),(3,.c (.int .i64 (i:Int)))] [(1,.box 48 (cellsV Tryz.prog 12 48 d))]
theorem zKe (d:D):AC EN Tryz.prog 137 [.agg (cellsV Tryz.prog 12 48 d)] (.c (.bool (refR d))):=by
 refine zA9 2 (by kernel_rfl) fun hL2 => ?_
 have hl:(d.f 1).l.length<=9223372036854775807:=len_ref hL2
 clear hL2
 have hn:=zAl (d.f 0).s
 have hR:refR d=(nameB (d.f 0).s&&decide ((d.f 1).l.length<=24)&&wrapsI (d.f 1).l (d.f 1).l.length 0):=by rw [zGt];rfl
 generalize refR d=R at hR |-
 have e:decide (((d.f 1).l.length:Int)>24) = !decide ((d.f 1).l.length<=24):=by
  rw [Bool.eq_iff_iff]
  simp only [decide_eq_true_eq,Bool.not_eq_true',decide_eq_false_iff_not]
  omega
 refine zN 54 Tryz.func137 rfl rfl rfl rfl ?_
 intro s w he
 repeat' (first
|refine zA ?_
|refine zB ?_
|refine zK ?_
|apply aw_1
 conv=>whnf
 refine ⟨?_,trivial⟩
|apply zT rfl rfl
 . conv=>lhs;whnf
 . conv=>lhs;whnf
 . first | exact bT1 ‹_› | exact bT2 ‹_›
|apply zQ rfl rfl
 . conv=>lhs;whnf
 . conv=>lhs;whnf
 . first | exact bF1 ‹_› | exact bF2 ‹_›
|apply s_1
 conv=>whnf;arg 1;arg 4;arg 3;whnf
 refine ⟨?_,?_⟩
|apply zb rfl
 . conv=>lhs;whnf
 . conv=>lhs;whnf
 . first | exact hn
|apply zAA rfl rfl rfl rfl
 . conv=>lhs;whnf;arg 1;whnf
 . rfl
|apply zF rfl
 . conv=>lhs;whnf
 . conv=>lhs;whnf
 . first | rfl | assumption
 . conv=>lhs;whnf;arg 2;whnf
|apply zX rfl
 . conv=>lhs;whnf
 . conv=>lhs;whnf
 . first | rfl | assumption
|apply zC rfl
 . conv=>lhs;whnf
 . conv=>lhs;whnf
 . conv=>lhs;whnf;arg 2;whnf
|refine zZ (by conv=>lhs;whnf) ?_ ?_<;>intro hb
|refine zM ?_
|refine zE ?_
|refine ⟨_,by conv=>lhs;whnf;arg 2;whnf,?_⟩;conv=>rhs;whnf
|exact trivial
|intro hg)
 . simp_all
   intros
   omega
 . have hR2:R=wrapsI (d.f 1).l (d.f 1).l.length 0:=by simp_all
   clear hR hn
   refine za (fun j st => ∃ i,i+j=(d.f 1).l.length/\R=wrapsI (d.f 1).l j i/\Sub (cx EN Tryz.prog s w he) st (HTfU d i)) (d.f 1).l.length ⟨0,by omega,hR2,Sub.live ⟨rfl,rfl,trivial⟩ ⟨rfl,trivial⟩⟩ ?_
   clear hR2 hg hb e
   rintro j st ⟨i,hij,hR,hs2⟩
   refine zi hs2 ?_
   clear hs2
   by_cases hi:i<(d.f 1).l.length
   . obtain ⟨j,rfl⟩ : ∃ q,j=q+1:=⟨j-1,by omega⟩
     have f1:decide ((i:Int)<((d.f 1).l.length:Nat))=true:=decide_eq_true (by omega)
     have e1:decide ((i:Int)>0)=decide (0<i):=decide_eq_decide.2 (by omega)
     have eT:((i:Int)-1).toNat=i-1:=by omega
     have hR':R=(((gD (d.f (0+1)).l (i:Int).toNat).n==1||(gD (d.f (0+1)).l (i:Int).toNat).n==2) && !((gD (d.f (0+1)).l (i:Int).toNat).n==1&&decide ((i:Int)>0)&&((gD (d.f (0+1)).l ((i:Int)-1).toNat).n==(gD (d.f (0+1)).l (i:Int).toNat).n))&&wrapsI (d.f 1).l j (i+1)):=by
      rw [hR,e1,eT,Int.toNat_natCast];rfl
     clear hR e1
     repeat' (first
|apply zG
 . conv=>lhs;whnf
 . assumption
|refine zA ?_
|refine zB ?_
|refine zK ?_
|refine zP ?_
|apply aw_1
 conv=>whnf
 refine ⟨?_,trivial⟩
|apply zT rfl rfl
 . conv=>lhs;whnf
 . conv=>lhs;whnf
 . first | exact bT1 ‹_› | exact bT2 ‹_›
|apply zQ rfl rfl
 . conv=>lhs;whnf
 . conv=>lhs;whnf
 . first | exact bF1 ‹_› | exact bF2 ‹_›
|apply s_1
 conv=>whnf;arg 1;arg 4;arg 3;whnf
 refine ⟨?_,?_⟩
|apply zF rfl
 . conv=>lhs;whnf
 . conv=>lhs;whnf
 . first | rfl | assumption
 . conv=>lhs;whnf;arg 2;whnf
|apply zX rfl
 . conv=>lhs;whnf
 . conv=>lhs;whnf
 . first | rfl | assumption
|apply zC rfl
 . conv=>lhs;whnf
 . conv=>lhs;whnf
 . conv=>lhs;whnf;arg 2;whnf
|refine zZ (by conv=>lhs;whnf) ?_ ?_<;>intro hb
|refine zM ?_
|refine zO ?_
|refine zh ?_
|refine zE ?_
|refine ⟨_,by conv=>lhs;whnf;arg 2;whnf,?_⟩;conv=>rhs;whnf
|exact trivial
|intro hg)
     all_goals first
      |exact zS (by omega)
      |exact zu hi
      |(have h0:(i:Int)>0:=by simp_all
        exact (show 0<=(i:Int)-1/\(i:Int)-1<(((d.f 1).l.length:Nat):Int) from ⟨by omega,by omega⟩))
      |(have h0:(i:Int)>0:=by simp_all
        exact zS (by omega))
      |(have hN:R=wrapsI (d.f 1).l j (i+1):=by simp_all
        exact zH (j':=j) (by omega) ⟨i+1,by omega,hN,Sub.live ⟨rfl,rfl,trivial⟩ ⟨rfl,trivial⟩⟩)
      |skip
     all_goals
      refine congrArg (fun b=>V.c (.bool b)) ?_
      clear eT f1 hi hij he
      simp_all
   . obtain rfl:j=0:=by omega
     have f1:decide ((i:Int)<((d.f 1).l.length:Nat))=false:=decide_eq_false (by omega)
     repeat' (first
|apply zD
 . conv=>lhs;whnf
 . assumption
|refine zA ?_
|refine zB ?_
|refine zK ?_
|apply aw_1
 conv=>whnf
 refine ⟨?_,trivial⟩
|apply s_1
 conv=>whnf;arg 1;arg 4;arg 3;whnf
 refine ⟨?_,?_⟩
|refine zL ?_
|refine zJ rfl ?_
|refine zI ?_
|refine zE ?_
|refine ⟨_,by conv=>lhs;whnf;arg 2;whnf,?_⟩;conv=>rhs;whnf
|exact trivial)
     rw [hR];rfl
 . simp_all
noncomputable def HdFU (l:List D) (i:Nat):Vst 65:=stS 65 [(0,.sl 108 l),(3,.c (.int .i64 (i:Int)))] []
noncomputable def HdGU (l:List D) (i k:Nat):Vst 65:=stS 65 [(0,.sl 108 l),(3,.c (.int .i64 (i:Int))),(4,.c (.int .i64 (k:Int)))] []
theorem zDw (l:List D):AC EN Tryz.prog 73 [.sl 108 l] (.c (.bool (dirsY litW l))):=by
 refine zDL 2 fun hL2 => ?_
 have hl:l.length<=9223372036854775807:=hL2.1
 have hla : ∀ i,i<l.length->((gD l i).f 1).l.length<=9223372036854775807:=fun i hi=>zHV (hL2.2 (by decide +kernel) i hi)
 clear hL2
 by_cases h16:16<l.length
 . have f0:decide ((l.length:Int)>16)=true:=decide_eq_true (by omega)
   rw [show dirsY litW l=false by unfold dirsY;rw [decide_eq_false (by omega)];rfl]
   refine zN 65 Tryz.func73 rfl rfl rfl rfl ?_
   intro s w he
   repeat' (first
|apply zG
 . conv=>lhs;whnf
 . assumption
|refine zA ?_
|refine zB ?_
|refine zK ?_
|apply aw_1
 conv=>whnf
 refine ⟨?_,trivial⟩
|apply s_1
 conv=>whnf;arg 1;arg 4;arg 3;whnf
 refine ⟨?_,?_⟩
|refine zM ?_
|refine zE ?_
|refine ⟨_,by conv=>lhs;whnf;arg 2;whnf,?_⟩;conv=>rhs;whnf
|exact trivial)
 have f0:decide ((l.length:Int)>16)=false:=decide_eq_false (by omega)
 have hR:dirsY litW l=zAM (dirY litW) l l.length 0:=by unfold dirsY;rw [decide_eq_true (by omega),zA5,Bool.true_and]
 generalize dirsY litW l=R at hR |-
 refine zN 65 Tryz.func73 rfl rfl rfl rfl ?_
 intro s w he
 repeat' (first
|apply zD
 . conv=>lhs;whnf
 . assumption
|refine zA ?_
|refine zB ?_
|refine zK ?_
|apply aw_1
 conv=>whnf
 refine ⟨?_,trivial⟩
|apply s_1
 conv=>whnf;arg 1;arg 4;arg 3;whnf
 refine ⟨?_,?_⟩
|exact trivial)
 refine za (fun j st => ∃ i,i+j=l.length/\R=zAM (dirY litW) l j i/\Sub (cx EN Tryz.prog s w he) st (HdFU l i)) l.length ⟨0,by omega,hR,Sub.live ⟨rfl,rfl,trivial⟩ trivial⟩ ?_
 clear hR
 rintro j st ⟨i,hij,hR,hs2⟩
 refine zi hs2 ?_
 clear hs2
 by_cases hi:i<l.length
 . obtain ⟨j,rfl⟩ : ∃ q,j=q+1:=⟨j-1,by omega⟩
   have f1:decide ((i:Int)<(l.length:Nat))=true:=decide_eq_true (by omega)
   have hR':R=(dirY litW (gD l i)&&zAM (dirY litW) l j (i+1)):=hR
   clear hR
   have ha:=hla i hi
   have h1:=zAl ((gD l i).f 0).s
   cases hnb:nameB ((gD l i).f 0).s with
   |false =>
    have e:dirY litW (gD l i)=false:=by unfold dirY;rw [hnb];rfl
    have hRf:R=false:=by rw [hR',e];rfl
    rw [hRf]
    rw [hnb] at h1
    have K:((!false)==false)=true->False:=by decide
    repeat' (first
|apply zG
 . conv=>lhs;whnf
 . assumption
|refine zA ?_
|refine zB ?_
|refine zK ?_
|apply aw_1
 conv=>whnf
 refine ⟨?_,trivial⟩
|apply s_1
 conv=>whnf;arg 1;arg 4;arg 3;whnf
 refine ⟨?_,?_⟩
|apply zb rfl
 . conv=>lhs;whnf
 . conv=>lhs;whnf
 . first | exact h1
|refine zM ?_
|refine zO ?_
|refine zh ?_
|refine zE ?_
|refine ⟨_,by conv=>lhs;whnf;arg 2;whnf,?_⟩;conv=>rhs;whnf
|exact trivial)
    all_goals first
     |exact zS (by omega)
     |exact zu hi
     |rfl
     |skip
   |true =>
    rw [hnb] at h1
    have K:((!true)==false)=false->False:=by decide
    by_cases h16:16<((gD l i).f 1).l.length
    . have f4:decide ((((gD l i).f 1).l.length:Int)>16)=true:=decide_eq_true (by omega)
      have e:dirY litW (gD l i)=false:=by unfold dirY zEf;rw [decide_eq_false (by omega)];simp
      have hRf:R=false:=by rw [hR',e];rfl
      rw [hRf]
      repeat' (first
|apply zG
 . conv=>lhs;whnf
 . assumption
|refine zA ?_
|refine zB ?_
|refine zK ?_
|apply aw_1
 conv=>whnf
 refine ⟨?_,trivial⟩
|apply s_1
 conv=>whnf;arg 1;arg 4;arg 3;whnf
 refine ⟨?_,?_⟩
|apply zb rfl
 . conv=>lhs;whnf
 . conv=>lhs;whnf
 . first | exact h1
|refine zM ?_
|refine zO ?_
|refine zh ?_
|refine zE ?_
|refine ⟨_,by conv=>lhs;whnf;arg 2;whnf,?_⟩;conv=>rhs;whnf
|exact trivial)
      all_goals first
       |exact zS (by omega)
       |exact zu hi
       |rfl
       |skip
    . have f4:decide ((((gD l i).f 1).l.length:Int)>16)=false:=decide_eq_false (by omega)
      have e:dirY litW (gD l i)=zAM (argY litW) ((gD l i).f 1).l ((gD l i).f 1).l.length 0:=by
       unfold dirY zEf;rw [hnb,decide_eq_true (by omega),zA5,Bool.true_and,Bool.true_and]
      rw [e] at hR'
      clear e
      repeat' (first
|apply zG
 . conv=>lhs;whnf
 . assumption
|apply zD
 . conv=>lhs;whnf
 . assumption
|refine zA ?_
|refine zB ?_
|refine zK ?_
|apply aw_1
 conv=>whnf
 refine ⟨?_,trivial⟩
|apply s_1
 conv=>whnf;arg 1;arg 4;arg 3;whnf
 refine ⟨?_,?_⟩
|apply zb rfl
 . conv=>lhs;whnf
 . conv=>lhs;whnf
 . first | exact h1
|exact trivial)
      all_goals first
       |exact zS (by omega)
       |exact zu hi
       |skip
      clear h1 K f4
      refine za (fun jj st => ∃ k,k+jj=((gD l i).f 1).l.length/\R=(zAM (argY litW) ((gD l i).f 1).l jj k&&zAM (dirY litW) l j (i+1))/\Sub (cx EN Tryz.prog s w he) st (HdGU l i k)) ((gD l i).f 1).l.length ⟨0,by omega,hR',Sub.live ⟨rfl,rfl,rfl,trivial⟩ trivial⟩ ?_
      clear hR'
      rintro jj st2 ⟨k,hkj,hR,hs3⟩
      refine zi hs3 ?_
      clear hs3
      by_cases hk:k<((gD l i).f 1).l.length
      . obtain ⟨jj,rfl⟩ : ∃ q,jj=q+1:=⟨jj-1,by omega⟩
        have f2:decide ((k:Int)<(((gD l i).f 1).l.length:Nat))=true:=decide_eq_true (by omega)
        have hR':R=(argY litW (gD ((gD l i).f 1).l k)&&zAM (argY litW) ((gD l i).f 1).l jj (k+1)&&zAM (dirY litW) l j (i+1)):=hR
        clear hR
        have e:argY litW (gD ((gD l i).f 1).l k)=(nameB ((gD ((gD l i).f 1).l k).f 0).s&&(litW ((gD ((gD l i).f 1).l k).f 1)&&bareR (bulkD ((gD ((gD l i).f 1).l k).f 1)) ((gD ((gD l i).f 1).l k).f 1))):=rfl
        have q1:=zAl ((gD ((gD l i).f 1).l k).f 0).s
        have q2:=zKw ((gD ((gD l i).f 1).l k).f 1)
        have q3:=zFo ((gD ((gD l i).f 1).l k).f 1)
        generalize nameB ((gD ((gD l i).f 1).l k).f 0).s=a at q1 e
        generalize litW ((gD ((gD l i).f 1).l k).f 1)=b at q2 e
        generalize bareR (bulkD ((gD ((gD l i).f 1).l k).f 1)) ((gD ((gD l i).f 1).l k).f 1)=c at q3 e
        repeat' (first
|apply zG
 . conv=>lhs;whnf
 . assumption
|refine zA ?_
|refine zB ?_
|refine zK ?_
|refine zP ?_
|apply aw_1
 conv=>whnf
 refine ⟨?_,trivial⟩
|apply zT rfl rfl
 . conv=>lhs;whnf
 . conv=>lhs;whnf
 . first | exact bT1 ‹_› | exact bT2 ‹_›
|apply zQ rfl rfl
 . conv=>lhs;whnf
 . conv=>lhs;whnf
 . first | exact bF1 ‹_› | exact bF2 ‹_›
|apply s_1
 conv=>whnf;arg 1;arg 4;arg 3;whnf
 refine ⟨?_,?_⟩
|apply zb rfl
 . conv=>lhs;whnf
 . conv=>lhs;whnf
 . first | exact q1 | exact q2 | exact q3
|apply zV rfl rfl rfl
 . conv=>lhs;whnf
 . conv=>lhs;whnf;arg 1;whnf
 . conv=>lhs;whnf;arg 1;whnf
 . exact ⟨by kernel_rfl,by kernel_rfl⟩
 . rfl
|apply zF rfl
 . conv=>lhs;whnf
 . conv=>lhs;whnf
 . first | rfl | assumption
 . conv=>lhs;whnf;arg 2;whnf
|apply zU rfl
 . conv=>lhs;whnf
 . conv=>lhs;whnf
 . first | rfl | assumption
 . conv=>lhs;whnf
 . first | exact q1 | exact q2 | exact q3
|apply zX rfl
 . conv=>lhs;whnf
 . conv=>lhs;whnf
 . first | rfl | assumption
|apply zC rfl
 . conv=>lhs;whnf
 . conv=>lhs;whnf
 . conv=>lhs;whnf;arg 2;whnf
|refine zZ (by conv=>lhs;whnf) ?_ ?_<;>intro hb
|refine zM ?_
|refine zO ?_
|refine zh ?_
|refine zE ?_
|refine ⟨_,by conv=>lhs;whnf;arg 2;whnf,?_⟩;conv=>rhs;whnf
|exact trivial
|intro hg)
        all_goals first
         |exact zS (by omega)
         |exact zu hi
         |exact zu hk
         |(have e2:argY litW (gD ((gD l i).f 1).l k)=false:=by
            rw [e];clear q1 q2 q3 e hR' he;cases a<;>cases b<;>cases c<;>simp_all
           rw [hR',e2];rfl)
         |(have e2:argY litW (gD ((gD l i).f 1).l k)=true:=by
            rw [e];clear q1 q2 q3 e hR' he;cases a<;>cases b<;>cases c<;>simp_all
           exact zH (j':=jj) (by omega) ⟨k+1,by omega,by rw [hR',e2,Bool.true_and],Sub.live ⟨rfl,rfl,rfl,trivial⟩ trivial⟩)
         |skip
      . obtain rfl:jj=0:=by omega
        have f2:decide ((k:Int)<(((gD l i).f 1).l.length:Nat))=false:=decide_eq_false (by omega)
        have hR':R=zAM (dirY litW) l j (i+1):=by rw [hR,zAM,Bool.true_and]
        repeat' (first
|apply zD
 . conv=>lhs;whnf
 . assumption
|refine zA ?_
|refine zB ?_
|refine zK ?_
|refine zP ?_
|apply aw_1
 conv=>whnf
 refine ⟨?_,trivial⟩
|apply s_1
 conv=>whnf;arg 1;arg 4;arg 3;whnf
 refine ⟨?_,?_⟩
|refine zL ?_
|refine zJ rfl ?_
|refine zI ?_
|exact trivial)
        all_goals first
         |exact zS (by omega)
         |exact zu hi
         |exact zH (j':=j) (by omega) ⟨i+1,by omega,hR',Sub.live ⟨rfl,rfl,trivial⟩ trivial⟩
         |skip
 . obtain rfl:j=0:=by omega
   have f1:decide ((i:Int)<(l.length:Nat))=false:=decide_eq_false (by omega)
   repeat' (first
|apply zD
 . conv=>lhs;whnf
 . assumption
|refine zA ?_
|refine zB ?_
|refine zK ?_
|apply aw_1
 conv=>whnf
 refine ⟨?_,trivial⟩
|apply s_1
 conv=>whnf;arg 1;arg 4;arg 3;whnf
 refine ⟨?_,?_⟩
|refine zL ?_
|refine zJ rfl ?_
|refine zI ?_
|refine zE ?_
|refine ⟨_,by conv=>lhs;whnf;arg 2;whnf,?_⟩;conv=>rhs;whnf
|exact trivial)
   rw [hR];rfl
end
section
open Go.RowKit
set_option linter.unusedSectionVars false
theorem inY_eq (x:D):inY litW x=(nameB (x.f 0).s&&refR (x.f 1)&&dirsY litW (x.f 4).l&&(if (x.f 2).b=true then litW (x.f 3)&&bareR (bulkD (x.f 3)) (x.f 3) else nullB (x.f 3))):=by
 unfold inY
 rw [null_valW]
 cases (x.f 2).b<;>simp [valY,Bool.and_assoc]
attribute [local irreducible] wpList Calls Code.wp AW AWo OpOk seqK zq zt loopK endK AC zg Yld Sub
attribute [local irreducible] ACB ACX ACE absLexG YldG absLexH
noncomputable def HinsFU (l:List D) (i:Nat):Vst 59:=stS 59 [(0,.sl 55 l),(3,.c (.int .i64 (i:Int)))] []
theorem zK7 (l:List D):AC EN Tryz.prog 76 [.sl 55 l] (.c (.bool (insY litW l))):=by
 refine zDL 1 fun hL2 => ?_
 have hl:l.length<=9223372036854775807:=hL2.1
 clear hL2
 by_cases hbig:16<l.length
 . have f0:decide ((l.length:Int)>16)=true:=decide_eq_true (by omega)
   rw [show (insY litW l)=false by unfold insY;rw [decide_eq_false (show ¬ l.length<=16 by omega)];simp]
   refine zN 59 Tryz.func76 rfl rfl rfl rfl ?_
   intro s w he
   repeat' (first
|apply zG
 . conv=>lhs;whnf
 . assumption
|refine zA ?_
|refine zB ?_
|refine zK ?_
|apply aw_1
 conv=>whnf
 refine ⟨?_,trivial⟩
|apply s_1
 conv=>whnf;arg 1;arg 4;arg 3;whnf
 refine ⟨?_,?_⟩
|refine zM ?_
|refine zE ?_
|refine ⟨_,by conv=>lhs;whnf;arg 2;whnf,?_⟩;conv=>rhs;whnf
|exact trivial)
   all_goals first
    |rfl
    |skip
 have f0:decide ((l.length:Int)>16)=false:=decide_eq_false (by omega)
 have hR:(insY litW l)=zAM (inY litW) l l.length 0:=by unfold insY;rw [decide_eq_true (show l.length<=16 by omega),zA5,Bool.true_and]
 generalize (insY litW l)=R at hR |-
 refine zN 59 Tryz.func76 rfl rfl rfl rfl ?_
 intro s w he
 repeat' (first
|apply zD
 . conv=>lhs;whnf
 . assumption
|refine zA ?_
|refine zB ?_
|refine zK ?_
|apply aw_1
 conv=>whnf
 refine ⟨?_,trivial⟩
|apply s_1
 conv=>whnf;arg 1;arg 4;arg 3;whnf
 refine ⟨?_,?_⟩
|exact trivial)
 refine za (fun j st => ∃ i,i+j=l.length/\R=zAM (inY litW) l j i/\Sub (cx EN Tryz.prog s w he) st (HinsFU l i)) l.length ⟨0,by omega,hR,Sub.live ⟨rfl,rfl,trivial⟩ trivial⟩ ?_
 clear hR f0
 rintro j st ⟨i,hij,hR,hs2⟩
 refine zi hs2 ?_
 clear hs2
 by_cases hi:i<l.length
 . obtain ⟨j,rfl⟩ : ∃ q,j=q+1:=⟨j-1,by omega⟩
   have f1:decide ((i:Int)<(l.length:Nat))=true:=decide_eq_true (by omega)
   have hR':R=(inY litW (gD l i)&&zAM (inY litW) l j (i+1)):=hR
   clear hR
   have h1:=zAl ((gD l i).f 0).s
   have h2:=zKe ((gD l i).f 1)
   have h3:=zDw ((gD l i).f 4).l
   have h4:=zKw ((gD l i).f 3)
   have h5:=zFo ((gD l i).f 3)
   have h6:=nullF_ac ((gD l i).f 3)
   have e:inY litW (gD l i)=(nameB ((gD l i).f 0).s&&refR ((gD l i).f 1)&&dirsY litW ((gD l i).f 4).l&&(if ((gD l i).f 2).b=true then litW ((gD l i).f 3)&&bareR (bulkD ((gD l i).f 3)) ((gD l i).f 3) else nullB ((gD l i).f 3))):=inY_eq _
   generalize nameB ((gD l i).f 0).s=a at h1 e
   generalize refR ((gD l i).f 1)=b at h2 e
   generalize dirsY litW ((gD l i).f 4).l=c at h3 e
   generalize litW ((gD l i).f 3)=v at h4 e
   generalize bareR (bulkD ((gD l i).f 3)) ((gD l i).f 3)=w2 at h5 e
   generalize nullB ((gD l i).f 3)=nu at h6 e
   repeat' (first
|apply zAK rfl rfl rfl
 . conv=>lhs;whnf
 . first | rfl | assumption
 . conv=>lhs;whnf
 . first | exact bT1 ‹_› | exact bT2 ‹_› | rfl
|apply zAH rfl rfl rfl
 . conv=>lhs;whnf
 . first | rfl | assumption
 . conv=>lhs;whnf
 . first | exact bF1 ‹_› | exact bF2 ‹_› | rfl
|apply zG
 . conv=>lhs;whnf
 . assumption
|refine zA ?_
|refine zB ?_
|refine zK ?_
|refine zP ?_
|apply aw_1
 conv=>whnf
 refine ⟨?_,trivial⟩
|apply zT rfl rfl
 . conv=>lhs;whnf
 . conv=>lhs;whnf
 . first | exact bT1 ‹_› | exact bT2 ‹_›
|apply zQ rfl rfl
 . conv=>lhs;whnf
 . conv=>lhs;whnf
 . first | exact bF1 ‹_› | exact bF2 ‹_›
|apply s_1
 conv=>whnf;arg 1;arg 4;arg 3;whnf
 refine ⟨?_,?_⟩
|apply zb rfl
 . conv=>lhs;whnf
 . conv=>lhs;whnf
 . first | exact h1 | exact h2 | exact h3 | exact h4 | exact h5 | exact h6
|apply zV rfl rfl rfl
 . conv=>lhs;whnf
 . conv=>lhs;whnf;arg 1;whnf
 . conv=>lhs;whnf;arg 1;whnf
 . exact ⟨by kernel_rfl,by kernel_rfl⟩
 . rfl
|apply zF rfl
 . conv=>lhs;whnf
 . conv=>lhs;whnf
 . first | rfl | assumption
 . conv=>lhs;whnf;arg 2;whnf
|apply zU rfl
 . conv=>lhs;whnf
 . conv=>lhs;whnf
 . first | rfl | assumption
 . conv=>lhs;whnf
 . first | exact h1 | exact h2 | exact h3 | exact h4 | exact h5 | exact h6
|apply zX rfl
 . conv=>lhs;whnf
 . conv=>lhs;whnf
 . first | rfl | assumption
|apply zC rfl
 . conv=>lhs;whnf
 . conv=>lhs;whnf
 . conv=>lhs;whnf;arg 2;whnf
|refine zZ (by conv=>lhs;whnf) ?_ ?_<;>intro hb
|refine zM ?_
|refine zO ?_
|refine zh ?_
|refine zE ?_
|refine ⟨_,by conv=>lhs;whnf;arg 2;whnf,?_⟩;conv=>rhs;whnf
|exact trivial
|intro hg)
   all_goals first
    |exact zS (by omega)
    |exact zu hi
    |(have e2:inY litW (gD l i)=false:=by
       rw [e];clear e hR' he
       simp_all
      rw [hR',e2];rfl)
    |(have e2:inY litW (gD l i)=true:=by
       rw [e];clear e hR' he
       simp_all
      exact zH (j':=j) (by omega) ⟨i+1,by omega,by rw [hR',e2,Bool.true_and],Sub.live ⟨rfl,rfl,trivial⟩ trivial⟩)
    |skip
 . obtain rfl:j=0:=by omega
   have f1:decide ((i:Int)<(l.length:Nat))=false:=decide_eq_false (by omega)
   repeat' (first
|apply zD
 . conv=>lhs;whnf
 . assumption
|refine zA ?_
|refine zB ?_
|refine zK ?_
|apply aw_1
 conv=>whnf
 refine ⟨?_,trivial⟩
|apply s_1
 conv=>whnf;arg 1;arg 4;arg 3;whnf
 refine ⟨?_,?_⟩
|refine zL ?_
|refine zJ rfl ?_
|refine zI ?_
|refine zE ?_
|refine ⟨_,by conv=>lhs;whnf;arg 2;whnf,?_⟩;conv=>rhs;whnf
|exact trivial)
   rw [hR];rfl
noncomputable def HfdsFU (l:List D) (i:Nat):Vst 52:=stS 52 [(0,.sl 50 l),(3,.c (.int .i64 (i:Int)))] []
theorem fdsFU_ac (l:List D):AC EN Tryz.prog 74 [.sl 50 l] (.c (.bool ((!decide (l.length=0))&&fdsY litW l))):=by
 refine zDL 1 fun hL2 => ?_
 have hl:l.length<=9223372036854775807:=hL2.1
 clear hL2
 by_cases h0:l.length=0
 . have f00:decide ((l.length:Int)<1)=true:=decide_eq_true (by omega)
   have K1:(decide ((l.length:Int)<1)==false)=true->False:=fun h=>by rw [f00] at h;cases h
   rw [show ((!decide (l.length=0))&&fdsY litW l)=false by rw [decide_eq_true h0];rfl]
   refine zN 52 Tryz.func74 rfl rfl rfl rfl ?_
   intro s w he
   repeat' (first
|exact (K1 ‹_›).elim
|refine zA ?_
|refine zB ?_
|refine zK ?_
|apply aw_1
 conv=>whnf
 refine ⟨?_,trivial⟩
|apply zT rfl rfl
 . conv=>lhs;whnf
 . conv=>lhs;whnf
 . first | exact bT1 ‹_› | exact bT2 ‹_›
|apply s_1
 conv=>whnf;arg 1;arg 4;arg 3;whnf
 refine ⟨?_,?_⟩
|apply zX rfl
 . conv=>lhs;whnf
 . conv=>lhs;whnf
 . first | rfl | assumption
|apply zC rfl
 . conv=>lhs;whnf
 . conv=>lhs;whnf
 . conv=>lhs;whnf;arg 2;whnf
|refine zM ?_
|refine zE ?_
|refine ⟨_,by conv=>lhs;whnf;arg 2;whnf,?_⟩;conv=>rhs;whnf
|exact trivial
|intro hg)
   all_goals first
    |rfl
    |skip
 have f00:decide ((l.length:Int)<1)=false:=decide_eq_false (by omega)
 have K1:(decide ((l.length:Int)<1)==false)=false->False:=fun h=>by rw [f00] at h;cases h
 by_cases hbig:64<l.length
 . have f0:decide ((l.length:Int)>64)=true:=decide_eq_true (by omega)
   rw [show ((!decide (l.length=0))&&fdsY litW l)=false by unfold fdsY;rw [decide_eq_false (show ¬ l.length<=64 by omega)];simp]
   refine zN 52 Tryz.func74 rfl rfl rfl rfl ?_
   intro s w he
   repeat' (first
|apply zG
 . conv=>lhs;whnf
 . assumption
|exact (K1 ‹_›).elim
|refine zA ?_
|refine zB ?_
|refine zK ?_
|apply aw_1
 conv=>whnf
 refine ⟨?_,trivial⟩
|apply zQ rfl rfl
 . conv=>lhs;whnf
 . conv=>lhs;whnf
 . first | exact bF1 ‹_› | exact bF2 ‹_›
|apply s_1
 conv=>whnf;arg 1;arg 4;arg 3;whnf
 refine ⟨?_,?_⟩
|apply zF rfl
 . conv=>lhs;whnf
 . conv=>lhs;whnf
 . first | rfl | assumption
 . conv=>lhs;whnf;arg 2;whnf
|apply zC rfl
 . conv=>lhs;whnf
 . conv=>lhs;whnf
 . conv=>lhs;whnf;arg 2;whnf
|refine zM ?_
|refine zE ?_
|refine ⟨_,by conv=>lhs;whnf;arg 2;whnf,?_⟩;conv=>rhs;whnf
|exact trivial
|intro hg)
   all_goals first
    |rfl
    |skip
 have f0:decide ((l.length:Int)>64)=false:=decide_eq_false (by omega)
 have hR:((!decide (l.length=0))&&fdsY litW l)=zAM (fdY litW) l l.length 0:=by unfold fdsY;rw [decide_eq_true (show l.length<=64 by omega),zA5,Bool.true_and,decide_eq_false h0];rfl
 generalize ((!decide (l.length=0))&&fdsY litW l)=R at hR |-
 refine zN 52 Tryz.func74 rfl rfl rfl rfl ?_
 intro s w he
 repeat' (first
|apply zD
 . conv=>lhs;whnf
 . assumption
|exact (K1 ‹_›).elim
|refine zA ?_
|refine zB ?_
|refine zK ?_
|apply aw_1
 conv=>whnf
 refine ⟨?_,trivial⟩
|apply zQ rfl rfl
 . conv=>lhs;whnf
 . conv=>lhs;whnf
 . first | exact bF1 ‹_› | exact bF2 ‹_›
|apply s_1
 conv=>whnf;arg 1;arg 4;arg 3;whnf
 refine ⟨?_,?_⟩
|apply zF rfl
 . conv=>lhs;whnf
 . conv=>lhs;whnf
 . first | rfl | assumption
 . conv=>lhs;whnf;arg 2;whnf
|apply zC rfl
 . conv=>lhs;whnf
 . conv=>lhs;whnf
 . conv=>lhs;whnf;arg 2;whnf
|exact trivial
|intro hg)
 refine za (fun j st => ∃ i,i+j=l.length/\R=zAM (fdY litW) l j i/\Sub (cx EN Tryz.prog s w he) st (HfdsFU l i)) l.length ⟨0,by omega,hR,Sub.live ⟨rfl,rfl,trivial⟩ trivial⟩ ?_
 clear hR f0 f00 K1
 rintro j st ⟨i,hij,hR,hs2⟩
 refine zi hs2 ?_
 clear hs2
 by_cases hi:i<l.length
 . obtain ⟨j,rfl⟩ : ∃ q,j=q+1:=⟨j-1,by omega⟩
   have f1:decide ((i:Int)<(l.length:Nat))=true:=decide_eq_true (by omega)
   have hR':R=(fdY litW (gD l i)&&zAM (fdY litW) l j (i+1)):=hR
   clear hR
   have h1:=zAl ((gD l i).f 0).s
   have h2:=zK7 ((gD l i).f 1).l
   have h3:=zKe ((gD l i).f 2)
   have h4:=zDw ((gD l i).f 3).l
   have e:fdY litW (gD l i)=(nameB ((gD l i).f 0).s&&insY litW ((gD l i).f 1).l&&refR ((gD l i).f 2)&&dirsY litW ((gD l i).f 3).l):=rfl
   generalize nameB ((gD l i).f 0).s=a at h1 e
   generalize insY litW ((gD l i).f 1).l=b at h2 e
   generalize refR ((gD l i).f 2)=c at h3 e
   generalize dirsY litW ((gD l i).f 3).l=v at h4 e
   repeat' (first
|apply zG
 . conv=>lhs;whnf
 . assumption
|refine zA ?_
|refine zB ?_
|refine zK ?_
|refine zP ?_
|apply aw_1
 conv=>whnf
 refine ⟨?_,trivial⟩
|apply zT rfl rfl
 . conv=>lhs;whnf
 . conv=>lhs;whnf
 . first | exact bT1 ‹_› | exact bT2 ‹_›
|apply zQ rfl rfl
 . conv=>lhs;whnf
 . conv=>lhs;whnf
 . first | exact bF1 ‹_› | exact bF2 ‹_›
|apply s_1
 conv=>whnf;arg 1;arg 4;arg 3;whnf
 refine ⟨?_,?_⟩
|apply zb rfl
 . conv=>lhs;whnf
 . conv=>lhs;whnf
 . first | exact h1 | exact h2 | exact h3 | exact h4
|apply zF rfl
 . conv=>lhs;whnf
 . conv=>lhs;whnf
 . first | rfl | assumption
 . conv=>lhs;whnf;arg 2;whnf
|apply zU rfl
 . conv=>lhs;whnf
 . conv=>lhs;whnf
 . first | rfl | assumption
 . conv=>lhs;whnf
 . first | exact h1 | exact h2 | exact h3 | exact h4
|apply zX rfl
 . conv=>lhs;whnf
 . conv=>lhs;whnf
 . first | rfl | assumption
|apply zC rfl
 . conv=>lhs;whnf
 . conv=>lhs;whnf
 . conv=>lhs;whnf;arg 2;whnf
|refine zZ (by conv=>lhs;whnf) ?_ ?_<;>intro hb
|refine zM ?_
|refine zO ?_
|refine zh ?_
|refine zE ?_
|refine ⟨_,by conv=>lhs;whnf;arg 2;whnf,?_⟩;conv=>rhs;whnf
|exact trivial
|intro hg)
   all_goals first
    |exact zS (by omega)
    |exact zu hi
    |(have e2:fdY litW (gD l i)=false:=by
       rw [e];clear e hR' he
       simp_all
      rw [hR',e2];rfl)
    |(have e2:fdY litW (gD l i)=true:=by
       rw [e];clear e hR' he
       simp_all
      exact zH (j':=j) (by omega) ⟨i+1,by omega,by rw [hR',e2,Bool.true_and],Sub.live ⟨rfl,rfl,trivial⟩ trivial⟩)
    |skip
 . obtain rfl:j=0:=by omega
   have f1:decide ((i:Int)<(l.length:Nat))=false:=decide_eq_false (by omega)
   repeat' (first
|apply zD
 . conv=>lhs;whnf
 . assumption
|refine zA ?_
|refine zB ?_
|refine zK ?_
|apply aw_1
 conv=>whnf
 refine ⟨?_,trivial⟩
|apply s_1
 conv=>whnf;arg 1;arg 4;arg 3;whnf
 refine ⟨?_,?_⟩
|refine zL ?_
|refine zJ rfl ?_
|refine zI ?_
|refine zE ?_
|refine ⟨_,by conv=>lhs;whnf;arg 2;whnf,?_⟩;conv=>rhs;whnf
|exact trivial)
   rw [hR];rfl
noncomputable def HmbsFU (l:List D) (u:Bool) (i:Nat):Vst 48:=stS 48 [(0,.sl 79 l),(1,.c (.bool u)),(5,.c (.int .i64 (i:Int)))] []
theorem zKr (l:List D) (u:Bool):AC EN Tryz.prog 75 [.sl 79 l,.c (.bool u)] (.c (.bool ((!decide (l.length=0))&&mbsY litW u l))):=by
 refine zDL 1 fun hL2 => ?_
 have hl:l.length<=9223372036854775807:=hL2.1
 clear hL2
 by_cases h0:l.length=0
 . have f00:decide ((l.length:Int)<1)=true:=decide_eq_true (by omega)
   have K1:(decide ((l.length:Int)<1)==false)=true->False:=fun h=>by rw [f00] at h;cases h
   rw [show ((!decide (l.length=0))&&mbsY litW u l)=false by rw [decide_eq_true h0];rfl]
   refine zN 48 Tryz.func75 rfl rfl rfl rfl ?_
   intro s w he
   repeat' (first
|exact (K1 ‹_›).elim
|refine zA ?_
|refine zB ?_
|refine zK ?_
|apply aw_1
 conv=>whnf
 refine ⟨?_,trivial⟩
|apply zT rfl rfl
 . conv=>lhs;whnf
 . conv=>lhs;whnf
 . first | exact bT1 ‹_› | exact bT2 ‹_›
|apply s_1
 conv=>whnf;arg 1;arg 4;arg 3;whnf
 refine ⟨?_,?_⟩
|apply zX rfl
 . conv=>lhs;whnf
 . conv=>lhs;whnf
 . first | rfl | assumption
|apply zC rfl
 . conv=>lhs;whnf
 . conv=>lhs;whnf
 . conv=>lhs;whnf;arg 2;whnf
|refine zM ?_
|refine zE ?_
|refine ⟨_,by conv=>lhs;whnf;arg 2;whnf,?_⟩;conv=>rhs;whnf
|exact trivial
|intro hg)
   all_goals first
    |rfl
    |skip
 have f00:decide ((l.length:Int)<1)=false:=decide_eq_false (by omega)
 have K1:(decide ((l.length:Int)<1)==false)=false->False:=fun h=>by rw [f00] at h;cases h
 by_cases hbig:64<l.length
 . have f0:decide ((l.length:Int)>64)=true:=decide_eq_true (by omega)
   rw [show ((!decide (l.length=0))&&mbsY litW u l)=false by unfold mbsY;rw [decide_eq_false (show ¬ l.length<=64 by omega)];simp]
   refine zN 48 Tryz.func75 rfl rfl rfl rfl ?_
   intro s w he
   repeat' (first
|apply zG
 . conv=>lhs;whnf
 . assumption
|exact (K1 ‹_›).elim
|refine zA ?_
|refine zB ?_
|refine zK ?_
|apply aw_1
 conv=>whnf
 refine ⟨?_,trivial⟩
|apply zQ rfl rfl
 . conv=>lhs;whnf
 . conv=>lhs;whnf
 . first | exact bF1 ‹_› | exact bF2 ‹_›
|apply s_1
 conv=>whnf;arg 1;arg 4;arg 3;whnf
 refine ⟨?_,?_⟩
|apply zF rfl
 . conv=>lhs;whnf
 . conv=>lhs;whnf
 . first | rfl | assumption
 . conv=>lhs;whnf;arg 2;whnf
|apply zC rfl
 . conv=>lhs;whnf
 . conv=>lhs;whnf
 . conv=>lhs;whnf;arg 2;whnf
|refine zM ?_
|refine zE ?_
|refine ⟨_,by conv=>lhs;whnf;arg 2;whnf,?_⟩;conv=>rhs;whnf
|exact trivial
|intro hg)
   all_goals first
    |rfl
    |skip
 have f0:decide ((l.length:Int)>64)=false:=decide_eq_false (by omega)
 have hR:((!decide (l.length=0))&&mbsY litW u l)=zAM (mbY litW u) l l.length 0:=by unfold mbsY;rw [decide_eq_true (show l.length<=64 by omega),zA5,Bool.true_and,decide_eq_false h0];rfl
 generalize ((!decide (l.length=0))&&mbsY litW u l)=R at hR |-
 refine zN 48 Tryz.func75 rfl rfl rfl rfl ?_
 intro s w he
 repeat' (first
|apply zD
 . conv=>lhs;whnf
 . assumption
|exact (K1 ‹_›).elim
|refine zA ?_
|refine zB ?_
|refine zK ?_
|apply aw_1
 conv=>whnf
 refine ⟨?_,trivial⟩
|apply zQ rfl rfl
 . conv=>lhs;whnf
 . conv=>lhs;whnf
 . first | exact bF1 ‹_› | exact bF2 ‹_›
|apply s_1
 conv=>whnf;arg 1;arg 4;arg 3;whnf
 refine ⟨?_,?_⟩
|apply zF rfl
 . conv=>lhs;whnf
 . conv=>lhs;whnf
 . first | rfl | assumption
 . conv=>lhs;whnf;arg 2;whnf
|apply zC rfl
 . conv=>lhs;whnf
 . conv=>lhs;whnf
 . conv=>lhs;whnf;arg 2;whnf
|exact trivial
|intro hg)
 refine za (fun j st => ∃ i,i+j=l.length/\R=zAM (mbY litW u) l j i/\Sub (cx EN Tryz.prog s w he) st (HmbsFU l u i)) l.length ⟨0,by omega,hR,Sub.live ⟨rfl,rfl,rfl,trivial⟩ trivial⟩ ?_
 clear hR f0 f00 K1
 rintro j st ⟨i,hij,hR,hs2⟩
 refine zi hs2 ?_
 clear hs2
 by_cases hi:i<l.length
 . obtain ⟨j,rfl⟩ : ∃ q,j=q+1:=⟨j-1,by omega⟩
   have f1:decide ((i:Int)<(l.length:Nat))=true:=decide_eq_true (by omega)
   have hR':R=(mbY litW u (gD l i)&&zAM (mbY litW u) l j (i+1)):=hR
   clear hR
   have h1:=zAl ((gD l i).f 0).s
   have h2:=zDw ((gD l i).f 1).l
   have e:mbY litW u (gD l i)=(nameB ((gD l i).f 0).s&&dirsY litW ((gD l i).f 1).l&&(!u || !decide ((((gD l i).f 1).l.length:Int)>0))):=by
    have hz:decide (((gD l i).f 1).l.length=0) = !(decide ((((gD l i).f 1).l.length:Int)>0)):=by
     by_cases h0:((gD l i).f 1).l.length=0
     . rw [decide_eq_true h0,decide_eq_false (by omega)];rfl
     . rw [decide_eq_false h0,decide_eq_true (by omega)];rfl
    unfold mbY;rw [hz]
   generalize nameB ((gD l i).f 0).s=a at h1 e
   generalize dirsY litW ((gD l i).f 1).l=b at h2 e
   repeat' (first
|apply zAK rfl rfl rfl
 . conv=>lhs;whnf
 . first | rfl | assumption
 . conv=>lhs;whnf
 . first | exact bT1 ‹_› | exact bT2 ‹_› | rfl
|apply zAH rfl rfl rfl
 . conv=>lhs;whnf
 . first | rfl | assumption
 . conv=>lhs;whnf
 . first | exact bF1 ‹_› | exact bF2 ‹_› | rfl
|apply zG
 . conv=>lhs;whnf
 . assumption
|refine zA ?_
|refine zB ?_
|refine zK ?_
|refine zP ?_
|apply aw_1
 conv=>whnf
 refine ⟨?_,trivial⟩
|apply zT rfl rfl
 . conv=>lhs;whnf
 . conv=>lhs;whnf
 . first | exact bT1 ‹_› | exact bT2 ‹_›
|apply zQ rfl rfl
 . conv=>lhs;whnf
 . conv=>lhs;whnf
 . first | exact bF1 ‹_› | exact bF2 ‹_›
|apply s_1
 conv=>whnf;arg 1;arg 4;arg 3;whnf
 refine ⟨?_,?_⟩
|apply zb rfl
 . conv=>lhs;whnf
 . conv=>lhs;whnf
 . first | exact h1 | exact h2
|apply zF rfl
 . conv=>lhs;whnf
 . conv=>lhs;whnf
 . first | rfl | assumption
 . conv=>lhs;whnf;arg 2;whnf
|apply zU rfl
 . conv=>lhs;whnf
 . conv=>lhs;whnf
 . first | rfl | assumption
 . conv=>lhs;whnf
 . first | exact h1 | exact h2
|apply zX rfl
 . conv=>lhs;whnf
 . conv=>lhs;whnf
 . first | rfl | assumption
|apply zC rfl
 . conv=>lhs;whnf
 . conv=>lhs;whnf
 . conv=>lhs;whnf;arg 2;whnf
|refine zZ (by conv=>lhs;whnf) ?_ ?_<;>intro hb
|refine zM ?_
|refine zO ?_
|refine zh ?_
|refine zE ?_
|refine ⟨_,by conv=>lhs;whnf;arg 2;whnf,?_⟩;conv=>rhs;whnf
|exact trivial
|intro hg)
   all_goals first
    |exact zS (by omega)
    |exact zu hi
    |(have e2:mbY litW u (gD l i)=false:=by
       rw [e];clear e hR' he
       simp_all
      rw [hR',e2];rfl)
    |(have e2:mbY litW u (gD l i)=true:=by
       rw [e];clear e hR' he
       simp_all
      exact zH (j':=j) (by omega) ⟨i+1,by omega,by rw [hR',e2,Bool.true_and],Sub.live ⟨rfl,rfl,rfl,trivial⟩ trivial⟩)
    |skip
 . obtain rfl:j=0:=by omega
   have f1:decide ((i:Int)<(l.length:Nat))=false:=decide_eq_false (by omega)
   repeat' (first
|apply zD
 . conv=>lhs;whnf
 . assumption
|refine zA ?_
|refine zB ?_
|refine zK ?_
|apply aw_1
 conv=>whnf
 refine ⟨?_,trivial⟩
|apply s_1
 conv=>whnf;arg 1;arg 4;arg 3;whnf
 refine ⟨?_,?_⟩
|refine zL ?_
|refine zJ rfl ?_
|refine zI ?_
|refine zE ?_
|refine ⟨_,by conv=>lhs;whnf;arg 2;whnf,?_⟩;conv=>rhs;whnf
|exact trivial)
   rw [hR];rfl
end
section
open Go.RowKit
set_option linter.unusedSectionVars false
def defK (d:D):Bool:=
 if (d.f 0).n=1 then ((!decide ((d.f 4).l.length=0))&&fdsY litW (d.f 4).l)&&decide ((d.f 5).l.length=0)&&decide ((d.f 6).l.length=0)
 else if (d.f 0).n=2 then decide ((d.f 2).l.length=0)&&((!decide ((d.f 4).l.length=0))&&fdsY litW (d.f 4).l)&&decide ((d.f 5).l.length=0)&&decide ((d.f 6).l.length=0)
 else if (d.f 0).n=3 then decide ((d.f 2).l.length=0)&&decide ((d.f 4).l.length=0)&&((!decide ((d.f 5).l.length=0))&&mbsY litW true (d.f 5).l)&&decide ((d.f 6).l.length=0)
 else if (d.f 0).n=4 then decide ((d.f 2).l.length=0)&&decide ((d.f 4).l.length=0)&&((!decide ((d.f 5).l.length=0))&&mbsY litW false (d.f 5).l)&&decide ((d.f 6).l.length=0)
 else if (d.f 0).n=5 then decide ((d.f 2).l.length=0)&&decide ((d.f 4).l.length=0)&&decide ((d.f 5).l.length=0)&&(!decide ((d.f 6).l.length=0))&&insY litW (d.f 6).l
 else false
theorem zHH (n:Nat):decide (0<n) = !decide (n=0):=by
 by_cases h:n=0
 . subst h;rfl
 . rw [decide_eq_true (by omega),decide_eq_false h];rfl
theorem defY_K (d:D):defY litW d=(nameB (d.f 1).s&&dirsY litW (d.f 3).l&&imY (d.f 2).l&&defK d):=by
 have F0:decide ((d.f 4).l.length=0)=true->fdsY litW (d.f 4).l=true:=fun h=>by rw [List.eq_nil_of_length_eq_zero (of_decide_eq_true h)];rfl
 have M0 : ∀ u,decide ((d.f 5).l.length=0)=true->mbsY litW u (d.f 5).l=true:=fun u h=>by rw [List.eq_nil_of_length_eq_zero (of_decide_eq_true h)];rfl
 have M1:=M0 ((d.f 0).n==3)
 have M2:=M0 true
 have M3:=M0 false
 have I0:decide ((d.f 6).l.length=0)=true->insY litW (d.f 6).l=true:=fun h=>by rw [List.eq_nil_of_length_eq_zero (of_decide_eq_true h)];rfl
 unfold defY zJt defK
 rw [zHH,zHH,zHH,zKx]
 clear M0
 generalize (d.f 0).n=n at *
 by_cases n1:n=1
 . subst n1
   rw [show ((1:Int)==3)=false from rfl] at *
   generalize fdsY litW (d.f 4).l=F at *
   generalize mbsY litW false (d.f 5).l=M at *
   generalize mbsY litW true (d.f 5).l=M' at *
   generalize insY litW (d.f 6).l=I at *
   generalize decide ((d.f 2).l.length=0)=z2 at *
   generalize decide ((d.f 4).l.length=0)=z4 at *
   generalize decide ((d.f 5).l.length=0)=z5 at *
   generalize decide ((d.f 6).l.length=0)=z6 at *
   generalize nameB (d.f 1).s=nm at *
   generalize dirsY litW (d.f 3).l=ds at *
   generalize imY (d.f 2).l=im at *
   cases z4<;>cases z5<;>cases z6<;>simp_all
 by_cases n2:n=2
 . subst n2
   rw [show ((2:Int)==3)=false from rfl] at *
   generalize fdsY litW (d.f 4).l=F at *
   generalize mbsY litW false (d.f 5).l=M at *
   generalize mbsY litW true (d.f 5).l=M' at *
   generalize insY litW (d.f 6).l=I at *
   generalize decide ((d.f 2).l.length=0)=z2 at *
   generalize decide ((d.f 4).l.length=0)=z4 at *
   generalize decide ((d.f 5).l.length=0)=z5 at *
   generalize decide ((d.f 6).l.length=0)=z6 at *
   generalize nameB (d.f 1).s=nm at *
   generalize dirsY litW (d.f 3).l=ds at *
   generalize imY (d.f 2).l=im at *
   cases z4<;>cases z5<;>cases z6<;>cases z2<;>simp_all
 by_cases n3:n=3
 . subst n3
   rw [show ((3:Int)==3)=true from rfl] at *
   generalize fdsY litW (d.f 4).l=F at *
   generalize mbsY litW false (d.f 5).l=M at *
   generalize mbsY litW true (d.f 5).l=M' at *
   generalize insY litW (d.f 6).l=I at *
   generalize decide ((d.f 2).l.length=0)=z2 at *
   generalize decide ((d.f 4).l.length=0)=z4 at *
   generalize decide ((d.f 5).l.length=0)=z5 at *
   generalize decide ((d.f 6).l.length=0)=z6 at *
   generalize nameB (d.f 1).s=nm at *
   generalize dirsY litW (d.f 3).l=ds at *
   generalize imY (d.f 2).l=im at *
   cases z4<;>cases z5<;>cases z6<;>cases z2<;>simp_all
 by_cases n4:n=4
 . subst n4
   rw [show ((4:Int)==3)=false from rfl] at *
   generalize fdsY litW (d.f 4).l=F at *
   generalize mbsY litW false (d.f 5).l=M at *
   generalize mbsY litW true (d.f 5).l=M' at *
   generalize insY litW (d.f 6).l=I at *
   generalize decide ((d.f 2).l.length=0)=z2 at *
   generalize decide ((d.f 4).l.length=0)=z4 at *
   generalize decide ((d.f 5).l.length=0)=z5 at *
   generalize decide ((d.f 6).l.length=0)=z6 at *
   generalize nameB (d.f 1).s=nm at *
   generalize dirsY litW (d.f 3).l=ds at *
   generalize imY (d.f 2).l=im at *
   cases z4<;>cases z5<;>cases z6<;>cases z2<;>simp_all
 by_cases n5:n=5
 . subst n5
   rw [show ((5:Int)==3)=false from rfl] at *
   generalize fdsY litW (d.f 4).l=F at *
   generalize mbsY litW false (d.f 5).l=M at *
   generalize mbsY litW true (d.f 5).l=M' at *
   generalize insY litW (d.f 6).l=I at *
   generalize decide ((d.f 2).l.length=0)=z2 at *
   generalize decide ((d.f 4).l.length=0)=z4 at *
   generalize decide ((d.f 5).l.length=0)=z5 at *
   generalize decide ((d.f 6).l.length=0)=z6 at *
   generalize nameB (d.f 1).s=nm at *
   generalize dirsY litW (d.f 3).l=ds at *
   generalize imY (d.f 2).l=im at *
   cases z4<;>cases z5<;>cases z6<;>cases z2<;>simp_all
 rw [beq_eq_false_iff_ne.2 n1,beq_eq_false_iff_ne.2 n2,beq_eq_false_iff_ne.2 n3,beq_eq_false_iff_ne.2 n4,beq_eq_false_iff_ne.2 n5,if_neg n1,if_neg n2,if_neg n3,if_neg n4,if_neg n5]
 simp
attribute [local irreducible] wpList Calls Code.wp AW AWo OpOk seqK zq zt loopK endK AC zg Yld Sub
attribute [local irreducible] ACB ACX ACE absLexG YldG absLexH absLexU YldU
noncomputable def HdefU (d:D) (i:Nat):Vst 129:=stS 129 [(1,.bx 1 0),(3,.c (.int .i64 (i:Int)))] [(1,.box 45 (cellsV Tryz.prog 12 45 d))]
theorem defFU_ac (d:D) (hl:(d.f 2).l.length<=9223372036854775807):AC EN Tryz.prog 35 [.agg (cellsV Tryz.prog 12 45 d)] (.c (.bool (defY litW d))):=by
 have h1:=zAl (d.f 1).s
 have h2:=zDw (d.f 3).l
 have h3:=fdsFU_ac (d.f 4).l
 have h4:=zKr (d.f 5).l true
 have h5:=zKr (d.f 5).l false
 have h6:=zK7 (d.f 6).l
 have hY:=defY_K d
 by_cases hbad:nameB (d.f 1).s=true/\dirsY litW (d.f 3).l=true/\(d.f 2).l.length<=64
 rotate_left 1
 . have hf:defY litW d=false:=by
    rw [hY]
    unfold imY
    by_cases q:(d.f 2).l.length<=64
    . rw [decide_eq_true q]
      generalize nameB (d.f 1).s=a at *
      generalize dirsY litW (d.f 3).l=b at *
      cases a<;>cases b<;>simp_all
    . rw [decide_eq_false q];simp
   have hz:decide (((d.f 2).l.length:Int)>64) = !decide ((d.f 2).l.length<=64):=by
    rw [Bool.eq_iff_iff];simp;omega
   rw [hf]
   clear hf hY h3 h4 h5 h6
   generalize nameB (d.f 1).s=a at *
   generalize dirsY litW (d.f 3).l=b at *
   generalize decide ((d.f 2).l.length<=64)=c at *
   refine zN 129 Tryz.func35 rfl rfl rfl rfl ?_
   intro s w he
   cases a with
   |false =>
    have K:((!false)==false)=true->False:=by decide
    repeat' (first
|refine zA ?_
|refine zB ?_
|refine zK ?_
|apply aw_1
 conv=>whnf
 refine ⟨?_,trivial⟩
|apply s_1
 conv=>whnf;arg 1;arg 4;arg 3;whnf
 refine ⟨?_,?_⟩
|apply zb rfl
 . conv=>lhs;whnf
 . conv=>lhs;whnf
 . first | exact h1
|apply zAA rfl rfl rfl rfl
 . conv=>lhs;whnf;arg 1;whnf
 . rfl
|refine zM ?_
|refine zE ?_
|refine ⟨_,by conv=>lhs;whnf;arg 2;whnf,?_⟩;conv=>rhs;whnf
|exact trivial)
    all_goals first
     |rfl
     |skip
   |true =>
    have K:((!true)==false)=false->False:=by decide
    cases b with
    |false =>
     repeat' (first
|refine zA ?_
|refine zB ?_
|refine zK ?_
|apply aw_1
 conv=>whnf
 refine ⟨?_,trivial⟩
|apply s_1
 conv=>whnf;arg 1;arg 4;arg 3;whnf
 refine ⟨?_,?_⟩
|apply zb rfl
 . conv=>lhs;whnf
 . conv=>lhs;whnf
 . first | exact h1 | exact h2
|apply zAA rfl rfl rfl rfl
 . conv=>lhs;whnf;arg 1;whnf
 . rfl
|apply zU rfl
 . conv=>lhs;whnf
 . conv=>lhs;whnf
 . first | rfl | assumption
 . conv=>lhs;whnf
 . first | exact h1 | exact h2
|refine zM ?_
|refine zE ?_
|refine ⟨_,by conv=>lhs;whnf;arg 2;whnf,?_⟩;conv=>rhs;whnf
|exact trivial)
     all_goals first
      |rfl
      |skip
    |true =>
     have f1:decide (((d.f 2).l.length:Int)>64)=true:=decide_eq_true (by simp at hbad;omega)
     repeat' (first
|apply zG
 . conv=>lhs;whnf
 . assumption
|refine zA ?_
|refine zB ?_
|refine zK ?_
|apply aw_1
 conv=>whnf
 refine ⟨?_,trivial⟩
|apply s_1
 conv=>whnf;arg 1;arg 4;arg 3;whnf
 refine ⟨?_,?_⟩
|apply zb rfl
 . conv=>lhs;whnf
 . conv=>lhs;whnf
 . first | exact h1 | exact h2
|apply zAA rfl rfl rfl rfl
 . conv=>lhs;whnf;arg 1;whnf
 . rfl
|apply zU rfl
 . conv=>lhs;whnf
 . conv=>lhs;whnf
 . first | rfl | assumption
 . conv=>lhs;whnf
 . first | exact h1 | exact h2
|refine zM ?_
|refine zE ?_
|refine ⟨_,by conv=>lhs;whnf;arg 2;whnf,?_⟩;conv=>rhs;whnf
|exact trivial)
     all_goals first
      |rfl
      |skip
 obtain ⟨ha,hb,h64⟩:=hbad
 rw [ha] at h1
 rw [hb] at h2
 have hR:defY litW d=(zAM (fun x=>nameB x.s) (d.f 2).l (d.f 2).l.length 0&&defK d):=by
  rw [hY,ha,hb,zA5]
  unfold imY
  rw [decide_eq_true h64];rfl
 clear hY
 generalize defY litW d=R at hR |-
 have f0:decide (((d.f 2).l.length:Int)>64)=false:=decide_eq_false (by omega)
 have K:((!true)==false)=false->False:=by decide
 refine zN 129 Tryz.func35 rfl rfl rfl rfl ?_
 intro s w he
 repeat' (first
|apply zD
 . conv=>lhs;whnf
 . assumption
|refine zA ?_
|refine zB ?_
|refine zK ?_
|apply aw_1
 conv=>whnf
 refine ⟨?_,trivial⟩
|apply s_1
 conv=>whnf;arg 1;arg 4;arg 3;whnf
 refine ⟨?_,?_⟩
|apply zb rfl
 . conv=>lhs;whnf
 . conv=>lhs;whnf
 . first | exact h1 | exact h2
|apply zAA rfl rfl rfl rfl
 . conv=>lhs;whnf;arg 1;whnf
 . rfl
|apply zU rfl
 . conv=>lhs;whnf
 . conv=>lhs;whnf
 . first | rfl | assumption
 . conv=>lhs;whnf
 . first | exact h1 | exact h2
|exact trivial)
 all_goals first
  |exact zS (by omega)
  |skip
 clear h1 h2 K f0
 refine za (fun j st => ∃ i,i+j=(d.f 2).l.length/\R=(zAM (fun x=>nameB x.s) (d.f 2).l j i&&defK d)/\Sub (cx EN Tryz.prog s w he) st (HdefU d i)) (d.f 2).l.length ⟨0,by omega,hR,Sub.live ⟨rfl,rfl,trivial⟩ ⟨rfl,trivial⟩⟩ ?_
 clear hR
 rintro j st ⟨i,hij,hR,hs2⟩
 refine zi hs2 ?_
 clear hs2
 by_cases hi:i<(d.f 2).l.length
 . obtain ⟨j,rfl⟩ : ∃ q,j=q+1:=⟨j-1,by omega⟩
   have f1:decide ((i:Int)<((d.f 2).l.length:Nat))=true:=decide_eq_true (by omega)
   have hR':R=(nameB (gD (d.f 2).l i).s&&zAM (fun x=>nameB x.s) (d.f 2).l j (i+1)&&defK d):=hR
   clear hR
   have hn1:=zAl (gD (d.f 2).l i).s
   repeat' (first
|apply zG
 . conv=>lhs;whnf
 . assumption
|refine zA ?_
|refine zB ?_
|refine zK ?_
|refine zP ?_
|apply aw_1
 conv=>whnf
 refine ⟨?_,trivial⟩
|apply s_1
 conv=>whnf;arg 1;arg 4;arg 3;whnf
 refine ⟨?_,?_⟩
|apply zb rfl
 . conv=>lhs;whnf
 . conv=>lhs;whnf
 . first | exact hn1
|refine zZ (by conv=>lhs;whnf) ?_ ?_<;>intro hb
|refine zM ?_
|refine zO ?_
|refine zh ?_
|refine zE ?_
|refine ⟨_,by conv=>lhs;whnf;arg 2;whnf,?_⟩;conv=>rhs;whnf
|exact trivial)
   all_goals first
    |exact zS (by omega)
    |exact zu hi
    |(have e:nameB (gD (d.f 2).l i).s=false:=by simpa using (by assumption:(!nameB (gD (d.f 2).l i).s)=true)
      rw [hR',e];rfl)
    |(have e:nameB (gD (d.f 2).l i).s=true:=by simpa using (by assumption:(!nameB (gD (d.f 2).l i).s)=false)
      exact zH (j':=j) (by omega) ⟨i+1,by omega,by rw [hR',e,Bool.true_and],Sub.live ⟨rfl,rfl,trivial⟩ ⟨rfl,trivial⟩⟩)
    |skip
 . obtain rfl:j=0:=by omega
   have f1:decide ((i:Int)<((d.f 2).l.length:Nat))=false:=decide_eq_false (by omega)
   have hRK:R=defK d:=by rw [hR,zAM,Bool.true_and]
   clear hR
   have z2:(((d.f 2).l.length:Int)==0)=decide ((d.f 2).l.length=0):=by rw [Bool.eq_iff_iff];simp only [beq_iff_eq,decide_eq_true_eq];omega
   have z4:(((d.f 4).l.length:Int)==0)=decide ((d.f 4).l.length=0):=by rw [Bool.eq_iff_iff];simp only [beq_iff_eq,decide_eq_true_eq];omega
   have z5:(((d.f 5).l.length:Int)==0)=decide ((d.f 5).l.length=0):=by rw [Bool.eq_iff_iff];simp only [beq_iff_eq,decide_eq_true_eq];omega
   have z6:(((d.f 6).l.length:Int)==0)=decide ((d.f 6).l.length=0):=by rw [Bool.eq_iff_iff];simp only [beq_iff_eq,decide_eq_true_eq];omega
   have y6:decide (((d.f 6).l.length:Int)>0) = !decide ((d.f 6).l.length=0):=by rw [<- zHH];exact decide_eq_decide.2 (by omega)
   unfold defK at hRK
   generalize fdsY litW (d.f 4).l=F at *
   generalize mbsY litW true (d.f 5).l=M1 at *
   generalize mbsY litW false (d.f 5).l=M2 at *
   generalize insY litW (d.f 6).l=I at *
   have h9:(d.f 0).n=1\/(d.f 0).n=2\/(d.f 0).n=3\/(d.f 0).n=4\/(d.f 0).n=5\/((d.f 0).n≠1/\(d.f 0).n≠2/\(d.f 0).n≠3/\(d.f 0).n≠4/\(d.f 0).n≠5):=by omega
   rcases h9 with hn | hn | hn | hn | hn | hn
   . have g1:((d.f 0).n==1)=true:=by rw [hn];rfl
     rw [if_pos hn] at hRK
     repeat' (first
|apply zG
 . conv=>lhs;whnf
 . assumption
|apply zD
 . conv=>lhs;whnf
 . assumption
|refine zA ?_
|refine zB ?_
|refine zK ?_
|apply aw_1
 conv=>whnf
 refine ⟨?_,trivial⟩
|apply zT rfl rfl
 . conv=>lhs;whnf
 . conv=>lhs;whnf
 . first | exact bT1 ‹_› | exact bT2 ‹_›
|apply zQ rfl rfl
 . conv=>lhs;whnf
 . conv=>lhs;whnf
 . first | exact bF1 ‹_› | exact bF2 ‹_›
|apply s_1
 conv=>whnf;arg 1;arg 4;arg 3;whnf
 refine ⟨?_,?_⟩
|apply zb rfl
 . conv=>lhs;whnf
 . conv=>lhs;whnf
 . first | exact h3 | exact h4 | exact h5 | exact h6
|apply zC rfl
 . conv=>lhs;whnf
 . conv=>lhs;whnf
 . conv=>lhs;whnf;arg 2;whnf
|apply zAC (by kernel_rfl) (by kernel_rfl)
|apply zAs
|apply zAr rfl
 . conv=>lhs;whnf
 . conv=>lhs;whnf;arg 2;whnf
|exact zj
|exact zr
|exact (1000000:Nat)
|refine zL ?_
|refine zM ?_
|refine zO ?_
|refine zJ rfl ?_
|refine zI ?_
|refine zE ?_
|refine ⟨_,by conv=>lhs;whnf;arg 2;whnf,?_⟩;conv=>rhs;whnf
|exact trivial
|intro hg)
     all_goals first
      |(rw [hRK];done)
      |(refine cB ?_
        clear h3 h4 h5 h6 he hn f1
        rw [hRK]
        simp only [z2,z4,z5,z6,y6] at *
        clear z2 z4 z5 z6 y6 hRK
        generalize decide ((d.f 2).l.length=0)=w2 at *
        generalize decide ((d.f 4).l.length=0)=w4 at *
        generalize decide ((d.f 5).l.length=0)=w5 at *
        generalize decide ((d.f 6).l.length=0)=w6 at *
        simp_all
        done)
      |exact (show Tryz.prog.underlying 4=some TypeDesc.bool by kernel_rfl)
      |skip
   . have g1:((d.f 0).n==1)=false:=by rw [hn];rfl
     have g2:((d.f 0).n==2)=true:=by rw [hn];rfl
     rw [if_neg (by omega),if_pos hn] at hRK
     repeat' (first
|apply zG
 . conv=>lhs;whnf
 . assumption
|apply zD
 . conv=>lhs;whnf
 . assumption
|refine zA ?_
|refine zB ?_
|refine zK ?_
|apply aw_1
 conv=>whnf
 refine ⟨?_,trivial⟩
|apply zT rfl rfl
 . conv=>lhs;whnf
 . conv=>lhs;whnf
 . first | exact bT1 ‹_› | exact bT2 ‹_›
|apply zQ rfl rfl
 . conv=>lhs;whnf
 . conv=>lhs;whnf
 . first | exact bF1 ‹_› | exact bF2 ‹_›
|apply s_1
 conv=>whnf;arg 1;arg 4;arg 3;whnf
 refine ⟨?_,?_⟩
|apply zF rfl
 . conv=>lhs;whnf
 . conv=>lhs;whnf
 . first | rfl | assumption
 . conv=>lhs;whnf;arg 2;whnf
|apply zU rfl
 . conv=>lhs;whnf
 . conv=>lhs;whnf
 . first | rfl | assumption
 . conv=>lhs;whnf
 . first | exact h3 | exact h4 | exact h5 | exact h6
|apply zX rfl
 . conv=>lhs;whnf
 . conv=>lhs;whnf
 . first | rfl | assumption
|apply zC rfl
 . conv=>lhs;whnf
 . conv=>lhs;whnf
 . conv=>lhs;whnf;arg 2;whnf
|apply zAC (by kernel_rfl) (by kernel_rfl)
|apply zAs
|apply zAr rfl
 . conv=>lhs;whnf
 . conv=>lhs;whnf;arg 2;whnf
|exact zj
|exact zr
|exact (1000000:Nat)
|refine zL ?_
|refine zM ?_
|refine zO ?_
|refine zJ rfl ?_
|refine zI ?_
|refine zE ?_
|refine ⟨_,by conv=>lhs;whnf;arg 2;whnf,?_⟩;conv=>rhs;whnf
|exact trivial
|intro hg)
     all_goals first
      |(rw [hRK];done)
      |(refine cB ?_
        clear h3 h4 h5 h6 he hn f1
        rw [hRK]
        simp only [z2,z4,z5,z6,y6] at *
        clear z2 z4 z5 z6 y6 hRK
        generalize decide ((d.f 2).l.length=0)=w2 at *
        generalize decide ((d.f 4).l.length=0)=w4 at *
        generalize decide ((d.f 5).l.length=0)=w5 at *
        generalize decide ((d.f 6).l.length=0)=w6 at *
        simp_all
        done)
      |exact (show Tryz.prog.underlying 4=some TypeDesc.bool by kernel_rfl)
      |skip
   . have g1:((d.f 0).n==1)=false:=by rw [hn];rfl
     have g2:((d.f 0).n==2)=false:=by rw [hn];rfl
     have g3:((d.f 0).n==3)=true:=by rw [hn];rfl
     rw [if_neg (by omega),if_neg (by omega),if_pos hn] at hRK
     repeat' (first
|apply zG
 . conv=>lhs;whnf
 . assumption
|apply zD
 . conv=>lhs;whnf
 . assumption
|refine zA ?_
|refine zB ?_
|refine zK ?_
|apply aw_1
 conv=>whnf
 refine ⟨?_,trivial⟩
|apply zT rfl rfl
 . conv=>lhs;whnf
 . conv=>lhs;whnf
 . first | exact bT1 ‹_› | exact bT2 ‹_›
|apply zQ rfl rfl
 . conv=>lhs;whnf
 . conv=>lhs;whnf
 . first | exact bF1 ‹_› | exact bF2 ‹_›
|apply s_1
 conv=>whnf;arg 1;arg 4;arg 3;whnf
 refine ⟨?_,?_⟩
|apply zF rfl
 . conv=>lhs;whnf
 . conv=>lhs;whnf
 . first | rfl | assumption
 . conv=>lhs;whnf;arg 2;whnf
|apply zU rfl
 . conv=>lhs;whnf
 . conv=>lhs;whnf
 . first | rfl | assumption
 . conv=>lhs;whnf
 . first | exact h3 | exact h4 | exact h5 | exact h6
|apply zX rfl
 . conv=>lhs;whnf
 . conv=>lhs;whnf
 . first | rfl | assumption
|apply zC rfl
 . conv=>lhs;whnf
 . conv=>lhs;whnf
 . conv=>lhs;whnf;arg 2;whnf
|apply zAC (by kernel_rfl) (by kernel_rfl)
|apply zAs
|apply zAr rfl
 . conv=>lhs;whnf
 . conv=>lhs;whnf;arg 2;whnf
|exact zj
|exact zr
|exact (1000000:Nat)
|refine zL ?_
|refine zM ?_
|refine zO ?_
|refine zJ rfl ?_
|refine zI ?_
|refine zE ?_
|refine ⟨_,by conv=>lhs;whnf;arg 2;whnf,?_⟩;conv=>rhs;whnf
|exact trivial
|intro hg)
     all_goals first
      |(rw [hRK];done)
      |(refine cB ?_
        clear h3 h4 h5 h6 he hn f1
        rw [hRK]
        simp only [z2,z4,z5,z6,y6] at *
        clear z2 z4 z5 z6 y6 hRK
        generalize decide ((d.f 2).l.length=0)=w2 at *
        generalize decide ((d.f 4).l.length=0)=w4 at *
        generalize decide ((d.f 5).l.length=0)=w5 at *
        generalize decide ((d.f 6).l.length=0)=w6 at *
        simp_all
        done)
      |exact (show Tryz.prog.underlying 4=some TypeDesc.bool by kernel_rfl)
      |skip
   . have g1:((d.f 0).n==1)=false:=by rw [hn];rfl
     have g2:((d.f 0).n==2)=false:=by rw [hn];rfl
     have g3:((d.f 0).n==3)=false:=by rw [hn];rfl
     have g4:((d.f 0).n==4)=true:=by rw [hn];rfl
     rw [if_neg (by omega),if_neg (by omega),if_neg (by omega),if_pos hn] at hRK
     repeat' (first
|apply zG
 . conv=>lhs;whnf
 . assumption
|apply zD
 . conv=>lhs;whnf
 . assumption
|refine zA ?_
|refine zB ?_
|refine zK ?_
|apply aw_1
 conv=>whnf
 refine ⟨?_,trivial⟩
|apply zT rfl rfl
 . conv=>lhs;whnf
 . conv=>lhs;whnf
 . first | exact bT1 ‹_› | exact bT2 ‹_›
|apply zQ rfl rfl
 . conv=>lhs;whnf
 . conv=>lhs;whnf
 . first | exact bF1 ‹_› | exact bF2 ‹_›
|apply s_1
 conv=>whnf;arg 1;arg 4;arg 3;whnf
 refine ⟨?_,?_⟩
|apply zF rfl
 . conv=>lhs;whnf
 . conv=>lhs;whnf
 . first | rfl | assumption
 . conv=>lhs;whnf;arg 2;whnf
|apply zU rfl
 . conv=>lhs;whnf
 . conv=>lhs;whnf
 . first | rfl | assumption
 . conv=>lhs;whnf
 . first | exact h3 | exact h4 | exact h5 | exact h6
|apply zX rfl
 . conv=>lhs;whnf
 . conv=>lhs;whnf
 . first | rfl | assumption
|apply zC rfl
 . conv=>lhs;whnf
 . conv=>lhs;whnf
 . conv=>lhs;whnf;arg 2;whnf
|apply zAC (by kernel_rfl) (by kernel_rfl)
|apply zAs
|apply zAr rfl
 . conv=>lhs;whnf
 . conv=>lhs;whnf;arg 2;whnf
|exact zj
|exact zr
|exact (1000000:Nat)
|refine zL ?_
|refine zM ?_
|refine zO ?_
|refine zJ rfl ?_
|refine zI ?_
|refine zE ?_
|refine ⟨_,by conv=>lhs;whnf;arg 2;whnf,?_⟩;conv=>rhs;whnf
|exact trivial
|intro hg)
     all_goals first
      |(rw [hRK];done)
      |(refine cB ?_
        clear h3 h4 h5 h6 he hn f1
        rw [hRK]
        simp only [z2,z4,z5,z6,y6] at *
        clear z2 z4 z5 z6 y6 hRK
        generalize decide ((d.f 2).l.length=0)=w2 at *
        generalize decide ((d.f 4).l.length=0)=w4 at *
        generalize decide ((d.f 5).l.length=0)=w5 at *
        generalize decide ((d.f 6).l.length=0)=w6 at *
        simp_all
        done)
      |exact (show Tryz.prog.underlying 4=some TypeDesc.bool by kernel_rfl)
      |skip
   . have g1:((d.f 0).n==1)=false:=by rw [hn];rfl
     have g2:((d.f 0).n==2)=false:=by rw [hn];rfl
     have g3:((d.f 0).n==3)=false:=by rw [hn];rfl
     have g4:((d.f 0).n==4)=false:=by rw [hn];rfl
     have g5:((d.f 0).n==5)=true:=by rw [hn];rfl
     rw [if_neg (by omega),if_neg (by omega),if_neg (by omega),if_neg (by omega),if_pos hn] at hRK
     repeat' (first
|apply zG
 . conv=>lhs;whnf
 . assumption
|apply zD
 . conv=>lhs;whnf
 . assumption
|refine zA ?_
|refine zB ?_
|refine zK ?_
|apply aw_1
 conv=>whnf
 refine ⟨?_,trivial⟩
|apply zT rfl rfl
 . conv=>lhs;whnf
 . conv=>lhs;whnf
 . first | exact bT1 ‹_› | exact bT2 ‹_›
|apply zQ rfl rfl
 . conv=>lhs;whnf
 . conv=>lhs;whnf
 . first | exact bF1 ‹_› | exact bF2 ‹_›
|apply s_1
 conv=>whnf;arg 1;arg 4;arg 3;whnf
 refine ⟨?_,?_⟩
|apply zF rfl
 . conv=>lhs;whnf
 . conv=>lhs;whnf
 . first | rfl | assumption
 . conv=>lhs;whnf;arg 2;whnf
|apply zU rfl
 . conv=>lhs;whnf
 . conv=>lhs;whnf
 . first | rfl | assumption
 . conv=>lhs;whnf
 . first | exact h3 | exact h4 | exact h5 | exact h6
|apply zX rfl
 . conv=>lhs;whnf
 . conv=>lhs;whnf
 . first | rfl | assumption
|apply zC rfl
 . conv=>lhs;whnf
 . conv=>lhs;whnf
 . conv=>lhs;whnf;arg 2;whnf
|apply zAC (by kernel_rfl) (by kernel_rfl)
|apply zAs
|apply zAr rfl
 . conv=>lhs;whnf
 . conv=>lhs;whnf;arg 2;whnf
|exact zj
|exact zr
|exact (1000000:Nat)
|refine zL ?_
|refine zM ?_
|refine zO ?_
|refine zJ rfl ?_
|refine zI ?_
|refine zE ?_
|refine ⟨_,by conv=>lhs;whnf;arg 2;whnf,?_⟩;conv=>rhs;whnf
|exact trivial
|intro hg)
     all_goals first
      |(rw [hRK];done)
      |(refine cB ?_
        clear h3 h4 h5 h6 he hn f1
        rw [hRK]
        simp only [z2,z4,z5,z6,y6] at *
        clear z2 z4 z5 z6 y6 hRK
        generalize decide ((d.f 2).l.length=0)=w2 at *
        generalize decide ((d.f 4).l.length=0)=w4 at *
        generalize decide ((d.f 5).l.length=0)=w5 at *
        generalize decide ((d.f 6).l.length=0)=w6 at *
        simp_all
        done)
      |exact (show Tryz.prog.underlying 4=some TypeDesc.bool by kernel_rfl)
      |skip
   . have g1:((d.f 0).n==1)=false:=by simpa using hn.1
     have g2:((d.f 0).n==2)=false:=by simpa using hn.2.1
     have g3:((d.f 0).n==3)=false:=by simpa using hn.2.2.1
     have g4:((d.f 0).n==4)=false:=by simpa using hn.2.2.2.1
     have g5:((d.f 0).n==5)=false:=by simpa using hn.2.2.2.2
     rw [if_neg (by omega),if_neg (by omega),if_neg (by omega),if_neg (by omega),if_neg (by omega)] at hRK
     repeat' (first
|apply zD
 . conv=>lhs;whnf
 . assumption
|refine zA ?_
|refine zB ?_
|refine zK ?_
|refine zP ?_
|apply aw_1
 conv=>whnf
 refine ⟨?_,trivial⟩
|apply s_1
 conv=>whnf;arg 1;arg 4;arg 3;whnf
 refine ⟨?_,?_⟩
|apply zAC (by kernel_rfl) (by kernel_rfl)
|apply zAs
|apply zAr rfl
 . conv=>lhs;whnf
 . conv=>lhs;whnf;arg 2;whnf
|exact zj
|exact zr
|exact (1000000:Nat)
|refine zL ?_
|refine zJ rfl ?_
|refine zI ?_
|refine zE ?_
|refine ⟨_,by conv=>lhs;whnf;arg 2;whnf,?_⟩;conv=>rhs;whnf
|exact trivial)
     all_goals first
      |(rw [hRK];done)
      |(refine cB ?_
        clear h3 h4 h5 h6 he hn f1
        rw [hRK]
        simp only [z2,z4,z5,z6,y6] at *
        clear z2 z4 z5 z6 y6 hRK
        generalize decide ((d.f 2).l.length=0)=w2 at *
        generalize decide ((d.f 4).l.length=0)=w4 at *
        generalize decide ((d.f 5).l.length=0)=w5 at *
        generalize decide ((d.f 6).l.length=0)=w6 at *
        simp_all
        done)
      |exact (show Tryz.prog.underlying 4=some TypeDesc.bool by kernel_rfl)
      |skip
noncomputable def HrFU (d:D) (i:Nat):Vst 28:=stS 28 [(1,.bx 1 0),(3,.c (.int .i64 (i:Int)))] [(1,.box 25 (cellsV Tryz.prog 12 25 d))]
theorem zG9 (d:D):AC EN Tryz.prog 15 [.agg (cellsV Tryz.prog 12 25 d)] (.c (.bool (docY litW (d.f 0).l))):=by
 refine zA9 4 (by kernel_rfl) fun hL2 => ?_
 have hl:(d.f 0).l.length<=9223372036854775807:=zHU hL2
 have hd:=fun i (hi:i<(d.f 0).l.length)=>defFU_ac (gD (d.f 0).l i) (len_im (zHW hL2 i hi))
 clear hL2
 by_cases h0:(d.f 0).l.length=0
 . have f00:decide (((d.f 0).l.length:Int)<1)=true:=decide_eq_true (by omega)
   have K1:(decide (((d.f 0).l.length:Int)<1)==false)=true->False:=fun h=>by rw [f00] at h;cases h
   rw [show docY litW (d.f 0).l=false by unfold docY;rw [decide_eq_false (by omega)];rfl]
   refine zN 28 Tryz.func15 rfl rfl rfl rfl ?_
   intro s w he
   repeat' (first
|exact (K1 ‹_›).elim
|refine zA ?_
|refine zB ?_
|refine zK ?_
|apply aw_1
 conv=>whnf
 refine ⟨?_,trivial⟩
|apply zT rfl rfl
 . conv=>lhs;whnf
 . conv=>lhs;whnf
 . first | exact bT1 ‹_› | exact bT2 ‹_›
|apply s_1
 conv=>whnf;arg 1;arg 4;arg 3;whnf
 refine ⟨?_,?_⟩
|apply zAA rfl rfl rfl rfl
 . conv=>lhs;whnf;arg 1;whnf
 . rfl
|apply zX rfl
 . conv=>lhs;whnf
 . conv=>lhs;whnf
 . first | rfl | assumption
|apply zC rfl
 . conv=>lhs;whnf
 . conv=>lhs;whnf
 . conv=>lhs;whnf;arg 2;whnf
|refine zM ?_
|refine zE ?_
|refine ⟨_,by conv=>lhs;whnf;arg 2;whnf,?_⟩;conv=>rhs;whnf
|exact trivial
|intro hg)
   all_goals first
    |rfl
    |skip
 have f00:decide (((d.f 0).l.length:Int)<1)=false:=decide_eq_false (by omega)
 have K1:(decide (((d.f 0).l.length:Int)<1)==false)=false->False:=fun h=>by rw [f00] at h;cases h
 by_cases hbig:64<(d.f 0).l.length
 . have f0:decide (((d.f 0).l.length:Int)>64)=true:=decide_eq_true (by omega)
   rw [show docY litW (d.f 0).l=false by unfold docY;rw [decide_eq_false (by omega)];rfl]
   refine zN 28 Tryz.func15 rfl rfl rfl rfl ?_
   intro s w he
   repeat' (first
|apply zG
 . conv=>lhs;whnf
 . assumption
|exact (K1 ‹_›).elim
|refine zA ?_
|refine zB ?_
|refine zK ?_
|apply aw_1
 conv=>whnf
 refine ⟨?_,trivial⟩
|apply zQ rfl rfl
 . conv=>lhs;whnf
 . conv=>lhs;whnf
 . first | exact bF1 ‹_› | exact bF2 ‹_›
|apply s_1
 conv=>whnf;arg 1;arg 4;arg 3;whnf
 refine ⟨?_,?_⟩
|apply zAA rfl rfl rfl rfl
 . conv=>lhs;whnf;arg 1;whnf
 . rfl
|apply zF rfl
 . conv=>lhs;whnf
 . conv=>lhs;whnf
 . first | rfl | assumption
 . conv=>lhs;whnf;arg 2;whnf
|apply zC rfl
 . conv=>lhs;whnf
 . conv=>lhs;whnf
 . conv=>lhs;whnf;arg 2;whnf
|refine zM ?_
|refine zE ?_
|refine ⟨_,by conv=>lhs;whnf;arg 2;whnf,?_⟩;conv=>rhs;whnf
|exact trivial
|intro hg)
   all_goals first
    |rfl
    |skip
 have f0:decide (((d.f 0).l.length:Int)>64)=false:=decide_eq_false (by omega)
 have hR:docY litW (d.f 0).l=zAM (defY litW) (d.f 0).l (d.f 0).l.length 0:=by unfold docY;rw [decide_eq_true (by omega),zA5,Bool.true_and]
 generalize docY litW (d.f 0).l=R at hR |-
 refine zN 28 Tryz.func15 rfl rfl rfl rfl ?_
 intro s w he
 repeat' (first
|apply zD
 . conv=>lhs;whnf
 . assumption
|exact (K1 ‹_›).elim
|refine zA ?_
|refine zB ?_
|refine zK ?_
|apply aw_1
 conv=>whnf
 refine ⟨?_,trivial⟩
|apply zQ rfl rfl
 . conv=>lhs;whnf
 . conv=>lhs;whnf
 . first | exact bF1 ‹_› | exact bF2 ‹_›
|apply s_1
 conv=>whnf;arg 1;arg 4;arg 3;whnf
 refine ⟨?_,?_⟩
|apply zAA rfl rfl rfl rfl
 . conv=>lhs;whnf;arg 1;whnf
 . rfl
|apply zF rfl
 . conv=>lhs;whnf
 . conv=>lhs;whnf
 . first | rfl | assumption
 . conv=>lhs;whnf;arg 2;whnf
|apply zC rfl
 . conv=>lhs;whnf
 . conv=>lhs;whnf
 . conv=>lhs;whnf;arg 2;whnf
|exact trivial
|intro hg)
 refine za (fun j st => ∃ i,i+j=(d.f 0).l.length/\R=zAM (defY litW) (d.f 0).l j i/\Sub (cx EN Tryz.prog s w he) st (HrFU d i)) (d.f 0).l.length ⟨0,by omega,hR,Sub.live ⟨rfl,rfl,trivial⟩ ⟨rfl,trivial⟩⟩ ?_
 clear hR f0 f00 K1
 rintro j st ⟨i,hij,hR,hs2⟩
 refine zi hs2 ?_
 clear hs2
 by_cases hi:i<(d.f 0).l.length
 . obtain ⟨j,rfl⟩ : ∃ q,j=q+1:=⟨j-1,by omega⟩
   have f1:decide ((i:Int)<((d.f 0).l.length:Nat))=true:=decide_eq_true (by omega)
   have hR':R=(defY litW (gD (d.f 0).l i)&&zAM (defY litW) (d.f 0).l j (i+1)):=hR
   clear hR
   have hd1:=hd i hi
   repeat' (first
|apply zG
 . conv=>lhs;whnf
 . assumption
|refine zA ?_
|refine zB ?_
|refine zK ?_
|refine zP ?_
|apply aw_1
 conv=>whnf
 refine ⟨?_,trivial⟩
|apply s_1
 conv=>whnf;arg 1;arg 4;arg 3;whnf
 refine ⟨?_,?_⟩
|apply zb rfl
 . conv=>lhs;whnf
 . conv=>lhs;whnf
 . first | exact hd1
|refine zZ (by conv=>lhs;whnf) ?_ ?_<;>intro hb
|refine zM ?_
|refine zO ?_
|refine zh ?_
|refine zE ?_
|refine ⟨_,by conv=>lhs;whnf;arg 2;whnf,?_⟩;conv=>rhs;whnf
|exact trivial)
   all_goals first
    |exact zS (by omega)
    |exact zu hi
    |(have e:defY litW (gD (d.f 0).l i)=false:=by simpa using (by assumption:(!defY litW (gD (d.f 0).l i))=true)
      rw [hR',e];rfl)
    |(have e:defY litW (gD (d.f 0).l i)=true:=by simpa using (by assumption:(!defY litW (gD (d.f 0).l i))=false)
      exact zH (j':=j) (by omega) ⟨i+1,by omega,by rw [hR',e,Bool.true_and],Sub.live ⟨rfl,rfl,trivial⟩ ⟨rfl,trivial⟩⟩)
    |skip
 . obtain rfl:j=0:=by omega
   have f1:decide ((i:Int)<((d.f 0).l.length:Nat))=false:=decide_eq_false (by omega)
   repeat' (first
|apply zD
 . conv=>lhs;whnf
 . assumption
|refine zA ?_
|refine zB ?_
|refine zK ?_
|apply aw_1
 conv=>whnf
 refine ⟨?_,trivial⟩
|apply s_1
 conv=>whnf;arg 1;arg 4;arg 3;whnf
 refine ⟨?_,?_⟩
|refine zL ?_
|refine zJ rfl ?_
|refine zI ?_
|refine zE ?_
|refine ⟨_,by conv=>lhs;whnf;arg 2;whnf,?_⟩;conv=>rhs;whnf
|exact trivial)
   rw [hR];rfl
end
end Go.Proofs.YthppafnlnnpciaaGreatDoor
