import Derived.Test.YthppafnlnnpciaaGreatDoorV38
set_option maxHeartbeats 8000000
set_option maxRecDepth 100000
set_option linter.unusedVariables false
set_option linter.unusedSimpArgs false
namespace Go.Proofs.YthppafnlnnpciaaGreatDoor
section
open Go.RowKit
set_option linter.unusedSectionVars false
theorem strs_of {l:List D} (h : ∀ i,i<l.length -> ∃ s,gD l i = .str s):zAA (fun i=>tx (gD l i).s) l.length=l:=by
 unfold zAA
 apply List.ext_getElem (by simp)
 intro i h1 h2
 obtain ⟨s,e⟩:=h i h2
 rw [List.getElem_map,List.getElem_range]
 rw [zBp h2] at e
 show D.str (bs (tx (gD l i).s))=l[i]
 rw [zBp h2,e]
 show D.str (bs (tx s))=D.str s
 rw [zEO]
attribute [local irreducible] wpList Calls Code.wp AW AWo OpOk seqK zz z8 loopK endK AC zl Yld Sub
attribute [local irreducible] ACB ACX ACE absLexG YldG absLexH
noncomputable def HbU (d:D) (i:Nat):Vst 139:=stS 139 [(1,.bx 1 0),(5,.own 5 9 (zAA (fun i=>tx ((gD (d.f 5).l i).f 0).s) i)),(38,.sl 79 (d.f 5).l),(39,.c (.int .i64 ((d.f 5).l.length:Nat))),(40,.c (.int .i64 (i:Int)))] [(1,.box 45 (cellsV Tryz.prog 12 45 d)),(5,.tok 9 (zAA (fun i=>tx ((gD (d.f 5).l i).f 0).s) i).length)]
noncomputable def HbT (P:List UInt8) (f:Nat->List UInt8) (n i:Nat):Vst 139:=stS 139 [(14,.c (.string (bs (P++flatN (fun i=>[32,32]++f i++[10]) i)))),(125,.own 3 9 (zAA f n)),(126,.c (.int .i64 (n:Nat))),(127,.c (.int .i64 (i:Int)))] []
noncomputable def HbL (d:D) (P:List UInt8) (f:Nat->List UInt8) (q:Nat) (e:TypeId) (l:List D) (i:Nat):Vst 139:=stS 139 [(1,.bx 1 0),(3,.own 3 9 (zAA f i)),(4,.c (.string (bs P))),(q,.sl e l),(q+1,.c (.int .i64 (l.length:Nat))),(q+2,.c (.int .i64 (i:Int)))] [(1,.box 45 (cellsV Tryz.prog 12 45 d)),(3,.tok 9 (zAA f i).length)]
theorem blockP_ac {d:D} (h:DefP d) (hw:wideD d) (hb:bulkD d<=1048576) (hst : ∀ i,i<(d.f 2).l.length -> ∃ s,gD (d.f 2).l i = .str s):AC EN Tryz.prog 43 [.agg (cellsV Tryz.prog 12 45 d)] (.c (.string (bs (dfT K6 d)))):=by
 have w:=zb d
 have wf:=zAJ d 7
 simp only [sumN] at wf
 have b1:=zAX (d.f 1);have t1:=zA0 (d.f 1).s
 have b2:=zn (d.f 2);have l2:=zAK (d.f 2).l
 have b3:=zn (d.f 3)
 have b4:=zn (d.f 4);have l4:=zAK (d.f 4).l
 have b5:=zn (d.f 5);have l5:=zAK (d.f 5).l
 have b6:=zn (d.f 6);have l6:=zAK (d.f 6).l
 have hT:=zEr (dok6 h.dirs (hw.f 3).l (by omega))
 have zT:=zAw K6 (d.f 3).l (hw.f 3).l
 have zD:=dfT_len K6 d hw
 have hk:=h.kind
 have h9:(d.f 0).n=3\/((d.f 0).n=1/\0<(d.f 2).l.length)\/((d.f 0).n=1 /\ ¬ 0<(d.f 2).l.length)\/(d.f 0).n=2\/(d.f 0).n=4\/(d.f 0).n=5:=by omega
 rcases h9 with h0 | ⟨h0,h2⟩ | ⟨h0,h2⟩ | h0 | h0 | h0
 . have g3:((d.f 0).n==3)=true:=by rw [h0];rfl
   have hj:=zCw (zAA (fun i=>tx ((gD (d.f 5).l i).f 0).s) (d.f 5).l.length) [32,124,32] (by rw [zAH];omega) (by rw [zAf (fun x=>tx (x.f 0).s)];exact Nat.le_trans (zE4 (d.f 5).l) (by omega))
   rw [zAf (fun x=>tx (x.f 0).s)] at hj
   have zj:=zE4 (d.f 5).l
   have e:dfT K6 d=[117,110,105,111,110,32]++tx (d.f 1).s++zAV K6 (d.f 3).l++[32,61,32]++Lib.join ((d.f 5).l.map fun x=>tx (x.f 0).s) [32,124,32]++[10]:=by
    unfold dfT;rw [if_pos h0];rfl
   rw [e]
   refine zN 139 Tryz.func43 rfl rfl rfl rfl ?_
   intro s w he
   repeat' (first
|apply zG
 . conv=>lhs;whnf
 . assumption
|refine zA ?_
|refine zB ?_
|refine zH ?_
|apply aw_1
 conv=>whnf
 refine ⟨?_,trivial⟩
|apply s_1
 conv=>whnf;arg 1;arg 4;arg 3;whnf
 refine ⟨?_,?_⟩
|apply zAL rfl rfl rfl rfl
 . conv=>lhs;whnf;arg 1;whnf
 . rfl
|exact trivial)
   refine zg (Sub.own (t:=5) (e:=9) rfl rfl) ?_
   refine zi (fun j st => ∃ i,i+j=(d.f 5).l.length/\Sub (cx EN Tryz.prog s w he) st (HbU d i)) (d.f 5).l.length ⟨0,by omega,Sub.live ⟨rfl,rfl,rfl,rfl,rfl,trivial⟩ ⟨rfl,rfl,trivial⟩⟩ ?_
   rintro j st ⟨i,hij,hs2⟩
   refine zg hs2 ?_
   clear hs2
   have htk:=zAH (fun i=>tx ((gD (d.f 5).l i).f 0).s) i
   by_cases hi:i<(d.f 5).l.length
   . have f1:decide ((i:Int)<((d.f 5).l.length:Nat))=true:=decide_eq_true (by omega)
     repeat' (first
|apply zG
 . conv=>lhs;whnf
 . assumption
|refine zA ?_
|refine zB ?_
|refine zH ?_
|refine zR ?_
|apply aw_1
 conv=>whnf
 refine ⟨?_,trivial⟩
|apply s_1
 conv=>whnf;arg 1;arg 4;arg 3;whnf
 refine ⟨?_,?_⟩
|apply zS rfl rfl rfl
 . conv=>lhs;whnf
 . conv=>lhs;whnf;arg 1;whnf
 . conv=>lhs;whnf;arg 1;whnf
 . exact ⟨by kernel_rfl,by kernel_rfl⟩
 . rfl
|apply zBf rfl rfl
 . conv=>lhs;whnf
 . first | exact zm | (conv=>lhs;whnf;arg 1;whnf)
 . first | exact fun _=>rfl | (intro _;kernel_rfl)
 . conv=>lhs;whnf
 . conv=>lhs;whnf;arg 1;whnf
 . conv=>lhs;whnf
|apply zBb rfl rfl
 . conv=>lhs;whnf
 . first | exact zm | (conv=>lhs;whnf;arg 1;whnf)
 . conv=>lhs;whnf;arg 1;whnf
 . rfl
 . rfl
|exact trivial)
     all_goals first
      |exact zU (by omega)
      |exact zAI hi
      |exact zCG (by omega) (by omega)
      |(refine zI (j':=j-1) (by omega) ⟨i+1,by omega,Sub.live ⟨rfl,?_,rfl,rfl,rfl,trivial⟩ ⟨rfl,?_,trivial⟩⟩
        . show V.own 5 _ (zAA _ i++[.str ((gD (d.f 5).l i).f 0).s])=_
          rw [zx,zEO]
        . show some (Res.tok _ ((zAA _ i).length+1))=_
          rw [zx,List.length_append];rfl)
      |skip
   . have f1:decide ((i:Int)<((d.f 5).l.length:Nat))=false:=decide_eq_false (by omega)
     have ei:i=(d.f 5).l.length:=by omega
     subst ei
     repeat' (first
|apply zC
 . conv=>lhs;whnf
 . assumption
|refine zA ?_
|refine zB ?_
|refine zH ?_
|apply aw_1
 conv=>whnf
 refine ⟨?_,trivial⟩
|apply s_1
 conv=>whnf;arg 1;arg 4;arg 3;whnf
 refine ⟨?_,?_⟩
|apply zAF (by kernel_rfl) (by kernel_rfl)
|apply zAs
|apply zAr rfl
 . conv=>lhs;whnf
 . conv=>lhs;whnf;arg 2;whnf
|apply zBa rfl
 . conv=>lhs;whnf
 . conv=>lhs;whnf
 . first | exact hj | exact hT
|exact zk
|exact zv
|exact (1000000:Nat)
|refine zM ?_
|refine zO ?_
|refine zQ ?_
|refine zK rfl ?_
|refine zJ ?_
|refine zE ?_
|refine ⟨_,by conv=>lhs;whnf;arg 2;whnf,?_⟩;conv=>rhs;whnf
|exact trivial)
     all_goals first
      |(refine zAQ ?_;simp only [zAB,zBD,zAP,List.append_assoc];done)
      |(simp only [ByteArray.size_append,zW,zt,List.size_toArray,List.length_append,List.length_cons,List.length_nil,maxLen,Int.toNat_natCast,Nat.zero_add,Nat.reduceAdd];omega)
      |skip
 . have g3:((d.f 0).n==3)=false:=by rw [h0];rfl
   have g1:((d.f 0).n==1)=true:=by rw [h0];rfl
   have g4:((d.f 0).n==4)=false:=by rw [h0];rfl
   have gf:decide (((d.f 2).l.length:Int)>0)=true:=decide_eq_true (by omega)
   have zf:=zKb d
   have zjf:(Lib.join ((d.f 2).l.map fun x=>tx x.s) [32,38,32]).length<=4*bulkL (d.f 2).l:=by
    unfold fcT6 at zf
    rw [if_pos ⟨h0,h2⟩] at zf
    simp only [List.length_append,zFu,List.length_cons,List.length_nil] at zf
    omega
   have hjf:=zCw (zAA (fun i=>tx (gD (d.f 2).l i).s) (d.f 2).l.length) [32,38,32] (by rw [zAH];omega) (by
    rw [zAf (fun x=>tx x.s)]
    omega)
   rw [zAf (fun x=>tx x.s),strs_of hst] at hjf
   have hwd:zBt (d.f 0).n++[32]=[116,121,112,101,32]:=by rw [h0];rfl
   have hfc:fcT6 d=[32,105,109,112,108,101,109,101,110,116,115,32]++Lib.join ((d.f 2).l.map fun x=>tx x.s) [32,38,32]:=by unfold fcT6;rw [if_pos ⟨h0,h2⟩];rfl
   obtain ⟨P,eP⟩ : ∃ P,[116,121,112,101,32]++tx (d.f 1).s++([32,105,109,112,108,101,109,101,110,116,115,32]++Lib.join ((d.f 2).l.map fun x=>tx x.s) [32,38,32])=P:=⟨_,rfl⟩
   have e:dfT K6 d=P++zAV K6 (d.f 3).l++[32,123,10]++flatN (fun i=>[32,32]++fdT6 K6 (gD (d.f 4).l i)++[10]) (d.f 4).l.length++[125,10]:=by
    unfold dfT hdS zCd
    rw [if_neg (by omega),hwd,hfc,eP]
    rw [if_neg (by omega),if_neg (by omega)]
    rfl
   rw [e] at zD |-
   simp only [List.length_append,List.length_cons,List.length_nil] at zD
   clear e hwd
   refine zN 139 Tryz.func43 rfl rfl rfl rfl ?_
   intro s w he
   repeat' (first
|apply zG
 . conv=>lhs;whnf
 . assumption
|apply zC
 . conv=>lhs;whnf
 . assumption
|refine zA ?_
|refine zB ?_
|refine zH ?_
|apply aw_1
 conv=>whnf
 refine ⟨?_,trivial⟩
|apply s_1
 conv=>whnf;arg 1;arg 4;arg 3;whnf
 refine ⟨?_,?_⟩
|apply ze rfl
 . conv=>lhs;whnf
 . conv=>lhs;whnf
 . first | exact hjf
|apply zAL rfl rfl rfl rfl
 . conv=>lhs;whnf;arg 1;whnf
 . rfl
|exact trivial)
   all_goals first
    |(simp only [ByteArray.size_append,zW,zt,List.size_toArray,List.length_append,List.length_cons,List.length_nil,maxLen,Int.toNat_natCast,Nat.zero_add,Nat.reduceAdd];omega)
    |skip
   refine zg (Sub.own (t:=3) (e:=9) rfl rfl) ?_
   refine zi (fun j st => ∃ i,i+j=(d.f 4).l.length/\Sub (cx EN Tryz.prog s w he) st (HbL d P (fun i=>fdT6 K6 (gD (d.f 4).l i)) 85 50 (d.f 4).l i)) (d.f 4).l.length ⟨0,by omega,Sub.live ⟨rfl,rfl,?_,rfl,rfl,rfl,trivial⟩ ⟨rfl,rfl,trivial⟩⟩ ?_
   . refine zAQ ?_
     rw [<- eP]
     simp only [zAB,zBD,zAP,List.append_assoc]
   rintro j st ⟨i,hij,hs2⟩
   refine zg hs2 ?_
   clear hs2
   have htk:=zAH (fun i=>fdT6 K6 (gD (d.f 4).l i)) i
   by_cases hi:i<(d.f 4).l.length
   . have f1:decide ((i:Int)<((d.f 4).l.length:Nat))=true:=decide_eq_true (by omega)
     have hbg:=zAE hi
     have hc:=zFa (h.fds i hi) ((hw.f 4).l i) (by omega)
     repeat' (first
|apply zG
 . conv=>lhs;whnf
 . assumption
|refine zA ?_
|refine zB ?_
|refine zH ?_
|refine zR ?_
|apply aw_1
 conv=>whnf
 refine ⟨?_,trivial⟩
|apply s_1
 conv=>whnf;arg 1;arg 4;arg 3;whnf
 refine ⟨?_,?_⟩
|apply ze rfl
 . conv=>lhs;whnf
 . conv=>lhs;whnf
 . first | exact hc
|apply zS rfl rfl rfl
 . conv=>lhs;whnf
 . conv=>lhs;whnf;arg 1;whnf
 . conv=>lhs;whnf;arg 1;whnf
 . exact ⟨by kernel_rfl,by kernel_rfl⟩
 . rfl
|apply zBf rfl rfl
 . conv=>lhs;whnf
 . first | exact zm | (conv=>lhs;whnf;arg 1;whnf)
 . first | exact fun _=>rfl | (intro _;kernel_rfl)
 . conv=>lhs;whnf
 . conv=>lhs;whnf;arg 1;whnf
 . conv=>lhs;whnf
|apply zBb rfl rfl
 . conv=>lhs;whnf
 . first | exact zm | (conv=>lhs;whnf;arg 1;whnf)
 . conv=>lhs;whnf;arg 1;whnf
 . rfl
 . rfl
|exact trivial)
     all_goals first
      |exact zU (by omega)
      |exact zAI hi
      |exact zCG (by omega) (by omega)
      |(refine zI (j':=j-1) (by omega) ⟨i+1,by omega,Sub.live ⟨rfl,?_,rfl,rfl,rfl,rfl,trivial⟩ ⟨rfl,?_,trivial⟩⟩
        . show V.own 3 _ (zAA _ i++[.str (bs (fdT6 K6 (gD (d.f 4).l i)))])=_
          rw [zx]
          skip
        . show some (Res.tok _ ((zAA _ i).length+1))=_
          rw [zx,List.length_append];rfl)
      |(simp only [ByteArray.size_append,zW,zt,List.size_toArray,List.length_append,List.length_cons,List.length_nil,maxLen,Int.toNat_natCast,Nat.zero_add,Nat.reduceAdd];omega)
      |skip
   have f1:decide ((i:Int)<((d.f 4).l.length:Nat))=false:=decide_eq_false (by omega)
   have ei:i=(d.f 4).l.length:=by omega
   subst ei
   repeat' (first
|apply zC
 . conv=>lhs;whnf
 . assumption
|refine zA ?_
|refine zB ?_
|refine zH ?_
|refine zR ?_
|apply aw_1
 conv=>whnf
 refine ⟨?_,trivial⟩
|apply s_1
 conv=>whnf;arg 1;arg 4;arg 3;whnf
 refine ⟨?_,?_⟩
|apply ze rfl
 . conv=>lhs;whnf
 . conv=>lhs;whnf
 . first | exact hT
|refine zM ?_
|refine zK rfl ?_
|refine zJ ?_
|exact trivial)
   all_goals first
    |(simp only [ByteArray.size_append,zW,zt,List.size_toArray,List.length_append,List.length_cons,List.length_nil,maxLen,Int.toNat_natCast,Nat.zero_add,Nat.reduceAdd];omega)
    |skip
   refine zi (fun j st => ∃ i,i+j=(d.f 4).l.length/\Sub (cx EN Tryz.prog s w he) st (HbT (P++zAV K6 (d.f 3).l++[32,123,10]) (fun i=>fdT6 K6 (gD (d.f 4).l i)) (d.f 4).l.length i)) (d.f 4).l.length ⟨0,by omega,Sub.live ⟨?_,rfl,?_,rfl,trivial⟩ trivial⟩ ?_
   . refine zAQ ?_
     show _=tx (bs (P++zAV K6 (d.f 3).l++[32,123,10]++[]))
     simp only [zAB,zBD,zAP,List.append_nil]
   . show V.c (.int .i64 ((zAA _ _).length:Int))=_
     rw [htk]
   rintro j st ⟨i,hij2,hs2⟩
   refine zg hs2 ?_
   clear hs2
   by_cases hi:i<(d.f 4).l.length
   . have f2:decide ((i:Int)<((d.f 4).l.length:Nat))=true:=decide_eq_true (by omega)
     have hpt:=zCC (fun i=>[32,32]++fdT6 K6 (gD (d.f 4).l i)++[10]) hi
     have hat:=zCj (fun i=>fdT6 K6 (gD (d.f 4).l i)) hi
     try dsimp only at hpt
     try dsimp only at hat
     simp only [List.length_append,List.length_cons,List.length_nil] at hpt
     repeat' (first
|apply zG
 . conv=>lhs;whnf
 . assumption
|refine zA ?_
|refine zB ?_
|refine zH ?_
|refine zR ?_
|apply aw_1
 conv=>whnf
 refine ⟨?_,trivial⟩
|apply s_1
 conv=>whnf;arg 1;arg 4;arg 3;whnf
 refine ⟨?_,?_⟩
|exact trivial)
     all_goals first
      |exact zU (by omega)
      |exact zAI hi
      |(refine zI (j':=j-1) (by omega) ⟨i+1,by omega,Sub.live ⟨?_,rfl,rfl,rfl,trivial⟩ trivial⟩
        refine zAQ ?_
        rw [zCy,hat]
        simp only [zAB,zBD,zAP,List.append_assoc])
      |(rw [hat];(simp only [ByteArray.size_append,zW,zt,List.size_toArray,List.length_append,List.length_cons,List.length_nil,maxLen,Int.toNat_natCast,Nat.zero_add,Nat.reduceAdd];omega))
      |(simp only [ByteArray.size_append,zW,zt,List.size_toArray,List.length_append,List.length_cons,List.length_nil,maxLen,Int.toNat_natCast,Nat.zero_add,Nat.reduceAdd];omega)
      |(rw [htk];exact zAI hi)
      |skip
   . have f2:decide ((i:Int)<((d.f 4).l.length:Nat))=false:=decide_eq_false (by omega)
     have ei:i=(d.f 4).l.length:=by omega
     subst ei
     repeat' (first
|apply zC
 . conv=>lhs;whnf
 . assumption
|refine zA ?_
|refine zB ?_
|refine zH ?_
|apply aw_1
 conv=>whnf
 refine ⟨?_,trivial⟩
|apply s_1
 conv=>whnf;arg 1;arg 4;arg 3;whnf
 refine ⟨?_,?_⟩
|refine zM ?_
|refine zK rfl ?_
|refine zJ ?_
|refine zE ?_
|refine ⟨_,by conv=>lhs;whnf;arg 2;whnf,?_⟩;conv=>rhs;whnf
|exact trivial)
     all_goals first
      |(refine zAQ ?_;simp only [zAB,zBD,zAP,List.append_assoc];done)
      |(simp only [ByteArray.size_append,zW,zt,List.size_toArray,List.length_append,List.length_cons,List.length_nil,maxLen,Int.toNat_natCast,Nat.zero_add,Nat.reduceAdd];omega)
      |skip
 . have g3:((d.f 0).n==3)=false:=by rw [h0];rfl
   have g1:((d.f 0).n==1)=true:=by rw [h0];rfl
   have g4:((d.f 0).n==4)=false:=by rw [h0];rfl
   have gf:decide (((d.f 2).l.length:Int)>0)=false:=decide_eq_false (by omega)
   have hwd:zBt (d.f 0).n++[32]=[116,121,112,101,32]:=by rw [h0];rfl
   have hfc:fcT6 d=[]:=by unfold fcT6;rw [if_neg (fun q=>h2 q.2)]
   obtain ⟨P,eP⟩ : ∃ P,[116,121,112,101,32]++tx (d.f 1).s=P:=⟨_,rfl⟩
   have e:dfT K6 d=P++zAV K6 (d.f 3).l++[32,123,10]++flatN (fun i=>[32,32]++fdT6 K6 (gD (d.f 4).l i)++[10]) (d.f 4).l.length++[125,10]:=by
    unfold dfT hdS zCd
    rw [if_neg (by omega),hwd,hfc,List.append_nil,eP]
    rw [if_neg (by omega),if_neg (by omega)]
    rfl
   rw [e] at zD |-
   simp only [List.length_append,List.length_cons,List.length_nil] at zD
   clear e hwd
   refine zN 139 Tryz.func43 rfl rfl rfl rfl ?_
   intro s w he
   repeat' (first
|apply zG
 . conv=>lhs;whnf
 . assumption
|apply zC
 . conv=>lhs;whnf
 . assumption
|refine zA ?_
|refine zB ?_
|refine zH ?_
|apply aw_1
 conv=>whnf
 refine ⟨?_,trivial⟩
|apply s_1
 conv=>whnf;arg 1;arg 4;arg 3;whnf
 refine ⟨?_,?_⟩
|apply zAL rfl rfl rfl rfl
 . conv=>lhs;whnf;arg 1;whnf
 . rfl
|exact trivial)
   all_goals first
    |(simp only [ByteArray.size_append,zW,zt,List.size_toArray,List.length_append,List.length_cons,List.length_nil,maxLen,Int.toNat_natCast,Nat.zero_add,Nat.reduceAdd];omega)
    |skip
   refine zg (Sub.own (t:=3) (e:=9) rfl rfl) ?_
   refine zi (fun j st => ∃ i,i+j=(d.f 4).l.length/\Sub (cx EN Tryz.prog s w he) st (HbL d P (fun i=>fdT6 K6 (gD (d.f 4).l i)) 85 50 (d.f 4).l i)) (d.f 4).l.length ⟨0,by omega,Sub.live ⟨rfl,rfl,?_,rfl,rfl,rfl,trivial⟩ ⟨rfl,rfl,trivial⟩⟩ ?_
   . refine zAQ ?_
     rw [<- eP]
     simp only [zAB,zBD,zAP,List.append_assoc]
   rintro j st ⟨i,hij,hs2⟩
   refine zg hs2 ?_
   clear hs2
   have htk:=zAH (fun i=>fdT6 K6 (gD (d.f 4).l i)) i
   by_cases hi:i<(d.f 4).l.length
   . have f1:decide ((i:Int)<((d.f 4).l.length:Nat))=true:=decide_eq_true (by omega)
     have hbg:=zAE hi
     have hc:=zFa (h.fds i hi) ((hw.f 4).l i) (by omega)
     repeat' (first
|apply zG
 . conv=>lhs;whnf
 . assumption
|refine zA ?_
|refine zB ?_
|refine zH ?_
|refine zR ?_
|apply aw_1
 conv=>whnf
 refine ⟨?_,trivial⟩
|apply s_1
 conv=>whnf;arg 1;arg 4;arg 3;whnf
 refine ⟨?_,?_⟩
|apply ze rfl
 . conv=>lhs;whnf
 . conv=>lhs;whnf
 . first | exact hc
|apply zS rfl rfl rfl
 . conv=>lhs;whnf
 . conv=>lhs;whnf;arg 1;whnf
 . conv=>lhs;whnf;arg 1;whnf
 . exact ⟨by kernel_rfl,by kernel_rfl⟩
 . rfl
|apply zBf rfl rfl
 . conv=>lhs;whnf
 . first | exact zm | (conv=>lhs;whnf;arg 1;whnf)
 . first | exact fun _=>rfl | (intro _;kernel_rfl)
 . conv=>lhs;whnf
 . conv=>lhs;whnf;arg 1;whnf
 . conv=>lhs;whnf
|apply zBb rfl rfl
 . conv=>lhs;whnf
 . first | exact zm | (conv=>lhs;whnf;arg 1;whnf)
 . conv=>lhs;whnf;arg 1;whnf
 . rfl
 . rfl
|exact trivial)
     all_goals first
      |exact zU (by omega)
      |exact zAI hi
      |exact zCG (by omega) (by omega)
      |(refine zI (j':=j-1) (by omega) ⟨i+1,by omega,Sub.live ⟨rfl,?_,rfl,rfl,rfl,rfl,trivial⟩ ⟨rfl,?_,trivial⟩⟩
        . show V.own 3 _ (zAA _ i++[.str (bs (fdT6 K6 (gD (d.f 4).l i)))])=_
          rw [zx]
          skip
        . show some (Res.tok _ ((zAA _ i).length+1))=_
          rw [zx,List.length_append];rfl)
      |(simp only [ByteArray.size_append,zW,zt,List.size_toArray,List.length_append,List.length_cons,List.length_nil,maxLen,Int.toNat_natCast,Nat.zero_add,Nat.reduceAdd];omega)
      |skip
   have f1:decide ((i:Int)<((d.f 4).l.length:Nat))=false:=decide_eq_false (by omega)
   have ei:i=(d.f 4).l.length:=by omega
   subst ei
   repeat' (first
|apply zC
 . conv=>lhs;whnf
 . assumption
|refine zA ?_
|refine zB ?_
|refine zH ?_
|refine zR ?_
|apply aw_1
 conv=>whnf
 refine ⟨?_,trivial⟩
|apply s_1
 conv=>whnf;arg 1;arg 4;arg 3;whnf
 refine ⟨?_,?_⟩
|apply ze rfl
 . conv=>lhs;whnf
 . conv=>lhs;whnf
 . first | exact hT
|refine zM ?_
|refine zK rfl ?_
|refine zJ ?_
|exact trivial)
   all_goals first
    |(simp only [ByteArray.size_append,zW,zt,List.size_toArray,List.length_append,List.length_cons,List.length_nil,maxLen,Int.toNat_natCast,Nat.zero_add,Nat.reduceAdd];omega)
    |skip
   refine zi (fun j st => ∃ i,i+j=(d.f 4).l.length/\Sub (cx EN Tryz.prog s w he) st (HbT (P++zAV K6 (d.f 3).l++[32,123,10]) (fun i=>fdT6 K6 (gD (d.f 4).l i)) (d.f 4).l.length i)) (d.f 4).l.length ⟨0,by omega,Sub.live ⟨?_,rfl,?_,rfl,trivial⟩ trivial⟩ ?_
   . refine zAQ ?_
     show _=tx (bs (P++zAV K6 (d.f 3).l++[32,123,10]++[]))
     simp only [zAB,zBD,zAP,List.append_nil]
   . show V.c (.int .i64 ((zAA _ _).length:Int))=_
     rw [htk]
   rintro j st ⟨i,hij2,hs2⟩
   refine zg hs2 ?_
   clear hs2
   by_cases hi:i<(d.f 4).l.length
   . have f2:decide ((i:Int)<((d.f 4).l.length:Nat))=true:=decide_eq_true (by omega)
     have hpt:=zCC (fun i=>[32,32]++fdT6 K6 (gD (d.f 4).l i)++[10]) hi
     have hat:=zCj (fun i=>fdT6 K6 (gD (d.f 4).l i)) hi
     try dsimp only at hpt
     try dsimp only at hat
     simp only [List.length_append,List.length_cons,List.length_nil] at hpt
     repeat' (first
|apply zG
 . conv=>lhs;whnf
 . assumption
|refine zA ?_
|refine zB ?_
|refine zH ?_
|refine zR ?_
|apply aw_1
 conv=>whnf
 refine ⟨?_,trivial⟩
|apply s_1
 conv=>whnf;arg 1;arg 4;arg 3;whnf
 refine ⟨?_,?_⟩
|exact trivial)
     all_goals first
      |exact zU (by omega)
      |exact zAI hi
      |(refine zI (j':=j-1) (by omega) ⟨i+1,by omega,Sub.live ⟨?_,rfl,rfl,rfl,trivial⟩ trivial⟩
        refine zAQ ?_
        rw [zCy,hat]
        simp only [zAB,zBD,zAP,List.append_assoc])
      |(rw [hat];(simp only [ByteArray.size_append,zW,zt,List.size_toArray,List.length_append,List.length_cons,List.length_nil,maxLen,Int.toNat_natCast,Nat.zero_add,Nat.reduceAdd];omega))
      |(simp only [ByteArray.size_append,zW,zt,List.size_toArray,List.length_append,List.length_cons,List.length_nil,maxLen,Int.toNat_natCast,Nat.zero_add,Nat.reduceAdd];omega)
      |(rw [htk];exact zAI hi)
      |skip
   . have f2:decide ((i:Int)<((d.f 4).l.length:Nat))=false:=decide_eq_false (by omega)
     have ei:i=(d.f 4).l.length:=by omega
     subst ei
     repeat' (first
|apply zC
 . conv=>lhs;whnf
 . assumption
|refine zA ?_
|refine zB ?_
|refine zH ?_
|apply aw_1
 conv=>whnf
 refine ⟨?_,trivial⟩
|apply s_1
 conv=>whnf;arg 1;arg 4;arg 3;whnf
 refine ⟨?_,?_⟩
|refine zM ?_
|refine zK rfl ?_
|refine zJ ?_
|refine zE ?_
|refine ⟨_,by conv=>lhs;whnf;arg 2;whnf,?_⟩;conv=>rhs;whnf
|exact trivial)
     all_goals first
      |(refine zAQ ?_;simp only [zAB,zBD,zAP,List.append_assoc];done)
      |(simp only [ByteArray.size_append,zW,zt,List.size_toArray,List.length_append,List.length_cons,List.length_nil,maxLen,Int.toNat_natCast,Nat.zero_add,Nat.reduceAdd];omega)
      |skip
 . have g3:((d.f 0).n==3)=false:=by rw [h0];rfl
   have g1:((d.f 0).n==1)=false:=by rw [h0];rfl
   have g2:((d.f 0).n==2)=true:=by rw [h0];rfl
   have g4:((d.f 0).n==4)=false:=by rw [h0];rfl
   have hwd:zBt (d.f 0).n++[32]=[105,110,116,101,114,102,97,99,101,32]:=by rw [h0];rfl
   have hfc:fcT6 d=[]:=by unfold fcT6;rw [if_neg (fun q=>by omega)]
   obtain ⟨P,eP⟩ : ∃ P,[105,110,116,101,114,102,97,99,101,32]++tx (d.f 1).s=P:=⟨_,rfl⟩
   have e:dfT K6 d=P++zAV K6 (d.f 3).l++[32,123,10]++flatN (fun i=>[32,32]++fdT6 K6 (gD (d.f 4).l i)++[10]) (d.f 4).l.length++[125,10]:=by
    unfold dfT hdS zCd
    rw [if_neg (by omega),hwd,hfc,List.append_nil,eP]
    rw [if_neg (by omega),if_neg (by omega)]
    rfl
   rw [e] at zD |-
   simp only [List.length_append,List.length_cons,List.length_nil] at zD
   clear e hwd
   refine zN 139 Tryz.func43 rfl rfl rfl rfl ?_
   intro s w he
   repeat' (first
|apply zG
 . conv=>lhs;whnf
 . assumption
|apply zC
 . conv=>lhs;whnf
 . assumption
|refine zA ?_
|refine zB ?_
|refine zH ?_
|apply aw_1
 conv=>whnf
 refine ⟨?_,trivial⟩
|apply s_1
 conv=>whnf;arg 1;arg 4;arg 3;whnf
 refine ⟨?_,?_⟩
|apply zAL rfl rfl rfl rfl
 . conv=>lhs;whnf;arg 1;whnf
 . rfl
|exact trivial)
   all_goals first
    |(simp only [ByteArray.size_append,zW,zt,List.size_toArray,List.length_append,List.length_cons,List.length_nil,maxLen,Int.toNat_natCast,Nat.zero_add,Nat.reduceAdd];omega)
    |skip
   refine zg (Sub.own (t:=3) (e:=9) rfl rfl) ?_
   refine zi (fun j st => ∃ i,i+j=(d.f 4).l.length/\Sub (cx EN Tryz.prog s w he) st (HbL d P (fun i=>fdT6 K6 (gD (d.f 4).l i)) 85 50 (d.f 4).l i)) (d.f 4).l.length ⟨0,by omega,Sub.live ⟨rfl,rfl,?_,rfl,rfl,rfl,trivial⟩ ⟨rfl,rfl,trivial⟩⟩ ?_
   . refine zAQ ?_
     rw [<- eP]
     simp only [zAB,zBD,zAP,List.append_assoc]
   rintro j st ⟨i,hij,hs2⟩
   refine zg hs2 ?_
   clear hs2
   have htk:=zAH (fun i=>fdT6 K6 (gD (d.f 4).l i)) i
   by_cases hi:i<(d.f 4).l.length
   . have f1:decide ((i:Int)<((d.f 4).l.length:Nat))=true:=decide_eq_true (by omega)
     have hbg:=zAE hi
     have hc:=zFa (h.fds i hi) ((hw.f 4).l i) (by omega)
     repeat' (first
|apply zG
 . conv=>lhs;whnf
 . assumption
|refine zA ?_
|refine zB ?_
|refine zH ?_
|refine zR ?_
|apply aw_1
 conv=>whnf
 refine ⟨?_,trivial⟩
|apply s_1
 conv=>whnf;arg 1;arg 4;arg 3;whnf
 refine ⟨?_,?_⟩
|apply ze rfl
 . conv=>lhs;whnf
 . conv=>lhs;whnf
 . first | exact hc
|apply zS rfl rfl rfl
 . conv=>lhs;whnf
 . conv=>lhs;whnf;arg 1;whnf
 . conv=>lhs;whnf;arg 1;whnf
 . exact ⟨by kernel_rfl,by kernel_rfl⟩
 . rfl
|apply zBf rfl rfl
 . conv=>lhs;whnf
 . first | exact zm | (conv=>lhs;whnf;arg 1;whnf)
 . first | exact fun _=>rfl | (intro _;kernel_rfl)
 . conv=>lhs;whnf
 . conv=>lhs;whnf;arg 1;whnf
 . conv=>lhs;whnf
|apply zBb rfl rfl
 . conv=>lhs;whnf
 . first | exact zm | (conv=>lhs;whnf;arg 1;whnf)
 . conv=>lhs;whnf;arg 1;whnf
 . rfl
 . rfl
|exact trivial)
     all_goals first
      |exact zU (by omega)
      |exact zAI hi
      |exact zCG (by omega) (by omega)
      |(refine zI (j':=j-1) (by omega) ⟨i+1,by omega,Sub.live ⟨rfl,?_,rfl,rfl,rfl,rfl,trivial⟩ ⟨rfl,?_,trivial⟩⟩
        . show V.own 3 _ (zAA _ i++[.str (bs (fdT6 K6 (gD (d.f 4).l i)))])=_
          rw [zx]
          skip
        . show some (Res.tok _ ((zAA _ i).length+1))=_
          rw [zx,List.length_append];rfl)
      |(simp only [ByteArray.size_append,zW,zt,List.size_toArray,List.length_append,List.length_cons,List.length_nil,maxLen,Int.toNat_natCast,Nat.zero_add,Nat.reduceAdd];omega)
      |skip
   have f1:decide ((i:Int)<((d.f 4).l.length:Nat))=false:=decide_eq_false (by omega)
   have ei:i=(d.f 4).l.length:=by omega
   subst ei
   repeat' (first
|apply zC
 . conv=>lhs;whnf
 . assumption
|refine zA ?_
|refine zB ?_
|refine zH ?_
|refine zR ?_
|apply aw_1
 conv=>whnf
 refine ⟨?_,trivial⟩
|apply s_1
 conv=>whnf;arg 1;arg 4;arg 3;whnf
 refine ⟨?_,?_⟩
|apply ze rfl
 . conv=>lhs;whnf
 . conv=>lhs;whnf
 . first | exact hT
|refine zM ?_
|refine zK rfl ?_
|refine zJ ?_
|exact trivial)
   all_goals first
    |(simp only [ByteArray.size_append,zW,zt,List.size_toArray,List.length_append,List.length_cons,List.length_nil,maxLen,Int.toNat_natCast,Nat.zero_add,Nat.reduceAdd];omega)
    |skip
   refine zi (fun j st => ∃ i,i+j=(d.f 4).l.length/\Sub (cx EN Tryz.prog s w he) st (HbT (P++zAV K6 (d.f 3).l++[32,123,10]) (fun i=>fdT6 K6 (gD (d.f 4).l i)) (d.f 4).l.length i)) (d.f 4).l.length ⟨0,by omega,Sub.live ⟨?_,rfl,?_,rfl,trivial⟩ trivial⟩ ?_
   . refine zAQ ?_
     show _=tx (bs (P++zAV K6 (d.f 3).l++[32,123,10]++[]))
     simp only [zAB,zBD,zAP,List.append_nil]
   . show V.c (.int .i64 ((zAA _ _).length:Int))=_
     rw [htk]
   rintro j st ⟨i,hij2,hs2⟩
   refine zg hs2 ?_
   clear hs2
   by_cases hi:i<(d.f 4).l.length
   . have f2:decide ((i:Int)<((d.f 4).l.length:Nat))=true:=decide_eq_true (by omega)
     have hpt:=zCC (fun i=>[32,32]++fdT6 K6 (gD (d.f 4).l i)++[10]) hi
     have hat:=zCj (fun i=>fdT6 K6 (gD (d.f 4).l i)) hi
     try dsimp only at hpt
     try dsimp only at hat
     simp only [List.length_append,List.length_cons,List.length_nil] at hpt
     repeat' (first
|apply zG
 . conv=>lhs;whnf
 . assumption
|refine zA ?_
|refine zB ?_
|refine zH ?_
|refine zR ?_
|apply aw_1
 conv=>whnf
 refine ⟨?_,trivial⟩
|apply s_1
 conv=>whnf;arg 1;arg 4;arg 3;whnf
 refine ⟨?_,?_⟩
|exact trivial)
     all_goals first
      |exact zU (by omega)
      |exact zAI hi
      |(refine zI (j':=j-1) (by omega) ⟨i+1,by omega,Sub.live ⟨?_,rfl,rfl,rfl,trivial⟩ trivial⟩
        refine zAQ ?_
        rw [zCy,hat]
        simp only [zAB,zBD,zAP,List.append_assoc])
      |(rw [hat];(simp only [ByteArray.size_append,zW,zt,List.size_toArray,List.length_append,List.length_cons,List.length_nil,maxLen,Int.toNat_natCast,Nat.zero_add,Nat.reduceAdd];omega))
      |(simp only [ByteArray.size_append,zW,zt,List.size_toArray,List.length_append,List.length_cons,List.length_nil,maxLen,Int.toNat_natCast,Nat.zero_add,Nat.reduceAdd];omega)
      |(rw [htk];exact zAI hi)
      |skip
   . have f2:decide ((i:Int)<((d.f 4).l.length:Nat))=false:=decide_eq_false (by omega)
     have ei:i=(d.f 4).l.length:=by omega
     subst ei
     repeat' (first
|apply zC
 . conv=>lhs;whnf
 . assumption
|refine zA ?_
|refine zB ?_
|refine zH ?_
|apply aw_1
 conv=>whnf
 refine ⟨?_,trivial⟩
|apply s_1
 conv=>whnf;arg 1;arg 4;arg 3;whnf
 refine ⟨?_,?_⟩
|refine zM ?_
|refine zK rfl ?_
|refine zJ ?_
|refine zE ?_
|refine ⟨_,by conv=>lhs;whnf;arg 2;whnf,?_⟩;conv=>rhs;whnf
|exact trivial)
     all_goals first
      |(refine zAQ ?_;simp only [zAB,zBD,zAP,List.append_assoc];done)
      |(simp only [ByteArray.size_append,zW,zt,List.size_toArray,List.length_append,List.length_cons,List.length_nil,maxLen,Int.toNat_natCast,Nat.zero_add,Nat.reduceAdd];omega)
      |skip
 . have g3:((d.f 0).n==3)=false:=by rw [h0];rfl
   have g1:((d.f 0).n==1)=false:=by rw [h0];rfl
   have g2:((d.f 0).n==2)=false:=by rw [h0];rfl
   have g4:((d.f 0).n==4)=true:=by rw [h0];rfl
   have hwd:zBt (d.f 0).n++[32]=[101,110,117,109,32]:=by rw [h0];rfl
   have hfc:fcT6 d=[]:=by unfold fcT6;rw [if_neg (fun q=>by omega)]
   obtain ⟨P,eP⟩ : ∃ P,[101,110,117,109,32]++tx (d.f 1).s=P:=⟨_,rfl⟩
   have e:dfT K6 d=P++zAV K6 (d.f 3).l++[32,123,10]++flatN (fun i=>[32,32]++mbT6 K6 (gD (d.f 5).l i)++[10]) (d.f 5).l.length++[125,10]:=by
    unfold dfT hdS zCd
    rw [if_neg (by omega),hwd,hfc,List.append_nil,eP]
    rw [if_neg (by omega),if_pos h0]
    rfl
   rw [e] at zD |-
   simp only [List.length_append,List.length_cons,List.length_nil] at zD
   clear e hwd
   refine zN 139 Tryz.func43 rfl rfl rfl rfl ?_
   intro s w he
   repeat' (first
|apply zG
 . conv=>lhs;whnf
 . assumption
|apply zC
 . conv=>lhs;whnf
 . assumption
|refine zA ?_
|refine zB ?_
|refine zH ?_
|apply aw_1
 conv=>whnf
 refine ⟨?_,trivial⟩
|apply s_1
 conv=>whnf;arg 1;arg 4;arg 3;whnf
 refine ⟨?_,?_⟩
|apply zAL rfl rfl rfl rfl
 . conv=>lhs;whnf;arg 1;whnf
 . rfl
|exact trivial)
   all_goals first
    |(simp only [ByteArray.size_append,zW,zt,List.size_toArray,List.length_append,List.length_cons,List.length_nil,maxLen,Int.toNat_natCast,Nat.zero_add,Nat.reduceAdd];omega)
    |skip
   refine zg (Sub.own (t:=3) (e:=9) rfl rfl) ?_
   refine zi (fun j st => ∃ i,i+j=(d.f 5).l.length/\Sub (cx EN Tryz.prog s w he) st (HbL d P (fun i=>mbT6 K6 (gD (d.f 5).l i)) 103 79 (d.f 5).l i)) (d.f 5).l.length ⟨0,by omega,Sub.live ⟨rfl,rfl,?_,rfl,rfl,rfl,trivial⟩ ⟨rfl,rfl,trivial⟩⟩ ?_
   . refine zAQ ?_
     rw [<- eP]
     simp only [zAB,zBD,zAP,List.append_assoc]
   rintro j st ⟨i,hij,hs2⟩
   refine zg hs2 ?_
   clear hs2
   have htk:=zAH (fun i=>mbT6 K6 (gD (d.f 5).l i)) i
   by_cases hi:i<(d.f 5).l.length
   . have f1:decide ((i:Int)<((d.f 5).l.length:Nat))=true:=decide_eq_true (by omega)
     have hbg:=zAE hi
     have hx:=h.mbs i hi
     have wm:=zb (gD (d.f 5).l i)
     have wm1:=zAJ (gD (d.f 5).l i) 2
     simp only [sumN] at wm1
     have wm0:=zAX ((gD (d.f 5).l i).f 0)
     have wm2:=zn ((gD (d.f 5).l i).f 1)
     have zc:=zAw K6 ((gD (d.f 5).l i).f 1).l (((hw.f 5).l i).f 1).l
     have hc:=zEr (dok6 hx.dirs (((hw.f 5).l i).f 1).l (by omega))
     have mb_eq:bs (mbT6 K6 (gD (d.f 5).l i))=((gD (d.f 5).l i).f 0).s++bs (zAV K6 ((gD (d.f 5).l i).f 1).l):=by
      unfold mbT6;rw [<- zAS,zEO]
     repeat' (first
|apply zG
 . conv=>lhs;whnf
 . assumption
|refine zA ?_
|refine zB ?_
|refine zH ?_
|refine zR ?_
|apply aw_1
 conv=>whnf
 refine ⟨?_,trivial⟩
|apply s_1
 conv=>whnf;arg 1;arg 4;arg 3;whnf
 refine ⟨?_,?_⟩
|apply zS rfl rfl rfl
 . conv=>lhs;whnf
 . conv=>lhs;whnf;arg 1;whnf
 . conv=>lhs;whnf;arg 1;whnf
 . exact ⟨by kernel_rfl,by kernel_rfl⟩
 . rfl
|apply zAF (by kernel_rfl) (by kernel_rfl)
|apply zAs
|apply zAr rfl
 . conv=>lhs;whnf
 . conv=>lhs;whnf;arg 2;whnf
|apply zBa rfl
 . conv=>lhs;whnf
 . conv=>lhs;whnf
 . first | exact hc
|apply zIo rfl rfl
 . conv=>lhs;whnf
 . first | exact zm | (conv=>lhs;whnf;arg 1;whnf)
 . first | exact fun _=>rfl | (intro _;kernel_rfl)
 . conv=>lhs;whnf
 . rfl
 . rfl
 . conv=>lhs;whnf;arg 1;whnf
 . conv=>lhs;whnf
|apply zEy rfl rfl
 . conv=>lhs;whnf
 . first | exact zm | (conv=>lhs;whnf;arg 1;whnf)
 . conv=>lhs;whnf;arg 1;whnf
 . rfl
 . rfl
|exact zk
|show zA9 _ _=true;rfl
|exact trivial)
     all_goals first
      |exact zU (by omega)
      |exact zAI hi
      |exact zCG (by omega) (by omega)
      |(refine zI (j':=j-1) (by omega) ⟨i+1,by omega,Sub.live ⟨rfl,?_,rfl,rfl,rfl,rfl,trivial⟩ ⟨rfl,?_,trivial⟩⟩
        . show V.own 3 _ (zAA _ i++[.str (((gD (d.f 5).l i).f 0).s++bs (zAV K6 ((gD (d.f 5).l i).f 1).l))])=_
          rw [zx]
          rw [mb_eq]
        . show some (Res.tok _ ((zAA _ i).length+1))=_
          rw [zx,List.length_append];rfl)
      |(simp only [ByteArray.size_append,zW,zt,List.size_toArray,List.length_append,List.length_cons,List.length_nil,maxLen,Int.toNat_natCast,Nat.zero_add,Nat.reduceAdd];omega)
      |skip
   have f1:decide ((i:Int)<((d.f 5).l.length:Nat))=false:=decide_eq_false (by omega)
   have ei:i=(d.f 5).l.length:=by omega
   subst ei
   repeat' (first
|apply zC
 . conv=>lhs;whnf
 . assumption
|refine zA ?_
|refine zB ?_
|refine zH ?_
|refine zR ?_
|apply aw_1
 conv=>whnf
 refine ⟨?_,trivial⟩
|apply s_1
 conv=>whnf;arg 1;arg 4;arg 3;whnf
 refine ⟨?_,?_⟩
|apply ze rfl
 . conv=>lhs;whnf
 . conv=>lhs;whnf
 . first | exact hT
|refine zM ?_
|refine zK rfl ?_
|refine zJ ?_
|exact trivial)
   all_goals first
    |(simp only [ByteArray.size_append,zW,zt,List.size_toArray,List.length_append,List.length_cons,List.length_nil,maxLen,Int.toNat_natCast,Nat.zero_add,Nat.reduceAdd];omega)
    |skip
   refine zi (fun j st => ∃ i,i+j=(d.f 5).l.length/\Sub (cx EN Tryz.prog s w he) st (HbT (P++zAV K6 (d.f 3).l++[32,123,10]) (fun i=>mbT6 K6 (gD (d.f 5).l i)) (d.f 5).l.length i)) (d.f 5).l.length ⟨0,by omega,Sub.live ⟨?_,rfl,?_,rfl,trivial⟩ trivial⟩ ?_
   . refine zAQ ?_
     show _=tx (bs (P++zAV K6 (d.f 3).l++[32,123,10]++[]))
     simp only [zAB,zBD,zAP,List.append_nil]
   . show V.c (.int .i64 ((zAA _ _).length:Int))=_
     rw [htk]
   rintro j st ⟨i,hij2,hs2⟩
   refine zg hs2 ?_
   clear hs2
   by_cases hi:i<(d.f 5).l.length
   . have f2:decide ((i:Int)<((d.f 5).l.length:Nat))=true:=decide_eq_true (by omega)
     have hpt:=zCC (fun i=>[32,32]++mbT6 K6 (gD (d.f 5).l i)++[10]) hi
     have hat:=zCj (fun i=>mbT6 K6 (gD (d.f 5).l i)) hi
     try dsimp only at hpt
     try dsimp only at hat
     simp only [List.length_append,List.length_cons,List.length_nil] at hpt
     repeat' (first
|apply zG
 . conv=>lhs;whnf
 . assumption
|refine zA ?_
|refine zB ?_
|refine zH ?_
|refine zR ?_
|apply aw_1
 conv=>whnf
 refine ⟨?_,trivial⟩
|apply s_1
 conv=>whnf;arg 1;arg 4;arg 3;whnf
 refine ⟨?_,?_⟩
|exact trivial)
     all_goals first
      |exact zU (by omega)
      |exact zAI hi
      |(refine zI (j':=j-1) (by omega) ⟨i+1,by omega,Sub.live ⟨?_,rfl,rfl,rfl,trivial⟩ trivial⟩
        refine zAQ ?_
        rw [zCy,hat]
        simp only [zAB,zBD,zAP,List.append_assoc])
      |(rw [hat];(simp only [ByteArray.size_append,zW,zt,List.size_toArray,List.length_append,List.length_cons,List.length_nil,maxLen,Int.toNat_natCast,Nat.zero_add,Nat.reduceAdd];omega))
      |(simp only [ByteArray.size_append,zW,zt,List.size_toArray,List.length_append,List.length_cons,List.length_nil,maxLen,Int.toNat_natCast,Nat.zero_add,Nat.reduceAdd];omega)
      |(rw [htk];exact zAI hi)
      |skip
   . have f2:decide ((i:Int)<((d.f 5).l.length:Nat))=false:=decide_eq_false (by omega)
     have ei:i=(d.f 5).l.length:=by omega
     subst ei
     repeat' (first
|apply zC
 . conv=>lhs;whnf
 . assumption
|refine zA ?_
|refine zB ?_
|refine zH ?_
|apply aw_1
 conv=>whnf
 refine ⟨?_,trivial⟩
|apply s_1
 conv=>whnf;arg 1;arg 4;arg 3;whnf
 refine ⟨?_,?_⟩
|refine zM ?_
|refine zK rfl ?_
|refine zJ ?_
|refine zE ?_
|refine ⟨_,by conv=>lhs;whnf;arg 2;whnf,?_⟩;conv=>rhs;whnf
|exact trivial)
     all_goals first
      |(refine zAQ ?_;simp only [zAB,zBD,zAP,List.append_assoc];done)
      |(simp only [ByteArray.size_append,zW,zt,List.size_toArray,List.length_append,List.length_cons,List.length_nil,maxLen,Int.toNat_natCast,Nat.zero_add,Nat.reduceAdd];omega)
      |skip
 . have g3:((d.f 0).n==3)=false:=by rw [h0];rfl
   have g1:((d.f 0).n==1)=false:=by rw [h0];rfl
   have g2:((d.f 0).n==2)=false:=by rw [h0];rfl
   have g4:((d.f 0).n==4)=false:=by rw [h0];rfl
   have hwd:zBt (d.f 0).n++[32]=[105,110,112,117,116,32]:=by rw [h0];rfl
   have hfc:fcT6 d=[]:=by unfold fcT6;rw [if_neg (fun q=>by omega)]
   obtain ⟨P,eP⟩ : ∃ P,[105,110,112,117,116,32]++tx (d.f 1).s=P:=⟨_,rfl⟩
   have e:dfT K6 d=P++zAV K6 (d.f 3).l++[32,123,10]++flatN (fun i=>[32,32]++inB6 K6 (gD (d.f 6).l i)++[10]) (d.f 6).l.length++[125,10]:=by
    unfold dfT hdS zCd
    rw [if_neg (by omega),hwd,hfc,List.append_nil,eP]
    rw [if_pos h0]
    rfl
   rw [e] at zD |-
   simp only [List.length_append,List.length_cons,List.length_nil] at zD
   clear e hwd
   refine zN 139 Tryz.func43 rfl rfl rfl rfl ?_
   intro s w he
   repeat' (first
|apply zC
 . conv=>lhs;whnf
 . assumption
|refine zA ?_
|refine zB ?_
|refine zH ?_
|apply aw_1
 conv=>whnf
 refine ⟨?_,trivial⟩
|apply s_1
 conv=>whnf;arg 1;arg 4;arg 3;whnf
 refine ⟨?_,?_⟩
|apply zAL rfl rfl rfl rfl
 . conv=>lhs;whnf;arg 1;whnf
 . rfl
|exact trivial)
   all_goals first
    |(simp only [ByteArray.size_append,zW,zt,List.size_toArray,List.length_append,List.length_cons,List.length_nil,maxLen,Int.toNat_natCast,Nat.zero_add,Nat.reduceAdd];omega)
    |skip
   refine zg (Sub.own (t:=3) (e:=9) rfl rfl) ?_
   refine zi (fun j st => ∃ i,i+j=(d.f 6).l.length/\Sub (cx EN Tryz.prog s w he) st (HbL d P (fun i=>inB6 K6 (gD (d.f 6).l i)) 23 55 (d.f 6).l i)) (d.f 6).l.length ⟨0,by omega,Sub.live ⟨rfl,rfl,?_,rfl,rfl,rfl,trivial⟩ ⟨rfl,rfl,trivial⟩⟩ ?_
   . refine zAQ ?_
     rw [<- eP]
     simp only [zAB,zBD,zAP,List.append_assoc]
   rintro j st ⟨i,hij,hs2⟩
   refine zg hs2 ?_
   clear hs2
   have htk:=zAH (fun i=>inB6 K6 (gD (d.f 6).l i)) i
   by_cases hi:i<(d.f 6).l.length
   . have f1:decide ((i:Int)<((d.f 6).l.length:Nat))=true:=decide_eq_true (by omega)
     have hbg:=zAE hi
     have hc:=zIM (h.ins.ins i hi) ((hw.f 6).l i) (by omega)
     repeat' (first
|apply zG
 . conv=>lhs;whnf
 . assumption
|refine zA ?_
|refine zB ?_
|refine zH ?_
|refine zR ?_
|apply aw_1
 conv=>whnf
 refine ⟨?_,trivial⟩
|apply s_1
 conv=>whnf;arg 1;arg 4;arg 3;whnf
 refine ⟨?_,?_⟩
|apply ze rfl
 . conv=>lhs;whnf
 . conv=>lhs;whnf
 . first | exact hc
|apply zS rfl rfl rfl
 . conv=>lhs;whnf
 . conv=>lhs;whnf;arg 1;whnf
 . conv=>lhs;whnf;arg 1;whnf
 . exact ⟨by kernel_rfl,by kernel_rfl⟩
 . rfl
|apply zBf rfl rfl
 . conv=>lhs;whnf
 . first | exact zm | (conv=>lhs;whnf;arg 1;whnf)
 . first | exact fun _=>rfl | (intro _;kernel_rfl)
 . conv=>lhs;whnf
 . conv=>lhs;whnf;arg 1;whnf
 . conv=>lhs;whnf
|apply zBb rfl rfl
 . conv=>lhs;whnf
 . first | exact zm | (conv=>lhs;whnf;arg 1;whnf)
 . conv=>lhs;whnf;arg 1;whnf
 . rfl
 . rfl
|exact trivial)
     all_goals first
      |exact zU (by omega)
      |exact zAI hi
      |exact zCG (by omega) (by omega)
      |(refine zI (j':=j-1) (by omega) ⟨i+1,by omega,Sub.live ⟨rfl,?_,rfl,rfl,rfl,rfl,trivial⟩ ⟨rfl,?_,trivial⟩⟩
        . show V.own 3 _ (zAA _ i++[.str (bs (inB6 K6 (gD (d.f 6).l i)))])=_
          rw [zx]
          skip
        . show some (Res.tok _ ((zAA _ i).length+1))=_
          rw [zx,List.length_append];rfl)
      |(simp only [ByteArray.size_append,zW,zt,List.size_toArray,List.length_append,List.length_cons,List.length_nil,maxLen,Int.toNat_natCast,Nat.zero_add,Nat.reduceAdd];omega)
      |skip
   have f1:decide ((i:Int)<((d.f 6).l.length:Nat))=false:=decide_eq_false (by omega)
   have ei:i=(d.f 6).l.length:=by omega
   subst ei
   repeat' (first
|apply zC
 . conv=>lhs;whnf
 . assumption
|refine zA ?_
|refine zB ?_
|refine zH ?_
|refine zR ?_
|apply aw_1
 conv=>whnf
 refine ⟨?_,trivial⟩
|apply s_1
 conv=>whnf;arg 1;arg 4;arg 3;whnf
 refine ⟨?_,?_⟩
|apply ze rfl
 . conv=>lhs;whnf
 . conv=>lhs;whnf
 . first | exact hT
|refine zM ?_
|refine zK rfl ?_
|refine zJ ?_
|exact trivial)
   all_goals first
    |(simp only [ByteArray.size_append,zW,zt,List.size_toArray,List.length_append,List.length_cons,List.length_nil,maxLen,Int.toNat_natCast,Nat.zero_add,Nat.reduceAdd];omega)
    |skip
   refine zi (fun j st => ∃ i,i+j=(d.f 6).l.length/\Sub (cx EN Tryz.prog s w he) st (HbT (P++zAV K6 (d.f 3).l++[32,123,10]) (fun i=>inB6 K6 (gD (d.f 6).l i)) (d.f 6).l.length i)) (d.f 6).l.length ⟨0,by omega,Sub.live ⟨?_,rfl,?_,rfl,trivial⟩ trivial⟩ ?_
   . refine zAQ ?_
     show _=tx (bs (P++zAV K6 (d.f 3).l++[32,123,10]++[]))
     simp only [zAB,zBD,zAP,List.append_nil]
   . show V.c (.int .i64 ((zAA _ _).length:Int))=_
     rw [htk]
   rintro j st ⟨i,hij2,hs2⟩
   refine zg hs2 ?_
   clear hs2
   by_cases hi:i<(d.f 6).l.length
   . have f2:decide ((i:Int)<((d.f 6).l.length:Nat))=true:=decide_eq_true (by omega)
     have hpt:=zCC (fun i=>[32,32]++inB6 K6 (gD (d.f 6).l i)++[10]) hi
     have hat:=zCj (fun i=>inB6 K6 (gD (d.f 6).l i)) hi
     try dsimp only at hpt
     try dsimp only at hat
     simp only [List.length_append,List.length_cons,List.length_nil] at hpt
     repeat' (first
|apply zG
 . conv=>lhs;whnf
 . assumption
|refine zA ?_
|refine zB ?_
|refine zH ?_
|refine zR ?_
|apply aw_1
 conv=>whnf
 refine ⟨?_,trivial⟩
|apply s_1
 conv=>whnf;arg 1;arg 4;arg 3;whnf
 refine ⟨?_,?_⟩
|exact trivial)
     all_goals first
      |exact zU (by omega)
      |exact zAI hi
      |(refine zI (j':=j-1) (by omega) ⟨i+1,by omega,Sub.live ⟨?_,rfl,rfl,rfl,trivial⟩ trivial⟩
        refine zAQ ?_
        rw [zCy,hat]
        simp only [zAB,zBD,zAP,List.append_assoc])
      |(rw [hat];(simp only [ByteArray.size_append,zW,zt,List.size_toArray,List.length_append,List.length_cons,List.length_nil,maxLen,Int.toNat_natCast,Nat.zero_add,Nat.reduceAdd];omega))
      |(simp only [ByteArray.size_append,zW,zt,List.size_toArray,List.length_append,List.length_cons,List.length_nil,maxLen,Int.toNat_natCast,Nat.zero_add,Nat.reduceAdd];omega)
      |(rw [htk];exact zAI hi)
      |skip
   . have f2:decide ((i:Int)<((d.f 6).l.length:Nat))=false:=decide_eq_false (by omega)
     have ei:i=(d.f 6).l.length:=by omega
     subst ei
     repeat' (first
|apply zC
 . conv=>lhs;whnf
 . assumption
|refine zA ?_
|refine zB ?_
|refine zH ?_
|apply aw_1
 conv=>whnf
 refine ⟨?_,trivial⟩
|apply s_1
 conv=>whnf;arg 1;arg 4;arg 3;whnf
 refine ⟨?_,?_⟩
|refine zM ?_
|refine zK rfl ?_
|refine zJ ?_
|refine zE ?_
|refine ⟨_,by conv=>lhs;whnf;arg 2;whnf,?_⟩;conv=>rhs;whnf
|exact trivial)
     all_goals first
      |(refine zAQ ?_;simp only [zAB,zBD,zAP,List.append_assoc];done)
      |(simp only [ByteArray.size_append,zW,zt,List.size_toArray,List.length_append,List.length_cons,List.length_nil,maxLen,Int.toNat_natCast,Nat.zero_add,Nat.reduceAdd];omega)
      |skip
end
section
open Go.RowKit
set_option linter.unusedSectionVars false
attribute [local irreducible] wpList Calls Code.wp AW AWo OpOk seqK zz z8 loopK endK AC zl Yld Sub
attribute [local irreducible] ACB ACX ACE absLexG YldG absLexH
noncomputable def HpP6 (d:D) (i:Nat):Vst 21:=stS 21 [(3,.own 3 9 (zAA (fun i=>dfT K6 (gD (d.f 0).l i)) i)),(7,.sl 45 (d.f 0).l),(8,.c (.int .i64 ((d.f 0).l.length:Nat))),(9,.c (.int .i64 (i:Int)))] [(3,.tok 9 (zAA (fun i=>dfT K6 (gD (d.f 0).l i)) i).length)]
theorem zGC {d:D} (h : ∀ i,i<(d.f 0).l.length->DefP (gD (d.f 0).l i)) (hst : ∀ i,i<(d.f 0).l.length -> ∀ k,k<((gD (d.f 0).l i).f 2).l.length -> ∃ s,gD ((gD (d.f 0).l i).f 2).l k = .str s) (hw:wideD d) (hb:bulkD d<=1048576):AC EN Tryz.prog 21 [.agg (cellsV Tryz.prog 12 25 d)] (.c (.string (bs (sdlT K6 (d.f 0).l)))):=by
 have w:=zb d
 have wf:=wD_f d 0
 have b0:=zn (d.f 0);have l0:=zAK (d.f 0).l
 have z:=sdlT_len K6 (d.f 0).l (hw.f 0).l
 have hj:=zCw (zAA (fun i=>dfT K6 (gD (d.f 0).l i)) (d.f 0).l.length) [10] (by rw [zAH];omega) (by rw [zAf];exact Nat.le_trans z (by omega))
 rw [zAf] at hj
 have hj:AC EN Tryz.prog 44 [.sl 9 (zAA (fun i=>dfT K6 (gD (d.f 0).l i)) (d.f 0).l.length),.c (.string (bs [10]))] (.c (.string (bs (sdlT K6 (d.f 0).l)))):=hj
 refine zN 21 Tryz.func21 rfl rfl rfl rfl ?_
 intro s w he
 repeat' (first
|refine zA ?_
|refine zB ?_
|refine zH ?_
|apply aw_1
 conv=>whnf
 refine ⟨?_,trivial⟩
|apply s_1
 conv=>whnf;arg 1;arg 4;arg 3;whnf
 refine ⟨?_,?_⟩
|apply zAL rfl rfl rfl rfl
 . conv=>lhs;whnf;arg 1;whnf
 . rfl
|exact trivial)
 refine zg (Sub.own (t:=3) (e:=9) rfl rfl) ?_
 refine zi (fun j st => ∃ i,i+j=(d.f 0).l.length/\Sub (cx EN Tryz.prog s w he) st (HpP6 d i)) (d.f 0).l.length ⟨0,by omega,Sub.live ⟨rfl,rfl,rfl,rfl,trivial⟩ ⟨rfl,trivial⟩⟩ ?_
 rintro j st ⟨i,hij,hs2⟩
 refine zg hs2 ?_
 clear hs2
 have htk:=zAH (fun i=>dfT K6 (gD (d.f 0).l i)) i
 by_cases hi:i<(d.f 0).l.length
 . have f1:decide ((i:Int)<((d.f 0).l.length:Nat))=true:=decide_eq_true (by omega)
   have hbg:=zAE hi
   have hc:=blockP_ac (h i hi) ((hw.f 0).l i) (by omega) (hst i hi)
   repeat' (first
|apply zG
 . conv=>lhs;whnf
 . assumption
|refine zA ?_
|refine zB ?_
|refine zH ?_
|refine zR ?_
|apply aw_1
 conv=>whnf
 refine ⟨?_,trivial⟩
|apply s_1
 conv=>whnf;arg 1;arg 4;arg 3;whnf
 refine ⟨?_,?_⟩
|apply ze rfl
 . conv=>lhs;whnf
 . conv=>lhs;whnf
 . first | exact hc
|apply zS rfl rfl rfl
 . conv=>lhs;whnf
 . conv=>lhs;whnf;arg 1;whnf
 . conv=>lhs;whnf;arg 1;whnf
 . exact ⟨by kernel_rfl,by kernel_rfl⟩
 . rfl
|apply zBf rfl rfl
 . conv=>lhs;whnf
 . first | exact zm | (conv=>lhs;whnf;arg 1;whnf)
 . first | exact fun _=>rfl | (intro _;kernel_rfl)
 . conv=>lhs;whnf
 . conv=>lhs;whnf;arg 1;whnf
 . conv=>lhs;whnf
|apply zBb rfl rfl
 . conv=>lhs;whnf
 . first | exact zm | (conv=>lhs;whnf;arg 1;whnf)
 . conv=>lhs;whnf;arg 1;whnf
 . rfl
 . rfl
|exact trivial)
   all_goals first
    |exact zU (by omega)
    |exact zAI hi
    |exact zCG (by omega) (by omega)
    |(refine zI (j':=j-1) (by omega) ⟨i+1,by omega,Sub.live ⟨?_,rfl,rfl,rfl,trivial⟩ ⟨?_,trivial⟩⟩
      . show V.own 3 _ (zAA _ i++[.str (bs (dfT K6 (gD (d.f 0).l i)))])=_
        rw [zx]
      . show some (Res.tok _ ((zAA _ i).length+1))=_
        rw [zx,List.length_append];rfl)
    |skip
 . have f1:decide ((i:Int)<((d.f 0).l.length:Nat))=false:=decide_eq_false (by omega)
   have ei:i=(d.f 0).l.length:=by omega
   subst ei
   repeat' (first
|apply zC
 . conv=>lhs;whnf
 . assumption
|refine zA ?_
|refine zB ?_
|refine zH ?_
|apply aw_1
 conv=>whnf
 refine ⟨?_,trivial⟩
|apply s_1
 conv=>whnf;arg 1;arg 4;arg 3;whnf
 refine ⟨?_,?_⟩
|apply ze rfl
 . conv=>lhs;whnf
 . conv=>lhs;whnf
 . first | exact hj
|refine zM ?_
|refine zK rfl ?_
|refine zJ ?_
|refine zE ?_
|refine ⟨_,by conv=>lhs;whnf;arg 2;whnf,?_⟩;conv=>rhs;whnf
|exact trivial)
   all_goals first
    |rfl
    |skip
end
end Go.Proofs.YthppafnlnnpciaaGreatDoor
