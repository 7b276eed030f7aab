import Derived.Test.YtdlnnlglmifceaaDoorQ32
set_option maxHeartbeats 20000000
set_option maxRecDepth 100000
set_option linter.unusedVariables false
set_option linter.unusedSimpArgs false
namespace Go.Proofs.YtdlnnlglmifceaaDoor
open Go.RowKit
set_option linter.unusedSectionVars false
def defK (d : D) : Bool:=
 if (d.f 0).n = 1 then ((!decide ((d.f 4).l.length = 0)) && fdsY litW (d.f 4).l) && decide ((d.f 5).l.length = 0) && decide ((d.f 6).l.length = 0)
 else if (d.f 0).n = 2 then decide ((d.f 2).l.length = 0) && ((!decide ((d.f 4).l.length = 0)) && fdsY litW (d.f 4).l) && decide ((d.f 5).l.length = 0) && decide ((d.f 6).l.length = 0)
 else if (d.f 0).n = 3 then decide ((d.f 2).l.length = 0) && decide ((d.f 4).l.length = 0) && ((!decide ((d.f 5).l.length = 0)) && mbsY litW true (d.f 5).l) && decide ((d.f 6).l.length = 0)
 else if (d.f 0).n = 4 then decide ((d.f 2).l.length = 0) && decide ((d.f 4).l.length = 0) && ((!decide ((d.f 5).l.length = 0)) && mbsY litW false (d.f 5).l) && decide ((d.f 6).l.length = 0)
 else if (d.f 0).n = 5 then decide ((d.f 2).l.length = 0) && decide ((d.f 4).l.length = 0) && decide ((d.f 5).l.length = 0) && (!decide ((d.f 6).l.length = 0)) && insY litW (d.f 6).l
 else false
theorem zFt (n : Nat) : decide (0 < n) = !decide (n = 0):=by
 by_cases h : n = 0
 . subst h; rfl
 . rw [decide_eq_true (by omega),decide_eq_false h]; rfl
theorem defY_K (d : D) : defY litW d = (nameB (d.f 1).s && dirsY litW (d.f 3).l && imY (d.f 2).l && defK d):=by
 have F0 : decide ((d.f 4).l.length = 0) = true -> fdsY litW (d.f 4).l = true:=fun h => by rw [List.eq_nil_of_length_eq_zero (of_decide_eq_true h)]; rfl
 have M0 : ∀ u,decide ((d.f 5).l.length = 0) = true -> mbsY litW u (d.f 5).l = true:=fun u h => by rw [List.eq_nil_of_length_eq_zero (of_decide_eq_true h)]; rfl
 have M1:=M0 ((d.f 0).n == 3)
 have M2:=M0 true
 have M3:=M0 false
 have I0 : decide ((d.f 6).l.length = 0) = true -> insY litW (d.f 6).l = true:=fun h => by rw [List.eq_nil_of_length_eq_zero (of_decide_eq_true h)]; rfl
 unfold defY kindY defK
 rw [zFt,zFt,zFt,kind_dec]
 clear M0
 generalize (d.f 0).n = n at *
 by_cases n1 : n = 1
 . subst n1
   rw [show ((1 : Int) == 3) = false from rfl] at *
   generalize fdsY litW (d.f 4).l = F at *
   generalize mbsY litW false (d.f 5).l = M at *
   generalize mbsY litW true (d.f 5).l = M' at *
   generalize insY litW (d.f 6).l = I at *
   generalize decide ((d.f 2).l.length = 0) = z2 at *
   generalize decide ((d.f 4).l.length = 0) = z4 at *
   generalize decide ((d.f 5).l.length = 0) = z5 at *
   generalize decide ((d.f 6).l.length = 0) = z6 at *
   generalize nameB (d.f 1).s = nm at *
   generalize dirsY litW (d.f 3).l = ds at *
   generalize imY (d.f 2).l = im at *
   cases z4 <;> cases z5 <;> cases z6 <;> simp_all
 by_cases n2 : n = 2
 . subst n2
   rw [show ((2 : Int) == 3) = false from rfl] at *
   generalize fdsY litW (d.f 4).l = F at *
   generalize mbsY litW false (d.f 5).l = M at *
   generalize mbsY litW true (d.f 5).l = M' at *
   generalize insY litW (d.f 6).l = I at *
   generalize decide ((d.f 2).l.length = 0) = z2 at *
   generalize decide ((d.f 4).l.length = 0) = z4 at *
   generalize decide ((d.f 5).l.length = 0) = z5 at *
   generalize decide ((d.f 6).l.length = 0) = z6 at *
   generalize nameB (d.f 1).s = nm at *
   generalize dirsY litW (d.f 3).l = ds at *
   generalize imY (d.f 2).l = im at *
   cases z4 <;> cases z5 <;> cases z6 <;> cases z2 <;> simp_all
 by_cases n3 : n = 3
 . subst n3
   rw [show ((3 : Int) == 3) = true from rfl] at *
   generalize fdsY litW (d.f 4).l = F at *
   generalize mbsY litW false (d.f 5).l = M at *
   generalize mbsY litW true (d.f 5).l = M' at *
   generalize insY litW (d.f 6).l = I at *
   generalize decide ((d.f 2).l.length = 0) = z2 at *
   generalize decide ((d.f 4).l.length = 0) = z4 at *
   generalize decide ((d.f 5).l.length = 0) = z5 at *
   generalize decide ((d.f 6).l.length = 0) = z6 at *
   generalize nameB (d.f 1).s = nm at *
   generalize dirsY litW (d.f 3).l = ds at *
   generalize imY (d.f 2).l = im at *
   cases z4 <;> cases z5 <;> cases z6 <;> cases z2 <;> simp_all
 by_cases n4 : n = 4
 . subst n4
   rw [show ((4 : Int) == 3) = false from rfl] at *
   generalize fdsY litW (d.f 4).l = F at *
   generalize mbsY litW false (d.f 5).l = M at *
   generalize mbsY litW true (d.f 5).l = M' at *
   generalize insY litW (d.f 6).l = I at *
   generalize decide ((d.f 2).l.length = 0) = z2 at *
   generalize decide ((d.f 4).l.length = 0) = z4 at *
   generalize decide ((d.f 5).l.length = 0) = z5 at *
   generalize decide ((d.f 6).l.length = 0) = z6 at *
   generalize nameB (d.f 1).s = nm at *
   generalize dirsY litW (d.f 3).l = ds at *
   generalize imY (d.f 2).l = im at *
   cases z4 <;> cases z5 <;> cases z6 <;> cases z2 <;> simp_all
 by_cases n5 : n = 5
 . subst n5
   rw [show ((5 : Int) == 3) = false from rfl] at *
   generalize fdsY litW (d.f 4).l = F at *
   generalize mbsY litW false (d.f 5).l = M at *
   generalize mbsY litW true (d.f 5).l = M' at *
   generalize insY litW (d.f 6).l = I at *
   generalize decide ((d.f 2).l.length = 0) = z2 at *
   generalize decide ((d.f 4).l.length = 0) = z4 at *
   generalize decide ((d.f 5).l.length = 0) = z5 at *
   generalize decide ((d.f 6).l.length = 0) = z6 at *
   generalize nameB (d.f 1).s = nm at *
   generalize dirsY litW (d.f 3).l = ds at *
   generalize imY (d.f 2).l = im at *
   cases z4 <;> cases z5 <;> cases z6 <;> cases z2 <;> simp_all
 rw [beq_eq_false_iff_ne.2 n1,beq_eq_false_iff_ne.2 n2,beq_eq_false_iff_ne.2 n3,beq_eq_false_iff_ne.2 n4,beq_eq_false_iff_ne.2 n5,if_neg n1,if_neg n2,if_neg n3,if_neg n4,if_neg n5]
 simp
attribute [local irreducible] wpList Calls Code.wp AW AWo OpOk seqK zAf zAj loopK endK AC zAH Yld Sub
attribute [local irreducible] ACB ACX YldG absLexH YldU
noncomputable def HdefU (d : D) (i : Nat) : Vst 129:=stS 129 [(1,.bx 1 0),(3,.c (.int .i64 (i : Int)))] [(1,.box 35 (cellsV Tryd.prog 12 35 d))]
theorem defFU_ac (d : D) (hl : (d.f 2).l.length <= 9223372036854775807) : AC EN Tryd.prog 21 [.agg (cellsV Tryd.prog 12 35 d)] (.c (.bool (defY litW d))):=by
 have h1:=zA6 (d.f 1).s
 have h2:=zDM (d.f 3).l
 have h3:=fdsFU_ac (d.f 4).l
 have h4:=zH1 (d.f 5).l true
 have h5:=zH1 (d.f 5).l false
 have h6:=zH9 (d.f 6).l
 have hY:=defY_K d
 by_cases hbad : nameB (d.f 1).s = true /\ dirsY litW (d.f 3).l = true /\ (d.f 2).l.length <= 64
 rotate_left 1
 . have hf : defY litW d = false:=by
    rw [hY]
    unfold imY
    by_cases q : (d.f 2).l.length <= 64
    . rw [decide_eq_true q]
      generalize nameB (d.f 1).s = a at *
      generalize dirsY litW (d.f 3).l = b at *
      cases a <;> cases b <;> simp_all
    . rw [decide_eq_false q]; simp
   have hz : decide (((d.f 2).l.length : Int) > 64) = !decide ((d.f 2).l.length <= 64):=by
    rw [Bool.eq_iff_iff]; simp; omega
   rw [hf]
   clear hf hY h3 h4 h5 h6
   generalize nameB (d.f 1).s = a at *
   generalize dirsY litW (d.f 3).l = b at *
   generalize decide ((d.f 2).l.length <= 64) = c at *
   refine zV 129 Tryd.func21 rfl rfl rfl rfl ?_
   intro s w he
   cases a with
   | false =>
     have K : ((!false) == false) = true -> False:=by decide
     repeat' (first
|refine zA ?_
|refine zI ?_
|refine zZ ?_
|apply aw_1
 conv => whnf
 refine ⟨?_,trivial⟩
|apply s_1
 conv => whnf; arg 1; arg 4; arg 3; whnf
 refine ⟨?_,?_⟩
|apply zk rfl
 . conv => lhs; whnf
 . conv => lhs; whnf
 . first | exact h1
|apply zAO rfl rfl rfl rfl
 . conv => lhs; whnf; arg 1; whnf
 . rfl
|refine zK ?_
|refine zB ?_
|refine ⟨_,by conv => lhs; whnf; arg 2; whnf,?_⟩; conv => rhs; whnf
|exact trivial)
     all_goals first
      | rfl
      | skip
   | true =>
     have K : ((!true) == false) = false -> False:=by decide
     cases b with
     | false =>
       repeat' (first
|refine zA ?_
|refine zI ?_
|refine zZ ?_
|apply aw_1
 conv => whnf
 refine ⟨?_,trivial⟩
|apply s_1
 conv => whnf; arg 1; arg 4; arg 3; whnf
 refine ⟨?_,?_⟩
|apply zk rfl
 . conv => lhs; whnf
 . conv => lhs; whnf
 . first | exact h1 | exact h2
|apply zAO rfl rfl rfl rfl
 . conv => lhs; whnf; arg 1; whnf
 . rfl
|apply zP rfl
 . conv => lhs; whnf
 . conv => lhs; whnf
 . first | rfl | assumption
 . conv => lhs; whnf
 . first | exact h1 | exact h2
|refine zK ?_
|refine zB ?_
|refine ⟨_,by conv => lhs; whnf; arg 2; whnf,?_⟩; conv => rhs; whnf
|exact trivial)
       all_goals first
        | rfl
        | skip
     | true =>
       have f1 : decide (((d.f 2).l.length : Int) > 64) = true:=decide_eq_true (by simp at hbad; omega)
       repeat' (first
|apply zG
 . conv => lhs; whnf
 . assumption
|refine zA ?_
|refine zI ?_
|refine zZ ?_
|apply aw_1
 conv => whnf
 refine ⟨?_,trivial⟩
|apply s_1
 conv => whnf; arg 1; arg 4; arg 3; whnf
 refine ⟨?_,?_⟩
|apply zk rfl
 . conv => lhs; whnf
 . conv => lhs; whnf
 . first | exact h1 | exact h2
|apply zAO rfl rfl rfl rfl
 . conv => lhs; whnf; arg 1; whnf
 . rfl
|apply zP rfl
 . conv => lhs; whnf
 . conv => lhs; whnf
 . first | rfl | assumption
 . conv => lhs; whnf
 . first | exact h1 | exact h2
|refine zK ?_
|refine zB ?_
|refine ⟨_,by conv => lhs; whnf; arg 2; whnf,?_⟩; conv => rhs; whnf
|exact trivial)
       all_goals first
        | rfl
        | skip
 obtain ⟨ha,hb,h64⟩:=hbad
 rw [ha] at h1
 rw [hb] at h2
 have hR : defY litW d = (zAq (fun x => nameB x.s) (d.f 2).l (d.f 2).l.length 0 && defK d):=by
  rw [hY,ha,hb,zBJ]
  unfold imY
  rw [decide_eq_true h64]; rfl
 clear hY
 generalize defY litW d = R at hR |-
 have f0 : decide (((d.f 2).l.length : Int) > 64) = false:=decide_eq_false (by omega)
 have K : ((!true) == false) = false -> False:=by decide
 refine zV 129 Tryd.func21 rfl rfl rfl rfl ?_
 intro s w he
 repeat' (first
|apply zF
 . conv => lhs; whnf
 . assumption
|refine zA ?_
|refine zI ?_
|refine zZ ?_
|apply aw_1
 conv => whnf
 refine ⟨?_,trivial⟩
|apply s_1
 conv => whnf; arg 1; arg 4; arg 3; whnf
 refine ⟨?_,?_⟩
|apply zk rfl
 . conv => lhs; whnf
 . conv => lhs; whnf
 . first | exact h1 | exact h2
|apply zAO rfl rfl rfl rfl
 . conv => lhs; whnf; arg 1; whnf
 . rfl
|apply zP rfl
 . conv => lhs; whnf
 . conv => lhs; whnf
 . first | rfl | assumption
 . conv => lhs; whnf
 . first | exact h1 | exact h2
|exact trivial)
 all_goals first
  | exact zu (by omega)
  | skip
 clear h1 h2 K f0
 refine z7 (fun j st => ∃ i,i + j = (d.f 2).l.length /\ R = (zAq (fun x => nameB x.s) (d.f 2).l j i && defK d) /\ Sub (cx EN Tryd.prog s w he) st (HdefU d i)) (d.f 2).l.length ⟨0,by omega,hR,Sub.live ⟨rfl,rfl,trivial⟩ ⟨rfl,trivial⟩⟩ ?_
 clear hR
 rintro j st ⟨i,hij,hR,hs2⟩
 refine zAA hs2 ?_
 clear hs2
 by_cases hi : i < (d.f 2).l.length
 . obtain ⟨j,rfl⟩ : ∃ q,j = q + 1:=⟨j - 1,by omega⟩
   have f1 : decide ((i : Int) < ((d.f 2).l.length : Nat)) = true:=decide_eq_true (by omega)
   have hR' : R = (nameB (gD (d.f 2).l i).s && zAq (fun x => nameB x.s) (d.f 2).l j (i + 1) && defK d):=hR
   clear hR
   have hn1:=zA6 (gD (d.f 2).l i).s
   repeat' (first
|apply zG
 . conv => lhs; whnf
 . assumption
|refine zA ?_
|refine zI ?_
|refine zZ ?_
|refine zW ?_
|apply aw_1
 conv => whnf
 refine ⟨?_,trivial⟩
|apply s_1
 conv => whnf; arg 1; arg 4; arg 3; whnf
 refine ⟨?_,?_⟩
|apply zk rfl
 . conv => lhs; whnf
 . conv => lhs; whnf
 . first | exact hn1
|refine zd (by conv => lhs; whnf) ?_ ?_ <;> intro hb
|refine zK ?_
|refine zH ?_
|refine zN ?_
|refine zB ?_
|refine ⟨_,by conv => lhs; whnf; arg 2; whnf,?_⟩; conv => rhs; whnf
|exact trivial)
   all_goals first
    | exact zu (by omega)
    | exact zx hi
    | (have e : nameB (gD (d.f 2).l i).s = false:=by simpa using (by assumption : (!nameB (gD (d.f 2).l i).s) = true)
       rw [hR',e]; rfl)
    | (have e : nameB (gD (d.f 2).l i).s = true:=by simpa using (by assumption : (!nameB (gD (d.f 2).l i).s) = false)
       exact za (j':=j) (by omega) ⟨i + 1,by omega,by rw [hR',e,Bool.true_and],Sub.live ⟨rfl,rfl,trivial⟩ ⟨rfl,trivial⟩⟩)
    | skip
 . obtain rfl : j = 0:=by omega
   have f1 : decide ((i : Int) < ((d.f 2).l.length : Nat)) = false:=decide_eq_false (by omega)
   have hRK : R = defK d:=by rw [hR,zAq,Bool.true_and]
   clear hR
   have z2 : (((d.f 2).l.length : Int) == 0) = decide ((d.f 2).l.length = 0):=by rw [Bool.eq_iff_iff]; simp only [beq_iff_eq,decide_eq_true_eq]; omega
   have z4 : (((d.f 4).l.length : Int) == 0) = decide ((d.f 4).l.length = 0):=by rw [Bool.eq_iff_iff]; simp only [beq_iff_eq,decide_eq_true_eq]; omega
   have z5 : (((d.f 5).l.length : Int) == 0) = decide ((d.f 5).l.length = 0):=by rw [Bool.eq_iff_iff]; simp only [beq_iff_eq,decide_eq_true_eq]; omega
   have z6 : (((d.f 6).l.length : Int) == 0) = decide ((d.f 6).l.length = 0):=by rw [Bool.eq_iff_iff]; simp only [beq_iff_eq,decide_eq_true_eq]; omega
   have y6 : decide (((d.f 6).l.length : Int) > 0) = !decide ((d.f 6).l.length = 0):=by rw [<- zFt]; exact decide_eq_decide.2 (by omega)
   unfold defK at hRK
   generalize fdsY litW (d.f 4).l = F at *
   generalize mbsY litW true (d.f 5).l = M1 at *
   generalize mbsY litW false (d.f 5).l = M2 at *
   generalize insY litW (d.f 6).l = I at *
   have h9 : (d.f 0).n = 1 \/ (d.f 0).n = 2 \/ (d.f 0).n = 3 \/ (d.f 0).n = 4 \/ (d.f 0).n = 5 \/ ((d.f 0).n ≠ 1 /\ (d.f 0).n ≠ 2 /\ (d.f 0).n ≠ 3 /\ (d.f 0).n ≠ 4 /\ (d.f 0).n ≠ 5):=by omega
   rcases h9 with hn | hn | hn | hn | hn | hn
   . have g1 : ((d.f 0).n == 1) = true:=by rw [hn]; rfl
     rw [if_pos hn] at hRK
     repeat' (first
|apply zG
 . conv => lhs; whnf
 . assumption
|apply zF
 . conv => lhs; whnf
 . assumption
|refine zA ?_
|refine zI ?_
|refine zZ ?_
|apply aw_1
 conv => whnf
 refine ⟨?_,trivial⟩
|apply zn rfl rfl
 . conv => lhs; whnf
 . conv => lhs; whnf
 . first | exact bT1 ‹_› | exact bT2 ‹_›
|apply zl rfl rfl
 . conv => lhs; whnf
 . conv => lhs; whnf
 . first | exact bF1 ‹_› | exact bF2 ‹_›
|apply s_1
 conv => whnf; arg 1; arg 4; arg 3; whnf
 refine ⟨?_,?_⟩
|apply zk rfl
 . conv => lhs; whnf
 . conv => lhs; whnf
 . first | exact h3 | exact h4 | exact h5 | exact h6
|apply zb rfl
 . conv => lhs; whnf
 . conv => lhs; whnf
 . conv => lhs; whnf; arg 2; whnf
|apply zq (by kernel_rfl) (by kernel_rfl)
|apply zAR
|apply zAQ rfl
 . conv => lhs; whnf
 . conv => lhs; whnf; arg 2; whnf
|exact zR
|exact zX
|exact (1000000 : Nat)
|refine zJ ?_
|refine zK ?_
|refine zH ?_
|refine zE rfl ?_
|refine zC ?_
|refine zB ?_
|refine ⟨_,by conv => lhs; whnf; arg 2; whnf,?_⟩; conv => rhs; whnf
|exact trivial
|intro hg)
     all_goals first
      | (rw [hRK]; done)
      | (refine cB ?_
         clear h3 h4 h5 h6 he hn f1
         rw [hRK]
         simp only [z2,z4,z5,z6,y6] at *
         clear z2 z4 z5 z6 y6 hRK
         generalize decide ((d.f 2).l.length = 0) = w2 at *
         generalize decide ((d.f 4).l.length = 0) = w4 at *
         generalize decide ((d.f 5).l.length = 0) = w5 at *
         generalize decide ((d.f 6).l.length = 0) = w6 at *
         simp_all
         done)
      | exact (show Tryd.prog.underlying 4 = some TypeDesc.bool by kernel_rfl)
      | skip
   . have g1 : ((d.f 0).n == 1) = false:=by rw [hn]; rfl
     have g2 : ((d.f 0).n == 2) = true:=by rw [hn]; rfl
     rw [if_neg (by omega),if_pos hn] at hRK
     repeat' (first
|apply zG
 . conv => lhs; whnf
 . assumption
|apply zF
 . conv => lhs; whnf
 . assumption
|refine zA ?_
|refine zI ?_
|refine zZ ?_
|apply aw_1
 conv => whnf
 refine ⟨?_,trivial⟩
|apply zn rfl rfl
 . conv => lhs; whnf
 . conv => lhs; whnf
 . first | exact bT1 ‹_› | exact bT2 ‹_›
|apply zl rfl rfl
 . conv => lhs; whnf
 . conv => lhs; whnf
 . first | exact bF1 ‹_› | exact bF2 ‹_›
|apply s_1
 conv => whnf; arg 1; arg 4; arg 3; whnf
 refine ⟨?_,?_⟩
|apply zQ rfl
 . conv => lhs; whnf
 . conv => lhs; whnf
 . first | rfl | assumption
 . conv => lhs; whnf; arg 2; whnf
|apply zP rfl
 . conv => lhs; whnf
 . conv => lhs; whnf
 . first | rfl | assumption
 . conv => lhs; whnf
 . first | exact h3 | exact h4 | exact h5 | exact h6
|apply zAB rfl
 . conv => lhs; whnf
 . conv => lhs; whnf
 . first | rfl | assumption
|apply zb rfl
 . conv => lhs; whnf
 . conv => lhs; whnf
 . conv => lhs; whnf; arg 2; whnf
|apply zq (by kernel_rfl) (by kernel_rfl)
|apply zAR
|apply zAQ rfl
 . conv => lhs; whnf
 . conv => lhs; whnf; arg 2; whnf
|exact zR
|exact zX
|exact (1000000 : Nat)
|refine zJ ?_
|refine zK ?_
|refine zH ?_
|refine zE rfl ?_
|refine zC ?_
|refine zB ?_
|refine ⟨_,by conv => lhs; whnf; arg 2; whnf,?_⟩; conv => rhs; whnf
|exact trivial
|intro hg)
     all_goals first
      | (rw [hRK]; done)
      | (refine cB ?_
         clear h3 h4 h5 h6 he hn f1
         rw [hRK]
         simp only [z2,z4,z5,z6,y6] at *
         clear z2 z4 z5 z6 y6 hRK
         generalize decide ((d.f 2).l.length = 0) = w2 at *
         generalize decide ((d.f 4).l.length = 0) = w4 at *
         generalize decide ((d.f 5).l.length = 0) = w5 at *
         generalize decide ((d.f 6).l.length = 0) = w6 at *
         simp_all
         done)
      | exact (show Tryd.prog.underlying 4 = some TypeDesc.bool by kernel_rfl)
      | skip
   . have g1 : ((d.f 0).n == 1) = false:=by rw [hn]; rfl
     have g2 : ((d.f 0).n == 2) = false:=by rw [hn]; rfl
     have g3 : ((d.f 0).n == 3) = true:=by rw [hn]; rfl
     rw [if_neg (by omega),if_neg (by omega),if_pos hn] at hRK
     repeat' (first
|apply zG
 . conv => lhs; whnf
 . assumption
|apply zF
 . conv => lhs; whnf
 . assumption
|refine zA ?_
|refine zI ?_
|refine zZ ?_
|apply aw_1
 conv => whnf
 refine ⟨?_,trivial⟩
|apply zn rfl rfl
 . conv => lhs; whnf
 . conv => lhs; whnf
 . first | exact bT1 ‹_› | exact bT2 ‹_›
|apply zl rfl rfl
 . conv => lhs; whnf
 . conv => lhs; whnf
 . first | exact bF1 ‹_› | exact bF2 ‹_›
|apply s_1
 conv => whnf; arg 1; arg 4; arg 3; whnf
 refine ⟨?_,?_⟩
|apply zQ rfl
 . conv => lhs; whnf
 . conv => lhs; whnf
 . first | rfl | assumption
 . conv => lhs; whnf; arg 2; whnf
|apply zP rfl
 . conv => lhs; whnf
 . conv => lhs; whnf
 . first | rfl | assumption
 . conv => lhs; whnf
 . first | exact h3 | exact h4 | exact h5 | exact h6
|apply zAB rfl
 . conv => lhs; whnf
 . conv => lhs; whnf
 . first | rfl | assumption
|apply zb rfl
 . conv => lhs; whnf
 . conv => lhs; whnf
 . conv => lhs; whnf; arg 2; whnf
|apply zq (by kernel_rfl) (by kernel_rfl)
|apply zAR
|apply zAQ rfl
 . conv => lhs; whnf
 . conv => lhs; whnf; arg 2; whnf
|exact zR
|exact zX
|exact (1000000 : Nat)
|refine zJ ?_
|refine zK ?_
|refine zH ?_
|refine zE rfl ?_
|refine zC ?_
|refine zB ?_
|refine ⟨_,by conv => lhs; whnf; arg 2; whnf,?_⟩; conv => rhs; whnf
|exact trivial
|intro hg)
     all_goals first
      | (rw [hRK]; done)
      | (refine cB ?_
         clear h3 h4 h5 h6 he hn f1
         rw [hRK]
         simp only [z2,z4,z5,z6,y6] at *
         clear z2 z4 z5 z6 y6 hRK
         generalize decide ((d.f 2).l.length = 0) = w2 at *
         generalize decide ((d.f 4).l.length = 0) = w4 at *
         generalize decide ((d.f 5).l.length = 0) = w5 at *
         generalize decide ((d.f 6).l.length = 0) = w6 at *
         simp_all
         done)
      | exact (show Tryd.prog.underlying 4 = some TypeDesc.bool by kernel_rfl)
      | skip
   . have g1 : ((d.f 0).n == 1) = false:=by rw [hn]; rfl
     have g2 : ((d.f 0).n == 2) = false:=by rw [hn]; rfl
     have g3 : ((d.f 0).n == 3) = false:=by rw [hn]; rfl
     have g4 : ((d.f 0).n == 4) = true:=by rw [hn]; rfl
     rw [if_neg (by omega),if_neg (by omega),if_neg (by omega),if_pos hn] at hRK
     repeat' (first
|apply zG
 . conv => lhs; whnf
 . assumption
|apply zF
 . conv => lhs; whnf
 . assumption
|refine zA ?_
|refine zI ?_
|refine zZ ?_
|apply aw_1
 conv => whnf
 refine ⟨?_,trivial⟩
|apply zn rfl rfl
 . conv => lhs; whnf
 . conv => lhs; whnf
 . first | exact bT1 ‹_› | exact bT2 ‹_›
|apply zl rfl rfl
 . conv => lhs; whnf
 . conv => lhs; whnf
 . first | exact bF1 ‹_› | exact bF2 ‹_›
|apply s_1
 conv => whnf; arg 1; arg 4; arg 3; whnf
 refine ⟨?_,?_⟩
|apply zQ rfl
 . conv => lhs; whnf
 . conv => lhs; whnf
 . first | rfl | assumption
 . conv => lhs; whnf; arg 2; whnf
|apply zP rfl
 . conv => lhs; whnf
 . conv => lhs; whnf
 . first | rfl | assumption
 . conv => lhs; whnf
 . first | exact h3 | exact h4 | exact h5 | exact h6
|apply zAB rfl
 . conv => lhs; whnf
 . conv => lhs; whnf
 . first | rfl | assumption
|apply zb rfl
 . conv => lhs; whnf
 . conv => lhs; whnf
 . conv => lhs; whnf; arg 2; whnf
|apply zq (by kernel_rfl) (by kernel_rfl)
|apply zAR
|apply zAQ rfl
 . conv => lhs; whnf
 . conv => lhs; whnf; arg 2; whnf
|exact zR
|exact zX
|exact (1000000 : Nat)
|refine zJ ?_
|refine zK ?_
|refine zH ?_
|refine zE rfl ?_
|refine zC ?_
|refine zB ?_
|refine ⟨_,by conv => lhs; whnf; arg 2; whnf,?_⟩; conv => rhs; whnf
|exact trivial
|intro hg)
     all_goals first
      | (rw [hRK]; done)
      | (refine cB ?_
         clear h3 h4 h5 h6 he hn f1
         rw [hRK]
         simp only [z2,z4,z5,z6,y6] at *
         clear z2 z4 z5 z6 y6 hRK
         generalize decide ((d.f 2).l.length = 0) = w2 at *
         generalize decide ((d.f 4).l.length = 0) = w4 at *
         generalize decide ((d.f 5).l.length = 0) = w5 at *
         generalize decide ((d.f 6).l.length = 0) = w6 at *
         simp_all
         done)
      | exact (show Tryd.prog.underlying 4 = some TypeDesc.bool by kernel_rfl)
      | skip
   . have g1 : ((d.f 0).n == 1) = false:=by rw [hn]; rfl
     have g2 : ((d.f 0).n == 2) = false:=by rw [hn]; rfl
     have g3 : ((d.f 0).n == 3) = false:=by rw [hn]; rfl
     have g4 : ((d.f 0).n == 4) = false:=by rw [hn]; rfl
     have g5 : ((d.f 0).n == 5) = true:=by rw [hn]; rfl
     rw [if_neg (by omega),if_neg (by omega),if_neg (by omega),if_neg (by omega),if_pos hn] at hRK
     repeat' (first
|apply zG
 . conv => lhs; whnf
 . assumption
|apply zF
 . conv => lhs; whnf
 . assumption
|refine zA ?_
|refine zI ?_
|refine zZ ?_
|apply aw_1
 conv => whnf
 refine ⟨?_,trivial⟩
|apply zn rfl rfl
 . conv => lhs; whnf
 . conv => lhs; whnf
 . first | exact bT1 ‹_› | exact bT2 ‹_›
|apply zl rfl rfl
 . conv => lhs; whnf
 . conv => lhs; whnf
 . first | exact bF1 ‹_› | exact bF2 ‹_›
|apply s_1
 conv => whnf; arg 1; arg 4; arg 3; whnf
 refine ⟨?_,?_⟩
|apply zQ rfl
 . conv => lhs; whnf
 . conv => lhs; whnf
 . first | rfl | assumption
 . conv => lhs; whnf; arg 2; whnf
|apply zP rfl
 . conv => lhs; whnf
 . conv => lhs; whnf
 . first | rfl | assumption
 . conv => lhs; whnf
 . first | exact h3 | exact h4 | exact h5 | exact h6
|apply zAB rfl
 . conv => lhs; whnf
 . conv => lhs; whnf
 . first | rfl | assumption
|apply zb rfl
 . conv => lhs; whnf
 . conv => lhs; whnf
 . conv => lhs; whnf; arg 2; whnf
|apply zq (by kernel_rfl) (by kernel_rfl)
|apply zAR
|apply zAQ rfl
 . conv => lhs; whnf
 . conv => lhs; whnf; arg 2; whnf
|exact zR
|exact zX
|exact (1000000 : Nat)
|refine zJ ?_
|refine zK ?_
|refine zH ?_
|refine zE rfl ?_
|refine zC ?_
|refine zB ?_
|refine ⟨_,by conv => lhs; whnf; arg 2; whnf,?_⟩; conv => rhs; whnf
|exact trivial
|intro hg)
     all_goals first
      | (rw [hRK]; done)
      | (refine cB ?_
         clear h3 h4 h5 h6 he hn f1
         rw [hRK]
         simp only [z2,z4,z5,z6,y6] at *
         clear z2 z4 z5 z6 y6 hRK
         generalize decide ((d.f 2).l.length = 0) = w2 at *
         generalize decide ((d.f 4).l.length = 0) = w4 at *
         generalize decide ((d.f 5).l.length = 0) = w5 at *
         generalize decide ((d.f 6).l.length = 0) = w6 at *
         simp_all
         done)
      | exact (show Tryd.prog.underlying 4 = some TypeDesc.bool by kernel_rfl)
      | skip
   . have g1 : ((d.f 0).n == 1) = false:=by simpa using hn.1
     have g2 : ((d.f 0).n == 2) = false:=by simpa using hn.2.1
     have g3 : ((d.f 0).n == 3) = false:=by simpa using hn.2.2.1
     have g4 : ((d.f 0).n == 4) = false:=by simpa using hn.2.2.2.1
     have g5 : ((d.f 0).n == 5) = false:=by simpa using hn.2.2.2.2
     rw [if_neg (by omega),if_neg (by omega),if_neg (by omega),if_neg (by omega),if_neg (by omega)] at hRK
     repeat' (first
|apply zF
 . conv => lhs; whnf
 . assumption
|refine zA ?_
|refine zI ?_
|refine zZ ?_
|refine zW ?_
|apply aw_1
 conv => whnf
 refine ⟨?_,trivial⟩
|apply s_1
 conv => whnf; arg 1; arg 4; arg 3; whnf
 refine ⟨?_,?_⟩
|apply zq (by kernel_rfl) (by kernel_rfl)
|apply zAR
|apply zAQ rfl
 . conv => lhs; whnf
 . conv => lhs; whnf; arg 2; whnf
|exact zR
|exact zX
|exact (1000000 : Nat)
|refine zJ ?_
|refine zE rfl ?_
|refine zC ?_
|refine zB ?_
|refine ⟨_,by conv => lhs; whnf; arg 2; whnf,?_⟩; conv => rhs; whnf
|exact trivial)
     all_goals first
      | (rw [hRK]; done)
      | (refine cB ?_
         clear h3 h4 h5 h6 he hn f1
         rw [hRK]
         simp only [z2,z4,z5,z6,y6] at *
         clear z2 z4 z5 z6 y6 hRK
         generalize decide ((d.f 2).l.length = 0) = w2 at *
         generalize decide ((d.f 4).l.length = 0) = w4 at *
         generalize decide ((d.f 5).l.length = 0) = w5 at *
         generalize decide ((d.f 6).l.length = 0) = w6 at *
         simp_all
         done)
      | exact (show Tryd.prog.underlying 4 = some TypeDesc.bool by kernel_rfl)
      | skip
noncomputable def HrFU (d : D) (i : Nat) : Vst 28:=stS 28 [(1,.bx 1 0),(3,.c (.int .i64 (i : Int)))] [(1,.box 24 (cellsV Tryd.prog 12 24 d))]
theorem zC9 (d : D) : AC EN Tryd.prog 8 [.agg (cellsV Tryd.prog 12 24 d)] (.c (.bool (docY litW (d.f 0).l))):=by
 refine zFZ 4 (by kernel_rfl) fun hL2 => ?_
 have hl : (d.f 0).l.length <= 9223372036854775807:=len_doc hL2
 have hd:=fun i (hi : i < (d.f 0).l.length) => defFU_ac (gD (d.f 0).l i) (len_im (len_defs hL2 i hi))
 clear hL2
 by_cases h0 : (d.f 0).l.length = 0
 . have f00 : decide (((d.f 0).l.length : Int) < 1) = true:=decide_eq_true (by omega)
   have K1 : (decide (((d.f 0).l.length : Int) < 1) == false) = true -> False:=fun h => by rw [f00] at h; cases h
   rw [show docY litW (d.f 0).l = false by unfold docY; rw [decide_eq_false (by omega)]; rfl]
   refine zV 28 Tryd.func8 rfl rfl rfl rfl ?_
   intro s w he
   repeat' (first
|exact (K1 ‹_›).elim
|refine zA ?_
|refine zI ?_
|refine zZ ?_
|apply aw_1
 conv => whnf
 refine ⟨?_,trivial⟩
|apply zn rfl rfl
 . conv => lhs; whnf
 . conv => lhs; whnf
 . first | exact bT1 ‹_› | exact bT2 ‹_›
|apply s_1
 conv => whnf; arg 1; arg 4; arg 3; whnf
 refine ⟨?_,?_⟩
|apply zAO rfl rfl rfl rfl
 . conv => lhs; whnf; arg 1; whnf
 . rfl
|apply zAB rfl
 . conv => lhs; whnf
 . conv => lhs; whnf
 . first | rfl | assumption
|apply zb rfl
 . conv => lhs; whnf
 . conv => lhs; whnf
 . conv => lhs; whnf; arg 2; whnf
|refine zK ?_
|refine zB ?_
|refine ⟨_,by conv => lhs; whnf; arg 2; whnf,?_⟩; conv => rhs; whnf
|exact trivial
|intro hg)
   all_goals first
    | rfl
    | skip
 have f00 : decide (((d.f 0).l.length : Int) < 1) = false:=decide_eq_false (by omega)
 have K1 : (decide (((d.f 0).l.length : Int) < 1) == false) = false -> False:=fun h => by rw [f00] at h; cases h
 by_cases hbig : 64 < (d.f 0).l.length
 . have f0 : decide (((d.f 0).l.length : Int) > 64) = true:=decide_eq_true (by omega)
   rw [show docY litW (d.f 0).l = false by unfold docY; rw [decide_eq_false (by omega)]; rfl]
   refine zV 28 Tryd.func8 rfl rfl rfl rfl ?_
   intro s w he
   repeat' (first
|apply zG
 . conv => lhs; whnf
 . assumption
|exact (K1 ‹_›).elim
|refine zA ?_
|refine zI ?_
|refine zZ ?_
|apply aw_1
 conv => whnf
 refine ⟨?_,trivial⟩
|apply zl rfl rfl
 . conv => lhs; whnf
 . conv => lhs; whnf
 . first | exact bF1 ‹_› | exact bF2 ‹_›
|apply s_1
 conv => whnf; arg 1; arg 4; arg 3; whnf
 refine ⟨?_,?_⟩
|apply zAO rfl rfl rfl rfl
 . conv => lhs; whnf; arg 1; whnf
 . rfl
|apply zQ rfl
 . conv => lhs; whnf
 . conv => lhs; whnf
 . first | rfl | assumption
 . conv => lhs; whnf; arg 2; whnf
|apply zb rfl
 . conv => lhs; whnf
 . conv => lhs; whnf
 . conv => lhs; whnf; arg 2; whnf
|refine zK ?_
|refine zB ?_
|refine ⟨_,by conv => lhs; whnf; arg 2; whnf,?_⟩; conv => rhs; whnf
|exact trivial
|intro hg)
   all_goals first
    | rfl
    | skip
 have f0 : decide (((d.f 0).l.length : Int) > 64) = false:=decide_eq_false (by omega)
 have hR : docY litW (d.f 0).l = zAq (defY litW) (d.f 0).l (d.f 0).l.length 0:=by unfold docY; rw [decide_eq_true (by omega),zBJ,Bool.true_and]
 generalize docY litW (d.f 0).l = R at hR |-
 refine zV 28 Tryd.func8 rfl rfl rfl rfl ?_
 intro s w he
 repeat' (first
|apply zF
 . conv => lhs; whnf
 . assumption
|exact (K1 ‹_›).elim
|refine zA ?_
|refine zI ?_
|refine zZ ?_
|apply aw_1
 conv => whnf
 refine ⟨?_,trivial⟩
|apply zl rfl rfl
 . conv => lhs; whnf
 . conv => lhs; whnf
 . first | exact bF1 ‹_› | exact bF2 ‹_›
|apply s_1
 conv => whnf; arg 1; arg 4; arg 3; whnf
 refine ⟨?_,?_⟩
|apply zAO rfl rfl rfl rfl
 . conv => lhs; whnf; arg 1; whnf
 . rfl
|apply zQ rfl
 . conv => lhs; whnf
 . conv => lhs; whnf
 . first | rfl | assumption
 . conv => lhs; whnf; arg 2; whnf
|apply zb rfl
 . conv => lhs; whnf
 . conv => lhs; whnf
 . conv => lhs; whnf; arg 2; whnf
|exact trivial
|intro hg)
 refine z7 (fun j st => ∃ i,i + j = (d.f 0).l.length /\ R = zAq (defY litW) (d.f 0).l j i /\ Sub (cx EN Tryd.prog s w he) st (HrFU d i)) (d.f 0).l.length ⟨0,by omega,hR,Sub.live ⟨rfl,rfl,trivial⟩ ⟨rfl,trivial⟩⟩ ?_
 clear hR f0 f00 K1
 rintro j st ⟨i,hij,hR,hs2⟩
 refine zAA hs2 ?_
 clear hs2
 by_cases hi : i < (d.f 0).l.length
 . obtain ⟨j,rfl⟩ : ∃ q,j = q + 1:=⟨j - 1,by omega⟩
   have f1 : decide ((i : Int) < ((d.f 0).l.length : Nat)) = true:=decide_eq_true (by omega)
   have hR' : R = (defY litW (gD (d.f 0).l i) && zAq (defY litW) (d.f 0).l j (i + 1)):=hR
   clear hR
   have hd1:=hd i hi
   repeat' (first
|apply zG
 . conv => lhs; whnf
 . assumption
|refine zA ?_
|refine zI ?_
|refine zZ ?_
|refine zW ?_
|apply aw_1
 conv => whnf
 refine ⟨?_,trivial⟩
|apply s_1
 conv => whnf; arg 1; arg 4; arg 3; whnf
 refine ⟨?_,?_⟩
|apply zk rfl
 . conv => lhs; whnf
 . conv => lhs; whnf
 . first | exact hd1
|refine zd (by conv => lhs; whnf) ?_ ?_ <;> intro hb
|refine zK ?_
|refine zH ?_
|refine zN ?_
|refine zB ?_
|refine ⟨_,by conv => lhs; whnf; arg 2; whnf,?_⟩; conv => rhs; whnf
|exact trivial)
   all_goals first
    | exact zu (by omega)
    | exact zx hi
    | (have e : defY litW (gD (d.f 0).l i) = false:=by simpa using (by assumption : (!defY litW (gD (d.f 0).l i)) = true)
       rw [hR',e]; rfl)
    | (have e : defY litW (gD (d.f 0).l i) = true:=by simpa using (by assumption : (!defY litW (gD (d.f 0).l i)) = false)
       exact za (j':=j) (by omega) ⟨i + 1,by omega,by rw [hR',e,Bool.true_and],Sub.live ⟨rfl,rfl,trivial⟩ ⟨rfl,trivial⟩⟩)
    | skip
 . obtain rfl : j = 0:=by omega
   have f1 : decide ((i : Int) < ((d.f 0).l.length : Nat)) = false:=decide_eq_false (by omega)
   repeat' (first
|apply zF
 . conv => lhs; whnf
 . assumption
|refine zA ?_
|refine zI ?_
|refine zZ ?_
|apply aw_1
 conv => whnf
 refine ⟨?_,trivial⟩
|apply s_1
 conv => whnf; arg 1; arg 4; arg 3; whnf
 refine ⟨?_,?_⟩
|refine zJ ?_
|refine zE rfl ?_
|refine zC ?_
|refine zB ?_
|refine ⟨_,by conv => lhs; whnf; arg 2; whnf,?_⟩; conv => rhs; whnf
|exact trivial)
   rw [hR]; rfl
end Go.Proofs.YtdlnnlglmifceaaDoor
namespace Go.Proofs.YtdlnnlglmifceaaDoor
open Go.RowKit
set_option linter.unusedSectionVars false
theorem zFN {j : Nat} {d : D} (h : Fits Tryd.prog j 24 d) : ∀ i,i < (d.f 0).l.length -> ∀ k,k < ((gD (d.f 0).l i).f 2).l.length -> ∃ s,gD ((gD (d.f 0).l i).f 2).l k = .str s:=by
 obtain ⟨j,l,rfl,hl,hf⟩:=zAp Tryd.underlying24 h
 have hl : l.length = 1:=hl
 obtain ⟨j0,l0,e0,h0⟩:=zAW Tryd.underlying22 (hf 0 _ rfl)
 show ∀ i,i < (gD l 0).l.length -> ∀ k,k < ((gD (gD l 0).l i).f 2).l.length -> ∃ s,gD ((gD (gD l 0).l i).f 2).l k = .str s
 rw [e0]
 show ∀ i,i < l0.length -> ∀ k,k < ((gD l0 i).f 2).l.length -> ∃ s,gD ((gD l0 i).f 2).l k = .str s
 intro i hi k hk
 obtain ⟨j1,l1,e1,-,hf1⟩:=zAp Tryd.underlying35 (h0 i hi)
 rw [e1] at hk |-
 obtain ⟨j2,l2,e2,h2⟩:=zAW Tryd.underlying29 (hf1 2 _ rfl)
 have hk : k < (gD l1 2).l.length:=hk
 show ∃ s,gD (gD l1 2).l k = .str s
 rw [e2] at hk |-
 exact zAn (h2 k hk)
theorem same_text7 {j1 j2 : Nat} {a b : D} (ha : docY litR (a.f 0).l = true) (hb : docY litR (b.f 0).l = true) (wa : wideD a) (wb : wideD b) (ba : bulkD a <= 1048576) (bb : bulkD b <= 1048576)
 (fa : Fits Tryd.prog j1 24 a) (fb : Fits Tryd.prog j2 24 b) : ((bs (sdlT K6 (a.f 0).l)).toList == (bs (sdlT K6 (b.f 0).l)).toList) = zDT a b:=by
 rw [zEC,zEC,zBB,zBB]
 cases h : zDT a b with
 | true =>
   obtain rfl:=sd7_eq ha hb fa fb h
   simp
 | false =>
   rw [beq_eq_false_iff_ne]
   intro e
   have e:=sdlT_inj (K:=K6) (Nat.le_refl _) ha hb wa wb ba bb fa fb e
   subst e
   rw [zE6] at h
   cases h
theorem ne_same {x b : Bool} (h : x = b) : (!(x == b)) = false:=by subst h; simp
theorem ne_sameK {x b : Bool} (h : x = b) : ((!(x == b)) == true) = true -> False:=by subst h; simp
attribute [local irreducible] wpList Calls Code.wp AW AWo OpOk seqK zAf zAj loopK endK AC zAH Yld Sub
attribute [local irreducible] ACB ACX YldG absLexH
theorem sames7_ac {j1 j2 : Nat} (a b : D) (fa : Fits Tryd.prog j1 24 a) (fb : Fits Tryd.prog j2 24 b) (wa : wideD a) (wb : wideD b) (ba : bulkD a <= 1048576) (bb : bulkD b <= 1048576) : AC EN Tryd.prog 3 [.agg (cellsV Tryd.prog 12 24 a),.agg (cellsV Tryd.prog 12 24 b)] (.c (.bool true)):=by
 have g0:=exam7_ac
 have g1:=zGe a ba
 have g2:=zGe b bb
 have g3:=sdG_ac a b (by omega) (by omega)
 have g4:=sameZ_ac a b (by omega) (by omega)
 have g5:=sdG_ac a a (by omega) (by omega)
 rw [zE6] at g5
 have g6:=zC9 a
 have g7:=zC9 b
 have kT:=zHU
 have kF:=zHV
 cases x1 : zEQ (a.f 0).l with
 | true =>
   rw [x1] at g1
   refine zV 43 Tryd.func3 rfl rfl rfl rfl ?_
   intro s w he
   repeat' (first
|apply s_wanted_pick_t rfl rfl rfl
 . conv => lhs; whnf
 . first | rfl | assumption
 . conv => lhs; whnf
 . first | exact bT1 ‹_› | exact bT2 ‹_› | rfl
|apply zAK rfl rfl rfl
 . conv => lhs; whnf
 . first | rfl | assumption
 . conv => lhs; whnf
 . first | exact bT1 ‹_› | exact bT2 ‹_› | rfl
|apply s_wanted_pick_f rfl rfl rfl
 . conv => lhs; whnf
 . first | rfl | assumption
 . conv => lhs; whnf
 . first | exact bF1 ‹_› | exact bF2 ‹_› | rfl
|apply zAL rfl rfl rfl
 . conv => lhs; whnf
 . first | rfl | assumption
 . conv => lhs; whnf
 . first | exact bF1 ‹_› | exact bF2 ‹_› | rfl
|apply zG
 . conv => lhs; whnf
 . assumption
|apply zF
 . conv => lhs; whnf
 . assumption
|refine ze ?_
|refine zY ?_
|refine zAP ?_
|refine zA ?_
|refine zI ?_
|refine zZ ?_
|refine zW ?_
|refine zi ?_
|apply aw_1
 conv => whnf
 refine ⟨?_,trivial⟩
|apply zn rfl rfl
 . conv => lhs; whnf
 . conv => lhs; whnf
 . first | exact bT1 ‹_› | exact bT2 ‹_›
|apply zl rfl rfl
 . conv => lhs; whnf
 . conv => lhs; whnf
 . first | exact bF1 ‹_› | exact bF2 ‹_›
|apply s_1
 conv => whnf; arg 1; arg 4; arg 3; whnf
 refine ⟨?_,?_⟩
|apply zAF rfl
 . conv => lhs; whnf
 . conv => lhs; whnf; arg 2; whnf
|apply zk rfl
 . conv => lhs; whnf
 . conv => lhs; whnf
 . first | exact g0 | exact g1
|apply zAO rfl rfl rfl rfl
 . conv => lhs; whnf; arg 1; whnf
 . rfl
|apply zQ rfl
 . conv => lhs; whnf
 . conv => lhs; whnf
 . first | rfl | assumption
 . conv => lhs; whnf; arg 2; whnf
|apply zP rfl
 . conv => lhs; whnf
 . conv => lhs; whnf
 . first | rfl | assumption
 . conv => lhs; whnf
 . first | exact g0 | exact g1
|apply zAB rfl
 . conv => lhs; whnf
 . conv => lhs; whnf
 . first | rfl | assumption
|apply zAm rfl
 . conv => lhs; whnf
 . rfl
 . rfl
|apply zb rfl
 . conv => lhs; whnf
 . conv => lhs; whnf
 . conv => lhs; whnf; arg 2; whnf
|apply zt rfl
 . conv => lhs; whnf
 . conv => lhs; whnf
 . conv => lhs; whnf
 . first | exact g0 | exact g1
|apply zm rfl
 . conv => lhs; whnf
 . conv => lhs; whnf
 . conv => lhs; whnf; arg 2; whnf
|apply zg rfl
 . conv => lhs; whnf
 . conv => lhs; whnf
 . conv => lhs; whnf
 . first | exact g0 | exact g1
|apply zq (by kernel_rfl) (by kernel_rfl)
|apply zAR
|apply zAb rfl rfl
 . conv => lhs; whnf
 . conv => lhs; whnf
 . first | exact bT1 ‹_› | exact bT2 ‹_›
|apply zAX rfl rfl
 . conv => lhs; whnf
 . conv => lhs; whnf
 . first | exact bF1 ‹_› | exact bF2 ‹_›
|apply zAQ rfl
 . conv => lhs; whnf
 . conv => lhs; whnf; arg 2; whnf
|apply zAU rfl
 . conv => lhs; whnf
 . conv => lhs; whnf
 . first | exact g0 | exact g1
|apply zz rfl
 . conv => lhs; whnf
 . conv => lhs; whnf
 . first | rfl | assumption
 . conv => lhs; whnf; arg 2; whnf
|apply zw rfl
 . conv => lhs; whnf
 . conv => lhs; whnf
 . first | rfl | assumption
 . conv => lhs; whnf
 . first | exact g0 | exact g1
|apply zAt rfl
 . conv => lhs; whnf
 . conv => lhs; whnf
 . first | rfl | assumption
|apply zAJ rfl
 . conv => lhs; whnf
 . conv => lhs; whnf
 . conv => lhs; whnf; arg 2; whnf
|apply zAD rfl
 . conv => lhs; whnf
 . conv => lhs; whnf
 . conv => lhs; whnf
 . first | exact g0 | exact g1
|exact zR
|exact zX
|exact all_nil
|show List.all _ _ = true; rfl
|show zAC _ _ = true; rfl
|exact ([] : List Nat)
|exact (1000000 : Nat)
|apply zS
 . conv => lhs; whnf; arg 1; arg 1; whnf
|apply zU
 . conv => lhs; whnf; arg 1; arg 1; whnf
|refine zd (by conv => lhs; whnf) ?_ ?_ <;> intro hb
|refine zv ?_
|refine zh ?_
|refine zJ ?_
|refine zK ?_
|refine zH ?_
|refine zE rfl ?_
|refine zM rfl ?_
|refine zL ?_
|refine zO ?_
|refine zC ?_
|refine zN ?_
|refine zAG ?_
|refine zB ?_
|refine ⟨_,by conv => lhs; whnf; arg 2; whnf,?_⟩; conv => rhs; whnf
|exact trivial
|intro hg)
   all_goals rfl
 | false =>
 rw [x1] at g1
 cases x2 : zEQ (b.f 0).l with
 | true =>
   rw [x2] at g2
   refine zV 43 Tryd.func3 rfl rfl rfl rfl ?_
   intro s w he
   repeat' (first
|apply s_wanted_pick_t rfl rfl rfl
 . conv => lhs; whnf
 . first | rfl | assumption
 . conv => lhs; whnf
 . first | exact bT1 ‹_› | exact bT2 ‹_› | rfl
|apply zAK rfl rfl rfl
 . conv => lhs; whnf
 . first | rfl | assumption
 . conv => lhs; whnf
 . first | exact bT1 ‹_› | exact bT2 ‹_› | rfl
|apply s_wanted_pick_f rfl rfl rfl
 . conv => lhs; whnf
 . first | rfl | assumption
 . conv => lhs; whnf
 . first | exact bF1 ‹_› | exact bF2 ‹_› | rfl
|apply zAL rfl rfl rfl
 . conv => lhs; whnf
 . first | rfl | assumption
 . conv => lhs; whnf
 . first | exact bF1 ‹_› | exact bF2 ‹_› | rfl
|apply zG
 . conv => lhs; whnf
 . assumption
|apply zF
 . conv => lhs; whnf
 . assumption
|refine ze ?_
|refine zY ?_
|refine zAP ?_
|refine zA ?_
|refine zI ?_
|refine zZ ?_
|refine zW ?_
|refine zi ?_
|apply aw_1
 conv => whnf
 refine ⟨?_,trivial⟩
|apply zn rfl rfl
 . conv => lhs; whnf
 . conv => lhs; whnf
 . first | exact bT1 ‹_› | exact bT2 ‹_›
|apply zl rfl rfl
 . conv => lhs; whnf
 . conv => lhs; whnf
 . first | exact bF1 ‹_› | exact bF2 ‹_›
|apply s_1
 conv => whnf; arg 1; arg 4; arg 3; whnf
 refine ⟨?_,?_⟩
|apply zAF rfl
 . conv => lhs; whnf
 . conv => lhs; whnf; arg 2; whnf
|apply zk rfl
 . conv => lhs; whnf
 . conv => lhs; whnf
 . first | exact g0 | exact g1 | exact g2
|apply zAO rfl rfl rfl rfl
 . conv => lhs; whnf; arg 1; whnf
 . rfl
|apply zQ rfl
 . conv => lhs; whnf
 . conv => lhs; whnf
 . first | rfl | assumption
 . conv => lhs; whnf; arg 2; whnf
|apply zP rfl
 . conv => lhs; whnf
 . conv => lhs; whnf
 . first | rfl | assumption
 . conv => lhs; whnf
 . first | exact g0 | exact g1 | exact g2
|apply zAB rfl
 . conv => lhs; whnf
 . conv => lhs; whnf
 . first | rfl | assumption
|apply zAm rfl
 . conv => lhs; whnf
 . rfl
 . rfl
|apply zb rfl
 . conv => lhs; whnf
 . conv => lhs; whnf
 . conv => lhs; whnf; arg 2; whnf
|apply zt rfl
 . conv => lhs; whnf
 . conv => lhs; whnf
 . conv => lhs; whnf
 . first | exact g0 | exact g1 | exact g2
|apply zm rfl
 . conv => lhs; whnf
 . conv => lhs; whnf
 . conv => lhs; whnf; arg 2; whnf
|apply zg rfl
 . conv => lhs; whnf
 . conv => lhs; whnf
 . conv => lhs; whnf
 . first | exact g0 | exact g1 | exact g2
|apply zq (by kernel_rfl) (by kernel_rfl)
|apply zAR
|apply zAb rfl rfl
 . conv => lhs; whnf
 . conv => lhs; whnf
 . first | exact bT1 ‹_› | exact bT2 ‹_›
|apply zAX rfl rfl
 . conv => lhs; whnf
 . conv => lhs; whnf
 . first | exact bF1 ‹_› | exact bF2 ‹_›
|apply zAQ rfl
 . conv => lhs; whnf
 . conv => lhs; whnf; arg 2; whnf
|apply zAU rfl
 . conv => lhs; whnf
 . conv => lhs; whnf
 . first | exact g0 | exact g1 | exact g2
|apply zz rfl
 . conv => lhs; whnf
 . conv => lhs; whnf
 . first | rfl | assumption
 . conv => lhs; whnf; arg 2; whnf
|apply zw rfl
 . conv => lhs; whnf
 . conv => lhs; whnf
 . first | rfl | assumption
 . conv => lhs; whnf
 . first | exact g0 | exact g1 | exact g2
|apply zAt rfl
 . conv => lhs; whnf
 . conv => lhs; whnf
 . first | rfl | assumption
|apply zAJ rfl
 . conv => lhs; whnf
 . conv => lhs; whnf
 . conv => lhs; whnf; arg 2; whnf
|apply zAD rfl
 . conv => lhs; whnf
 . conv => lhs; whnf
 . conv => lhs; whnf
 . first | exact g0 | exact g1 | exact g2
|exact zR
|exact zX
|exact all_nil
|show List.all _ _ = true; rfl
|show zAC _ _ = true; rfl
|exact ([] : List Nat)
|exact (1000000 : Nat)
|apply zS
 . conv => lhs; whnf; arg 1; arg 1; whnf
|apply zU
 . conv => lhs; whnf; arg 1; arg 1; whnf
|refine zd (by conv => lhs; whnf) ?_ ?_ <;> intro hb
|refine zv ?_
|refine zh ?_
|refine zJ ?_
|refine zK ?_
|refine zH ?_
|refine zE rfl ?_
|refine zM rfl ?_
|refine zL ?_
|refine zO ?_
|refine zC ?_
|refine zN ?_
|refine zAG ?_
|refine zB ?_
|refine ⟨_,by conv => lhs; whnf; arg 2; whnf,?_⟩; conv => rhs; whnf
|exact trivial
|intro hg)
   all_goals rfl
 | false =>
 rw [x2] at g2
 cases x3 : docY litW (a.f 0).l with
 | false =>
   rw [x3] at g6
   cases x5 : zDT a b
   all_goals
    rw [x5] at g3 g4
    refine zV 43 Tryd.func3 rfl rfl rfl rfl ?_
    intro s w he
    repeat' (first
|apply s_wanted_pick_t rfl rfl rfl
 . conv => lhs; whnf
 . first | rfl | assumption
 . conv => lhs; whnf
 . first | exact bT1 ‹_› | exact bT2 ‹_› | rfl
|apply zAK rfl rfl rfl
 . conv => lhs; whnf
 . first | rfl | assumption
 . conv => lhs; whnf
 . first | exact bT1 ‹_› | exact bT2 ‹_› | rfl
|apply s_wanted_pick_f rfl rfl rfl
 . conv => lhs; whnf
 . first | rfl | assumption
 . conv => lhs; whnf
 . first | exact bF1 ‹_› | exact bF2 ‹_› | rfl
|apply zAL rfl rfl rfl
 . conv => lhs; whnf
 . first | rfl | assumption
 . conv => lhs; whnf
 . first | exact bF1 ‹_› | exact bF2 ‹_› | rfl
|apply zG
 . conv => lhs; whnf
 . assumption
|apply zF
 . conv => lhs; whnf
 . assumption
|exact (kT ‹_›).elim
|exact (kF ‹_›).elim
|refine ze ?_
|refine zY ?_
|refine zAP ?_
|refine zA ?_
|refine zI ?_
|refine zZ ?_
|refine zW ?_
|refine zi ?_
|apply aw_1
 conv => whnf
 refine ⟨?_,trivial⟩
|apply zn rfl rfl
 . conv => lhs; whnf
 . conv => lhs; whnf
 . first | exact bT1 ‹_› | exact bT2 ‹_›
|apply zl rfl rfl
 . conv => lhs; whnf
 . conv => lhs; whnf
 . first | exact bF1 ‹_› | exact bF2 ‹_›
|apply s_1
 conv => whnf; arg 1; arg 4; arg 3; whnf
 refine ⟨?_,?_⟩
|apply zAF rfl
 . conv => lhs; whnf
 . conv => lhs; whnf; arg 2; whnf
|apply zk rfl
 . conv => lhs; whnf
 . conv => lhs; whnf
 . first | exact g0 | exact g1 | exact g2 | exact g3 | exact g4 | exact g5 | exact g6
|apply zAO rfl rfl rfl rfl
 . conv => lhs; whnf; arg 1; whnf
 . rfl
|apply zQ rfl
 . conv => lhs; whnf
 . conv => lhs; whnf
 . first | rfl | assumption
 . conv => lhs; whnf; arg 2; whnf
|apply zP rfl
 . conv => lhs; whnf
 . conv => lhs; whnf
 . first | rfl | assumption
 . conv => lhs; whnf
 . first | exact g0 | exact g1 | exact g2 | exact g3 | exact g4 | exact g5 | exact g6
|apply zAB rfl
 . conv => lhs; whnf
 . conv => lhs; whnf
 . first | rfl | assumption
|apply zAm rfl
 . conv => lhs; whnf
 . rfl
 . rfl
|apply zb rfl
 . conv => lhs; whnf
 . conv => lhs; whnf
 . conv => lhs; whnf; arg 2; whnf
|apply zt rfl
 . conv => lhs; whnf
 . conv => lhs; whnf
 . conv => lhs; whnf
 . first | exact g0 | exact g1 | exact g2 | exact g3 | exact g4 | exact g5 | exact g6
|apply zm rfl
 . conv => lhs; whnf
 . conv => lhs; whnf
 . conv => lhs; whnf; arg 2; whnf
|apply zg rfl
 . conv => lhs; whnf
 . conv => lhs; whnf
 . conv => lhs; whnf
 . first | exact g0 | exact g1 | exact g2 | exact g3 | exact g4 | exact g5 | exact g6
|apply zq (by kernel_rfl) (by kernel_rfl)
|apply zAR
|apply zAb rfl rfl
 . conv => lhs; whnf
 . conv => lhs; whnf
 . first | exact bT1 ‹_› | exact bT2 ‹_›
|apply zAX rfl rfl
 . conv => lhs; whnf
 . conv => lhs; whnf
 . first | exact bF1 ‹_› | exact bF2 ‹_›
|apply zAQ rfl
 . conv => lhs; whnf
 . conv => lhs; whnf; arg 2; whnf
|apply zAU rfl
 . conv => lhs; whnf
 . conv => lhs; whnf
 . first | exact g0 | exact g1 | exact g2 | exact g3 | exact g4 | exact g5 | exact g6
|apply zz rfl
 . conv => lhs; whnf
 . conv => lhs; whnf
 . first | rfl | assumption
 . conv => lhs; whnf; arg 2; whnf
|apply zw rfl
 . conv => lhs; whnf
 . conv => lhs; whnf
 . first | rfl | assumption
 . conv => lhs; whnf
 . first | exact g0 | exact g1 | exact g2 | exact g3 | exact g4 | exact g5 | exact g6
|apply zAt rfl
 . conv => lhs; whnf
 . conv => lhs; whnf
 . first | rfl | assumption
|apply zAJ rfl
 . conv => lhs; whnf
 . conv => lhs; whnf
 . conv => lhs; whnf; arg 2; whnf
|apply zAD rfl
 . conv => lhs; whnf
 . conv => lhs; whnf
 . conv => lhs; whnf
 . first | exact g0 | exact g1 | exact g2 | exact g3 | exact g4 | exact g5 | exact g6
|exact zR
|exact zX
|exact all_nil
|show List.all _ _ = true; rfl
|show zAC _ _ = true; rfl
|exact ([] : List Nat)
|exact (1000000 : Nat)
|apply zS
 . conv => lhs; whnf; arg 1; arg 1; whnf
|apply zU
 . conv => lhs; whnf; arg 1; arg 1; whnf
|refine zd (by conv => lhs; whnf) ?_ ?_ <;> intro hb
|refine zv ?_
|refine zh ?_
|refine zJ ?_
|refine zK ?_
|refine zH ?_
|refine zE rfl ?_
|refine zM rfl ?_
|refine zL ?_
|refine zO ?_
|refine zC ?_
|refine zN ?_
|refine zAG ?_
|refine zB ?_
|refine ⟨_,by conv => lhs; whnf; arg 2; whnf,?_⟩; conv => rhs; whnf
|exact trivial
|intro hg)
   all_goals first | rfl | exact (show Tryd.prog.underlying _ = some .bool by kernel_rfl)
 | true =>
 rw [x3] at g6
 cases x4 : docY litW (b.f 0).l with
 | false =>
   rw [x4] at g7
   cases x5 : zDT a b
   all_goals
    rw [x5] at g3 g4
    refine zV 43 Tryd.func3 rfl rfl rfl rfl ?_
    intro s w he
    repeat' (first
|apply s_wanted_pick_t rfl rfl rfl
 . conv => lhs; whnf
 . first | rfl | assumption
 . conv => lhs; whnf
 . first | exact bT1 ‹_› | exact bT2 ‹_› | rfl
|apply zAK rfl rfl rfl
 . conv => lhs; whnf
 . first | rfl | assumption
 . conv => lhs; whnf
 . first | exact bT1 ‹_› | exact bT2 ‹_› | rfl
|apply s_wanted_pick_f rfl rfl rfl
 . conv => lhs; whnf
 . first | rfl | assumption
 . conv => lhs; whnf
 . first | exact bF1 ‹_› | exact bF2 ‹_› | rfl
|apply zAL rfl rfl rfl
 . conv => lhs; whnf
 . first | rfl | assumption
 . conv => lhs; whnf
 . first | exact bF1 ‹_› | exact bF2 ‹_› | rfl
|apply zG
 . conv => lhs; whnf
 . assumption
|apply zF
 . conv => lhs; whnf
 . assumption
|exact (kT ‹_›).elim
|exact (kF ‹_›).elim
|refine ze ?_
|refine zY ?_
|refine zAP ?_
|refine zA ?_
|refine zI ?_
|refine zZ ?_
|refine zW ?_
|refine zi ?_
|apply aw_1
 conv => whnf
 refine ⟨?_,trivial⟩
|apply zn rfl rfl
 . conv => lhs; whnf
 . conv => lhs; whnf
 . first | exact bT1 ‹_› | exact bT2 ‹_›
|apply zl rfl rfl
 . conv => lhs; whnf
 . conv => lhs; whnf
 . first | exact bF1 ‹_› | exact bF2 ‹_›
|apply s_1
 conv => whnf; arg 1; arg 4; arg 3; whnf
 refine ⟨?_,?_⟩
|apply zAF rfl
 . conv => lhs; whnf
 . conv => lhs; whnf; arg 2; whnf
|apply zk rfl
 . conv => lhs; whnf
 . conv => lhs; whnf
 . first | exact g0 | exact g1 | exact g2 | exact g3 | exact g4 | exact g5 | exact g6 | exact g7
|apply zAO rfl rfl rfl rfl
 . conv => lhs; whnf; arg 1; whnf
 . rfl
|apply zQ rfl
 . conv => lhs; whnf
 . conv => lhs; whnf
 . first | rfl | assumption
 . conv => lhs; whnf; arg 2; whnf
|apply zP rfl
 . conv => lhs; whnf
 . conv => lhs; whnf
 . first | rfl | assumption
 . conv => lhs; whnf
 . first | exact g0 | exact g1 | exact g2 | exact g3 | exact g4 | exact g5 | exact g6 | exact g7
|apply zAB rfl
 . conv => lhs; whnf
 . conv => lhs; whnf
 . first | rfl | assumption
|apply zAm rfl
 . conv => lhs; whnf
 . rfl
 . rfl
|apply zb rfl
 . conv => lhs; whnf
 . conv => lhs; whnf
 . conv => lhs; whnf; arg 2; whnf
|apply zt rfl
 . conv => lhs; whnf
 . conv => lhs; whnf
 . conv => lhs; whnf
 . first | exact g0 | exact g1 | exact g2 | exact g3 | exact g4 | exact g5 | exact g6 | exact g7
|apply zm rfl
 . conv => lhs; whnf
 . conv => lhs; whnf
 . conv => lhs; whnf; arg 2; whnf
|apply zg rfl
 . conv => lhs; whnf
 . conv => lhs; whnf
 . conv => lhs; whnf
 . first | exact g0 | exact g1 | exact g2 | exact g3 | exact g4 | exact g5 | exact g6 | exact g7
|apply zq (by kernel_rfl) (by kernel_rfl)
|apply zAR
|apply zAb rfl rfl
 . conv => lhs; whnf
 . conv => lhs; whnf
 . first | exact bT1 ‹_› | exact bT2 ‹_›
|apply zAX rfl rfl
 . conv => lhs; whnf
 . conv => lhs; whnf
 . first | exact bF1 ‹_› | exact bF2 ‹_›
|apply zAQ rfl
 . conv => lhs; whnf
 . conv => lhs; whnf; arg 2; whnf
|apply zAU rfl
 . conv => lhs; whnf
 . conv => lhs; whnf
 . first | exact g0 | exact g1 | exact g2 | exact g3 | exact g4 | exact g5 | exact g6 | exact g7
|apply zz rfl
 . conv => lhs; whnf
 . conv => lhs; whnf
 . first | rfl | assumption
 . conv => lhs; whnf; arg 2; whnf
|apply zw rfl
 . conv => lhs; whnf
 . conv => lhs; whnf
 . first | rfl | assumption
 . conv => lhs; whnf
 . first | exact g0 | exact g1 | exact g2 | exact g3 | exact g4 | exact g5 | exact g6 | exact g7
|apply zAt rfl
 . conv => lhs; whnf
 . conv => lhs; whnf
 . first | rfl | assumption
|apply zAJ rfl
 . conv => lhs; whnf
 . conv => lhs; whnf
 . conv => lhs; whnf; arg 2; whnf
|apply zAD rfl
 . conv => lhs; whnf
 . conv => lhs; whnf
 . conv => lhs; whnf
 . first | exact g0 | exact g1 | exact g2 | exact g3 | exact g4 | exact g5 | exact g6 | exact g7
|exact zR
|exact zX
|exact all_nil
|show List.all _ _ = true; rfl
|show zAC _ _ = true; rfl
|exact ([] : List Nat)
|exact (1000000 : Nat)
|apply zS
 . conv => lhs; whnf; arg 1; arg 1; whnf
|apply zU
 . conv => lhs; whnf; arg 1; arg 1; whnf
|refine zd (by conv => lhs; whnf) ?_ ?_ <;> intro hb
|refine zv ?_
|refine zh ?_
|refine zJ ?_
|refine zK ?_
|refine zH ?_
|refine zE rfl ?_
|refine zM rfl ?_
|refine zL ?_
|refine zO ?_
|refine zC ?_
|refine zN ?_
|refine zAG ?_
|refine zB ?_
|refine ⟨_,by conv => lhs; whnf; arg 2; whnf,?_⟩; conv => rhs; whnf
|exact trivial
|intro hg)
   all_goals first | rfl | exact (show Tryd.prog.underlying _ = some .bool by kernel_rfl)
 | true =>
   rw [x4] at g7
   have bla : bulkL (a.f 0).l <= 1048576:=bk_l (bk_f ba 0)
   have blb : bulkL (b.f 0).l <= 1048576:=bk_l (bk_f bb 0)
   have ya:=zFO bla x3
   have yb:=zFO blb x4
   have hst:=same_text7 ya yb wa wb ba bb fa fb
   have g8:=zDW (docP ya).2.2 (zFN fa) wa ba
   have g9:=zDW (docP yb).2.2 (zFN fb) wb bb
   generalize sdlT K6 (a.f 0).l = T1 at g8 hst
   generalize sdlT K6 (b.f 0).l = T2 at g9 hst
   clear ya yb bla blb
   cases x5 : zDT a b
   all_goals
    rw [x5] at g3 g4 hst
    have k0:=ne_same hst
    have k1:=ne_sameK hst
    refine zV 43 Tryd.func3 rfl rfl rfl rfl ?_
    intro s w he
    repeat' (first
|apply s_wanted_pick_t rfl rfl rfl
 . conv => lhs; whnf
 . first | rfl | assumption
 . conv => lhs; whnf
 . first | exact bT1 ‹_› | exact bT2 ‹_› | rfl
|apply zAK rfl rfl rfl
 . conv => lhs; whnf
 . first | rfl | assumption
 . conv => lhs; whnf
 . first | exact bT1 ‹_› | exact bT2 ‹_› | rfl
|apply s_wanted_pick_f rfl rfl rfl
 . conv => lhs; whnf
 . first | rfl | assumption
 . conv => lhs; whnf
 . first | exact bF1 ‹_› | exact bF2 ‹_› | rfl
|apply zAL rfl rfl rfl
 . conv => lhs; whnf
 . first | rfl | assumption
 . conv => lhs; whnf
 . first | exact bF1 ‹_› | exact bF2 ‹_› | rfl
|apply zG
 . conv => lhs; whnf
 . assumption
|apply zF
 . conv => lhs; whnf
 . assumption
|exact (kT ‹_›).elim
|exact (kF ‹_›).elim
|exact (k1 ‹_›).elim
|refine ze ?_
|refine zY ?_
|refine zAP ?_
|refine zA ?_
|refine zI ?_
|refine zZ ?_
|refine zW ?_
|refine zi ?_
|apply aw_1
 conv => whnf
 refine ⟨?_,trivial⟩
|apply zn rfl rfl
 . conv => lhs; whnf
 . conv => lhs; whnf
 . first | exact bT1 ‹_› | exact bT2 ‹_›
|apply zl rfl rfl
 . conv => lhs; whnf
 . conv => lhs; whnf
 . first | exact bF1 ‹_› | exact bF2 ‹_›
|apply s_1
 conv => whnf; arg 1; arg 4; arg 3; whnf
 refine ⟨?_,?_⟩
|apply zAF rfl
 . conv => lhs; whnf
 . conv => lhs; whnf; arg 2; whnf
|apply zk rfl
 . conv => lhs; whnf
 . conv => lhs; whnf
 . first | exact g0 | exact g1 | exact g2 | exact g3 | exact g4 | exact g5 | exact g6 | exact g7 | exact g8 | exact g9
|apply zAO rfl rfl rfl rfl
 . conv => lhs; whnf; arg 1; whnf
 . rfl
|apply zQ rfl
 . conv => lhs; whnf
 . conv => lhs; whnf
 . first | rfl | assumption
 . conv => lhs; whnf; arg 2; whnf
|apply zP rfl
 . conv => lhs; whnf
 . conv => lhs; whnf
 . first | rfl | assumption
 . conv => lhs; whnf
 . first | exact g0 | exact g1 | exact g2 | exact g3 | exact g4 | exact g5 | exact g6 | exact g7 | exact g8 | exact g9
|apply zAB rfl
 . conv => lhs; whnf
 . conv => lhs; whnf
 . first | rfl | assumption
|apply zAm rfl
 . conv => lhs; whnf
 . rfl
 . rfl
|apply zb rfl
 . conv => lhs; whnf
 . conv => lhs; whnf
 . conv => lhs; whnf; arg 2; whnf
|apply zt rfl
 . conv => lhs; whnf
 . conv => lhs; whnf
 . conv => lhs; whnf
 . first | exact g0 | exact g1 | exact g2 | exact g3 | exact g4 | exact g5 | exact g6 | exact g7 | exact g8 | exact g9
|apply zm rfl
 . conv => lhs; whnf
 . conv => lhs; whnf
 . conv => lhs; whnf; arg 2; whnf
|apply zg rfl
 . conv => lhs; whnf
 . conv => lhs; whnf
 . conv => lhs; whnf
 . first | exact g0 | exact g1 | exact g2 | exact g3 | exact g4 | exact g5 | exact g6 | exact g7 | exact g8 | exact g9
|apply zq (by kernel_rfl) (by kernel_rfl)
|apply zAR
|apply zAb rfl rfl
 . conv => lhs; whnf
 . conv => lhs; whnf
 . first | exact bT1 ‹_› | exact bT2 ‹_›
|apply zAX rfl rfl
 . conv => lhs; whnf
 . conv => lhs; whnf
 . first | exact bF1 ‹_› | exact bF2 ‹_›
|apply zAQ rfl
 . conv => lhs; whnf
 . conv => lhs; whnf; arg 2; whnf
|apply zAU rfl
 . conv => lhs; whnf
 . conv => lhs; whnf
 . first | exact g0 | exact g1 | exact g2 | exact g3 | exact g4 | exact g5 | exact g6 | exact g7 | exact g8 | exact g9
|apply zz rfl
 . conv => lhs; whnf
 . conv => lhs; whnf
 . first | rfl | assumption
 . conv => lhs; whnf; arg 2; whnf
|apply zw rfl
 . conv => lhs; whnf
 . conv => lhs; whnf
 . first | rfl | assumption
 . conv => lhs; whnf
 . first | exact g0 | exact g1 | exact g2 | exact g3 | exact g4 | exact g5 | exact g6 | exact g7 | exact g8 | exact g9
|apply zAt rfl
 . conv => lhs; whnf
 . conv => lhs; whnf
 . first | rfl | assumption
|apply zAJ rfl
 . conv => lhs; whnf
 . conv => lhs; whnf
 . conv => lhs; whnf; arg 2; whnf
|apply zAD rfl
 . conv => lhs; whnf
 . conv => lhs; whnf
 . conv => lhs; whnf
 . first | exact g0 | exact g1 | exact g2 | exact g3 | exact g4 | exact g5 | exact g6 | exact g7 | exact g8 | exact g9
|exact zR
|exact zX
|exact all_nil
|show List.all _ _ = true; rfl
|show zAC _ _ = true; rfl
|exact ([] : List Nat)
|exact (1000000 : Nat)
|apply zS
 . conv => lhs; whnf; arg 1; arg 1; whnf
|apply zU
 . conv => lhs; whnf; arg 1; arg 1; whnf
|refine zd (by conv => lhs; whnf) ?_ ?_ <;> intro hb
|refine zv ?_
|refine zh ?_
|refine zJ ?_
|refine zK ?_
|refine zH ?_
|refine zE rfl ?_
|refine zM rfl ?_
|refine zL ?_
|refine zO ?_
|refine zC ?_
|refine zN ?_
|refine zAG ?_
|refine zB ?_
|refine ⟨_,by conv => lhs; whnf; arg 2; whnf,?_⟩; conv => rhs; whnf
|exact trivial
|intro hg)
   all_goals first | rfl | exact (show Tryd.prog.underlying _ = some .bool by kernel_rfl)
end Go.Proofs.YtdlnnlglmifceaaDoor
namespace Go.Proofs.YtdlnnlglmifceaaDoor
open Go.ChangeShapes Go.WideShapes Go.ChangeAt Go.RowKit
attribute [local irreducible] wpList Calls Code.wp
def closedB (P : Program) (S : List TypeId) : Bool:=S.all fun t => match P.underlying t with
 | some .bool => true
 | some .string => true
 | some (.int q) => match q with | .i64 => true | _ => false
 | some (.slice e) => S.contains e && Nat.blt 0 (P.cellsOf e)
 | some (.struct fs) => fs.toList.all fun f => S.contains f.type
 | _ => false
theorem zFd : ∀ {l : List D},(∀ i,i < l.length -> wideD (gD l i)) -> wideL l
 | [],_ => trivial
 | d :: r,h => ⟨h 0 (by simp),zFd fun i hi => by
   have:=h (i + 1) (by simpa using hi)
   simpa [gD] using this⟩
theorem zFc {P : Program} {w : World} {I : Nat -> Prop} {S : List TypeId} (hS : closedB P S = true) : ∀ {k : Nat} {t : TypeId} {cs : List Value} {d : D},S.contains t = true -> Rep P w I k t cs d -> Fits P k t d -> wideD d
 | 0,_,_,_,_,h,_ => h.elim
 | k + 1,t,cs,d,ht,hr,hf => by
   have hc:=List.all_eq_true.1 hS t (List.contains_iff_mem.1 ht)
   unfold Rep at hr
   unfold Fits at hf
   split at hr
   . rename_i hu
     rw [hu] at hf
     obtain ⟨b,rfl⟩:=hf
     trivial
   . rename_i q hu
     rw [hu] at hf hc
     obtain ⟨n,rfl⟩:=hf
     obtain ⟨-,hw⟩:=hr
     cases q <;> simp at hc
     have hw : (Lit.int IntKind.i64 n).wf = true:=hw
     show i64D n
     rw [zCm] at hw
     simp [IntKind.min,IntKind.max,IntKind.signed,IntKind.bits] at hw
     unfold i64D
     omega
   . rename_i hu
     rw [hu] at hf
     obtain ⟨s,rfl⟩:=hf
     trivial
   . rename_i e hu
     rw [hu] at hf hc
     obtain ⟨l,rfl,hfl⟩:=hf
     simp only [Bool.and_eq_true] at hc
     obtain ⟨A,c,-,-,-,-,hi⟩:=hr
     show wideL l
     refine zFd fun i hl => ?_
     obtain ⟨b,off,-,-,hel⟩:=hi (by show 0 < l.length; omega) (Nat.le_of_ble_eq_true hc.2)
     obtain ⟨ys,-,-,hy⟩:=hel i hl
     exact zFc hS hc.1 hy (hfl i hl)
   . rename_i fs hu
     rw [hu] at hf hc
     obtain ⟨l,rfl,hl,hfl⟩:=hf
     show wideL l
     refine zFd fun i hi => ?_
     have hfi : fs[i]? = some (fs[i]'(by omega)):=Array.getElem?_eq_getElem (by omega)
     have hmem:=List.all_eq_true.1 hc (fs[i]'(by omega)) (by simp)
     exact zFc hS hmem (hr.2 i _ hfi) (hfl i _ hfi)
   . rename_i h1 h2 h3 h4 h5
     exfalso
     split at hc
     . exact h1 ‹_›
     . exact h3 ‹_›
     . exact h2 _ ‹_›
     . exact h4 _ ‹_›
     . exact h5 _ ‹_›
     . cases hc
theorem arg_in {H : Type} {enc : TypeId × Value -> H} {W : World} {v : Value} {base : Nat} {dw : DataW H} {ps : List MemPlace} {t : TypeId} {fs : Array Field} (ht : Tryd.prog.underlying t = some (.struct fs)) (hv : Value.okWide Tryd.prog W .any base t v)
 (hd : DataW.Trod enc Tryd.prog W 0 (fun _ => true) true t v dw ps) :
 ∃ (k : Nat) (cs : Array Value) (d : D),v = .agg cs /\ Rep Tryd.prog W (fun b => b < W.heap.size) k t cs.toList d /\ Fits Tryd.prog k t d /\ bulkD d <= Rows.uptoBulk dw:=by
 obtain ⟨cs,rfl,_⟩:=okWide_struct ht hv
 obtain ⟨k,hk⟩:=hd
 obtain ⟨d,h1,h2,h3⟩:=zCU hk
 exact ⟨k,cs,d,rfl,by simpa [Value.cells] using h1,h2,h3⟩
theorem rep_len {P : Program} {w : World} {I : Nat -> Prop} {k : Nat} {t : TypeId} {cs : List Value} {d : D} {fs : Array Field} (ht : P.underlying t = some (.struct fs)) (h : Rep P w I k t cs d) : cs.length = P.cellsOf t:=by
 cases k with
 | zero => exact h.elim
 | succ k => unfold Rep at h; rw [ht] at h; exact h.1
theorem cells0 {W : World} {k : Nat} {t : TypeId} {cs : Array Value} {d : D} {fs : Array Field} (ht : Tryd.prog.underlying t = some (.struct fs)) (hl : layB Tryd.prog 12 t = true) (hr : Rep Tryd.prog W (fun b => b < W.heap.size) k t cs.toList d) : rel Tryd.prog (sg0 W) W (.agg (cellsV Tryd.prog 12 t d)) (.agg cs):=by
 rw [rel]
 exact ⟨cs,rfl,zDQ (s:=sg0 W) 12 k t cs.toList d (RepF.of_rep hr fun b o _ h => h) (rep_len ht hr) hl⟩
theorem zHa {f : FuncId} {args : List V} {W : World} {us : Array Value} (h : AC EN Tryd.prog f args (.c (.bool true))) (hr : relL Tryd.prog (sg0 W) W args us.toList) (he : EnvT W) : Calls Tryd.prog f us W fun e W' => e = .returned (.bool true) /\ Below W.heap.size W W':=by
 refine (h (sg0 W) W us hr (fun b o h => h) he).mono ?_
 rintro e W' ⟨v,F',rfl,hfr,-,-,-,hv⟩
 rw [rel] at hv
 obtain ⟨rfl,-⟩:=hv
 exact ⟨rfl,hfr.below⟩
def laidL9 : List (String × DataW Unit) := [("math/bits.deBruijn32tab", Rows.laid_math_bits_deBruijn32tab), ("math/bits.deBruijn64tab", Rows.laid_math_bits_deBruijn64tab), ("internal/strconv.uint64pow10", Rows.laid_internal_strconv_uint64pow10)]
theorem zGp {W : World} (h : laidMetH Tryd.prog laidL9 W) : EnvT W:=by
 have h' : laidMet Tryd.prog laidL9 W:=h
 obtain ⟨ps,⟨_,_,_,_,_,_,_,_,_,_,⟨_,_,_,_,_,_,_,_,_,_,⟨g3,t3,c3,f3,p3,q3,a3,b3,e3,d3,_⟩,_⟩,_⟩,_⟩:=h'
 exact tab_of_row gPow gPowT Tryd.underlying124 Tryd.underlying116 (by kernel_rfl) (by kernel_rfl) ⟨g3,t3,c3,f3,p3,a3,b3,e3,d3⟩
def docSet7 : List TypeId:=[24,22,35,31,40,32,53,33,76,62,67,30,64,42,44,29,9,38,36,3,4]
theorem zEc : closedB Tryd.prog docSet7 = true:=by kernel_rfl
theorem rowSames7 {H : Type} {enc : TypeId × Value -> H} {W : World} {v v2 : Value} {base : Nat} {dw dw2 : DataW H} {ps ps2 : List MemPlace} (hv : Value.okWide Tryd.prog W .any base 24 v) (hd : DataW.Trod enc Tryd.prog W 0 (fun _ => true) true 24 v dw ps) (hv2 : Value.okWide Tryd.prog W .any base 24 v2) (hd2 : DataW.Trod enc Tryd.prog W 0 (fun _ => true) true 24 v2 dw2 ps2)
 (hb : Rows.uptoBulk dw + Rows.uptoBulk dw2 <= 1048576) (he : EnvT W) :
 Calls Tryd.prog 3 #[v,v2] W fun e W' => e = .returned (.bool true) /\ Below W.heap.size W W':=by
 obtain ⟨k,cs,d,rfl,hr,hf,hbk⟩:=arg_in Tryd.underlying24 hv hd
 obtain ⟨k2,cs2,d2,rfl,hr2,hf2,hbk2⟩:=arg_in Tryd.underlying24 hv2 hd2
 have hw:=zFc zEc (by decide) hr hf
 have hw2:=zFc zEc (by decide) hr2 hf2
 exact zHa (sames7_ac d d2 hf hf2 hw hw2 (by omega) (by omega)) (relL2 (cells0 Tryd.underlying24 (by kernel_rfl) hr) (cells0 Tryd.underlying24 (by kernel_rfl) hr2)) he
noncomputable def laidWorld7 (os : Os) : World:=
 let w:=World.holding Tryd.prog os ⟨#[],#[],[]⟩
 { w with heap:=((w.heap.modify 2 (relay (tab32.map fun z => Value.int .u8 z).toArray)).modify 3 (relay (tab64.map fun z => Value.int .u8 z).toArray)).modify 1 (relay (Lib.pow10Tab.map fun z => Value.int .u64 z).toArray) }
theorem upto_two7 {H : Type} {d e : DataW H} {gs : List (DataW H)} (h : Rows.uptoSmall H (d :: e :: gs) = true) : Rows.uptoBulk d + Rows.uptoBulk e <= 1048576:=by
 have h1 : Rows.uptoBulkAll (d :: e :: gs) <= 1048576:=of_decide_eq_true h
 rw [Rows.uptoBulkAll,Rows.uptoBulkAll] at h1
 omega
theorem zCa (H : Type) (enc : TypeId × Value -> H) (W : World) (base : Nat) (args : Array Value) (ds gs : List (DataW H)) (before : List MemPlace)
 (hval : ∀ (j : Nat) t v,Tryd.f3.params[j]? = some t -> args[j]? = some v -> Value.okWide Tryd.prog W .any base t v)
 (hW : DataW.Whole enc Tryd.prog Tryd.f3.params.toList Rows.sdlprintSamesSpec.vars false W args.toList ds gs before) (hL : laidMetH Tryd.prog Rows.sdlprintSamesUptoRow.laid W)
 (hcond : ∀ k,(Rows.OpenSpec.upto Rows.sdlprintSamesSpec).cond = some k -> k H (ds ++ gs) = true)
 (hR : (DataW.weightsEach Tryd.prog (Tryd.f3.params.toList ++ (Rows.OpenSpec.upto Rows.sdlprintSamesSpec).bare.plain.varTypes Tryd.prog) (ds ++ gs)).all (· <= reachBytes) = true) :
 Calls Tryd.prog 3 args W fun e W' => ∃ v,e = .returned v /\ Rows.sdlprintSamesSpec.post enc Tryd.prog Tryd.f3 false true false false W args v W':=by
 have hW':=hW
 obtain ⟨p,q,hA0,hV,rfl,hfz,hnd⟩:=hW
 have hA : DataW.TrodAll enc Tryd.prog W 0 (fun _ => true) true Tryd.f3.params.toList args.toList ds p:=hA0
 rw [Tryd.params3] at hA hval hR
 obtain ⟨v0,vs0,d0,ds0,p0,q0,hargs,rfl,rfl,h0,r0⟩:=trodAll_cons hA
 obtain ⟨v1,vs1,d1,ds1,p1,q1,e1,rfl,rfl,h1,r1⟩:=trodAll_cons r0
 subst e1
 obtain ⟨rfl,rfl,rfl⟩:=trodAll_nil r1
 obtain rfl : args = #[v0,v1]:=by cases args; simp_all
 refine (rowSames7 (hval 0 24 v0 rfl rfl) h0 (hval 1 24 v1 rfl rfl) h1 (upto_two7 (hcond _ rfl)) (zGp hL)).mono fun e W' ⟨he,hbel⟩ => ?_
 subst he
 exact ⟨_,rfl,post_true laidOut' (types_ok _ (by kernel_rfl)) Tryd.underlying4 rfl rfl hW' hbel (fun gs h => by subst h; rfl)⟩
theorem laid_metSdlprintSames (os : Os) : laidMet Tryd.prog Rows.sdlprintSamesUptoRow.laid ((laidWorld7 os).forCall (fun _ _ => 0) ⟨#[],#[.agg #[.slice none 0 0],.agg #[.slice none 0 0]],[]⟩).memory:=
 laidMet_of_run' 8 (by kernel_rfl) (by kernel_rfl)
theorem zDB (os : Os) {H : Type} (enc : TypeId × Value -> H) : ∃ places,DataW.whole enc Tryd.prog ((laidWorld7 os).forCall (fun _ _ => 0) ⟨#[],#[.agg #[.slice none 0 0],.agg #[.slice none 0 0]],[]⟩).memory Tryd.f3.params.toList Rows.sdlprintSamesSpec.vars false (#[.agg #[.slice none 0 0],.agg #[.slice none 0 0]] : Array Value).toList 8 = some ([.agg [.nil],.agg [.nil]],[],places):=
 ⟨[],by kernel_rfl⟩
theorem zCs (os : Os) (started : os.Started) (H : Type) (enc : TypeId × Value -> H) (F : Stop.Interp) :
 ReturnsInHanded {} Tryd.checked os 3 .any ((Rows.OpenSpec.upto Rows.sdlprintSamesSpec).preRow enc Tryd.prog Tryd.f3 Rows.sdlprintSamesUptoRow.domain false Rows.sdlprintSamesUptoRow.laid) (((Rows.OpenSpec.upto Rows.sdlprintSamesSpec).at F).post enc Tryd.prog Tryd.f3 false true false false):=by
 obtain ⟨places,hx⟩:=zDB os enc
 refine returnsInHanded_of_row (C:=Tryd.checked) (s:=Rows.OpenSpec.upto Rows.sdlprintSamesSpec) own started (by kernel_rfl) Tryd.func3
  (witness_row_at (enc:=enc) (C:=Tryd.checked) false (laidWorld7 os) #[.agg #[.slice none 0 0],.agg #[.slice none 0 0]] rfl (by kernel_rfl) (by kernel_rfl) (by kernel_rfl)
    (OpenSpec.preRow_of_cond 8 hx (by kernel_rfl) (fun k hk => by cases hk; kernel_rfl) (by kernel_rfl) (laid_metSdlprintSames os))) ?_
 intro W base args ds gs before hval hW _ hcond hR hL _ _
 exact zCa H enc W base args ds gs before hval hW hL hcond hR
theorem zDS {a b : Bool} (h1 : a = true) (h2 : b = true) : (a && b) = true:=by rw [h1,h2]; rfl
theorem zCt : joinedFacts Tryd.prog 3 Tryd.f3 (Rows.OpenSpec.upto Rows.sdlprintSamesSpec).bare Rows.sdlprintSamesUptoRow = true:=by
 unfold joinedFacts
 repeat' (with_reducible apply zDS)
 all_goals as_aux_lemma => kernel_rfl
theorem zDU : Rows.SdlprintSamesUptoSaid:=
 OpenClaim.holds_of_cond 3 Tryd.f3 rfl rfl rfl rfl rfl rfl rfl ⟨rfl,rfl,rfl,rfl,rfl⟩ rfl rfl rfl rfl rfl (by kernel_rfl) Tryd.func3 zCt
  (of_decide_eq_true (by kernel_rfl)) (by unfold Func.isWrapper; first | (rw [if_pos (by decide +kernel)]; kernel_rfl) | (rw [if_neg (by decide +kernel)]; exact ⟨rfl,rfl⟩))
  (fun os started H enc _ F => by rw [OpenClaim.pre_eq_preRow]; exact zCs os started H enc F)
theorem zDD (f : FuncId) (fn : Func) (hf : Tryd.pinned.checked.prog.funcNamed "supergraph/supergraphlaw07.SdlprintSames" = some f) (hfn : Tryd.pinned.checked.prog.funcs[f]? = some fn) :
 false = Tryd.pinned.checked.prog.looks [] /\ ∀ (j : Nat) t,fn.params[j]? = some t -> Tryd.pinned.checked.prog.wantsStandIn t = false:=by
 obtain rfl : f = 3 := Option.some.inj ((show Tryd.prog.funcNamed "supergraph/supergraphlaw07.SdlprintSames" = some 3 by kernel_rfl).symm.trans hf) |>.symm
 obtain rfl : fn = Tryd.f3:=(Option.some.inj (Tryd.func3.symm.trans hfn)).symm
 refine ⟨by kernel_rfl,fun j t ht => ?_⟩
 rw [Tryd.params3] at ht
 have hm:=Array.mem_of_getElem? ht
 simp only [List.mem_toArray,List.mem_cons,List.not_mem_nil,or_false] at hm
 rcases hm with rfl | rfl
 . exact (show Tryd.prog.wantsStandIn 24 = false by kernel_rfl)
 . exact (show Tryd.prog.wantsStandIn 24 = false by kernel_rfl)
end Go.Proofs.YtdlnnlglmifceaaDoor
