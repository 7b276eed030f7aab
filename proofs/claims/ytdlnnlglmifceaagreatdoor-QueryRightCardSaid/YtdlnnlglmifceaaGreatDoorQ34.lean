import Derived.Test.YtdlnnlglmifceaaGreatDoorQ33
set_option maxHeartbeats 8000000
set_option maxRecDepth 100000
set_option linter.unusedVariables false
set_option linter.unusedSimpArgs false
namespace Go.Proofs.YtdlnnlglmifceaaGreatDoor
open Go.RowKit
attribute [local irreducible] wpList Calls Code.wp AW AWo OpOk seqK zAP zAR loopK endK AC zy Yld Sub
attribute [local irreducible] ACB ACX ACE absLexG YldG
section
variable {s : List UInt8}
theorem kq_1 (h : s = zGF) : zBe s = 1:=if_pos h
theorem kq_2 (h1 : s ≠ zGF) (h : s = mutT) : zBe s = 2:=(if_neg h1).trans (if_pos h)
theorem kq_3 (h1 : s ≠ zGF) (h2 : s ≠ mutT) (h : s = subT) : zBe s = 3:=(if_neg h1).trans ((if_neg h2).trans (if_pos h))
theorem kq_4 (h1 : s ≠ zGF) (h2 : s ≠ mutT) (h : s ≠ subT) : zBe s = 0:=(if_neg h1).trans ((if_neg h2).trans (if_neg h))
end
theorem kind_ac (s : List UInt8) : AC EN5 Tryz.prog 75 [.c (.string (bs s))] (.c (.int .i64 (zBe s))):=by
 refine zX 10 Tryz.func75 rfl rfl rfl rfl ?_
 intro s0 w he
 repeat' (first
|refine zA ?_
|refine zI ?_
|refine zb ?_
|refine zU ?_
|refine za ?_
|apply aw_1
 conv => whnf
 refine ⟨?_,trivial⟩
|apply s_1
 conv => whnf; arg 1; arg 4; arg 3; whnf
 refine ⟨?_,?_⟩
|apply zt rfl
 . conv => lhs; whnf
 . conv => lhs; whnf; arg 2; whnf
|apply zN
 . conv => lhs; whnf; arg 1; arg 1; whnf
|apply zO
 . conv => lhs; whnf; arg 1; arg 1; whnf
|refine zT (by conv => lhs; whnf) ?_ ?_ <;> intro hb
|refine zj ?_
|refine zZ ?_
|refine zG ?_
|refine zK ?_
|refine zC ?_
|refine zB rfl ?_
|refine zE rfl ?_
|refine zF ?_
|refine zJ ?_
|refine zD ?_
|refine zL ?_
|refine z6 ?_
|refine zH ?_
|refine ⟨_,by conv => lhs; whnf; arg 2; whnf,?_⟩; conv => rhs; whnf
|exact trivial
|intro hg)
 . rw [kq_1 (zDG hb)]
 . rw [kq_2 (zBO ‹_›) (zDG hb)]
 . rw [kq_3 (zBO ‹_›) (zBO ‹_›) (zDG hb)]
 . rw [kq_4 (zBO ‹_›) (zBO ‹_›) (zBO hb)]
theorem zAY : zAS Tryz.prog 22 = some (47,72):=by kernel_rfl
theorem zA0 : zAS Tryz.prog 23 = some (50,56):=by kernel_rfl
noncomputable def VQ (d : D) : V:=.agg (cellsV Tryz.prog 12 25 d)
noncomputable def HdQ (n : Nat) (ops frs : List D) (z : PS) : Vst 89:=
 stS 89 [(0,.bx (pn 0) 0),(2,.bx 2 0),(3,.bx 3 0),(4,.c (.int .i64 (n : Int)))] [(pn 0,boxP z),(2,.box 25 [.c (.slice none 0 0),.c (.slice none 0 0)]),(3,.box 25 [.own 903 47 ops,.own 904 50 frs]),(903,.tok 47 ops.length),(904,.tok 50 frs.length)]
section
variable {f n : Nat} {ops frs : List D} {x : PS}
def wordQ (x : PS) : Prop:=(hdT x).k = 2 /\ (0 < zBe (hdT x).s \/ (hdT x).s = fragT)
theorem dc_end (h : n ≠ 0 /\ (hdT x).k = 5) : docF (f + 1) n ops frs x = .ok ((ops,frs),x):=by rw [docF,if_pos h]
theorem dc_un (h : ¬ (n ≠ 0 /\ (hdT x).k = 5)) (hw : ¬ wordQ x) (hs : isS x [123] = false) : docF (f + 1) n ops frs x = .error ((hdT x).i,3):=by
 rw [docF,if_neg h]; exact if_pos ⟨hw,by rw [hs]; decide⟩
theorem dc_lim (h : ¬ (n ≠ 0 /\ (hdT x).k = 5)) (hw : wordQ x \/ isS x [123] = true) (hn : 64 <= n) : docF (f + 1) n ops frs x = .error ((hdT x).i,4):=by
 rw [docF,if_neg h]
 exact (if_neg (fun g => hw.elim g.1 g.2)).trans (if_pos hn)
theorem dc_set (h : ¬ (n ≠ 0 /\ (hdT x).k = 5)) (hw : ¬ wordQ x) (hs : isS x [123] = true) (hn : n < 64) : docF (f + 1) n ops frs x = zw (setQ x) fun ss y => docF f (n + 1) (ops ++ [opD 1 [] [] ss]) frs y:=by
 rw [docF,if_neg h]
 exact (if_neg (fun g => g.2 hs)).trans ((if_neg (by omega)).trans (if_pos hw))
theorem dc_op (h : ¬ (n ≠ 0 /\ (hdT x).k = 5)) (hw : wordQ x) (hn : n < 64) (hk : 0 < zBe (hdT x).s) : docF (f + 1) n ops frs x = zw (opQ (zBe (hdT x).s) (nxT x)) fun o y => docF f (n + 1) (ops ++ [o]) frs y:=by
 rw [docF,if_neg h]
 exact (if_neg (fun g => g.1 hw)).trans ((if_neg (by omega)).trans ((if_neg (fun g => g hw)).trans (if_pos hk)))
theorem dc_frag (h : ¬ (n ≠ 0 /\ (hdT x).k = 5)) (hw : wordQ x) (hn : n < 64) (hk : ¬ 0 < zBe (hdT x).s) : docF (f + 1) n ops frs x = zw (zBb (nxT x)) fun o y => docF f (n + 1) ops (frs ++ [o]) y:=by
 rw [docF,if_neg h]
 exact (if_neg (fun g => g.1 hw)).trans ((if_neg (by omega)).trans ((if_neg (fun g => g hw)).trans (if_neg hk)))
end
theorem doc_ace (x : PS) (h : En x) (hlen : x.ts.length <= 100000) : ACE EN5 Tryz.prog 42 [.bx (pn 0) 0] [boxP x] (outQ (fun p => VQ (queD p.1 p.2)) (docF (x.ts.length + 1) 0 [] [] x)):=by
 refine zAX (fn:=Tryz.f42) 89 Tryz.func42 rfl rfl ?_
 intro pas w0 w he hp
 repeat' (first
|refine zA ?_
|refine zI ?_
|refine zb ?_
|refine zU ?_
|refine za ?_
|apply aw_1
 conv => whnf
 refine ⟨?_,trivial⟩
|apply zg rfl rfl
 . conv => lhs; whnf
 . conv => lhs; whnf
 . first | exact bT1 ‹_› | exact bT2 ‹_›
|apply ze rfl rfl
 . conv => lhs; whnf
 . conv => lhs; whnf
 . first | exact bF1 ‹_› | exact bF2 ‹_›
|apply s_1
 conv => whnf; arg 1; arg 4; arg 3; whnf
 refine ⟨?_,?_⟩
|apply zt rfl
 . conv => lhs; whnf
 . conv => lhs; whnf; arg 2; whnf
|apply zd rfl
 . conv => lhs; whnf
 . conv => lhs; whnf
 . first | fail
|apply zAA rfl rfl rfl rfl
 . conv => lhs; whnf; arg 1; whnf
 . rfl
|apply zr rfl rfl rfl
 . conv => lhs; whnf
 . conv => lhs; whnf; arg 1; whnf
 . conv => lhs; whnf; arg 1; whnf
 . exact ⟨by kernel_rfl,by kernel_rfl⟩
 . rfl
|apply zBK rfl rfl
 . conv => lhs; whnf
 . first | (conv => lhs; whnf; arg 1; whnf)
 . first | exact fun _ => rfl | (intro _; kernel_rfl)
 . conv => lhs; whnf
 . conv => lhs; whnf; arg 1; whnf
 . conv => lhs; whnf
|apply zAJ rfl rfl rfl rfl
 . first | (conv => lhs; whnf; arg 1; whnf)
 . first | exact fun _ => rfl | (intro _; kernel_rfl)
 . conv => lhs; whnf
 . conv => lhs; whnf
|apply zAr rfl rfl
 . conv => lhs; whnf
 . first | (conv => lhs; whnf; arg 1; whnf)
|apply zAn rfl rfl
 . conv => lhs; whnf
 . first | (conv => lhs; whnf; arg 1; whnf)
 . conv => lhs; whnf; arg 1; whnf
 . rfl
 . rfl
|apply zAc rfl rfl
 . conv => lhs; whnf
 . first | (conv => lhs; whnf; arg 1; whnf)
 . first | exact fun _ => rfl | (intro _; kernel_rfl)
 . conv => lhs; whnf
 . conv => lhs; whnf
|apply zM rfl
 . conv => lhs; whnf
 . conv => lhs; whnf
 . first | rfl | assumption
 . conv => lhs; whnf; arg 2; whnf
|apply zR rfl
 . conv => lhs; whnf
 . conv => lhs; whnf
 . first | rfl | assumption
 . conv => lhs; whnf
 . first | fail
|apply zB3 rfl
 . conv => lhs; whnf
 . conv => lhs; whnf
 . first | rfl | assumption
|apply zn rfl
 . conv => lhs; whnf
 . conv => lhs; whnf
 . conv => lhs; whnf; arg 2; whnf
|apply zk rfl
 . conv => lhs; whnf
 . conv => lhs; whnf
 . conv => lhs; whnf
 . first | fail
|apply zAm (by kernel_rfl) (by kernel_rfl)
|apply zB6
|apply zBh rfl rfl
 . conv => lhs; whnf
 . conv => lhs; whnf
 . first | exact bT1 ‹_› | exact bT2 ‹_›
|apply zBi rfl rfl
 . conv => lhs; whnf
 . conv => lhs; whnf
 . first | exact bF1 ‹_› | exact bF2 ‹_›
|apply zB5 rfl
 . conv => lhs; whnf
 . conv => lhs; whnf; arg 2; whnf
|apply zCp rfl
 . conv => lhs; whnf
 . conv => lhs; whnf
 . first | fail
|apply zCh rfl rfl rfl
 . conv => lhs; whnf
 . rfl
 . rfl
 . conv => lhs; whnf; arg 1; whnf
 . conv => lhs; whnf; arg 1; whnf
 . exact ⟨by kernel_rfl,by kernel_rfl⟩
 . rfl
|apply y_app rfl rfl
 . conv => lhs; whnf
 . first | (conv => lhs; whnf; arg 1; whnf)
 . first | exact fun _ => rfl | (intro _; kernel_rfl)
 . conv => lhs; whnf
 . rfl
 . rfl
 . conv => lhs; whnf; arg 1; whnf
 . conv => lhs; whnf
|apply zEl rfl rfl
 . conv => lhs; whnf
 . first | (conv => lhs; whnf; arg 1; whnf)
|apply zEk rfl rfl
 . conv => lhs; whnf
 . first | (conv => lhs; whnf; arg 1; whnf)
 . conv => lhs; whnf; arg 1; whnf
 . rfl
 . rfl
|apply zDC rfl rfl
 . conv => lhs; whnf
 . first | (conv => lhs; whnf; arg 1; whnf)
 . first | exact fun _ => rfl | (intro _; kernel_rfl)
 . conv => lhs; whnf
 . conv => lhs; whnf
|apply zAd rfl
 . conv => lhs; whnf
 . conv => lhs; whnf
 . first | rfl | assumption
 . conv => lhs; whnf; arg 2; whnf
|apply zAa rfl
 . conv => lhs; whnf
 . conv => lhs; whnf
 . first | rfl | assumption
 . conv => lhs; whnf
 . first | fail
|apply zCc rfl
 . conv => lhs; whnf
 . conv => lhs; whnf
 . first | rfl | assumption
|apply zAq rfl
 . conv => lhs; whnf
 . conv => lhs; whnf
 . conv => lhs; whnf; arg 2; whnf
|apply zAf rfl
 . conv => lhs; whnf
 . conv => lhs; whnf
 . conv => lhs; whnf
 . first | fail
|exact zAG
|exact zAK
|exact all_nil
|show List.all _ _ = true; rfl
|show zAl _ _ = true; rfl
|exact ([] : List Nat)
|exact (1000000 : Nat)
|apply zN
 . conv => lhs; whnf; arg 1; arg 1; whnf
|apply zO
 . conv => lhs; whnf; arg 1; arg 1; whnf
|refine zT (by conv => lhs; whnf) ?_ ?_ <;> intro hb
|refine zj ?_
|refine zZ ?_
|refine zG ?_
|refine zK ?_
|refine zC ?_
|refine zB rfl ?_
|refine zE rfl ?_
|refine zF ?_
|refine zJ ?_
|refine zD ?_
|refine zL ?_
|apply zAB rfl
 . conv => lhs; whnf; arg 2; whnf
 . conv => lhs; whnf; arg 1; whnf
|apply zAN rfl
 . conv => lhs; whnf; arg 1; whnf
|apply zAE rfl
 . conv => lhs; whnf; arg 2; whnf
 . conv => lhs; whnf; arg 1; whnf
|apply zAF rfl
 . conv => lhs; whnf; arg 1; whnf
|refine ⟨_,by conv => lhs; whnf; arg 2; whnf,?_⟩; conv => rhs; whnf
|exact trivial
|intro hg)
 refine z8 ((Sub.ownF (m:=3) (q:=903) (i:=0) (e:=47) rfl (by decide) rfl rfl rfl).trans (Sub.ownF (m:=3) (q:=904) (i:=1) (e:=50) rfl (by decide) rfl rfl rfl)) ?_
 refine z7 (fun j st => ∃ z n ops frs,En z /\ z.ts.length < j /\ z.ts.length <= x.ts.length /\ ops.length + frs.length = n /\ n <= 64 /\ docF (x.ts.length + 1) 0 [] [] x = docF j n ops frs z /\ Sub (cxE EN5 Tryz.prog pas w0 w he hp (outQ (fun p => VQ (queD p.1 p.2)) (docF (x.ts.length + 1) 0 [] [] x))) st (HdQ n ops frs z)) (x.ts.length + 1) ⟨x,0,[],[],h,by omega,by omega,rfl,by omega,rfl,?_⟩ ?_
 . exact Sub.live ⟨rfl,rfl,rfl,rfl,trivial⟩ ⟨rfl,rfl,rfl,rfl,rfl,trivial⟩
 rintro j st ⟨z,n,ops,frs,hz,hzj,hzl,hof,hn64,hI,hsub⟩
 refine z8 hsub ?_
 clear hsub
 rw [hI]
 clear hI
 cases j with
 | zero => omega
 | succ j =>
 have hs:=zAv hz [123]
 have hli:=zDL hz n 64
 have hf:=zA8 (hdT z) 3
 have hnx:=zBC hz
 have hse:=zFX z hz (by omega)
 have hkd:=kind_ac
 have hop : ∀ k,ACE EN5 Tryz.prog 81 [.bx (pn 0) 0,.c (.int .i64 k)] [boxP (nxT z)] (outQ VO (opQ k (nxT z))):=fun k => op_ace k (nxT z) hz.nx0 (by have:=nx_len z; omega)
 have hfr:=frag_ace (nxT z) hz.nx0 (by have:=nx_len z; omega)
 obtain ⟨t,r,ht⟩:=hz.cons
 have hh:=zAu ht
 rw [hh] at hf
 by_cases hE : n ≠ 0 /\ (hdT z).k = 5
 . rw [dc_end hE]
   rw [hh] at hE
   have K1 : (((n : Int) == 0) == false) = false -> False:=fun h => hE.1 (by simpa using h)
   have K2 : (t.k != 5) = true -> False:=fun h => by rw [hE.2] at h; cases h
   obtain ⟨zts,zvr,znd⟩:=z
   cases ht
   repeat' (first
|apply s_wanted_pick_t rfl rfl rfl
 . conv => lhs; whnf
 . first | rfl | assumption
 . conv => lhs; whnf
 . first | exact bT1 ‹_› | exact bT2 ‹_› | rfl
|apply zq rfl rfl rfl
 . conv => lhs; whnf
 . first | rfl | assumption
 . conv => lhs; whnf
 . first | exact bT1 ‹_› | exact bT2 ‹_› | rfl
|apply s_wanted_pick_f rfl rfl rfl
 . conv => lhs; whnf
 . first | rfl | assumption
 . conv => lhs; whnf
 . first | exact bF1 ‹_› | exact bF2 ‹_› | rfl
|apply zu rfl rfl rfl
 . conv => lhs; whnf
 . first | rfl | assumption
 . conv => lhs; whnf
 . first | exact bF1 ‹_› | exact bF2 ‹_› | rfl
|apply zA5 (VQ (queD ops frs)) rfl rfl
 . conv => lhs; whnf; arg 2; whnf
 . repeat' (first | exact VLe.refl _ | exact VLe.nil _ | exact VLe.lit _ _ | exact VLe.own _ _ _ | apply VLe.agg | apply VLeL.cons | exact VLeL.nil)
|exact (K1 ‹_›).elim
|exact (K2 ‹_›).elim
|refine zi ?_
|refine zf ?_
|refine zAH ?_
|refine zA ?_
|refine zI ?_
|refine zb ?_
|refine zU ?_
|refine za ?_
|apply aw_1
 conv => whnf
 refine ⟨?_,trivial⟩
|apply zg rfl rfl
 . conv => lhs; whnf
 . conv => lhs; whnf
 . first | exact bT1 ‹_› | exact bT2 ‹_›
|apply ze rfl rfl
 . conv => lhs; whnf
 . conv => lhs; whnf
 . first | exact bF1 ‹_› | exact bF2 ‹_›
|apply s_1
 conv => whnf; arg 1; arg 4; arg 3; whnf
 refine ⟨?_,?_⟩
|apply zt rfl
 . conv => lhs; whnf
 . conv => lhs; whnf; arg 2; whnf
|apply zd rfl
 . conv => lhs; whnf
 . conv => lhs; whnf
 . first | fail
|apply zAA rfl rfl rfl rfl
 . conv => lhs; whnf; arg 1; whnf
 . rfl
|apply zr rfl rfl rfl
 . conv => lhs; whnf
 . conv => lhs; whnf; arg 1; whnf
 . conv => lhs; whnf; arg 1; whnf
 . exact ⟨by kernel_rfl,by kernel_rfl⟩
 . rfl
|apply zBK rfl rfl
 . conv => lhs; whnf
 . first | (conv => lhs; whnf; arg 1; whnf)
 . first | exact fun _ => rfl | (intro _; kernel_rfl)
 . conv => lhs; whnf
 . conv => lhs; whnf; arg 1; whnf
 . conv => lhs; whnf
|apply zAJ rfl rfl rfl rfl
 . first | (conv => lhs; whnf; arg 1; whnf)
 . first | exact fun _ => rfl | (intro _; kernel_rfl)
 . conv => lhs; whnf
 . conv => lhs; whnf
|apply zAr rfl rfl
 . conv => lhs; whnf
 . first | (conv => lhs; whnf; arg 1; whnf)
|apply zAn rfl rfl
 . conv => lhs; whnf
 . first | (conv => lhs; whnf; arg 1; whnf)
 . conv => lhs; whnf; arg 1; whnf
 . rfl
 . rfl
|apply zAc rfl rfl
 . conv => lhs; whnf
 . first | (conv => lhs; whnf; arg 1; whnf)
 . first | exact fun _ => rfl | (intro _; kernel_rfl)
 . conv => lhs; whnf
 . conv => lhs; whnf
|apply zM rfl
 . conv => lhs; whnf
 . conv => lhs; whnf
 . first | rfl | assumption
 . conv => lhs; whnf; arg 2; whnf
|apply zR rfl
 . conv => lhs; whnf
 . conv => lhs; whnf
 . first | rfl | assumption
 . conv => lhs; whnf
 . first | fail
|apply zl rfl
 . conv => lhs; whnf
 . conv => lhs; whnf
 . first | rfl | assumption
|apply zAI rfl
 . conv => lhs; whnf
 . rfl
 . rfl
|apply zP rfl
 . conv => lhs; whnf
 . conv => lhs; whnf
 . conv => lhs; whnf; arg 2; whnf
|apply zp rfl
 . conv => lhs; whnf
 . conv => lhs; whnf
 . conv => lhs; whnf
 . first | fail
|apply zn rfl
 . conv => lhs; whnf
 . conv => lhs; whnf
 . conv => lhs; whnf; arg 2; whnf
|apply zk rfl
 . conv => lhs; whnf
 . conv => lhs; whnf
 . conv => lhs; whnf
 . first | fail
|apply zAm (by kernel_rfl) (by kernel_rfl)
|apply zB6
|apply zBh rfl rfl
 . conv => lhs; whnf
 . conv => lhs; whnf
 . first | exact bT1 ‹_› | exact bT2 ‹_›
|apply zBi rfl rfl
 . conv => lhs; whnf
 . conv => lhs; whnf
 . first | exact bF1 ‹_› | exact bF2 ‹_›
|apply zB5 rfl
 . conv => lhs; whnf
 . conv => lhs; whnf; arg 2; whnf
|apply zCp rfl
 . conv => lhs; whnf
 . conv => lhs; whnf
 . first | fail
|apply zCh rfl rfl rfl
 . conv => lhs; whnf
 . rfl
 . rfl
 . conv => lhs; whnf; arg 1; whnf
 . conv => lhs; whnf; arg 1; whnf
 . exact ⟨by kernel_rfl,by kernel_rfl⟩
 . rfl
|apply y_app rfl rfl
 . conv => lhs; whnf
 . first | (conv => lhs; whnf; arg 1; whnf)
 . first | exact fun _ => rfl | (intro _; kernel_rfl)
 . conv => lhs; whnf
 . rfl
 . rfl
 . conv => lhs; whnf; arg 1; whnf
 . conv => lhs; whnf
|apply zEl rfl rfl
 . conv => lhs; whnf
 . first | (conv => lhs; whnf; arg 1; whnf)
|apply zEk rfl rfl
 . conv => lhs; whnf
 . first | (conv => lhs; whnf; arg 1; whnf)
 . conv => lhs; whnf; arg 1; whnf
 . rfl
 . rfl
|apply zDC rfl rfl
 . conv => lhs; whnf
 . first | (conv => lhs; whnf; arg 1; whnf)
 . first | exact fun _ => rfl | (intro _; kernel_rfl)
 . conv => lhs; whnf
 . conv => lhs; whnf
|apply zAd rfl
 . conv => lhs; whnf
 . conv => lhs; whnf
 . first | rfl | assumption
 . conv => lhs; whnf; arg 2; whnf
|apply zAa rfl
 . conv => lhs; whnf
 . conv => lhs; whnf
 . first | rfl | assumption
 . conv => lhs; whnf
 . first | fail
|apply zCc rfl
 . conv => lhs; whnf
 . conv => lhs; whnf
 . first | rfl | assumption
|apply zAq rfl
 . conv => lhs; whnf
 . conv => lhs; whnf
 . conv => lhs; whnf; arg 2; whnf
|apply zAf rfl
 . conv => lhs; whnf
 . conv => lhs; whnf
 . conv => lhs; whnf
 . first | fail
|exact zAG
|exact zAK
|exact all_nil
|show List.all _ _ = true; rfl
|show zAl _ _ = true; rfl
|exact ([] : List Nat)
|exact (1000000 : Nat)
|apply zN
 . conv => lhs; whnf; arg 1; arg 1; whnf
|apply zO
 . conv => lhs; whnf; arg 1; arg 1; whnf
|refine zT (by conv => lhs; whnf) ?_ ?_ <;> intro hb
|refine zj ?_
|refine zZ ?_
|refine zG ?_
|refine zK ?_
|refine zC ?_
|refine zB rfl ?_
|refine zE rfl ?_
|refine zF ?_
|refine zJ ?_
|refine zD ?_
|refine zL ?_
|apply zAB rfl
 . conv => lhs; whnf; arg 2; whnf
 . conv => lhs; whnf; arg 1; whnf
|apply zAN rfl
 . conv => lhs; whnf; arg 1; whnf
|apply zAE rfl
 . conv => lhs; whnf; arg 2; whnf
 . conv => lhs; whnf; arg 1; whnf
|apply zAF rfl
 . conv => lhs; whnf; arg 1; whnf
|refine ⟨_,by conv => lhs; whnf; arg 2; whnf,?_⟩; conv => rhs; whnf
|exact trivial
|intro hg)
   all_goals first
    | exact zBf _ _
    | rfl
    | skip
 . have hE2 : ¬ (n ≠ 0 /\ t.k = 5):=by rw [<- hh]; exact hE
   have K0 : (((n : Int) == 0) == false) = true -> (t.k != 5) = false -> False:=fun h1 h2 => hE2 ⟨fun h => (by rw [h] at h1; cases h1),by simpa using h2⟩
   have hop:=hop (zBe t.s)
   by_cases hW : wordQ z
   . by_cases hK : 0 < zBe (hdT z).s
     . have e1 : n < 64 -> docF (j + 1) n ops frs z = zw (opQ (zBe (hdT z).s) (nxT z)) fun o y => docF j (n + 1) (ops ++ [o]) frs y:=fun hn => dc_op hE hW hn hK
       have e2 : 64 <= n -> docF (j + 1) n ops frs z = .error ((hdT z).i,4):=fun hn => dc_lim hE (.inl hW) hn
       have hW1:=hW.1
       rw [hh] at hW1 hK e1 e2
       have K1 : ((t.k == 2) == true) = false -> False:=fun h => by rw [hW1] at h; cases h
       have K2 : decide (zBe t.s > 0) = false -> False:=fun h => by simp at h; omega
       have K3 : (decide (zBe t.s > 0) == false) = true -> False:=fun h => by simp at h; omega
       obtain ⟨zts,zvr,znd⟩:=z
       cases ht
       repeat' (first
|apply s_wanted_pick_t rfl rfl rfl
 . conv => lhs; whnf
 . first | rfl | assumption
 . conv => lhs; whnf
 . first | exact bT1 ‹_› | exact bT2 ‹_› | rfl
|apply zq rfl rfl rfl
 . conv => lhs; whnf
 . first | rfl | assumption
 . conv => lhs; whnf
 . first | exact bT1 ‹_› | exact bT2 ‹_› | rfl
|apply s_wanted_pick_f rfl rfl rfl
 . conv => lhs; whnf
 . first | rfl | assumption
 . conv => lhs; whnf
 . first | exact bF1 ‹_› | exact bF2 ‹_› | rfl
|apply zu rfl rfl rfl
 . conv => lhs; whnf
 . first | rfl | assumption
 . conv => lhs; whnf
 . first | exact bF1 ‹_› | exact bF2 ‹_› | rfl
|apply zBJ 9 ([(1,[3])]) ([(4,[1000000]),(6,[903]),(8,[3])]) rfl (by kernel_rfl) (by kernel_rfl) (by kernel_rfl)
|apply zEc
|apply zEb rfl
 . conv => lhs; whnf
 . conv => lhs; whnf; arg 2; whnf
|apply zH2 rfl
 . conv => lhs; whnf
 . conv => lhs; whnf
 . first | exact hkd _
|apply g_app rfl rfl
 . conv => lhs; whnf
 . first | exact zAY | (conv => lhs; whnf; arg 1; whnf)
 . first | exact fun _ => rfl | (intro _; kernel_rfl)
 . conv => lhs; whnf
 . rfl
 . conv => lhs; whnf; arg 1; whnf
 . conv => lhs; whnf
|apply zBn rfl rfl rfl
 . conv => lhs; whnf
 . rfl
 . conv => lhs; whnf; arg 1; whnf
 . conv => lhs; whnf; arg 1; whnf
 . exact ⟨by kernel_rfl,by kernel_rfl⟩
 . rfl
|exact Or.inl ⟨pn 0,_,rfl⟩
|refine Or.inr ?_
|apply g_pr zv zY (default : D) rfl
 . conv => lhs; whnf
 . conv => lhs; whnf
 . rfl
 . conv => lhs; whnf; arg 1; whnf
 . first | exact zAD _
 . first | exact hop
 . exact fun _ => rfl
 . first | (intro _ _; simp only [renL,renV,ren_cells]; done) | exact fun _ _ => rfl
 . rfl
 refine fun ee hq tm rs => ?_
 change _ = Out.die _
 rotate_left 1
 refine fun aa xx hq => ?_
 rotate_left 1
 refine fun ee hq => ?_
|show inO _ _ = true; rfl
|apply zEd [aa] rfl rfl
 . conv => lhs; whnf
 . first | exact zAY | (conv => lhs; whnf; arg 1; whnf)
 . rfl
 . rfl
 . repeat' (first | exact trivial | apply And.intro | rfl)
|apply zEd [default] rfl rfl
 . conv => lhs; whnf
 . first | exact zAY | (conv => lhs; whnf; arg 1; whnf)
 . rfl
 . rfl
 . repeat' (first | exact trivial | apply And.intro | rfl)
|apply s_m zv zY rfl
 . conv => lhs; whnf
 . conv => lhs; whnf
 . rfl
 . conv => lhs; whnf; arg 1; whnf
 . first | exact zAD _
 . first | exact hs | exact hnx
 . exact fun _ => rfl
 . exact fun _ => rfl
|apply zAT zv zY rfl
 . conv => lhs; whnf
 . conv => lhs; whnf
 . first | rfl | assumption
 . conv => lhs; whnf
 . rfl
 . conv => lhs; whnf; arg 1; whnf
 . first | exact zAD _
 . first | exact hs | exact hnx
 . exact fun _ => rfl
 . exact fun _ => rfl
|apply zl rfl
 . conv => lhs; whnf
 . conv => lhs; whnf
 . first | rfl | assumption
|apply zAI rfl
 . conv => lhs; whnf
 . rfl
 . rfl
|apply zAs zv zY rfl
 . conv => lhs; whnf
 . conv => lhs; whnf
 . conv => lhs; whnf
 . rfl
 . conv => lhs; whnf; arg 1; whnf
 . first | exact zAD _
 . first | exact hs | exact hnx
 . exact fun _ => rfl
 . exact fun _ => rfl
|apply s_pr zv zY rfl
 . conv => lhs; whnf
 . conv => lhs; whnf
 . rfl
 . conv => lhs; whnf; arg 1; whnf
 . first | exact zAD _
 . first | exact hli
 . exact fun _ => rfl
 . first | (intro _ _; simp only [renL,renV,ren_cells]; done) | exact fun _ _ => rfl
 refine fun ee hq => ?_
 change _ = Out.die _
 rotate_left 1
 refine fun aa xx hq => ?_
 first | (replace hq:=zAp hq; obtain ⟨hq,rfl⟩:=hq) | (cases hq; have hq:=True.intro) | skip
|exact (K0 ‹_› ‹_›).elim
|exact (K1 ‹_›).elim
|exact (K2 ‹_›).elim
|exact (K3 ‹_›).elim
|refine zi ?_
|refine zf ?_
|refine zAH ?_
|refine zA ?_
|refine zI ?_
|refine zb ?_
|refine zU ?_
|refine za ?_
|apply aw_1
 conv => whnf
 refine ⟨?_,trivial⟩
|apply zg rfl rfl
 . conv => lhs; whnf
 . conv => lhs; whnf
 . first | exact bT1 ‹_› | exact bT2 ‹_›
|apply ze rfl rfl
 . conv => lhs; whnf
 . conv => lhs; whnf
 . first | exact bF1 ‹_› | exact bF2 ‹_›
|apply s_1
 conv => whnf; arg 1; arg 4; arg 3; whnf
 refine ⟨?_,?_⟩
|apply zt rfl
 . conv => lhs; whnf
 . conv => lhs; whnf; arg 2; whnf
|apply zd rfl
 . conv => lhs; whnf
 . conv => lhs; whnf
 . first | exact hkd _
|apply zAA rfl rfl rfl rfl
 . conv => lhs; whnf; arg 1; whnf
 . rfl
|apply zr rfl rfl rfl
 . conv => lhs; whnf
 . conv => lhs; whnf; arg 1; whnf
 . conv => lhs; whnf; arg 1; whnf
 . exact ⟨by kernel_rfl,by kernel_rfl⟩
 . rfl
|apply zBK rfl rfl
 . conv => lhs; whnf
 . first | exact zAY | (conv => lhs; whnf; arg 1; whnf)
 . first | exact fun _ => rfl | (intro _; kernel_rfl)
 . conv => lhs; whnf
 . conv => lhs; whnf; arg 1; whnf
 . conv => lhs; whnf
|apply zAJ rfl rfl rfl rfl
 . first | exact zAY | (conv => lhs; whnf; arg 1; whnf)
 . first | exact fun _ => rfl | (intro _; kernel_rfl)
 . conv => lhs; whnf
 . conv => lhs; whnf
|apply zAr rfl rfl
 . conv => lhs; whnf
 . first | exact zAY | (conv => lhs; whnf; arg 1; whnf)
|apply zAn rfl rfl
 . conv => lhs; whnf
 . first | exact zAY | (conv => lhs; whnf; arg 1; whnf)
 . conv => lhs; whnf; arg 1; whnf
 . rfl
 . rfl
|apply zAc rfl rfl
 . conv => lhs; whnf
 . first | exact zAY | (conv => lhs; whnf; arg 1; whnf)
 . first | exact fun _ => rfl | (intro _; kernel_rfl)
 . conv => lhs; whnf
 . conv => lhs; whnf
|apply zM rfl
 . conv => lhs; whnf
 . conv => lhs; whnf
 . first | rfl | assumption
 . conv => lhs; whnf; arg 2; whnf
|apply zR rfl
 . conv => lhs; whnf
 . conv => lhs; whnf
 . first | rfl | assumption
 . conv => lhs; whnf
 . first | exact hkd _
|apply zl rfl
 . conv => lhs; whnf
 . conv => lhs; whnf
 . first | rfl | assumption
|apply zAI rfl
 . conv => lhs; whnf
 . rfl
 . rfl
|apply zP rfl
 . conv => lhs; whnf
 . conv => lhs; whnf
 . conv => lhs; whnf; arg 2; whnf
|apply zp rfl
 . conv => lhs; whnf
 . conv => lhs; whnf
 . conv => lhs; whnf
 . first | exact hkd _
|apply zn rfl
 . conv => lhs; whnf
 . conv => lhs; whnf
 . conv => lhs; whnf; arg 2; whnf
|apply zk rfl
 . conv => lhs; whnf
 . conv => lhs; whnf
 . conv => lhs; whnf
 . first | exact hkd _
|apply zAm (by kernel_rfl) (by kernel_rfl)
|apply zB6
|apply zBh rfl rfl
 . conv => lhs; whnf
 . conv => lhs; whnf
 . first | exact bT1 ‹_› | exact bT2 ‹_›
|apply zBi rfl rfl
 . conv => lhs; whnf
 . conv => lhs; whnf
 . first | exact bF1 ‹_› | exact bF2 ‹_›
|apply zB5 rfl
 . conv => lhs; whnf
 . conv => lhs; whnf; arg 2; whnf
|apply zCp rfl
 . conv => lhs; whnf
 . conv => lhs; whnf
 . first | exact hkd _
|apply zCh rfl rfl rfl
 . conv => lhs; whnf
 . rfl
 . rfl
 . conv => lhs; whnf; arg 1; whnf
 . conv => lhs; whnf; arg 1; whnf
 . exact ⟨by kernel_rfl,by kernel_rfl⟩
 . rfl
|apply y_app rfl rfl
 . conv => lhs; whnf
 . first | exact zAY | (conv => lhs; whnf; arg 1; whnf)
 . first | exact fun _ => rfl | (intro _; kernel_rfl)
 . conv => lhs; whnf
 . rfl
 . rfl
 . conv => lhs; whnf; arg 1; whnf
 . conv => lhs; whnf
|apply zEl rfl rfl
 . conv => lhs; whnf
 . first | exact zAY | (conv => lhs; whnf; arg 1; whnf)
|apply zEk rfl rfl
 . conv => lhs; whnf
 . first | exact zAY | (conv => lhs; whnf; arg 1; whnf)
 . conv => lhs; whnf; arg 1; whnf
 . rfl
 . rfl
|apply zDC rfl rfl
 . conv => lhs; whnf
 . first | exact zAY | (conv => lhs; whnf; arg 1; whnf)
 . first | exact fun _ => rfl | (intro _; kernel_rfl)
 . conv => lhs; whnf
 . conv => lhs; whnf
|apply zAd rfl
 . conv => lhs; whnf
 . conv => lhs; whnf
 . first | rfl | assumption
 . conv => lhs; whnf; arg 2; whnf
|apply zAa rfl
 . conv => lhs; whnf
 . conv => lhs; whnf
 . first | rfl | assumption
 . conv => lhs; whnf
 . first | exact hkd _
|apply zCc rfl
 . conv => lhs; whnf
 . conv => lhs; whnf
 . first | rfl | assumption
|apply zAq rfl
 . conv => lhs; whnf
 . conv => lhs; whnf
 . conv => lhs; whnf; arg 2; whnf
|apply zAf rfl
 . conv => lhs; whnf
 . conv => lhs; whnf
 . conv => lhs; whnf
 . first | exact hkd _
|exact zAG
|exact zAK
|exact all_nil
|show List.all _ _ = true; rfl
|show zAl _ _ = true; rfl
|exact ([] : List Nat)
|exact (1000000 : Nat)
|apply zN
 . conv => lhs; whnf; arg 1; arg 1; whnf
|apply zO
 . conv => lhs; whnf; arg 1; arg 1; whnf
|refine zT (by conv => lhs; whnf) ?_ ?_ <;> intro hb
|refine zj ?_
|refine zZ ?_
|refine zG ?_
|refine zK ?_
|refine zC ?_
|refine zB rfl ?_
|refine zE rfl ?_
|refine zF ?_
|refine zJ ?_
|refine zD ?_
|refine zL ?_
|apply zAB rfl
 . conv => lhs; whnf; arg 2; whnf
 . conv => lhs; whnf; arg 1; whnf
|apply zAN rfl
 . conv => lhs; whnf; arg 1; whnf
|apply zAE rfl
 . conv => lhs; whnf; arg 2; whnf
 . conv => lhs; whnf; arg 1; whnf
|apply zAF rfl
 . conv => lhs; whnf; arg 1; whnf
|refine ⟨_,by conv => lhs; whnf; arg 2; whnf,?_⟩; conv => rhs; whnf
|exact trivial
|intro hg)
       all_goals first
        | exact zBf _ _
        | exact zo (by omega)
        | (refine ⟨by simp,?_,?_⟩ <;> simp only [List.length_cons,List.length_nil,maxLen] <;> omega)
        | (rw [e2 (zA1 hq).1,(zA1 hq).2]; rfl)
        | (rw [e1 ‹_›,then_err hq]; rfl)
        | (have hx:=hz.nx0.op hq
           have hnl:=nx_len ⟨t :: r,zvr,znd⟩
           refine zh (j':=j) (by omega) ⟨xx,n + 1,ops ++ [aa],frs,hx.1,by omega,by omega,by rw [List.length_append]; simp only [List.length_cons,List.length_nil]; omega,by omega,by rw [e1 ‹_›,zm hq],Sub.live ⟨rfl,rfl,rfl,rfl,trivial⟩ ⟨rfl,rfl,rfl,?_,rfl,trivial⟩⟩
           show some (Res.tok _ (ops.length + 1)) = some (Res.tok _ (ops ++ [aa]).length)
           rw [List.length_append]; rfl)
        | skip
     . have e1 : n < 64 -> docF (j + 1) n ops frs z = zw (zBb (nxT z)) fun o y => docF j (n + 1) ops (frs ++ [o]) y:=fun hn => dc_frag hE hW hn hK
       have e2 : 64 <= n -> docF (j + 1) n ops frs z = .error ((hdT z).i,4):=fun hn => dc_lim hE (.inl hW) hn
       have hW1:=hW.1
       have hW2 : (hdT z).s = fragT:=hW.2.resolve_left hK
       rw [hh] at hW1 hW2 hK e2
       have K1 : ((t.k == 2) == true) = false -> False:=fun h => by rw [hW1] at h; cases h
       have K2 : decide (zBe t.s > 0) = true -> False:=fun h => by simp at h; omega
       have K3 : (decide (zBe t.s > 0) == false) = false -> False:=fun h => by simp at h; omega
       have K4 : ((bs t.s).toList == (⟨#[102,114,97,103,109,101,110,116]⟩ : ByteArray).toList) = false -> False:=fun h => zBO h hW2
       have K5 : (!((bs t.s).toList == (⟨#[102,114,97,103,109,101,110,116]⟩ : ByteArray).toList)) = true -> False:=fun h => seq_nt h hW2
       have K6 : ((!((bs t.s).toList == (⟨#[102,114,97,103,109,101,110,116]⟩ : ByteArray).toList)) == true) = true -> False:=fun h => seq_nt (by simpa using h) hW2
       obtain ⟨zts,zvr,znd⟩:=z
       cases ht
       repeat' (first
|apply s_wanted_pick_t rfl rfl rfl
 . conv => lhs; whnf
 . first | rfl | assumption
 . conv => lhs; whnf
 . first | exact bT1 ‹_› | exact bT2 ‹_› | rfl
|apply zq rfl rfl rfl
 . conv => lhs; whnf
 . first | rfl | assumption
 . conv => lhs; whnf
 . first | exact bT1 ‹_› | exact bT2 ‹_› | rfl
|apply s_wanted_pick_f rfl rfl rfl
 . conv => lhs; whnf
 . first | rfl | assumption
 . conv => lhs; whnf
 . first | exact bF1 ‹_› | exact bF2 ‹_› | rfl
|apply zu rfl rfl rfl
 . conv => lhs; whnf
 . first | rfl | assumption
 . conv => lhs; whnf
 . first | exact bF1 ‹_› | exact bF2 ‹_› | rfl
|apply zBJ 8 ([(1,[3])]) ([(3,[1000000]),(5,[904]),(7,[3])]) rfl (by kernel_rfl) (by kernel_rfl) (by kernel_rfl)
|apply zEc
|apply zEb rfl
 . conv => lhs; whnf
 . conv => lhs; whnf; arg 2; whnf
|apply zH2 rfl
 . conv => lhs; whnf
 . conv => lhs; whnf
 . first | exact hkd _
|apply g_app rfl rfl
 . conv => lhs; whnf
 . first | exact zA0 | (conv => lhs; whnf; arg 1; whnf)
 . first | exact fun _ => rfl | (intro _; kernel_rfl)
 . conv => lhs; whnf
 . rfl
 . conv => lhs; whnf; arg 1; whnf
 . conv => lhs; whnf
|apply zBn rfl rfl rfl
 . conv => lhs; whnf
 . rfl
 . conv => lhs; whnf; arg 1; whnf
 . conv => lhs; whnf; arg 1; whnf
 . exact ⟨by kernel_rfl,by kernel_rfl⟩
 . rfl
|exact Or.inl ⟨pn 0,_,rfl⟩
|refine Or.inr ?_
|apply g_pr zv zY (default : D) rfl
 . conv => lhs; whnf
 . conv => lhs; whnf
 . rfl
 . conv => lhs; whnf; arg 1; whnf
 . first | exact zAD _
 . first | exact hfr
 . exact fun _ => rfl
 . first | (intro _ _; simp only [renL,renV,ren_cells]; done) | exact fun _ _ => rfl
 . rfl
 refine fun ee hq tm rs => ?_
 change _ = Out.die _
 rotate_left 1
 refine fun aa xx hq => ?_
 rotate_left 1
 refine fun ee hq => ?_
|show inO _ _ = true; rfl
|apply zEd [aa] rfl rfl
 . conv => lhs; whnf
 . first | exact zA0 | (conv => lhs; whnf; arg 1; whnf)
 . rfl
 . rfl
 . repeat' (first | exact trivial | apply And.intro | rfl)
|apply zEd [default] rfl rfl
 . conv => lhs; whnf
 . first | exact zA0 | (conv => lhs; whnf; arg 1; whnf)
 . rfl
 . rfl
 . repeat' (first | exact trivial | apply And.intro | rfl)
|apply s_m zv zY rfl
 . conv => lhs; whnf
 . conv => lhs; whnf
 . rfl
 . conv => lhs; whnf; arg 1; whnf
 . first | exact zAD _
 . first | exact hs | exact hnx
 . exact fun _ => rfl
 . exact fun _ => rfl
|apply zAT zv zY rfl
 . conv => lhs; whnf
 . conv => lhs; whnf
 . first | rfl | assumption
 . conv => lhs; whnf
 . rfl
 . conv => lhs; whnf; arg 1; whnf
 . first | exact zAD _
 . first | exact hs | exact hnx
 . exact fun _ => rfl
 . exact fun _ => rfl
|apply zl rfl
 . conv => lhs; whnf
 . conv => lhs; whnf
 . first | rfl | assumption
|apply zAI rfl
 . conv => lhs; whnf
 . rfl
 . rfl
|apply zAs zv zY rfl
 . conv => lhs; whnf
 . conv => lhs; whnf
 . conv => lhs; whnf
 . rfl
 . conv => lhs; whnf; arg 1; whnf
 . first | exact zAD _
 . first | exact hs | exact hnx
 . exact fun _ => rfl
 . exact fun _ => rfl
|apply s_pr zv zY rfl
 . conv => lhs; whnf
 . conv => lhs; whnf
 . rfl
 . conv => lhs; whnf; arg 1; whnf
 . first | exact zAD _
 . first | exact hli
 . exact fun _ => rfl
 . first | (intro _ _; simp only [renL,renV,ren_cells]; done) | exact fun _ _ => rfl
 refine fun ee hq => ?_
 change _ = Out.die _
 rotate_left 1
 refine fun aa xx hq => ?_
 first | (replace hq:=zAp hq; obtain ⟨hq,rfl⟩:=hq) | (cases hq; have hq:=True.intro) | skip
|exact (K0 ‹_› ‹_›).elim
|exact (K1 ‹_›).elim
|exact (K2 ‹_›).elim
|exact (K3 ‹_›).elim
|exact (K4 ‹_›).elim
|exact (K5 ‹_›).elim
|exact (K6 ‹_›).elim
|refine zi ?_
|refine zf ?_
|refine zAH ?_
|refine zA ?_
|refine zI ?_
|refine zb ?_
|refine zU ?_
|refine za ?_
|apply aw_1
 conv => whnf
 refine ⟨?_,trivial⟩
|apply zg rfl rfl
 . conv => lhs; whnf
 . conv => lhs; whnf
 . first | exact bT1 ‹_› | exact bT2 ‹_›
|apply ze rfl rfl
 . conv => lhs; whnf
 . conv => lhs; whnf
 . first | exact bF1 ‹_› | exact bF2 ‹_›
|apply s_1
 conv => whnf; arg 1; arg 4; arg 3; whnf
 refine ⟨?_,?_⟩
|apply zt rfl
 . conv => lhs; whnf
 . conv => lhs; whnf; arg 2; whnf
|apply zd rfl
 . conv => lhs; whnf
 . conv => lhs; whnf
 . first | exact hkd _
|apply zAA rfl rfl rfl rfl
 . conv => lhs; whnf; arg 1; whnf
 . rfl
|apply zr rfl rfl rfl
 . conv => lhs; whnf
 . conv => lhs; whnf; arg 1; whnf
 . conv => lhs; whnf; arg 1; whnf
 . exact ⟨by kernel_rfl,by kernel_rfl⟩
 . rfl
|apply zBK rfl rfl
 . conv => lhs; whnf
 . first | exact zA0 | (conv => lhs; whnf; arg 1; whnf)
 . first | exact fun _ => rfl | (intro _; kernel_rfl)
 . conv => lhs; whnf
 . conv => lhs; whnf; arg 1; whnf
 . conv => lhs; whnf
|apply zAJ rfl rfl rfl rfl
 . first | exact zA0 | (conv => lhs; whnf; arg 1; whnf)
 . first | exact fun _ => rfl | (intro _; kernel_rfl)
 . conv => lhs; whnf
 . conv => lhs; whnf
|apply zAr rfl rfl
 . conv => lhs; whnf
 . first | exact zA0 | (conv => lhs; whnf; arg 1; whnf)
|apply zAn rfl rfl
 . conv => lhs; whnf
 . first | exact zA0 | (conv => lhs; whnf; arg 1; whnf)
 . conv => lhs; whnf; arg 1; whnf
 . rfl
 . rfl
|apply zAc rfl rfl
 . conv => lhs; whnf
 . first | exact zA0 | (conv => lhs; whnf; arg 1; whnf)
 . first | exact fun _ => rfl | (intro _; kernel_rfl)
 . conv => lhs; whnf
 . conv => lhs; whnf
|apply zM rfl
 . conv => lhs; whnf
 . conv => lhs; whnf
 . first | rfl | assumption
 . conv => lhs; whnf; arg 2; whnf
|apply zR rfl
 . conv => lhs; whnf
 . conv => lhs; whnf
 . first | rfl | assumption
 . conv => lhs; whnf
 . first | exact hkd _
|apply zl rfl
 . conv => lhs; whnf
 . conv => lhs; whnf
 . first | rfl | assumption
|apply zAI rfl
 . conv => lhs; whnf
 . rfl
 . rfl
|apply zP rfl
 . conv => lhs; whnf
 . conv => lhs; whnf
 . conv => lhs; whnf; arg 2; whnf
|apply zp rfl
 . conv => lhs; whnf
 . conv => lhs; whnf
 . conv => lhs; whnf
 . first | exact hkd _
|apply zn rfl
 . conv => lhs; whnf
 . conv => lhs; whnf
 . conv => lhs; whnf; arg 2; whnf
|apply zk rfl
 . conv => lhs; whnf
 . conv => lhs; whnf
 . conv => lhs; whnf
 . first | exact hkd _
|apply zAm (by kernel_rfl) (by kernel_rfl)
|apply zB6
|apply zBh rfl rfl
 . conv => lhs; whnf
 . conv => lhs; whnf
 . first | exact bT1 ‹_› | exact bT2 ‹_›
|apply zBi rfl rfl
 . conv => lhs; whnf
 . conv => lhs; whnf
 . first | exact bF1 ‹_› | exact bF2 ‹_›
|apply zB5 rfl
 . conv => lhs; whnf
 . conv => lhs; whnf; arg 2; whnf
|apply zCp rfl
 . conv => lhs; whnf
 . conv => lhs; whnf
 . first | exact hkd _
|apply zCh rfl rfl rfl
 . conv => lhs; whnf
 . rfl
 . rfl
 . conv => lhs; whnf; arg 1; whnf
 . conv => lhs; whnf; arg 1; whnf
 . exact ⟨by kernel_rfl,by kernel_rfl⟩
 . rfl
|apply y_app rfl rfl
 . conv => lhs; whnf
 . first | exact zA0 | (conv => lhs; whnf; arg 1; whnf)
 . first | exact fun _ => rfl | (intro _; kernel_rfl)
 . conv => lhs; whnf
 . rfl
 . rfl
 . conv => lhs; whnf; arg 1; whnf
 . conv => lhs; whnf
|apply zEl rfl rfl
 . conv => lhs; whnf
 . first | exact zA0 | (conv => lhs; whnf; arg 1; whnf)
|apply zEk rfl rfl
 . conv => lhs; whnf
 . first | exact zA0 | (conv => lhs; whnf; arg 1; whnf)
 . conv => lhs; whnf; arg 1; whnf
 . rfl
 . rfl
|apply zDC rfl rfl
 . conv => lhs; whnf
 . first | exact zA0 | (conv => lhs; whnf; arg 1; whnf)
 . first | exact fun _ => rfl | (intro _; kernel_rfl)
 . conv => lhs; whnf
 . conv => lhs; whnf
|apply zAd rfl
 . conv => lhs; whnf
 . conv => lhs; whnf
 . first | rfl | assumption
 . conv => lhs; whnf; arg 2; whnf
|apply zAa rfl
 . conv => lhs; whnf
 . conv => lhs; whnf
 . first | rfl | assumption
 . conv => lhs; whnf
 . first | exact hkd _
|apply zCc rfl
 . conv => lhs; whnf
 . conv => lhs; whnf
 . first | rfl | assumption
|apply zAq rfl
 . conv => lhs; whnf
 . conv => lhs; whnf
 . conv => lhs; whnf; arg 2; whnf
|apply zAf rfl
 . conv => lhs; whnf
 . conv => lhs; whnf
 . conv => lhs; whnf
 . first | exact hkd _
|exact zAG
|exact zAK
|exact all_nil
|show List.all _ _ = true; rfl
|show zAl _ _ = true; rfl
|exact ([] : List Nat)
|exact (1000000 : Nat)
|apply zN
 . conv => lhs; whnf; arg 1; arg 1; whnf
|apply zO
 . conv => lhs; whnf; arg 1; arg 1; whnf
|refine zT (by conv => lhs; whnf) ?_ ?_ <;> intro hb
|refine zj ?_
|refine zZ ?_
|refine zG ?_
|refine zK ?_
|refine zC ?_
|refine zB rfl ?_
|refine zE rfl ?_
|refine zF ?_
|refine zJ ?_
|refine zD ?_
|refine zL ?_
|apply zAB rfl
 . conv => lhs; whnf; arg 2; whnf
 . conv => lhs; whnf; arg 1; whnf
|apply zAN rfl
 . conv => lhs; whnf; arg 1; whnf
|apply zAE rfl
 . conv => lhs; whnf; arg 2; whnf
 . conv => lhs; whnf; arg 1; whnf
|apply zAF rfl
 . conv => lhs; whnf; arg 1; whnf
|refine ⟨_,by conv => lhs; whnf; arg 2; whnf,?_⟩; conv => rhs; whnf
|exact trivial
|intro hg)
       all_goals first
        | exact zBf _ _
        | exact zo (by omega)
        | (refine ⟨by simp,?_,?_⟩ <;> simp only [List.length_cons,List.length_nil,maxLen] <;> omega)
        | (rw [e2 (zA1 hq).1,(zA1 hq).2]; rfl)
        | (rw [e1 ‹_›,then_err hq]; rfl)
        | (have hx:=hz.nx0.frag hq
           have hnl:=nx_len ⟨t :: r,zvr,znd⟩
           refine zh (j':=j) (by omega) ⟨xx,n + 1,ops,frs ++ [aa],hx.1,by omega,by omega,by rw [List.length_append]; simp only [List.length_cons,List.length_nil]; omega,by omega,by rw [e1 ‹_›,zm hq],Sub.live ⟨rfl,rfl,rfl,rfl,trivial⟩ ⟨rfl,rfl,rfl,rfl,?_,trivial⟩⟩
           show some (Res.tok _ (frs.length + 1)) = some (Res.tok _ (frs ++ [aa]).length)
           rw [List.length_append]; rfl)
        | skip
   . have hW2 : ¬ (t.k = 2 /\ (0 < zBe t.s \/ t.s = fragT)):=by rw [<- hh]; exact hW
     have K1 : ((t.k == 2) == true) = true -> decide (zBe t.s > 0) = true -> False:=fun h1 h2 => hW2 ⟨by simpa using h1,.inl (by simpa using h2)⟩
     have K2 : ((t.k == 2) == true) = true -> (decide (zBe t.s > 0) == false) = false -> False:=fun h1 h2 => hW2 ⟨by simpa using h1,.inl (by simpa using h2)⟩
     have K3 : ((t.k == 2) == true) = true -> ((bs t.s).toList == (⟨#[102,114,97,103,109,101,110,116]⟩ : ByteArray).toList) = true -> False:=fun h1 h2 => hW2 ⟨by simpa using h1,.inr (zDG h2)⟩
     have K4 : ((t.k == 2) == true) = true -> (!((bs t.s).toList == (⟨#[102,114,97,103,109,101,110,116]⟩ : ByteArray).toList)) = false -> False:=fun h1 h2 => hW2 ⟨by simpa using h1,.inr (zF3 h2)⟩
     have K5 : ((t.k == 2) == true) = true -> ((!((bs t.s).toList == (⟨#[102,114,97,103,109,101,110,116]⟩ : ByteArray).toList)) == true) = false -> False:=fun h1 h2 => hW2 ⟨by simpa using h1,.inr (zF3 (by simpa using h2))⟩
     by_cases hS : isS z [123] = true
     . have e1 : n < 64 -> docF (j + 1) n ops frs z = zw (setQ z) fun ss y => docF j (n + 1) (ops ++ [opD 1 [] [] ss]) frs y:=fun hn => dc_set hE hW hS hn
       have e2 : 64 <= n -> docF (j + 1) n ops frs z = .error ((hdT z).i,4):=fun hn => dc_lim hE (.inr hS) hn
       have K6 : isS z [123] = false -> False:=fun h => by rw [hS] at h; cases h
       have K7 : (!isS z [123]) = true -> False:=fun h => by rw [hS] at h; cases h
       rw [hh] at e2
       obtain ⟨zts,zvr,znd⟩:=z
       cases ht
       repeat' (first
|apply s_wanted_pick_t rfl rfl rfl
 . conv => lhs; whnf
 . first | rfl | assumption
 . conv => lhs; whnf
 . first | exact bT1 ‹_› | exact bT2 ‹_› | rfl
|apply zq rfl rfl rfl
 . conv => lhs; whnf
 . first | rfl | assumption
 . conv => lhs; whnf
 . first | exact bT1 ‹_› | exact bT2 ‹_› | rfl
|apply s_wanted_pick_f rfl rfl rfl
 . conv => lhs; whnf
 . first | rfl | assumption
 . conv => lhs; whnf
 . first | exact bF1 ‹_› | exact bF2 ‹_› | rfl
|apply zu rfl rfl rfl
 . conv => lhs; whnf
 . first | rfl | assumption
 . conv => lhs; whnf
 . first | exact bF1 ‹_› | exact bF2 ‹_› | rfl
|apply g_valW (VO (opD 1 [] [] _)) rfl rfl
 . conv => lhs; whnf; arg 2; whnf
 . repeat' (first | exact VLe.refl _ | exact VLe.nil _ | exact VLe.lit _ _ | exact VLe.own _ _ _ | apply VLe.agg | apply VLeL.cons | exact VLeL.nil)
|apply zBJ 9 ([(1,[3])]) ([(3,[1000000]),(6,[903]),(8,[3])]) rfl (by kernel_rfl) (by kernel_rfl) (by kernel_rfl)
|apply zEc
|apply zEb rfl
 . conv => lhs; whnf
 . conv => lhs; whnf; arg 2; whnf
|apply zH2 rfl
 . conv => lhs; whnf
 . conv => lhs; whnf
 . first | exact hkd _
|apply g_app rfl rfl
 . conv => lhs; whnf
 . first | exact zAY | (conv => lhs; whnf; arg 1; whnf)
 . first | exact fun _ => rfl | (intro _; kernel_rfl)
 . conv => lhs; whnf
 . rfl
 . conv => lhs; whnf; arg 1; whnf
 . conv => lhs; whnf
|apply zBn rfl rfl rfl
 . conv => lhs; whnf
 . rfl
 . conv => lhs; whnf; arg 1; whnf
 . conv => lhs; whnf; arg 1; whnf
 . exact ⟨by kernel_rfl,by kernel_rfl⟩
 . rfl
|exact Or.inl ⟨pn 0,_,rfl⟩
|refine Or.inr ?_
|apply g_pr zv zY ([] : List D) rfl
 . conv => lhs; whnf
 . conv => lhs; whnf
 . rfl
 . conv => lhs; whnf; arg 1; whnf
 . first | exact zAD _
 . first | exact hse
 . exact fun _ => rfl
 . first | (intro _ _; simp only [renL,renV,ren_cells]; done) | exact fun _ _ => rfl
 . rfl
 refine fun ee hq tm rs => ?_
 change _ = Out.die _
 rotate_left 1
 refine fun aa xx hq => ?_
 rotate_left 1
 refine fun ee hq => ?_
|show inO _ _ = true; rfl
|apply zEd [opD 1 [] [] _] rfl rfl
 . conv => lhs; whnf
 . first | exact zAY | (conv => lhs; whnf; arg 1; whnf)
 . rfl
 . rfl
 . repeat' (first | exact trivial | apply And.intro | rfl)
|apply s_m zv zY rfl
 . conv => lhs; whnf
 . conv => lhs; whnf
 . rfl
 . conv => lhs; whnf; arg 1; whnf
 . first | exact zAD _
 . first | exact hs | exact hnx
 . exact fun _ => rfl
 . exact fun _ => rfl
|apply zAT zv zY rfl
 . conv => lhs; whnf
 . conv => lhs; whnf
 . first | rfl | assumption
 . conv => lhs; whnf
 . rfl
 . conv => lhs; whnf; arg 1; whnf
 . first | exact zAD _
 . first | exact hs | exact hnx
 . exact fun _ => rfl
 . exact fun _ => rfl
|apply zl rfl
 . conv => lhs; whnf
 . conv => lhs; whnf
 . first | rfl | assumption
|apply zAI rfl
 . conv => lhs; whnf
 . rfl
 . rfl
|apply zAs zv zY rfl
 . conv => lhs; whnf
 . conv => lhs; whnf
 . conv => lhs; whnf
 . rfl
 . conv => lhs; whnf; arg 1; whnf
 . first | exact zAD _
 . first | exact hs | exact hnx
 . exact fun _ => rfl
 . exact fun _ => rfl
|apply s_pr zv zY rfl
 . conv => lhs; whnf
 . conv => lhs; whnf
 . rfl
 . conv => lhs; whnf; arg 1; whnf
 . first | exact zAD _
 . first | exact hli
 . exact fun _ => rfl
 . first | (intro _ _; simp only [renL,renV,ren_cells]; done) | exact fun _ _ => rfl
 refine fun ee hq => ?_
 change _ = Out.die _
 rotate_left 1
 refine fun aa xx hq => ?_
 first | (replace hq:=zAp hq; obtain ⟨hq,rfl⟩:=hq) | (cases hq; have hq:=True.intro) | skip
|exact (K0 ‹_› ‹_›).elim
|exact (K1 ‹_› ‹_›).elim
|exact (K2 ‹_› ‹_›).elim
|exact (K3 ‹_› ‹_›).elim
|exact (K4 ‹_› ‹_›).elim
|exact (K5 ‹_› ‹_›).elim
|exact (K6 ‹_›).elim
|exact (K7 ‹_›).elim
|refine zi ?_
|refine zf ?_
|refine zAH ?_
|refine zA ?_
|refine zI ?_
|refine zb ?_
|refine zU ?_
|refine za ?_
|apply aw_1
 conv => whnf
 refine ⟨?_,trivial⟩
|apply zg rfl rfl
 . conv => lhs; whnf
 . conv => lhs; whnf
 . first | exact bT1 ‹_› | exact bT2 ‹_›
|apply ze rfl rfl
 . conv => lhs; whnf
 . conv => lhs; whnf
 . first | exact bF1 ‹_› | exact bF2 ‹_›
|apply s_1
 conv => whnf; arg 1; arg 4; arg 3; whnf
 refine ⟨?_,?_⟩
|apply zt rfl
 . conv => lhs; whnf
 . conv => lhs; whnf; arg 2; whnf
|apply zd rfl
 . conv => lhs; whnf
 . conv => lhs; whnf
 . first | exact hkd _
|apply zAA rfl rfl rfl rfl
 . conv => lhs; whnf; arg 1; whnf
 . rfl
|apply zr rfl rfl rfl
 . conv => lhs; whnf
 . conv => lhs; whnf; arg 1; whnf
 . conv => lhs; whnf; arg 1; whnf
 . exact ⟨by kernel_rfl,by kernel_rfl⟩
 . rfl
|apply zBK rfl rfl
 . conv => lhs; whnf
 . first | exact zAY | (conv => lhs; whnf; arg 1; whnf)
 . first | exact fun _ => rfl | (intro _; kernel_rfl)
 . conv => lhs; whnf
 . conv => lhs; whnf; arg 1; whnf
 . conv => lhs; whnf
|apply zAJ rfl rfl rfl rfl
 . first | exact zAY | (conv => lhs; whnf; arg 1; whnf)
 . first | exact fun _ => rfl | (intro _; kernel_rfl)
 . conv => lhs; whnf
 . conv => lhs; whnf
|apply zAr rfl rfl
 . conv => lhs; whnf
 . first | exact zAY | (conv => lhs; whnf; arg 1; whnf)
|apply zAn rfl rfl
 . conv => lhs; whnf
 . first | exact zAY | (conv => lhs; whnf; arg 1; whnf)
 . conv => lhs; whnf; arg 1; whnf
 . rfl
 . rfl
|apply zAc rfl rfl
 . conv => lhs; whnf
 . first | exact zAY | (conv => lhs; whnf; arg 1; whnf)
 . first | exact fun _ => rfl | (intro _; kernel_rfl)
 . conv => lhs; whnf
 . conv => lhs; whnf
|apply zM rfl
 . conv => lhs; whnf
 . conv => lhs; whnf
 . first | rfl | assumption
 . conv => lhs; whnf; arg 2; whnf
|apply zR rfl
 . conv => lhs; whnf
 . conv => lhs; whnf
 . first | rfl | assumption
 . conv => lhs; whnf
 . first | exact hkd _
|apply zl rfl
 . conv => lhs; whnf
 . conv => lhs; whnf
 . first | rfl | assumption
|apply zAI rfl
 . conv => lhs; whnf
 . rfl
 . rfl
|apply zP rfl
 . conv => lhs; whnf
 . conv => lhs; whnf
 . conv => lhs; whnf; arg 2; whnf
|apply zp rfl
 . conv => lhs; whnf
 . conv => lhs; whnf
 . conv => lhs; whnf
 . first | exact hkd _
|apply zn rfl
 . conv => lhs; whnf
 . conv => lhs; whnf
 . conv => lhs; whnf; arg 2; whnf
|apply zk rfl
 . conv => lhs; whnf
 . conv => lhs; whnf
 . conv => lhs; whnf
 . first | exact hkd _
|apply zAm (by kernel_rfl) (by kernel_rfl)
|apply zB6
|apply zBh rfl rfl
 . conv => lhs; whnf
 . conv => lhs; whnf
 . first | exact bT1 ‹_› | exact bT2 ‹_›
|apply zBi rfl rfl
 . conv => lhs; whnf
 . conv => lhs; whnf
 . first | exact bF1 ‹_› | exact bF2 ‹_›
|apply zB5 rfl
 . conv => lhs; whnf
 . conv => lhs; whnf; arg 2; whnf
|apply zCp rfl
 . conv => lhs; whnf
 . conv => lhs; whnf
 . first | exact hkd _
|apply zCh rfl rfl rfl
 . conv => lhs; whnf
 . rfl
 . rfl
 . conv => lhs; whnf; arg 1; whnf
 . conv => lhs; whnf; arg 1; whnf
 . exact ⟨by kernel_rfl,by kernel_rfl⟩
 . rfl
|apply y_app rfl rfl
 . conv => lhs; whnf
 . first | exact zAY | (conv => lhs; whnf; arg 1; whnf)
 . first | exact fun _ => rfl | (intro _; kernel_rfl)
 . conv => lhs; whnf
 . rfl
 . rfl
 . conv => lhs; whnf; arg 1; whnf
 . conv => lhs; whnf
|apply zEl rfl rfl
 . conv => lhs; whnf
 . first | exact zAY | (conv => lhs; whnf; arg 1; whnf)
|apply zEk rfl rfl
 . conv => lhs; whnf
 . first | exact zAY | (conv => lhs; whnf; arg 1; whnf)
 . conv => lhs; whnf; arg 1; whnf
 . rfl
 . rfl
|apply zDC rfl rfl
 . conv => lhs; whnf
 . first | exact zAY | (conv => lhs; whnf; arg 1; whnf)
 . first | exact fun _ => rfl | (intro _; kernel_rfl)
 . conv => lhs; whnf
 . conv => lhs; whnf
|apply zAd rfl
 . conv => lhs; whnf
 . conv => lhs; whnf
 . first | rfl | assumption
 . conv => lhs; whnf; arg 2; whnf
|apply zAa rfl
 . conv => lhs; whnf
 . conv => lhs; whnf
 . first | rfl | assumption
 . conv => lhs; whnf
 . first | exact hkd _
|apply zCc rfl
 . conv => lhs; whnf
 . conv => lhs; whnf
 . first | rfl | assumption
|apply zAq rfl
 . conv => lhs; whnf
 . conv => lhs; whnf
 . conv => lhs; whnf; arg 2; whnf
|apply zAf rfl
 . conv => lhs; whnf
 . conv => lhs; whnf
 . conv => lhs; whnf
 . first | exact hkd _
|exact zAG
|exact zAK
|exact all_nil
|show List.all _ _ = true; rfl
|show zAl _ _ = true; rfl
|exact ([] : List Nat)
|exact (1000000 : Nat)
|apply zN
 . conv => lhs; whnf; arg 1; arg 1; whnf
|apply zO
 . conv => lhs; whnf; arg 1; arg 1; whnf
|refine zT (by conv => lhs; whnf) ?_ ?_ <;> intro hb
|refine zj ?_
|refine zZ ?_
|refine zG ?_
|refine zK ?_
|refine zC ?_
|refine zB rfl ?_
|refine zE rfl ?_
|refine zF ?_
|refine zJ ?_
|refine zD ?_
|refine zL ?_
|apply zAB rfl
 . conv => lhs; whnf; arg 2; whnf
 . conv => lhs; whnf; arg 1; whnf
|apply zAN rfl
 . conv => lhs; whnf; arg 1; whnf
|apply zAE rfl
 . conv => lhs; whnf; arg 2; whnf
 . conv => lhs; whnf; arg 1; whnf
|apply zAF rfl
 . conv => lhs; whnf; arg 1; whnf
|refine ⟨_,by conv => lhs; whnf; arg 2; whnf,?_⟩; conv => rhs; whnf
|exact trivial
|intro hg)
       all_goals first
        | exact zBf _ _
        | exact zo (by omega)
        | (refine ⟨by simp,?_,?_⟩ <;> simp only [List.length_cons,List.length_nil,maxLen] <;> omega)
        | (rw [e2 (zA1 hq).1,(zA1 hq).2]; rfl)
        | (rw [e1 ‹_›,then_err hq]; rfl)
        | (have hx:=hz.sels hq
           have hnl:=nx_len ⟨t :: r,zvr,znd⟩
           refine zh (j':=j) (by omega) ⟨xx,n + 1,ops ++ [opD 1 [] [] aa],frs,hx.1,by omega,by omega,by rw [List.length_append]; simp only [List.length_cons,List.length_nil]; omega,by omega,by rw [e1 ‹_›,zm hq],Sub.live ⟨rfl,rfl,rfl,rfl,trivial⟩ ⟨rfl,rfl,rfl,?_,rfl,trivial⟩⟩
           show some (Res.tok _ (ops.length + 1)) = some (Res.tok _ (ops ++ [opD 1 [] [] aa]).length)
           rw [List.length_append]; rfl)
        | skip
     . have hS : isS z [123] = false:=by simpa using hS
       have e1:=dc_un (f:=j) (n:=n) (ops:=ops) (frs:=frs) hE hW hS
       have K6 : isS z [123] = true -> False:=fun h => by rw [hS] at h; cases h
       have K7 : (!isS z [123]) = false -> False:=fun h => by rw [hS] at h; cases h
       rw [e1,hh]
       obtain ⟨zts,zvr,znd⟩:=z
       cases ht
       repeat' (first
|apply s_wanted_pick_t rfl rfl rfl
 . conv => lhs; whnf
 . first | rfl | assumption
 . conv => lhs; whnf
 . first | exact bT1 ‹_› | exact bT2 ‹_› | rfl
|apply zq rfl rfl rfl
 . conv => lhs; whnf
 . first | rfl | assumption
 . conv => lhs; whnf
 . first | exact bT1 ‹_› | exact bT2 ‹_› | rfl
|apply s_wanted_pick_f rfl rfl rfl
 . conv => lhs; whnf
 . first | rfl | assumption
 . conv => lhs; whnf
 . first | exact bF1 ‹_› | exact bF2 ‹_› | rfl
|apply zu rfl rfl rfl
 . conv => lhs; whnf
 . first | rfl | assumption
 . conv => lhs; whnf
 . first | exact bF1 ‹_› | exact bF2 ‹_› | rfl
|apply g_valW (VO (opD 1 [] [] _)) rfl rfl
 . conv => lhs; whnf; arg 2; whnf
 . repeat' (first | exact VLe.refl _ | exact VLe.nil _ | exact VLe.lit _ _ | exact VLe.own _ _ _ | apply VLe.agg | apply VLeL.cons | exact VLeL.nil)
|apply zBJ 9 ([(1,[3])]) ([(3,[1000000]),(6,[903]),(8,[3])]) rfl (by kernel_rfl) (by kernel_rfl) (by kernel_rfl)
|apply zEc
|apply zEb rfl
 . conv => lhs; whnf
 . conv => lhs; whnf; arg 2; whnf
|apply zH2 rfl
 . conv => lhs; whnf
 . conv => lhs; whnf
 . first | exact hkd _
|apply g_app rfl rfl
 . conv => lhs; whnf
 . first | exact zAY | (conv => lhs; whnf; arg 1; whnf)
 . first | exact fun _ => rfl | (intro _; kernel_rfl)
 . conv => lhs; whnf
 . rfl
 . conv => lhs; whnf; arg 1; whnf
 . conv => lhs; whnf
|apply zBn rfl rfl rfl
 . conv => lhs; whnf
 . rfl
 . conv => lhs; whnf; arg 1; whnf
 . conv => lhs; whnf; arg 1; whnf
 . exact ⟨by kernel_rfl,by kernel_rfl⟩
 . rfl
|exact Or.inl ⟨pn 0,_,rfl⟩
|refine Or.inr ?_
|apply g_pr zv zY ([] : List D) rfl
 . conv => lhs; whnf
 . conv => lhs; whnf
 . rfl
 . conv => lhs; whnf; arg 1; whnf
 . first | exact zAD _
 . first | exact hse
 . exact fun _ => rfl
 . first | (intro _ _; simp only [renL,renV,ren_cells]; done) | exact fun _ _ => rfl
 . rfl
 refine fun ee hq tm rs => ?_
 change _ = Out.die _
 rotate_left 1
 refine fun aa xx hq => ?_
 rotate_left 1
 refine fun ee hq => ?_
|show inO _ _ = true; rfl
|apply zEd [opD 1 [] [] _] rfl rfl
 . conv => lhs; whnf
 . first | exact zAY | (conv => lhs; whnf; arg 1; whnf)
 . rfl
 . rfl
 . repeat' (first | exact trivial | apply And.intro | rfl)
|apply s_m zv zY rfl
 . conv => lhs; whnf
 . conv => lhs; whnf
 . rfl
 . conv => lhs; whnf; arg 1; whnf
 . first | exact zAD _
 . first | exact hs | exact hnx
 . exact fun _ => rfl
 . exact fun _ => rfl
|apply zAT zv zY rfl
 . conv => lhs; whnf
 . conv => lhs; whnf
 . first | rfl | assumption
 . conv => lhs; whnf
 . rfl
 . conv => lhs; whnf; arg 1; whnf
 . first | exact zAD _
 . first | exact hs | exact hnx
 . exact fun _ => rfl
 . exact fun _ => rfl
|apply zl rfl
 . conv => lhs; whnf
 . conv => lhs; whnf
 . first | rfl | assumption
|apply zAI rfl
 . conv => lhs; whnf
 . rfl
 . rfl
|apply zAs zv zY rfl
 . conv => lhs; whnf
 . conv => lhs; whnf
 . conv => lhs; whnf
 . rfl
 . conv => lhs; whnf; arg 1; whnf
 . first | exact zAD _
 . first | exact hs | exact hnx
 . exact fun _ => rfl
 . exact fun _ => rfl
|apply s_pr zv zY rfl
 . conv => lhs; whnf
 . conv => lhs; whnf
 . rfl
 . conv => lhs; whnf; arg 1; whnf
 . first | exact zAD _
 . first | exact hli
 . exact fun _ => rfl
 . first | (intro _ _; simp only [renL,renV,ren_cells]; done) | exact fun _ _ => rfl
 refine fun ee hq => ?_
 change _ = Out.die _
 rotate_left 1
 refine fun aa xx hq => ?_
 first | (replace hq:=zAp hq; obtain ⟨hq,rfl⟩:=hq) | (cases hq; have hq:=True.intro) | skip
|apply zCE rfl
 . conv => lhs; whnf
 . first | exact hf
 . first | exact fun _ => rfl | (intro _; simp only [renL,renV,ren_cells])
 change _ = Out.die _
|exact (K0 ‹_› ‹_›).elim
|exact (K1 ‹_› ‹_›).elim
|exact (K2 ‹_› ‹_›).elim
|exact (K3 ‹_› ‹_›).elim
|exact (K4 ‹_› ‹_›).elim
|exact (K5 ‹_› ‹_›).elim
|exact (K6 ‹_›).elim
|exact (K7 ‹_›).elim
|refine zi ?_
|refine zf ?_
|refine zAH ?_
|refine zA ?_
|refine zI ?_
|refine zb ?_
|refine zU ?_
|refine za ?_
|apply aw_1
 conv => whnf
 refine ⟨?_,trivial⟩
|apply zg rfl rfl
 . conv => lhs; whnf
 . conv => lhs; whnf
 . first | exact bT1 ‹_› | exact bT2 ‹_›
|apply ze rfl rfl
 . conv => lhs; whnf
 . conv => lhs; whnf
 . first | exact bF1 ‹_› | exact bF2 ‹_›
|apply s_1
 conv => whnf; arg 1; arg 4; arg 3; whnf
 refine ⟨?_,?_⟩
|apply zt rfl
 . conv => lhs; whnf
 . conv => lhs; whnf; arg 2; whnf
|apply zd rfl
 . conv => lhs; whnf
 . conv => lhs; whnf
 . first | exact hkd _
|apply zAA rfl rfl rfl rfl
 . conv => lhs; whnf; arg 1; whnf
 . rfl
|apply zr rfl rfl rfl
 . conv => lhs; whnf
 . conv => lhs; whnf; arg 1; whnf
 . conv => lhs; whnf; arg 1; whnf
 . exact ⟨by kernel_rfl,by kernel_rfl⟩
 . rfl
|apply zBK rfl rfl
 . conv => lhs; whnf
 . first | exact zAY | (conv => lhs; whnf; arg 1; whnf)
 . first | exact fun _ => rfl | (intro _; kernel_rfl)
 . conv => lhs; whnf
 . conv => lhs; whnf; arg 1; whnf
 . conv => lhs; whnf
|apply zAJ rfl rfl rfl rfl
 . first | exact zAY | (conv => lhs; whnf; arg 1; whnf)
 . first | exact fun _ => rfl | (intro _; kernel_rfl)
 . conv => lhs; whnf
 . conv => lhs; whnf
|apply zAr rfl rfl
 . conv => lhs; whnf
 . first | exact zAY | (conv => lhs; whnf; arg 1; whnf)
|apply zAn rfl rfl
 . conv => lhs; whnf
 . first | exact zAY | (conv => lhs; whnf; arg 1; whnf)
 . conv => lhs; whnf; arg 1; whnf
 . rfl
 . rfl
|apply zAc rfl rfl
 . conv => lhs; whnf
 . first | exact zAY | (conv => lhs; whnf; arg 1; whnf)
 . first | exact fun _ => rfl | (intro _; kernel_rfl)
 . conv => lhs; whnf
 . conv => lhs; whnf
|apply zM rfl
 . conv => lhs; whnf
 . conv => lhs; whnf
 . first | rfl | assumption
 . conv => lhs; whnf; arg 2; whnf
|apply zR rfl
 . conv => lhs; whnf
 . conv => lhs; whnf
 . first | rfl | assumption
 . conv => lhs; whnf
 . first | exact hkd _
|apply zl rfl
 . conv => lhs; whnf
 . conv => lhs; whnf
 . first | rfl | assumption
|apply zAI rfl
 . conv => lhs; whnf
 . rfl
 . rfl
|apply zP rfl
 . conv => lhs; whnf
 . conv => lhs; whnf
 . conv => lhs; whnf; arg 2; whnf
|apply zp rfl
 . conv => lhs; whnf
 . conv => lhs; whnf
 . conv => lhs; whnf
 . first | exact hkd _
|apply zn rfl
 . conv => lhs; whnf
 . conv => lhs; whnf
 . conv => lhs; whnf; arg 2; whnf
|apply zk rfl
 . conv => lhs; whnf
 . conv => lhs; whnf
 . conv => lhs; whnf
 . first | exact hkd _
|apply zAm (by kernel_rfl) (by kernel_rfl)
|apply zB6
|apply zBh rfl rfl
 . conv => lhs; whnf
 . conv => lhs; whnf
 . first | exact bT1 ‹_› | exact bT2 ‹_›
|apply zBi rfl rfl
 . conv => lhs; whnf
 . conv => lhs; whnf
 . first | exact bF1 ‹_› | exact bF2 ‹_›
|apply zB5 rfl
 . conv => lhs; whnf
 . conv => lhs; whnf; arg 2; whnf
|apply zCp rfl
 . conv => lhs; whnf
 . conv => lhs; whnf
 . first | exact hkd _
|apply zCh rfl rfl rfl
 . conv => lhs; whnf
 . rfl
 . rfl
 . conv => lhs; whnf; arg 1; whnf
 . conv => lhs; whnf; arg 1; whnf
 . exact ⟨by kernel_rfl,by kernel_rfl⟩
 . rfl
|apply y_app rfl rfl
 . conv => lhs; whnf
 . first | exact zAY | (conv => lhs; whnf; arg 1; whnf)
 . first | exact fun _ => rfl | (intro _; kernel_rfl)
 . conv => lhs; whnf
 . rfl
 . rfl
 . conv => lhs; whnf; arg 1; whnf
 . conv => lhs; whnf
|apply zEl rfl rfl
 . conv => lhs; whnf
 . first | exact zAY | (conv => lhs; whnf; arg 1; whnf)
|apply zEk rfl rfl
 . conv => lhs; whnf
 . first | exact zAY | (conv => lhs; whnf; arg 1; whnf)
 . conv => lhs; whnf; arg 1; whnf
 . rfl
 . rfl
|apply zDC rfl rfl
 . conv => lhs; whnf
 . first | exact zAY | (conv => lhs; whnf; arg 1; whnf)
 . first | exact fun _ => rfl | (intro _; kernel_rfl)
 . conv => lhs; whnf
 . conv => lhs; whnf
|apply zAd rfl
 . conv => lhs; whnf
 . conv => lhs; whnf
 . first | rfl | assumption
 . conv => lhs; whnf; arg 2; whnf
|apply zAa rfl
 . conv => lhs; whnf
 . conv => lhs; whnf
 . first | rfl | assumption
 . conv => lhs; whnf
 . first | exact hkd _
|apply zCc rfl
 . conv => lhs; whnf
 . conv => lhs; whnf
 . first | rfl | assumption
|apply zAq rfl
 . conv => lhs; whnf
 . conv => lhs; whnf
 . conv => lhs; whnf; arg 2; whnf
|apply zAf rfl
 . conv => lhs; whnf
 . conv => lhs; whnf
 . conv => lhs; whnf
 . first | exact hkd _
|exact zAG
|exact zAK
|exact all_nil
|show List.all _ _ = true; rfl
|show zAl _ _ = true; rfl
|exact ([] : List Nat)
|exact (1000000 : Nat)
|apply zN
 . conv => lhs; whnf; arg 1; arg 1; whnf
|apply zO
 . conv => lhs; whnf; arg 1; arg 1; whnf
|refine zT (by conv => lhs; whnf) ?_ ?_ <;> intro hb
|refine zj ?_
|refine zZ ?_
|refine zG ?_
|refine zK ?_
|refine zC ?_
|refine zB rfl ?_
|refine zE rfl ?_
|refine zF ?_
|refine zJ ?_
|refine zD ?_
|refine zL ?_
|apply zAB rfl
 . conv => lhs; whnf; arg 2; whnf
 . conv => lhs; whnf; arg 1; whnf
|apply zAN rfl
 . conv => lhs; whnf; arg 1; whnf
|apply zAE rfl
 . conv => lhs; whnf; arg 2; whnf
 . conv => lhs; whnf; arg 1; whnf
|apply zAF rfl
 . conv => lhs; whnf; arg 1; whnf
|refine ⟨_,by conv => lhs; whnf; arg 2; whnf,?_⟩; conv => rhs; whnf
|exact trivial
|intro hg)
       all_goals first
        | exact zBf _ _
        | rfl
        | skip
end Go.Proofs.YtdlnnlglmifceaaGreatDoor
