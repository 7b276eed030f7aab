import Derived.Test.YthjiclhfhjdjpaaGreatDoorQ31
set_option maxHeartbeats 8000000
set_option maxRecDepth 100000
set_option linter.unusedVariables false
set_option linter.unusedSimpArgs false
namespace Go.Proofs.YthjiclhfhjdjpaaGreatDoor
open Go.RowKit
set_option linter.unusedSectionVars false
attribute [local irreducible] wpList Calls Code.wp AW AWo OpOk seqK zAI zAO loopK endK AC zp Yld Sub
attribute [local irreducible] ACB ACX ACE absLexG YldG absLexU YldU absLexH
section
variable {l : List Tok} {j : Nat} {acc : List D} {x : RS}
theorem dz_end (h : sgZ l [64] x = false) : dirsLZ l (j + 1) acc x = (acc,x):=by
 conv => lhs; unfold dirsLZ
 rw [if_neg (by rw [h]; decide)]
theorem dz_lim (h : sgZ l [64] x = true) (h2 : 16 <= acc.length) : dirsLZ l (j + 1) acc x = ([],zk l 4 x):=by
 conv => lhs; unfold dirsLZ
 rw [if_pos h,if_pos h2]
theorem dz_go (h : sgZ l [64] x = true) (h2 : ¬ 16 <= acc.length) : dirsLZ l (j + 1) acc x = dirsLZ l j (acc ++ [(zEd l x).1]) (zEd l x).2:=by
 conv => lhs; unfold dirsLZ
 rw [if_pos h,if_neg h2]
end
noncomputable def HdF (l : List Tok) (y : RS) (acc : List D) : Vst 30:=
 stS 30 [(0,.bx (pn 0) 0),(3,.own 3 150 acc)] [(pn 0,boxF l y),(3,.tok 150 acc.length)]
section
variable (l : List Tok) (hE : Ed l) (hl : l.length <= 100000) (hS : ∀ i,i < l.length -> (l.getD i ⟨5,[],0⟩).s.length <= 100000)
include hE hl hS
theorem zBp (x : RS) (hx : x.at' < l.length) : ACB EN5 Tryz.prog 290 [.bx (pn 0) 0] [boxF l x] (.sl 150 (zw l x).1) [boxF l (zw l x).2]:=by
 unfold zw
 generalize hR : dirsLZ l (l.length + 1 - x.at') [] x = R
 refine zZ (fn:=Tryz.f290) 30 Tryz.func290 rfl rfl ?_
 intro pas w0 w he hp
 repeat' (first
|refine zA ?_
|refine zB ?_
|refine zG ?_
|apply aw_1
 conv => whnf
 refine ⟨?_,trivial⟩
|apply s_1
 conv => whnf; arg 1; arg 4; arg 3; whnf
 refine ⟨?_,?_⟩
|exact trivial)
 refine zn (Sub.own (t:=3) (e:=150) rfl rfl) ?_
 refine zu (fun j st => ∃ y acc,dirsLZ l j acc y = R /\ y.at' < l.length /\ 0 < j /\ (y.er = 0 -> l.length - y.at' < j) /\ acc.length + j <= l.length + 1 /\ Sub ⟨Tryz.prog,pas,w0,w,EN5,he,hp,fun _ _ _ => False,[]⟩ st (HdF l y acc)) (l.length + 1 - x.at') ⟨x,[],hR,hx,by omega,fun _ => by omega,by simp only [List.length_nil]; omega,?_⟩ ?_
 . exact Sub.live ⟨rfl,rfl,trivial⟩ ⟨rfl,rfl,trivial⟩
 clear hR
 rintro j st ⟨y,acc,hR,hy,hj0,hj,hv,hs2⟩
 refine zn hs2 ?_
 clear hs2
 obtain ⟨j,rfl⟩ : ∃ q,j = q + 1:=⟨j - 1,by omega⟩
 have h1:=zr l y hy [64]
 cases gs : sgZ l [64] y with
 | false =>
   rw [gs] at h1
   rw [dz_end gs] at hR
   subst hR
   repeat' (first
|apply s_m (zf l) (zH l) rfl
 . conv => lhs; whnf
 . conv => lhs; whnf
 . rfl
 . conv => lhs; whnf; arg 1; whnf
 . first | exact zt _ _
 . first | exact h1
 . exact fun _ => rfl
 . exact fun _ => rfl
|refine zA ?_
|refine zB ?_
|refine zG ?_
|apply aw_1
 conv => whnf
 refine ⟨?_,trivial⟩
|apply s_1
 conv => whnf; arg 1; arg 4; arg 3; whnf
 refine ⟨?_,?_⟩
|refine zP ?_
|refine zM rfl ?_
|refine zW ?_
|refine zq ⟨?_,?_⟩
|refine ⟨_,by conv => lhs; whnf; arg 2; whnf,?_⟩; conv => rhs; whnf
|exact trivial)
   all_goals first
    | exact ⟨rfl,trivial⟩
    | rfl
    | skip
 | true =>
   rw [gs] at h1
   have g0 : y.er = 0:=(sg_k gs).2.1
   by_cases hlim : 16 <= acc.length
   . have f1 : decide ((acc.length : Int) >= 16) = true:=decide_eq_true (by omega)
     have h2:=zAS l y 4 hy
     rw [dz_lim gs hlim] at hR
     subst hR
     repeat' (first
|apply s_m (zf l) (zH l) rfl
 . conv => lhs; whnf
 . conv => lhs; whnf
 . rfl
 . conv => lhs; whnf; arg 1; whnf
 . first | exact zt _ _
 . first | exact h1 | exact h2
 . exact fun _ => rfl
 . exact fun _ => rfl
|apply zAL ((V.sl 150 [])) rfl rfl
 . conv => lhs; whnf; arg 2; whnf
 . repeat' (first | exact VLe.refl _ | exact VLe.nil _ | exact VLe.lit _ _ | exact VLe.own _ _ _ | apply VLe.agg | apply VLeL.cons | exact VLeL.nil)
|apply zJ
 . conv => lhs; whnf
 . assumption
|refine zA ?_
|refine zB ?_
|refine zG ?_
|apply aw_1
 conv => whnf
 refine ⟨?_,trivial⟩
|apply s_1
 conv => whnf; arg 1; arg 4; arg 3; whnf
 refine ⟨?_,?_⟩
|refine zU ?_
|refine za ?_
|refine zAQ ?_
|refine zq ⟨?_,?_⟩
|refine ⟨_,by conv => lhs; whnf; arg 2; whnf,?_⟩; conv => rhs; whnf
|exact trivial)
     all_goals first
      | exact ⟨rfl,trivial⟩
      | rfl
      | skip
   . have f1 : decide ((acc.length : Int) >= 16) = false:=decide_eq_false (by omega)
     rw [dz_go gs hlim] at hR
     have hup:=zAY hE hy gs
     have k1:=z8 l (upZ y) hup.mv.hi hl
     have m1:=(zm hE hup.mv.hi).mv
     have k2:=zCr l hE hl hS (nameZ l (upZ y)).2 m1.hi
     have hpg:=zHH hE hy gs
     have hhi:=hpg.mv.hi
     have hpu:=hpg.up
     have eo : zEd l y = (dirD (nameZ l (upZ y)).1 (zv l (nameZ l (upZ y)).2).1,(zv l (nameZ l (upZ y)).2).2):=rfl
     rw [eo] at hR hhi hpu
     repeat' (first
|apply s_m (zf l) (zH l) rfl
 . conv => lhs; whnf
 . conv => lhs; whnf
 . rfl
 . conv => lhs; whnf; arg 1; whnf
 . first | exact zt _ _ | exact zCO _ _
 . first | exact h1 | exact k1 | exact k2
 . exact fun _ => rfl
 . exact fun _ => rfl
|apply zBP [dirD (nameZ l (upZ y)).1 (zv l (nameZ l (upZ y)).2).1] rfl rfl
 . conv => lhs; whnf
 . first | exact zGV | (conv => lhs; whnf; arg 1; whnf)
 . rfl
 . rfl
 . repeat' (first | exact trivial | apply And.intro | rfl)
|apply zE
 . conv => lhs; whnf
 . assumption
|refine zA ?_
|refine zB ?_
|refine zG ?_
|refine zb ?_
|apply aw_1
 conv => whnf
 refine ⟨?_,trivial⟩
|apply s_1
 conv => whnf; arg 1; arg 4; arg 3; whnf
 refine ⟨?_,?_⟩
|apply zI rfl rfl rfl
 . conv => lhs; whnf
 . conv => lhs; whnf; arg 1; whnf
 . conv => lhs; whnf; arg 1; whnf
 . exact ⟨by kernel_rfl,by kernel_rfl⟩
 . rfl
|apply zBQ rfl rfl
 . conv => lhs; whnf
 . first | exact zGV | (conv => lhs; whnf; arg 1; whnf)
 . first | exact fun _ => rfl | (intro _; kernel_rfl)
 . conv => lhs; whnf
 . conv => lhs; whnf; arg 1; whnf
 . conv => lhs; whnf
|exact trivial)
     all_goals first
      | exact zS (by omega)
      | (refine ⟨by simp,?_,?_⟩ <;> simp only [List.length_cons,List.length_nil,maxLen] <;> omega)
      | skip
     refine zL (Nat.lt_succ_self j) ⟨_,_,hR,hhi,by have:=hj g0; omega,fun h => by have:=hpu h; have:=hj g0; omega,by rw [List.length_append]; simp only [List.length_cons,List.length_nil]; omega,Sub.live ⟨rfl,rfl,trivial⟩ ⟨rfl,?_,trivial⟩⟩
     rw [List.length_append]; rfl
end
noncomputable def SV (d : D) : V:=.agg (cellsV Tryz.prog 12 76 d)
theorem zIO (k : Int) (al n on : List UInt8) (aa ds ss : List D) : SV (selD k al n on aa ds ss) = .agg [.c (.int .i64 k),.c (.string (bs al)),.c (.string (bs n)),.c (.string (bs on)),.sl 86 aa,.sl 150 ds,.sl 76 ss]:=rfl
theorem zHl {a b c d : V} {x y z : List D} {p q r : V} (hp : VLe p (.sl 86 x)) (hq : VLe q (.sl 150 y)) (hr : VLe r (.sl 76 z)) : VLe (.agg [a,b,c,d,p,q,r]) (.agg [a,b,c,d,.sl 86 x,.sl 150 y,.sl 76 z]):=
 .agg (.cons (.refl _) (.cons (.refl _) (.cons (.refl _) (.cons (.refl _) (.cons hp (.cons hq (.cons hr .nil)))))))
section
variable (l : List Tok) (hE : Ed l) (hl : l.length <= 100000) (hS : ∀ i,i < l.length -> (l.getD i ⟨5,[],0⟩).s.length <= 100000) (sels : RS -> List D × RS) (lv : Nat) (hlv : lv <= 1000) (hm : ∀ y,y.at' < l.length -> Mw l y (sels y).2)
 (hc : ∀ y,y.at' < l.length -> ACB EN5 Tryz.prog 150 [.bx (pn 0) 0,.c (.int .i64 ((lv : Int) + 1))] [boxF l y] (.sl 76 (sels y).1) [boxF l (sels y).2])
include hE hl hS hlv hm hc
theorem selA_acb (x : RS) (hx : x.at' < l.length) (hs : sgZ l dotT x = true) (hn : nmZ l (upZ x) = true) (hw : wdZ l onT (upZ x) = false) : ACB EN5 Tryz.prog 226 [.bx (pn 0) 0,.c (.int .i64 (lv : Int))] [boxF l x] (SV (selZ l sels x).1) [boxF l (selZ l sels x).2]:=by
 have h1:=zr l x hx dotT
 rw [hs] at h1
 have hup:=(zAY hE hx hs).mv
 have hup1:=hup.hi
 have h2:=zAq l (upZ x) hup1
 have h3:=zCu l (upZ x) hup1 onT
 rw [hn] at h2
 rw [hw] at h3
 have k1:=z8 l (upZ x) hup1 hl
 have m1:=(zm hE hup1).mv
 have k2:=zBp l hE hl hS (nameZ l (upZ x)).2 m1.hi
 have e : selZ l sels x = (selD 2 [] (nameZ l (upZ x)).1 [] [] (zw l (nameZ l (upZ x)).2).1 [],(zw l (nameZ l (upZ x)).2).2):=by
  unfold selZ; rw [if_pos hs,if_pos (by rw [hn,hw]; rfl)]; rfl
 have h : ACB EN5 Tryz.prog 226 [.bx (pn 0) 0,.c (.int .i64 (lv : Int))] [boxF l x] (.agg [.c (.int .i64 2),.c (.string (bs [])),.c (.string (bs (nameZ l (upZ x)).1)),.c (.string (bs [])),.c (.slice none 0 0),.sl 150 (zw l (nameZ l (upZ x)).2).1,.c (.slice none 0 0)]) [boxF l (zw l (nameZ l (upZ x)).2).2]:=by
  refine zZ (fn:=Tryz.f226) 85 Tryz.func226 rfl rfl ?_
  intro pas w0 w he hp
  repeat' (first
|apply s_m (zf l) (zH l) rfl
 . conv => lhs; whnf
 . conv => lhs; whnf
 . rfl
 . conv => lhs; whnf; arg 1; whnf
 . first | exact zt _ _ | exact zCO _ _
 . first | exact h1 | exact h2 | exact h3 | exact k1 | exact k2
 . exact fun _ => rfl
 . exact fun _ => rfl
|apply zj (zf l) (zH l) rfl
 . conv => lhs; whnf
 . conv => lhs; whnf
 . first | rfl | assumption
 . conv => lhs; whnf
 . rfl
 . conv => lhs; whnf; arg 1; whnf
 . first | exact zt _ _ | exact zCO _ _
 . first | exact h1 | exact h2 | exact h3 | exact k1 | exact k2
 . exact fun _ => rfl
 . exact fun _ => rfl
|refine zA ?_
|refine zB ?_
|refine zG ?_
|apply aw_1
 conv => whnf
 refine ⟨?_,trivial⟩
|apply s_1
 conv => whnf; arg 1; arg 4; arg 3; whnf
 refine ⟨?_,?_⟩
|apply zI rfl rfl rfl
 . conv => lhs; whnf
 . conv => lhs; whnf; arg 1; whnf
 . conv => lhs; whnf; arg 1; whnf
 . exact ⟨by kernel_rfl,by kernel_rfl⟩
 . rfl
|refine zU ?_
|refine zq ⟨?_,?_⟩
|refine ⟨_,by conv => lhs; whnf; arg 2; whnf,?_⟩; conv => rhs; whnf
|exact trivial)
  all_goals first
   | exact zS (by omega)
   | exact ⟨rfl,trivial⟩
   | rfl
   | skip
 rw [e]
 dsimp only
 rw [zIO]
 exact h.res (zHl (.nil _) (.refl _) (.nil _))
theorem selB_acb (x : RS) (hx : x.at' < l.length) (hs : sgZ l dotT x = true) (hw : wdZ l onT (upZ x) = true) : ACB EN5 Tryz.prog 226 [.bx (pn 0) 0,.c (.int .i64 (lv : Int))] [boxF l x] (SV (selZ l sels x).1) [boxF l (selZ l sels x).2]:=by
 have h1:=zr l x hx dotT
 rw [hs] at h1
 have hup:=(zAY hE hx hs).mv
 have hup1:=hup.hi
 have h2:=zAq l (upZ x) hup1
 have h3:=zCu l (upZ x) hup1 onT
 have hn : nmZ l (upZ x) = true:=by unfold wdZ at hw; simp only [Bool.and_eq_true] at hw; exact hw.1
 have hup2:=(zDE hE hup1 hw).mv.hi
 rw [hn] at h2
 rw [hw] at h3
 have k1:=z8 l (upZ (upZ x)) hup2 hl
 have m1:=(zm hE hup2).mv
 have k2:=zBp l hE hl hS (nameZ l (upZ (upZ x))).2 m1.hi
 have m2:=zBK hE m1.hi
 have k3:=hc (zw l (nameZ l (upZ (upZ x))).2).2 m2.hi
 have e : selZ l sels x = (selD 3 [] [] (nameZ l (upZ (upZ x))).1 [] (zw l (nameZ l (upZ (upZ x))).2).1 (sels (zw l (nameZ l (upZ (upZ x))).2).2).1,(sels (zw l (nameZ l (upZ (upZ x))).2).2).2):=by
  unfold selZ; rw [if_pos hs,if_neg (by rw [hn,hw]; decide)]; unfold zEj; rw [if_pos hw]
 have h : ACB EN5 Tryz.prog 226 [.bx (pn 0) 0,.c (.int .i64 (lv : Int))] [boxF l x] (.agg [.c (.int .i64 3),.c (.string (bs [])),.c (.string (bs [])),.c (.string (bs (nameZ l (upZ (upZ x))).1)),.c (.slice none 0 0),.sl 150 (zw l (nameZ l (upZ (upZ x))).2).1,.sl 76 (sels (zw l (nameZ l (upZ (upZ x))).2).2).1]) [boxF l (sels (zw l (nameZ l (upZ (upZ x))).2).2).2]:=by
  refine zZ (fn:=Tryz.f226) 85 Tryz.func226 rfl rfl ?_
  intro pas w0 w he hp
  repeat' (first
|apply s_m (zf l) (zH l) rfl
 . conv => lhs; whnf
 . conv => lhs; whnf
 . rfl
 . conv => lhs; whnf; arg 1; whnf
 . first | exact zt _ _ | exact zCO _ _
 . first | exact h1 | exact h2 | exact h3 | exact k1 | exact k2 | exact k3
 . exact fun _ => rfl
 . exact fun _ => rfl
|apply zj (zf l) (zH l) rfl
 . conv => lhs; whnf
 . conv => lhs; whnf
 . first | rfl | assumption
 . conv => lhs; whnf
 . rfl
 . conv => lhs; whnf; arg 1; whnf
 . first | exact zt _ _ | exact zCO _ _
 . first | exact h1 | exact h2 | exact h3 | exact k1 | exact k2 | exact k3
 . exact fun _ => rfl
 . exact fun _ => rfl
|refine zA ?_
|refine zB ?_
|refine zG ?_
|apply aw_1
 conv => whnf
 refine ⟨?_,trivial⟩
|apply s_1
 conv => whnf; arg 1; arg 4; arg 3; whnf
 refine ⟨?_,?_⟩
|apply zI rfl rfl rfl
 . conv => lhs; whnf
 . conv => lhs; whnf; arg 1; whnf
 . conv => lhs; whnf; arg 1; whnf
 . exact ⟨by kernel_rfl,by kernel_rfl⟩
 . rfl
|refine zU ?_
|refine zq ⟨?_,?_⟩
|refine ⟨_,by conv => lhs; whnf; arg 2; whnf,?_⟩; conv => rhs; whnf
|exact trivial)
  all_goals first
   | exact zS (by omega)
   | exact ⟨rfl,trivial⟩
   | rfl
   | skip
 rw [e]
 dsimp only
 rw [zIO]
 exact h.res (zHl (.nil _) (.refl _) (.refl _))
theorem selC_acb (x : RS) (hx : x.at' < l.length) (hs : sgZ l dotT x = true) (hn : nmZ l (upZ x) = false) : ACB EN5 Tryz.prog 226 [.bx (pn 0) 0,.c (.int .i64 (lv : Int))] [boxF l x] (SV (selZ l sels x).1) [boxF l (selZ l sels x).2]:=by
 have h1:=zr l x hx dotT
 rw [hs] at h1
 have hup:=(zAY hE hx hs).mv
 have hup1:=hup.hi
 have h2:=zAq l (upZ x) hup1
 have h3:=zCu l (upZ x) hup1 onT
 have hw : wdZ l onT (upZ x) = false:=by unfold wdZ; rw [hn]; rfl
 rw [hn] at h2
 rw [hw] at h3
 have k2:=zBp l hE hl hS (upZ x) hup1
 have m2:=zBK hE hup1
 have k3:=hc (zw l (upZ x)).2 m2.hi
 have e : selZ l sels x = (selD 3 [] [] [] [] (zw l (upZ x)).1 (sels (zw l (upZ x)).2).1,(sels (zw l (upZ x)).2).2):=by
  unfold selZ; rw [if_pos hs,if_neg (by rw [hn,Bool.false_and]; decide)]; unfold zEj; rw [if_neg (by rw [hw]; decide)]
 have h : ACB EN5 Tryz.prog 226 [.bx (pn 0) 0,.c (.int .i64 (lv : Int))] [boxF l x] (.agg [.c (.int .i64 3),.c (.string (bs [])),.c (.string (bs [])),.c (.string (bs [])),.c (.slice none 0 0),.sl 150 (zw l (upZ x)).1,.sl 76 (sels (zw l (upZ x)).2).1]) [boxF l (sels (zw l (upZ x)).2).2]:=by
  refine zZ (fn:=Tryz.f226) 85 Tryz.func226 rfl rfl ?_
  intro pas w0 w he hp
  repeat' (first
|apply s_m (zf l) (zH l) rfl
 . conv => lhs; whnf
 . conv => lhs; whnf
 . rfl
 . conv => lhs; whnf; arg 1; whnf
 . first | exact zt _ _ | exact zCO _ _
 . first | exact h1 | exact h2 | exact h3 | exact k2 | exact k3
 . exact fun _ => rfl
 . exact fun _ => rfl
|apply zd rfl
 . conv => lhs; whnf
 . conv => lhs; whnf
 . first | rfl | assumption
|refine zA ?_
|refine zB ?_
|refine zG ?_
|apply aw_1
 conv => whnf
 refine ⟨?_,trivial⟩
|apply s_1
 conv => whnf; arg 1; arg 4; arg 3; whnf
 refine ⟨?_,?_⟩
|apply zI rfl rfl rfl
 . conv => lhs; whnf
 . conv => lhs; whnf; arg 1; whnf
 . conv => lhs; whnf; arg 1; whnf
 . exact ⟨by kernel_rfl,by kernel_rfl⟩
 . rfl
|refine zU ?_
|refine zq ⟨?_,?_⟩
|refine ⟨_,by conv => lhs; whnf; arg 2; whnf,?_⟩; conv => rhs; whnf
|exact trivial)
  all_goals first
   | exact zS (by omega)
   | exact ⟨rfl,trivial⟩
   | rfl
   | skip
 rw [e]
 dsimp only
 rw [zIO]
 exact h.res (zHl (.nil _) (.refl _) (.refl _))
theorem selF11_acb (x : RS) (hx : x.at' < l.length) (hs : sgZ l dotT x = false) (ha : sgZ l [58] (nameZ l x).2 = true) (hb : sgZ l [123] (zw l (zv l (nameZ l (upZ (nameZ l x).2)).2).2).2 = true) : ACB EN5 Tryz.prog 226 [.bx (pn 0) 0,.c (.int .i64 (lv : Int))] [boxF l x] (SV (selZ l sels x).1) [boxF l (selZ l sels x).2]:=by
 have h1:=zr l x hx dotT
 rw [hs] at h1
 have k0:=z8 l x hx hl
 have m0:=(zm hE hx).mv
 have h2:=zr l (nameZ l x).2 m0.hi [58]
 rw [ha] at h2
 have hup:=(zAY hE m0.hi ha).mv
 have hm0:=m0.hi
 have k1:=z8 l (upZ (nameZ l x).2) hup.hi hl
 have m1:=(zm hE hup.hi).mv
 have k2:=zCr l hE hl hS (nameZ l (upZ (nameZ l x).2)).2 m1.hi
 have m2:=zCq hE m1.hi
 have k3:=zBp l hE hl hS (zv l (nameZ l (upZ (nameZ l x).2)).2).2 m2.hi
 have m3:=zBK hE m2.hi
 have h4:=zr l (zw l (zv l (nameZ l (upZ (nameZ l x).2)).2).2).2 m3.hi [123]
 rw [hb] at h4
 have k4:=hc (zw l (zv l (nameZ l (upZ (nameZ l x).2)).2).2).2 m3.hi
 have e : selZ l sels x = (selD 1 (nameZ l x).1 (nameZ l (upZ (nameZ l x).2)).1 [] (zv l (nameZ l (upZ (nameZ l x).2)).2).1 (zw l (zv l (nameZ l (upZ (nameZ l x).2)).2).2).1 (sels (zw l (zv l (nameZ l (upZ (nameZ l x).2)).2).2).2).1,(sels (zw l (zv l (nameZ l (upZ (nameZ l x).2)).2).2).2).2):=by
  unfold selZ zEq
  rw [if_neg (by rw [hs]; decide)]
  have ea : zAe l (nameZ l x) = (((nameZ l x).1,(nameZ l (upZ (nameZ l x).2)).1),(nameZ l (upZ (nameZ l x).2)).2):=by unfold zAe; rw [if_pos ha]
  rw [ea]
  dsimp only
  rw [if_pos hb]
 have h : ACB EN5 Tryz.prog 226 [.bx (pn 0) 0,.c (.int .i64 (lv : Int))] [boxF l x] (.agg [.c (.int .i64 1),.c (.string (bs (nameZ l x).1)),.c (.string (bs (nameZ l (upZ (nameZ l x).2)).1)),.c (.string (bs [])),.sl 86 (zv l (nameZ l (upZ (nameZ l x).2)).2).1,.sl 150 (zw l (zv l (nameZ l (upZ (nameZ l x).2)).2).2).1,.sl 76 (sels (zw l (zv l (nameZ l (upZ (nameZ l x).2)).2).2).2).1]) [boxF l (sels (zw l (zv l (nameZ l (upZ (nameZ l x).2)).2).2).2).2]:=by
  refine zZ (fn:=Tryz.f226) 85 Tryz.func226 rfl rfl ?_
  intro pas w0 w he hp
  repeat' (first
|apply s_m (zf l) (zH l) rfl
 . conv => lhs; whnf
 . conv => lhs; whnf
 . rfl
 . conv => lhs; whnf; arg 1; whnf
 . first | exact zt _ _ | exact zCO _ _
 . first | exact h1 | exact k0 | exact h2 | exact k2 | exact k3 | exact h4 | exact k1 | exact k4
 . exact fun _ => rfl
 . exact fun _ => rfl
|refine zA ?_
|refine zB ?_
|refine zG ?_
|apply aw_1
 conv => whnf
 refine ⟨?_,trivial⟩
|apply s_1
 conv => whnf; arg 1; arg 4; arg 3; whnf
 refine ⟨?_,?_⟩
|apply zI rfl rfl rfl
 . conv => lhs; whnf
 . conv => lhs; whnf; arg 1; whnf
 . conv => lhs; whnf; arg 1; whnf
 . exact ⟨by kernel_rfl,by kernel_rfl⟩
 . rfl
|refine zq ⟨?_,?_⟩
|refine ⟨_,by conv => lhs; whnf; arg 2; whnf,?_⟩; conv => rhs; whnf
|exact trivial)
  all_goals first
   | exact zS (by omega)
   | exact ⟨rfl,trivial⟩
   | rfl
   | skip
 rw [e]
 dsimp only
 rw [zIO]
 exact h.res (zHl (.refl _) (.refl _) (.refl _))
theorem selF10_acb (x : RS) (hx : x.at' < l.length) (hs : sgZ l dotT x = false) (ha : sgZ l [58] (nameZ l x).2 = true) (hb : sgZ l [123] (zw l (zv l (nameZ l (upZ (nameZ l x).2)).2).2).2 = false) : ACB EN5 Tryz.prog 226 [.bx (pn 0) 0,.c (.int .i64 (lv : Int))] [boxF l x] (SV (selZ l sels x).1) [boxF l (selZ l sels x).2]:=by
 have h1:=zr l x hx dotT
 rw [hs] at h1
 have k0:=z8 l x hx hl
 have m0:=(zm hE hx).mv
 have h2:=zr l (nameZ l x).2 m0.hi [58]
 rw [ha] at h2
 have hup:=(zAY hE m0.hi ha).mv
 have hm0:=m0.hi
 have k1:=z8 l (upZ (nameZ l x).2) hup.hi hl
 have m1:=(zm hE hup.hi).mv
 have k2:=zCr l hE hl hS (nameZ l (upZ (nameZ l x).2)).2 m1.hi
 have m2:=zCq hE m1.hi
 have k3:=zBp l hE hl hS (zv l (nameZ l (upZ (nameZ l x).2)).2).2 m2.hi
 have m3:=zBK hE m2.hi
 have h4:=zr l (zw l (zv l (nameZ l (upZ (nameZ l x).2)).2).2).2 m3.hi [123]
 rw [hb] at h4
 have e : selZ l sels x = (selD 1 (nameZ l x).1 (nameZ l (upZ (nameZ l x).2)).1 [] (zv l (nameZ l (upZ (nameZ l x).2)).2).1 (zw l (zv l (nameZ l (upZ (nameZ l x).2)).2).2).1 [],(zw l (zv l (nameZ l (upZ (nameZ l x).2)).2).2).2):=by
  unfold selZ zEq
  rw [if_neg (by rw [hs]; decide)]
  have ea : zAe l (nameZ l x) = (((nameZ l x).1,(nameZ l (upZ (nameZ l x).2)).1),(nameZ l (upZ (nameZ l x).2)).2):=by unfold zAe; rw [if_pos ha]
  rw [ea]
  dsimp only
  rw [if_neg (by rw [hb]; decide)]
 have h : ACB EN5 Tryz.prog 226 [.bx (pn 0) 0,.c (.int .i64 (lv : Int))] [boxF l x] (.agg [.c (.int .i64 1),.c (.string (bs (nameZ l x).1)),.c (.string (bs (nameZ l (upZ (nameZ l x).2)).1)),.c (.string (bs [])),.sl 86 (zv l (nameZ l (upZ (nameZ l x).2)).2).1,.sl 150 (zw l (zv l (nameZ l (upZ (nameZ l x).2)).2).2).1,.c (.slice none 0 0)]) [boxF l (zw l (zv l (nameZ l (upZ (nameZ l x).2)).2).2).2]:=by
  refine zZ (fn:=Tryz.f226) 85 Tryz.func226 rfl rfl ?_
  intro pas w0 w he hp
  repeat' (first
|apply s_m (zf l) (zH l) rfl
 . conv => lhs; whnf
 . conv => lhs; whnf
 . rfl
 . conv => lhs; whnf; arg 1; whnf
 . first | exact zt _ _ | exact zCO _ _
 . first | exact h1 | exact k0 | exact h2 | exact k2 | exact k3 | exact h4 | exact k1
 . exact fun _ => rfl
 . exact fun _ => rfl
|refine zA ?_
|refine zB ?_
|refine zG ?_
|apply aw_1
 conv => whnf
 refine ⟨?_,trivial⟩
|apply s_1
 conv => whnf; arg 1; arg 4; arg 3; whnf
 refine ⟨?_,?_⟩
|apply zI rfl rfl rfl
 . conv => lhs; whnf
 . conv => lhs; whnf; arg 1; whnf
 . conv => lhs; whnf; arg 1; whnf
 . exact ⟨by kernel_rfl,by kernel_rfl⟩
 . rfl
|refine zq ⟨?_,?_⟩
|refine ⟨_,by conv => lhs; whnf; arg 2; whnf,?_⟩; conv => rhs; whnf
|exact trivial)
  all_goals first
   | exact zS (by omega)
   | exact ⟨rfl,trivial⟩
   | rfl
   | skip
 rw [e]
 dsimp only
 rw [zIO]
 exact h.res (zHl (.refl _) (.refl _) (.nil _))
theorem selF01_acb (x : RS) (hx : x.at' < l.length) (hs : sgZ l dotT x = false) (ha : sgZ l [58] (nameZ l x).2 = false) (hb : sgZ l [123] (zw l (zv l (nameZ l x).2).2).2 = true) : ACB EN5 Tryz.prog 226 [.bx (pn 0) 0,.c (.int .i64 (lv : Int))] [boxF l x] (SV (selZ l sels x).1) [boxF l (selZ l sels x).2]:=by
 have h1:=zr l x hx dotT
 rw [hs] at h1
 have k0:=z8 l x hx hl
 have m0:=(zm hE hx).mv
 have h2:=zr l (nameZ l x).2 m0.hi [58]
 rw [ha] at h2
 have m1:=m0
 have k2:=zCr l hE hl hS (nameZ l x).2 m1.hi
 have m2:=zCq hE m1.hi
 have k3:=zBp l hE hl hS (zv l (nameZ l x).2).2 m2.hi
 have m3:=zBK hE m2.hi
 have h4:=zr l (zw l (zv l (nameZ l x).2).2).2 m3.hi [123]
 rw [hb] at h4
 have k4:=hc (zw l (zv l (nameZ l x).2).2).2 m3.hi
 have e : selZ l sels x = (selD 1 [] (nameZ l x).1 [] (zv l (nameZ l x).2).1 (zw l (zv l (nameZ l x).2).2).1 (sels (zw l (zv l (nameZ l x).2).2).2).1,(sels (zw l (zv l (nameZ l x).2).2).2).2):=by
  unfold selZ zEq
  rw [if_neg (by rw [hs]; decide)]
  have ea : zAe l (nameZ l x) = (([],(nameZ l x).1),(nameZ l x).2):=by unfold zAe; rw [if_neg (by rw [ha]; decide)]
  rw [ea]
  dsimp only
  rw [if_pos hb]
 have h : ACB EN5 Tryz.prog 226 [.bx (pn 0) 0,.c (.int .i64 (lv : Int))] [boxF l x] (.agg [.c (.int .i64 1),.c (.string (bs [])),.c (.string (bs (nameZ l x).1)),.c (.string (bs [])),.sl 86 (zv l (nameZ l x).2).1,.sl 150 (zw l (zv l (nameZ l x).2).2).1,.sl 76 (sels (zw l (zv l (nameZ l x).2).2).2).1]) [boxF l (sels (zw l (zv l (nameZ l x).2).2).2).2]:=by
  refine zZ (fn:=Tryz.f226) 85 Tryz.func226 rfl rfl ?_
  intro pas w0 w he hp
  repeat' (first
|apply s_m (zf l) (zH l) rfl
 . conv => lhs; whnf
 . conv => lhs; whnf
 . rfl
 . conv => lhs; whnf; arg 1; whnf
 . first | exact zt _ _ | exact zCO _ _
 . first | exact h1 | exact k0 | exact h2 | exact k2 | exact k3 | exact h4 | exact k4
 . exact fun _ => rfl
 . exact fun _ => rfl
|refine zA ?_
|refine zB ?_
|refine zG ?_
|apply aw_1
 conv => whnf
 refine ⟨?_,trivial⟩
|apply s_1
 conv => whnf; arg 1; arg 4; arg 3; whnf
 refine ⟨?_,?_⟩
|apply zI rfl rfl rfl
 . conv => lhs; whnf
 . conv => lhs; whnf; arg 1; whnf
 . conv => lhs; whnf; arg 1; whnf
 . exact ⟨by kernel_rfl,by kernel_rfl⟩
 . rfl
|refine zq ⟨?_,?_⟩
|refine ⟨_,by conv => lhs; whnf; arg 2; whnf,?_⟩; conv => rhs; whnf
|exact trivial)
  all_goals first
   | exact zS (by omega)
   | exact ⟨rfl,trivial⟩
   | rfl
   | skip
 rw [e]
 dsimp only
 rw [zIO]
 exact h.res (zHl (.refl _) (.refl _) (.refl _))
theorem selF00_acb (x : RS) (hx : x.at' < l.length) (hs : sgZ l dotT x = false) (ha : sgZ l [58] (nameZ l x).2 = false) (hb : sgZ l [123] (zw l (zv l (nameZ l x).2).2).2 = false) : ACB EN5 Tryz.prog 226 [.bx (pn 0) 0,.c (.int .i64 (lv : Int))] [boxF l x] (SV (selZ l sels x).1) [boxF l (selZ l sels x).2]:=by
 have h1:=zr l x hx dotT
 rw [hs] at h1
 have k0:=z8 l x hx hl
 have m0:=(zm hE hx).mv
 have h2:=zr l (nameZ l x).2 m0.hi [58]
 rw [ha] at h2
 have m1:=m0
 have k2:=zCr l hE hl hS (nameZ l x).2 m1.hi
 have m2:=zCq hE m1.hi
 have k3:=zBp l hE hl hS (zv l (nameZ l x).2).2 m2.hi
 have m3:=zBK hE m2.hi
 have h4:=zr l (zw l (zv l (nameZ l x).2).2).2 m3.hi [123]
 rw [hb] at h4
 have e : selZ l sels x = (selD 1 [] (nameZ l x).1 [] (zv l (nameZ l x).2).1 (zw l (zv l (nameZ l x).2).2).1 [],(zw l (zv l (nameZ l x).2).2).2):=by
  unfold selZ zEq
  rw [if_neg (by rw [hs]; decide)]
  have ea : zAe l (nameZ l x) = (([],(nameZ l x).1),(nameZ l x).2):=by unfold zAe; rw [if_neg (by rw [ha]; decide)]
  rw [ea]
  dsimp only
  rw [if_neg (by rw [hb]; decide)]
 have h : ACB EN5 Tryz.prog 226 [.bx (pn 0) 0,.c (.int .i64 (lv : Int))] [boxF l x] (.agg [.c (.int .i64 1),.c (.string (bs [])),.c (.string (bs (nameZ l x).1)),.c (.string (bs [])),.sl 86 (zv l (nameZ l x).2).1,.sl 150 (zw l (zv l (nameZ l x).2).2).1,.c (.slice none 0 0)]) [boxF l (zw l (zv l (nameZ l x).2).2).2]:=by
  refine zZ (fn:=Tryz.f226) 85 Tryz.func226 rfl rfl ?_
  intro pas w0 w he hp
  repeat' (first
|apply s_m (zf l) (zH l) rfl
 . conv => lhs; whnf
 . conv => lhs; whnf
 . rfl
 . conv => lhs; whnf; arg 1; whnf
 . first | exact zt _ _ | exact zCO _ _
 . first | exact h1 | exact k0 | exact h2 | exact k2 | exact k3 | exact h4
 . exact fun _ => rfl
 . exact fun _ => rfl
|refine zA ?_
|refine zB ?_
|refine zG ?_
|apply aw_1
 conv => whnf
 refine ⟨?_,trivial⟩
|apply s_1
 conv => whnf; arg 1; arg 4; arg 3; whnf
 refine ⟨?_,?_⟩
|apply zI rfl rfl rfl
 . conv => lhs; whnf
 . conv => lhs; whnf; arg 1; whnf
 . conv => lhs; whnf; arg 1; whnf
 . exact ⟨by kernel_rfl,by kernel_rfl⟩
 . rfl
|refine zq ⟨?_,?_⟩
|refine ⟨_,by conv => lhs; whnf; arg 2; whnf,?_⟩; conv => rhs; whnf
|exact trivial)
  all_goals first
   | exact zS (by omega)
   | exact ⟨rfl,trivial⟩
   | rfl
   | skip
 rw [e]
 dsimp only
 rw [zIO]
 exact h.res (zHl (.refl _) (.refl _) (.nil _))
theorem selF_acb (x : RS) (hx : x.at' < l.length) : ACB EN5 Tryz.prog 226 [.bx (pn 0) 0,.c (.int .i64 (lv : Int))] [boxF l x] (SV (selZ l sels x).1) [boxF l (selZ l sels x).2]:=by
 cases hs : sgZ l dotT x with
 | true =>
   cases hn : nmZ l (upZ x) with
   | false => exact selC_acb l hE hl hS sels lv hlv hm hc x hx hs hn
   | true =>
     cases hw : wdZ l onT (upZ x) with
     | true => exact selB_acb l hE hl hS sels lv hlv hm hc x hx hs hw
     | false => exact selA_acb l hE hl hS sels lv hlv hm hc x hx hs hn hw
 | false =>
   cases ha : sgZ l [58] (nameZ l x).2 with
   | true =>
     cases hb : sgZ l [123] (zw l (zv l (nameZ l (upZ (nameZ l x).2)).2).2).2 with
     | true => exact selF11_acb l hE hl hS sels lv hlv hm hc x hx hs ha hb
     | false => exact selF10_acb l hE hl hS sels lv hlv hm hc x hx hs ha hb
   | false =>
     cases hb : sgZ l [123] (zw l (zv l (nameZ l x).2).2).2 with
     | true => exact selF01_acb l hE hl hS sels lv hlv hm hc x hx hs ha hb
     | false => exact selF00_acb l hE hl hS sels lv hlv hm hc x hx hs ha hb
end
noncomputable def HsF (l : List Tok) (lv : Nat) (y : RS) (acc : List D) : Vst 55:=
 stS 55 [(0,.bx (pn 0) 0),(1,.c (.int .i64 (lv : Int))),(5,.own 5 76 acc)] [(pn 0,boxF l y),(5,.tok 76 acc.length)]
section
variable (l : List Tok) (hE : Ed l) (hl : l.length <= 100000) (hS : ∀ i,i < l.length -> (l.getD i ⟨5,[],0⟩).s.length <= 100000)
include hE hl hS
theorem setF_acb (sel : RS -> D × RS) (lv : Nat) (hlv : lv <= 1000) (hm : ∀ y,y.at' < l.length -> Pg l y (sel y).2)
 (hc : lv <= 24 -> ∀ y,y.at' < l.length -> ACB EN5 Tryz.prog 226 [.bx (pn 0) 0,.c (.int .i64 (lv : Int))] [boxF l y] (SV (sel y).1) [boxF l (sel y).2])
 (x : RS) (hx : x.at' < l.length) : ACB EN5 Tryz.prog 150 [.bx (pn 0) 0,.c (.int .i64 (lv : Int))] [boxF l x] (.sl 76 (manyZ l (oneSel l sel) [125] (l.length + 1 - (openZ l lv x).at') [] (openZ l lv x)).1) [boxF l (manyZ l (oneSel l sel) [125] (l.length + 1 - (openZ l lv x).at') [] (openZ l lv x)).2]:=by
 have hop:=zHx hE lv hx
 have hlv2 : (openZ l lv x).er = 0 -> lv <= 24:=fun h => by
  rcases Nat.lt_or_ge 24 lv with h1 | h1
  . exfalso
    have key : (if sgZ l [123] x = true /\ 24 < lv then zk l 5 x else x).er = 0 /\ sgZ l [123] (if sgZ l [123] x = true /\ 24 < lv then zk l 5 x else x) = true:=by
     unfold openZ needZ at h
     by_cases hq : sgZ l [123] (if sgZ l [123] x = true /\ 24 < lv then zk l 5 x else x) = true
     . exact ⟨(sg_k hq).2.1,hq⟩
     . rw [if_neg hq] at h
       exact (zGR (by decide) _ h).elim
    by_cases hq : sgZ l [123] x = true
    . rw [if_pos ⟨hq,h1⟩] at key
      exact zGR (by decide) _ key.1
    . rw [if_neg (fun hh => hq hh.1)] at key
      exact hq key.2
  . exact h1
 have h1:=zr l x hx [123]
 have h2:=zAS l x 5 hx
 have hz1 : (if sgZ l [123] x = true /\ 24 < lv then zk l 5 x else x).at' < l.length:=by
  split
  . show (zCC _ _ _ _).at' < _; rw [zCj]; exact hx
  . exact hx
 have h3:=zAU l _ hz1 hl [123]
 have eop : openZ l lv x = needZ l [123] (if sgZ l [123] x = true /\ 24 < lv then zk l 5 x else x):=rfl
 rw [<- eop] at h3
 generalize hR : manyZ l (oneSel l sel) [125] (l.length + 1 - (openZ l lv x).at') [] (openZ l lv x) = R
 have hu0:=hop.mv.hi
 have q1 : sgZ l [123] x = true -> (sgZ l [123] x == true) = true:=fun h => by rw [h]; rfl
 generalize openZ l lv x = x0 at *
 refine zZ (fn:=Tryz.f150) 55 Tryz.func150 rfl rfl ?_
 intro pas w0 w he hp
 repeat' (first
|apply s_m (zf l) (zH l) rfl
 . conv => lhs; whnf
 . conv => lhs; whnf
 . rfl
 . conv => lhs; whnf; arg 1; whnf
 . first | exact zt _ _
 . first | exact h1 | exact h2 | exact h3
 . exact fun _ => rfl
 . exact fun _ => rfl
|apply zd rfl
 . conv => lhs; whnf
 . conv => lhs; whnf
 . first | rfl | assumption
|apply zAw 4 (stS 55 [(0,.bx (pn 0) 0),(1,.c (.int .i64 (lv : Int))),(5,.c (.slice none 0 0))] [(pn 0,boxF l (if sgZ l [123] x = true /\ 24 < lv then zk l 5 x else x))]) rfl
|refine zHN ?_
|refine zA ?_
|refine zB ?_
|refine zG ?_
|apply aw_1
 conv => whnf
 refine ⟨?_,trivial⟩
|apply zY rfl rfl
 . conv => lhs; whnf
 . conv => lhs; whnf
 . first | exact bT1 ‹_› | exact bT2 ‹_›
|apply zV rfl rfl
 . conv => lhs; whnf
 . conv => lhs; whnf
 . first | exact bF1 ‹_› | exact bF2 ‹_›
|apply s_1
 conv => whnf; arg 1; arg 4; arg 3; whnf
 refine ⟨?_,?_⟩
|apply zD rfl
 . conv => lhs; whnf
 . conv => lhs; whnf
 . first | rfl | assumption
 . conv => lhs; whnf; arg 2; whnf
|apply zT rfl
 . conv => lhs; whnf
 . conv => lhs; whnf
 . conv => lhs; whnf; arg 2; whnf
|refine zg (by conv => lhs; whnf) ?_ ?_ <;> intro hb
|exact trivial
|intro hg)
 all_goals try
  first
   | (have q:=of_decide_eq_true (by assumption : decide ((lv : Int) > 24) = true)
      have q2 : sgZ l [123] x = true:=bT1 ‹_›
      exact Sub.live ⟨rfl,rfl,rfl,trivial⟩ ⟨by rw [if_pos ⟨q2,by omega⟩]; rfl,trivial⟩)
   | (have q:=of_decide_eq_false (by assumption : decide ((lv : Int) > 24) = false)
      exact Sub.live ⟨rfl,rfl,rfl,trivial⟩ ⟨by rw [if_neg (fun h => by omega)]; rfl,trivial⟩)
   | (have q2 : sgZ l [123] x = false:=bF1 ‹_›
      exact Sub.live ⟨rfl,rfl,rfl,trivial⟩ ⟨by rw [if_neg (fun h => by rw [q2] at h; cases h.1)]; rfl,trivial⟩)
 clear h1 h2 h3 hop q1 hz1
 refine zn (Sub.live (cs:=[(0,.bx (pn 0) 0),(1,.c (.int .i64 (lv : Int))),(5,.c (.slice none 0 0))]) (R:=[(pn 0,boxF l x0)]) ⟨rfl,rfl,rfl,trivial⟩ ⟨rfl,trivial⟩) ?_
 refine zn (Sub.own (t:=5) (e:=76) rfl rfl) ?_
 refine zu (fun j st => ∃ y acc,manyZ l (oneSel l sel) [125] j acc y = R /\ y.at' < l.length /\ 0 < j /\ (y.er = 0 -> l.length - y.at' < j) /\ acc.length + j <= l.length + 1 /\ (y.er = 0 -> lv <= 24) /\ Sub ⟨Tryz.prog,pas,w0,w,EN5,he,hp,fun _ _ _ => False,[]⟩ st (HsF l lv y acc)) (l.length + 1 - x0.at') ⟨x0,[],hR,hu0,by omega,fun _ => by omega,by simp only [List.length_nil]; omega,hlv2,?_⟩ ?_
 . exact Sub.live ⟨rfl,rfl,rfl,trivial⟩ ⟨rfl,rfl,trivial⟩
 clear hR
 rintro j st ⟨y,acc,hR,hy,hj0,hj,hv,hlv3,hs2⟩
 refine zn hs2 ?_
 clear hs2
 obtain ⟨j,rfl⟩ : ∃ q,j = q + 1:=⟨j - 1,by omega⟩
 have h1:=zr l y hy [125]
 have h2:=zAU l y hy hl [125]
 have h3:=zAq l y hy
 have h4:=zAS l y 4 hy
 have h5:=zr l y hy dotT
 by_cases g0 : y.er = 0
 rotate_left 1
 . have f0 : (y.er == 0) = false:=by simpa using g0
   have g1 : ((y.er == 0) == true) = false:=by rw [f0]; rfl
   rw [zFP (fun h => g0 h.1)] at hR
   subst hR
   repeat' (first
|apply s_m (zf l) (zH l) rfl
 . conv => lhs; whnf
 . conv => lhs; whnf
 . rfl
 . conv => lhs; whnf; arg 1; whnf
 . first | exact zt _ _
 . first | exact h1 | exact h2
 . exact fun _ => rfl
 . exact fun _ => rfl
|apply zd rfl
 . conv => lhs; whnf
 . conv => lhs; whnf
 . first | rfl | assumption
|apply zCT rfl
 . conv => lhs; whnf
 . rfl
 . rfl
|refine zA ?_
|refine zB ?_
|refine zG ?_
|apply aw_1
 conv => whnf
 refine ⟨?_,trivial⟩
|apply zV rfl rfl
 . conv => lhs; whnf
 . conv => lhs; whnf
 . first | exact bF1 ‹_› | exact bF2 ‹_›
|apply s_1
 conv => whnf; arg 1; arg 4; arg 3; whnf
 refine ⟨?_,?_⟩
|refine zP ?_
|refine zM rfl ?_
|refine zW ?_
|refine zq ⟨?_,?_⟩
|refine ⟨_,by conv => lhs; whnf; arg 2; whnf,?_⟩; conv => rhs; whnf
|exact trivial)
   all_goals first
    | exact ⟨rfl,trivial⟩
    | rfl
    | skip
 have f0 : (y.er == 0) = true:=by rw [g0]; rfl
 have g1 : ((y.er == 0) == true) = true:=by rw [f0]; rfl
 by_cases ha : acc.length = 0
 . have q0:=zGC ha
   have q1:=zEC ha
   have eo : oneSel l sel acc.length y = sel y:=by unfold oneSel; rw [if_neg (fun h => by omega)]
   rw [mz_go ⟨g0,.inl ha⟩] at hR
   have gl : (decide ((acc.length : Int) >= 64) == true) = false:=ge_f (m:=64) (by omega)
   have m1 : Mw l y (y):=.refl hy
   have k1:=hc (hlv3 g0) (y) m1.hi
   rw [eo] at hR
   have hpg:=zBS hE (fun y hy => hm y hy) acc.length hy
   rw [eo] at hpg
   have hhi:=hpg.mv.hi
   have hup:=hpg.up
   repeat' (first
|apply s_m (zf l) (zH l) rfl
 . conv => lhs; whnf
 . conv => lhs; whnf
 . rfl
 . conv => lhs; whnf; arg 1; whnf
 . first | exact zt _ _
 . first | exact h1 | exact h3 | exact h5 | exact h4 | exact k1
 . exact fun _ => rfl
 . exact fun _ => rfl
|apply zd rfl
 . conv => lhs; whnf
 . conv => lhs; whnf
 . first | rfl | assumption
|apply zCT rfl
 . conv => lhs; whnf
 . rfl
 . rfl
|apply zBP [(sel (y)).1] rfl rfl
 . conv => lhs; whnf
 . first | exact zBW | (conv => lhs; whnf; arg 1; whnf)
 . rfl
 . rfl
 . repeat' (first | exact trivial | apply And.intro | rfl)
|apply zx rfl rfl rfl
 . conv => lhs; whnf
 . first | rfl | assumption
 . conv => lhs; whnf
 . first | exact bT1 ‹_› | exact bT2 ‹_› | rfl
|refine zA ?_
|refine zB ?_
|refine zG ?_
|refine zb ?_
|apply aw_1
 conv => whnf
 refine ⟨?_,trivial⟩
|apply zY rfl rfl
 . conv => lhs; whnf
 . conv => lhs; whnf
 . first | exact bT1 ‹_› | exact bT2 ‹_›
|apply zV rfl rfl
 . conv => lhs; whnf
 . conv => lhs; whnf
 . first | exact bF1 ‹_› | exact bF2 ‹_›
|apply s_1
 conv => whnf; arg 1; arg 4; arg 3; whnf
 refine ⟨?_,?_⟩
|apply zI rfl rfl rfl
 . conv => lhs; whnf
 . conv => lhs; whnf; arg 1; whnf
 . conv => lhs; whnf; arg 1; whnf
 . exact ⟨by kernel_rfl,by kernel_rfl⟩
 . rfl
|apply zBQ rfl rfl
 . conv => lhs; whnf
 . first | exact zBW | (conv => lhs; whnf; arg 1; whnf)
 . first | exact fun _ => rfl | (intro _; kernel_rfl)
 . conv => lhs; whnf
 . conv => lhs; whnf; arg 1; whnf
 . conv => lhs; whnf
|apply zD rfl
 . conv => lhs; whnf
 . conv => lhs; whnf
 . first | rfl | assumption
 . conv => lhs; whnf; arg 2; whnf
|exact trivial)
   all_goals first
    | exact zS (by omega)
    | (refine ⟨by simp,?_,?_⟩ <;> simp only [List.length_cons,List.length_nil,maxLen] <;> omega)
    | skip
   refine zL (Nat.lt_succ_self j) ⟨_,_,hR,hhi,by have:=hj g0; omega,fun h => by have:=hup h; have:=hj g0; omega,by rw [List.length_append]; simp only [List.length_cons,List.length_nil]; omega,fun _ => hlv3 g0,Sub.live ⟨rfl,rfl,rfl,trivial⟩ ⟨rfl,?_,trivial⟩⟩
   rw [List.length_append]; rfl
 . have q0:=zCf ha
   cases gs : sgZ l [125] y with
   | true =>
     have f2 : (!sgZ l [125] y) = false:=by rw [gs]; rfl
     rw [gs] at f2 h1
     rw [zFP (fun h => by rcases h.2 with h5 | h5; exact ha h5; rw [gs] at h5; cases h5)] at hR
     subst hR
     repeat' (first
|apply s_m (zf l) (zH l) rfl
 . conv => lhs; whnf
 . conv => lhs; whnf
 . rfl
 . conv => lhs; whnf; arg 1; whnf
 . first | exact zt _ _
 . first | exact h1 | exact h2
 . exact fun _ => rfl
 . exact fun _ => rfl
|apply zj (zf l) (zH l) rfl
 . conv => lhs; whnf
 . conv => lhs; whnf
 . first | rfl | assumption
 . conv => lhs; whnf
 . rfl
 . conv => lhs; whnf; arg 1; whnf
 . first | exact zt _ _
 . first | exact h1 | exact h2
 . exact fun _ => rfl
 . exact fun _ => rfl
|apply zo rfl rfl rfl
 . conv => lhs; whnf
 . first | rfl | assumption
 . conv => lhs; whnf
 . first | exact bF1 ‹_› | exact bF2 ‹_› | rfl
|apply zE
 . conv => lhs; whnf
 . assumption
|refine zA ?_
|refine zB ?_
|refine zG ?_
|apply aw_1
 conv => whnf
 refine ⟨?_,trivial⟩
|apply zY rfl rfl
 . conv => lhs; whnf
 . conv => lhs; whnf
 . first | exact bT1 ‹_› | exact bT2 ‹_›
|apply s_1
 conv => whnf; arg 1; arg 4; arg 3; whnf
 refine ⟨?_,?_⟩
|apply zD rfl
 . conv => lhs; whnf
 . conv => lhs; whnf
 . first | rfl | assumption
 . conv => lhs; whnf; arg 2; whnf
|refine zP ?_
|refine zM rfl ?_
|refine zW ?_
|refine zq ⟨?_,?_⟩
|refine ⟨_,by conv => lhs; whnf; arg 2; whnf,?_⟩; conv => rhs; whnf
|exact trivial)
     all_goals first
      | exact ⟨rfl,trivial⟩
      | rfl
      | skip
   | false =>
     rw [gs] at h1
     rw [mz_go ⟨g0,.inr gs⟩] at hR
     by_cases hlim : 64 <= acc.length
     . have gl : (decide ((acc.length : Int) >= 64) == true) = true:=ge_t (m:=64) hlim
       cases hN : nmZ l y with
       | true =>
         rw [hN] at h3
         have eo : oneSel l sel acc.length y = sel (zk l 4 y):=by unfold oneSel; rw [if_pos ⟨hlim,.inl hN⟩]
         have m1 : Mw l y (zk l 4 y):=zBM hy (by decide)
         have k1:=hc (hlv3 g0) (zk l 4 y) m1.hi
         rw [eo] at hR
         have hpg:=zBS hE (fun y hy => hm y hy) acc.length hy
         rw [eo] at hpg
         have hhi:=hpg.mv.hi
         have hup:=hpg.up
         repeat' (first
|apply s_m (zf l) (zH l) rfl
 . conv => lhs; whnf
 . conv => lhs; whnf
 . rfl
 . conv => lhs; whnf; arg 1; whnf
 . first | exact zt _ _
 . first | exact h1 | exact h3 | exact h5 | exact h4 | exact k1
 . exact fun _ => rfl
 . exact fun _ => rfl
|apply zj (zf l) (zH l) rfl
 . conv => lhs; whnf
 . conv => lhs; whnf
 . first | rfl | assumption
 . conv => lhs; whnf
 . rfl
 . conv => lhs; whnf; arg 1; whnf
 . first | exact zt _ _
 . first | exact h1 | exact h3 | exact h5 | exact h4 | exact k1
 . exact fun _ => rfl
 . exact fun _ => rfl
|apply zd rfl
 . conv => lhs; whnf
 . conv => lhs; whnf
 . first | rfl | assumption
|apply zBP [(sel (zk l 4 y)).1] rfl rfl
 . conv => lhs; whnf
 . first | exact zBW | (conv => lhs; whnf; arg 1; whnf)
 . rfl
 . rfl
 . repeat' (first | exact trivial | apply And.intro | rfl)
|apply zx rfl rfl rfl
 . conv => lhs; whnf
 . first | rfl | assumption
 . conv => lhs; whnf
 . first | exact bT1 ‹_› | exact bT2 ‹_› | rfl
|apply zo rfl rfl rfl
 . conv => lhs; whnf
 . first | rfl | assumption
 . conv => lhs; whnf
 . first | exact bF1 ‹_› | exact bF2 ‹_› | rfl
|refine zA ?_
|refine zB ?_
|refine zG ?_
|refine zb ?_
|apply aw_1
 conv => whnf
 refine ⟨?_,trivial⟩
|apply zY rfl rfl
 . conv => lhs; whnf
 . conv => lhs; whnf
 . first | exact bT1 ‹_› | exact bT2 ‹_›
|apply s_1
 conv => whnf; arg 1; arg 4; arg 3; whnf
 refine ⟨?_,?_⟩
|apply zI rfl rfl rfl
 . conv => lhs; whnf
 . conv => lhs; whnf; arg 1; whnf
 . conv => lhs; whnf; arg 1; whnf
 . exact ⟨by kernel_rfl,by kernel_rfl⟩
 . rfl
|apply zBQ rfl rfl
 . conv => lhs; whnf
 . first | exact zBW | (conv => lhs; whnf; arg 1; whnf)
 . first | exact fun _ => rfl | (intro _; kernel_rfl)
 . conv => lhs; whnf
 . conv => lhs; whnf; arg 1; whnf
 . conv => lhs; whnf
|apply zD rfl
 . conv => lhs; whnf
 . conv => lhs; whnf
 . first | rfl | assumption
 . conv => lhs; whnf; arg 2; whnf
|exact trivial)
         all_goals first
          | exact zS (by omega)
          | (refine ⟨by simp,?_,?_⟩ <;> simp only [List.length_cons,List.length_nil,maxLen] <;> omega)
          | skip
         refine zL (Nat.lt_succ_self j) ⟨_,_,hR,hhi,by have:=hj g0; omega,fun h => by have:=hup h; have:=hj g0; omega,by rw [List.length_append]; simp only [List.length_cons,List.length_nil]; omega,fun _ => hlv3 g0,Sub.live ⟨rfl,rfl,rfl,trivial⟩ ⟨rfl,?_,trivial⟩⟩
         rw [List.length_append]; rfl
       | false =>
         rw [hN] at h3
         cases hD : sgZ l dotT y with
         | true =>
           rw [hD] at h5
           have eo : oneSel l sel acc.length y = sel (zk l 4 y):=by unfold oneSel; rw [if_pos ⟨hlim,.inr hD⟩]
           have m1 : Mw l y (zk l 4 y):=zBM hy (by decide)
           have k1:=hc (hlv3 g0) (zk l 4 y) m1.hi
           rw [eo] at hR
           have hpg:=zBS hE (fun y hy => hm y hy) acc.length hy
           rw [eo] at hpg
           have hhi:=hpg.mv.hi
           have hup:=hpg.up
           repeat' (first
|apply s_m (zf l) (zH l) rfl
 . conv => lhs; whnf
 . conv => lhs; whnf
 . rfl
 . conv => lhs; whnf; arg 1; whnf
 . first | exact zt _ _
 . first | exact h1 | exact h3 | exact h5 | exact h4 | exact k1
 . exact fun _ => rfl
 . exact fun _ => rfl
|apply zj (zf l) (zH l) rfl
 . conv => lhs; whnf
 . conv => lhs; whnf
 . first | rfl | assumption
 . conv => lhs; whnf
 . rfl
 . conv => lhs; whnf; arg 1; whnf
 . first | exact zt _ _
 . first | exact h1 | exact h3 | exact h5 | exact h4 | exact k1
 . exact fun _ => rfl
 . exact fun _ => rfl
|apply zBP [(sel (zk l 4 y)).1] rfl rfl
 . conv => lhs; whnf
 . first | exact zBW | (conv => lhs; whnf; arg 1; whnf)
 . rfl
 . rfl
 . repeat' (first | exact trivial | apply And.intro | rfl)
|apply zo rfl rfl rfl
 . conv => lhs; whnf
 . first | rfl | assumption
 . conv => lhs; whnf
 . first | exact bF1 ‹_› | exact bF2 ‹_› | rfl
|refine zA ?_
|refine zB ?_
|refine zG ?_
|refine zb ?_
|apply aw_1
 conv => whnf
 refine ⟨?_,trivial⟩
|apply zY rfl rfl
 . conv => lhs; whnf
 . conv => lhs; whnf
 . first | exact bT1 ‹_› | exact bT2 ‹_›
|apply s_1
 conv => whnf; arg 1; arg 4; arg 3; whnf
 refine ⟨?_,?_⟩
|apply zI rfl rfl rfl
 . conv => lhs; whnf
 . conv => lhs; whnf; arg 1; whnf
 . conv => lhs; whnf; arg 1; whnf
 . exact ⟨by kernel_rfl,by kernel_rfl⟩
 . rfl
|apply zBQ rfl rfl
 . conv => lhs; whnf
 . first | exact zBW | (conv => lhs; whnf; arg 1; whnf)
 . first | exact fun _ => rfl | (intro _; kernel_rfl)
 . conv => lhs; whnf
 . conv => lhs; whnf; arg 1; whnf
 . conv => lhs; whnf
|apply zD rfl
 . conv => lhs; whnf
 . conv => lhs; whnf
 . first | rfl | assumption
 . conv => lhs; whnf; arg 2; whnf
|exact trivial)
           all_goals first
            | exact zS (by omega)
            | (refine ⟨by simp,?_,?_⟩ <;> simp only [List.length_cons,List.length_nil,maxLen] <;> omega)
            | skip
           refine zL (Nat.lt_succ_self j) ⟨_,_,hR,hhi,by have:=hj g0; omega,fun h => by have:=hup h; have:=hj g0; omega,by rw [List.length_append]; simp only [List.length_cons,List.length_nil]; omega,fun _ => hlv3 g0,Sub.live ⟨rfl,rfl,rfl,trivial⟩ ⟨rfl,?_,trivial⟩⟩
           rw [List.length_append]; rfl
         | false =>
           rw [hD] at h5
           have eo : oneSel l sel acc.length y = sel y:=by unfold oneSel; rw [if_neg (fun h => by rw [hN,hD] at h; rcases h.2 with h | h <;> cases h)]
           have m1 : Mw l y (y):=.refl hy
           have k1:=hc (hlv3 g0) (y) m1.hi
           rw [eo] at hR
           have hpg:=zBS hE (fun y hy => hm y hy) acc.length hy
           rw [eo] at hpg
           have hhi:=hpg.mv.hi
           have hup:=hpg.up
           repeat' (first
|apply s_m (zf l) (zH l) rfl
 . conv => lhs; whnf
 . conv => lhs; whnf
 . rfl
 . conv => lhs; whnf; arg 1; whnf
 . first | exact zt _ _
 . first | exact h1 | exact h3 | exact h5 | exact h4 | exact k1
 . exact fun _ => rfl
 . exact fun _ => rfl
|apply zj (zf l) (zH l) rfl
 . conv => lhs; whnf
 . conv => lhs; whnf
 . first | rfl | assumption
 . conv => lhs; whnf
 . rfl
 . conv => lhs; whnf; arg 1; whnf
 . first | exact zt _ _
 . first | exact h1 | exact h3 | exact h5 | exact h4 | exact k1
 . exact fun _ => rfl
 . exact fun _ => rfl
|apply zBP [(sel (y)).1] rfl rfl
 . conv => lhs; whnf
 . first | exact zBW | (conv => lhs; whnf; arg 1; whnf)
 . rfl
 . rfl
 . repeat' (first | exact trivial | apply And.intro | rfl)
|apply zo rfl rfl rfl
 . conv => lhs; whnf
 . first | rfl | assumption
 . conv => lhs; whnf
 . first | exact bF1 ‹_› | exact bF2 ‹_› | rfl
|refine zA ?_
|refine zB ?_
|refine zG ?_
|refine zb ?_
|apply aw_1
 conv => whnf
 refine ⟨?_,trivial⟩
|apply zY rfl rfl
 . conv => lhs; whnf
 . conv => lhs; whnf
 . first | exact bT1 ‹_› | exact bT2 ‹_›
|apply s_1
 conv => whnf; arg 1; arg 4; arg 3; whnf
 refine ⟨?_,?_⟩
|apply zI rfl rfl rfl
 . conv => lhs; whnf
 . conv => lhs; whnf; arg 1; whnf
 . conv => lhs; whnf; arg 1; whnf
 . exact ⟨by kernel_rfl,by kernel_rfl⟩
 . rfl
|apply zBQ rfl rfl
 . conv => lhs; whnf
 . first | exact zBW | (conv => lhs; whnf; arg 1; whnf)
 . first | exact fun _ => rfl | (intro _; kernel_rfl)
 . conv => lhs; whnf
 . conv => lhs; whnf; arg 1; whnf
 . conv => lhs; whnf
|apply zD rfl
 . conv => lhs; whnf
 . conv => lhs; whnf
 . first | rfl | assumption
 . conv => lhs; whnf; arg 2; whnf
|exact trivial)
           all_goals first
            | exact zS (by omega)
            | (refine ⟨by simp,?_,?_⟩ <;> simp only [List.length_cons,List.length_nil,maxLen] <;> omega)
            | skip
           refine zL (Nat.lt_succ_self j) ⟨_,_,hR,hhi,by have:=hj g0; omega,fun h => by have:=hup h; have:=hj g0; omega,by rw [List.length_append]; simp only [List.length_cons,List.length_nil]; omega,fun _ => hlv3 g0,Sub.live ⟨rfl,rfl,rfl,trivial⟩ ⟨rfl,?_,trivial⟩⟩
           rw [List.length_append]; rfl
     . have gl : (decide ((acc.length : Int) >= 64) == true) = false:=ge_f (m:=64) hlim
       have eo : oneSel l sel acc.length y = sel y:=by unfold oneSel; rw [if_neg (fun h => hlim h.1)]
       have m1 : Mw l y (y):=.refl hy
       have k1:=hc (hlv3 g0) (y) m1.hi
       rw [eo] at hR
       have hpg:=zBS hE (fun y hy => hm y hy) acc.length hy
       rw [eo] at hpg
       have hhi:=hpg.mv.hi
       have hup:=hpg.up
       repeat' (first
|apply s_m (zf l) (zH l) rfl
 . conv => lhs; whnf
 . conv => lhs; whnf
 . rfl
 . conv => lhs; whnf; arg 1; whnf
 . first | exact zt _ _
 . first | exact h1 | exact h3 | exact h5 | exact h4 | exact k1
 . exact fun _ => rfl
 . exact fun _ => rfl
|apply zj (zf l) (zH l) rfl
 . conv => lhs; whnf
 . conv => lhs; whnf
 . first | rfl | assumption
 . conv => lhs; whnf
 . rfl
 . conv => lhs; whnf; arg 1; whnf
 . first | exact zt _ _
 . first | exact h1 | exact h3 | exact h5 | exact h4 | exact k1
 . exact fun _ => rfl
 . exact fun _ => rfl
|apply zd rfl
 . conv => lhs; whnf
 . conv => lhs; whnf
 . first | rfl | assumption
|apply zCT rfl
 . conv => lhs; whnf
 . rfl
 . rfl
|apply zBP [(sel (y)).1] rfl rfl
 . conv => lhs; whnf
 . first | exact zBW | (conv => lhs; whnf; arg 1; whnf)
 . rfl
 . rfl
 . repeat' (first | exact trivial | apply And.intro | rfl)
|apply zo rfl rfl rfl
 . conv => lhs; whnf
 . first | rfl | assumption
 . conv => lhs; whnf
 . first | exact bF1 ‹_› | exact bF2 ‹_› | rfl
|refine zA ?_
|refine zB ?_
|refine zG ?_
|refine zb ?_
|apply aw_1
 conv => whnf
 refine ⟨?_,trivial⟩
|apply zY rfl rfl
 . conv => lhs; whnf
 . conv => lhs; whnf
 . first | exact bT1 ‹_› | exact bT2 ‹_›
|apply zV rfl rfl
 . conv => lhs; whnf
 . conv => lhs; whnf
 . first | exact bF1 ‹_› | exact bF2 ‹_›
|apply s_1
 conv => whnf; arg 1; arg 4; arg 3; whnf
 refine ⟨?_,?_⟩
|apply zI rfl rfl rfl
 . conv => lhs; whnf
 . conv => lhs; whnf; arg 1; whnf
 . conv => lhs; whnf; arg 1; whnf
 . exact ⟨by kernel_rfl,by kernel_rfl⟩
 . rfl
|apply zBQ rfl rfl
 . conv => lhs; whnf
 . first | exact zBW | (conv => lhs; whnf; arg 1; whnf)
 . first | exact fun _ => rfl | (intro _; kernel_rfl)
 . conv => lhs; whnf
 . conv => lhs; whnf; arg 1; whnf
 . conv => lhs; whnf
|apply zD rfl
 . conv => lhs; whnf
 . conv => lhs; whnf
 . first | rfl | assumption
 . conv => lhs; whnf; arg 2; whnf
|exact trivial)
       all_goals first
        | exact zS (by omega)
        | (refine ⟨by simp,?_,?_⟩ <;> simp only [List.length_cons,List.length_nil,maxLen] <;> omega)
        | skip
       refine zL (Nat.lt_succ_self j) ⟨_,_,hR,hhi,by have:=hj g0; omega,fun h => by have:=hup h; have:=hj g0; omega,by rw [List.length_append]; simp only [List.length_cons,List.length_nil]; omega,fun _ => hlv3 g0,Sub.live ⟨rfl,rfl,rfl,trivial⟩ ⟨rfl,?_,trivial⟩⟩
       rw [List.length_append]; rfl
theorem zB5 : ∀ (f lv : Nat) (x : RS),x.at' < l.length -> f + lv = 25 -> ACB EN5 Tryz.prog 150 [.bx (pn 0) 0,.c (.int .i64 (lv : Int))] [boxF l x] (.sl 76 (selsZ l (f + 1) lv x).1) [boxF l (selsZ l (f + 1) lv x).2]
 | f,lv,x,hx,hf => by
   have hm : ∀ y,y.at' < l.length -> Mw l y (selsZ l f (lv + 1) y).2:=fun y hy => zDJ hE f (lv + 1) y hy
   exact setF_acb l hE hl hS (selZ l (selsZ l f (lv + 1))) lv (by omega) (fun y hy => zG3 hE hm hy) (fun hlv y hy => by
    cases f with
    | zero => omega
    | succ g => exact selF_acb l hE hl hS (selsZ l (g + 1) (lv + 1)) lv (by omega) hm (fun z hz => zB5 g (lv + 1) z hz (by omega)) y hy) x hx
end
noncomputable def HvZ (l : List Tok) (y : RS) (acc : List D) : Vst 69:=
 stS 69 [(0,.bx (pn 0) 0),(3,.own 3 88 acc)] [(pn 0,boxF l y),(3,.tok 88 acc.length)]
section
variable (l : List Tok) (hE : Ed l) (hl : l.length <= 100000) (hS : ∀ i,i < l.length -> (l.getD i ⟨5,[],0⟩).s.length <= 100000)
include hE hl hS
theorem varsI_acb (x : RS) (hx : x.at' < l.length) (hs0 : sgZ l [40] x = true) : ACB EN5 Tryz.prog 151 [.bx (pn 0) 0] [boxF l x] (.sl 88 (zBN l x).1) [boxF l (zBN l x).2]:=by
 have h0:=zr l x hx [40]
 have hux:=zAY hE hx hs0
 have hu0:=hux.mv.hi
 have fs : (!sgZ l [40] x) = false:=by rw [hs0]; rfl
 unfold zBN
 rw [if_pos hs0]
 generalize hR : manyZ l (oneVar l) [41] (l.length + 1 - (upZ x).at') [] (upZ x) = R
 refine zZ (fn:=Tryz.f151) 69 Tryz.func151 rfl rfl ?_
 intro pas w0 w he hp
 repeat' (first
|apply s_m (zf l) (zH l) rfl
 . conv => lhs; whnf
 . conv => lhs; whnf
 . rfl
 . conv => lhs; whnf; arg 1; whnf
 . first | exact zt _ _
 . first | exact h0
 . exact fun _ => rfl
 . exact fun _ => rfl
|apply zE
 . conv => lhs; whnf
 . assumption
|refine zA ?_
|refine zB ?_
|refine zG ?_
|apply aw_1
 conv => whnf
 refine ⟨?_,trivial⟩
|apply s_1
 conv => whnf; arg 1; arg 4; arg 3; whnf
 refine ⟨?_,?_⟩
|apply zI rfl rfl rfl
 . conv => lhs; whnf
 . conv => lhs; whnf; arg 1; whnf
 . conv => lhs; whnf; arg 1; whnf
 . exact ⟨by kernel_rfl,by kernel_rfl⟩
 . rfl
|exact trivial)
 rotate_left 1
 . exact zS (by omega)
 refine zn (Sub.live (cs:=[(0,.bx (pn 0) 0),(3,.c (.slice none 0 0))]) (R:=[(pn 0,boxF l (upZ x))]) ⟨rfl,rfl,trivial⟩ ⟨rfl,trivial⟩) ?_
 refine zn (Sub.own (t:=3) (e:=88) rfl rfl) ?_
 generalize upZ x = x0 at hR hu0 |-
 refine zu (fun j st => ∃ y acc,manyZ l (oneVar l) [41] j acc y = R /\ y.at' < l.length /\ 0 < j /\ (y.er = 0 -> l.length - y.at' < j) /\ acc.length + j <= l.length + 1 /\ Sub ⟨Tryz.prog,pas,w0,w,EN5,he,hp,fun _ _ _ => False,[]⟩ st (HvZ l y acc)) (l.length + 1 - x0.at') ⟨x0,[],hR,hu0,by omega,fun _ => by omega,by simp only [List.length_nil]; omega,?_⟩ ?_
 . exact Sub.live ⟨rfl,rfl,trivial⟩ ⟨rfl,rfl,trivial⟩
 clear hR
 rintro j st ⟨y,acc,hR,hy,hj0,hj,hv,hs2⟩
 refine zn hs2 ?_
 clear hs2
 obtain ⟨j,rfl⟩ : ∃ q,j = q + 1:=⟨j - 1,by omega⟩
 have h1:=zr l y hy [41]
 have h2:=zAU l y hy hl [41]
 have h3:=zr l y hy [36]
 have h4:=zAS l y 4 hy
 by_cases g0 : y.er = 0
 rotate_left 1
 . have f0 : (y.er == 0) = false:=by simpa using g0
   have g1 : ((y.er == 0) == true) = false:=by rw [f0]; rfl
   rw [zFP (fun h => g0 h.1)] at hR
   subst hR
   repeat' (first
|apply s_m (zf l) (zH l) rfl
 . conv => lhs; whnf
 . conv => lhs; whnf
 . rfl
 . conv => lhs; whnf; arg 1; whnf
 . first | exact zt _ _
 . first | exact h1 | exact h2
 . exact fun _ => rfl
 . exact fun _ => rfl
|apply zd rfl
 . conv => lhs; whnf
 . conv => lhs; whnf
 . first | rfl | assumption
|apply zCT rfl
 . conv => lhs; whnf
 . rfl
 . rfl
|refine zA ?_
|refine zB ?_
|refine zG ?_
|apply aw_1
 conv => whnf
 refine ⟨?_,trivial⟩
|apply zV rfl rfl
 . conv => lhs; whnf
 . conv => lhs; whnf
 . first | exact bF1 ‹_› | exact bF2 ‹_›
|apply s_1
 conv => whnf; arg 1; arg 4; arg 3; whnf
 refine ⟨?_,?_⟩
|refine zP ?_
|refine zM rfl ?_
|refine zW ?_
|refine zq ⟨?_,?_⟩
|refine ⟨_,by conv => lhs; whnf; arg 2; whnf,?_⟩; conv => rhs; whnf
|exact trivial)
   all_goals first
    | exact ⟨rfl,trivial⟩
    | rfl
    | skip
 have f0 : (y.er == 0) = true:=by rw [g0]; rfl
 have g1 : ((y.er == 0) == true) = true:=by rw [f0]; rfl
 by_cases hst : acc.length ≠ 0 /\ sgZ l [41] y = true
 . have q0:=zCf hst.1
   have gs:=hst.2
   have f2 : (!sgZ l [41] y) = false:=by rw [gs]; rfl
   rw [gs] at f2 h1
   rw [zFP (fun h => by rcases h.2 with h5 | h5; exact hst.1 h5; rw [gs] at h5; cases h5)] at hR
   subst hR
   repeat' (first
|apply s_m (zf l) (zH l) rfl
 . conv => lhs; whnf
 . conv => lhs; whnf
 . rfl
 . conv => lhs; whnf; arg 1; whnf
 . first | exact zt _ _
 . first | exact h1 | exact h2
 . exact fun _ => rfl
 . exact fun _ => rfl
|apply zj (zf l) (zH l) rfl
 . conv => lhs; whnf
 . conv => lhs; whnf
 . first | rfl | assumption
 . conv => lhs; whnf
 . rfl
 . conv => lhs; whnf; arg 1; whnf
 . first | exact zt _ _
 . first | exact h1 | exact h2
 . exact fun _ => rfl
 . exact fun _ => rfl
|apply zo rfl rfl rfl
 . conv => lhs; whnf
 . first | rfl | assumption
 . conv => lhs; whnf
 . first | exact bF1 ‹_› | exact bF2 ‹_› | rfl
|apply zE
 . conv => lhs; whnf
 . assumption
|refine zA ?_
|refine zB ?_
|refine zG ?_
|apply aw_1
 conv => whnf
 refine ⟨?_,trivial⟩
|apply zY rfl rfl
 . conv => lhs; whnf
 . conv => lhs; whnf
 . first | exact bT1 ‹_› | exact bT2 ‹_›
|apply s_1
 conv => whnf; arg 1; arg 4; arg 3; whnf
 refine ⟨?_,?_⟩
|apply zD rfl
 . conv => lhs; whnf
 . conv => lhs; whnf
 . first | rfl | assumption
 . conv => lhs; whnf; arg 2; whnf
|refine zP ?_
|refine zM rfl ?_
|refine zW ?_
|refine zq ⟨?_,?_⟩
|refine ⟨_,by conv => lhs; whnf; arg 2; whnf,?_⟩; conv => rhs; whnf
|exact trivial)
   all_goals first
    | exact ⟨rfl,trivial⟩
    | rfl
    | skip
 have hgo : acc.length = 0 \/ sgZ l [41] y = false:=by
  cases h : sgZ l [41] y
  . exact .inr rfl
  . exact .inl (by by_cases h0 : acc.length = 0; exact h0; exact (hst ⟨h0,h⟩).elim)
 rw [mz_go ⟨g0,hgo⟩] at hR
 obtain ⟨y1,hy1⟩ : ∃ y1,y1 = if 16 <= acc.length /\ sgZ l [36] y = true then zk l 4 y else y:=⟨_,rfl⟩
 have eo : oneVar l acc.length y = (fun a => (fun t => (fun d => (varD a.1 (refD t.1.1 t.1.2) d.1.1 d.1.2,d.2)) (zHW l t.2)) (typZ l (needZ l [58] a.2))) (nameZ l (needZ l [36] y1)):=by unfold oneVar; rw [<- hy1]
 have m1 : Mw l y y1:=by
  rw [hy1]
  split
  . exact zBM hy (by decide)
  . exact .refl hy
 have k1:=zAU l y1 m1.hi hl [36]
 have m2:=(zAB hE [36] m1.hi).mv
 have k2:=z8 l (needZ l [36] y1) m2.hi hl
 have m3:=(zm hE m2.hi).mv
 generalize nameZ l (needZ l [36] y1) = A1 at *
 have k3:=zAU l A1.2 m3.hi hl [58]
 have m4:=(zAB hE [58] m3.hi).mv
 have k4:=typF_acb l hE hl (needZ l [58] A1.2) m4.hi
 have m5:=(zIg hE m4.hi).mv
 generalize hT1 : typZ l (needZ l [58] A1.2) = T1 at *
 have m5h:=m5.hi
 have k5:=zr l T1.2 m5.hi [61]
 have hpg:=zEc hE acc.length hy
 have hcs : acc.length = 0 \/ (acc.length ≠ 0 /\ ¬ 16 <= acc.length) \/ (16 <= acc.length /\ sgZ l [36] y = false) \/ (16 <= acc.length /\ sgZ l [36] y = true):=by
  by_cases ha : acc.length = 0
  . exact .inl ha
  . by_cases hb : 16 <= acc.length
    . cases hc : sgZ l [36] y
      . exact .inr (.inr (.inl ⟨hb,rfl⟩))
      . exact .inr (.inr (.inr ⟨hb,rfl⟩))
    . exact .inr (.inl ⟨ha,hb⟩)
 have hgs : acc.length ≠ 0 -> sgZ l [41] y = false:=fun h => hgo.resolve_left h
 clear hgo hst
 rcases hd : sgZ l [61] T1.2 with _ | _
 rw [hd] at k5
 let vd:=varD A1.1 (refD T1.1.1 T1.1.2) false zBG
 have eo2 : oneVar l acc.length y = (vd,T1.2):=by
  rw [eo]; dsimp only; rw [hT1]; unfold zHW; rw [if_neg (by rw [hd]; decide)]
 rotate_left 1
 rw [hd] at k5
 have hup:=(zAY hE m5.hi hd).mv
 have k6:=zB4 l hE hl hS true (upZ T1.2) hup.hi
 let vd:=varD A1.1 (refD T1.1.1 T1.1.2) true (wholeZ l true (upZ T1.2)).1
 have eo2 : oneVar l acc.length y = (vd,(wholeZ l true (upZ T1.2)).2):=by
  rw [eo]; dsimp only; rw [hT1]; unfold zHW; rw [if_pos hd]
 rotate_left 1
 all_goals
  rw [eo2] at hR hpg
  have hhi:=hpg.mv.hi
  have hpu:=hpg.up
  clear eo eo2 hpg
  rcases hcs with ha | ⟨ha,hb⟩ | ⟨hb,hN⟩ | ⟨hb,hN⟩
  have q0:=zGC ha
  have q1:=zEC ha
  have gl : (decide ((acc.length : Int) >= 16) == true) = false:=ge_f (m:=16) (by omega)
  have hy2 : y1 = y:=by rw [hy1,if_neg (fun h => by omega)]
  rotate_left 1
  have q0:=zCf ha
  have gl : (decide ((acc.length : Int) >= 16) == true) = false:=ge_f (m:=16) hb
  have hy2 : y1 = y:=by rw [hy1,if_neg (fun h => hb h.1)]
  rw [hgs ha] at h1
  rotate_left 1
  have q0:=zCf (n:=acc.length) (by omega)
  have gl : (decide ((acc.length : Int) >= 16) == true) = true:=ge_t (m:=16) hb
  have hy2 : y1 = y:=by rw [hy1,if_neg (fun h => by rw [hN] at h; cases h.2)]
  rw [hgs (by omega)] at h1
  rw [hN] at h3
  rotate_left 1
  have q0:=zCf (n:=acc.length) (by omega)
  have gl : (decide ((acc.length : Int) >= 16) == true) = true:=ge_t (m:=16) hb
  have hy2 : y1 = zk l 4 y:=by rw [hy1,if_pos ⟨hb,hN⟩]
  rw [hgs (by omega)] at h1
  rw [hN] at h3
  rotate_left 1
  all_goals
   rw [hy2] at k1 k2
   clear hy1
   repeat' (first
|apply s_m (zf l) (zH l) rfl
 . conv => lhs; whnf
 . conv => lhs; whnf
 . rfl
 . conv => lhs; whnf; arg 1; whnf
 . first | exact zt _ _ | exact zCO _ _
 . first | exact h1 | exact h3 | exact h4 | exact k1 | exact k2 | exact k3 | exact k4 | exact k5 | exact k6
 . exact fun _ => rfl
 . exact fun _ => rfl
|apply zj (zf l) (zH l) rfl
 . conv => lhs; whnf
 . conv => lhs; whnf
 . first | rfl | assumption
 . conv => lhs; whnf
 . rfl
 . conv => lhs; whnf; arg 1; whnf
 . first | exact zt _ _ | exact zCO _ _
 . first | exact h1 | exact h3 | exact h4 | exact k1 | exact k2 | exact k3 | exact k4 | exact k5 | exact k6
 . exact fun _ => rfl
 . exact fun _ => rfl
|apply zd rfl
 . conv => lhs; whnf
 . conv => lhs; whnf
 . first | rfl | assumption
|apply zAL (VVr vd) rfl rfl
 . conv => lhs; whnf; arg 2; whnf
 . repeat' (first | exact VLe.refl _ | exact VLe.nil _ | exact VLe.lit _ _ | exact VLe.own _ _ _ | apply VLe.agg | apply VLeL.cons | exact VLeL.nil)
|apply zBP [vd] rfl rfl
 . conv => lhs; whnf
 . first | exact zGT | (conv => lhs; whnf; arg 1; whnf)
 . rfl
 . rfl
 . repeat' (first | exact trivial | apply And.intro | rfl)
|apply zx rfl rfl rfl
 . conv => lhs; whnf
 . first | rfl | assumption
 . conv => lhs; whnf
 . first | exact bT1 ‹_› | exact bT2 ‹_› | rfl
|apply zo rfl rfl rfl
 . conv => lhs; whnf
 . first | rfl | assumption
 . conv => lhs; whnf
 . first | exact bF1 ‹_› | exact bF2 ‹_› | rfl
|refine zA ?_
|refine zB ?_
|refine zG ?_
|refine zb ?_
|apply aw_1
 conv => whnf
 refine ⟨?_,trivial⟩
|apply zY rfl rfl
 . conv => lhs; whnf
 . conv => lhs; whnf
 . first | exact bT1 ‹_› | exact bT2 ‹_›
|apply zV rfl rfl
 . conv => lhs; whnf
 . conv => lhs; whnf
 . first | exact bF1 ‹_› | exact bF2 ‹_›
|apply s_1
 conv => whnf; arg 1; arg 4; arg 3; whnf
 refine ⟨?_,?_⟩
|apply zI rfl rfl rfl
 . conv => lhs; whnf
 . conv => lhs; whnf; arg 1; whnf
 . conv => lhs; whnf; arg 1; whnf
 . exact ⟨by kernel_rfl,by kernel_rfl⟩
 . rfl
|apply zBQ rfl rfl
 . conv => lhs; whnf
 . first | exact zGT | (conv => lhs; whnf; arg 1; whnf)
 . first | exact fun _ => rfl | (intro _; kernel_rfl)
 . conv => lhs; whnf
 . conv => lhs; whnf; arg 1; whnf
 . conv => lhs; whnf
|apply zD rfl
 . conv => lhs; whnf
 . conv => lhs; whnf
 . first | rfl | assumption
 . conv => lhs; whnf; arg 2; whnf
|exact trivial)
   all_goals first
    | exact zS (by omega)
    | (refine ⟨by simp,?_,?_⟩ <;> simp only [List.length_cons,List.length_nil,maxLen] <;> omega)
    | skip
   refine zL (Nat.lt_succ_self j) ⟨_,_,hR,hhi,by have:=hj g0; omega,fun h => by have:=hpu h; have:=hj g0; omega,by rw [List.length_append]; simp only [List.length_cons,List.length_nil]; omega,Sub.live ⟨rfl,rfl,trivial⟩ ⟨rfl,?_,trivial⟩⟩
   rw [List.length_append]; rfl
theorem zGr (x : RS) (hx : x.at' < l.length) : ACB EN5 Tryz.prog 151 [.bx (pn 0) 0] [boxF l x] (.sl 88 (zBN l x).1) [boxF l (zBN l x).2]:=by
 cases hs0 : sgZ l [40] x with
 | true => exact varsI_acb l hE hl hS x hx hs0
 | false =>
   have h0:=zr l x hx [40]
   rw [hs0] at h0
   have e : zBN l x = ([],x):=by unfold zBN; rw [if_neg (by rw [hs0]; decide)]
   rw [e]
   have h : ACB EN5 Tryz.prog 151 [.bx (pn 0) 0] [boxF l x] (.c (.slice none 0 0)) [boxF l x]:=by
    refine zZ (fn:=Tryz.f151) 69 Tryz.func151 rfl rfl ?_
    intro pas w0 w he hp
    repeat' (first
|apply s_m (zf l) (zH l) rfl
 . conv => lhs; whnf
 . conv => lhs; whnf
 . rfl
 . conv => lhs; whnf; arg 1; whnf
 . first | exact zt _ _
 . first | exact h0
 . exact fun _ => rfl
 . exact fun _ => rfl
|refine zA ?_
|refine zB ?_
|refine zG ?_
|apply aw_1
 conv => whnf
 refine ⟨?_,trivial⟩
|apply s_1
 conv => whnf; arg 1; arg 4; arg 3; whnf
 refine ⟨?_,?_⟩
|refine zU ?_
|refine zq ⟨?_,?_⟩
|refine ⟨_,by conv => lhs; whnf; arg 2; whnf,?_⟩; conv => rhs; whnf
|exact trivial)
    all_goals first
     | exact ⟨rfl,trivial⟩
     | rfl
     | skip
   exact h.res (.nil _)
end
end Go.Proofs.YthjiclhfhjdjpaaGreatDoor
namespace Go.Proofs.YthjiclhfhjdjpaaGreatDoor
set_option linter.unusedSectionVars false
structure Rl (l : List Tok) (c : RS -> PS -> Prop) (x : RS) (y : PS) : Prop where
 er : x.er = 0
 lt : x.at' < l.length
 ts : l.drop x.at' = y.ts
 c : c x y
def cV (b : Bool) (x : RS) (y : PS) : Prop:=x.ct = y.nd /\ x.fx = b /\ y.vr = !b
def c0 (_ : RS) (y : PS) : Prop:=y.vr = true
def Rf {α β : Type} (l : List Tok) (c : RS -> PS -> Prop) (φ : α -> β -> Prop) (p : α × RS) : PR β -> Prop
 | .ok (b,y) => φ p.1 b /\ Rl l c p.2 y
 | .error e => e.2 ≠ 0 -> p.2.er = e.2 /\ p.2.wr = e.1
def CC (c : RS -> PS -> Prop) : Prop:=∀ x y,c x y -> c (upZ x) (nxT y)
theorem zI2 (y : PS) : (nxT y).vr = y.vr /\ (nxT y).nd = y.nd:=by unfold nxT; split <;> exact ⟨rfl,rfl⟩
theorem cc_V (b : Bool) : CC (cV b):=fun x y h => ⟨by rw [(zI2 y).2]; exact h.1,h.2.1,by rw [(zI2 y).1]; exact h.2.2⟩
theorem cc_0 : CC c0:=fun x y h => by unfold c0; rw [(zI2 y).1]; exact h
theorem headD_drop (l : List Tok) (n : Nat) (e : Tok) : (l.drop n).headD e = l.getD n e:=by
 rw [List.headD_eq_head?_getD,List.head?_drop,List.getD_eq_getElem?_getD]
section
variable {l : List Tok} {c : RS -> PS -> Prop} {x : RS} {y : PS} {α β γ δ : Type}
theorem Rl.hd (h : Rl l c x y) : tkZ l x = hdT y:=by
 unfold tkZ hdT
 rw [<- h.ts,headD_drop]
theorem Rl.er' (h : Rl l c x y) : (x.er == 0) = true:=by rw [h.er]; rfl
theorem Rl.sg (h : Rl l c x y) (s : List UInt8) : sgZ l s x = isS y s:=by
 unfold sgZ isS
 rw [h.hd,h.er',Bool.true_and]
theorem Rl.nm (h : Rl l c x y) : nmZ l x = ((hdT y).k == 2):=by
 unfold nmZ
 rw [h.hd,h.er',Bool.true_and]
theorem Rl.nmT (h : Rl l c x y) (hk : (hdT y).k = 2) : nmZ l x = true:=by rw [h.nm,hk]; rfl
theorem Rl.nmF (h : Rl l c x y) (hk : ¬ (hdT y).k = 2) : nmZ l x = false:=by rw [h.nm]; simpa using hk
theorem Rl.wd (h : Rl l c x y) (s : List UInt8) : wdZ l s x = ((hdT y).k == 2 && (hdT y).s == s):=by
 unfold wdZ
 rw [h.nm,h.hd]
theorem Rl.len (h : Rl l c x y) : y.ts.length = l.length - x.at':=by rw [<- h.ts,List.length_drop]
theorem Rf.okk {φ : α -> β -> Prop} {p : α × RS} {b : β} (h1 : φ p.1 b) (h : Rl l c p.2 y) : Rf l c φ p (.ok (b,y)):=⟨h1,h⟩
theorem Rf.err {φ : α -> β -> Prop} {r : α × RS} {e : Int} (h : Rl l c x y) (hm : Mw l (zk l e x) r.2) {c' : RS -> PS -> Prop} : Rf l c' φ r (.error ((hdT y).i,e)):=by
 intro he
 have e1 : zk l e x = { x with er:=e,wr:=(tkZ l x).i }:=by unfold zk zCC; rw [if_pos h.er]; rfl
 have h2:=hm.er (by rw [e1]; exact he)
 rw [e1] at h2
 exact ⟨h2.1,by rw [h2.2]; show (tkZ l x).i = _; rw [h.hd]⟩
theorem Rf.then {φ : α -> β -> Prop} {ψ : γ -> δ -> Prop} {c' : RS -> PS -> Prop} {p : α × RS} {q : PR β} {r : γ × RS} {G : β -> PS -> PR δ} (h : Rf l c φ p q) (hm : Mw l p.2 r.2) (hf : ∀ b y,q = .ok (b,y) -> φ p.1 b -> Rl l c p.2 y -> Rf l c' ψ r (G b y)) : Rf l c' ψ r (zX q G):=by
 unfold zX
 cases q with
 | error e =>
   intro he
   have h1:=h he
   have h2:=hm.er (by rw [h1.1]; exact he)
   exact ⟨h2.1.trans h1.1,h2.2.trans h1.2⟩
 | ok a =>
   obtain ⟨b,y⟩:=a
   exact hf b y rfl h.1 h.2
theorem Rf.mono {φ ψ : α -> β -> Prop} {c' : RS -> PS -> Prop} {p : α × RS} {q : PR β} (h : Rf l c φ p q) (hφ : ∀ b,φ p.1 b -> ψ p.1 b) (hc : ∀ x y,c x y -> c' x y) : Rf l c' ψ p q:=by
 cases q with
 | error e => exact h
 | ok a => obtain ⟨b,y⟩:=a; exact ⟨hφ _ h.1,⟨h.2.er,h.2.lt,h.2.ts,hc _ _ h.2.c⟩⟩
theorem zAy (r : PR α) (f : α -> PS -> PR β) (g : β -> PS -> PR γ) : zX (zX r f) g = zX r fun a x => zX (f a x) g:=by
 cases r with
 | error e => rfl
 | ok a => rfl
variable (hE : Ed l) (hC : CC c)
include hE
theorem Rl.upk (hC : CC c) (h : Rl l c x y) (hk : (hdT y).k ≠ 5) : Rl l c (upZ x) (nxT y):=by
 refine ⟨h.er,(up_pg hE h.lt (by rw [h.hd]; exact hk)).mv.hi,?_,hC _ _ h.c⟩
 unfold nxT
 rw [if_neg hk]
 show l.drop (x.at' + 1) = y.ts.drop 1
 rw [<- h.ts,List.drop_drop]
omit hE in
theorem isS_k {s : List UInt8} (h : isS y s = true) : (hdT y).k = 1 /\ (hdT y).s = s:=by
 unfold isS at h
 simp only [Bool.and_eq_true,beq_iff_eq] at h
 exact h
theorem Rl.ups (hC : CC c) (h : Rl l c x y) {s : List UInt8} (hs : isS y s = true) : Rl l c (upZ x) (nxT y):=h.upk hE hC (by rw [(isS_k hs).1]; decide)
theorem Rl.upn (hC : CC c) (h : Rl l c x y) (hs : (hdT y).k = 2) : Rl l c (upZ x) (nxT y):=h.upk hE hC (by rw [hs]; decide)
include hC
theorem zDe (h : Rl l c x y) (s : List UInt8) : Rf l c (fun _ _ => True) ((),needZ l s x) (takeQ s y):=by
 unfold takeQ needZ
 rw [h.sg]
 by_cases hs : isS y s = true
 . rw [if_pos hs,if_pos hs]; exact .okk trivial (h.ups hE hC hs)
 . rw [if_neg hs,if_neg hs]; exact .err h (.refl (by show (zCC _ _ _ _).at' < _; rw [zCj]; exact h.lt))
theorem zBl (h : Rl l c x y) : Rf l c Eq (nameZ l x) (nameQ y):=by
 unfold nameQ nameZ
 by_cases hs : (hdT y).k = 2
 . rw [if_pos hs,if_pos (h.nmT hs)]; exact .okk (congrArg Tok.s h.hd) (h.upn hE hC hs)
 . rw [if_neg hs,if_neg (by rw [h.nmF hs]; decide)]; exact .err h (.refl (by show (zCC _ _ _ _).at' < _; rw [zCj]; exact h.lt))
omit hE hC in
theorem zCi (h : Rl l c x y) (e : Int) : (zk l e x).at' < l.length:=by show (zCC _ _ _ _).at' < _; rw [zCj]; exact h.lt
def bangQ (t : List UInt8 × List Int) (u : PS) : (List UInt8 × List Int) × PS:=if isS u [33] = true then ((t.1,1 :: t.2),nxT u) else (t,u)
omit hE hC in
theorem close0 (w : List Int) (y : PS) : closeQ 0 w y = .ok (if isS y [33] = true then (1 :: w,nxT y) else (w,y)):=rfl
omit hE hC in
theorem zFZ : ∀ (n : Nat) (w : List Int) (y : PS),closeQ (n + 1) w y = zX (closeQ n w y) fun w1 z => zX (takeQ [93] z) fun _ u => .ok (if isS u [33] = true then (1 :: 2 :: w1,nxT u) else (2 :: w1,u))
 | 0,w,y => by
   rw [close0]
   by_cases h : isS y [33] = true
   . rw [if_pos h]
     show closeQ 1 w y = zX (takeQ [93] (nxT y)) _
     unfold closeQ
     rw [if_pos h,if_pos h]
     rfl
   . rw [if_neg h]
     show closeQ 1 w y = zX (takeQ [93] y) _
     unfold closeQ
     rw [if_neg h,if_neg h]
     rfl
 | n + 1,w,y => by
   conv => lhs; unfold closeQ
   conv => rhs; unfold closeQ
   rw [zAy]
   congr 1
   funext a z
   exact zFZ n _ z
omit hE hC in
theorem nx_len1 {s : List UInt8} (h : isS y s = true) : y.ts.length = (nxT y).ts.length + 1:=by
 have hk : ¬ (hdT y).k = 5:=by rw [(isS_k h).1]; decide
 unfold nxT
 rw [if_neg hk]
 show y.ts.length = (y.ts.drop 1).length + 1
 have hne : y.ts ≠ []:=fun e => by
  apply hk
  unfold hdT
  rw [e]; rfl
 have:=List.length_pos_iff.2 hne
 rw [List.length_drop]
 omega
omit hE hC in
theorem inner_open (h : isS y [91] = true) : innerQ y = zX (innerQ (nxT y)) fun t z => zX (takeQ [93] z) fun _ u => .ok (bangQ (t.1,2 :: t.2) u):=by
 have e : openQ ((nxT y).ts.length + 1) y = ((openQ (nxT y).ts.length (nxT y)).1 + 1,(openQ (nxT y).ts.length (nxT y)).2):=by
  conv => lhs; unfold openQ
  rw [if_pos h]
 unfold innerQ
 rw [nx_len1 h,e,zAy]
 congr 1
 funext nm u
 dsimp only
 rw [zFZ,zAy,zAy]
 congr 1
 funext w z
 show zX (zX (takeQ [93] z) _) _ = zX (takeQ [93] z) _
 rw [zAy]
 congr 1
 funext _ v
 unfold bangQ
 by_cases hb : isS v [33] = true
 . rw [if_pos hb,if_pos hb]; rfl
 . rw [if_neg hb,if_neg hb]; rfl
omit hE hC in
theorem inner_base (h : ¬ isS y [91] = true) : innerQ y = zX (nameQ y) fun n z => .ok (bangQ (n,[]) z):=by
 have e : openQ y.ts.length y = (0,y):=by
  cases y.ts.length with
  | zero => rfl
  | succ n => unfold openQ; rw [if_neg h]
 unfold innerQ
 rw [e]
 congr 1
 funext n z
 dsimp only
 rw [close0]
 unfold bangQ
 by_cases hb : isS z [33] = true
 . rw [if_pos hb,if_pos hb]; rfl
 . rw [if_neg hb,if_neg hb]; rfl
theorem bang_rf {p : (List UInt8 × List Int) × RS} {t : List UInt8 × List Int} (ht : p.1 = t) (h : Rl l c p.2 y) : Rf l c Eq (zDr l p) (.ok (bangQ t y)):=by
 unfold zDr bangQ
 rw [h.sg]
 by_cases hs : isS y [33] = true
 . rw [if_pos hs,if_pos hs]; exact .okk (by rw [ht]) (h.ups hE hC hs)
 . rw [if_neg hs,if_neg hs]; exact .okk ht h
theorem ref_rf : ∀ (f : Nat) (x : RS) (y : PS),Rl l c x y -> l.length - x.at' < f -> Rf l c Eq (refZ l f x) (innerQ y)
 | 0,_,_,_,h => by omega
 | f + 1,x,y,h,hf => by
   show Rf l c Eq (zDr l (zCQ l (refZ l f) x)) _
   by_cases hs : isS y [91] = true
   . rw [inner_open hs]
     have e : zCQ l (refZ l f) x = (((refZ l f (upZ x)).1.1,2 :: (refZ l f (upZ x)).1.2),needZ l [93] (refZ l f (upZ x)).2):=by unfold zCQ; rw [if_pos (by rw [h.sg]; exact hs)]
     rw [e]
     have h1:=h.ups hE hC hs
     have hlt:=h.lt
     have h2:=ref_rf f (upZ x) (nxT y) h1 (by show l.length - (x.at' + 1) < f; omega)
     have m1:=zFL hE f (upZ x) h1.lt
     have m2:=(zAB hE [93] m1.hi).mv
     have m3:=zGg hE (((refZ l f (upZ x)).1.1,2 :: (refZ l f (upZ x)).1.2),needZ l [93] (refZ l f (upZ x)).2) m2.hi
     refine h2.then (m2.trans m3) fun t z _ ht hz => ?_
     refine (zDe hE hC hz [93]).then m3 fun _ u _ _ hu => ?_
     exact bang_rf hE hC (by rw [ht]) hu
   . rw [inner_base hs]
     have e : zCQ l (refZ l f) x = (((nameZ l x).1,[]),(nameZ l x).2):=by unfold zCQ; rw [if_neg (by rw [h.sg]; exact hs)]
     rw [e]
     have m1:=(zm hE h.lt).mv
     exact (zBl hE hC h).then (zGg hE (((nameZ l x).1,[]),(nameZ l x).2) m1.hi) fun n z _ hn hz => bang_rf hE hC (by rw [hn]) hz
theorem typ_rf (h : Rl l c x y) : Rf l c (fun t d => refD t.1 t.2 = d) (typZ l x) (typQ y):=by
 have hlt:=h.lt
 have h1:=ref_rf hE hC (l.length + 1 - x.at') x y h (by omega)
 have m1:=zFL hE (l.length + 1 - x.at') x h.lt
 unfold typQ typZ
 refine h1.then ?_ fun t z _ ht hz => ?_
 . exact .ite (fun _ => zEF m1.hi (by decide) _) fun _ => .refl m1.hi
 . rw [ht]
   by_cases hg : t.2.length > 24
   . rw [if_pos hg,if_pos hg]
     intro _
     unfold zCC
     rw [if_pos hz.er]
     refine ⟨rfl,?_⟩
     show (tkZ l x).i = _
     rw [h.hd]
   . rw [if_neg hg,if_neg hg]
     exact .okk rfl hz
end
def Kd (l : List Tok) : Prop:=∀ i,i < l.length -> 1 <= (l.getD i ⟨5,[],0⟩).k /\ (l.getD i ⟨5,[],0⟩).k <= 5
section
variable {l : List Tok} {c : RS -> PS -> Prop} {x : RS} {y : PS} (hE : Ed l)
include hE
theorem zJR (hC : CC c) {val : RS -> D × RS} {vq : PS -> PR D} (hm : ∀ y,y.at' < l.length -> Mw l y (val y).2) (hv : ∀ x y,Rl l c x y -> Rf l c Eq (val x) (vq y)) : ∀ (f : Nat) (ks : List (List UInt8)) (vs : List D) (x : RS) (y : PS),Rl l c x y -> Rf l c (fun a b => a = (ks,b)) (elemsZ l val false [93] f ks vs x) (itemsQ vq f vs y)
 | 0,_,_,_,_,_ => fun h => absurd rfl h
 | f + 1,ks,vs,x,y,h => by
   unfold elemsZ itemsQ
   by_cases hs : isS y [93] = true
   . rw [if_pos hs,if_neg (fun hh => by rw [h.sg,hs] at hh; exact absurd hh.2 (by decide))]
     refine .okk rfl ?_
     show Rl l c (needZ l [93] x) _
     unfold needZ
     rw [if_pos (by rw [h.sg]; exact hs)]
     exact h.ups hE hC hs
   . have hs2 : isS y [93] = false:=by simpa using hs
     rw [if_neg hs,if_pos ⟨h.er,by rw [h.sg]; exact hs2⟩]
     have e : keyZ l false ks x = (ks,x):=rfl
     rw [e]
     have m1:=hm x h.lt
     refine (hv x y h).then (zB0 hE hm _ _ _ _ _ _ m1.hi) fun v z _ hvv hz => ?_
     rw [hvv]
     exact zJR hC hm hv f ks _ _ z hz
theorem zHS (hC : CC c) {val : RS -> D × RS} {vq : PS -> PR D} (hm : ∀ y,y.at' < l.length -> Mw l y (val y).2) (hv : ∀ x y,Rl l c x y -> Rf l c Eq (val x) (vq y)) : ∀ (f : Nat) (ks : List (List UInt8)) (vs : List D) (x : RS) (y : PS),Rl l c x y -> Rf l c Eq (elemsZ l val true [125] f ks vs x) (zy vq f ks vs y)
 | 0,_,_,_,_,_ => fun h => absurd rfl h
 | f + 1,ks,vs,x,y,h => by
   unfold elemsZ zy
   by_cases hs : isS y [125] = true
   . rw [if_pos hs,if_neg (fun hh => by rw [h.sg,hs] at hh; exact absurd hh.2 (by decide))]
     refine .okk rfl ?_
     show Rl l c (needZ l [125] x) _
     unfold needZ
     rw [if_pos (by rw [h.sg]; exact hs)]
     exact h.ups hE hC hs
   . have hs2 : isS y [125] = false:=by simpa using hs
     rw [if_neg hs,if_pos ⟨h.er,by rw [h.sg]; exact hs2⟩]
     by_cases hd : (hdT y).k = 2 /\ ks.contains (hdT y).s = true
     . have e0 : (nmZ l x && ks.contains (tkZ l x).s) = true:=by rw [h.nmT hd.1,h.hd,hd.2]; rfl
       have e : keyZ l true ks x = (ks ++ [(nameZ l (zk l 7 x)).1],needZ l [58] (nameZ l (zk l 7 x)).2):=by
        unfold keyZ; rw [if_pos rfl,if_pos e0]
       rw [e]
       have hn : nameQ y = .ok ((hdT y).s,nxT y):=by unfold nameQ; rw [if_pos hd.1]
       rw [hn]
       show Rf l c Eq _ (if ks.contains (hdT y).s = true then _ else _)
       rw [if_pos hd.2]
       have m0:=zCi h 7
       have m1:=(zm hE m0).mv
       have m2:=(zAB hE [58] m1.hi).mv
       have m3:=hm _ m2.hi
       exact .err h (((m1.trans m2).trans m3).trans (zB0 hE hm _ _ _ _ _ _ m3.hi))
     . have e0 : (nmZ l x && ks.contains (tkZ l x).s) = false:=by
        cases hq : (nmZ l x && ks.contains (tkZ l x).s) with
        | false => rfl
        | true =>
          rw [Bool.and_eq_true,h.nm,h.hd,beq_iff_eq] at hq
          exact (hd hq).elim
       have e : keyZ l true ks x = (ks ++ [(nameZ l x).1],needZ l [58] (nameZ l x).2):=by
        unfold keyZ; rw [if_pos rfl,if_neg (by rw [e0]; decide)]
       rw [e]
       have m1:=(zm hE h.lt).mv
       have m2:=(zAB hE [58] m1.hi).mv
       have m3:=hm _ m2.hi
       have m4:=zB0 hE hm true [125] f (ks ++ [(nameZ l x).1]) (vs ++ [(val (needZ l [58] (nameZ l x).2)).1]) _ m3.hi
       refine (zBl hE hC h).then ((m2.trans m3).trans m4) fun k z hk hkk hz => ?_
       have hnc : ¬ ks.contains k = true:=fun hcc => by
        unfold nameQ at hk
        by_cases h2 : (hdT y).k = 2
        . rw [if_pos h2] at hk; cases hk; exact hd ⟨h2,hcc⟩
        . rw [if_neg h2] at hk; cases hk
       rw [if_neg hnc]
       refine (zDe hE hC hz [58]).then (m3.trans m4) fun _ u _ _ hu => ?_
       refine (hv _ _ hu).then m4 fun v o _ hvv ho => ?_
       rw [hvv,hkk]
       exact zHS hC hm hv f _ _ _ o ho
theorem zD6 (hK : Kd l) (b : Bool) : ∀ (f lv : Nat) (x : RS) (y : PS),Rl l (cV b) x y -> Rf l (cV b) Eq (valueZ l f lv x) (valueQ f lv y)
 | 0,_,_,_,_ => fun h => absurd rfl h
 | f + 1,lv,x,y,h => by
   have hC:=cc_V b
   have hk:=hK _ h.lt
   have hk : 1 <= (hdT y).k /\ (hdT y).k <= 5:=by rw [<- h.hd]; exact hk
   have hch:=zEz (l:=l) lv h.er
   rw [h.sg,h.sg,h.sg,h.hd] at hch
   have hfx : x.fx = b:=h.c.2.1
   have hvr : y.vr = !b:=h.c.2.2
   have hct : x.ct = y.nd:=h.c.1
   rw [hfx,<- hvr,hct] at hch
   have hnv : zBt y = true ↔ (simpB (hdT y) = false /\ isS y [91] = false /\ isS y [123] = false /\ (isS y [36] && y.vr) = false):=by
    unfold zBt simpB
    have hi : ∀ s,isS y s = ((hdT y).k == 1 && (hdT y).s == s):=fun _ => rfl
    rw [hi,hi,hi]
    have : (hdT y).k = 1 \/ (hdT y).k = 2 \/ (hdT y).k = 3 \/ (hdT y).k = 4 \/ (hdT y).k = 5:=by omega
    generalize ((hdT y).s == [91]) = p
    generalize ((hdT y).s == [123]) = q
    generalize ((hdT y).s == [36]) = r
    generalize y.vr = v
    rcases this with e | e | e | e | e <;> rw [e] <;> cases p <;> cases q <;> cases r <;> cases v <;> simp
   have mm:=chk_mw (l:=l) lv h.lt h.er
   have bad : ∀ (e : Int),e ≠ 0 -> (chkZ l lv x).er = e -> (chkZ l lv x).wr = (hdT y).i -> Rf l (cV b) Eq (valueZ l (f + 1) lv x) (.error ((hdT y).i,e) : PR D):=by
    intro e he h1 h2 _
    have e1 : valueZ l (f + 1) lv x = (zBG,chkZ l lv x):=by
     conv => lhs; unfold valueZ
     rw [if_neg (fun hh => hh h.er),if_pos (by rw [h1]; exact he)]
    rw [e1]
    exact ⟨h1,h2⟩
   unfold valueQ
   by_cases h1 : zBt y = true
   . rw [if_pos h1]
     rw [if_pos (hnv.1 h1)] at hch
     exact bad 3 (by decide) (by rw [hch]) (by rw [hch])
   rw [if_neg h1]
   rw [if_neg (fun hh => h1 (hnv.2 hh))] at hch
   by_cases h2 : 24 < lv
   . rw [if_pos h2]
     rw [if_pos h2] at hch
     exact bad 5 (by decide) (by rw [hch]) (by rw [hch])
   rw [if_neg h2]
   rw [if_neg h2] at hch
   by_cases h3 : 4096 <= y.nd
   . rw [if_pos h3]
     rw [if_pos (show 4096 < y.nd + 1 by omega)] at hch
     exact bad 4 (by decide) (by rw [hch]) (by rw [hch])
   rw [if_neg h3]
   rw [if_neg (show ¬ 4096 < y.nd + 1 by omega)] at hch
   have hk5 : (hdT y).k ≠ 5:=fun e => h1 (by unfold zBt; rw [e]; rfl)
   have hup : Rl l (cV b) (upZ (chkZ l lv x)) { nxT y with nd:=y.nd + 1 }:=by
    have h0:=h.upk hE hC hk5
    rw [hch]
    exact ⟨h.er,h0.lt,h0.ts,⟨rfl,rfl,by rw [<- hvr]; exact (zI2 y).1⟩⟩
   have her : ¬ (chkZ l lv x).er ≠ 0:=fun hh => hh (by rw [hch]; exact h.er)
   have elen : l.length + 1 - (upZ (chkZ l lv x)).at' = (nxT y).ts.length + 1:=by
    have h5:=hup.len
    have h6:=hup.lt
    have h7 : ({ nxT y with nd:=y.nd + 1 } : PS).ts.length = (nxT y).ts.length:=rfl
    omega
   have hval : ∀ (r : D × RS) (q : PR D),valueZ l (f + 1) lv x = r -> Rf l (cV b) Eq r q -> Rf l (cV b) Eq (valueZ l (f + 1) lv x) q:=fun r q e h => by rw [e]; exact h
   dsimp only
   by_cases k3 : (hdT y).k = 3
   . rw [if_pos k3]
     have g : ∀ s,isS y s = false:=fun s => by unfold isS; rw [k3]; rfl
     refine hval (simpV (tkZ l x),upZ (chkZ l lv x)) _ ?_ (.okk ?_ hup)
     . conv => lhs; unfold valueZ
       rw [if_neg (fun hh => hh h.er),if_neg her,h.sg,h.sg,h.sg,g,g,g]; rfl
     . rw [h.hd]; unfold simpV; rw [if_pos k3]
   rw [if_neg k3]
   by_cases k4 : (hdT y).k = 4
   . rw [if_pos k4]
     have g : ∀ s,isS y s = false:=fun s => by unfold isS; rw [k4]; rfl
     refine hval (simpV (tkZ l x),upZ (chkZ l lv x)) _ ?_ (.okk ?_ hup)
     . conv => lhs; unfold valueZ
       rw [if_neg (fun hh => hh h.er),if_neg her,h.sg,h.sg,h.sg,g,g,g]; rfl
     . rw [h.hd]; unfold simpV; rw [if_neg k3,if_pos k4]
   rw [if_neg k4]
   by_cases k2 : (hdT y).k = 2
   . rw [if_pos k2]
     have g : ∀ s,isS y s = false:=fun s => by unfold isS; rw [k2]; rfl
     refine hval (simpV (tkZ l x),upZ (chkZ l lv x)) _ ?_ (.okk ?_ hup)
     . conv => lhs; unfold valueZ
       rw [if_neg (fun hh => hh h.er),if_neg her,h.sg,h.sg,h.sg,g,g,g]; rfl
     . rw [h.hd]; unfold simpV; rw [if_neg k3,if_neg k4,if_pos k2]
   rw [if_neg k2]
   have k1 : (hdT y).k = 1:=by omega
   have gi : ∀ s,isS y s = ((hdT y).s == s):=fun s => by unfold isS; rw [k1]; rfl
   have hn0 : (simpB (hdT y)) = false:=by unfold simpB; rw [k1]; rfl
   have hvv : y.vr = !x.fx:=by rw [hvr,hfx]
   by_cases s36 : (hdT y).s = [36]
   . rw [if_pos s36]
     have g36 : isS y [36] = true:=by rw [gi,s36]; rfl
     have hv1 : y.vr = true:=by
      cases hv0 : y.vr with
      | true => rfl
      | false =>
        exfalso
        apply h1
        apply hnv.2
        refine ⟨hn0,by rw [gi,s36]; rfl,by rw [gi,s36]; rfl,by rw [hv0,Bool.and_false]⟩
     have e1 : valueZ l (f + 1) lv x = (valD 7 0 (nameZ l (upZ (chkZ l lv x))).1 [] [],(nameZ l (upZ (chkZ l lv x))).2):=by
      conv => lhs; unfold valueZ
      rw [if_neg (fun hh => hh h.er),if_neg her,h.sg,g36,<- hvv,hv1]; rfl
     rw [e1]
     exact (zBl hE hC hup).then (.refl (zm hE hup.lt).mv.hi) fun n z _ hn hz => .okk (by rw [hn]) hz
   rw [if_neg s36]
   have g36 : isS y [36] = false:=by rw [gi]; simpa using s36
   by_cases s91 : (hdT y).s = [91]
   . rw [if_pos s91]
     have g91 : isS y [91] = true:=by rw [gi,s91]; rfl
     have e1 : valueZ l (f + 1) lv x = (valD 5 0 [] (elemsZ l (valueZ l f (lv + 1)) false [93] ((nxT y).ts.length + 1) [] [] (upZ (chkZ l lv x))).1.2 (elemsZ l (valueZ l f (lv + 1)) false [93] ((nxT y).ts.length + 1) [] [] (upZ (chkZ l lv x))).1.1,(elemsZ l (valueZ l f (lv + 1)) false [93] ((nxT y).ts.length + 1) [] [] (upZ (chkZ l lv x))).2):=by
      conv => lhs; unfold valueZ
      rw [if_neg (fun hh => hh h.er),if_neg her,h.sg,h.sg,g36,g91,elen]; rfl
     rw [e1]
     have hmw : ∀ y,y.at' < l.length -> Mw l y (valueZ l f (lv + 1) y).2:=fun y hy => (zBL hE f (lv + 1) y hy).1
     exact (zJR hE hC hmw (fun x y hh => zD6 hK b f (lv + 1) x y hh) _ [] [] _ _ hup).then (.refl (zB0 hE hmw _ _ _ _ _ _ hup.lt).hi) fun a z _ ha hz => .okk (by rw [ha]) hz
   rw [if_neg s91]
   have g91 : isS y [91] = false:=by rw [gi]; simpa using s91
   have g123 : isS y [123] = true:=by
    cases g : isS y [123] with
    | true => rfl
    | false => exact (h1 (hnv.2 ⟨hn0,g91,g,by rw [g36]; rfl⟩)).elim
   have e1 : valueZ l (f + 1) lv x = (valD 6 0 [] (elemsZ l (valueZ l f (lv + 1)) true [125] ((nxT y).ts.length + 1) [] [] (upZ (chkZ l lv x))).1.2 (elemsZ l (valueZ l f (lv + 1)) true [125] ((nxT y).ts.length + 1) [] [] (upZ (chkZ l lv x))).1.1,(elemsZ l (valueZ l f (lv + 1)) true [125] ((nxT y).ts.length + 1) [] [] (upZ (chkZ l lv x))).2):=by
    conv => lhs; unfold valueZ
    rw [if_neg (fun hh => hh h.er),if_neg her,h.sg,h.sg,h.sg,g36,g91,g123,elen]; rfl
   rw [e1]
   have hmw : ∀ y,y.at' < l.length -> Mw l y (valueZ l f (lv + 1) y).2:=fun y hy => (zBL hE f (lv + 1) y hy).1
   exact (zHS hE hC hmw (fun x y hh => zD6 hK b f (lv + 1) x y hh) _ [] [] _ _ hup).then (.refl (zB0 hE hmw _ _ _ _ _ _ hup.lt).hi) fun a z _ ha hz => .okk (by rw [ha]) hz
variable (hK : Kd l)
include hK
theorem whole_rf (h : Rl l c0 x y) : Rf l c0 Eq (wholeZ l false x) (zAR y):=
 (zD6 hE hK false 25 1 { x with ct:=0,fx:=false } { y with nd:=0 } ⟨h.er,h.lt,h.ts,⟨rfl,rfl,h.c⟩⟩).mono (fun _ h => h) fun _ _ h => h.2.2
theorem defl_rf (h : Rl l c0 x y) : Rf l c0 Eq (zHW l x) (if isS y [61] = true then zX (zAR { nxT y with vr:=false }) fun d o => .ok ((true,d),{ o with vr:=true }) else .ok ((false,zBG),y)):=by
 unfold zHW
 rw [h.sg]
 by_cases hs : isS y [61] = true
 . rw [if_pos hs,if_pos hs]
   have h1:=h.ups hE cc_0 hs
   have h2 : Rf l (cV true) Eq (wholeZ l true (upZ x)) (zAR { nxT y with vr:=false }):=zD6 hE hK true 25 1 { upZ x with ct:=0,fx:=true } { nxT y with vr:=false,nd:=0 } ⟨h1.er,h1.lt,h1.ts,⟨rfl,rfl,rfl⟩⟩
   refine h2.then (.refl (zDO hE true h1.lt).mv.hi) fun d o _ hd ho => .okk ?_ ⟨ho.er,ho.lt,ho.ts,rfl⟩
   show (true,_) = (true,d)
   rw [hd]
 . rw [if_neg hs,if_neg hs]; exact .okk rfl h
def zF9 (one : Nat -> PS -> PR D) (s : List UInt8) : Nat -> List D -> PS -> PR (List D)
 | 0,_,x => .error ((hdT x).i,0)
 | f + 1,acc,x => if acc.length ≠ 0 /\ isS x s = true then .ok (acc,nxT x) else zX (one acc.length x) fun a y => zF9 one s f (acc ++ [a]) y
omit hK in
theorem zF8 {one : Nat -> RS -> D × RS} {oq : Nat -> PS -> PR D} (hm : ∀ n x,x.at' < l.length -> Mw l x (one n x).2) (ho : ∀ n x y,Rl l c0 x y -> Rf l c0 Eq (one n x) (oq n y)) (s : List UInt8) : ∀ (f : Nat) (acc : List D) (x : RS) (y : PS),Rl l c0 x y -> Rf l c0 Eq (manyZ l one s f acc x) (zF9 oq s f acc y)
 | 0,_,_,_,_ => fun h => absurd rfl h
 | f + 1,acc,x,y,h => by
   unfold manyZ zF9
   by_cases hE1 : acc.length ≠ 0 /\ isS y s = true
   . rw [if_pos hE1,if_neg (fun hh => by rw [h.sg,hE1.2] at hh; exact hh.2.elim (fun h0 => hE1.1 h0) fun h0 => absurd h0 (by decide))]
     refine .okk rfl ?_
     show Rl l c0 (needZ l s x) _
     unfold needZ
     rw [if_pos (by rw [h.sg]; exact hE1.2)]
     exact h.ups hE cc_0 hE1.2
   . have hgo : x.er = 0 /\ (acc.length = 0 \/ sgZ l s x = false):=⟨h.er,by
      rw [h.sg]
      rcases Nat.eq_zero_or_pos acc.length with h0 | h0
      . exact .inl h0
      . exact .inr (by
         cases hq : isS y s with
         | false => rfl
         | true => exact (hE1 ⟨by omega,hq⟩).elim)⟩
     rw [if_neg hE1,if_pos hgo]
     refine (ho acc.length x y h).then (zCe hE hm s f _ _ (hm _ _ h.lt).hi) fun a z _ ha hz => ?_
     rw [ha]
     exact zF8 hm ho s f _ _ z hz
def zF6 (n : Nat) (x : PS) : PR D:=if (hdT x).k = 2 /\ 16 <= n then .error ((hdT x).i,4) else zX (nameQ x) fun m y => zX (takeQ [58] y) fun _ z => zX (zAR z) fun v u => .ok (argD m v,u)
omit hE hK in
theorem zFb : ∀ (f : Nat) (acc : List D) (y : PS),argsF f acc y = zF9 zF6 [41] f acc y
 | 0,_,_ => rfl
 | f + 1,acc,y => by
   unfold argsF zF9 zF6
   split
   . rfl
   split
   . rfl
   . simp only [zAy]
     congr 1; funext m z; congr 1; funext _ u; congr 1; funext v o
     exact zFb f _ o
theorem oneArg_rf (n : Nat) (h : Rl l c0 x y) : Rf l c0 Eq (oneArg l n x) (zF6 n y):=by
 unfold zF6
 by_cases hL : (hdT y).k = 2 /\ 16 <= n
 . rw [if_pos hL]
   unfold oneArg
   rw [if_pos ⟨hL.2,h.nmT hL.1⟩]
   have m1:=(zm hE (zCi h 4)).mv
   have m2:=(zAB hE [58] m1.hi).mv
   refine .err h ?_
   exact ((m1.trans m2).trans (zDO hE false m2.hi).mv)
 . rw [if_neg hL]
   unfold oneArg
   rw [if_neg (fun hh => hL ⟨by rw [h.nm] at hh; simpa using hh.2,hh.1⟩)]
   have m1:=(zm hE h.lt).mv
   have m2:=(zAB hE [58] m1.hi).mv
   have m3:=(zDO hE false m2.hi).mv
   refine (zBl hE cc_0 h).then (m2.trans m3) fun n z _ hn hz => ?_
   refine (zDe hE cc_0 hz [58]).then m3 fun _ u _ _ hu => ?_
   exact (whole_rf hE hK hu).then (.refl m3.hi) fun v o _ hv ho => .okk (by rw [<- hn,<- hv]) ho
theorem args_rf (h : Rl l c0 x y) : Rf l c0 Eq (zv l x) (argsQ y):=by
 unfold zv argsQ
 rw [h.sg]
 by_cases hs : isS y [40] = true
 . rw [if_pos hs,if_pos hs,zFb]
   have e : l.length + 1 - (upZ x).at' = y.ts.length:=by rw [h.len]; show l.length + 1 - (x.at' + 1) = _; omega
   rw [e]
   exact zF8 hE (fun n x h => (zB8 hE n h).mv) (fun n x y h => oneArg_rf hE hK n h) _ _ _ _ _ (h.ups hE cc_0 hs)
 . rw [if_neg hs,if_neg hs]; exact .okk rfl h
theorem zJU : ∀ (f : Nat) (acc : List D) (x : RS) (y : PS),Rl l c0 x y -> Rf l c0 Eq (dirsLZ l f acc x) (dirsF f acc y)
 | 0,_,_,_,_ => fun h => absurd rfl h
 | f + 1,acc,x,y,h => by
   unfold dirsLZ dirsF
   rw [h.sg]
   by_cases hs : isS y [64] = true
   . rw [if_pos hs,if_pos hs]
     by_cases hL : 16 <= acc.length
     . rw [if_pos hL,if_pos hL]; exact .err h (.refl (zCi h 4))
     . rw [if_neg hL,if_neg hL]
       have h1:=h.ups hE cc_0 hs
       unfold zEd
       have m1:=(zm hE h1.lt).mv
       have m2:=zCq hE m1.hi
       have m3:=zGc hE f (acc ++ [dirD (nameZ l (upZ x)).1 (zv l (nameZ l (upZ x)).2).1]) _ m2.hi
       refine (zBl hE cc_0 h1).then (m2.trans m3) fun n z _ hn hz => ?_
       refine (args_rf hE hK hz).then m3 fun aa u _ ha hu => ?_
       dsimp only
       rw [hn,ha]
       exact zJU f _ _ u hu
   . rw [if_neg hs,if_neg hs]; exact .okk rfl h
theorem zGb (h : Rl l c0 x y) : Rf l c0 Eq (zw l x) (dirsQ y):=by
 unfold zw dirsQ
 have h1:=h.lt
 have e : l.length + 1 - x.at' = y.ts.length + 1:=by rw [h.len]; omega
 rw [e]
 exact zJU hE hK _ _ _ _ h
theorem sel_rf {sels : RS -> List D × RS} {sq : PS -> PR (List D)} (hm : ∀ y,y.at' < l.length -> Mw l y (sels y).2) (hv : ∀ x y,Rl l c0 x y -> Rf l c0 Eq (sels x) (sq y)) (h : Rl l c0 x y) : Rf l c0 Eq (selZ l sels x) (selQ sq y):=by
 unfold selZ selQ
 rw [h.sg]
 show Rf l c0 Eq (if isS y [46,46,46] = true then _ else _) _
 by_cases hs : isS y [46,46,46] = true
 . rw [if_pos hs,if_pos hs]
   have h1:=h.ups hE cc_0 hs
   dsimp only
   by_cases h2 : (hdT (nxT y)).k = 2 /\ (hdT (nxT y)).s ≠ onT
   . rw [if_pos h2,if_pos (by rw [h1.nm,h1.wd,h2.1]; simpa using h2.2)]
     have e : nameZ l (upZ x) = ((hdT (nxT y)).s,upZ (upZ x)):=by unfold nameZ; rw [if_pos (h1.nmT h2.1),h1.hd]
     unfold zHo
     rw [e]
     have h3:=h1.upn hE cc_0 h2.1
     exact (zGb hE hK h3).then (.refl (zBK hE h3.lt).hi) fun ds z _ hd hz => .okk (by rw [<- hd]) hz
   . rw [if_neg h2,if_neg (by
      rw [h1.nm,h1.wd]
      intro hh
      apply h2
      simp only [Bool.and_eq_true,beq_iff_eq,Bool.not_eq_true',Bool.and_eq_false_imp,beq_eq_false_iff_ne] at hh
      exact ⟨hh.1,hh.2 hh.1⟩)]
     unfold zEj
     by_cases h3 : (hdT (nxT y)).k = 2
     . have h4 : (hdT (nxT y)).s = onT:=by
        rcases Classical.em ((hdT (nxT y)).s = onT) with h5 | h5
        . exact h5
        . exact (h2 ⟨h3,h5⟩).elim
       rw [if_pos h3,if_pos (by rw [h1.wd,h3,h4]; rfl)]
       have h6:=h1.upn hE cc_0 h3
       have m1:=(zm hE h6.lt).mv
       have m2:=zBK hE m1.hi
       have m3:=hm _ m2.hi
       refine (zBl hE cc_0 h6).then (m2.trans m3) fun on z _ hn hz => ?_
       refine (zGb hE hK hz).then m3 fun ds u _ hd hu => ?_
       exact (hv _ _ hu).then (.refl m3.hi) fun ss o _ hss ho => .okk (by rw [<- hn,<- hd,<- hss]) ho
     . rw [if_neg h3,if_neg (by rw [h1.wd]; simp [h3])]
       have m2:=zBK hE h1.lt
       have m3:=hm _ m2.hi
       show Rf l c0 Eq _ (zX (dirsQ (nxT y)) _)
       refine (zGb hE hK h1).then m3 fun ds u _ hd hu => ?_
       exact (hv _ _ hu).then (.refl m3.hi) fun ss o _ hss ho => .okk (by rw [<- hd,<- hss]) ho
 . rw [if_neg hs,if_neg hs]
   unfold zEq
   have m1:=(zm hE h.lt).mv
   have m2:=zJw hE (nameZ l x) m1.hi
   have m3:=zCq hE m2.hi
   have m4:=zBK hE m3.hi
   have m5 : Mw l (zw l (zv l (zAe l (nameZ l x)).2).2).2 (if sgZ l [123] (zw l (zv l (zAe l (nameZ l x)).2).2).2 = true then sels (zw l (zv l (zAe l (nameZ l x)).2).2).2 else ([],(zw l (zv l (zAe l (nameZ l x)).2).2).2)).2:=by
    split
    . exact hm _ m4.hi
    . exact .refl m4.hi
   refine (zBl hE cc_0 h).then (((m2.trans m3).trans m4).trans m5) fun n z _ hn hz => ?_
   have ha : Rf l c0 Eq (zAe l (nameZ l x)) (if isS z [58] = true then zX (nameQ (nxT z)) fun m z => .ok ((n,m),z) else .ok (([],n),z)):=by
    unfold zAe
    rw [hz.sg]
    by_cases h58 : isS z [58] = true
    . rw [if_pos h58,if_pos h58]
      have h7:=hz.ups hE cc_0 h58
      exact (zBl hE cc_0 h7).then (.refl (zm hE h7.lt).mv.hi) fun m o _ hm' ho => .okk (by rw [<- hm',<- hn]) ho
    . rw [if_neg h58,if_neg h58]; exact .okk (by rw [<- hn]) hz
   refine ha.then ((m3.trans m4).trans m5) fun an u _ han hu => ?_
   refine (args_rf hE hK hu).then (m4.trans m5) fun aa v _ haa hv' => ?_
   refine (zGb hE hK hv').then m5 fun ds w _ hds hw => ?_
   have hss : Rf l c0 Eq (if sgZ l [123] (zw l (zv l (zAe l (nameZ l x)).2).2).2 = true then sels (zw l (zv l (zAe l (nameZ l x)).2).2).2 else ([],(zw l (zv l (zAe l (nameZ l x)).2).2).2)) (if isS w [123] = true then sq w else .ok ([],w)):=by
    rw [hw.sg]
    by_cases h9 : isS w [123] = true
    . rw [if_pos h9,if_pos h9]; exact hv _ _ hw
    . rw [if_neg h9,if_neg h9]; exact .okk rfl hw
   exact hss.then (.refl m5.hi) fun ss o _ hs' ho => .okk (by rw [<- han,<- haa,<- hds,<- hs']) ho
def zF5 (sel : PS -> PR D) (n : Nat) (x : PS) : PR D:=if ((hdT x).k = 2 \/ isS x [46,46,46] = true) /\ 64 <= n then .error ((hdT x).i,4) else sel x
omit hE hK in
theorem zG1 (sel : PS -> PR D) : ∀ (f : Nat) (acc : List D) (y : PS),setF sel f acc y = zF9 (zF5 sel) [125] f acc y
 | 0,_,_ => rfl
 | f + 1,acc,y => by
   unfold setF zF9 zF5
   split
   . rfl
   split
   . rfl
   . congr 1; funext v o
     exact zG1 sel f _ o
omit hK in
theorem oneSel_rf {sel : RS -> D × RS} {sq : PS -> PR D} (hm : ∀ y,y.at' < l.length -> Mw l y (sel y).2) (hv : ∀ x y,Rl l c0 x y -> Rf l c0 Eq (sel x) (sq y)) (n : Nat) (h : Rl l c0 x y) : Rf l c0 Eq (oneSel l sel n x) (zF5 sq n y):=by
 unfold oneSel zF5
 by_cases hL : ((hdT y).k = 2 \/ isS y [46,46,46] = true) /\ 64 <= n
 . rw [if_pos hL,if_pos ⟨hL.2,by
    rcases hL.1 with h1 | h1
    . exact .inl (h.nmT h1)
    . exact .inr (by rw [h.sg]; exact h1)⟩]
   exact .err h (hm _ (zCi h 4))
 . rw [if_neg hL,if_neg (fun hh => hL ⟨by
    rcases hh.2 with h1 | h1
    . exact .inl (by rw [h.nm] at h1; simpa using h1)
    . exact .inr (by rw [h.sg] at h1; exact h1),hh.1⟩)]
   exact hv _ _ h
theorem zFv : ∀ (f lv : Nat) (x : RS) (y : PS),Rl l c0 x y -> Rf l c0 Eq (selsZ l f lv x) (selsQ f lv y)
 | 0,_,_,_,_ => fun h => absurd rfl h
 | f + 1,lv,x,y,h => by
   unfold selsZ selsQ
   have hmw : ∀ y,y.at' < l.length -> Mw l y (selsZ l f (lv + 1) y).2:=fun y hy => zDJ hE f (lv + 1) y hy
   have hmany:=fun (n : Nat) (x : RS) (h : x.at' < l.length) => (zBS hE (fun y hy => zG3 hE hmw hy) n h).mv
   by_cases hL : isS y [123] = true /\ 24 < lv
   . rw [if_pos hL]
     have e : openZ l lv x = needZ l [123] (zk l 5 x):=by unfold openZ; rw [if_pos (by rw [h.sg]; exact hL)]
     rw [e]
     have m1:=(zAB hE [123] (zCi h 5)).mv
     exact .err h (m1.trans (zCe hE hmany _ _ _ _ m1.hi))
   . rw [if_neg hL]
     have e : openZ l lv x = needZ l [123] x:=by unfold openZ; rw [if_neg (by rw [h.sg]; exact hL)]
     rw [e]
     have m1:=(zAB hE [123] h.lt).mv
     refine (zDe hE cc_0 h [123]).then (zCe hE hmany _ _ _ _ m1.hi) fun _ z _ _ hz => ?_
     have e2 : l.length + 1 - (needZ l [123] x).at' = z.ts.length + 1:=by
      have h2:=hz.len
      have h3:=hz.lt
      dsimp only at h2 h3
      omega
     rw [e2,zG1]
     exact zF8 hE hmany (fun n x y h => oneSel_rf hE (fun y hy => (zG3 hE hmw hy).mv) (fun x y h => sel_rf hE hK hmw (fun x y h => zFv f (lv + 1) x y h) h) n h) _ _ _ _ _ hz
def zF4 (n : Nat) (x : PS) : PR D:=if isS x [36] = true /\ 16 <= n then .error ((hdT x).i,4) else
 zX (takeQ [36] x) fun _ y => zX (nameQ y) fun n z => zX (takeQ [58] z) fun _ u => zX (typQ u) fun t v =>
  zX (if isS v [61] = true then zX (zAR { nxT v with vr:=false }) fun d o => .ok ((true,d),{ o with vr:=true }) else .ok ((false,zBG),v)) fun d o => .ok (varD n t d.1 d.2,o)
omit hE hK in
theorem zDb : ∀ (f : Nat) (acc : List D) (y : PS),varsF f acc y = zF9 zF4 [41] f acc y
 | 0,_,_ => rfl
 | f + 1,acc,y => by
   unfold varsF zF9 zF4
   split
   . rfl
   split
   . rfl
   . simp only [zAy]
     congr 1; funext _ z; congr 1; funext n u; congr 1; funext _ v; congr 1; funext t w
     split
     . simp only [zAy]
       congr 1; funext d o
       exact zDb f _ _
     . exact zDb f _ _
theorem oneVar_rf (n : Nat) (h : Rl l c0 x y) : Rf l c0 Eq (oneVar l n x) (zF4 n y):=by
 unfold zF4
 by_cases hL : isS y [36] = true /\ 16 <= n
 . rw [if_pos hL]
   unfold oneVar
   rw [if_pos ⟨hL.2,by rw [h.sg]; exact hL.1⟩]
   have m1:=(zAB hE [36] (zCi h 4)).mv
   have m2:=(zm hE m1.hi).mv
   have m3:=(zAB hE [58] m2.hi).mv
   have m4:=(zIg hE m3.hi).mv
   refine .err h ?_
   exact ((((m1.trans m2).trans m3).trans m4).trans (zIG hE m4.hi))
 . rw [if_neg hL]
   unfold oneVar
   rw [if_neg (fun hh => hL ⟨by rw [h.sg] at hh; exact hh.2,hh.1⟩)]
   have m1:=(zAB hE [36] h.lt).mv
   have m2:=(zm hE m1.hi).mv
   have m3:=(zAB hE [58] m2.hi).mv
   have m4:=(zIg hE m3.hi).mv
   have m5:=zIG hE m4.hi
   refine (zDe hE cc_0 h [36]).then (((m2.trans m3).trans m4).trans m5) fun _ a _ _ ha => ?_
   refine (zBl hE cc_0 ha).then ((m3.trans m4).trans m5) fun nm b _ hn hb => ?_
   refine (zDe hE cc_0 hb [58]).then (m4.trans m5) fun _ u _ _ hu => ?_
   refine (typ_rf hE cc_0 hu).then m5 fun t v _ ht hv => ?_
   exact (defl_rf hE hK hv).then (.refl m5.hi) fun d o _ hd ho => .okk (by rw [<- hn,<- hd,<- ht]) ho
theorem vars_rf (h : Rl l c0 x y) : Rf l c0 Eq (zBN l x) (if isS y [40] = true then varsF y.ts.length [] (nxT y) else .ok ([],y)):=by
 unfold zBN
 rw [h.sg]
 by_cases hs : isS y [40] = true
 . rw [if_pos hs,if_pos hs,zDb]
   have e : l.length + 1 - (upZ x).at' = y.ts.length:=by rw [h.len]; show l.length + 1 - (x.at' + 1) = _; omega
   rw [e]
   exact zF8 hE (fun n x h => (zEc hE n h).mv) (fun n x y h => oneVar_rf hE hK n h) _ _ _ _ _ (h.ups hE cc_0 hs)
 . rw [if_neg hs,if_neg hs]; exact .okk rfl h
theorem frag_rf (h : Rl l c0 x y) : Rf l c0 Eq (zGO l x) (zA9 y):=by
 have t1:=zFp hE h.lt
 have m2 : Mw l (zAA l x).2 (if wdZ l onT (zAA l x).2 = true then upZ (zAA l x).2 else zk l 3 (zAA l x).2):=.ite (fun hs => (zDE hE t1.mv.hi hs).mv) fun _ => zBM t1.mv.hi (by decide)
 have m3:=(zm hE m2.hi).mv
 have m4:=zDJ hE 25 1 _ m3.hi
 unfold zA9
 by_cases ho : (hdT y).s = onT
 . rw [if_pos ho]
   have e : Mw l (zk l 3 x) (zAA l x).2:=by
    unfold zAA
    by_cases hw : wdZ l onT x = true
    . rw [if_pos hw]; exact (zm hE (zCi h 3)).mv
    . rw [if_neg hw]
      have hk : ¬ (hdT y).k = 2:=fun hk => hw (by rw [h.wd,hk,ho]; rfl)
      unfold nameZ
      rw [if_neg (by rw [h.nmF hk]; decide)]
      exact .refl (zCi h 3)
   refine .err h ?_
   exact (((e.trans m2).trans m3).trans m4)
 . rw [if_neg ho]
   have e : zAA l x = nameZ l x:=by unfold zAA; rw [if_neg (by rw [h.wd]; simp [ho])]
   unfold zGO
   rw [e] at m2 m3 m4 |-
   refine (zBl hE cc_0 h).then ((m2.trans m3).trans m4) fun n z _ hn hz => ?_
   by_cases hw : (hdT z).k = 2 /\ (hdT z).s = onT
   . have e2 : wdZ l onT (nameZ l x).2 = true:=by rw [hz.wd,hw.1,hw.2]; rfl
     rw [if_pos e2] at m3 m4
     rw [if_pos hw]
     dsimp only
     rw [if_pos e2]
     have hu:=hz.upn hE cc_0 hw.1
     refine (zBl hE cc_0 hu).then m4 fun on u _ hon hu' => ?_
     exact (zFv hE hK 25 1 _ _ hu').then (.refl m4.hi) fun ss o _ hss ho' => .okk (by rw [<- hn,<- hon,<- hss]) ho'
   . have e2 : ¬ wdZ l onT (nameZ l x).2 = true:=by
      rw [hz.wd]; intro hh; apply hw; simpa using hh
     rw [if_neg e2] at m3 m4
     rw [if_neg hw]
     dsimp only
     rw [if_neg e2]
     refine .err hz ?_
     exact m3.trans m4
theorem op_rf {k : Int} (hk : 0 < k) (h : Rl l c0 x y) (hn : (hdT y).k = 2) : Rf l c0 Eq (opZ l k x) (opQ k (nxT y)):=by
 have h1:=h.upn hE cc_0 hn
 unfold opZ headZ opQ
 rw [if_pos hk]
 have m1 : Mw l (upZ x) (if nmZ l (upZ x) = true then nameZ l (upZ x) else ([],upZ x)).2:=by
  split
  . exact (zm hE h1.lt).mv
  . exact .refl h1.lt
 have m2:=zFg hE m1.hi
 have m3:=zDJ hE 25 1 _ m2.hi
 have hname : Rf l c0 Eq (if nmZ l (upZ x) = true then nameZ l (upZ x) else ([],upZ x)) (if (hdT (nxT y)).k = 2 then .ok ((hdT (nxT y)).s,nxT (nxT y)) else .ok ([],nxT y)):=by
  by_cases h2 : (hdT (nxT y)).k = 2
  . rw [if_pos h2,if_pos (h1.nmT h2)]
    unfold nameZ
    rw [if_pos (h1.nmT h2)]
    exact .okk (congrArg Tok.s h1.hd) (h1.upn hE cc_0 h2)
  . rw [if_neg h2,if_neg (by rw [h1.nmF h2]; decide)]; exact .okk rfl h1
 refine hname.then (m2.trans m3) fun n z _ hnn hz => ?_
 refine (vars_rf hE hK hz).then m3 fun vs u _ hvs hu => ?_
 exact (zFv hE hK 25 1 _ _ hu).then (.refl m3.hi) fun ss o _ hss ho => .okk (by
  dsimp only
  rw [<- hnn,<- hvs,<- hss,Int.max_eq_left (by omega)]) ho
omit hE hK in
theorem kind_nn (s : List UInt8) : 0 <= zAi s:=by
 unfold zAi
 repeat' split
 all_goals decide
omit hE hK in
theorem zHL : zAi zBH = 0:=by decide
theorem zGW : ∀ (f n : Nat) (ops frs : List D) (x : RS) (y : PS),Rl l c0 x y -> n = ops.length + frs.length -> (x.at' = 0 ↔ n = 0) -> Rf l c0 Eq (docLZ l f (ops,frs) x) (docF f n ops frs y)
 | 0,_,_,_,_,_,_,_,_ => fun h => absurd rfl h
 | f + 1,n,ops,frs,x,y,h,hn,h0 => by
   unfold docF
   by_cases hend : n ≠ 0 /\ (hdT y).k = 5
   . rw [if_pos hend]
     unfold docLZ
     rw [if_neg (fun hh => by rw [h.hd] at hh; exact hh.2.elim (fun h1 => hend.1 (h0.1 h1)) fun h1 => h1 hend.2)]
     exact .okk rfl h
   rw [if_neg hend]
   have hgo : x.er = 0 /\ (x.at' = 0 \/ (tkZ l x).k ≠ 5):=⟨h.er,by
    rw [h.hd,h0]
    rcases Nat.eq_zero_or_pos n with h1 | h1
    . exact .inl h1
    . exact .inr fun h2 => hend ⟨by omega,h2⟩⟩
   have e : docLZ l (f + 1) (ops,frs) x = docLZ l f (defZ l (ops,frs) x).1 (defZ l (ops,frs) x).2:=by
    conv => lhs; unfold docLZ
    rw [if_pos hgo]
   rw [e]
   have m0:=def_pg hE (ops,frs) h.lt
   have m1:=docL_mw hE f (defZ l (ops,frs) x).1 _ m0.mv.hi
   have hlt:=fun (hz : (defZ l (ops,frs) x).2.er = 0) => m0.up hz
   dsimp only
   have ewd : wdZ l zBH x = true ↔ ((hdT y).k = 2 /\ (hdT y).s = zBH):=by rw [h.wd]; simp
   have ekd : 0 < kndZ l x ↔ ((hdT y).k = 2 /\ 0 < zAi (hdT y).s):=by
    unfold kndZ
    by_cases h2 : (hdT y).k = 2
    . rw [if_pos (h.nmT h2),h.hd]; exact ⟨fun h => ⟨h2,h⟩,fun h => h.2⟩
    . rw [if_neg (by rw [h.nmF h2]; decide)]; exact ⟨fun h => absurd h (by decide),fun h => (h2 h.1).elim⟩
   have ek0 : 0 <= kndZ l x:=by
    unfold kndZ
    split
    . exact kind_nn _
    . decide
   have hnl : (ops,frs).1.length + (ops,frs).2.length = n:=hn.symm
   by_cases hw : (hdT y).k = 2 /\ (0 < zAi (hdT y).s \/ (hdT y).s = zBH)
   . rw [if_neg (fun hh => hh.1 hw)]
     have hc1 : ¬ (wdZ l zBH x = false /\ kndZ l x = 0 /\ sgZ l [123] x = false):=fun hh => by
      rcases hw.2 with h1 | h1
      . have:=ekd.2 ⟨hw.1,h1⟩; omega
      . have:=ewd.2 ⟨hw.1,h1⟩; rw [hh.1] at this; cases this
     by_cases h64 : 64 <= n
     . rw [if_pos h64]
       have ed : defZ l (ops,frs) x = ((ops,frs),zk l 4 x):=by unfold defZ; rw [if_neg hc1,if_pos (by rw [hnl]; exact h64)]
       rw [ed] at m1 |-
       exact .err h m1
     rw [if_neg h64,if_neg (fun hh => hh hw)]
     by_cases hk : 0 < zAi (hdT y).s
     . rw [if_pos hk]
       have hnf : ¬ wdZ l zBH x = true:=fun hh => by
        have:=(ewd.1 hh).2
        rw [this,zHL] at hk
        exact absurd hk (by decide)
       have ek : kndZ l x = zAi (hdT y).s:=by unfold kndZ; rw [if_pos (h.nmT hw.1),h.hd]
       have ed : defZ l (ops,frs) x = ((ops ++ [(opZ l (zAi (hdT y).s) x).1],frs),(opZ l (zAi (hdT y).s) x).2):=by
        unfold defZ; rw [if_neg hc1,if_neg (by rw [hnl]; exact h64),if_neg hnf,ek]
       rw [ed] at m1 hlt |-
       refine (op_rf hE hK hk h hw.1).then m1 fun o z _ ho hz => ?_
       rw [ho]
       exact zGW f (n + 1) _ _ _ z hz (by rw [List.length_append]; show n + 1 = ops.length + 1 + frs.length; omega) ⟨fun hh => by have:=hlt hz.er; dsimp only at this hh; omega,fun hh => by omega⟩
     . rw [if_neg hk]
       have hf : wdZ l zBH x = true:=ewd.2 ⟨hw.1,by exact hw.2.elim (fun h1 => (hk h1).elim) fun h1 => h1⟩
       have ed : defZ l (ops,frs) x = ((ops,frs ++ [(zGO l (upZ x)).1]),(zGO l (upZ x)).2):=by
        unfold defZ; rw [if_neg hc1,if_neg (by rw [hnl]; exact h64),if_pos hf]
       rw [ed] at m1 hlt |-
       refine (frag_rf hE hK (h.upn hE cc_0 hw.1)).then m1 fun o z _ ho hz => ?_
       rw [ho]
       exact zGW f (n + 1) _ _ _ z hz (by rw [List.length_append]; show n + 1 = ops.length + (frs.length + 1); omega) ⟨fun hh => by have:=hlt hz.er; dsimp only at this hh; omega,fun hh => by omega⟩
   . have hnf : ¬ wdZ l zBH x = true:=fun hh => hw ⟨(ewd.1 hh).1,.inr (ewd.1 hh).2⟩
     have hnf2 : wdZ l zBH x = false:=by simpa using hnf
     have hk0 : kndZ l x = 0:=by
      rcases Int.lt_or_le 0 (kndZ l x) with h1 | h1
      . exact (hw ⟨(ekd.1 h1).1,.inl (ekd.1 h1).2⟩).elim
      . omega
     by_cases hs : isS y [123] = true
     . rw [if_neg (fun hh => hh.2 hs)]
       have hc1 : ¬ (wdZ l zBH x = false /\ kndZ l x = 0 /\ sgZ l [123] x = false):=fun hh => by
        rw [h.sg,hs] at hh; exact absurd hh.2.2 (by decide)
       by_cases h64 : 64 <= n
       . rw [if_pos h64]
         have ed : defZ l (ops,frs) x = ((ops,frs),zk l 4 x):=by unfold defZ; rw [if_neg hc1,if_pos (by rw [hnl]; exact h64)]
         rw [ed] at m1 |-
         exact .err h m1
       rw [if_neg h64,if_pos hw]
       have eo : opZ l 0 x = (opD 1 [] [] (selsZ l 25 1 x).1,(selsZ l 25 1 x).2):=rfl
       have ed : defZ l (ops,frs) x = ((ops ++ [opD 1 [] [] (selsZ l 25 1 x).1],frs),(selsZ l 25 1 x).2):=by
        unfold defZ; rw [if_neg hc1,if_neg (by rw [hnl]; exact h64),if_neg hnf,hk0,eo]
       rw [ed] at m1 hlt |-
       refine (zFv hE hK 25 1 _ _ h).then m1 fun ss z _ hss hz => ?_
       rw [hss]
       exact zGW f (n + 1) _ _ _ z hz (by rw [List.length_append]; show n + 1 = ops.length + 1 + frs.length; omega) ⟨fun hh => by have:=hlt hz.er; dsimp only at this hh; omega,fun hh => by omega⟩
     . rw [if_pos ⟨hw,hs⟩]
       have hs2 : isS y [123] = false:=by simpa using hs
       have ed : defZ l (ops,frs) x = ((ops,frs),zk l 3 x):=by unfold defZ; rw [if_pos ⟨hnf2,hk0,by rw [h.sg]; exact hs2⟩]
       rw [ed] at m1 |-
       exact .err h m1
end
theorem zIu : ∀ (f : Nat) (l : List UInt8) (i : Nat) (ts : List Tok),scanF f l i = .ok ts -> ∀ t ∈ ts,1 <= t.k /\ t.k <= 5
 | 0,_,_,_,h => by cases h
 | f + 1,l,i,ts,h => by
   unfold scanF at h
   split at h
   . cases h
     exact fun t ht => by rw [List.mem_singleton] at ht; subst ht; exact ⟨by show (1 : Int) <= 5; decide,by show (5 : Int) <= 5; decide⟩
   . rename_i c r hl
     split at h
     . cases h
     . rename_i t n ht
       have hu:=zC0 (zD9 ht).1
       split at h
       . cases h
       . rename_i ts' hts
         cases h
         intro u hu'
         rcases List.mem_cons.1 hu' with rfl | hu'
         . exact ⟨hu.2.2.1,by have:=hu.2.2.2; omega⟩
         . exact zIu f _ _ _ hts u hu'
theorem zJG {l : List Tok} {i : Nat} (h : i < l.length) (e : Tok) : l.getD i e ∈ l:=by
 rw [List.getD_eq_getElem?_getD,List.getElem?_eq_getElem h]; exact List.getElem_mem h
theorem scan_kd {s : List UInt8} {ts : List Tok} (h : zAp s = .ok ts) : Kd ts /\ Ed ts:=by
 obtain ⟨a,e,hts,he,-⟩:=(zFx h).1
 have hts : ts = a ++ [e]:=hts
 refine ⟨fun i hi => ?_,fun i hi hk => ?_⟩
 . unfold zAp at h
   split at h
   . cases h
   . exact zIu _ _ _ _ h _ (zJG hi _)
 . rcases Nat.lt_or_ge (i + 1) ts.length with h1 | h1
   . exact h1
   . exfalso
     apply hk
     have hl : i = a.length:=by rw [hts,List.length_append] at h1 hi; simp at h1 hi; omega
     rw [hts,hl]
     simp [List.getD_eq_getElem?_getD,he]
theorem parse_same (s : List UInt8) : parseZ s = parseT s:=by
 unfold parseZ parseT
 cases hs : zAp s with
 | error e => rfl
 | ok ts =>
   dsimp only
   obtain ⟨hK,hE⟩:=scan_kd hs
   have hEn:=(zFx hs).1
   have hne:=doc_nz hEn
   obtain ⟨a,e,hts,-⟩:=hEn
   have hts : ts = a ++ [e]:=hts
   have hlen : 0 < ts.length:=by rw [hts]; simp
   have hR : Rl ts c0 ⟨0,0,false,0,0⟩ ⟨ts,true,0⟩:=⟨rfl,hlen,rfl,rfl⟩
   have h:=zGW hE hK (ts.length + 1) 0 [] [] _ _ hR rfl ⟨fun _ => rfl,fun _ => rfl⟩
   have h : Rf ts c0 Eq (docZ ts) (docQ ts):=h
   cases hq : docQ ts with
   | error p =>
     obtain ⟨i,e⟩:=p
     rw [hq] at h hne
     have he : e ≠ 0:=fun h0 => hne i (by rw [h0])
     have h1:=h he
     dsimp only at h1
     rw [if_pos (by rw [h1.1]; exact he),h1.1,h1.2]
   | ok p =>
     obtain ⟨q,y⟩:=p
     rw [hq] at h
     rw [if_neg (fun hh => hh h.2.er),h.1]
end Go.Proofs.YthjiclhfhjdjpaaGreatDoor
namespace Go.Proofs.YthjiclhfhjdjpaaGreatDoor
open Go.RowKit
attribute [local irreducible] wpList Calls Code.wp
section
variable {X : Cx} {nn : Nat} {st : Vst nn}
def retO (P : Program) (st : Vst nn) : List ResultVar -> V -> Prop
 | [x],r => ∃ v,res1 P st x = .val True v /\ r = v
 | _,_ => False
theorem res1_okO {x : ResultVar} {v : V} {s : Sg} {w : World} {a : Act} (h : res1 X.P st x = .val True v) (hI : Inv X st s w a) :
 ∃ u,(rv1 a.tmps x).run X.P w = .ok u w /\ rel X.P s w v u:=by
 cases x with
 | tmp t =>
   simp only [res1,A1.val.injEq,true_and] at h
   subst h
   exact ⟨_,rfl,hI.ev (.tmp t)⟩
 | cell b t =>
   simp only [res1] at h
   have hb:=hI.ev (.tmp b)
   have hb2 : rel X.P s w (ev st (.tmp b)) (a.tmps.getD b undef):=hb
   obtain ⟨u,h1,h2⟩:=zGA h hI.boxes hb2
   refine ⟨u,?_,h2⟩
   unfold zD1 at h
   split at h
   . rename_i he
     rw [he,rel] at hb2
     obtain ⟨bb,o,k,cs,e1,_⟩:=hb2
     rw [e1] at h1
     show (do loadVar t (<- asAddr (a.tmps.getD b undef)) : Sem Value).run X.P w = _
     rw [e1]
     simpa [Instr.loadAt,Instr.sureAddr,asAddr] using h1
   . rename_i he
     rw [he,rel] at hb2
     obtain ⟨bb,_,e1⟩:=hb2
     rw [e1] at h1
     show (do loadVar t (<- asAddr (a.tmps.getD b undef)) : Sem Value).run X.P w = _
     rw [e1]
     simpa [Instr.loadAt,Instr.sureAddr,asAddr] using h1
   . cases h
theorem retO_ok {fn : Func} {r : V} {s : Sg} {w : World} {a : Act} (h : retO X.P st fn.results.toList r) (hI : Inv X st s w a) : ∃ u,(results fn a.tmps).run X.P w = .ok u w /\ rel X.P s w r u:=by
 obtain ⟨l,hl⟩ : ∃ l,fn.results = List.toArray l:=⟨fn.results.toList,by simp⟩
 rw [hl] at h
 simp only [List.toList_toArray] at h
 unfold retO at h
 split at h
 . obtain ⟨v,h1,rfl⟩:=h
   obtain ⟨u,q1,q2⟩:=res1_okO h1 hI
   refine ⟨u,?_,q2⟩
   simp only [zB7,hl,List.mapM_toArray,List.mapM_cons,List.mapM_nil]
   simp [q1]
 . exact h.elim
def endKO (P : Program) (rs : Array ResultVar) (r : V) (bs' : List Res) : Exit -> Vst nn -> Prop
 | .normal,st => retO P st rs.toList r /\ zDK st 0 bs'
 | .ret,st => retO P st rs.toList r /\ zDK st 0 bs'
 | _,_ => False
theorem k_endO {P : Program} {rs : Array ResultVar} {r : V} {bs' : List Res} (h : retO P st rs.toList r /\ zDK st 0 bs') : endKO P rs r bs' .normal st:=h
theorem acb_enterO {e : Ge} {P : Program} {f : FuncId} {fn : Func} {c : Code} {args : List V} {bs bs' : List Res} {r : V} (nn : Nat) (hf : P.funcs[f]? = some fn) (hb : fn.body = some c) (hnn : args.length + (fn.ntmps - args.length) = nn)
 (h : ∀ pas s w he hp,AW ⟨P,pas,s,w,e,he,hp,fun _ _ _ => False,[]⟩ c (st0b nn args bs) (endKO P fn.results r bs')) : ACB e P f args bs r bs':=by
 intro pas s w us hus hmem he hp
 have hlen:=hus.length
 have hl2 : us.toList.length = us.size:=by simp
 refine calls_of_wp hf hb ?_
 have hI : Inv ⟨P,pas,s,w,e,he,hp,fun _ _ _ => False,[]⟩ (st0b nn args bs) s w { tmps:=us ++ Array.replicate (fn.ntmps - us.size) undef,defers:=[] }:=by
  refine ⟨by simp; omega,fun i hi => ?_,rfl,Frm.refl _ _,Keeps.refl,fun _ _ _ _ h => h,hmem,PE.refl _⟩
  show rel P s w (args.getD i .any) _
  by_cases hi2 : i < args.length
  . have h1 : args[i]? = some args[i]:=List.getElem?_eq_getElem hi2
    have hi3 : i < us.size:=by omega
    have h2 : us.toList[i]? = some us[i]:=by rw [Array.getElem?_toList]; exact Array.getElem?_eq_getElem hi3
    rw [List.getD_eq_getElem?_getD,h1]
    have : (us ++ Array.replicate (fn.ntmps - us.size) undef).getD i undef = us[i]:=by
     rw [Array.getD_eq_getD_getElem?,Array.getElem?_append_left hi3,Array.getElem?_eq_getElem hi3]; rfl
    rw [this]
    exact hus.get i _ _ h1 h2
  . rw [List.getD_eq_getElem?_getD,List.getElem?_eq_none (by omega)]
    simp [rel]
 refine Code.wp_mono (fun en a' w' ⟨st',s',hI',hK⟩ => ?_) (h pas s w he hp s w _ hI)
 have fin : (retO P st' fn.results.toList r /\ zDK st' 0 bs') -> a'.defers = [] /\ ∃ v,(results fn a'.tmps).run P w' = .ok v w' /\ ∃ v' s2,Ending.returned v = .returned v' /\ Frm pas w w' /\ Keeps s.F s2.F w w' /\ (∀ b o,b < w.heap.size -> ¬ pas b -> s2.F b o -> s.F b o) /\ MemOk P pas w.heap.size (rsOf bs') s2 w' /\ PE s s2 /\ rel P s2 w' r v':=fun ⟨hv,hh⟩ => by
  obtain ⟨u,h1,h2⟩:=retO_ok (X:=⟨P,pas,s,w,e,he,hp,fun _ _ _ => False,[]⟩) hv hI'
  refine ⟨hI'.df,u,h1,u,s',rfl,hI'.fr,hI'.kp,hI'.nf,hI'.mem.sub fun n ρ hn => ?_,hI'.pe,h2⟩
  obtain ⟨i,rfl,hi⟩:=zAF hn
  have:=zCg hh i ρ hi
  rwa [Nat.zero_add] at this
 rcases hK with hK | ⟨_,_,hK⟩
 . cases en
   case normal => exact fin hK
   case ret => exact fin hK
   all_goals exact hK.elim
 . exact hK.elim
end
end Go.Proofs.YthjiclhfhjdjpaaGreatDoor
namespace Go.Proofs.YthjiclhfhjdjpaaGreatDoor
open Go.RowKit
set_option linter.unusedSectionVars false
attribute [local irreducible] wpList Calls Code.wp AW AWo OpOk seqK zAI zAO loopK endK AC zp Yld Sub
attribute [local irreducible] ACB ACX ACE absLexG YldG absLexU YldU absLexH
theorem kindF_ac (s : List UInt8) : AC EN5 Tryz.prog 145 [.c (.string (bs s))] (.c (.int .i64 (zAi s))):=by
 refine zF 10 Tryz.func145 rfl rfl rfl rfl ?_
 intro s0 w he
 repeat' (first
|refine zA ?_
|refine zB ?_
|refine zG ?_
|refine zb ?_
|apply aw_1
 conv => whnf
 refine ⟨?_,trivial⟩
|apply s_1
 conv => whnf; arg 1; arg 4; arg 3; whnf
 refine ⟨?_,?_⟩
|refine zg (by conv => lhs; whnf) ?_ ?_ <;> intro hb
|refine zU ?_
|refine za ?_
|refine zC ?_
|refine ⟨_,by conv => lhs; whnf; arg 2; whnf,?_⟩; conv => rhs; whnf
|exact trivial)
 . rw [kq_1 (zCa hb)]
 . rw [kq_2 (zA2 ‹_›) (zCa hb)]
 . rw [kq_3 (zA2 ‹_›) (zA2 ‹_›) (zCa hb)]
 . rw [kq_4 (zA2 ‹_›) (zA2 ‹_›) (zA2 hb)]
noncomputable def Hd5 (l : List Tok) (x : RS) (ops frs : List D) (fr : Bool) (k : Int) : Vst 116:=
 stS 116 [(0,.bx (pn 0) 0),(3,.bx 3 0),(4,.bx 4 0),(5,.c (.bool fr)),(6,.c (.int .i64 k))]
  [(pn 0,boxF l x),(pn 1,.tok 57 ops.length),(pn 2,.tok 116 frs.length),(3,.box 41 [.own (pn 1) 57 ops,.own (pn 2) 116 frs]),(4,.box 41 [.c (.slice none 0 0),.c (.slice none 0 0)])]
section
variable (l : List Tok) (hE : Ed l) (hl : l.length <= 100000) (hS : ∀ i,i < l.length -> (l.getD i ⟨5,[],0⟩).s.length <= 100000)
include hE hl hS
theorem defF_acb (ops frs : List D) (x : RS) (hx : x.at' < l.length) (ho : ops.length <= 1000 /\ frs.length <= 1000) : ACB EN5 Tryz.prog 75 [.bx (pn 0) 0,.agg [.own (pn 1) 57 ops,.own (pn 2) 116 frs]] [boxF l x,.tok 57 ops.length,.tok 116 frs.length] (.agg [.own (pn 1) 57 (defZ l (ops,frs) x).1.1,.own (pn 2) 116 (defZ l (ops,frs) x).1.2]) [boxF l (defZ l (ops,frs) x).2,.tok 57 ((defZ l (ops,frs) x).1.1).length,.tok 116 ((defZ l (ops,frs) x).1.2).length]:=by
 have hk0 : 0 <= kndZ l x:=by
  unfold kndZ
  split
  . exact kind_nn _
  . decide
 have h1:=zCu l x hx zBH
 have h2:=zAq l x hx
 have h3:=zr l x hx [123]
 have hsum : ((ops.length : Int) + (frs.length : Int)) = ((ops.length + frs.length : Nat) : Int):=by omega
 have hkd : AC EN5 Tryz.prog 145 [.c (.string ((gD (l.map tokD) ((x.at' : Int)).toNat).f 1).s)] (.c (.int .i64 (zAi (tkZ l x).s))):=by
  rw [show gD (l.map tokD) ((x.at' : Int)).toNat = tokD (tkZ l x) from zCN l hx]
  exact kindF_ac (tkZ l x).s
 have eK : nmZ l x = true -> zAi (tkZ l x).s = kndZ l x:=fun h => by unfold kndZ; rw [if_pos h]
 have hcs : wdZ l zBH x = true \/ (wdZ l zBH x = false /\ 0 < kndZ l x) \/ (wdZ l zBH x = false /\ kndZ l x = 0 /\ sgZ l [123] x = false) \/ (wdZ l zBH x = false /\ kndZ l x = 0 /\ sgZ l [123] x = true):=by
  cases hf : wdZ l zBH x
  . by_cases hk : 0 < kndZ l x
    . exact .inr (.inl ⟨rfl,hk⟩)
    . cases hs : sgZ l [123] x
      . exact .inr (.inr (.inl ⟨rfl,by omega,rfl⟩))
      . exact .inr (.inr (.inr ⟨rfl,by omega,rfl⟩))
  . exact .inl rfl
 rcases hcs with hf | ⟨hf,hk⟩ | ⟨hf,hk,hs⟩ | ⟨hf,hk,hs⟩
 have hc1 : ¬ (wdZ l zBH x = false /\ kndZ l x = 0 /\ sgZ l [123] x = false):=fun h => by rw [hf] at h; cases h.1
 have hf0:=hf
 have hn : nmZ l x = true:=by unfold wdZ at hf; simp only [Bool.and_eq_true] at hf; exact hf.1
 have hk : kndZ l x = 0:=by rw [<- eK hn,(wd_k hf).2.2]; exact zHL
 have hkd : nmZ l x = true -> AC EN5 Tryz.prog 145 [.c (.string ((gD (l.map tokD) ((x.at' : Int)).toNat).f 1).s)] (.c (.int .i64 0)):=fun h => by rw [eK h,hk] at hkd; exact hkd
 rw [hf] at h1
 by_cases hn64 : 64 <= ops.length + frs.length
 have hge : decide (((ops.length : Int) + (frs.length : Int)) >= 64) = true:=decide_eq_true (by omega)
 have h4:=zAS l x 4 hx
 let Bf:=true
 let Kf : Int:=0
 have e : defZ l (ops,frs) x = ((ops,frs),zk l 4 x):=by
  unfold defZ; rw [if_neg hc1,if_pos (show 64 <= ops.length + frs.length from hn64)]
 rotate_left 1
 have hge : decide (((ops.length : Int) + (frs.length : Int)) >= 64) = false:=decide_eq_false (by omega)
 have hup:=(zDE hE hx hf0).mv.hi
 have k0:=title_acb l (upZ x) hE hup hl
 have m0:=(zFp hE hup).mv.hi
 have h5:=zCu l (zAA l (upZ x)).2 m0 onT
 rcases hm : wdZ l onT (zAA l (upZ x)).2 with _ | _
 rw [hm] at h5
 have h6:=zAS l (zAA l (upZ x)).2 3 m0
 have m1 : (zk l 3 (zAA l (upZ x)).2).at' < l.length:=(zBM m0 (by decide)).hi
 have k1:=z8 l (zk l 3 (zAA l (upZ x)).2) m1 hl
 have m2:=(zm hE m1).mv.hi
 have k2 : ACB EN5 Tryz.prog 150 [.bx (pn 0) 0,.c (.int .i64 1)] [boxF l (nameZ l (zk l 3 (zAA l (upZ x)).2)).2] (.sl 76 (selsZ l 25 1 (nameZ l (zk l 3 (zAA l (upZ x)).2)).2).1) [boxF l (selsZ l 25 1 (nameZ l (zk l 3 (zAA l (upZ x)).2)).2).2]:=zB5 l hE hl hS 24 1 (nameZ l (zk l 3 (zAA l (upZ x)).2)).2 m2 rfl
 let Bf:=true
 let Kf : Int:=0
 let vf:=(zGP (zAA l (upZ x)).1 (nameZ l (zk l 3 (zAA l (upZ x)).2)).1 (selsZ l 25 1 (nameZ l (zk l 3 (zAA l (upZ x)).2)).2).1)
 have e : defZ l (ops,frs) x = ((ops,frs ++ [vf]),(selsZ l 25 1 (nameZ l (zk l 3 (zAA l (upZ x)).2)).2).2):=by
  unfold defZ; rw [if_neg hc1,if_neg (show ¬ 64 <= ops.length + frs.length from hn64),if_pos hf0]; unfold zGO; dsimp only; rw [if_neg (by rw [hm]; decide)]
 rotate_left 1
 rw [hm] at h5
 have m1:=(zDE hE m0 hm).mv.hi
 have k1:=z8 l (upZ (zAA l (upZ x)).2) m1 hl
 have m2:=(zm hE m1).mv.hi
 have k2 : ACB EN5 Tryz.prog 150 [.bx (pn 0) 0,.c (.int .i64 1)] [boxF l (nameZ l (upZ (zAA l (upZ x)).2)).2] (.sl 76 (selsZ l 25 1 (nameZ l (upZ (zAA l (upZ x)).2)).2).1) [boxF l (selsZ l 25 1 (nameZ l (upZ (zAA l (upZ x)).2)).2).2]:=zB5 l hE hl hS 24 1 (nameZ l (upZ (zAA l (upZ x)).2)).2 m2 rfl
 let Bf:=true
 let Kf : Int:=0
 let vf:=(zGP (zAA l (upZ x)).1 (nameZ l (upZ (zAA l (upZ x)).2)).1 (selsZ l 25 1 (nameZ l (upZ (zAA l (upZ x)).2)).2).1)
 have e : defZ l (ops,frs) x = ((ops,frs ++ [vf]),(selsZ l 25 1 (nameZ l (upZ (zAA l (upZ x)).2)).2).2):=by
  unfold defZ; rw [if_neg hc1,if_neg (show ¬ 64 <= ops.length + frs.length from hn64),if_pos hf0]; unfold zGO; dsimp only; rw [if_pos hm]
 rotate_left 1
 have hc1 : ¬ (wdZ l zBH x = false /\ kndZ l x = 0 /\ sgZ l [123] x = false):=fun h => by omega
 have hnf : ¬ wdZ l zBH x = true:=by rw [hf]; decide
 have hn : nmZ l x = true:=knd_nm hE hk
 have hkd : nmZ l x = true -> AC EN5 Tryz.prog 145 [.c (.string ((gD (l.map tokD) ((x.at' : Int)).toNat).f 1).s)] (.c (.int .i64 (kndZ l x))):=fun h => by rw [eK h] at hkd; exact hkd
 rw [hf] at h1
 have gk : ((kndZ l x == 0) == true) = false:=by
  have : (kndZ l x == 0) = false:=by rw [beq_eq_false_iff_ne]; omega
  rw [this]; rfl
 have gk2 : decide (kndZ l x > 0) = true:=decide_eq_true hk
 by_cases hn64 : 64 <= ops.length + frs.length
 have hge : decide (((ops.length : Int) + (frs.length : Int)) >= 64) = true:=decide_eq_true (by omega)
 have h4:=zAS l x 4 hx
 let Bf:=false
 let Kf : Int:=kndZ l x
 have e : defZ l (ops,frs) x = ((ops,frs),zk l 4 x):=by
  unfold defZ; rw [if_neg hc1,if_pos (show 64 <= ops.length + frs.length from hn64)]
 rotate_left 1
 have hge : decide (((ops.length : Int) + (frs.length : Int)) >= 64) = false:=decide_eq_false (by omega)
 have hup:=(zH2 hE hx hn).mv.hi
 have h5:=zAq l (upZ x) hup
 rcases hm : nmZ l (upZ x) with _ | _
 rw [hm] at h5
 have m0:=hup
 have k1:=zGr l hE hl hS (upZ x) m0
 have m1:=(zFg hE m0).hi
 have k2 : ACB EN5 Tryz.prog 150 [.bx (pn 0) 0,.c (.int .i64 1)] [boxF l (zBN l (upZ x)).2] (.sl 76 (selsZ l 25 1 (zBN l (upZ x)).2).1) [boxF l (selsZ l 25 1 (zBN l (upZ x)).2).2]:=zB5 l hE hl hS 24 1 (zBN l (upZ x)).2 m1 rfl
 let Bf:=false
 let Kf : Int:=kndZ l x
 let vo:=(opD (if kndZ l x < 1 then 1 else kndZ l x) [] (zBN l (upZ x)).1 (selsZ l 25 1 (zBN l (upZ x)).2).1)
 have e : defZ l (ops,frs) x = ((ops ++ [vo],frs),(selsZ l 25 1 (zBN l (upZ x)).2).2):=by
  unfold defZ; rw [if_neg hc1,if_neg (show ¬ 64 <= ops.length + frs.length from hn64),if_neg hnf]; unfold opZ headZ; rw [if_pos hk,if_neg (by rw [hm]; decide),show max (kndZ l x) 1 = (if kndZ l x < 1 then 1 else kndZ l x) by rw [if_neg (by omega)]; omega]
 rotate_left 1
 rw [hm] at h5
 have k0:=z8 l (upZ x) hup hl
 have m0:=(zm hE hup).mv.hi
 have k1:=zGr l hE hl hS (nameZ l (upZ x)).2 m0
 have m1:=(zFg hE m0).hi
 have k2 : ACB EN5 Tryz.prog 150 [.bx (pn 0) 0,.c (.int .i64 1)] [boxF l (zBN l (nameZ l (upZ x)).2).2] (.sl 76 (selsZ l 25 1 (zBN l (nameZ l (upZ x)).2).2).1) [boxF l (selsZ l 25 1 (zBN l (nameZ l (upZ x)).2).2).2]:=zB5 l hE hl hS 24 1 (zBN l (nameZ l (upZ x)).2).2 m1 rfl
 let Bf:=false
 let Kf : Int:=kndZ l x
 let vo:=(opD (if kndZ l x < 1 then 1 else kndZ l x) (nameZ l (upZ x)).1 (zBN l (nameZ l (upZ x)).2).1 (selsZ l 25 1 (zBN l (nameZ l (upZ x)).2).2).1)
 have e : defZ l (ops,frs) x = ((ops ++ [vo],frs),(selsZ l 25 1 (zBN l (nameZ l (upZ x)).2).2).2):=by
  unfold defZ; rw [if_neg hc1,if_neg (show ¬ 64 <= ops.length + frs.length from hn64),if_neg hnf]; unfold opZ headZ; rw [if_pos hk,if_pos hm,show max (kndZ l x) 1 = (if kndZ l x < 1 then 1 else kndZ l x) by rw [if_neg (by omega)]; omega]
 rotate_left 1
 rw [hf] at h1
 rw [hs] at h3
 have hkd : nmZ l x = true -> AC EN5 Tryz.prog 145 [.c (.string ((gD (l.map tokD) ((x.at' : Int)).toNat).f 1).s)] (.c (.int .i64 0)):=fun h => by rw [eK h,hk] at hkd; exact hkd
 have h4:=zAS l x 3 hx
 let Bf:=false
 let Kf : Int:=0
 have e : defZ l (ops,frs) x = ((ops,frs),zk l 3 x):=by
  unfold defZ; rw [if_pos ⟨hf,hk,hs⟩]
 rotate_left 1
 have hc1 : ¬ (wdZ l zBH x = false /\ kndZ l x = 0 /\ sgZ l [123] x = false):=fun h => by rw [hs] at h; cases h.2.2
 have hnf : ¬ wdZ l zBH x = true:=by rw [hf]; decide
 rw [hf] at h1
 rw [hs] at h3
 have hkd : nmZ l x = true -> AC EN5 Tryz.prog 145 [.c (.string ((gD (l.map tokD) ((x.at' : Int)).toNat).f 1).s)] (.c (.int .i64 0)):=fun h => by rw [eK h,hk] at hkd; exact hkd
 by_cases hn64 : 64 <= ops.length + frs.length
 have hge : decide (((ops.length : Int) + (frs.length : Int)) >= 64) = true:=decide_eq_true (by omega)
 have h4:=zAS l x 4 hx
 let Bf:=false
 let Kf : Int:=0
 have e : defZ l (ops,frs) x = ((ops,frs),zk l 4 x):=by
  unfold defZ; rw [if_neg hc1,if_pos (show 64 <= ops.length + frs.length from hn64)]
 rotate_left 1
 have hge : decide (((ops.length : Int) + (frs.length : Int)) >= 64) = false:=decide_eq_false (by omega)
 have k1 : ACB EN5 Tryz.prog 150 [.bx (pn 0) 0,.c (.int .i64 1)] [boxF l x] (.sl 76 (selsZ l 25 1 x).1) [boxF l (selsZ l 25 1 x).2]:=zB5 l hE hl hS 24 1 x hx rfl
 let Bf:=false
 let Kf : Int:=0
 let vo:=opD 1 [] [] (selsZ l 25 1 x).1
 have e : defZ l (ops,frs) x = ((ops ++ [vo],frs),(selsZ l 25 1 x).2):=by
  unfold defZ; rw [if_neg hc1,if_neg (show ¬ 64 <= ops.length + frs.length from hn64),if_neg hnf,hk]; rfl
 rotate_left 1
 all_goals
  rw [e]
  dsimp only
  refine acb_enterO (fn:=Tryz.f75) 116 Tryz.func75 rfl rfl ?_
  intro pas w0 w he hp
  repeat' (first
|apply s_m (zf l) (zH l) rfl
 . conv => lhs; whnf
 . conv => lhs; whnf
 . rfl
 . conv => lhs; whnf; arg 1; whnf
 . first | exact zt _ _ | exact zCO _ _
 . first | exact h1 | exact h2 | exact h3 | exact h4 | exact h5 | exact h6 | exact k0 | exact k1 | exact k2
 . exact fun _ => rfl
 . exact fun _ => rfl
|apply zj (zf l) (zH l) rfl
 . conv => lhs; whnf
 . conv => lhs; whnf
 . first | rfl | assumption
 . conv => lhs; whnf
 . rfl
 . conv => lhs; whnf; arg 1; whnf
 . first | exact zt _ _ | exact zCO _ _
 . first | exact h1 | exact h2 | exact h3 | exact h4 | exact h5 | exact h6 | exact k0 | exact k1 | exact k2
 . exact fun _ => rfl
 . exact fun _ => rfl
|apply zd rfl
 . conv => lhs; whnf
 . conv => lhs; whnf
 . first | rfl | assumption
|apply s_max rfl rfl rfl
 . conv => lhs; whnf; arg 1; whnf
 . conv => lhs; whnf; arg 1; whnf
|apply zAL (VO vo) rfl rfl
 . conv => lhs; whnf; arg 2; whnf
 . repeat' (first | exact VLe.refl _ | exact VLe.nil _ | exact VLe.lit _ _ | exact VLe.own _ _ _ | apply VLe.agg | apply VLeL.cons | exact VLeL.nil)
|apply zBP [vo] rfl rfl
 . conv => lhs; whnf
 . first | exact zDw | exact zC6 | (conv => lhs; whnf; arg 1; whnf)
 . rfl
 . rfl
 . repeat' (first | exact trivial | apply And.intro | rfl)
|apply zAL (VF vf) rfl rfl
 . conv => lhs; whnf; arg 2; whnf
 . repeat' (first | exact VLe.refl _ | exact VLe.nil _ | exact VLe.lit _ _ | exact VLe.own _ _ _ | apply VLe.agg | apply VLeL.cons | exact VLeL.nil)
|apply zBP [vf] rfl rfl
 . conv => lhs; whnf
 . first | exact zDw | exact zC6 | (conv => lhs; whnf; arg 1; whnf)
 . rfl
 . rfl
 . repeat' (first | exact trivial | apply And.intro | rfl)
|apply zJ
 . conv => lhs; whnf
 . assumption
|apply zE
 . conv => lhs; whnf
 . assumption
|apply zAw 5 (Hd5 l x ops frs Bf Kf) rfl
|refine zHN ?_
|refine zA ?_
|refine zB ?_
|refine zG ?_
|apply aw_1
 conv => whnf
 refine ⟨?_,trivial⟩
|apply zV rfl rfl
 . conv => lhs; whnf
 . conv => lhs; whnf
 . first | exact bF1 ‹_› | exact bF2 ‹_›
|apply s_1
 conv => whnf; arg 1; arg 4; arg 3; whnf
 refine ⟨?_,?_⟩
|apply zAV rfl rfl rfl rfl
 . conv => lhs; whnf; arg 1; whnf
 . rfl
|apply zI rfl rfl rfl
 . conv => lhs; whnf
 . conv => lhs; whnf; arg 1; whnf
 . conv => lhs; whnf; arg 1; whnf
 . exact ⟨by kernel_rfl,by kernel_rfl⟩
 . rfl
|apply zBQ rfl rfl
 . conv => lhs; whnf
 . first | exact zDw | exact zC6 | (conv => lhs; whnf; arg 1; whnf)
 . first | exact fun _ => rfl | (intro _; kernel_rfl)
 . conv => lhs; whnf
 . conv => lhs; whnf; arg 1; whnf
 . conv => lhs; whnf
|apply zBY (by kernel_rfl) (by kernel_rfl)
|apply zDz
|apply zDy rfl
 . conv => lhs; whnf
 . conv => lhs; whnf; arg 2; whnf
|apply y_call rfl
 . conv => lhs; whnf
 . conv => lhs; whnf
 . first | exact hkd ‹_›
|exact zAK
|exact zA1
|exact (1000000 : Nat)
|refine zg (by conv => lhs; whnf) ?_ ?_ <;> intro hb
|refine zU ?_
|refine k_endO ⟨?_,?_⟩
|refine ⟨_,by conv => lhs; whnf; arg 2; whnf,?_⟩; conv => rhs; whnf
|exact trivial)
  all_goals first
   | exact zS (by omega)
   | exact zCB l hx
   | exact Sub.live ⟨rfl,rfl,rfl,rfl,rfl,trivial⟩ ⟨rfl,rfl,rfl,rfl,rfl,trivial⟩
   | (exfalso; have q : (true : Bool) = false:=by assumption; cases q)
   | (refine ⟨by simp,?_,?_⟩ <;> simp only [List.length_cons,List.length_nil,maxLen] <;> omega)
   | exact ⟨rfl,rfl,rfl,trivial⟩
   | exact ⟨rfl,by rw [List.length_append]; rfl,rfl,trivial⟩
   | exact ⟨rfl,rfl,by rw [List.length_append]; rfl,trivial⟩
   | rfl
   | skip
end
end Go.Proofs.YthjiclhfhjdjpaaGreatDoor
namespace Go.Proofs.YthjiclhfhjdjpaaGreatDoor
def tw : List Tok -> Nat
 | [] => 0
 | t :: r => t.s.length + 40 + tw r
def Bd {α : Type} (μ : α -> Nat) (N : Nat) (r : PR α) : Prop:=∀ v y,r = .ok (v,y) -> μ v + tw y.ts <= N
section
variable {α β : Type} {μ : α -> Nat} {ν : β -> Nat} {N M : Nat}
theorem Bd.okk {v : α} {y : PS} (h : μ v + tw y.ts <= N) : Bd μ N (.ok (v,y) : PR α):=fun _ _ e => by cases e; exact h
theorem Bd.err {e : Nat × Int} : Bd μ N (.error e : PR α):=fun _ _ h => by cases h
theorem Bd.ite {c : Prop} [Decidable c] {a b : PR α} (h1 : c -> Bd μ N a) (h2 : ¬ c -> Bd μ N b) : Bd μ N (if c then a else b):=by
 split
 . exact h1 ‹_›
 . exact h2 ‹_›
theorem Bd.then {r : PR α} {f : α -> PS -> PR β} (h : Bd μ N r) (hf : ∀ a x,μ a + tw x.ts <= N -> Bd ν M (f a x)) : Bd ν M (zX r f):=by
 cases hr : r with
 | error e =>
   rw [then_err (r:=.error e) rfl]
   exact .err
 | ok p =>
   obtain ⟨a,x⟩:=p
   rw [zR (r:=.ok (a,x)) rfl]
   exact hf a x (h a x hr)
end
theorem tw_nx (x : PS) : tw (nxT x).ts <= tw x.ts:=by
 unfold nxT
 split
 . exact Nat.le_refl _
 . cases hx : x.ts with
   | nil => simp [hx]
   | cons t r => simp [hx,tw]
theorem tw_hd {x : PS} (h : (hdT x).k ≠ 5) : tw (nxT x).ts + (hdT x).s.length + 40 <= tw x.ts:=by
 unfold nxT
 rw [if_neg h]
 cases hx : x.ts with
 | nil => unfold hdT at h; rw [hx] at h; exact absurd rfl h
 | cons t r =>
   have : hdT x = t:=by unfold hdT; rw [hx]; rfl
   rw [this]
   simp [tw]; omega
theorem tw_k2 {x : PS} (h : (hdT x).k = 2) : tw (nxT x).ts + (hdT x).s.length + 40 <= tw x.ts:=tw_hd (by omega)
theorem zDF {x : PS} {s : List UInt8} (h : isS x s = true) : tw (nxT x).ts + 40 <= tw x.ts:=by
 have hk : (hdT x).k = 1:=by unfold isS at h; simp at h; exact h.1
 have:=tw_hd (x:=x) (by omega)
 omega
theorem zBy (s : List UInt8) : bulkD (strD s) = s.length + 1:=by simp [strD,bulkD,ByteArray.size]
theorem zAr : ∀ (a b : List D),bulkL (a ++ b) = bulkL a + bulkL b
 | [],b => by simp [bulkL]
 | x :: r,b => by
   have:=zAr r b
   simp [bulkL,this]; omega
theorem zBC (x : D) : bulkL [x] = bulkD x:=by simp [bulkL]
def sl (s : List UInt8) : Nat:=s.length + 40
theorem zDf (s : List UInt8) (x : PS) : Bd (fun _ => 40) (tw x.ts) (takeQ s x):=by
 unfold takeQ
 exact .ite (fun h => .okk (by have:=zDF h; omega)) fun _ => .err
theorem zBU (x : PS) : Bd sl (tw x.ts) (nameQ x):=by
 unfold nameQ
 exact .ite (fun h => .okk (by have:=tw_k2 h; unfold sl; omega)) fun _ => .err
theorem open_bd : ∀ (f : Nat) (x : PS),tw (openQ f x).2.ts + 40 * (openQ f x).1 <= tw x.ts
 | 0,x => by simp [openQ]
 | f + 1,x => by
   unfold openQ
   by_cases h : isS x [91] = true
   . rw [if_pos h]
     have:=open_bd f (nxT x)
     have:=zDF h
     dsimp only; omega
   . rw [if_neg h]; simp
theorem zJj : ∀ (n : Nat) (w : List Int) (x : PS),Bd (fun v : List Int => v.length) (w.length + tw x.ts) (closeQ n w x)
 | 0,w,x => by
   unfold closeQ
   by_cases h : isS x [33] = true
   . rw [if_pos h]
     have:=zDF h
     exact .okk (by simp; omega)
   . rw [if_neg h]
     exact .okk (by simp)
 | n + 1,w,x => by
   unfold closeQ
   refine .then (zDf _ _) fun _ y h => ?_
   have h2:=zJj n (2 :: (if isS x [33] = true then 1 :: w else w)) y
   intro v z hv
   have h3:=h2 v z hv
   by_cases hs : isS x [33] = true
   . have:=zDF hs
     rw [if_pos hs] at h h3
     simp only [List.length_cons] at h3
     show v.length + _ <= _
     omega
   . rw [if_neg hs] at h h3
     simp only [List.length_cons] at h3
     show v.length + _ <= _
     omega
theorem inner_bd (x : PS) : Bd (fun t : List UInt8 × List Int => t.1.length + 40 + t.2.length) (tw x.ts) (innerQ x):=by
 have h0:=open_bd x.ts.length x
 refine .then (zBU _) fun n y h1 => .then (zJj _ [] y) fun w z h2 => .okk ?_
 unfold sl at h1
 simp only [List.length_nil] at h2
 dsimp only
 omega
theorem zHP : ∀ w : List Int,bulkL (w.map D.int) = w.length
 | [] => rfl
 | x :: r => by
   have:=zHP r
   simp [bulkL,bulkD,this]; omega
theorem typ_bd (x : PS) : Bd (fun d => bulkD d + 30) (tw x.ts) (typQ x):=by
 refine .then (inner_bd x) fun t y h => .ite (fun _ => .err) fun _ => .okk ?_
 have e : bulkD (refD t.1 t.2) = t.1.length + t.2.length + 3:=by
  simp [refD,bulkD,bulkL,strD,zHP,ByteArray.size]; omega
 rw [e]; omega
def kl : List (List UInt8) -> Nat
 | [] => 0
 | k :: r => k.length + 1 + kl r
theorem kl_app : ∀ (a : List (List UInt8)) (k : List UInt8),kl (a ++ [k]) = kl a + (k.length + 1)
 | [],k => by simp [kl]
 | x :: r,k => by
   have:=kl_app r k
   simp [kl,this]; omega
theorem kl_bulk : ∀ ks : List (List UInt8),bulkL (ks.map strD) = kl ks
 | [] => rfl
 | k :: r => by
   have:=kl_bulk r
   simp [bulkL,kl,this,zBy]
theorem zCw (k n : Int) (s : List UInt8) (items : List D) (keys : List (List UInt8)) : bulkD (valD k n s items keys) = s.length + bulkL items + kl keys + 6:=by
 simp only [valD,bulkD,bulkL,zBy,kl_bulk]; omega
theorem word_bulk (s : List UInt8) : bulkD (zC9 s) <= s.length + 6:=by
 unfold zC9 zBG
 repeat' split
 all_goals
  rw [zCw]
  simp [bulkL,kl]
section
variable {v : PS -> PR D} (hv : ∀ y,Bd bulkD (tw y.ts) (v y))
include hv
theorem zJC : ∀ (f : Nat) (acc : List D) (x : PS),Bd bulkL (bulkL acc + tw x.ts) (itemsQ v f acc x)
 | 0,_,_ => .err
 | f + 1,acc,x => by
   unfold itemsQ
   refine .ite (fun h => .okk (by have:=zDF h; omega)) fun _ => .then (hv x) fun a y h => ?_
   have:=zJC f (acc ++ [a]) y
   rw [zAr,zBC] at this
   exact fun u z hu => by have:=this u z hu; omega
theorem zHV : ∀ (f : Nat) (ks : List (List UInt8)) (acc : List D) (x : PS),Bd (fun p : List (List UInt8) × List D => kl p.1 + bulkL p.2) (kl ks + bulkL acc + tw x.ts) (zy v f ks acc x)
 | 0,_,_,_ => .err
 | f + 1,ks,acc,x => by
   unfold zy
   refine .ite (fun h => .okk (by have:=zDF h; dsimp only; omega)) fun _ => .then (zBU x) fun k y h1 => .ite (fun _ => .err) fun _ => .then (zDf _ y) fun _ z h2 => .then (hv z) fun a u h3 => ?_
   have:=zHV f (ks ++ [k]) (acc ++ [a]) u
   rw [zAr,zBC,kl_app] at this
   unfold sl at h1
   exact fun w z hu => by have:=this w z hu; dsimp only at this |-; omega
end
theorem zId : ∀ (f lv : Nat) (x : PS),Bd (fun d => bulkD d + 20) (tw x.ts) (valueQ f lv x)
 | 0,_,_ => .err
 | f + 1,lv,x => by
   have ih : ∀ y,Bd bulkD (tw y.ts) (valueQ f (lv + 1) y):=fun y u z h => by have:=zId f (lv + 1) y u z h; dsimp only at this; omega
   unfold valueQ
   refine .ite (fun _ => .err) fun hn => .ite (fun _ => .err) fun _ => .ite (fun _ => .err) fun _ => ?_
   have hk : (hdT x).k ≠ 5:=fun h => hn (by unfold zBt; simp [h])
   have hw:=tw_hd hk
   dsimp only
   refine .ite (fun _ => .okk ?_) fun _ => .ite (fun _ => .okk ?_) fun _ => .ite (fun _ => .okk ?_) fun _ => .ite (fun _ => .then (zBU _) fun n z h => .okk ?_) fun _ => .ite (fun _ => .then (zJC ih _ _ _) fun l z h => .okk ?_) fun _ => .then (zHV ih _ _ _ _) fun l z h => .okk ?_
   . rw [zCw]; simp [bulkL,kl]; omega
   . rw [zCw]; simp [bulkL,kl]; omega
   . have:=word_bulk (hdT x).s
     dsimp only; omega
   . rw [zCw]; unfold sl at h; simp [bulkL,kl] at h |-; omega
   . rw [zCw]; simp [bulkL,kl] at h |-; omega
   . rw [zCw]; simp [bulkL,kl] at h |-; omega
theorem zIV (x : PS) : Bd (fun d => bulkD d + 20) (tw x.ts) (zAR x):=zId 25 1 _
theorem arg_bulk (n : List UInt8) (v : D) : bulkD (argD n v) = n.length + bulkD v + 2:=by simp only [argD,bulkD,bulkL,zBy]; omega
theorem dir_bulk (n : List UInt8) (aa : List D) : bulkD (dirD n aa) = n.length + bulkL aa + 3:=by simp only [dirD,bulkD,bulkL,zBy]; omega
theorem zJt : ∀ (f : Nat) (acc : List D) (x : PS),Bd bulkL (bulkL acc + tw x.ts) (argsF f acc x)
 | 0,_,_ => .err
 | f + 1,acc,x => by
   unfold argsF
   refine .ite (fun h => .okk (by have:=zDF h.2; omega)) fun _ => .ite (fun _ => .err) fun _ => .then (zBU x) fun n y h1 => .then (zDf _ y) fun _ z h2 => .then (zIV z) fun a u h3 => ?_
   have:=zJt f (acc ++ [argD n a]) u
   rw [zAr,zBC,arg_bulk] at this
   unfold sl at h1
   exact fun w z hu => by have:=this w z hu; omega
theorem args_bd (x : PS) : Bd bulkL (tw x.ts) (argsQ x):=by
 unfold argsQ
 refine .ite (fun h => ?_) fun _ => .okk (by simp [bulkL])
 have h0:=zDF h
 have:=zJt x.ts.length [] (nxT x)
 exact fun w z hu => by have:=this w z hu; simp only [bulkL] at this; omega
theorem zJZ : ∀ (f : Nat) (acc : List D) (x : PS),Bd bulkL (bulkL acc + tw x.ts) (dirsF f acc x)
 | 0,_,_ => .err
 | f + 1,acc,x => by
   unfold dirsF
   refine .ite (fun h => .ite (fun _ => .err) fun _ => .then (zBU _) fun n y h1 => .then (args_bd y) fun aa z h2 => ?_) fun _ => .okk (Nat.le_refl _)
   have h0:=zDF h
   have:=zJZ f (acc ++ [dirD n aa]) z
   rw [zAr,zBC,dir_bulk] at this
   unfold sl at h1
   exact fun w z hu => by have:=this w z hu; omega
theorem zIF (x : PS) : Bd bulkL (tw x.ts) (dirsQ x):=by
 have:=zJZ (x.ts.length + 1) [] x
 exact fun w z hu => by have:=this w z hu; simp only [bulkL] at this; omega
theorem zFw (k : Int) (al n on : List UInt8) (aa ds ss : List D) : bulkD (selD k al n on aa ds ss) = al.length + n.length + on.length + bulkL aa + bulkL ds + bulkL ss + 8:=by simp only [selD,bulkD,bulkL,zBy]; omega
theorem sel_bd {v : PS -> PR (List D)} (hv : ∀ y,Bd bulkL (tw y.ts) (v y)) (x : PS) : Bd (fun d => bulkD d + 20) (tw x.ts) (selQ v x):=by
 unfold selQ
 refine .ite (fun hs => ?_) fun _ => ?_
 . have h0:=zDF hs
   dsimp only
   refine .ite (fun hk => .then (zIF _) fun ds z h1 => .okk ?_) fun _ => ?_
   . have:=tw_k2 hk.1
     rw [zFw]; simp only [bulkL,List.length_nil]; omega
   . refine .then (μ:=List.length) (N:=tw (nxT x).ts) (.ite (fun hk => ?_) fun _ => .okk (by simp)) fun on z h1 => .then (zIF z) fun ds u h2 => .then (hv u) fun ss w h3 => .okk ?_
     . have:=zBU (nxT (nxT x))
       have:=tw_nx (nxT x)
       exact fun w z hu => by have:=zBU (nxT (nxT x)) w z hu; unfold sl at this; omega
     . rw [zFw]; simp only [bulkL,List.length_nil]; omega
 . refine .then (zBU x) fun n y h1 => .then (μ:=fun p : List UInt8 × List UInt8 => p.1.length + p.2.length) (N:=n.length + tw y.ts) (.ite (fun hs => .then (zBU _) fun m z h2 => .okk ?_) fun _ => .okk (by simp)) fun an z h2 => .then (args_bd z) fun aa u h3 => .then (zIF u) fun ds w h4 => .then (μ:=bulkL) (N:=tw w.ts) (.ite (fun _ => hv w) fun _ => .okk (by simp [bulkL])) fun ss o h5 => .okk ?_
   . have:=zDF hs
     unfold sl at h2
     dsimp only; omega
   . unfold sl at h1
     rw [zFw]; simp only [List.length_nil]; omega
theorem setF_bd {v : PS -> PR D} (hv : ∀ y,Bd (fun d => bulkD d + 20) (tw y.ts) (v y)) : ∀ (f : Nat) (acc : List D) (x : PS),Bd bulkL (bulkL acc + tw x.ts) (setF v f acc x)
 | 0,_,_ => .err
 | f + 1,acc,x => by
   unfold setF
   refine .ite (fun h => .okk (by have:=zDF h.2; omega)) fun _ => .ite (fun _ => .err) fun _ => .then (hv x) fun a y h => ?_
   have:=setF_bd hv f (acc ++ [a]) y
   rw [zAr,zBC] at this
   exact fun u z hu => by have:=this u z hu; omega
theorem sels_bd : ∀ (f lv : Nat) (x : PS),Bd (fun l => bulkL l + 40) (tw x.ts) (selsQ f lv x)
 | 0,_,_ => .err
 | f + 1,lv,x => by
   have ih : ∀ y,Bd bulkL (tw y.ts) (selsQ f (lv + 1) y):=fun y u z h => by have:=sels_bd f (lv + 1) y u z h; dsimp only at this; omega
   unfold selsQ
   refine .ite (fun _ => .err) fun _ => .then (zDf _ x) fun _ y h => ?_
   have:=setF_bd (sel_bd ih) (y.ts.length + 1) [] y
   exact fun u z hu => by have:=this u z hu; simp only [bulkL] at this; dsimp only; omega
theorem set_bd (x : PS) : Bd (fun l => bulkL l + 40) (tw x.ts) (setQ x):=sels_bd 25 1 x
theorem var_bulk (n : List UInt8) (t : D) (h : Bool) (v : D) : bulkD (varD n t h v) = n.length + bulkD t + bulkD v + 3:=by simp only [varD,bulkD,bulkL,zBy]; omega
theorem null_bulk : bulkD zBG = 6:=by decide
theorem zIc : ∀ (f : Nat) (acc : List D) (x : PS),Bd bulkL (bulkL acc + tw x.ts) (varsF f acc x)
 | 0,_,_ => .err
 | f + 1,acc,x => by
   unfold varsF
   refine .ite (fun h => .okk (by have:=zDF h.2; omega)) fun _ => .ite (fun _ => .err) fun _ => .then (zDf _ x) fun _ y h1 => .then (zBU y) fun n z h2 => .then (zDf _ z) fun _ u h3 => .then (typ_bd u) fun t w h4 => .then (μ:=fun d : Bool × D => bulkD d.2) (N:=6 + tw w.ts) (.ite (fun hs => .then (zIV _) fun d o h5 => .okk ?_) fun _ => .okk (by rw [null_bulk]; omega)) fun d o h5 => ?_
   . have:=zDF hs
     dsimp only at h5 |-
     omega
   . have:=zIc f (acc ++ [varD n t d.1 d.2]) o
     rw [zAr,zBC,var_bulk] at this
     unfold sl at h2
     exact fun w z hu => by have:=this w z hu; omega
theorem op_bulk (k : Int) (n : List UInt8) (vs ss : List D) : bulkD (opD k n vs ss) = n.length + bulkL vs + bulkL ss + 5:=by simp only [opD,bulkD,bulkL,zBy]; omega
theorem frag_bulk (n on : List UInt8) (ss : List D) : bulkD (zGP n on ss) = n.length + on.length + bulkL ss + 4:=by simp only [zGP,bulkD,bulkL,zBy]; omega
theorem op_bd (k : Int) (x : PS) : Bd bulkD (tw x.ts) (opQ k x):=by
 unfold opQ
 refine .then (μ:=List.length) (N:=tw x.ts) (.ite (fun h => .okk (by have:=tw_k2 h; omega)) fun _ => .okk (by simp)) fun n y h1 => .then (μ:=bulkL) (N:=tw y.ts) (.ite (fun hs => ?_) fun _ => .okk (by simp [bulkL])) fun vs z h2 => .then (set_bd z) fun ss u h3 => .okk ?_
 . have h0:=zDF hs
   exact fun u z hu => by have:=zIc _ _ _ u z hu; simp only [bulkL] at this; omega
 . rw [op_bulk]; omega
theorem frag_bd (x : PS) : Bd bulkD (tw x.ts) (zA9 x):=by
 unfold zA9
 refine .ite (fun _ => .err) fun _ => .then (zBU x) fun n y h1 => .ite (fun hk => .then (zBU _) fun on z h2 => .then (set_bd z) fun ss u h3 => .okk ?_) fun _ => .err
 have:=tw_k2 hk.1
 unfold sl at h1 h2
 rw [frag_bulk]; omega
theorem zGa : ∀ (f n : Nat) (ops frs : List D) (x : PS),Bd (fun p : List D × List D => bulkL p.1 + bulkL p.2) (bulkL ops + bulkL frs + tw x.ts) (docF f n ops frs x)
 | 0,_,_,_,_ => .err
 | f + 1,n,ops,frs,x => by
   unfold docF
   refine .ite (fun _ => .okk (Nat.le_refl _)) fun _ => ?_
   dsimp only
   have hnx:=tw_nx x
   refine .ite (fun _ => .err) fun _ => .ite (fun _ => .err) fun _ => .ite (fun _ => .then (set_bd x) fun ss y h => ?_) fun _ => .ite (fun _ => .then (op_bd _ _) fun o y h => ?_) fun _ => .then (frag_bd _) fun o y h => ?_
   . have:=zGa f (n + 1) (ops ++ [opD 1 [] [] ss]) frs y
     rw [zAr,zBC,op_bulk] at this
     exact fun u z hu => by have:=this u z hu; simp only [bulkL,List.length_nil] at this h |-; omega
   . have:=zGa f (n + 1) (ops ++ [o]) frs y
     rw [zAr,zBC] at this
     exact fun u z hu => by have:=this u z hu; dsimp only at this |-; omega
   . have:=zGa f (n + 1) ops (frs ++ [o]) y
     rw [zAr,zBC] at this
     exact fun u z hu => by have:=this u z hu; dsimp only at this |-; omega
theorem readU_sl {l : List UInt8} {k : Int} {s : List UInt8} {n : Nat} (h : readU l = .ok (k,s,n)) : s.length <= n:=by
 unfold readU at h
 split at h
 . cases h
 . rename_i c r
   have hs:=(zET (p:=wrdU) r).2
   have hl:=zAu wrdU r
   split at h
   . cases h; simp
   split at h
   . split at h
     . cases h; simp
     . cases h
   split at h
   . split at h
     . cases h; rw [List.length_cons,hs]; omega
     . cases h
   split at h
   . split at h
     . cases h
     . cases h; rw [List.length_cons,hs]; omega
   split at h
   . split at h
     . cases h
     . split at h
       . cases h
       . rename_i ht
         cases h
         have:=zEQ ht
         simp at this |-; omega
   . cases h
theorem zIs : ∀ (f : Nat) (l : List UInt8) (i : Nat) (ts : List Tok),scanF f l i = .ok ts -> tw ts <= 41 * l.length + 40
 | 0,_,_,_,h => by cases h
 | f + 1,l,i,ts,h => by
   unfold scanF at h
   split at h
   . cases h
     simp [tw]
   . rename_i c r hl
     have hlen : (c :: r).length = l.length - skipM false l:=by rw [<- hl,List.length_drop]
     have hsk:=zAl false l
     split at h
     . cases h
     . rename_i t n ht
       have hn:=zEA ht
       have hu:=zD9 ht
       have hs:=readU_sl hu.1
       split at h
       . cases h
       . rename_i ts' hts
         cases h
         have:=zIs f _ _ _ hts
         rw [List.length_drop] at this
         simp only [tw]
         omega
theorem parse_bulk {l : List UInt8} {q : D} (h : parseT l = .ok q) : bulkL (q.f 0).l + bulkL (q.f 1).l <= 41 * l.length + 40:=by
 unfold parseT at h
 split at h
 . cases h
 . rename_i ts hs
   split at h
   . cases h
   . rename_i p z hd
     cases h
     obtain ⟨a,b⟩:=p
     have h1:=zGa _ _ _ _ _ _ _ hd
     have h2 : tw ts <= 41 * l.length + 40:=by
      unfold zAp at hs
      split at hs
      . cases hs
      . exact zIs _ _ _ _ hs
     simp only [bulkL] at h1
     show bulkL a + bulkL b <= _
     omega
def Hr {α : Type} (Q : α -> PS -> Prop) (r : PR α) : Prop:=∀ v z,r = .ok (v,z) -> Q v z
section
variable {α β : Type} {Q : α -> PS -> Prop} {R : β -> PS -> Prop}
theorem Hr.err {e : Nat × Int} : Hr Q (.error e : PR α):=fun _ _ h => by cases h
theorem Hr.then {r : PR α} {f : α -> PS -> PR β} (h : Hr Q r) (hf : ∀ a x,Q a x -> Hr R (f a x)) : Hr R (zX r f):=by
 cases hr : r with
 | error e =>
   rw [then_err (r:=.error e) rfl]
   exact .err
 | ok p =>
   obtain ⟨a,x⟩:=p
   rw [zR (r:=.ok (a,x)) rfl]
   exact hf a x (h a x hr)
theorem Hr.mono {r : PR α} {Q' : α -> PS -> Prop} (h : Hr Q r) (hq : ∀ a x,Q a x -> Q' a x) : Hr Q' r:=fun v z e => hq v z (h v z e)
end
def GT (x : PS) : Prop:=∀ t ∈ x.ts,(t.k = 2 -> zEf ⟨t.s.toArray⟩ = true) /\ 1 <= t.k /\ t.k <= 5
theorem GT.hd {x : PS} (h : GT x) : ((hdT x).k = 2 -> zEf ⟨(hdT x).s.toArray⟩ = true) /\ 1 <= (hdT x).k /\ (hdT x).k <= 5:=by
 unfold hdT
 cases hx : x.ts with
 | nil => exact ⟨fun h => absurd h (by decide),by decide,by decide⟩
 | cons t r => exact h t (by rw [hx]; exact List.mem_cons_self ..)
structure Pv (x z : PS) : Prop where
 gt : GT z
 vr : z.vr = x.vr
theorem Pv.trans {x y z : PS} (h1 : Pv x y) (h2 : Pv y z) : Pv x z:=⟨h2.gt,h2.vr.trans h1.vr⟩
theorem GT.pv {x : PS} (h : GT x) : Pv x x:=⟨h,rfl⟩
structure VOk (lv : Nat) (vr : Bool) (n0 : Nat) (v : D) (n1 : Nat) : Prop where
 sz : ∀ k,Dp k v -> sizeR k v + n0 = n1
 dp : ∀ k,Dp k v -> depthR k v + lv <= 25
 ev : ∀ k,Dp k v -> everyL k v = true
 br : vr = false -> ∀ k,Dp k v -> bareR k v = true
structure CH (lv : Nat) (vr : Bool) (n0 : Nat) (l : List D) (n1 : Nat) : Prop where
 sz : ∀ k,(∀ i,i < l.length -> Dp k (gD l i)) -> sumN (fun i => sizeR k (gD l i)) l.length + n0 = n1
 dp : ∀ i,i < l.length -> ∀ k,Dp k (gD l i) -> depthR k (gD l i) + lv <= 25
 ev : ∀ i,i < l.length -> ∀ k,Dp k (gD l i) -> everyL k (gD l i) = true
 br : vr = false -> ∀ i,i < l.length -> ∀ k,Dp k (gD l i) -> bareR k (gD l i) = true
theorem CH.nil {lv : Nat} {vr : Bool} {n : Nat} : CH lv vr n [] n:=
 ⟨fun k _ => by simp [sumN],fun i hi => absurd hi (Nat.not_lt_zero i),fun i hi => absurd hi (Nat.not_lt_zero i),fun _ i hi => absurd hi (Nat.not_lt_zero i)⟩
section
variable {val : PS -> PR D} {lv n0 : Nat} {vr : Bool} (hv : ∀ y,GT y -> y.vr = vr -> y.nd <= 4096 -> Hr (fun v z => Pv y z /\ VOk lv vr y.nd v z.nd /\ z.nd <= 4096) (val y))
include hv
end
def Al (p : D -> Bool) (l : List D) : Prop:=∀ i,i < l.length -> p (gD l i) = true
theorem Al.nil {p : D -> Bool} : Al p []:=fun i hi => absurd hi (Nat.not_lt_zero i)
structure XN (M : Prop) (V : Bool) (T : Tok -> Tok -> Prop) (x x' : PS) : Prop where
 ts : All2 T x.ts x'.ts
 vr : x.vr = V
 vr' : x'.vr = V
 nd : M -> x.nd = x'.nd
def RN (M : Prop) (V : Bool) (T : Tok -> Tok -> Prop) (I : Nat -> Nat -> Prop) {α : Type} : PR α -> PR α -> Prop
 | .ok (a,x),.ok (a',x') => a = a' /\ XN M V T x x'
 | .error e,.error e' => I e.1 e'.1 /\ e.2 = e'.2
 | _,_ => False
section
variable {M : Prop} {V W : Bool} {T : Tok -> Tok -> Prop} {I : Nat -> Nat -> Prop} {α β : Type}
theorem XN.hd (hT : TR T I) {x x' : PS} (h : XN M V T x x') : (hdT x').k = (hdT x).k /\ (hdT x').s = (hdT x).s /\ I (hdT x).i (hdT x').i:=by
 obtain ⟨h1,-,-,-⟩:=h
 unfold hdT
 generalize x.ts = a at h1
 generalize x'.ts = b at h1
 cases h1 with
 | nil => exact ⟨rfl,rfl,hT.z⟩
 | cons h2 h3 => exact ⟨(hT.k h2).symm,(hT.s h2).symm,hT.i h2⟩
theorem RN.then {r r' : PR α} {f f' : α -> PS -> PR β} (h : RN M V T I r r') (hf : ∀ a x x',XN M V T x x' -> RN M W T I (f a x) (f' a x')) : RN M W T I (zX r f) (zX r' f'):=by
 unfold zX
 cases r with
 | error e => cases r' with | error e' => exact h | ok a' => exact h.elim
 | ok a =>
   cases r' with
   | error e' => exact h.elim
   | ok a' =>
     obtain ⟨a,x⟩:=a
     obtain ⟨a',x'⟩:=a'
     obtain ⟨rfl,hx⟩:=h
     exact hf _ _ _ hx
variable (hT : TR T I)
include hT
end
end Go.Proofs.YthjiclhfhjdjpaaGreatDoor
namespace Go.Proofs.YthjiclhfhjdjpaaGreatDoor
open Go.RowKit
set_option linter.unusedSectionVars false
attribute [local irreducible] wpList Calls Code.wp AW AWo OpOk seqK zAI zAO loopK endK AC zp Yld Sub
attribute [local irreducible] ACB ACX ACE absLexG YldG absLexH
def opsO : Except (Nat × Int) D -> List D
 | .ok q => (q.f 0).l
 | .error _ => []
def frsO : Except (Nat × Int) D -> List D
 | .ok q => (q.f 1).l
 | .error _ => []
def atO : Except (Nat × Int) D -> Nat
 | .ok _ => 0
 | .error x => x.1
def errO : Except (Nat × Int) D -> Int
 | .ok _ => 0
 | .error x => x.2
theorem parseO_ac (s : List UInt8) (hs : s.length <= 4000000000) : AC EN5 Tryz.prog 23 [.c (.string (bs s))] (.tup [.agg [.sl 57 (opsO (parseT s)),.sl 116 (frsO (parseT s))],.c (.int .i64 (atO (parseT s) : Int)),.c (.int .i64 (errO (parseT s)))]):=by
 refine (zF3 s hs).res ?_
 cases parseT s with
 | ok q => exact .refl _
 | error x => exact .tup (.cons (.agg (.cons (.nil _) (.cons (.nil _) .nil))) (.cons (.refl _) (.cons (.refl _) .nil)))
theorem bulkO (s : List UInt8) (hs : s.length <= 70000) : bulkL (opsO (parseT s)) <= 1000000000 /\ bulkL (frsO (parseT s)) <= 1000000000:=by
 cases h : parseT s with
 | ok q =>
   have:=parse_bulk h
   show bulkL (q.f 0).l <= _ /\ bulkL (q.f 1).l <= _
   omega
 | error x => exact ⟨Nat.zero_le _,Nat.zero_le _⟩
end Go.Proofs.YthjiclhfhjdjpaaGreatDoor
namespace Go.Proofs.YthjiclhfhjdjpaaGreatDoor
open Go.RowKit
attribute [local irreducible] wpList Calls Code.wp
def sg0 (W : World) : Sg:=⟨fun b o => (W.cell? ⟨b,o,none⟩).isSome,fun _ => none,fun _ => none,fun _ => (undef,0)⟩
theorem zFh {P : Program} {w : World} {n : String} {g : Nat} {cs : Array Value} (hg : P.globalNamed n = some g) (h : w.var? P n = some cs) : g + 1 <= w.heap.size:=by
 unfold World.var? at h
 rw [hg] at h
 simp only [Option.bind_some] at h
 rcases Nat.lt_or_ge g w.heap.size with h' | h'
 . exact h'
 . rw [Array.getElem?_eq_none h'] at h; cases h
theorem en5_of {W : World} (h : Env W) : EN5.E W:=by
 obtain ⟨h1,⟨tp,p,h2⟩,⟨tp',p',h3⟩⟩:=id h
 have a1:=zFh gPow h1
 have a2:=zFh gErrR h2
 have a3:=zFh gErrS h3
 exact ⟨h,Nat.max_le.2 ⟨a1,Nat.max_le.2 ⟨a2,a3⟩⟩⟩
theorem zHb {f : FuncId} {args : List V} {W : World} {us : Array Value} (h : AC EN5 Tryz.prog f args (.c (.bool true))) (hr : relL Tryz.prog (sg0 W) W args us.toList) (he : Env W) : Calls Tryz.prog f us W fun e W' => e = .returned (.bool true) /\ Below W.heap.size W W':=by
 refine (h (sg0 W) W us hr (fun b o h => h) (en5_of he)).mono ?_
 rintro e W' ⟨v,F',rfl,hfr,-,-,-,hv⟩
 rw [rel] at hv
 obtain ⟨rfl,-⟩:=hv
 exact ⟨rfl,hfr.below⟩
theorem relL1 {P : Program} {s : Sg} {w : World} {v : V} {u : Value} (h : rel P s w v u) : relL P s w [v] (#[u] : Array Value).toList:=by
 show relL P s w [v] [u]
 rw [relL]; exact ⟨h,by simp [relL]⟩
end Go.Proofs.YthjiclhfhjdjpaaGreatDoor
namespace Go.Proofs.YthjiclhfhjdjpaaGreatDoor
open Go.RowKit
set_option linter.unusedSectionVars false
attribute [local irreducible] wpList Calls Code.wp AW AWo OpOk seqK zAI zAO loopK endK AC zp Yld Sub
attribute [local irreducible] ACB ACX ACE absLexG YldG absLexH
theorem let_iff (c : UInt8) : letU c = true ↔ (97 <= c.toNat /\ c.toNat <= 122) \/ (65 <= c.toNat /\ c.toNat <= 90) \/ c.toNat = 95:=by
 have : c = 95 ↔ c.toNat = 95:=⟨fun h => by rw [h]; rfl,fun h => UInt8.toNat_inj.1 h⟩
 unfold letU
 simp only [Bool.or_eq_true,decide_eq_true_eq,beq_iff_eq,this]
 omega
theorem zAP (c : UInt8) : AC EN5 Tryz.prog 218 [.c (.int .u8 (c.toNat : Int))] (.c (.bool (letU c))):=by
 refine zF 21 Tryz.func218 rfl rfl rfl rfl ?_
 intro s w he
 repeat' (first
|apply zx rfl rfl rfl
 . conv => lhs; whnf
 . first | rfl | assumption
 . conv => lhs; whnf
 . first | exact bT1 ‹_› | exact bT2 ‹_› | rfl
|apply zo rfl rfl rfl
 . conv => lhs; whnf
 . first | rfl | assumption
 . conv => lhs; whnf
 . first | exact bF1 ‹_› | exact bF2 ‹_› | rfl
|refine zA ?_
|refine zB ?_
|refine zG ?_
|apply aw_1
 conv => whnf
 refine ⟨?_,trivial⟩
|apply zY rfl rfl
 . conv => lhs; whnf
 . conv => lhs; whnf
 . first | exact bT1 ‹_› | exact bT2 ‹_›
|apply zV rfl rfl
 . conv => lhs; whnf
 . conv => lhs; whnf
 . first | exact bF1 ‹_› | exact bF2 ‹_›
|apply s_1
 conv => whnf; arg 1; arg 4; arg 3; whnf
 refine ⟨?_,?_⟩
|apply zD rfl
 . conv => lhs; whnf
 . conv => lhs; whnf
 . first | rfl | assumption
 . conv => lhs; whnf; arg 2; whnf
|apply zd rfl
 . conv => lhs; whnf
 . conv => lhs; whnf
 . first | rfl | assumption
|apply zT rfl
 . conv => lhs; whnf
 . conv => lhs; whnf
 . conv => lhs; whnf; arg 2; whnf
|refine zC ?_
|refine ⟨_,by conv => lhs; whnf; arg 2; whnf,?_⟩; conv => rhs; whnf
|exact trivial
|intro hg)
 all_goals
  refine congrArg (fun b => V.c (.bool b)) ?_
  rw [Bool.eq_iff_iff,let_iff]
  clear he
  simp at *
  omega
theorem zAc (c : UInt8) : AC EN5 Tryz.prog 220 [.c (.int .u8 (c.toNat : Int))] (.c (.bool (digU c))):=by
 refine zF 9 Tryz.func220 rfl rfl rfl rfl ?_
 intro s w he
 repeat' (first
|refine zA ?_
|refine zB ?_
|refine zG ?_
|apply aw_1
 conv => whnf
 refine ⟨?_,trivial⟩
|apply zY rfl rfl
 . conv => lhs; whnf
 . conv => lhs; whnf
 . first | exact bT1 ‹_› | exact bT2 ‹_›
|apply zV rfl rfl
 . conv => lhs; whnf
 . conv => lhs; whnf
 . first | exact bF1 ‹_› | exact bF2 ‹_›
|apply s_1
 conv => whnf; arg 1; arg 4; arg 3; whnf
 refine ⟨?_,?_⟩
|apply zD rfl
 . conv => lhs; whnf
 . conv => lhs; whnf
 . first | rfl | assumption
 . conv => lhs; whnf; arg 2; whnf
|apply zd rfl
 . conv => lhs; whnf
 . conv => lhs; whnf
 . first | rfl | assumption
|apply zT rfl
 . conv => lhs; whnf
 . conv => lhs; whnf
 . conv => lhs; whnf; arg 2; whnf
|refine zC ?_
|refine ⟨_,by conv => lhs; whnf; arg 2; whnf,?_⟩; conv => rhs; whnf
|exact trivial
|intro hg)
 all_goals
  refine congrArg (fun b => V.c (.bool b)) ?_
  rw [Bool.eq_iff_iff,zBe]
  clear he
  simp at *
  omega
theorem sep_iff (c : UInt8) : sepB c = true ↔ c.toNat = 32 \/ c.toNat = 9 \/ c.toNat = 10 \/ c.toNat = 13 \/ c.toNat = 44:=by
 have q : ∀ n : UInt8,(c == n) = true ↔ c.toNat = n.toNat:=fun n => by rw [beq_iff_eq]; exact ⟨fun h => by rw [h],fun h => UInt8.toNat_inj.1 h⟩
 unfold sepB
 simp only [Bool.or_eq_true,q]
 show (((c.toNat = 32 \/ c.toNat = 9) \/ c.toNat = 10) \/ c.toNat = 13) \/ c.toNat = 44 ↔ _
 omega
theorem spaceF_ac (c : UInt8) : AC EN5 Tryz.prog 216 [.c (.int .u8 (c.toNat : Int))] (.c (.bool (sepB c))):=by
 refine zF 21 Tryz.func216 rfl rfl rfl rfl ?_
 intro s w he
 repeat' (first
|refine zA ?_
|refine zB ?_
|refine zG ?_
|apply aw_1
 conv => whnf
 refine ⟨?_,trivial⟩
|apply zY rfl rfl
 . conv => lhs; whnf
 . conv => lhs; whnf
 . first | exact bT1 ‹_› | exact bT2 ‹_›
|apply zV rfl rfl
 . conv => lhs; whnf
 . conv => lhs; whnf
 . first | exact bF1 ‹_› | exact bF2 ‹_›
|apply s_1
 conv => whnf; arg 1; arg 4; arg 3; whnf
 refine ⟨?_,?_⟩
|apply zD rfl
 . conv => lhs; whnf
 . conv => lhs; whnf
 . first | rfl | assumption
 . conv => lhs; whnf; arg 2; whnf
|apply zd rfl
 . conv => lhs; whnf
 . conv => lhs; whnf
 . first | rfl | assumption
|apply zT rfl
 . conv => lhs; whnf
 . conv => lhs; whnf
 . conv => lhs; whnf; arg 2; whnf
|refine zC ?_
|refine ⟨_,by conv => lhs; whnf; arg 2; whnf,?_⟩; conv => rhs; whnf
|exact trivial
|intro hg)
 all_goals
  refine congrArg (fun b => V.c (.bool b)) ?_
  rw [Bool.eq_iff_iff,sep_iff]
  clear he
  simp at *
  omega
noncomputable def HWd (s : List UInt8) (k : Nat) : Vst 24:=stS 24 [(0,.c (.string (bs s))),(1,.c (.int .i64 (k : Int)))] []
theorem zD5 (s : List UInt8) (i : Nat) (hi : i <= s.length) (hs : s.length <= 1000000) : AC EN5 Tryz.prog 219 [.c (.string (bs s)),.c (.int .i64 (i : Int))] (.c (.int .i64 ((i + spanN wrdU (s.drop i) : Nat) : Int))):=by
 have hz:=zh s
 refine zF 24 Tryz.func219 rfl rfl rfl rfl ?_
 intro s0 w he
 repeat' (first
|refine zA ?_
|refine zB ?_
|refine zG ?_
|apply aw_1
 conv => whnf
 refine ⟨?_,trivial⟩
|apply s_1
 conv => whnf; arg 1; arg 4; arg 3; whnf
 refine ⟨?_,?_⟩
|exact trivial)
 refine zu (fun j st => ∃ k,k + j = s.length /\ i + spanN wrdU (s.drop i) = k + spanN wrdU (s.drop k) /\ Sub (cx EN5 Tryz.prog s0 w he) st (HWd s k)) (s.length - i) ⟨i,by omega,rfl,Sub.live ⟨rfl,rfl,trivial⟩ trivial⟩ ?_
 rintro j st ⟨k,hkj,hI,hs2⟩
 refine zn hs2 ?_
 clear hs2
 rw [hI]
 clear hI
 by_cases hk : k < s.length
 . have f0 : decide ((k : Int) < ((bs s).size : Nat)) = true:=decide_eq_true (by omega)
   have g0 : (decide ((k : Int) < ((bs s).size : Nat)) == true) = true:=by rw [f0]; rfl
   have k0 : (decide ((k : Int) < ((bs s).size : Nat)) == true) = false -> False:=fun h => by rw [g0] at h; cases h
   have hbt:=zAJ hk
   have hsp:=zHp (p:=wrdU) hk
   have h1:=zAP s[k]
   have h2:=zAc s[k]
   rw [<- hbt] at h1 h2
   have hw : wrdU s[k] = (letU s[k] || digU s[k]):=rfl
   rw [hw] at hsp
   generalize letU s[k] = a at h1 hsp
   generalize digU s[k] = b at h2 hsp
   clear hbt hw
   repeat' (first
|apply zx rfl rfl rfl
 . conv => lhs; whnf
 . first | rfl | assumption
 . conv => lhs; whnf
 . first | exact bT1 ‹_› | exact bT2 ‹_› | rfl
|apply zo rfl rfl rfl
 . conv => lhs; whnf
 . first | rfl | assumption
 . conv => lhs; whnf
 . first | exact bF1 ‹_› | exact bF2 ‹_› | rfl
|refine zA ?_
|refine zB ?_
|refine zG ?_
|refine zb ?_
|apply aw_1
 conv => whnf
 refine ⟨?_,trivial⟩
|apply zY rfl rfl
 . conv => lhs; whnf
 . conv => lhs; whnf
 . first | exact bT1 ‹_› | exact bT2 ‹_›
|apply s_1
 conv => whnf; arg 1; arg 4; arg 3; whnf
 refine ⟨?_,?_⟩
|apply zD rfl
 . conv => lhs; whnf
 . conv => lhs; whnf
 . first | rfl | assumption
 . conv => lhs; whnf; arg 2; whnf
|apply zl rfl
 . conv => lhs; whnf
 . conv => lhs; whnf
 . first | rfl | assumption
 . conv => lhs; whnf
 . first | exact h1 | exact h2
|apply zd rfl
 . conv => lhs; whnf
 . conv => lhs; whnf
 . first | rfl | assumption
|apply zT rfl
 . conv => lhs; whnf
 . conv => lhs; whnf
 . conv => lhs; whnf; arg 2; whnf
|refine zg (by conv => lhs; whnf) ?_ ?_ <;> intro hb
|refine zP ?_
|refine zM rfl ?_
|refine zW ?_
|refine zC ?_
|refine ⟨_,by conv => lhs; whnf; arg 2; whnf,?_⟩; conv => rhs; whnf
|exact trivial
|intro hg)
   all_goals first
    | exact zS (by omega)
    | exact ⟨by kernel_rfl,by omega,by omega⟩
    | exact (show Tryz.prog.underlying 9 = some TypeDesc.string by kernel_rfl)
    | (have e : (a || b) = true:=by
        clear hsp h1 h2
        simp_all
       exact zL (j':=j - 1) (by omega) ⟨k + 1,by omega,by rw [hsp,if_pos e]; omega,Sub.live ⟨rfl,rfl,trivial⟩ trivial⟩)
    | (have e : (a || b) = false:=by
        clear hsp h1 h2
        simp_all
       rw [hsp,e]; rfl)
    | skip
 . have f0 : decide ((k : Int) < ((bs s).size : Nat)) = false:=decide_eq_false (by omega)
   have g0 : (decide ((k : Int) < ((bs s).size : Nat)) == true) = false:=by rw [f0]; rfl
   have k0 : (decide ((k : Int) < ((bs s).size : Nat)) == true) = true -> False:=fun h => by rw [g0] at h; cases h
   have e : spanN wrdU (s.drop k) = 0:=by rw [show k = s.length by omega,List.drop_length]; rfl
   rw [e]
   repeat' (first
|refine zA ?_
|refine zB ?_
|refine zG ?_
|apply aw_1
 conv => whnf
 refine ⟨?_,trivial⟩
|apply zV rfl rfl
 . conv => lhs; whnf
 . conv => lhs; whnf
 . first | exact bF1 ‹_› | exact bF2 ‹_›
|apply s_1
 conv => whnf; arg 1; arg 4; arg 3; whnf
 refine ⟨?_,?_⟩
|apply zd rfl
 . conv => lhs; whnf
 . conv => lhs; whnf
 . first | rfl | assumption
|refine zP ?_
|refine zM rfl ?_
|refine zW ?_
|refine zC ?_
|refine ⟨_,by conv => lhs; whnf; arg 2; whnf,?_⟩; conv => rhs; whnf
|exact trivial)
   all_goals first
    | rfl
    | exact (show Tryz.prog.underlying 9 = some TypeDesc.string by kernel_rfl)
theorem zIk {s : List UInt8} {k : Nat} (h : k < s.length) : skipM true (s.drop k) = if s[k] == 10 || s[k] == 13 then skipM false (s.drop (k + 1)) + 1 else skipM true (s.drop (k + 1)) + 1:=by
 rw [List.drop_eq_getElem_cons h,skipM]
noncomputable def HKf (s : List UInt8) (k : Nat) : Vst 39:=stS 39 [(0,.c (.string (bs s))),(1,.c (.int .i64 (k : Int)))] []
theorem zIl (s : List UInt8) (i : Nat) (hi : i <= s.length) (hs : s.length <= 1000000) : AC EN5 Tryz.prog 141 [.c (.string (bs s)),.c (.int .i64 (i : Int))] (.c (.int .i64 ((i + skipM false (s.drop i) : Nat) : Int))):=by
 have hz:=zh s
 refine zF 39 Tryz.func141 rfl rfl rfl rfl ?_
 intro s0 w he
 repeat' (first
|refine zA ?_
|refine zB ?_
|refine zG ?_
|apply aw_1
 conv => whnf
 refine ⟨?_,trivial⟩
|apply s_1
 conv => whnf; arg 1; arg 4; arg 3; whnf
 refine ⟨?_,?_⟩
|exact trivial)
 refine zu (fun j st => ∃ k,k + j = s.length /\ i + skipM false (s.drop i) = k + skipM false (s.drop k) /\ Sub (cx EN5 Tryz.prog s0 w he) st (HKf s k)) (s.length - i) ⟨i,by omega,rfl,Sub.live ⟨rfl,rfl,trivial⟩ trivial⟩ ?_
 rintro j st ⟨k,hkj,hI,hs2⟩
 refine zn hs2 ?_
 clear hs2
 rw [hI]
 clear hI
 by_cases hk : k < s.length
 . have f0 : decide ((k : Int) < ((bs s).size : Nat)) = true:=decide_eq_true (by omega)
   have hbt:=zAJ hk
   have hsk:=zHs hk
   have h1:=spaceF_ac s[k]
   rw [<- hbt] at h1
   have q : ∀ n : Nat,n < 256 -> (zO (bs s) ((k : Int)).toNat == (n : Int)) = (s[k] == UInt8.ofNat n):=fun n hn => by rw [hbt]; exact zBT s[k] n hn
   have q35:=q 35 (by decide)
   by_cases hsep : sepB s[k] = true
   . rw [if_pos hsep] at hsk
     repeat' (first
|apply zJ
 . conv => lhs; whnf
 . assumption
|refine zA ?_
|refine zB ?_
|refine zG ?_
|apply aw_1
 conv => whnf
 refine ⟨?_,trivial⟩
|apply s_1
 conv => whnf; arg 1; arg 4; arg 3; whnf
 refine ⟨?_,?_⟩
|apply ze rfl
 . conv => lhs; whnf
 . conv => lhs; whnf
 . first | exact h1
|refine zP ?_
|refine zM rfl ?_
|exact trivial)
     all_goals first
      | exact zS (by omega)
      | exact ⟨by kernel_rfl,by omega,by omega⟩
      | exact (show Tryz.prog.underlying 9 = some TypeDesc.string by kernel_rfl)
      | exact zL (j':=j - 1) (by omega) ⟨k + 1,by omega,by rw [hsk]; omega,Sub.live ⟨rfl,rfl,trivial⟩ trivial⟩
      | skip
   . have f1 : sepB s[k] = false:=by simpa using hsep
     rw [if_neg hsep] at hsk
     by_cases h35 : (s[k] == 35) = true
     . rw [if_pos h35] at hsk
       have f2 : (zO (bs s) ((k : Int)).toNat != 35) = false:=by
        have : (zO (bs s) ((k : Int)).toNat == ((35 : Nat) : Int)) = true:=q35.trans h35
        simpa using this
       repeat' (first
|apply zJ
 . conv => lhs; whnf
 . assumption
|apply zE
 . conv => lhs; whnf
 . assumption
|refine zA ?_
|refine zB ?_
|refine zG ?_
|apply aw_1
 conv => whnf
 refine ⟨?_,trivial⟩
|apply s_1
 conv => whnf; arg 1; arg 4; arg 3; whnf
 refine ⟨?_,?_⟩
|apply ze rfl
 . conv => lhs; whnf
 . conv => lhs; whnf
 . first | exact h1
|exact trivial)
       all_goals first
        | exact ⟨by kernel_rfl,by omega,by omega⟩
        | exact (show Tryz.prog.underlying 9 = some TypeDesc.string by kernel_rfl)
        | skip
       have hnn : (s[k] == 10 || s[k] == 13) = false:=by
        have : s[k] = 35:=by simpa using h35
        rw [this]; rfl
       have hT : k + skipM false (s.drop k) = k + skipM true (s.drop k):=by rw [hsk,zIk hk,hnn]; rfl
       rw [hT]
       refine zu (fun jj st => ∃ m,m + jj = s.length /\ k <= m /\ k + skipM true (s.drop k) = m + skipM true (s.drop m) /\ Sub (cx EN5 Tryz.prog s0 w he) st (HKf s m)) (s.length - k) ⟨k,by omega,Nat.le_refl _,rfl,Sub.live ⟨rfl,rfl,trivial⟩ trivial⟩ ?_
       clear hT hsk f0 f1 f2 hbt q q35 h1
       rintro jj st ⟨m,hmj,hkm,hI,hs2⟩
       refine zn hs2 ?_
       clear hs2
       rw [hI]
       clear hI
       by_cases hm : m < s.length
       . have f0 : decide ((m : Int) < ((bs s).size : Nat)) = true:=decide_eq_true (by omega)
         have g0 : (decide ((m : Int) < ((bs s).size : Nat)) == true) = true:=by rw [f0]; rfl
         have k0 : (decide ((m : Int) < ((bs s).size : Nat)) == true) = false -> False:=fun h => by rw [g0] at h; cases h
         have hbt:=zAJ hm
         have hsk:=zIk hm
         have q : ∀ n : Nat,n < 256 -> (zO (bs s) ((m : Int)).toNat == (n : Int)) = (s[m] == UInt8.ofNat n):=fun n hn => by rw [hbt]; exact zBT s[m] n hn
         have q10 : (zO (bs s) ((m : Int)).toNat != 10) = !(s[m] == 10):=congrArg not (q 10 (by decide))
         have q13 : (zO (bs s) ((m : Int)).toNat != 13) = !(s[m] == 13):=congrArg not (q 13 (by decide))
         have hsm:=zHs hm
         have hmk : m = k -> (s[m] == 10 || s[m] == 13) = false:=fun e => by subst e; exact hnn
         have hnl : (s[m] == 10 || s[m] == 13) = true -> sepB s[m] = true:=fun h => by
          rw [Bool.or_eq_true,beq_iff_eq,beq_iff_eq] at h
          rcases h with h | h <;> rw [h] <;> rfl
         generalize (s[m] == 10) = a at q10 hsk hmk hnl
         generalize (s[m] == 13) = b at q13 hsk hmk hnl
         clear hbt q
         repeat' (first
|refine zA ?_
|refine zB ?_
|refine zG ?_
|refine zb ?_
|apply aw_1
 conv => whnf
 refine ⟨?_,trivial⟩
|apply zY rfl rfl
 . conv => lhs; whnf
 . conv => lhs; whnf
 . first | exact bT1 ‹_› | exact bT2 ‹_›
|apply zV rfl rfl
 . conv => lhs; whnf
 . conv => lhs; whnf
 . first | exact bF1 ‹_› | exact bF2 ‹_›
|apply s_1
 conv => whnf; arg 1; arg 4; arg 3; whnf
 refine ⟨?_,?_⟩
|apply zD rfl
 . conv => lhs; whnf
 . conv => lhs; whnf
 . first | rfl | assumption
 . conv => lhs; whnf; arg 2; whnf
|apply zd rfl
 . conv => lhs; whnf
 . conv => lhs; whnf
 . first | rfl | assumption
|apply zT rfl
 . conv => lhs; whnf
 . conv => lhs; whnf
 . conv => lhs; whnf; arg 2; whnf
|refine zg (by conv => lhs; whnf) ?_ ?_ <;> intro hb
|refine zP ?_
|refine zM rfl ?_
|refine zW ?_
|exact trivial
|intro hg)
         all_goals first
          | exact zS (by omega)
          | exact ⟨by kernel_rfl,by omega,by omega⟩
          | exact (show Tryz.prog.underlying 9 = some TypeDesc.string by kernel_rfl)
          | skip
         all_goals simp only [q10,q13] at *
         . have e : (a || b) = false:=by simp_all
           exact zL (j':=jj - 1) (by omega) ⟨m + 1,by omega,by omega,by rw [hsk,if_neg (by rw [e]; decide)]; omega,Sub.live ⟨rfl,rfl,trivial⟩ trivial⟩
         all_goals
          have e : (a || b) = true:=by simp_all
          have hmk2 : k < m:=Nat.lt_of_le_of_ne hkm fun h => by rw [hmk h.symm] at e; cases e
          exact zL (j':=s.length - m) (by omega) ⟨m,by omega,by rw [hsk,if_pos e,hsm,if_pos (hnl e)],Sub.live ⟨rfl,rfl,trivial⟩ trivial⟩
       . have f0 : decide ((m : Int) < ((bs s).size : Nat)) = false:=decide_eq_false (by omega)
         have g0 : (decide ((m : Int) < ((bs s).size : Nat)) == true) = false:=by rw [f0]; rfl
         have k0 : (decide ((m : Int) < ((bs s).size : Nat)) == true) = true -> False:=fun h => by rw [g0] at h; cases h
         repeat' (first
|refine zA ?_
|refine zB ?_
|refine zG ?_
|refine zb ?_
|apply aw_1
 conv => whnf
 refine ⟨?_,trivial⟩
|apply zV rfl rfl
 . conv => lhs; whnf
 . conv => lhs; whnf
 . first | exact bF1 ‹_› | exact bF2 ‹_›
|apply s_1
 conv => whnf; arg 1; arg 4; arg 3; whnf
 refine ⟨?_,?_⟩
|apply zd rfl
 . conv => lhs; whnf
 . conv => lhs; whnf
 . first | rfl | assumption
|refine zP ?_
|refine zM rfl ?_
|refine zW ?_
|exact trivial)
         all_goals first
          | exact (show Tryz.prog.underlying 9 = some TypeDesc.string by kernel_rfl)
          | exact zL (j':=0) (by omega) ⟨m,by omega,by rw [show m = s.length by omega,List.drop_length]; rfl,Sub.live ⟨rfl,rfl,trivial⟩ trivial⟩
     . rw [if_neg h35] at hsk
       have f2 : (zO (bs s) ((k : Int)).toNat != 35) = true:=by
        have : (zO (bs s) ((k : Int)).toNat == ((35 : Nat) : Int)) = false:=q35.trans (by simpa using h35)
        simpa using this
       repeat' (first
|apply zJ
 . conv => lhs; whnf
 . assumption
|apply zE
 . conv => lhs; whnf
 . assumption
|refine zA ?_
|refine zB ?_
|refine zG ?_
|apply aw_1
 conv => whnf
 refine ⟨?_,trivial⟩
|apply s_1
 conv => whnf; arg 1; arg 4; arg 3; whnf
 refine ⟨?_,?_⟩
|apply ze rfl
 . conv => lhs; whnf
 . conv => lhs; whnf
 . first | exact h1
|refine zU ?_
|refine za ?_
|refine zAQ ?_
|refine zC ?_
|refine ⟨_,by conv => lhs; whnf; arg 2; whnf,?_⟩; conv => rhs; whnf
|exact trivial)
       all_goals first
        | exact ⟨by kernel_rfl,by omega,by omega⟩
        | exact (show Tryz.prog.underlying 9 = some TypeDesc.string by kernel_rfl)
        | (rw [hsk]; rfl)
 . have f0 : decide ((k : Int) < ((bs s).size : Nat)) = false:=decide_eq_false (by omega)
   have e : skipM false (s.drop k) = 0:=by rw [show k = s.length by omega,List.drop_length]; rfl
   rw [e]
   repeat' (first
|apply zE
 . conv => lhs; whnf
 . assumption
|refine zA ?_
|refine zB ?_
|refine zG ?_
|apply aw_1
 conv => whnf
 refine ⟨?_,trivial⟩
|apply s_1
 conv => whnf; arg 1; arg 4; arg 3; whnf
 refine ⟨?_,?_⟩
|refine zP ?_
|refine zM rfl ?_
|refine zW ?_
|refine zC ?_
|refine ⟨_,by conv => lhs; whnf; arg 2; whnf,?_⟩; conv => rhs; whnf
|exact trivial)
   all_goals first
    | rfl
    | exact (show Tryz.prog.underlying 9 = some TypeDesc.string by kernel_rfl)
def signsL : List UInt8:=[33,36,38,40,41,58,61,64,91,93,123,124,125]
noncomputable def HSg (c : UInt8) (k : Nat) : Vst 16:=stS 16 [(0,.c (.int .u8 (c.toNat : Int))),(3,.c (.string { data:=#[33,36,38,40,41,58,61,64,91,93,123,124,125] })),(4,.c (.int .i64 (k : Int)))] []
theorem byte_sg {k : Nat} (h : k < signsL.length) : zO ({ data:=#[33,36,38,40,41,58,61,64,91,93,123,124,125] } : ByteArray) ((k : Int)).toNat = (signsL[k].toNat : Int):=zAJ (s:=signsL) h
theorem u8_same (a b : UInt8) : (((a.toNat : Nat) : Int) == ((b.toNat : Nat) : Int)) = (a == b):=by
 rw [Bool.eq_iff_iff,beq_iff_eq,beq_iff_eq]
 exact ⟨fun h => UInt8.toNat_inj.1 (by omega),fun h => by rw [h]⟩
theorem zA4 (c : UInt8) : AC EN5 Tryz.prog 217 [.c (.int .u8 (c.toNat : Int))] (.c (.bool (signB c))):=by
 have hR : signB c = (signsL.drop 0).contains c:=rfl
 generalize signB c = R at hR |-
 refine zF 16 Tryz.func217 rfl rfl rfl rfl ?_
 intro s0 w he
 repeat' (first
|refine zA ?_
|refine zB ?_
|refine zG ?_
|apply aw_1
 conv => whnf
 refine ⟨?_,trivial⟩
|apply s_1
 conv => whnf; arg 1; arg 4; arg 3; whnf
 refine ⟨?_,?_⟩
|exact trivial)
 refine zu (fun j st => ∃ k,k + j = 13 /\ R = (signsL.drop k).contains c /\ Sub (cx EN5 Tryz.prog s0 w he) st (HSg c k)) 13 ⟨0,by omega,hR,Sub.live ⟨rfl,rfl,rfl,trivial⟩ trivial⟩ ?_
 clear hR
 rintro j st ⟨k,hkj,hR,hs2⟩
 refine zn hs2 ?_
 clear hs2
 have hz : (({ data:=#[33,36,38,40,41,58,61,64,91,93,123,124,125] } : ByteArray).size : Int) = 13:=rfl
 have hlen : signsL.length = 13:=rfl
 by_cases hk : k < 13
 . have f0 : decide ((k : Int) < (({ data:=#[33,36,38,40,41,58,61,64,91,93,123,124,125] } : ByteArray).size : Nat)) = true:=decide_eq_true (by rw [hz]; omega)
   have hk2 : k < signsL.length:=by omega
   have hbt:=byte_sg hk2
   have hd : signsL.drop k = signsL[k] :: signsL.drop (k + 1):=List.drop_eq_getElem_cons hk2
   rw [hd,List.contains_cons] at hR
   have hq : (zO ({ data:=#[33,36,38,40,41,58,61,64,91,93,123,124,125] } : ByteArray) ((k : Int)).toNat == ((c.toNat : Nat) : Int)) = (c == signsL[k]):=by
    rw [hbt,u8_same,Bool.eq_iff_iff,beq_iff_eq,beq_iff_eq]; exact eq_comm
   generalize (c == signsL[k]) = a at hq hR
   repeat' (first
|apply zJ
 . conv => lhs; whnf
 . assumption
|refine zA ?_
|refine zB ?_
|refine zG ?_
|refine zb ?_
|apply aw_1
 conv => whnf
 refine ⟨?_,trivial⟩
|apply s_1
 conv => whnf; arg 1; arg 4; arg 3; whnf
 refine ⟨?_,?_⟩
|refine zg (by conv => lhs; whnf) ?_ ?_ <;> intro hb
|refine zU ?_
|refine za ?_
|refine zAQ ?_
|refine zC ?_
|refine ⟨_,by conv => lhs; whnf; arg 2; whnf,?_⟩; conv => rhs; whnf
|exact trivial)
   all_goals first
    | exact zS (by omega)
    | exact ⟨by kernel_rfl,by omega,by rw [hz]; omega⟩
    | exact (show Tryz.prog.underlying 9 = some TypeDesc.string by kernel_rfl)
    | (have e : a = true:=by rw [<- hq]; assumption
       rw [hR,e]; rfl)
    | (have e : a = false:=by rw [<- hq]; assumption
       exact zL (j':=j - 1) (by omega) ⟨k + 1,by omega,by rw [hR,e,Bool.false_or],Sub.live ⟨rfl,rfl,rfl,trivial⟩ trivial⟩)
    | skip
 . have f0 : decide ((k : Int) < (({ data:=#[33,36,38,40,41,58,61,64,91,93,123,124,125] } : ByteArray).size : Nat)) = false:=decide_eq_false (by rw [hz]; omega)
   have e : signsL.drop k = []:=List.drop_of_length_le (by omega)
   rw [e] at hR
   repeat' (first
|apply zE
 . conv => lhs; whnf
 . assumption
|refine zA ?_
|refine zB ?_
|refine zG ?_
|apply aw_1
 conv => whnf
 refine ⟨?_,trivial⟩
|apply s_1
 conv => whnf; arg 1; arg 4; arg 3; whnf
 refine ⟨?_,?_⟩
|refine zP ?_
|refine zM rfl ?_
|refine zW ?_
|refine zC ?_
|refine ⟨_,by conv => lhs; whnf; arg 2; whnf,?_⟩; conv => rhs; whnf
|exact trivial)
   all_goals first
    | (rw [hR]; rfl)
    | exact (show Tryz.prog.underlying 9 = some TypeDesc.string by kernel_rfl)
def litW (s : List UInt8) (k : Nat) : Int:=match litN (s.drop k) with
 | none => -1
 | some n => ((k + n : Nat) : Int)
theorem litW_V (s : List UInt8) (i : Nat) : litW s (i + 1) = litV s i:=rfl
theorem litW_end {s : List UInt8} {k : Nat} (h : s.length <= k) : litW s k = -1:=by
 unfold litW
 rw [List.drop_of_length_le h]; rfl
theorem litW_at {s : List UInt8} {k : Nat} (h : k < s.length) : litW s k = if s[k] == 34 then ((k : Int) + 1) else if s[k] == 92 then litW s (k + 2) else litW s (k + 1):=by
 unfold litW
 rw [List.drop_eq_getElem_cons h]
 by_cases h34 : (s[k] == 34) = true
 . rw [if_pos h34]
   cases hr : s.drop (k + 1) with
   | nil => simp only [litN,h34,if_true]; omega
   | cons d r => simp only [litN,h34,if_true]; omega
 . rw [if_neg h34]
   cases hr : s.drop (k + 1) with
   | nil =>
     have h2 : s.drop (k + 2) = []:=List.drop_of_length_le (by have:=congrArg List.length hr; rw [List.length_drop] at this; simp at this; omega)
     rw [h2]
     simp only [litN,h34]
     by_cases h92 : (s[k] == 92) = true <;> simp [h92]
   | cons d r =>
     have h2 : s.drop (k + 2) = r:=by rw [show k + 2 = (k + 1) + 1 by omega,<- List.drop_drop,hr]; rfl
     rw [h2]
     simp only [litN,h34]
     by_cases h92 : (s[k] == 92) = true
     . rw [if_pos h92,if_pos h92]
       cases litN r with
       | none => rfl
       | some n => simp only [Option.map_some,Bool.false_eq_true,if_false]; congr 1; omega
     . rw [if_neg h92,if_neg h92]
       cases litN (d :: r) with
       | none => rfl
       | some n => simp only [Option.map_some,Bool.false_eq_true,if_false]; congr 1; omega
noncomputable def HCl (s : List UInt8) (k : Nat) : Vst 25:=stS 25 [(0,.c (.string (bs s))),(1,.c (.int .i64 (k : Int)))] []
theorem zEy (s : List UInt8) (i : Nat) (hi : i < s.length) (hs : s.length <= 1000000) : AC EN5 Tryz.prog 222 [.c (.string (bs s)),.c (.int .i64 (i : Int))] (.c (.int .i64 (litV s i))):=by
 have hz:=zh s
 rw [<- litW_V]
 generalize hR : litW s (i + 1) = R
 refine zF 25 Tryz.func222 rfl rfl rfl rfl ?_
 intro s0 w he
 repeat' (first
|refine zA ?_
|refine zB ?_
|refine zG ?_
|apply aw_1
 conv => whnf
 refine ⟨?_,trivial⟩
|apply s_1
 conv => whnf; arg 1; arg 4; arg 3; whnf
 refine ⟨?_,?_⟩
|exact trivial)
 . refine zu (fun j st => ∃ k,k + j = s.length + 2 /\ R = litW s k /\ Sub (cx EN5 Tryz.prog s0 w he) st (HCl s k)) (s.length + 1 - i) ⟨i + 1,by omega,hR.symm,Sub.live ⟨rfl,rfl,trivial⟩ trivial⟩ ?_
   clear hR
   rintro j st ⟨k,hkj,hR,hs2⟩
   refine zn hs2 ?_
   clear hs2
   by_cases hk : k < s.length
   . have f0 : decide ((k : Int) < ((bs s).size : Nat)) = true:=decide_eq_true (by omega)
     have hbt:=zAJ hk
     have q : ∀ n : Nat,n < 256 -> (zO (bs s) ((k : Int)).toNat == (n : Int)) = (s[k] == UInt8.ofNat n):=fun n hn => by rw [hbt]; exact zBT s[k] n hn
     have q34 : (zO (bs s) ((k : Int)).toNat == 34) = (s[k] == 34):=q 34 (by decide)
     have q92 : (zO (bs s) ((k : Int)).toNat == 92) = (s[k] == 92):=q 92 (by decide)
     rw [litW_at hk] at hR
     generalize (s[k] == 34) = a at q34 hR
     generalize (s[k] == 92) = b at q92 hR
     clear q hbt
     repeat' (first
|apply zJ
 . conv => lhs; whnf
 . assumption
|refine zA ?_
|refine zB ?_
|refine zG ?_
|refine zb ?_
|apply aw_1
 conv => whnf
 refine ⟨?_,trivial⟩
|apply s_1
 conv => whnf; arg 1; arg 4; arg 3; whnf
 refine ⟨?_,?_⟩
|refine zg (by conv => lhs; whnf) ?_ ?_ <;> intro hb
|refine zU ?_
|refine za ?_
|refine zAQ ?_
|refine zC ?_
|refine ⟨_,by conv => lhs; whnf; arg 2; whnf,?_⟩; conv => rhs; whnf
|exact trivial)
     all_goals first
      | exact zS (by omega)
      | exact ⟨by kernel_rfl,by omega,by omega⟩
      | exact (show Tryz.prog.underlying 9 = some TypeDesc.string by kernel_rfl)
      | skip
     . have e : a = true:=by rw [<- q34]; assumption
       rw [e,if_pos rfl] at hR
       exact congrArg (fun n => V.c (.int .i64 n)) hR
     . have e : a = false:=by rw [<- q34]; assumption
       have e2 : b = true:=by rw [<- q92]; assumption
       rw [e,e2,if_neg (by decide),if_pos rfl] at hR
       exact zL (j':=j - 2) (by omega) ⟨k + 2,by omega,hR,Sub.live ⟨rfl,congrArg (fun n => V.c (.int .i64 n)) (show (k : Int) + 1 + 1 = ((k + 2 : Nat) : Int) by omega),trivial⟩ trivial⟩
     . have e : a = false:=by rw [<- q34]; assumption
       have e2 : b = false:=by rw [<- q92]; assumption
       rw [e,e2,if_neg (by decide),if_neg (by decide)] at hR
       exact zL (j':=j - 1) (by omega) ⟨k + 1,by omega,hR,Sub.live ⟨rfl,rfl,trivial⟩ trivial⟩
   . have f0 : decide ((k : Int) < ((bs s).size : Nat)) = false:=decide_eq_false (by omega)
     rw [litW_end (by omega)] at hR
     repeat' (first
|apply zE
 . conv => lhs; whnf
 . assumption
|refine zA ?_
|refine zB ?_
|refine zG ?_
|apply aw_1
 conv => whnf
 refine ⟨?_,trivial⟩
|apply s_1
 conv => whnf; arg 1; arg 4; arg 3; whnf
 refine ⟨?_,?_⟩
|refine zP ?_
|refine zM rfl ?_
|refine zW ?_
|refine zC ?_
|refine ⟨_,by conv => lhs; whnf; arg 2; whnf,?_⟩; conv => rhs; whnf
|exact trivial)
     all_goals first
      | exact congrArg (fun n => V.c (.int .i64 n)) hR
      | exact (show Tryz.prog.underlying 9 = some TypeDesc.string by kernel_rfl)
 . exact zS (by omega)
section
variable {s : List UInt8} {i : Nat} (hi : i < s.length) (hs : s.length <= 70000)
include hi hs
theorem one_sign (h : signB s[i] = true) : AC EN5 Tryz.prog 142 [.c (.string (bs s)),.c (.int .i64 (i : Int))] (tupR ⟨1,[s[i]],i⟩ (i + 1) 0):=by
 have hz:=zh s
 have hbt:=zAJ hi
 have hdr : s.drop i = s[i] :: s.drop (i + 1):=List.drop_eq_getElem_cons hi
 have q : ∀ n : Nat,n < 256 -> (zO (bs s) ((i : Int)).toNat == (n : Int)) = (s[i] == UInt8.ofNat n):=fun n hn => by rw [hbt]; exact zBT _ n hn
 have hsg:=zA4 s[i]
 have hlt:=zAP s[i]
 have hdg:=zAc s[i]
 rw [<- hbt] at hsg hlt hdg
 rw [h] at hsg
 have hx : (bs s).extract ((i : Int)).toNat (((i : Int) + 1)).toNat = bs [s[i]]:=by
  rw [show (((i : Int) + 1)).toNat = i + 1 by omega,Int.toNat_natCast,zCk s (by omega) (by omega),hdr,Nat.add_sub_cancel_left]; rfl
 refine zF 115 Tryz.func142 rfl rfl rfl rfl ?_
 intro s0 w he
 repeat' (first
|refine zAs ?_
|refine zA ?_
|refine zB ?_
|refine zG ?_
|apply zB6 rfl
 . conv => lhs; whnf
 . conv => lhs; whnf; arg 2; whnf
|apply ze rfl
 . conv => lhs; whnf
 . conv => lhs; whnf
 . first | exact hsg
|apply zA5 rfl rfl rfl rfl
 . conv => lhs; whnf; arg 1; whnf
 . rfl
|apply zI rfl rfl rfl
 . conv => lhs; whnf
 . conv => lhs; whnf; arg 1; whnf
 . conv => lhs; whnf; arg 1; whnf
 . exact ⟨by kernel_rfl,by kernel_rfl⟩
 . rfl
|apply zCE
 . conv => lhs; whnf; arg 1; arg 1; whnf
|refine zBa ?_
|refine zU ?_
|refine zC ?_
|exact trivial)
 . refine ⟨_,_,_,rfl,rfl,rfl,?_⟩
   show _ = V.tup [.agg [.c (.int .i64 1),.c (.string ((bs s).extract ((i : Int)).toNat (((i : Int) + 1)).toNat)),.c (.int .i64 (i : Int))],.c (.int .i64 ((i : Int) + 1)),.c (.int .i64 0)]
   rw [hx]; rfl
 all_goals first
  | exact zS (by omega)
  | exact ⟨by kernel_rfl,by omega,by omega⟩
  | exact ⟨by kernel_rfl,by omega,by omega,by omega⟩
  | exact (show Tryz.prog.underlying _ = some TypeDesc.string by kernel_rfl)
  | skip
theorem one_dots (h0 : signB s[i] = false) (h : s[i] = 46) (h3 : i + 3 <= s.length) (hd : (s.drop (i + 1)).take 2 = [46,46]) : AC EN5 Tryz.prog 142 [.c (.string (bs s)),.c (.int .i64 (i : Int))] (tupR ⟨1,[46,46,46],i⟩ (i + 3) 0):=by
 have hz:=zh s
 have hbt:=zAJ hi
 have hdr : s.drop i = s[i] :: s.drop (i + 1):=List.drop_eq_getElem_cons hi
 have q : ∀ n : Nat,n < 256 -> (zO (bs s) ((i : Int)).toNat == (n : Int)) = (s[i] == UInt8.ofNat n):=fun n hn => by rw [hbt]; exact zBT _ n hn
 have hsg:=zA4 s[i]
 have hlt:=zAP s[i]
 have hdg:=zAc s[i]
 rw [<- hbt] at hsg hlt hdg
 rw [h0] at hsg
 have f1 : (zO (bs s) ((i : Int)).toNat == 46) = true:=(q 46 (by omega)).trans (by rw [h]; rfl)
 have g1 : ((zO (bs s) ((i : Int)).toNat == 46) == true) = true:=by rw [f1]; rfl
 have f2 : decide ((i : Int) + 3 <= ((bs s).size : Nat)) = true:=decide_eq_true (by omega)
 have g2 : (decide ((i : Int) + 3 <= ((bs s).size : Nat)) == true) = true:=by rw [f2]; rfl
 have hx : (bs s).extract ((i : Int)).toNat (((i : Int) + 3)).toNat = bs [46,46,46]:=by
  rw [show (((i : Int) + 3)).toNat = i + 3 by omega,Int.toNat_natCast,zCk s (by omega) (by omega),hdr,Nat.add_sub_cancel_left,h,List.take_succ_cons,hd]
 have f3 : (((bs s).extract ((i : Int)).toNat (((i : Int) + 3)).toNat).toList == ({ data:=#[46,46,46] } : ByteArray).toList) = true:=by rw [hx,Lib.toList_data,Lib.toList_data,zAE]; rfl
 refine zF 115 Tryz.func142 rfl rfl rfl rfl ?_
 intro s0 w he
 repeat' (first
|apply zJ
 . conv => lhs; whnf
 . assumption
|refine zAs ?_
|refine zA ?_
|refine zB ?_
|refine zG ?_
|refine zBE ?_
|apply zY rfl rfl
 . conv => lhs; whnf
 . conv => lhs; whnf
 . first | exact bT1 ‹_› | exact bT2 ‹_›
|apply zB6 rfl
 . conv => lhs; whnf
 . conv => lhs; whnf; arg 2; whnf
|apply ze rfl
 . conv => lhs; whnf
 . conv => lhs; whnf
 . first | exact hsg
|apply zA5 rfl rfl rfl rfl
 . conv => lhs; whnf; arg 1; whnf
 . rfl
|apply zI rfl rfl rfl
 . conv => lhs; whnf
 . conv => lhs; whnf; arg 1; whnf
 . conv => lhs; whnf; arg 1; whnf
 . exact ⟨by kernel_rfl,by kernel_rfl⟩
 . rfl
|apply zD rfl
 . conv => lhs; whnf
 . conv => lhs; whnf
 . first | rfl | assumption
 . conv => lhs; whnf; arg 2; whnf
|apply zAk
 . conv => lhs; whnf; arg 1; arg 1; whnf
|refine zBa ?_
|refine zU ?_
|refine zC ?_
|exact trivial)
 . exact ⟨_,_,_,rfl,rfl,rfl,rfl⟩
 all_goals first
  | exact zS (by omega)
  | exact ⟨by kernel_rfl,by omega,by omega⟩
  | exact ⟨by kernel_rfl,by omega,by omega,by omega⟩
  | exact (show Tryz.prog.underlying _ = some TypeDesc.string by kernel_rfl)
  | skip
theorem one_word (h0 : signB s[i] = false) (h46 : s[i] ≠ 46) (hl : letU s[i] = true) (hlen : spanN wrdU (s.drop (i + 1)) + 1 <= 64) : AC EN5 Tryz.prog 142 [.c (.string (bs s)),.c (.int .i64 (i : Int))] (tupR ⟨2,s[i] :: (s.drop (i + 1)).take (spanN wrdU (s.drop (i + 1))),i⟩ (i + 1 + spanN wrdU (s.drop (i + 1))) 0):=by
 have hz:=zh s
 have hbt:=zAJ hi
 have hdr : s.drop i = s[i] :: s.drop (i + 1):=List.drop_eq_getElem_cons hi
 have q : ∀ n : Nat,n < 256 -> (zO (bs s) ((i : Int)).toNat == (n : Int)) = (s[i] == UInt8.ofNat n):=fun n hn => by rw [hbt]; exact zBT _ n hn
 have hsg:=zA4 s[i]
 have hlt:=zAP s[i]
 have hdg:=zAc s[i]
 rw [<- hbt] at hsg hlt hdg
 rw [h0] at hsg
 have f1 : (zO (bs s) ((i : Int)).toNat == 46) = false:=(q 46 (by omega)).trans (by simpa using h46)
 have g1 : ((zO (bs s) ((i : Int)).toNat == 46) == true) = false:=by rw [f1]; rfl
 have hle:=zAu wrdU (s.drop (i + 1))
 rw [List.length_drop] at hle
 rw [hl] at hlt
 have hsp:=zD5 s i (by omega) (by omega)
 have hw : wrdU s[i] = true:=by unfold wrdU; rw [hl]; rfl
 have e1 : i + spanN wrdU (s.drop i) = i + 1 + spanN wrdU (s.drop (i + 1)):=by rw [hdr,spanN,if_pos hw]; omega
 rw [e1] at hsp
 generalize spanN wrdU (s.drop (i + 1)) = n at *
 have f2 : decide (((i + 1 + n : Nat) : Int) - (i : Int) > 64) = false:=decide_eq_false (by omega)
 have hx : (bs s).extract ((i : Int)).toNat (((i + 1 + n : Nat) : Int)).toNat = bs (s[i] :: (s.drop (i + 1)).take n):=by
  rw [Int.toNat_natCast,Int.toNat_natCast,zCk s (by omega) (by omega),hdr,show i + 1 + n - i = n + 1 by omega,List.take_succ_cons]
 refine zF 115 Tryz.func142 rfl rfl rfl rfl ?_
 intro s0 w he
 repeat' (first
|apply zE
 . conv => lhs; whnf
 . assumption
|refine zAs ?_
|refine zA ?_
|refine zB ?_
|refine zG ?_
|refine zBE ?_
|apply zV rfl rfl
 . conv => lhs; whnf
 . conv => lhs; whnf
 . first | exact bF1 ‹_› | exact bF2 ‹_›
|apply zB6 rfl
 . conv => lhs; whnf
 . conv => lhs; whnf; arg 2; whnf
|apply ze rfl
 . conv => lhs; whnf
 . conv => lhs; whnf
 . first | exact hsg | exact hlt | exact hsp
|apply zA5 rfl rfl rfl rfl
 . conv => lhs; whnf; arg 1; whnf
 . rfl
|apply zI rfl rfl rfl
 . conv => lhs; whnf
 . conv => lhs; whnf; arg 1; whnf
 . conv => lhs; whnf; arg 1; whnf
 . exact ⟨by kernel_rfl,by kernel_rfl⟩
 . rfl
|apply zd rfl
 . conv => lhs; whnf
 . conv => lhs; whnf
 . first | rfl | assumption
|apply zCE
 . conv => lhs; whnf; arg 1; arg 1; whnf
|apply zAk
 . conv => lhs; whnf; arg 1; arg 1; whnf
|refine zBa ?_
|refine zU ?_
|refine zC ?_
|exact trivial)
 . refine ⟨_,_,_,rfl,rfl,rfl,?_⟩
   show _ = V.tup [.agg [.c (.int .i64 2),.c (.string ((bs s).extract ((i : Int)).toNat (((i + 1 + n : Nat) : Int)).toNat)),.c (.int .i64 (i : Int))],.c (.int .i64 ((i + 1 + n : Nat) : Int)),.c (.int .i64 0)]
   rw [hx]; rfl
 all_goals first
  | exact zS (by omega)
  | exact ⟨by kernel_rfl,by omega,by omega⟩
  | exact ⟨by kernel_rfl,by omega,by omega,by omega⟩
  | exact (show Tryz.prog.underlying _ = some TypeDesc.string by kernel_rfl)
  | skip
theorem one_long (h0 : signB s[i] = false) (h46 : s[i] ≠ 46) (hl : letU s[i] = true) (hlen : ¬ spanN wrdU (s.drop (i + 1)) + 1 <= 64) : AC EN5 Tryz.prog 142 [.c (.string (bs s)),.c (.int .i64 (i : Int))] failR:=by
 have hz:=zh s
 have hbt:=zAJ hi
 have hdr : s.drop i = s[i] :: s.drop (i + 1):=List.drop_eq_getElem_cons hi
 have q : ∀ n : Nat,n < 256 -> (zO (bs s) ((i : Int)).toNat == (n : Int)) = (s[i] == UInt8.ofNat n):=fun n hn => by rw [hbt]; exact zBT _ n hn
 have hsg:=zA4 s[i]
 have hlt:=zAP s[i]
 have hdg:=zAc s[i]
 rw [<- hbt] at hsg hlt hdg
 rw [h0] at hsg
 have f1 : (zO (bs s) ((i : Int)).toNat == 46) = false:=(q 46 (by omega)).trans (by simpa using h46)
 have g1 : ((zO (bs s) ((i : Int)).toNat == 46) == true) = false:=by rw [f1]; rfl
 have hle:=zAu wrdU (s.drop (i + 1))
 rw [List.length_drop] at hle
 rw [hl] at hlt
 have hsp:=zD5 s i (by omega) (by omega)
 have hw : wrdU s[i] = true:=by unfold wrdU; rw [hl]; rfl
 have e1 : i + spanN wrdU (s.drop i) = i + 1 + spanN wrdU (s.drop (i + 1)):=by rw [hdr,spanN,if_pos hw]; omega
 rw [e1] at hsp
 generalize spanN wrdU (s.drop (i + 1)) = n at *
 have f2 : decide (((i + 1 + n : Nat) : Int) - (i : Int) > 64) = true:=decide_eq_true (by omega)
 refine zF 115 Tryz.func142 rfl rfl rfl rfl ?_
 intro s0 w he
 repeat' (first
|apply zJ
 . conv => lhs; whnf
 . assumption
|refine zAs ?_
|refine zA ?_
|refine zB ?_
|refine zG ?_
|refine zBE ?_
|apply zV rfl rfl
 . conv => lhs; whnf
 . conv => lhs; whnf
 . first | exact bF1 ‹_› | exact bF2 ‹_›
|apply zB6 rfl
 . conv => lhs; whnf
 . conv => lhs; whnf; arg 2; whnf
|apply ze rfl
 . conv => lhs; whnf
 . conv => lhs; whnf
 . first | exact hsg | exact hlt | exact hsp
|apply zA5 rfl rfl rfl rfl
 . conv => lhs; whnf; arg 1; whnf
 . rfl
|apply zI rfl rfl rfl
 . conv => lhs; whnf
 . conv => lhs; whnf; arg 1; whnf
 . conv => lhs; whnf; arg 1; whnf
 . exact ⟨by kernel_rfl,by kernel_rfl⟩
 . rfl
|apply zd rfl
 . conv => lhs; whnf
 . conv => lhs; whnf
 . first | rfl | assumption
|apply zCE
 . conv => lhs; whnf; arg 1; arg 1; whnf
|apply zAk
 . conv => lhs; whnf; arg 1; arg 1; whnf
|refine zBa ?_
|refine zU ?_
|refine zC ?_
|exact trivial)
 . exact ⟨_,_,_,rfl,rfl,rfl,rfl⟩
 all_goals first
  | exact zS (by omega)
  | exact ⟨by kernel_rfl,by omega,by omega⟩
  | exact ⟨by kernel_rfl,by omega,by omega,by omega⟩
  | exact (show Tryz.prog.underlying _ = some TypeDesc.string by kernel_rfl)
  | skip
theorem one_dig (h0 : signB s[i] = false) (h46 : s[i] ≠ 46) (hl : letU s[i] = false) (hd : digU s[i] = true) : AC EN5 Tryz.prog 142 [.c (.string (bs s)),.c (.int .i64 (i : Int))] (tupR ⟨3,s[i] :: (s.drop (i + 1)).take (spanN wrdU (s.drop (i + 1))),i⟩ (i + 1 + spanN wrdU (s.drop (i + 1))) (nerU (numU (s[i] :: (s.drop (i + 1)).take (spanN wrdU (s.drop (i + 1))))))):=by
 have hz:=zh s
 have hbt:=zAJ hi
 have hdr : s.drop i = s[i] :: s.drop (i + 1):=List.drop_eq_getElem_cons hi
 have q : ∀ n : Nat,n < 256 -> (zO (bs s) ((i : Int)).toNat == (n : Int)) = (s[i] == UInt8.ofNat n):=fun n hn => by rw [hbt]; exact zBT _ n hn
 have hsg:=zA4 s[i]
 have hlt:=zAP s[i]
 have hdg:=zAc s[i]
 rw [<- hbt] at hsg hlt hdg
 rw [h0] at hsg
 have f1 : (zO (bs s) ((i : Int)).toNat == 46) = false:=(q 46 (by omega)).trans (by simpa using h46)
 have g1 : ((zO (bs s) ((i : Int)).toNat == 46) == true) = false:=by rw [f1]; rfl
 have hle:=zAu wrdU (s.drop (i + 1))
 rw [List.length_drop] at hle
 rw [hl] at hlt
 have hsp:=zD5 s (i + 1) (by omega) (by omega)
 generalize hn : spanN wrdU (s.drop (i + 1)) = n at *
 have hx : (bs s).extract ((i : Int)).toNat (((i + 1 + n : Nat) : Int)).toNat = bs (s[i] :: (s.drop (i + 1)).take n):=by
  rw [Int.toNat_natCast,Int.toNat_natCast,zCk s (by omega) (by omega),hdr,show i + 1 + n - i = n + 1 by omega,List.take_succ_cons]
 have hsz : ((bs s).extract ((i : Int)).toNat (((i + 1 + n : Nat) : Int)).toNat).size <= 281474976710656:=by rw [ByteArray.size_extract]; omega
 have hnu:=zDl _ hsz
 unfold zH1 at hnu
 have htx : tx ((bs s).extract ((i : Int)).toNat (((i + 1 + n : Nat) : Int)).toNat) = s[i] :: (s.drop (i + 1)).take n:=by rw [hx]; exact zAE _
 rw [htx] at hnu
 have g2 : (digU s[i] == false) = false:=by rw [hd]; rfl
 have f3:=hd
 refine zF 115 Tryz.func142 rfl rfl rfl rfl ?_
 intro s0 w he
 repeat' (first
|refine zAs ?_
|refine zA ?_
|refine zB ?_
|refine zG ?_
|refine zBE ?_
|apply zY rfl rfl
 . conv => lhs; whnf
 . conv => lhs; whnf
 . first | exact bT1 ‹_› | exact bT2 ‹_›
|apply zV rfl rfl
 . conv => lhs; whnf
 . conv => lhs; whnf
 . first | exact bF1 ‹_› | exact bF2 ‹_›
|apply zB6 rfl
 . conv => lhs; whnf
 . conv => lhs; whnf; arg 2; whnf
|apply ze rfl
 . conv => lhs; whnf
 . conv => lhs; whnf
 . first | exact hsg | exact hlt | exact hdg | exact hsp | exact hnu
|apply zA5 rfl rfl rfl rfl
 . conv => lhs; whnf; arg 1; whnf
 . rfl
|apply zI rfl rfl rfl
 . conv => lhs; whnf
 . conv => lhs; whnf; arg 1; whnf
 . conv => lhs; whnf; arg 1; whnf
 . exact ⟨by kernel_rfl,by kernel_rfl⟩
 . rfl
|apply zd rfl
 . conv => lhs; whnf
 . conv => lhs; whnf
 . first | rfl | assumption
|apply zCE
 . conv => lhs; whnf; arg 1; arg 1; whnf
|apply zAk
 . conv => lhs; whnf; arg 1; arg 1; whnf
|refine zBa ?_
|refine zU ?_
|refine zC ?_
|exact trivial)
 . refine ⟨_,_,_,rfl,rfl,rfl,?_⟩
   show _ = V.tup [.agg [.c (.int .i64 3),.c (.string ((bs s).extract ((i : Int)).toNat (((i + 1 + n : Nat) : Int)).toNat)),.c (.int .i64 (i : Int))],.c (.int .i64 ((i + 1 + n : Nat) : Int)),.c (.int .i64 (nerU (numU (s[i] :: (s.drop (i + 1)).take n))))]
   rw [hx]; rfl
 all_goals first
  | exact zS (by omega)
  | exact ⟨by kernel_rfl,by omega,by omega⟩
  | exact ⟨by kernel_rfl,by omega,by omega,by omega⟩
  | exact (show Tryz.prog.underlying _ = some TypeDesc.string by kernel_rfl)
  | skip
theorem one_neg (h0 : signB s[i] = false) (h46 : s[i] ≠ 46) (hl : letU s[i] = false) (hd : digU s[i] = false) (h45 : s[i] = 45) : AC EN5 Tryz.prog 142 [.c (.string (bs s)),.c (.int .i64 (i : Int))] (tupR ⟨3,s[i] :: (s.drop (i + 1)).take (spanN wrdU (s.drop (i + 1))),i⟩ (i + 1 + spanN wrdU (s.drop (i + 1))) (nerU (numU (s[i] :: (s.drop (i + 1)).take (spanN wrdU (s.drop (i + 1))))))):=by
 have hz:=zh s
 have hbt:=zAJ hi
 have hdr : s.drop i = s[i] :: s.drop (i + 1):=List.drop_eq_getElem_cons hi
 have q : ∀ n : Nat,n < 256 -> (zO (bs s) ((i : Int)).toNat == (n : Int)) = (s[i] == UInt8.ofNat n):=fun n hn => by rw [hbt]; exact zBT _ n hn
 have hsg:=zA4 s[i]
 have hlt:=zAP s[i]
 have hdg:=zAc s[i]
 rw [<- hbt] at hsg hlt hdg
 rw [h0] at hsg
 have f1 : (zO (bs s) ((i : Int)).toNat == 46) = false:=(q 46 (by omega)).trans (by simpa using h46)
 have g1 : ((zO (bs s) ((i : Int)).toNat == 46) == true) = false:=by rw [f1]; rfl
 have hle:=zAu wrdU (s.drop (i + 1))
 rw [List.length_drop] at hle
 rw [hl] at hlt
 have hsp:=zD5 s (i + 1) (by omega) (by omega)
 generalize hn : spanN wrdU (s.drop (i + 1)) = n at *
 have hx : (bs s).extract ((i : Int)).toNat (((i + 1 + n : Nat) : Int)).toNat = bs (s[i] :: (s.drop (i + 1)).take n):=by
  rw [Int.toNat_natCast,Int.toNat_natCast,zCk s (by omega) (by omega),hdr,show i + 1 + n - i = n + 1 by omega,List.take_succ_cons]
 have hsz : ((bs s).extract ((i : Int)).toNat (((i + 1 + n : Nat) : Int)).toNat).size <= 281474976710656:=by rw [ByteArray.size_extract]; omega
 have hnu:=zDl _ hsz
 unfold zH1 at hnu
 have htx : tx ((bs s).extract ((i : Int)).toNat (((i + 1 + n : Nat) : Int)).toNat) = s[i] :: (s.drop (i + 1)).take n:=by rw [hx]; exact zAE _
 rw [htx] at hnu
 have g2 : (digU s[i] == false) = true:=by rw [hd]; rfl
 have f3 : (zO (bs s) ((i : Int)).toNat == 45) = true:=(q 45 (by omega)).trans (by rw [h45]; rfl)
 refine zF 115 Tryz.func142 rfl rfl rfl rfl ?_
 intro s0 w he
 repeat' (first
|apply zJ
 . conv => lhs; whnf
 . assumption
|refine zAs ?_
|refine zA ?_
|refine zB ?_
|refine zG ?_
|refine zBE ?_
|apply zV rfl rfl
 . conv => lhs; whnf
 . conv => lhs; whnf
 . first | exact bF1 ‹_› | exact bF2 ‹_›
|apply zB6 rfl
 . conv => lhs; whnf
 . conv => lhs; whnf; arg 2; whnf
|apply ze rfl
 . conv => lhs; whnf
 . conv => lhs; whnf
 . first | exact hsg | exact hlt | exact hdg | exact hsp | exact hnu
|apply zA5 rfl rfl rfl rfl
 . conv => lhs; whnf; arg 1; whnf
 . rfl
|apply zI rfl rfl rfl
 . conv => lhs; whnf
 . conv => lhs; whnf; arg 1; whnf
 . conv => lhs; whnf; arg 1; whnf
 . exact ⟨by kernel_rfl,by kernel_rfl⟩
 . rfl
|apply zD rfl
 . conv => lhs; whnf
 . conv => lhs; whnf
 . first | rfl | assumption
 . conv => lhs; whnf; arg 2; whnf
|apply zd rfl
 . conv => lhs; whnf
 . conv => lhs; whnf
 . first | rfl | assumption
|apply zAk
 . conv => lhs; whnf; arg 1; arg 1; whnf
|refine zBa ?_
|refine zU ?_
|refine zC ?_
|exact trivial)
 . refine ⟨_,_,_,rfl,rfl,rfl,?_⟩
   show _ = V.tup [.agg [.c (.int .i64 3),.c (.string ((bs s).extract ((i : Int)).toNat (((i + 1 + n : Nat) : Int)).toNat)),.c (.int .i64 (i : Int))],.c (.int .i64 ((i + 1 + n : Nat) : Int)),.c (.int .i64 (nerU (numU (s[i] :: (s.drop (i + 1)).take n))))]
   rw [hx]; rfl
 all_goals first
  | exact zS (by omega)
  | exact ⟨by kernel_rfl,by omega,by omega⟩
  | exact ⟨by kernel_rfl,by omega,by omega,by omega⟩
  | exact (show Tryz.prog.underlying _ = some TypeDesc.string by kernel_rfl)
  | skip
theorem one_none (h0 : signB s[i] = false) (h46 : s[i] ≠ 46) (hl : letU s[i] = false) (hd : digU s[i] = false) (h45 : s[i] ≠ 45) (h34 : s[i] ≠ 34) : AC EN5 Tryz.prog 142 [.c (.string (bs s)),.c (.int .i64 (i : Int))] failR:=by
 have hz:=zh s
 have hbt:=zAJ hi
 have hdr : s.drop i = s[i] :: s.drop (i + 1):=List.drop_eq_getElem_cons hi
 have q : ∀ n : Nat,n < 256 -> (zO (bs s) ((i : Int)).toNat == (n : Int)) = (s[i] == UInt8.ofNat n):=fun n hn => by rw [hbt]; exact zBT _ n hn
 have hsg:=zA4 s[i]
 have hlt:=zAP s[i]
 have hdg:=zAc s[i]
 rw [<- hbt] at hsg hlt hdg
 rw [h0] at hsg
 have f1 : (zO (bs s) ((i : Int)).toNat == 46) = false:=(q 46 (by omega)).trans (by simpa using h46)
 have g1 : ((zO (bs s) ((i : Int)).toNat == 46) == true) = false:=by rw [f1]; rfl
 rw [hl] at hlt
 have g2 : (digU s[i] == false) = true:=by rw [hd]; rfl
 have f3 : (zO (bs s) ((i : Int)).toNat == 45) = false:=(q 45 (by omega)).trans (by simpa using h45)
 have f4 : (zO (bs s) ((i : Int)).toNat == 34) = false:=(q 34 (by omega)).trans (by simpa using h34)
 refine zF 115 Tryz.func142 rfl rfl rfl rfl ?_
 intro s0 w he
 repeat' (first
|apply zE
 . conv => lhs; whnf
 . assumption
|refine zAs ?_
|refine zA ?_
|refine zB ?_
|refine zG ?_
|refine zBE ?_
|apply zV rfl rfl
 . conv => lhs; whnf
 . conv => lhs; whnf
 . first | exact bF1 ‹_› | exact bF2 ‹_›
|apply zB6 rfl
 . conv => lhs; whnf
 . conv => lhs; whnf; arg 2; whnf
|apply ze rfl
 . conv => lhs; whnf
 . conv => lhs; whnf
 . first | exact hsg | exact hlt | exact hdg
|apply zA5 rfl rfl rfl rfl
 . conv => lhs; whnf; arg 1; whnf
 . rfl
|apply zI rfl rfl rfl
 . conv => lhs; whnf
 . conv => lhs; whnf; arg 1; whnf
 . conv => lhs; whnf; arg 1; whnf
 . exact ⟨by kernel_rfl,by kernel_rfl⟩
 . rfl
|apply zD rfl
 . conv => lhs; whnf
 . conv => lhs; whnf
 . first | rfl | assumption
 . conv => lhs; whnf; arg 2; whnf
|apply zd rfl
 . conv => lhs; whnf
 . conv => lhs; whnf
 . first | rfl | assumption
|apply zAk
 . conv => lhs; whnf; arg 1; arg 1; whnf
|refine zBa ?_
|refine zC ?_
|exact trivial)
 . exact ⟨_,_,_,rfl,rfl,rfl,rfl⟩
 all_goals first
  | exact zS (by omega)
  | exact ⟨by kernel_rfl,by omega,by omega⟩
  | exact ⟨by kernel_rfl,by omega,by omega,by omega⟩
  | exact (show Tryz.prog.underlying _ = some TypeDesc.string by kernel_rfl)
  | skip
theorem one_open (h0 : signB s[i] = false) (h46 : s[i] ≠ 46) (hl : letU s[i] = false) (hd : digU s[i] = false) (h45 : s[i] ≠ 45) (h34 : s[i] = 34) (hn : litN (s.drop (i + 1)) = none) : AC EN5 Tryz.prog 142 [.c (.string (bs s)),.c (.int .i64 (i : Int))] failR:=by
 have hz:=zh s
 have hbt:=zAJ hi
 have hdr : s.drop i = s[i] :: s.drop (i + 1):=List.drop_eq_getElem_cons hi
 have q : ∀ n : Nat,n < 256 -> (zO (bs s) ((i : Int)).toNat == (n : Int)) = (s[i] == UInt8.ofNat n):=fun n hn => by rw [hbt]; exact zBT _ n hn
 have hsg:=zA4 s[i]
 have hlt:=zAP s[i]
 have hdg:=zAc s[i]
 rw [<- hbt] at hsg hlt hdg
 rw [h0] at hsg
 have f1 : (zO (bs s) ((i : Int)).toNat == 46) = false:=(q 46 (by omega)).trans (by simpa using h46)
 have g1 : ((zO (bs s) ((i : Int)).toNat == 46) == true) = false:=by rw [f1]; rfl
 rw [hl] at hlt
 have g2 : (digU s[i] == false) = true:=by rw [hd]; rfl
 have f3 : (zO (bs s) ((i : Int)).toNat == 45) = false:=(q 45 (by omega)).trans (by simpa using h45)
 have f4 : (zO (bs s) ((i : Int)).toNat == 34) = true:=(q 34 (by omega)).trans (by rw [h34]; rfl)
 have hll:=zEy s i hi (by omega)
 have hv : litV s i = -1:=by unfold litV; rw [hn]
 rw [hv] at hll
 refine zF 115 Tryz.func142 rfl rfl rfl rfl ?_
 intro s0 w he
 repeat' (first
|apply zJ
 . conv => lhs; whnf
 . assumption
|apply zE
 . conv => lhs; whnf
 . assumption
|refine zAs ?_
|refine zA ?_
|refine zB ?_
|refine zG ?_
|refine zBE ?_
|apply zV rfl rfl
 . conv => lhs; whnf
 . conv => lhs; whnf
 . first | exact bF1 ‹_› | exact bF2 ‹_›
|apply zB6 rfl
 . conv => lhs; whnf
 . conv => lhs; whnf; arg 2; whnf
|apply ze rfl
 . conv => lhs; whnf
 . conv => lhs; whnf
 . first | exact hsg | exact hlt | exact hdg | exact hll
|apply zA5 rfl rfl rfl rfl
 . conv => lhs; whnf; arg 1; whnf
 . rfl
|apply zI rfl rfl rfl
 . conv => lhs; whnf
 . conv => lhs; whnf; arg 1; whnf
 . conv => lhs; whnf; arg 1; whnf
 . exact ⟨by kernel_rfl,by kernel_rfl⟩
 . rfl
|apply zD rfl
 . conv => lhs; whnf
 . conv => lhs; whnf
 . first | rfl | assumption
 . conv => lhs; whnf; arg 2; whnf
|apply zd rfl
 . conv => lhs; whnf
 . conv => lhs; whnf
 . first | rfl | assumption
|apply zCE
 . conv => lhs; whnf; arg 1; arg 1; whnf
|apply zAk
 . conv => lhs; whnf; arg 1; arg 1; whnf
|refine zBa ?_
|refine zU ?_
|refine zC ?_
|exact trivial)
 . exact ⟨_,_,_,rfl,rfl,rfl,rfl⟩
 all_goals first
  | exact zS (by omega)
  | exact ⟨by kernel_rfl,by omega,by omega⟩
  | exact ⟨by kernel_rfl,by omega,by omega,by omega⟩
  | exact (show Tryz.prog.underlying _ = some TypeDesc.string by kernel_rfl)
  | skip
theorem one_text (h0 : signB s[i] = false) (h46 : s[i] ≠ 46) (hl : letU s[i] = false) (hd : digU s[i] = false) (h45 : s[i] ≠ 45) (h34 : s[i] = 34) (n : Nat) (hn : litN (s.drop (i + 1)) = some n) : AC EN5 Tryz.prog 142 [.c (.string (bs s)),.c (.int .i64 (i : Int))] (tupR ⟨4,(unquoteU (s[i] :: (s.drop (i + 1)).take n)).getD [],i⟩ (i + 1 + n) (uqE (unquoteU (s[i] :: (s.drop (i + 1)).take n)))):=by
 have hz:=zh s
 have hbt:=zAJ hi
 have hdr : s.drop i = s[i] :: s.drop (i + 1):=List.drop_eq_getElem_cons hi
 have q : ∀ n : Nat,n < 256 -> (zO (bs s) ((i : Int)).toNat == (n : Int)) = (s[i] == UInt8.ofNat n):=fun n hn => by rw [hbt]; exact zBT _ n hn
 have hsg:=zA4 s[i]
 have hlt:=zAP s[i]
 have hdg:=zAc s[i]
 rw [<- hbt] at hsg hlt hdg
 rw [h0] at hsg
 have f1 : (zO (bs s) ((i : Int)).toNat == 46) = false:=(q 46 (by omega)).trans (by simpa using h46)
 have g1 : ((zO (bs s) ((i : Int)).toNat == 46) == true) = false:=by rw [f1]; rfl
 rw [hl] at hlt
 have g2 : (digU s[i] == false) = true:=by rw [hd]; rfl
 have f3 : (zO (bs s) ((i : Int)).toNat == 45) = false:=(q 45 (by omega)).trans (by simpa using h45)
 have f4 : (zO (bs s) ((i : Int)).toNat == 34) = true:=(q 34 (by omega)).trans (by rw [h34]; rfl)
 have hll:=zEy s i hi (by omega)
 have hln:=zEg _ n hn
 rw [List.length_drop] at hln
 have hv : litV s i = ((i + 1 + n : Nat) : Int):=by unfold litV; rw [hn]
 rw [hv] at hll
 have f7 : decide (((i + 1 + n : Nat) : Int) < 0) = false:=decide_eq_false (by omega)
 have hx : (bs s).extract ((i : Int)).toNat (((i + 1 + n : Nat) : Int)).toNat = bs (s[i] :: (s.drop (i + 1)).take n):=by
  rw [Int.toNat_natCast,Int.toNat_natCast,zCk s (by omega) (by omega),hdr,show i + 1 + n - i = n + 1 by omega,List.take_succ_cons]
 have hsz : ((bs s).extract ((i : Int)).toNat (((i + 1 + n : Nat) : Int)).toNat).size <= 100000:=by rw [ByteArray.size_extract]; omega
 have huq:=zHg _ hsz
 unfold uqVV at huq
 have htx : tx ((bs s).extract ((i : Int)).toNat (((i + 1 + n : Nat) : Int)).toNat) = s[i] :: (s.drop (i + 1)).take n:=by rw [hx]; exact zAE _
 rw [htx] at huq
 refine zF 115 Tryz.func142 rfl rfl rfl rfl ?_
 intro s0 w he
 repeat' (first
|apply zJ
 . conv => lhs; whnf
 . assumption
|apply zE
 . conv => lhs; whnf
 . assumption
|refine zAs ?_
|refine zA ?_
|refine zB ?_
|refine zG ?_
|refine zBE ?_
|apply zV rfl rfl
 . conv => lhs; whnf
 . conv => lhs; whnf
 . first | exact bF1 ‹_› | exact bF2 ‹_›
|apply zB6 rfl
 . conv => lhs; whnf
 . conv => lhs; whnf; arg 2; whnf
|apply ze rfl
 . conv => lhs; whnf
 . conv => lhs; whnf
 . first | exact hsg | exact hlt | exact hdg | exact hll | exact huq
|apply zA5 rfl rfl rfl rfl
 . conv => lhs; whnf; arg 1; whnf
 . rfl
|apply zI rfl rfl rfl
 . conv => lhs; whnf
 . conv => lhs; whnf; arg 1; whnf
 . conv => lhs; whnf; arg 1; whnf
 . exact ⟨by kernel_rfl,by kernel_rfl⟩
 . rfl
|apply zD rfl
 . conv => lhs; whnf
 . conv => lhs; whnf
 . first | rfl | assumption
 . conv => lhs; whnf; arg 2; whnf
|apply zd rfl
 . conv => lhs; whnf
 . conv => lhs; whnf
 . first | rfl | assumption
|refine zBa ?_
|refine zU ?_
|refine zC ?_
|exact trivial)
 . exact ⟨_,_,_,rfl,rfl,rfl,rfl⟩
 all_goals first
  | exact zS (by omega)
  | exact ⟨by kernel_rfl,by omega,by omega⟩
  | exact ⟨by kernel_rfl,by omega,by omega,by omega⟩
  | exact (show Tryz.prog.underlying _ = some TypeDesc.string by kernel_rfl)
  | skip
theorem one_nodA (h0 : signB s[i] = false) (h : s[i] = 46) (h3 : ¬ i + 3 <= s.length) : AC EN5 Tryz.prog 142 [.c (.string (bs s)),.c (.int .i64 (i : Int))] failR:=by
 have hz:=zh s
 have hbt:=zAJ hi
 have hdr : s.drop i = s[i] :: s.drop (i + 1):=List.drop_eq_getElem_cons hi
 have q : ∀ n : Nat,n < 256 -> (zO (bs s) ((i : Int)).toNat == (n : Int)) = (s[i] == UInt8.ofNat n):=fun n hn => by rw [hbt]; exact zBT _ n hn
 have hsg:=zA4 s[i]
 have hlt:=zAP s[i]
 have hdg:=zAc s[i]
 rw [<- hbt] at hsg hlt hdg
 rw [h0] at hsg
 have f1 : (zO (bs s) ((i : Int)).toNat == 46) = true:=(q 46 (by omega)).trans (by rw [h]; rfl)
 have g1 : ((zO (bs s) ((i : Int)).toNat == 46) == true) = true:=by rw [f1]; rfl
 have f2 : decide ((i : Int) + 3 <= ((bs s).size : Nat)) = false:=decide_eq_false (by omega)
 have g2 : (decide ((i : Int) + 3 <= ((bs s).size : Nat)) == true) = false:=by rw [f2]; rfl
 rw [show letU s[i] = false by rw [h]; rfl] at hlt
 have hd0 : digU s[i] = false:=by rw [h]; rfl
 have g4 : (digU s[i] == false) = true:=by rw [hd0]; rfl
 have f5 : (zO (bs s) ((i : Int)).toNat == 45) = false:=(q 45 (by omega)).trans (by rw [h]; rfl)
 have f6 : (zO (bs s) ((i : Int)).toNat == 34) = false:=(q 34 (by omega)).trans (by rw [h]; rfl)
 refine zF 115 Tryz.func142 rfl rfl rfl rfl ?_
 intro s0 w he
 repeat' (first
|apply zE
 . conv => lhs; whnf
 . assumption
|refine zAs ?_
|refine zA ?_
|refine zB ?_
|refine zG ?_
|refine zBE ?_
|apply zY rfl rfl
 . conv => lhs; whnf
 . conv => lhs; whnf
 . first | exact bT1 ‹_› | exact bT2 ‹_›
|apply zV rfl rfl
 . conv => lhs; whnf
 . conv => lhs; whnf
 . first | exact bF1 ‹_› | exact bF2 ‹_›
|apply zB6 rfl
 . conv => lhs; whnf
 . conv => lhs; whnf; arg 2; whnf
|apply ze rfl
 . conv => lhs; whnf
 . conv => lhs; whnf
 . first | exact hsg | exact hlt | exact hdg
|apply zA5 rfl rfl rfl rfl
 . conv => lhs; whnf; arg 1; whnf
 . rfl
|apply zI rfl rfl rfl
 . conv => lhs; whnf
 . conv => lhs; whnf; arg 1; whnf
 . conv => lhs; whnf; arg 1; whnf
 . exact ⟨by kernel_rfl,by kernel_rfl⟩
 . rfl
|apply zD rfl
 . conv => lhs; whnf
 . conv => lhs; whnf
 . first | rfl | assumption
 . conv => lhs; whnf; arg 2; whnf
|apply zd rfl
 . conv => lhs; whnf
 . conv => lhs; whnf
 . first | rfl | assumption
|apply zAk
 . conv => lhs; whnf; arg 1; arg 1; whnf
|refine zBa ?_
|refine zC ?_
|exact trivial)
 . exact ⟨_,_,_,rfl,rfl,rfl,rfl⟩
 all_goals first
  | exact zS (by omega)
  | exact ⟨by kernel_rfl,by omega,by omega⟩
  | exact ⟨by kernel_rfl,by omega,by omega,by omega⟩
  | exact (show Tryz.prog.underlying _ = some TypeDesc.string by kernel_rfl)
  | skip
theorem one_nodB (h0 : signB s[i] = false) (h : s[i] = 46) (h3 : i + 3 <= s.length) (hd : (s.drop (i + 1)).take 2 ≠ [46,46]) : AC EN5 Tryz.prog 142 [.c (.string (bs s)),.c (.int .i64 (i : Int))] failR:=by
 have hz:=zh s
 have hbt:=zAJ hi
 have hdr : s.drop i = s[i] :: s.drop (i + 1):=List.drop_eq_getElem_cons hi
 have q : ∀ n : Nat,n < 256 -> (zO (bs s) ((i : Int)).toNat == (n : Int)) = (s[i] == UInt8.ofNat n):=fun n hn => by rw [hbt]; exact zBT _ n hn
 have hsg:=zA4 s[i]
 have hlt:=zAP s[i]
 have hdg:=zAc s[i]
 rw [<- hbt] at hsg hlt hdg
 rw [h0] at hsg
 have f1 : (zO (bs s) ((i : Int)).toNat == 46) = true:=(q 46 (by omega)).trans (by rw [h]; rfl)
 have g1 : ((zO (bs s) ((i : Int)).toNat == 46) == true) = true:=by rw [f1]; rfl
 have f2 : decide ((i : Int) + 3 <= ((bs s).size : Nat)) = true:=decide_eq_true (by omega)
 have g2 : (decide ((i : Int) + 3 <= ((bs s).size : Nat)) == true) = true:=by rw [f2]; rfl
 have hx : (bs s).extract ((i : Int)).toNat (((i : Int) + 3)).toNat = bs (46 :: (s.drop (i + 1)).take 2):=by
  rw [show (((i : Int) + 3)).toNat = i + 3 by omega,Int.toNat_natCast,zCk s (by omega) (by omega),hdr,Nat.add_sub_cancel_left,h,List.take_succ_cons]
 have f3 : (((bs s).extract ((i : Int)).toNat (((i : Int) + 3)).toNat).toList == ({ data:=#[46,46,46] } : ByteArray).toList) = false:=by
  rw [hx,beq_eq_false_iff_ne]
  intro e
  rw [Lib.toList_data,Lib.toList_data,zAE] at e
  injection e with e1 e2
  exact hd e2
 rw [show letU s[i] = false by rw [h]; rfl] at hlt
 have hd0 : digU s[i] = false:=by rw [h]; rfl
 have g4 : (digU s[i] == false) = true:=by rw [hd0]; rfl
 have f5 : (zO (bs s) ((i : Int)).toNat == 45) = false:=(q 45 (by omega)).trans (by rw [h]; rfl)
 have f6 : (zO (bs s) ((i : Int)).toNat == 34) = false:=(q 34 (by omega)).trans (by rw [h]; rfl)
 refine zF 115 Tryz.func142 rfl rfl rfl rfl ?_
 intro s0 w he
 repeat' (first
|apply zE
 . conv => lhs; whnf
 . assumption
|refine zAs ?_
|refine zA ?_
|refine zB ?_
|refine zG ?_
|refine zBE ?_
|apply zY rfl rfl
 . conv => lhs; whnf
 . conv => lhs; whnf
 . first | exact bT1 ‹_› | exact bT2 ‹_›
|apply zV rfl rfl
 . conv => lhs; whnf
 . conv => lhs; whnf
 . first | exact bF1 ‹_› | exact bF2 ‹_›
|apply zB6 rfl
 . conv => lhs; whnf
 . conv => lhs; whnf; arg 2; whnf
|apply ze rfl
 . conv => lhs; whnf
 . conv => lhs; whnf
 . first | exact hsg | exact hlt | exact hdg
|apply zA5 rfl rfl rfl rfl
 . conv => lhs; whnf; arg 1; whnf
 . rfl
|apply zI rfl rfl rfl
 . conv => lhs; whnf
 . conv => lhs; whnf; arg 1; whnf
 . conv => lhs; whnf; arg 1; whnf
 . exact ⟨by kernel_rfl,by kernel_rfl⟩
 . rfl
|apply zD rfl
 . conv => lhs; whnf
 . conv => lhs; whnf
 . first | rfl | assumption
 . conv => lhs; whnf; arg 2; whnf
|apply zAk
 . conv => lhs; whnf; arg 1; arg 1; whnf
|refine zBa ?_
|refine zC ?_
|exact trivial)
 . exact ⟨_,_,_,rfl,rfl,rfl,rfl⟩
 all_goals first
  | exact zS (by omega)
  | exact ⟨by kernel_rfl,by omega,by omega⟩
  | exact ⟨by kernel_rfl,by omega,by omega,by omega⟩
  | exact (show Tryz.prog.underlying _ = some TypeDesc.string by kernel_rfl)
  | skip
theorem one_ac : AC EN5 Tryz.prog 142 [.c (.string (bs s)),.c (.int .i64 (i : Int))] (readV (s.drop i) i):=by
 have hdr : s.drop i = s[i] :: s.drop (i + 1):=List.drop_eq_getElem_cons hi
 have hlr : (s.drop (i + 1)).length = s.length - (i + 1):=List.length_drop ..
 rw [hdr]
 unfold readV
 dsimp only
 by_cases h0 : signB s[i] = true
 . rw [if_pos h0]; exact one_sign hi hs h0
 rw [if_neg h0]
 have h0 : signB s[i] = false:=by simpa using h0
 by_cases h46 : s[i] = 46
 . rw [if_pos (by simp [h46])]
   by_cases hd : (s.drop (i + 1)).take 2 = [46,46]
   . rw [if_pos hd]
     have:=congrArg List.length hd
     rw [List.length_take] at this
     exact one_dots hi hs h0 h46 (by simp at this; omega) hd
   . rw [if_neg hd]
     by_cases h3 : i + 3 <= s.length
     . exact one_nodB hi hs h0 h46 h3 hd
     . exact one_nodA hi hs h0 h46 h3
 rw [if_neg (by simpa using h46)]
 by_cases hd : digU s[i] = true
 . rw [if_pos (by rw [hd,Bool.or_true])]
   have hl : letU s[i] = false:=by
    cases hq : letU s[i] with
    | false => rfl
    | true =>
      rw [let_iff] at hq
      rw [zBe] at hd
      omega
   exact one_dig hi hs h0 h46 hl hd
 have hd : digU s[i] = false:=by simpa using hd
 by_cases h45 : s[i] = 45
 . rw [if_pos (by simp [h45])]
   exact one_neg hi hs h0 h46 (by rw [h45]; rfl) hd h45
 rw [if_neg (by rw [hd]; simpa using h45)]
 have hwl : wrdU s[i] = letU s[i]:=by unfold wrdU; rw [hd,Bool.or_false]
 rw [hwl]
 by_cases hl : letU s[i] = true
 . rw [if_pos hl]
   by_cases hlen : spanN wrdU (s.drop (i + 1)) + 1 > 64
   . rw [if_pos hlen]; exact one_long hi hs h0 h46 hl (by omega)
   . rw [if_neg hlen]; exact one_word hi hs h0 h46 hl (by omega)
 rw [if_neg hl]
 have hl : letU s[i] = false:=by simpa using hl
 by_cases h34 : s[i] = 34
 . rw [if_pos (by simp [h34])]
   cases hn : litN (s.drop (i + 1)) with
   | none => exact one_open hi hs h0 h46 hl hd h45 h34 hn
   | some n => exact one_text hi hs h0 h46 hl hd h45 h34 n hn
 . rw [if_neg (by simpa using h34)]
   exact one_none hi hs h0 h46 hl hd h45 h34
end
theorem zEH : z6 Tryz.prog 128 = some (135,32):=by kernel_rfl
noncomputable def scanX : Except (Nat × Int) (List Tok) -> V
 | .ok ts => .tup [.sl 135 (ts.map tokD),.c (.int .i64 0),.c (.int .i64 0)]
 | .error x => .tup [.c (.slice none 0 0),.c (.int .i64 (x.1 : Int)),.c (.int .i64 x.2)]
theorem zFI (r : Except (Nat × Int) (List Tok)) : (scanX r).pure = true:=by cases r <;> rfl
noncomputable def HSx (s : List UInt8) (k : Nat) (acc : List Tok) : Vst 44:=
 stS 44 [(0,.c (.string (bs s))),(5,.own 5 135 (acc.map tokD)),(6,.c (.int .i64 (k : Int)))] [(5,.tok 135 (acc.map tokD).length)]
theorem scanF_big (s : List UInt8) (hs : 65536 < s.length) : AC EN5 Tryz.prog 74 [.c (.string (bs s))] (scanX (zAp s)):=by
 have hz:=zh s
 have e : zAp s = .error (65536,4):=by unfold zAp; rw [if_pos hs]
 have f0 : decide (((bs s).size : Int) > 65536) = true:=decide_eq_true (by omega)
 rw [e]
 refine zF 44 Tryz.func74 rfl rfl rfl (zFI _) ?_
 intro s0 w he
 repeat' (first
|apply zJ
 . conv => lhs; whnf
 . assumption
|refine zAs ?_
|refine zA ?_
|refine zB ?_
|refine zG ?_
|apply zB6 rfl
 . conv => lhs; whnf
 . conv => lhs; whnf; arg 2; whnf
|refine zBa ?_
|refine zU ?_
|refine zC ?_
|exact trivial)
 . exact ⟨_,_,_,rfl,rfl,rfl,rfl⟩
 all_goals exact (show Tryz.prog.underlying _ = some TypeDesc.string by kernel_rfl)
theorem zIr (s : List UInt8) : AC EN5 Tryz.prog 74 [.c (.string (bs s))] (scanX (zAp s)):=by
 by_cases hbig : 65536 < s.length
 . exact scanF_big s hbig
 have hz:=zh s
 have f0 : decide (((bs s).size : Int) > 65536) = false:=decide_eq_false (by omega)
 have hsk0:=zIl s 0 (by omega) (by omega)
 rw [Nat.zero_add,List.drop_zero] at hsk0
 have hkl:=zAl false s
 have e0 : zAp s = zHd [] (scanG s.length (s.drop (skipM false s)) (skipM false s)):=by
  unfold zAp
  rw [if_neg hbig,zIq,Nat.zero_add]
  cases scanG s.length (s.drop (skipM false s)) (skipM false s) <;> rfl
 refine zF 44 Tryz.func74 rfl rfl rfl (zFI _) ?_
 intro s0 w he
 repeat' (first
|apply zE
 . conv => lhs; whnf
 . assumption
|refine zAs ?_
|refine zA ?_
|refine zB ?_
|refine zG ?_
|refine zEL ?_
|refine zBE ?_
|apply zB6 rfl
 . conv => lhs; whnf
 . conv => lhs; whnf; arg 2; whnf
|apply ze rfl
 . conv => lhs; whnf
 . conv => lhs; whnf
 . first | exact hsk0
|exact trivial)
 refine zn (Sub.own (t:=5) (e:=135) rfl rfl) ?_
 refine zu (fun j st => ∃ k acc f,k + j = s.length /\ acc.length <= k /\ s.length < f + k + 1 /\ zAp s = zHd acc (scanG f (s.drop k) k) /\ Sub (cx EN5 Tryz.prog s0 w he) st (HSx s k acc)) (s.length - skipM false s) ⟨skipM false s,[],s.length,by omega,by simp,by omega,e0,?_⟩ ?_
 . exact Sub.live ⟨rfl,rfl,rfl,trivial⟩ ⟨rfl,trivial⟩
 rintro j st ⟨k,acc,f,hkj,hacc,hf,hI,hs2⟩
 refine zn hs2 ?_
 clear hs2 hsk0
 rw [hI]
 clear hI e0
 by_cases hk : k < s.length
 . have f1 : decide ((k : Int) < ((bs s).size : Nat)) = true:=decide_eq_true (by omega)
   have hrd:=one_ac hk (by omega)
   have hdr : s.drop k = s[k] :: s.drop (k + 1):=List.drop_eq_getElem_cons hk
   obtain ⟨r1,r2⟩:=zIz s[k] (s.drop (k + 1)) k
   rw [hdr] at hrd |-
   cases hr : readU (s[k] :: s.drop (k + 1)) with
   | error e =>
     obtain ⟨he0,t',k',ht⟩:=r2 e hr
     rw [ht] at hrd
     unfold tupR at hrd
     have hrt : zDA (s[k] :: s.drop (k + 1)) k = .error e:=by unfold zDA; rw [hr]
     have eG : scanG f (s[k] :: s.drop (k + 1)) k = .error (k,e):=by unfold scanG; simp only [hrt]
     rw [eG]
     have f2 : (e != 0) = true:=by simpa using he0
     repeat' (first
|apply zJ
 . conv => lhs; whnf
 . assumption
|refine zAs ?_
|refine zA ?_
|refine zB ?_
|refine zG ?_
|refine zEL ?_
|refine zBE ?_
|apply zB6 rfl
 . conv => lhs; whnf
 . conv => lhs; whnf; arg 2; whnf
|apply ze rfl
 . conv => lhs; whnf
 . conv => lhs; whnf
 . first | exact hrd
|apply zA5 rfl rfl rfl rfl
 . conv => lhs; whnf; arg 1; whnf
 . rfl
|apply zI rfl rfl rfl
 . conv => lhs; whnf
 . conv => lhs; whnf; arg 1; whnf
 . conv => lhs; whnf; arg 1; whnf
 . exact ⟨by kernel_rfl,by kernel_rfl⟩
 . rfl
|refine zBa ?_
|refine zU ?_
|refine za ?_
|refine zAQ ?_
|refine zC ?_
|exact trivial)
     . exact ⟨_,_,_,rfl,rfl,rfl,rfl⟩
     all_goals exact (show Tryz.prog.underlying _ = some TypeDesc.string by kernel_rfl)
   | ok p =>
     obtain ⟨kk,t,n⟩:=p
     have hn:=zC0 hr
     have hdl : (s[k] :: s.drop (k + 1)).length = s.length - k:=by rw [<- hdr,List.length_drop]
     rw [hdl] at hn
     rw [r1 kk t n hr] at hrd
     unfold tupR at hrd
     have hsk:=zIl s (k + n) (by omega) (by omega)
     have hsl:=zAl false (s.drop (k + n))
     rw [List.length_drop] at hsl
     have hrt : zDA (s[k] :: s.drop (k + 1)) k = .ok (⟨kk,t,k⟩,n):=by unfold zDA; rw [hr]
     obtain ⟨f',rfl⟩ : ∃ f',f = f' + 1:=⟨f - 1,by omega⟩
     have hdn : (s[k] :: s.drop (k + 1)).drop n = s.drop (k + n):=by rw [<- hdr,List.drop_drop]
     have eG : zHd acc (scanG (f' + 1) (s[k] :: s.drop (k + 1)) k) = zHd (acc ++ [⟨kk,t,k⟩]) (scanG f' (s.drop (k + n + skipM false (s.drop (k + n)))) (k + n + skipM false (s.drop (k + n)))):=by
      conv => lhs; unfold scanG
      simp only [hrt,hdn]
      rw [zIq,List.drop_drop]
      cases scanG f' (s.drop (k + n + skipM false (s.drop (k + n)))) (k + n + skipM false (s.drop (k + n))) with
      | error x => rfl
      | ok ts => show Except.ok (acc ++ _ :: ts) = Except.ok ((acc ++ [_]) ++ ts); rw [List.append_assoc]; rfl
     rw [eG]
     repeat' (first
|apply zBP [tokD ⟨kk,t,k⟩] rfl rfl
 . conv => lhs; whnf
 . first | exact zEH | (conv => lhs; whnf; arg 1; whnf)
 . rfl
 . rfl
 . repeat' (first | exact trivial | apply And.intro | rfl)
|apply zJ
 . conv => lhs; whnf
 . assumption
|refine zAs ?_
|refine zA ?_
|refine zB ?_
|refine zG ?_
|refine zb ?_
|refine zEL ?_
|refine zBE ?_
|apply zB6 rfl
 . conv => lhs; whnf
 . conv => lhs; whnf; arg 2; whnf
|apply ze rfl
 . conv => lhs; whnf
 . conv => lhs; whnf
 . first | exact hrd | exact hsk
|apply zA5 rfl rfl rfl rfl
 . conv => lhs; whnf; arg 1; whnf
 . rfl
|apply zI rfl rfl rfl
 . conv => lhs; whnf
 . conv => lhs; whnf; arg 1; whnf
 . conv => lhs; whnf; arg 1; whnf
 . exact ⟨by kernel_rfl,by kernel_rfl⟩
 . rfl
|apply zBQ rfl rfl
 . conv => lhs; whnf
 . first | exact zEH | (conv => lhs; whnf; arg 1; whnf)
 . first | exact fun _ => rfl | (intro _; kernel_rfl)
 . conv => lhs; whnf
 . conv => lhs; whnf; arg 1; whnf
 . conv => lhs; whnf
|apply zAk
 . conv => lhs; whnf; arg 1; arg 1; whnf
|exact trivial)
     . refine zL (j':=j - (n + skipM false (s.drop (k + n)))) (by omega) ⟨k + n + skipM false (s.drop (k + n)),acc ++ [⟨kk,t,k⟩],f',by omega,by rw [List.length_append]; simp only [List.length_cons,List.length_nil]; omega,by omega,rfl,Sub.live ⟨rfl,?_,rfl,trivial⟩ ⟨?_,trivial⟩⟩
       . show V.own 5 _ (acc.map tokD ++ [tokD ⟨kk,t,k⟩]) = V.own 5 _ ((acc ++ [(⟨kk,t,k⟩ : Tok)]).map tokD)
         rw [List.map_append]; rfl
       . show some (Res.tok _ ((acc.map tokD).length + 1)) = some (Res.tok _ ((acc ++ [(⟨kk,t,k⟩ : Tok)]).map tokD).length)
         simp
     . refine ⟨by simp,?_,?_⟩ <;> simp only [List.length_cons,List.length_nil,List.length_map,maxLen] <;> omega
     . exact (show Tryz.prog.underlying _ = some TypeDesc.string by kernel_rfl)
 . have f1 : decide ((k : Int) < ((bs s).size : Nat)) = false:=decide_eq_false (by omega)
   have hdr : s.drop k = []:=List.drop_of_length_le (by omega)
   rw [hdr]
   have ek : k = s.length:=by omega
   repeat' (first
|apply zBP [tokD ⟨5,[],(bs s).size⟩] rfl rfl
 . conv => lhs; whnf
 . first | exact zEH | (conv => lhs; whnf; arg 1; whnf)
 . rfl
 . rfl
 . repeat' (first | exact trivial | apply And.intro | rfl)
|apply zE
 . conv => lhs; whnf
 . assumption
|refine zAs ?_
|refine zA ?_
|refine zB ?_
|refine zG ?_
|apply zB6 rfl
 . conv => lhs; whnf
 . conv => lhs; whnf; arg 2; whnf
|apply zBQ rfl rfl
 . conv => lhs; whnf
 . first | exact zEH | (conv => lhs; whnf; arg 1; whnf)
 . first | exact fun _ => rfl | (intro _; kernel_rfl)
 . conv => lhs; whnf
 . conv => lhs; whnf; arg 1; whnf
 . conv => lhs; whnf
|refine zBa ?_
|refine zIN ?_
|refine zP ?_
|refine zM rfl ?_
|refine zW ?_
|refine zC ?_
|exact trivial)
   . refine ⟨_,_,_,rfl,rfl,rfl,?_⟩
     show V.tup [.sl 135 ((acc ++ [(⟨5,[],k⟩ : Tok)]).map tokD),.c (.int .i64 0),.c (.int .i64 0)] = V.tup [.sl 135 (acc.map tokD ++ [tokD ⟨5,[],(bs s).size⟩]),.c (.int .i64 0),.c (.int .i64 0)]
     rw [ek,hz,List.map_append]; rfl
   . refine ⟨by simp,?_,?_⟩ <;> simp only [List.length_cons,List.length_nil,List.length_map,maxLen] <;> omega
   all_goals exact (show Tryz.prog.underlying _ = some TypeDesc.string by kernel_rfl)
 exact (show Tryz.prog.underlying _ = some TypeDesc.string by kernel_rfl)
end Go.Proofs.YthjiclhfhjdjpaaGreatDoor
namespace Go.Proofs.YthjiclhfhjdjpaaGreatDoor
open Go.RowKit
set_option linter.unusedSectionVars false
attribute [local irreducible] wpList Calls Code.wp AW AWo OpOk seqK zAI zAO loopK endK AC zp Yld Sub
attribute [local irreducible] ACB ACX ACE absLexG YldG absLexU YldU absLexH
noncomputable def HpZ (l : List Tok) (y : RS) (ops frs : List D) : Vst 68:=
 stS 68 [(2,.bx 2 0),(8,.bx 23 0),(9,.bx 9 0)]
  [(2,.box 41 [.c (.slice none 0 0),.c (.slice none 0 0)]),(23,boxF l y),(9,.box 41 [.own 901 57 ops,.own 902 116 frs]),(901,.tok 57 ops.length),(902,.tok 116 frs.length)]
theorem def_len (l : List Tok) (q : List D × List D) (x : RS) (h : q.1.length + q.2.length <= 64) : (defZ l q x).1.1.length + (defZ l q x).1.2.length <= 64:=by
 unfold defZ
 split
 . exact h
 split
 . exact h
 rename_i h2
 split
 . show q.1.length + (q.2 ++ [_]).length <= 64
   rw [List.length_append]; simp only [List.length_cons,List.length_nil]; omega
 . show (q.1 ++ [_]).length + q.2.length <= 64
   rw [List.length_append]; simp only [List.length_cons,List.length_nil]; omega
theorem doc_end {l : List Tok} {j : Nat} {q : List D × List D} {x : RS} (h : ¬ (x.er = 0 /\ (x.at' = 0 \/ (tkZ l x).k ≠ 5))) : docLZ l (j + 1) q x = (q,x):=by
 conv => lhs; unfold docLZ
 rw [if_neg h]
theorem doc_go {l : List Tok} {j : Nat} {q : List D × List D} {x : RS} (h : x.er = 0 /\ (x.at' = 0 \/ (tkZ l x).k ≠ 5)) : docLZ l (j + 1) q x = docLZ l j (defZ l q x).1 (defZ l q x).2:=by
 conv => lhs; unfold docLZ
 rw [if_pos h]
theorem parseBadF (s : List UInt8) {x : Nat × Int} (hs : zAp s = .error x) : AC EN5 Tryz.prog 35 [.c (.string (bs s))] (.tup [.agg [.c (.slice none 0 0),.c (.slice none 0 0)],.c (.int .i64 (x.1 : Int)),.c (.int .i64 x.2)]):=by
 have h1:=zIr s
 have hx:=zIo (i:=x.1) hs
 rw [hs] at h1
 have f1 : (x.2 != 0) = true:=by simpa using hx
 refine zF 68 Tryz.func35 rfl rfl rfl rfl ?_
 intro s0 w he
 repeat' (first
|apply zJ
 . conv => lhs; whnf
 . assumption
|refine zA ?_
|refine zB ?_
|refine zG ?_
|apply aw_1
 conv => whnf
 refine ⟨?_,trivial⟩
|apply s_1
 conv => whnf; arg 1; arg 4; arg 3; whnf
 refine ⟨?_,?_⟩
|apply ze rfl
 . conv => lhs; whnf
 . conv => lhs; whnf
 . first | exact h1
|apply zI rfl rfl rfl
 . conv => lhs; whnf
 . conv => lhs; whnf; arg 1; whnf
 . conv => lhs; whnf; arg 1; whnf
 . exact ⟨by kernel_rfl,by kernel_rfl⟩
 . rfl
|refine zU ?_
|refine zC ?_
|exact trivial)
 all_goals first
  | exact ⟨_,_,_,rfl,rfl,rfl,rfl⟩
  | skip
noncomputable def rawZ (R : (List D × List D) × RS) : V:=
 if R.2.er ≠ 0 then .tup [.agg [.c (.slice none 0 0),.c (.slice none 0 0)],.c (.int .i64 (R.2.wr : Int)),.c (.int .i64 R.2.er)]
 else .tup [.agg [.sl 57 R.1.1,.sl 116 R.1.2],.c (.int .i64 0),.c (.int .i64 0)]
theorem rawZ_pure (R : (List D × List D) × RS) : (rawZ R).pure = true:=by unfold rawZ; split <;> rfl
theorem parseOkF (s : List UInt8) {ts : List Tok} (hs : zAp s = .ok ts) : AC EN5 Tryz.prog 35 [.c (.string (bs s))] (rawZ (docZ ts)):=by
 have h1:=zIr s
 rw [hs] at h1
 have hcn:=zIp hs
 obtain ⟨hK,hE⟩:=scan_kd hs
 have hen:=(zFx hs).1
 have hS : ∀ i,i < ts.length -> (ts.getD i ⟨5,[],0⟩).s.length <= 100000:=by
  obtain ⟨_,_,_,_,h⟩:=hen
  exact fun i hi => h _ (zJG hi _)
 have hlen : 0 < ts.length:=by
  obtain ⟨a,e,h,-⟩:=hen
  have h : ts = a ++ [e]:=h
  rw [h]; simp
 have hl : ts.length <= 100000:=by omega
 have f1 : ((0 : Int) != 0) = false:=rfl
 have hRd : docZ ts = docLZ ts (ts.length + 1) ([],[]) ⟨0,0,false,0,0⟩:=rfl
 generalize docZ ts = R at hRd |-
 refine zF 68 Tryz.func35 rfl rfl rfl (rawZ_pure _) ?_
 intro s0 w he
 repeat' (first
|apply zE
 . conv => lhs; whnf
 . assumption
|refine zA ?_
|refine zB ?_
|refine zG ?_
|apply aw_1
 conv => whnf
 refine ⟨?_,trivial⟩
|apply s_1
 conv => whnf; arg 1; arg 4; arg 3; whnf
 refine ⟨?_,?_⟩
|apply ze rfl
 . conv => lhs; whnf
 . conv => lhs; whnf
 . first | exact h1
|apply zAV rfl rfl rfl rfl
 . conv => lhs; whnf; arg 1; whnf
 . rfl
|exact trivial)
 refine zn (Sub.live (cs:=[(2,.bx 2 0),(8,.bx 23 0),(9,.bx 9 0)]) (R:=[(2,.box 41 [.c (.slice none 0 0),.c (.slice none 0 0)]),(23,boxF ts ⟨0,0,false,0,0⟩),(9,.box 41 [.c (.slice none 0 0),.c (.slice none 0 0)])]) ⟨rfl,rfl,rfl,trivial⟩ ⟨rfl,rfl,rfl,trivial⟩) ?_
 refine zn (Sub.ownF (m:=9) (q:=901) (i:=0) (e:=57) rfl (by decide) rfl rfl rfl) ?_
 refine zn (Sub.ownF (m:=9) (q:=902) (i:=1) (e:=116) rfl (by decide) rfl rfl rfl) ?_
 refine zu (fun j st => ∃ y ops frs,docLZ ts j (ops,frs) y = R /\ y.at' < ts.length /\ 0 < j /\ (y.er = 0 -> ts.length - y.at' < j) /\ ops.length + frs.length <= 64 /\ Sub (cx EN5 Tryz.prog s0 w he) st (HpZ ts y ops frs)) (ts.length + 1) ⟨⟨0,0,false,0,0⟩,[],[],hRd.symm,hlen,by omega,fun _ => by show ts.length - 0 < _; omega,by simp,?_⟩ ?_
 . exact Sub.live ⟨rfl,rfl,rfl,trivial⟩ ⟨rfl,rfl,rfl,rfl,rfl,trivial⟩
 clear hRd
 rintro j st ⟨y,ops,frs,hR,hy,hj0,hj,hn,hs2⟩
 refine zn hs2 ?_
 clear hs2
 obtain ⟨j,rfl⟩ : ∃ q,j = q + 1:=⟨j - 1,by omega⟩
 have hgd : gD (ts.map tokD) ((y.at' : Int)).toNat = tokD (tkZ ts y):=zCN ts hy
 by_cases g0 : y.er = 0
 rotate_left 1
 . have f0 : (y.er == 0) = false:=by simpa using g0
   have g1 : ((y.er == 0) == true) = false:=by rw [f0]; rfl
   have f2 : (y.er != 0) = true:=by simpa using g0
   rw [doc_end (fun h => g0 h.1)] at hR
   subst hR
   repeat' (first
|apply zAd 26 ([(3,[23]),(9,[23]),(15,[23]),(19,[23])]) ([]) rfl (by kernel_rfl) (by kernel_rfl) (by kernel_rfl)
|apply zFo
|apply zFn rfl rfl
 . conv => lhs; whnf
 . conv => lhs; whnf
 . first | exact bF1 ‹_› | exact bF2 ‹_›
|apply zFm rfl
 . conv => lhs; whnf
 . conv => lhs; whnf; arg 2; whnf
|apply zFE rfl
 . conv => lhs; whnf
 . conv => lhs; whnf
 . first | rfl | assumption
|apply u_dead rfl
 . conv => lhs; whnf
 . rfl
 . rfl
|show inO _ _ = true; rfl
|apply zJ
 . conv => lhs; whnf
 . assumption
|apply zE
 . conv => lhs; whnf
 . assumption
|refine zA ?_
|refine zB ?_
|refine zG ?_
|apply aw_1
 conv => whnf
 refine ⟨?_,trivial⟩
|apply s_1
 conv => whnf; arg 1; arg 4; arg 3; whnf
 refine ⟨?_,?_⟩
|apply zBY (by kernel_rfl) (by kernel_rfl)
|apply zDz
|apply zDy rfl
 . conv => lhs; whnf
 . conv => lhs; whnf; arg 2; whnf
|apply y_store rfl rfl rfl
 . conv => lhs; whnf
 . rfl
 . rfl
 . conv => lhs; whnf; arg 1; whnf
 . conv => lhs; whnf; arg 1; whnf
 . exact ⟨by kernel_rfl,by kernel_rfl⟩
 . rfl
|exact zAK
|show zCs _ _ = true; rfl
|refine zP ?_
|refine zU ?_
|refine zM rfl ?_
|refine zW ?_
|refine zC ?_
|exact trivial)
   all_goals first
    | exact zCB ts hy
    | skip
   unfold rawZ
   rw [if_pos (show ((ops,frs),y).2.er ≠ 0 from g0)]
   exact ⟨_,_,_,rfl,rfl,rfl,rfl⟩
 have f0 : (y.er == 0) = true:=by rw [g0]; rfl
 have g1 : ((y.er == 0) == true) = true:=by rw [f0]; rfl
 have f2 : (y.er != 0) = false:=by rw [g0]; rfl
 have kF : ((((gD (ts.map tokD) ((y.at' : Int)).toNat).f 0).n != 5) = false) ↔ (tkZ ts y).k = 5:=by
  rw [hgd]
  show ((tkZ ts y).k != 5) = false ↔ _
  simp
 by_cases hend : y.at' = 0 \/ (tkZ ts y).k ≠ 5
 . rw [doc_go ⟨g0,hend⟩] at hR
   have hd:=defF_acb ts hE hl hS ops frs y hy ⟨by omega,by omega⟩
   have hpg:=def_pg hE (ops,frs) hy
   have hlen2:=def_len ts (ops,frs) y hn
   have hhi:=hpg.mv.hi
   have hup:=hpg.up
   have K1 : (((y.at' : Int) == 0) == false) = true -> (((gD (ts.map tokD) ((y.at' : Int)).toNat).f 0).n != 5) = true:=fun h => by
    rcases hend with h2 | h2
    . rw [h2] at h; cases h
    . cases hq : (((gD (ts.map tokD) ((y.at' : Int)).toNat).f 0).n != 5) with
      | true => rfl
      | false => exact (h2 (kF.1 hq)).elim
   have e : docLZ ts j (defZ ts (ops,frs) y).1 (defZ ts (ops,frs) y).2 = docLZ ts j ((defZ ts (ops,frs) y).1.1,(defZ ts (ops,frs) y).1.2) (defZ ts (ops,frs) y).2:=rfl
   rw [e] at hR
   by_cases h0 : y.at' = 0
   . have q0:=zGC h0
     have q1:=zEC h0
     repeat' (first
|apply zAd 26 ([(3,[23]),(9,[23]),(15,[23]),(19,[23])]) ([]) rfl (by kernel_rfl) (by kernel_rfl) (by kernel_rfl)
|apply zFo
|apply zCz rfl rfl
 . conv => lhs; whnf
 . conv => lhs; whnf
 . first | exact bT1 ‹_› | exact bT2 ‹_›
|apply zFm rfl
 . conv => lhs; whnf
 . conv => lhs; whnf; arg 2; whnf
|apply u_wpick_t rfl rfl rfl
 . conv => lhs; whnf
 . first | rfl | assumption
 . conv => lhs; whnf
 . first | exact bT1 ‹_› | exact bT2 ‹_› | rfl
|apply zAX rfl
 . conv => lhs; whnf
 . conv => lhs; whnf
 . first | rfl | assumption
 . conv => lhs; whnf; arg 2; whnf
|apply zFE rfl
 . conv => lhs; whnf
 . conv => lhs; whnf
 . first | rfl | assumption
|show inO _ _ = true; rfl
|apply s_callB [23,901,902] rfl rfl
 . conv => lhs; whnf
 . exact hd
 . decide
 . rfl
 . rfl
|refine zA ?_
|refine zB ?_
|refine zG ?_
|refine zb ?_
|apply aw_1
 conv => whnf
 refine ⟨?_,trivial⟩
|apply s_1
 conv => whnf; arg 1; arg 4; arg 3; whnf
 refine ⟨?_,?_⟩
|apply zI rfl rfl rfl
 . conv => lhs; whnf
 . conv => lhs; whnf; arg 1; whnf
 . conv => lhs; whnf; arg 1; whnf
 . exact ⟨by kernel_rfl,by kernel_rfl⟩
 . rfl
|exact trivial)
     all_goals first
      | exact zCB ts hy
      | skip
     exact zL (Nat.lt_succ_self j) ⟨_,_,_,hR,hhi,by have:=hj g0; omega,fun h => by have:=hup h; have:=hj g0; omega,hlen2,Sub.live ⟨rfl,rfl,rfl,trivial⟩ ⟨rfl,rfl,rfl,rfl,rfl,trivial⟩⟩
   . have q0:=zCf h0
     have q2:=K1 q0
     repeat' (first
|apply zAd 26 ([(3,[23]),(9,[23]),(15,[23]),(19,[23])]) ([]) rfl (by kernel_rfl) (by kernel_rfl) (by kernel_rfl)
|apply zFo
|apply zCz rfl rfl
 . conv => lhs; whnf
 . conv => lhs; whnf
 . first | exact bT1 ‹_› | exact bT2 ‹_›
|apply zFm rfl
 . conv => lhs; whnf
 . conv => lhs; whnf; arg 2; whnf
|apply zGw rfl rfl rfl
 . conv => lhs; whnf
 . first | rfl | assumption
 . conv => lhs; whnf
 . first | exact bF1 ‹_› | exact bF2 ‹_› | rfl
|apply zAX rfl
 . conv => lhs; whnf
 . conv => lhs; whnf
 . first | rfl | assumption
 . conv => lhs; whnf; arg 2; whnf
|show inO _ _ = true; rfl
|apply s_callB [23,901,902] rfl rfl
 . conv => lhs; whnf
 . exact hd
 . decide
 . rfl
 . rfl
|apply zJ
 . conv => lhs; whnf
 . assumption
|refine zA ?_
|refine zB ?_
|refine zG ?_
|refine zb ?_
|apply aw_1
 conv => whnf
 refine ⟨?_,trivial⟩
|apply s_1
 conv => whnf; arg 1; arg 4; arg 3; whnf
 refine ⟨?_,?_⟩
|apply zI rfl rfl rfl
 . conv => lhs; whnf
 . conv => lhs; whnf; arg 1; whnf
 . conv => lhs; whnf; arg 1; whnf
 . exact ⟨by kernel_rfl,by kernel_rfl⟩
 . rfl
|exact trivial)
     all_goals first
      | exact zCB ts hy
      | skip
     exact zL (Nat.lt_succ_self j) ⟨_,_,_,hR,hhi,by have:=hj g0; omega,fun h => by have:=hup h; have:=hj g0; omega,hlen2,Sub.live ⟨rfl,rfl,rfl,trivial⟩ ⟨rfl,rfl,rfl,rfl,rfl,trivial⟩⟩
 . have h0 : ¬ y.at' = 0:=fun h => hend (.inl h)
   have h5 : (tkZ ts y).k = 5:=Classical.byContradiction fun h => hend (.inr h)
   have q0:=zCf h0
   have q2:=kF.2 h5
   rw [doc_end (fun h => hend h.2)] at hR
   subst hR
   repeat' (first
|apply zAd 26 ([(3,[23]),(9,[23]),(15,[23]),(19,[23])]) ([]) rfl (by kernel_rfl) (by kernel_rfl) (by kernel_rfl)
|apply zFo
|apply zCz rfl rfl
 . conv => lhs; whnf
 . conv => lhs; whnf
 . first | exact bT1 ‹_› | exact bT2 ‹_›
|apply zFm rfl
 . conv => lhs; whnf
 . conv => lhs; whnf; arg 2; whnf
|apply zGw rfl rfl rfl
 . conv => lhs; whnf
 . first | rfl | assumption
 . conv => lhs; whnf
 . first | exact bF1 ‹_› | exact bF2 ‹_› | rfl
|apply zAX rfl
 . conv => lhs; whnf
 . conv => lhs; whnf
 . first | rfl | assumption
 . conv => lhs; whnf; arg 2; whnf
|show inO _ _ = true; rfl
|apply zE
 . conv => lhs; whnf
 . assumption
|refine zA ?_
|refine zB ?_
|refine zG ?_
|apply aw_1
 conv => whnf
 refine ⟨?_,trivial⟩
|apply s_1
 conv => whnf; arg 1; arg 4; arg 3; whnf
 refine ⟨?_,?_⟩
|apply zI rfl rfl rfl
 . conv => lhs; whnf
 . conv => lhs; whnf; arg 1; whnf
 . conv => lhs; whnf; arg 1; whnf
 . exact ⟨by kernel_rfl,by kernel_rfl⟩
 . rfl
|refine zP ?_
|refine zM rfl ?_
|refine zW ?_
|refine zC ?_
|exact trivial)
   all_goals first
    | exact zCB ts hy
    | skip
   unfold rawZ
   rw [if_neg (show ¬ ((ops,frs),y).2.er ≠ 0 from fun h => h g0)]
   exact ⟨_,_,_,rfl,rfl,rfl,rfl⟩
theorem zHE (s : List UInt8) : AC EN5 Tryz.prog 35 [.c (.string (bs s))] (.tup [.agg [.sl 57 (opsO (parseT s)),.sl 116 (frsO (parseT s))],.c (.int .i64 (atO (parseT s) : Int)),.c (.int .i64 (errO (parseT s)))]):=by
 cases hs : zAp s with
 | error x =>
   have e : parseT s = .error x:=by unfold parseT; rw [hs]
   rw [e]
   exact (parseBadF s hs).res (.tup (.cons (.agg (.cons (.nil _) (.cons (.nil _) .nil))) (.cons (.refl _) (.cons (.refl _) .nil))))
 | ok ts =>
   have h:=parseOkF s hs
   have e : parseT s = if (docZ ts).2.er ≠ 0 then .error ((docZ ts).2.wr,(docZ ts).2.er) else .ok (queD (docZ ts).1.1 (docZ ts).1.2):=by
    rw [<- parse_same]; unfold parseZ; rw [hs]
   rw [e]
   unfold rawZ at h
   by_cases h0 : (docZ ts).2.er ≠ 0
   . rw [if_pos h0] at h |-
     exact h.res (.tup (.cons (.agg (.cons (.nil _) (.cons (.nil _) .nil))) (.cons (.refl _) (.cons (.refl _) .nil))))
   . rw [if_neg h0] at h |-
     exact h
end Go.Proofs.YthjiclhfhjdjpaaGreatDoor
