import Derived.Test.YthjiclhfhjdjpaaGreatDoorQ37
set_option maxHeartbeats 8000000
set_option maxRecDepth 100000
set_option linter.unusedVariables false
set_option linter.unusedSimpArgs false
namespace Go.Proofs.YthjiclhfhjdjpaaGreatDoor
open Go.RowKit
attribute [local irreducible] wpList Calls Code.wp AW AWo OpOk seqK zx zAI loopK endK AC zm Yld Sub
attribute [local irreducible] ACB ACX ACE absLexG YldG
theorem ACE.le {e : Ge} {P : Program} {f : FuncId} {args : List V} {bs : List Res} {ε α S : Type} {tR : TypeId} {cl : S -> List V} {toV toV' : α -> V} {toP : ε -> Value} {r : Except ε (α × S)} (hle : ∀ a,VLe (toV a) (toV' a)) (h : ACE e P f args bs (outP tR cl toV toP r)) : ACE e P f args bs (outP tR cl toV' toP r):=by
 cases r with
 | error q => exact h
 | ok q =>
   obtain ⟨a,x⟩:=q
   unfold ACE outP at h |-
   exact ACB.res h (hle a)
theorem elemArg : zy Tryz.prog 69 = some (86,96):=by kernel_rfl
theorem elemDir : zy Tryz.prog 74 = some (150,40):=by kernel_rfl
def rawA (l : List D) : V:=match l with | [] => .c (.slice none 0 0) | _ => .sl 86 l
noncomputable def HaL (y : PS) (acc : List D) : Vst 45:=
 stS 45 [(0,.bx (pn 0) 0),(3,.own 3 86 acc)] [(pn 0,boxP y),(3,.tok 86 acc.length)]
section
variable {j : Nat} {acc : List D} {z y z2 u2 : PS} {k : List UInt8} {e : Nat × Int} {u : Unit} {a : D}
theorem al_end (h0 : acc.length ≠ 0) (h : isS z [41] = true) : argsF (j + 1) acc z = .ok (acc,nxT z):=by rw [argsF,if_pos ⟨h0,h⟩]
theorem al_go (h : acc.length = 0 \/ isS z [41] = false) : argsF (j + 1) acc z = if (hdT z).k = 2 /\ 16 <= acc.length then .error ((hdT z).i,4) else thenQ (nameQ z) fun n y => thenQ (takeQ [58] y) fun _ z => thenQ (zAf z) fun v u => argsF j (acc ++ [argD n v]) u:=by
 rw [argsF,if_neg (fun hh => by rcases h with h | h; exact hh.1 h; rw [h] at hh; cases hh.2)]
theorem al_lim (h : acc.length = 0 \/ isS z [41] = false) (hk : (hdT z).k = 2) (hl : 16 <= acc.length) : argsF (j + 1) acc z = .error ((hdT z).i,4):=by rw [al_go h,if_pos ⟨hk,hl⟩]
theorem al_nm (h : acc.length = 0 \/ isS z [41] = false) (hl : (hdT z).k = 2 -> acc.length < 16) (h1 : nameQ z = .error e) : argsF (j + 1) acc z = .error e:=by rw [al_go h,if_neg (fun hh => by have:=hl hh.1; omega),then_err h1]
theorem al_col (h : acc.length = 0 \/ isS z [41] = false) (hl : (hdT z).k = 2 -> acc.length < 16) (h1 : nameQ z = .ok (k,y)) (h2 : takeQ [58] y = .error e) : argsF (j + 1) acc z = .error e:=by rw [al_go h,if_neg (fun hh => by have:=hl hh.1; omega),zS h1,then_err h2]
theorem al_val (h : acc.length = 0 \/ isS z [41] = false) (hl : (hdT z).k = 2 -> acc.length < 16) (h1 : nameQ z = .ok (k,y)) (h2 : takeQ [58] y = .ok (u,z2)) (h3 : zAf z2 = .error e) : argsF (j + 1) acc z = .error e:=by rw [al_go h,if_neg (fun hh => by have:=hl hh.1; omega),zS h1,zS h2,then_err h3]
theorem al_ok (h : acc.length = 0 \/ isS z [41] = false) (hl : (hdT z).k = 2 -> acc.length < 16) (h1 : nameQ z = .ok (k,y)) (h2 : takeQ [58] y = .ok (u,z2)) (h3 : zAf z2 = .ok (a,u2)) : argsF (j + 1) acc z = argsF j (acc ++ [argD k a]) u2:=by rw [al_go h,if_neg (fun hh => by have:=hl hh.1; omega),zS h1,zS h2,zS h3]
end
theorem En.wholeL {x y : PS} {v : D} (h : En x) (hq : zAf x = .ok (v,y)) : En y /\ y.ts.length < x.ts.length:=En.valueL (x:=⟨x.ts,x.vr,0⟩) h hq
theorem args_raw (x : PS) (h : En x) (hlen : x.ts.length <= 100000) : ACE EN5 Tryz.prog 254 [.bx (pn 0) 0] [boxP x] (outQ rawA (argsQ x)):=by
 have hs:=zAg h [40]
 have hn:=zA3 h
 have e : isS x [40] = true -> argsQ x = argsF x.ts.length [] (nxT x):=fun h => by rw [argsQ,if_pos h]
 refine zAF (fn:=Tryz.f254) 45 Tryz.func254 rfl rfl ?_
 intro pas w0 w he hp
 repeat' (first
|apply s_m zh zN rfl
 . conv => lhs; whnf
 . conv => lhs; whnf
 . rfl
 . conv => lhs; whnf; arg 1; whnf
 . first | exact zv _
 . first | exact hs | exact hn
 . exact fun _ => rfl
 . exact fun _ => rfl
|refine zA ?_
|refine zB ?_
|refine zK ?_
|apply aw_1
 conv => whnf
 refine ⟨?_,trivial⟩
|apply s_1
 conv => whnf; arg 1; arg 4; arg 3; whnf
 refine ⟨?_,?_⟩
|refine zP (by conv => lhs; whnf) ?_ ?_ <;> intro hb
|refine zM ?_
|apply zAK rfl
 . conv => lhs; whnf; arg 2; whnf
 . conv => lhs; whnf; arg 1; whnf
|exact trivial)
 . rw [argsQ,if_neg (by simpa using hb)]; rfl
 . have hb : isS x [40] = true:=by simpa using hb
   have hx:=h.sg hb
   rw [e hb]
   clear hs hn e
   refine zW (Sub.own (t:=3) (e:=86) rfl rfl) ?_
   refine zV (fun j st => ∃ z acc,En z /\ z.ts.length <= j /\ acc.length + z.ts.length <= x.ts.length /\ argsF x.ts.length [] (nxT x) = argsF j acc z /\ Sub (cxE EN5 Tryz.prog pas w0 w he hp (outQ rawA (argsF x.ts.length [] (nxT x)))) st (HaL z acc)) x.ts.length ⟨nxT x,[],hx.1,by omega,by simp; omega,rfl,?_⟩ ?_
   . exact Sub.live ⟨rfl,rfl,trivial⟩ ⟨rfl,rfl,trivial⟩
   rintro j st ⟨z,acc,hz,hzj,hzl,hI,hsub⟩
   refine zW hsub ?_
   clear hsub
   rw [hI]
   clear hI
   obtain ⟨t,r,ht⟩:=hz.cons
   cases j with
   | zero => rw [ht] at hzj; simp at hzj
   | succ j =>
   have hs:=zAg hz [41]
   have hn:=zA3 hz
   have hnm:=zCP hz
   have hli:=zDp hz acc.length 16
   have htk : ∀ {k y},nameQ z = .ok (k,y) -> ACE EN5 Tryz.prog 177 [.bx (pn 0) 0,.c (.string (bs [58]))] [boxP y] (outQ (fun _ => .agg (tokC (hdT y))) (takeQ [58] y)):=fun hq => zFE (hz.name hq).1 [58]
   have hw : ∀ {k y u z2},nameQ z = .ok (k,y) -> takeQ [58] y = .ok (u,z2) -> ACE EN5 Tryz.prog 181 [.bx (pn 0) 0] [boxP z2] (outQ VV (zAf z2)):=fun h1 h2 =>
    zGh _ ((hz.name h1).1.take h2).1 (by have:=hz.name h1; have:=this.1.take h2; omega)
   have hh:=zAe ht
   obtain ⟨zts,zvr,znd⟩:=z
   cases ht
   have A1 : (((acc.length : Int) == 0) == false) = false -> acc.length = 0 \/ isS ⟨t :: r,zvr,znd⟩ [41] = false:=fun h => .inl (by simp at h; simp [h])
   have A2 : (!isS ⟨t :: r,zvr,znd⟩ [41]) = true -> acc.length = 0 \/ isS ⟨t :: r,zvr,znd⟩ [41] = false:=fun h => .inr (by simpa using h)
   have L1 : acc.length < 16 -> (hdT ⟨t :: r,zvr,znd⟩).k = 2 -> acc.length < 16:=fun h _ => h
   have L2 : (t.k == 2) = false -> (hdT ⟨t :: r,zvr,znd⟩).k = 2 -> acc.length < 16:=fun h h2 => by rw [hh] at h2; rw [h2] at h; cases h
   have K1 : (t.k == 2) = true -> (hdT ⟨t :: r,zvr,znd⟩).k = 2:=fun h => by rw [hh]; simpa using h
   have E2 : (!isS ⟨t :: r,zvr,znd⟩ [41]) = false -> isS ⟨t :: r,zvr,znd⟩ [41] = true:=fun h => by simpa using h
   have E1 : (((acc.length : Int) == 0) == false) = true -> acc.length ≠ 0:=fun h => by simp at h; intro h2; rw [List.eq_nil_of_length_eq_zero h2] at h; exact h rfl
   repeat' (first
|apply s_m zh zN rfl
 . conv => lhs; whnf
 . conv => lhs; whnf
 . rfl
 . conv => lhs; whnf; arg 1; whnf
 . first | exact zv _
 . first | exact hs | exact hn
 . exact fun _ => rfl
 . exact fun _ => rfl
|apply zAV zh zN rfl
 . conv => lhs; whnf
 . conv => lhs; whnf
 . first | rfl | assumption
 . conv => lhs; whnf
 . rfl
 . conv => lhs; whnf; arg 1; whnf
 . first | exact zv _
 . first | exact hs | exact hn
 . exact fun _ => rfl
 . exact fun _ => rfl
|apply ze rfl
 . conv => lhs; whnf
 . conv => lhs; whnf
 . first | rfl | assumption
|apply s_pr zh zN rfl
 . conv => lhs; whnf
 . conv => lhs; whnf
 . rfl
 . conv => lhs; whnf; arg 1; whnf
 . first | exact zv _
 . first | exact hli | exact hnm | exact htk ‹_› | exact hw ‹_› ‹_›
 . exact fun _ => rfl
 . first | (intro _ _; simp only [renL,renV,ren_cells]; done) | exact fun _ _ => rfl
 refine fun ee hq => ?_
 change _ = Out.die _
 rotate_left 1
 refine fun aa xx hq => ?_
 first | (replace hq:=zAZ hq; obtain ⟨hq,rfl⟩:=hq) | (cases hq; have hq:=True.intro) | skip
|apply zD7 [argD _ _] rfl rfl
 . conv => lhs; whnf
 . first | exact elemArg | (conv => lhs; whnf; arg 1; whnf)
 . rfl
 . rfl
 . repeat' (first | exact trivial | apply And.intro | rfl)
|refine zA ?_
|refine zB ?_
|refine zK ?_
|refine zb ?_
|apply aw_1
 conv => whnf
 refine ⟨?_,trivial⟩
|apply zX rfl rfl
 . conv => lhs; whnf
 . conv => lhs; whnf
 . first | exact bT1 ‹_› | exact bT2 ‹_›
|apply zR rfl rfl
 . conv => lhs; whnf
 . conv => lhs; whnf
 . first | exact bF1 ‹_› | exact bF2 ‹_›
|apply s_1
 conv => whnf; arg 1; arg 4; arg 3; whnf
 refine ⟨?_,?_⟩
|apply zY rfl rfl rfl
 . conv => lhs; whnf
 . conv => lhs; whnf; arg 1; whnf
 . conv => lhs; whnf; arg 1; whnf
 . exact ⟨by kernel_rfl,by kernel_rfl⟩
 . rfl
|apply zDk rfl rfl
 . conv => lhs; whnf
 . first | exact elemArg | (conv => lhs; whnf; arg 1; whnf)
 . first | exact fun _ => rfl | (intro _; kernel_rfl)
 . conv => lhs; whnf
 . conv => lhs; whnf; arg 1; whnf
 . conv => lhs; whnf
|apply zD rfl
 . conv => lhs; whnf
 . conv => lhs; whnf
 . first | rfl | assumption
 . conv => lhs; whnf; arg 2; whnf
|apply zJ rfl
 . conv => lhs; whnf
 . conv => lhs; whnf
 . conv => lhs; whnf; arg 2; whnf
|refine zP (by conv => lhs; whnf) ?_ ?_ <;> intro hb
|refine zI ?_
|refine zE rfl ?_
|refine zF ?_
|apply zAK rfl
 . conv => lhs; whnf; arg 2; whnf
 . conv => lhs; whnf; arg 1; whnf
|exact trivial
|intro hg)
   all_goals first
    | exact zBT _ _
    | (refine ⟨by simp,?_,?_⟩ <;> simp only [List.length_cons,List.length_nil,maxLen] <;> omega)
    | (have h0:=E1 ‹_›
       have h1:=E2 ‹_›
       rw [al_end h0 h1]
       cases acc with
       | nil => exact (h0 rfl).elim
       | cons a b => rfl)
    | (have hA : acc.length = 0 \/ isS ⟨t :: r,zvr,znd⟩ [41] = false:=by first | exact A1 ‹_› | exact A2 ‹_›
       first
        | (rw [al_lim hA (K1 ‹_›) (zAp hq).1,(zAp hq).2]; rfl)
        | (have hL : (hdT ⟨t :: r,zvr,znd⟩).k = 2 -> acc.length < 16:=by first | exact L1 ‹_› | exact L2 ‹_›
           first
            | (rw [al_nm hA hL ‹_›]; rfl)
            | (rw [al_col hA hL ‹_› ‹_›]; rfl)
            | (rw [al_val hA hL ‹_› ‹_› ‹_›]; rfl)
            | (rename_i kk yy hnm1 uu zz htk1
               have l1:=hz.name hnm1
               have l2:=l1.1.take htk1
               have l3:=l2.1.wholeL hq
               refine zH (j':=j) (by omega) ⟨xx,acc ++ [argD kk aa],l3.1,by omega,by rw [List.length_append]; simp only [List.length_cons,List.length_nil]; omega,al_ok hA hL hnm1 htk1 hq,Sub.live ⟨rfl,rfl,trivial⟩ ⟨rfl,?_,trivial⟩⟩
               show some (Res.tok _ (acc.length + 1)) = some (Res.tok _ (acc ++ [argD kk aa]).length)
               rw [List.length_append]; rfl)))
    | skip
theorem zJ8 (x : PS) (h : En x) (hlen : x.ts.length <= 100000) : ACE EN5 Tryz.prog 254 [.bx (pn 0) 0] [boxP x] (outQ (fun l => .sl 86 l) (argsQ x)):=
 ACE.le (toV:=rawA) (fun l => by cases l with | nil => exact .nil _ | cons a b => exact .refl _) (args_raw x h hlen)
noncomputable def HdL (y : PS) (acc : List D) : Vst 24:=
 stS 24 [(0,.bx (pn 0) 0),(3,.own 3 150 acc)] [(pn 0,boxP y),(3,.tok 150 acc.length)]
section
variable {j : Nat} {acc : List D} {z y z2 u2 : PS} {k : List UInt8} {e : Nat × Int} {u : Unit} {a : List D}
theorem dl_end (h : isS z [64] = false) : dirsF (j + 1) acc z = .ok (acc,z):=by rw [dirsF,if_neg (by rw [h]; decide)]
theorem dl_lim (h : isS z [64] = true) (hl : 16 <= acc.length) : dirsF (j + 1) acc z = .error ((hdT z).i,4):=by rw [dirsF,if_pos h,if_pos hl]
theorem dl_nm (h : isS z [64] = true) (hl : acc.length < 16) (h1 : nameQ (nxT z) = .error e) : dirsF (j + 1) acc z = .error e:=by rw [dirsF,if_pos h,if_neg (by omega),then_err h1]
theorem dl_as (h : isS z [64] = true) (hl : acc.length < 16) (h1 : nameQ (nxT z) = .ok (k,y)) (h2 : argsQ y = .error e) : dirsF (j + 1) acc z = .error e:=by rw [dirsF,if_pos h,if_neg (by omega),zS h1,then_err h2]
theorem dl_ok (h : isS z [64] = true) (hl : acc.length < 16) (h1 : nameQ (nxT z) = .ok (k,y)) (h2 : argsQ y = .ok (a,u2)) : dirsF (j + 1) acc z = dirsF j (acc ++ [dirD k a]) u2:=by rw [dirsF,if_pos h,if_neg (by omega),zS h1,zS h2]
end
theorem zEL (x : PS) (h : En x) (hlen : x.ts.length <= 100000) : ACE EN5 Tryz.prog 255 [.bx (pn 0) 0] [boxP x] (outQ (fun l => .sl 150 l) (dirsQ x)):=by
 have e0 : dirsQ x = dirsF (x.ts.length + 1) [] x:=rfl
 rw [e0]
 refine zAF (fn:=Tryz.f255) 24 Tryz.func255 rfl rfl ?_
 intro pas w0 w he hp
 repeat' (first
|refine zA ?_
|refine zB ?_
|refine zK ?_
|apply aw_1
 conv => whnf
 refine ⟨?_,trivial⟩
|apply s_1
 conv => whnf; arg 1; arg 4; arg 3; whnf
 refine ⟨?_,?_⟩
|exact trivial)
 refine zW (Sub.own (t:=3) (e:=150) rfl rfl) ?_
 refine zV (fun j st => ∃ z acc,En z /\ z.ts.length < j /\ acc.length + z.ts.length <= x.ts.length /\ dirsF (x.ts.length + 1) [] x = dirsF j acc z /\ Sub (cxE EN5 Tryz.prog pas w0 w he hp (outQ (fun l => V.sl 150 l) (dirsF (x.ts.length + 1) [] x))) st (HdL z acc)) (x.ts.length + 1) ⟨x,[],h,by omega,by simp,rfl,?_⟩ ?_
 . exact Sub.live ⟨rfl,rfl,trivial⟩ ⟨rfl,rfl,trivial⟩
 rintro j st ⟨z,acc,hz,hzj,hzl,hI,hsub⟩
 refine zW hsub ?_
 clear hsub
 rw [hI]
 clear hI
 cases j with
 | zero => omega
 | succ j =>
 have hs:=zAg hz [64]
 have hn:=zA3 hz
 have hli:=zDp hz acc.length 16
 have hnm:=zCP hz.nx0
 have hxl:=nx_len z
 have hargs : ∀ {k y},nameQ (nxT z) = .ok (k,y) -> ACE EN5 Tryz.prog 254 [.bx (pn 0) 0] [boxP y] (outQ (fun l => .sl 86 l) (argsQ y)):=fun hq => zJ8 _ (hz.nx0.name hq).1 (by have:=hz.nx0.name hq; omega)
 repeat' (first
|apply s_m zh zN rfl
 . conv => lhs; whnf
 . conv => lhs; whnf
 . rfl
 . conv => lhs; whnf; arg 1; whnf
 . first | exact zv _
 . first | exact hs | exact hn
 . exact fun _ => rfl
 . exact fun _ => rfl
|apply s_pr zh zN rfl
 . conv => lhs; whnf
 . conv => lhs; whnf
 . rfl
 . conv => lhs; whnf; arg 1; whnf
 . first | exact zv _
 . first | exact hli | exact hnm | exact hargs ‹_›
 . exact fun _ => rfl
 . first | (intro _ _; simp only [renL,renV,ren_cells]; done) | exact fun _ _ => rfl
 refine fun ee hq => ?_
 change _ = Out.die _
 rotate_left 1
 refine fun aa xx hq => ?_
 first | (replace hq:=zAZ hq; obtain ⟨hq,rfl⟩:=hq) | (cases hq; have hq:=True.intro) | skip
|apply zD7 [dirD _ _] rfl rfl
 . conv => lhs; whnf
 . first | exact elemDir | (conv => lhs; whnf; arg 1; whnf)
 . rfl
 . rfl
 . repeat' (first | exact trivial | apply And.intro | rfl)
|refine zA ?_
|refine zB ?_
|refine zK ?_
|refine zb ?_
|apply aw_1
 conv => whnf
 refine ⟨?_,trivial⟩
|apply s_1
 conv => whnf; arg 1; arg 4; arg 3; whnf
 refine ⟨?_,?_⟩
|apply zY rfl rfl rfl
 . conv => lhs; whnf
 . conv => lhs; whnf; arg 1; whnf
 . conv => lhs; whnf; arg 1; whnf
 . exact ⟨by kernel_rfl,by kernel_rfl⟩
 . rfl
|apply zDk rfl rfl
 . conv => lhs; whnf
 . first | exact elemDir | (conv => lhs; whnf; arg 1; whnf)
 . first | exact fun _ => rfl | (intro _; kernel_rfl)
 . conv => lhs; whnf
 . conv => lhs; whnf; arg 1; whnf
 . conv => lhs; whnf
|refine zP (by conv => lhs; whnf) ?_ ?_ <;> intro hb
|refine zI ?_
|refine zE rfl ?_
|refine zF ?_
|apply zAK rfl
 . conv => lhs; whnf; arg 2; whnf
 . conv => lhs; whnf; arg 1; whnf
|exact trivial)
 all_goals first
  | (refine ⟨by simp,?_,?_⟩ <;> simp only [List.length_cons,List.length_nil,maxLen] <;> omega)
  | (rw [dl_end ‹_›]; rfl)
  | (rw [dl_lim ‹_› (zAp hq).1,(zAp hq).2]; rfl)
  | (rw [dl_nm ‹_› ‹_› ‹_›]; rfl)
  | (rw [dl_as ‹_› ‹_› ‹_› ‹_›]; rfl)
  | (rename_i kk yy hnm1
     have l1:=hz.nx0.name hnm1
     have l2:=l1.1.args hq
     have l3:=(hz.sg ‹_›).2
     refine zH (j':=j) (by omega) ⟨xx,acc ++ [dirD kk aa],l2.1,by omega,by rw [List.length_append]; simp only [List.length_cons,List.length_nil]; omega,dl_ok ‹_› ‹_› hnm1 hq,Sub.live ⟨rfl,rfl,trivial⟩ ⟨rfl,?_,trivial⟩⟩
     show some (Res.tok _ (acc.length + 1)) = some (Res.tok _ (acc ++ [dirD kk aa]).length)
     rw [List.length_append]; rfl)
  | skip
noncomputable def VS (d : D) : V:=.agg (cellsV Tryz.prog 12 76 d)
theorem elemSel : zy Tryz.prog 55 = some (76,128):=by kernel_rfl
section
variable {v : PS -> PR (List D)} {x y z u o : PS} {on n m : List UInt8} {aa ds ss : List D} {e : Nat × Int}
theorem se_d0 (hd : isS x [46,46,46] = true) (hk : (hdT (nxT x)).k = 2 /\ (hdT (nxT x)).s ≠ onT) : selQ v x = thenQ (dirsQ (nxT (nxT x))) fun ds z => .ok (selD 2 [] (hdT (nxT x)).s [] [] ds [],z):=by
 unfold selQ
 rw [if_pos hd]
 dsimp only
 rw [if_pos hk]
theorem se_d1 (hd : isS x [46,46,46] = true) (hk : ¬ ((hdT (nxT x)).k = 2 /\ (hdT (nxT x)).s ≠ onT)) : selQ v x = thenQ (if (hdT (nxT x)).k = 2 then nameQ (nxT (nxT x)) else .ok ([],nxT x)) fun on z => thenQ (dirsQ z) fun ds u => thenQ (v u) fun ss o => .ok (selD 3 [] [] on [] ds ss,o):=by
 unfold selQ
 rw [if_pos hd]
 dsimp only
 rw [if_neg hk]
def selT3 (v : PS -> PR (List D)) (al n : List UInt8) (z : PS) : PR D:=
 thenQ (argsQ z) fun as' u => thenQ (dirsQ u) fun ds w => thenQ (if isS w [123] = true then v w else .ok ([],w)) fun ss o => .ok (selD 1 al n [] as' ds ss,o)
def zDr (x : PS) : PR (List UInt8 × List UInt8):=thenQ (nameQ x) fun n y => if isS y [58] = true then thenQ (nameQ (nxT y)) fun m z => .ok ((n,m),z) else .ok (([],n),y)
theorem se_n (hd : isS x [46,46,46] = false) : selQ v x = thenQ (zDr x) fun an z => selT3 v an.1 an.2 z:=by
 unfold selQ zDr
 rw [if_neg (by rw [hd]; decide)]
 cases nameQ x with
 | error q => rfl
 | ok q =>
   obtain ⟨n,y⟩:=q
   rw [zS (r:=Except.ok (n,y)) rfl,zS (r:=Except.ok (n,y)) rfl]
   by_cases h : isS y [58] = true
   . simp only [if_pos h]
     cases nameQ (nxT y) with
     | error q => rfl
     | ok q => rfl
   . simp only [if_neg h]; rfl
theorem hd_e1 {e : Nat × Int} (h1 : nameQ x = .error e) : zDr x = .error e:=by unfold zDr; rw [then_err h1]
theorem hd_e2 {e : Nat × Int} (h1 : nameQ x = .ok (n,y)) (h2 : isS y [58] = true) (h3 : nameQ (nxT y) = .error e) : zDr x = .error e:=by unfold zDr; rw [zS h1,if_pos h2,then_err h3]
theorem hd_o1 (h1 : nameQ x = .ok (n,y)) (h2 : isS y [58] = true) (h3 : nameQ (nxT y) = .ok (m,z)) : zDr x = .ok ((n,m),z):=by unfold zDr; rw [zS h1,if_pos h2,zS h3]
theorem hd_o2 (h1 : nameQ x = .ok (n,y)) (h2 : isS y [58] = false) : zDr x = .ok (([],n),y):=by unfold zDr; rw [zS h1,if_neg (by rw [h2]; decide)]
end
noncomputable def HsB (lv : Nat) (al n : List UInt8) (z : PS) : Vst 86:=
 stS 86 [(0,.bx (pn 0) 0),(1,.c (.int .i64 (lv : Int))),(4,.bx 4 0),(5,.bx 5 0)] [(pn 0,boxP z),(4,.box 76 [.c (.int .i64 0),.c (.string ⟨#[]⟩),.c (.string ⟨#[]⟩),.c (.string ⟨#[]⟩),.c (.slice none 0 0),.c (.slice none 0 0),.c (.slice none 0 0)]),
  (5,.box 76 [.c (.int .i64 1),.c (.string (bs al)),.c (.string (bs n)),.c (.string ⟨#[]⟩),.c (.slice none 0 0),.c (.slice none 0 0),.c (.slice none 0 0)])]
theorem sel_ace (f lv : Nat) (hsels : ∀ x,En x -> x.ts.length <= 100000 -> ACE EN5 Tryz.prog 102 [.bx (pn 0) 0,.c (.int .i64 ((lv + 1 : Nat) : Int))] [boxP x] (outQ (fun l => .sl 76 l) (selsQ f (lv + 1) x))) (hlv : lv <= 100) (x : PS) (h : En x) (hlen : x.ts.length <= 100000) :
 ACE EN5 Tryz.prog 178 [.bx (pn 0) 0,.c (.int .i64 (lv : Int))] [boxP x] (outQ VS (selQ (selsQ f (lv + 1)) x)):=by
 have hs0:=zAg h [46,46,46]
 by_cases hd : isS x [46,46,46] = true
 . have kd : (!isS x [46,46,46]) = true -> False:=fun hh => by rw [hd] at hh; cases hh
   have hn0:=zA3 h
   obtain ⟨y,hy⟩ : ∃ y,y = nxT x:=⟨_,rfl⟩
   have hx:=h.sg hd
   rw [<- hy] at hx hn0
   have hn:=zA3 hx.1
   have hdr1:=zEL (nxT y) hx.1.nx0 (by have:=nx_len y; omega)
   have hdr2 : ∀ {on z},nameQ (nxT y) = .ok (on,z) -> ACE EN5 Tryz.prog 255 [.bx (pn 0) 0] [boxP z] (outQ (fun l => .sl 150 l) (dirsQ z)):=fun hq => zEL _ (hx.1.nx0.name hq).1 (by have:=hx.1.nx0.name hq; have:=nx_len y; omega)
   have hdr3:=zEL y hx.1 (by omega)
   have hnm:=zCP hx.1.nx0
   have hss : ∀ {z u ds},dirsQ z = .ok (ds,u) -> En z -> z.ts.length <= 100000 -> ACE EN5 Tryz.prog 102 [.bx (pn 0) 0,.c (.int .i64 ((lv + 1 : Nat) : Int))] [boxP u] (outQ (fun l => .sl 76 l) (selsQ f (lv + 1) u)):=fun hq hz hl => hsels _ (hz.dirs hq).1 (by have:=hz.dirs hq; omega)
   have hz1 : ∀ {on z},nameQ (nxT y) = .ok (on,z) -> En z:=fun hq => (hx.1.nx0.name hq).1
   have hz2 : ∀ {on z},nameQ (nxT y) = .ok (on,z) -> z.ts.length <= 100000:=fun hq => by have:=hx.1.nx0.name hq; have:=nx_len y; omega
   have hy1 : En y:=hx.1
   have hy2 : y.ts.length <= 100000:=by omega
   obtain ⟨t,r,ht⟩:=hx.1.cons
   have hh:=zAe ht
   obtain ⟨yts,yvr,ynd⟩:=y
   cases ht
   refine zAF (fn:=Tryz.f178) 86 Tryz.func178 rfl rfl ?_
   intro pas w0 w he hp
   by_cases hk : t.k = 2 /\ t.s ≠ onT
   . have K1 : ((t.k == 2) == true) = false -> False:=fun hh => by simp [hk.1] at hh
     have K2 : (!(bs t.s).toList == (⟨#[111,110]⟩ : ByteArray).toList) = false -> False:=fun hh => hk.2 (zDi (by simpa using hh))
     have e0:=se_d0 (v:=selsQ f (lv + 1)) hd (by rw [<- hy,hh]; exact hk)
     rw [<- hy,hh] at e0
     rw [e0]
     repeat' (first
|apply zAW (VS (selD 2 [] _ [] [] _ [])) rfl rfl
 . conv => lhs; whnf; arg 2; whnf
 . repeat' (first | exact VLe.refl _ | exact VLe.nil _ | exact VLe.lit _ _ | exact VLe.own _ _ _ | apply VLe.agg | apply VLeL.cons | exact VLeL.nil)
|apply s_m zh zN rfl
 . conv => lhs; whnf
 . conv => lhs; whnf
 . rfl
 . conv => lhs; whnf; arg 1; whnf
 . first | exact zv _
 . first | exact hs0 | exact hn0 | exact hn
 . exact fun _ => rfl
 . exact fun _ => rfl
|apply ze rfl
 . conv => lhs; whnf
 . conv => lhs; whnf
 . first | rfl | assumption
|apply s_pr zh zN rfl
 . conv => lhs; whnf
 . conv => lhs; whnf
 . rfl
 . conv => lhs; whnf; arg 1; whnf
 . first | exact zv _
 . first | exact hdr1
 . exact fun _ => rfl
 . first | (intro _ _; simp only [renL,renV,ren_cells]; done) | exact fun _ _ => rfl
 refine fun ee hq => ?_
 change _ = Out.die _
 rotate_left 1
 refine fun aa xx hq => ?_
 first | (replace hq:=zAZ hq; obtain ⟨hq,rfl⟩:=hq) | (cases hq; have hq:=True.intro) | skip
|exact (kd ‹_›).elim
|exact (K1 ‹_›).elim
|exact (K2 ‹_›).elim
|refine zA ?_
|refine zB ?_
|refine zK ?_
|apply aw_1
 conv => whnf
 refine ⟨?_,trivial⟩
|apply zX rfl rfl
 . conv => lhs; whnf
 . conv => lhs; whnf
 . first | exact bT1 ‹_› | exact bT2 ‹_›
|apply s_1
 conv => whnf; arg 1; arg 4; arg 3; whnf
 refine ⟨?_,?_⟩
|apply zY rfl rfl rfl
 . conv => lhs; whnf
 . conv => lhs; whnf; arg 1; whnf
 . conv => lhs; whnf; arg 1; whnf
 . exact ⟨by kernel_rfl,by kernel_rfl⟩
 . rfl
|apply zD rfl
 . conv => lhs; whnf
 . conv => lhs; whnf
 . first | rfl | assumption
 . conv => lhs; whnf; arg 2; whnf
|apply zJ rfl
 . conv => lhs; whnf
 . conv => lhs; whnf
 . conv => lhs; whnf; arg 2; whnf
|refine zP (by conv => lhs; whnf) ?_ ?_ <;> intro hb
|refine zM ?_
|apply zAK rfl
 . conv => lhs; whnf; arg 2; whnf
 . conv => lhs; whnf; arg 1; whnf
|exact trivial
|intro hg)
     all_goals first
      | exact zBT _ _
      | (rw [hq]; rfl)
      | skip
   . have K3 : ((t.k == 2) == true) = true -> (!(bs t.s).toList == (⟨#[111,110]⟩ : ByteArray).toList) = true -> False:=fun h1 h2 => hk ⟨by simpa using h1,zBI (by simpa using h2)⟩
     have K4 : ((t.k == 2) == true) = false -> (t.k == 2) = true -> False:=fun h1 h2 => by simp_all
     have K5 : ((t.k == 2) == true) = true -> (t.k == 2) = false -> False:=fun h1 h2 => by simp_all
     have e0:=se_d1 (v:=selsQ f (lv + 1)) hd (by rw [<- hy,hh]; exact hk)
     rw [<- hy,hh] at e0
     have e1 : (t.k == 2) = true -> selQ (selsQ f (lv + 1)) x = thenQ (nameQ (nxT ⟨t :: r,yvr,ynd⟩)) fun on z => thenQ (dirsQ z) fun ds u => thenQ (selsQ f (lv + 1) u) fun ss o => .ok (selD 3 [] [] on [] ds ss,o):=fun h => by rw [e0,if_pos (by simpa using h)]
     have e2 : (t.k == 2) = false -> selQ (selsQ f (lv + 1)) x = thenQ (dirsQ ⟨t :: r,yvr,ynd⟩) fun ds u => thenQ (selsQ f (lv + 1) u) fun ss o => .ok (selD 3 [] [] [] [] ds ss,o):=fun h => by rw [e0,if_neg (by simpa using h)]; rfl
     repeat' (first
|apply zAW (VS (selD 3 [] [] _ [] _ _)) rfl rfl
 . conv => lhs; whnf; arg 2; whnf
 . repeat' (first | exact VLe.refl _ | exact VLe.nil _ | exact VLe.lit _ _ | exact VLe.own _ _ _ | apply VLe.agg | apply VLeL.cons | exact VLeL.nil)
|apply s_m zh zN rfl
 . conv => lhs; whnf
 . conv => lhs; whnf
 . rfl
 . conv => lhs; whnf; arg 1; whnf
 . first | exact zv _
 . first | exact hs0 | exact hn0 | exact hn
 . exact fun _ => rfl
 . exact fun _ => rfl
|apply ze rfl
 . conv => lhs; whnf
 . conv => lhs; whnf
 . first | rfl | assumption
|apply s_pr zh zN rfl
 . conv => lhs; whnf
 . conv => lhs; whnf
 . rfl
 . conv => lhs; whnf; arg 1; whnf
 . first | exact zv _
 . first | exact hdr2 ‹_› | exact hdr3 | exact hnm | exact hss ‹_› ‹_› ‹_› | exact hss ‹_› (hz1 ‹_›) (hz2 ‹_›)
 . exact fun _ => rfl
 . first | (intro _ _; simp only [renL,renV,ren_cells]; done) | exact fun _ _ => rfl
 refine fun ee hq => ?_
 change _ = Out.die _
 rotate_left 1
 refine fun aa xx hq => ?_
 first | (replace hq:=zAZ hq; obtain ⟨hq,rfl⟩:=hq) | (cases hq; have hq:=True.intro) | skip
|exact (kd ‹_›).elim
|exact (K3 ‹_› ‹_›).elim
|exact (K4 ‹_› ‹_›).elim
|exact (K5 ‹_› ‹_›).elim
|refine zA ?_
|refine zB ?_
|refine zK ?_
|apply aw_1
 conv => whnf
 refine ⟨?_,trivial⟩
|apply zX rfl rfl
 . conv => lhs; whnf
 . conv => lhs; whnf
 . first | exact bT1 ‹_› | exact bT2 ‹_›
|apply zR rfl rfl
 . conv => lhs; whnf
 . conv => lhs; whnf
 . first | exact bF1 ‹_› | exact bF2 ‹_›
|apply s_1
 conv => whnf; arg 1; arg 4; arg 3; whnf
 refine ⟨?_,?_⟩
|apply zY rfl rfl rfl
 . conv => lhs; whnf
 . conv => lhs; whnf; arg 1; whnf
 . conv => lhs; whnf; arg 1; whnf
 . exact ⟨by kernel_rfl,by kernel_rfl⟩
 . rfl
|apply zD rfl
 . conv => lhs; whnf
 . conv => lhs; whnf
 . first | rfl | assumption
 . conv => lhs; whnf; arg 2; whnf
|apply zJ rfl
 . conv => lhs; whnf
 . conv => lhs; whnf
 . conv => lhs; whnf; arg 2; whnf
|refine zP (by conv => lhs; whnf) ?_ ?_ <;> intro hb
|apply zAK rfl
 . conv => lhs; whnf; arg 2; whnf
 . conv => lhs; whnf; arg 1; whnf
|exact trivial
|intro hg)
     all_goals first
      | exact zBT _ _
      | exact zT (by omega)
      | (rw [e2 ‹_›]
         first
          | (rw [then_err (r:=dirsQ _) hq]; rfl)
          | (rename_i hq1; rw [zS (r:=dirsQ _) hq1,then_err hq]; rfl)
          | (rename_i hq1; rw [zS (r:=dirsQ _) hq1,zS hq]; rfl))
      | (rw [e1 ‹_›]
         first
          | (rw [then_err (r:=nameQ _) hq]; rfl)
          | (rename_i hq1; rw [zS (r:=nameQ _) hq1,then_err hq]; rfl)
          | (rename_i hq1 hq2; rw [zS (r:=nameQ _) hq1,zS hq2,then_err hq]; rfl)
          | (rename_i hq1 _ _ hq2; rw [zS (r:=nameQ _) hq1,zS hq2,zS hq]; rfl))
      | skip
 . have hd : isS x [46,46,46] = false:=by simpa using hd
   have kd : (!isS x [46,46,46]) = false -> False:=fun hh => by rw [hd] at hh; cases hh
   have hnm0:=zCP h
   have e0:=se_n (v:=selsQ f (lv + 1)) hd
   rw [e0]
   clear e0
   have hEn : ∀ {n y},nameQ x = .ok (n,y) -> En y /\ y.ts.length <= 99999:=fun hq => ⟨(h.name hq).1,by have:=h.name hq; omega⟩
   have hsg : ∀ {n y},nameQ x = .ok (n,y) -> ACB EN5 Tryz.prog 99 [.bx (pn 0) 0,.c (.string (bs [58]))] [boxP y] (.c (.bool (isS y [58]))) [boxP y]:=fun hq => zAg (hEn hq).1 _
   have hnx : ∀ {n y},nameQ x = .ok (n,y) -> ACB EN5 Tryz.prog 103 [.bx (pn 0) 0] [boxP y] (.agg (tokC (hdT y))) [boxP (nxT y)]:=fun hq => zA3 (hEn hq).1
   have hnm : ∀ {n y},nameQ x = .ok (n,y) -> ACE EN5 Tryz.prog 179 [.bx (pn 0) 0] [boxP (nxT y)] (outQ (fun n => .c (.string (bs n))) (nameQ (nxT y))):=fun hq => zCP (hEn hq).1.nx0
   cases hh : zDr x with
   | error e =>
     have k1 : ∀ {n y m z},nameQ x = .ok (n,y) -> isS y [58] = true -> nameQ (nxT y) = .ok (m,z) -> False:=fun h1 h2 h3 => by rw [hd_o1 h1 h2 h3] at hh; cases hh
     have k2 : ∀ {n y},nameQ x = .ok (n,y) -> isS y [58] = false -> False:=fun h1 h2 => by rw [hd_o2 h1 h2] at hh; cases hh
     have g1 : ∀ {e'},nameQ x = .error e' -> e' = e:=fun h1 => by rw [hd_e1 h1] at hh; cases hh; rfl
     have g2 : ∀ {n y e'},nameQ x = .ok (n,y) -> isS y [58] = true -> nameQ (nxT y) = .error e' -> e' = e:=fun h1 h2 h3 => by rw [hd_e2 h1 h2 h3] at hh; cases hh; rfl
     refine zAF (fn:=Tryz.f178) 86 Tryz.func178 rfl rfl ?_
     intro pas w0 w he hp
     repeat' (first
|apply zBR 8 ([(1,[5])]) ([(3,[1000000]),(5,[5]),(7,[5])]) rfl (by kernel_rfl) (by kernel_rfl) (by kernel_rfl)
|apply zEB
|apply zEA rfl
 . conv => lhs; whnf
 . conv => lhs; whnf; arg 2; whnf
|apply zBw rfl rfl rfl
 . conv => lhs; whnf
 . rfl
 . conv => lhs; whnf; arg 1; whnf
 . conv => lhs; whnf; arg 1; whnf
 . exact ⟨by kernel_rfl,by kernel_rfl⟩
 . rfl
|exact Or.inl ⟨pn 0,_,rfl⟩
|refine Or.inr ?_
|apply g_pr zh zN ([] : List UInt8) rfl
 . conv => lhs; whnf
 . conv => lhs; whnf
 . rfl
 . conv => lhs; whnf; arg 1; whnf
 . first | exact zv _
 . first | exact hnm ‹_›
 . exact fun _ => rfl
 . first | (intro _ _; simp only [renL,renV,ren_cells]; done) | exact fun _ _ => rfl
 . rfl
 refine fun ee hq tm rs => ?_
 change _ = Out.die _
 rotate_left 1
 refine fun aa xx hq => ?_
 rotate_left 1
 refine fun ee hq => ?_
|show inO _ _ = true; rfl
|apply s_m zh zN rfl
 . conv => lhs; whnf
 . conv => lhs; whnf
 . rfl
 . conv => lhs; whnf; arg 1; whnf
 . first | exact zv _
 . first | exact hs0 | exact hsg ‹_› | exact hnx ‹_›
 . exact fun _ => rfl
 . exact fun _ => rfl
|apply s_pr zh zN rfl
 . conv => lhs; whnf
 . conv => lhs; whnf
 . rfl
 . conv => lhs; whnf; arg 1; whnf
 . first | exact zv _
 . first | exact hnm0
 . exact fun _ => rfl
 . first | (intro _ _; simp only [renL,renV,ren_cells]; done) | exact fun _ _ => rfl
 refine fun ee hq => ?_
 change _ = Out.die _
 rotate_left 1
 refine fun aa xx hq => ?_
 first | (replace hq:=zAZ hq; obtain ⟨hq,rfl⟩:=hq) | (cases hq; have hq:=True.intro) | skip
|exact (kd ‹_›).elim
|exact (k1 ‹_› ‹_› ‹_›).elim
|exact (k2 ‹_› ‹_›).elim
|refine zA ?_
|refine zB ?_
|refine zK ?_
|apply aw_1
 conv => whnf
 refine ⟨?_,trivial⟩
|apply s_1
 conv => whnf; arg 1; arg 4; arg 3; whnf
 refine ⟨?_,?_⟩
|apply zY rfl rfl rfl
 . conv => lhs; whnf
 . conv => lhs; whnf; arg 1; whnf
 . conv => lhs; whnf; arg 1; whnf
 . exact ⟨by kernel_rfl,by kernel_rfl⟩
 . rfl
|refine zP (by conv => lhs; whnf) ?_ ?_ <;> intro hb
|exact trivial)
     all_goals first
      | (rw [g1 hq]; rfl)
      | (rename_i hq1 hb1; rw [g2 hq1 hb1 hq]; rfl)
      | (rename_i hq1; rw [g2 hq1 hb hq]; rfl)
      | skip
   | ok q =>
     obtain ⟨⟨al,nm⟩,z⟩:=q
     have k1 : ∀ {e'},nameQ x = .error e' -> False:=fun h1 => by rw [hd_e1 h1] at hh; cases hh
     have k2 : ∀ {n y e'},nameQ x = .ok (n,y) -> isS y [58] = true -> nameQ (nxT y) = .error e' -> False:=fun h1 h2 h3 => by rw [hd_e2 h1 h2 h3] at hh; cases hh
     have g1 : ∀ {n y m z'},nameQ x = .ok (n,y) -> isS y [58] = true -> nameQ (nxT y) = .ok (m,z') -> n = al /\ m = nm /\ z' = z:=fun h1 h2 h3 => by rw [hd_o1 h1 h2 h3] at hh; cases hh; exact ⟨rfl,rfl,rfl⟩
     have g2 : ∀ {n y},nameQ x = .ok (n,y) -> isS y [58] = false -> al = [] /\ n = nm /\ y = z:=fun h1 h2 => by rw [hd_o2 h1 h2] at hh; cases hh; exact ⟨rfl,rfl,rfl⟩
     have hz : En z /\ z.ts.length <= 99999:=by
      unfold zDr at hh
      cases h1 : nameQ x with
      | error e => rw [h1] at hh; cases hh
      | ok q =>
        obtain ⟨n,y⟩:=q
        rw [zS h1] at hh
        have hy:=hEn h1
        split at hh
        . rename_i hb
          cases h3 : nameQ (nxT y) with
          | error e => rw [h3] at hh; cases hh
          | ok q =>
            obtain ⟨m,z'⟩:=q
            rw [zS h3] at hh
            cases hh
            have h4:=hy.1.nx0.name h3
            exact ⟨h4.1,by have:=nx_len y; omega⟩
        . cases hh; exact hy
     have hat:=zJ8 z hz.1 (by omega)
     have hdt : ∀ {aa u},argsQ z = .ok (aa,u) -> ACE EN5 Tryz.prog 255 [.bx (pn 0) 0] [boxP u] (outQ (fun l => .sl 150 l) (dirsQ u)):=fun hq => zEL _ (hz.1.args hq).1 (by have:=hz.1.args hq; omega)
     have hE2 : ∀ {aa u ds o},argsQ z = .ok (aa,u) -> dirsQ u = .ok (ds,o) -> En o /\ o.ts.length <= 100000:=fun h1 h2 => ⟨((hz.1.args h1).1.dirs h2).1,by have:=hz.1.args h1; have:=this.1.dirs h2; omega⟩
     have hsg2 : ∀ {aa u ds o},argsQ z = .ok (aa,u) -> dirsQ u = .ok (ds,o) -> ACB EN5 Tryz.prog 99 [.bx (pn 0) 0,.c (.string (bs [123]))] [boxP o] (.c (.bool (isS o [123]))) [boxP o]:=fun h1 h2 => zAg (hE2 h1 h2).1 _
     have hss : ∀ {aa u ds o},argsQ z = .ok (aa,u) -> dirsQ u = .ok (ds,o) -> ACE EN5 Tryz.prog 102 [.bx (pn 0) 0,.c (.int .i64 ((lv + 1 : Nat) : Int))] [boxP o] (outQ (fun l => .sl 76 l) (selsQ f (lv + 1) o)):=fun h1 h2 => hsels _ (hE2 h1 h2).1 (hE2 h1 h2).2
     have e1 : thenQ (Except.ok ((al,nm),z)) (fun an z => selT3 (selsQ f (lv + 1)) an.1 an.2 z) = selT3 (selsQ f (lv + 1)) al nm z:=rfl
     rw [e1]
     clear e1
     refine zAF (fn:=Tryz.f178) 86 Tryz.func178 rfl rfl ?_
     intro pas w0 w he hp
     repeat' (first
|apply zAW (VS (selD 1 al nm [] _ _ _)) rfl rfl
 . conv => lhs; whnf; arg 2; whnf
 . repeat' (first | exact VLe.refl _ | exact VLe.nil _ | exact VLe.lit _ _ | exact VLe.own _ _ _ | apply VLe.agg | apply VLeL.cons | exact VLeL.nil)
|apply zBR 8 ([(1,[5])]) ([(3,[1000000]),(5,[5]),(7,[5])]) rfl (by kernel_rfl) (by kernel_rfl) (by kernel_rfl)
|apply zEB
|apply zEA rfl
 . conv => lhs; whnf
 . conv => lhs; whnf; arg 2; whnf
|apply zBw rfl rfl rfl
 . conv => lhs; whnf
 . rfl
 . conv => lhs; whnf; arg 1; whnf
 . conv => lhs; whnf; arg 1; whnf
 . exact ⟨by kernel_rfl,by kernel_rfl⟩
 . rfl
|exact Or.inl ⟨pn 0,_,rfl⟩
|refine Or.inr ?_
|apply g_pr zh zN ([] : List UInt8) rfl
 . conv => lhs; whnf
 . conv => lhs; whnf
 . rfl
 . conv => lhs; whnf; arg 1; whnf
 . first | exact zv _
 . first | exact hnm ‹_›
 . exact fun _ => rfl
 . first | (intro _ _; simp only [renL,renV,ren_cells]; done) | exact fun _ _ => rfl
 . rfl
 refine fun ee hq tm rs => ?_
 change _ = Out.die _
 rotate_left 1
 refine fun aa xx hq => ?_
 rotate_left 1
 refine fun ee hq => ?_
|show inO _ _ = true; rfl
|apply s_m zh zN rfl
 . conv => lhs; whnf
 . conv => lhs; whnf
 . rfl
 . conv => lhs; whnf; arg 1; whnf
 . first | exact zv _
 . first | exact hs0 | exact hsg ‹_› | exact hnx ‹_› | exact hsg2 ‹_› ‹_›
 . exact fun _ => rfl
 . exact fun _ => rfl
|apply s_pr zh zN rfl
 . conv => lhs; whnf
 . conv => lhs; whnf
 . rfl
 . conv => lhs; whnf; arg 1; whnf
 . first | exact zv _
 . first | exact hnm0 | exact hat | exact hdt ‹_› | exact hss ‹_› ‹_›
 . exact fun _ => rfl
 . first | (intro _ _; simp only [renL,renV,ren_cells]; done) | exact fun _ _ => rfl
 refine fun ee hq => ?_
 change _ = Out.die _
 rotate_left 1
 refine fun aa xx hq => ?_
 first | (replace hq:=zAZ hq; obtain ⟨hq,rfl⟩:=hq) | (cases hq; have hq:=True.intro) | skip
|exact (kd ‹_›).elim
|apply zBA 6 (HsB lv al nm z) rfl
|refine zHN ?_
|refine zA ?_
|refine zB ?_
|refine zK ?_
|apply aw_1
 conv => whnf
 refine ⟨?_,trivial⟩
|apply s_1
 conv => whnf; arg 1; arg 4; arg 3; whnf
 refine ⟨?_,?_⟩
|apply zY rfl rfl rfl
 . conv => lhs; whnf
 . conv => lhs; whnf; arg 1; whnf
 . conv => lhs; whnf; arg 1; whnf
 . exact ⟨by kernel_rfl,by kernel_rfl⟩
 . rfl
|refine zP (by conv => lhs; whnf) ?_ ?_ <;> intro hb
|refine zM ?_
|apply zAK rfl
 . conv => lhs; whnf; arg 2; whnf
 . conv => lhs; whnf; arg 1; whnf
|exact trivial)
     all_goals first
      | exact zT (by omega)
      | exact (k1 hq).elim
      | exact (k2 ‹_› ‹_› hq).elim
      | (obtain ⟨rfl,rfl,rfl⟩:=g1 ‹_› ‹_› hq
         exact Sub.live ⟨rfl,rfl,rfl,rfl,trivial⟩ ⟨rfl,rfl,rfl,trivial⟩)
      | (obtain ⟨rfl,rfl,rfl⟩:=g2 hq ‹_›
         exact Sub.live ⟨rfl,rfl,rfl,rfl,trivial⟩ ⟨rfl,rfl,rfl,trivial⟩)
      | (unfold selT3; rw [then_err (r:=argsQ _) hq]; rfl)
      | (unfold selT3; rename_i h1; rw [zS (r:=argsQ _) h1,then_err (r:=dirsQ _) hq]; rfl)
      | (unfold selT3; rename_i h1; rw [zS (r:=argsQ _) h1,zS (r:=dirsQ _) hq,if_neg (by rw [hb]; decide)]; rfl)
      | (unfold selT3; rename_i h1 h2; rw [zS (r:=argsQ _) h1,zS (r:=dirsQ _) h2,if_pos hb,then_err hq]; rfl)
      | (unfold selT3; rename_i h1 _ _ h2; rw [zS (r:=argsQ _) h1,zS (r:=dirsQ _) h2,if_pos hb,zS hq]; rfl)
      | skip
theorem En.selL {f lv : Nat} {x y : PS} {v : D} (h : En x) (hq : selQ (selsQ f lv) x = .ok (v,y)) : En y /\ y.ts.length < x.ts.length:=by
 refine ⟨(h.sel hq).1,?_⟩
 by_cases hd : isS x [46,46,46] = true
 . have hx:=h.sg hd
   have:=(hx.1.lo (p:=fun y => if (hdT y).k = 2 /\ (hdT y).s ≠ onT then thenQ (dirsQ (nxT y)) fun ds z => .ok (selD 2 [] (hdT y).s [] [] ds [],z) else thenQ (if (hdT y).k = 2 then nameQ (nxT y) else .ok ([],y)) fun on z => thenQ (dirsQ z) fun ds u => thenQ (selsQ f lv u) fun ss o => .ok (selD 3 [] [] on [] ds ss,o)) (fun {e} {a} {x} {x'} hE h' => by
    refine .ite (fun ha => by rw [h'.hd ha]) (fun hk => ?_) fun _ => ?_
    . obtain ⟨t2,a2,rfl,h2⟩:=h'.ne_of_k hE (by rw [hk.1]; decide)
      rw [h'.hd (by simp)]
      exact LO.mono (b:=a2) (.then (zC9 hE h2) fun _ _ _ _ hz => .okk hz _) ⟨[t2],rfl⟩
    . refine .then (.ite (fun ha => by rw [h'.hd ha]) (fun hk => ?_) fun _ => .okk h' _) fun _ _ _ _ hz => .then (zC9 hE hz) fun _ _ _ _ hu => .then (zDj hE f lv hu).lo fun _ _ _ _ ho => .okk ho _
      obtain ⟨t2,a2,rfl,h2⟩:=h'.ne_of_k hE (by rw [hk]; decide)
      exact (zAu hE h2).lo.mono ⟨[t2],rfl⟩) (by unfold selQ at hq; rw [if_pos hd] at hq; exact hq)).2
   exact Nat.lt_of_le_of_lt this hx.2
 . have hd : isS x [46,46,46] = false:=by simpa using hd
   rw [se_n hd] at hq
   unfold zDr at hq
   cases h1 : nameQ x with
   | error e => rw [h1] at hq; cases hq
   | ok q =>
     obtain ⟨n,y1⟩:=q
     rw [zS h1] at hq
     have hy:=h.name h1
     have h3 : ∀ {al nm z},En z -> z.ts.length < x.ts.length -> selT3 (selsQ f lv) al nm z = .ok (v,y) -> y.ts.length < x.ts.length:=fun {al nm z} hz hl hq => by
      have:=(hz.lo (p:=selT3 (selsQ f lv) al nm) (fun hE h => .then (zGa hE h) fun _ _ _ _ hu => .then (zC9 hE hu) fun _ _ _ _ hw => .then (.ite (hw.sg _) (fun _ => (zDj hE f lv hw).lo) fun _ => .okk hw _) fun _ _ _ _ ho => .okk ho _) hq).2
      omega
     split at hq
     . cases h4 : nameQ (nxT y1) with
       | error e => rw [h4] at hq; cases hq
       | ok q =>
         obtain ⟨m,z⟩:=q
         rw [zS h4] at hq
         have hz:=hy.1.nx0.name h4
         exact h3 hz.1 (by have:=nx_len y1; omega) hq
     . exact h3 hy.1 hy.2 hq
noncomputable def HsL (lv : Nat) (y : PS) (acc : List D) : Vst 54:=
 stS 54 [(0,.bx (pn 0) 0),(1,.c (.int .i64 (lv : Int))),(5,.own 5 76 acc)] [(pn 0,boxP y),(5,.tok 76 acc.length)]
section
variable {v : PS -> PR D} {j : Nat} {acc : List D} {z y : PS} {e : Nat × Int} {a : D}
theorem sl_end (h0 : acc.length ≠ 0) (h : isS z [125] = true) : setF v (j + 1) acc z = .ok (acc,nxT z):=by rw [setF,if_pos ⟨h0,h⟩]
theorem sl_go (h : acc.length = 0 \/ isS z [125] = false) : setF v (j + 1) acc z = if ((hdT z).k = 2 \/ isS z [46,46,46] = true) /\ 64 <= acc.length then .error ((hdT z).i,4) else thenQ (v z) fun s y => setF v j (acc ++ [s]) y:=by
 rw [setF,if_neg (fun hh => by rcases h with h | h; exact hh.1 h; rw [h] at hh; cases hh.2)]
theorem sl_lim (h : acc.length = 0 \/ isS z [125] = false) (hk : (hdT z).k = 2 \/ isS z [46,46,46] = true) (hl : 64 <= acc.length) : setF v (j + 1) acc z = .error ((hdT z).i,4):=by rw [sl_go h,if_pos ⟨hk,hl⟩]
theorem sl_err (h : acc.length = 0 \/ isS z [125] = false) (hl : ((hdT z).k = 2 \/ isS z [46,46,46] = true) -> acc.length < 64) (h1 : v z = .error e) : setF v (j + 1) acc z = .error e:=by rw [sl_go h,if_neg (fun hh => by have:=hl hh.1; omega),then_err h1]
theorem sl_ok (h : acc.length = 0 \/ isS z [125] = false) (hl : ((hdT z).k = 2 \/ isS z [46,46,46] = true) -> acc.length < 64) (h1 : v z = .ok (a,y)) : setF v (j + 1) acc z = setF v j (acc ++ [a]) y:=by rw [sl_go h,if_neg (fun hh => by have:=hl hh.1; omega),zS h1]
end
theorem zJA : ∀ (f lv : Nat) (x : PS),En x -> x.ts.length <= 100000 -> f + lv = 26 -> lv <= 25 -> ACE EN5 Tryz.prog 102 [.bx (pn 0) 0,.c (.int .i64 (lv : Int))] [boxP x] (outQ (fun l => .sl 76 l) (selsQ f lv x))
 | 0,lv,x,h,hlen,hf,h25 => by omega
 | f + 1,lv,x,h,hlen,hf,h25 => by
   have ih : lv <= 24 -> ∀ x,En x -> x.ts.length <= 100000 -> ACE EN5 Tryz.prog 178 [.bx (pn 0) 0,.c (.int .i64 (lv : Int))] [boxP x] (outQ VS (selQ (selsQ f (lv + 1)) x)):=fun h24 x hx hl =>
    sel_ace f lv (fun x hx hl => zJA f (lv + 1) x hx hl (by omega) (by omega)) (by omega) x hx hl
   have hs:=zAg h [123]
   have ht1:=zFE h [123]
   have hf5:=zAz (hdT x) 5
   have e0 : selsQ (f + 1) lv x = if isS x [123] = true /\ 24 < lv then .error ((hdT x).i,5) else thenQ (takeQ [123] x) fun _ y => setF (selQ (selsQ f (lv + 1))) (y.ts.length + 1) [] y:=rfl
   obtain ⟨t,r,ht⟩:=h.cons
   have hh:=zAe ht
   rw [hh] at hf5
   obtain ⟨ts,vr,nd⟩:=x
   cases ht
   refine zAF (fn:=Tryz.f102) 54 Tryz.func102 rfl rfl ?_
   intro pas w0 w he hp
   have K0 : (isS ⟨t :: r,vr,nd⟩ [123] == true) = false -> ∀ {u y},takeQ [123] ⟨t :: r,vr,nd⟩ = .ok (u,y) -> False:=fun h1 u y h2 => by
    unfold takeQ at h2
    rw [if_neg (by simpa using h1)] at h2; cases h2
   have G1 : (isS ⟨t :: r,vr,nd⟩ [123] == true) = true -> decide ((lv : Int) > 24) = true -> selsQ (f + 1) lv ⟨t :: r,vr,nd⟩ = .error (t.i,5):=fun h1 h2 => by
    rw [e0,if_pos ⟨by simpa using h1,by simp at h2; omega⟩,hh]
   have G2 : ((isS ⟨t :: r,vr,nd⟩ [123] == true) = true -> decide ((lv : Int) > 24) = false) -> selsQ (f + 1) lv ⟨t :: r,vr,nd⟩ = thenQ (takeQ [123] ⟨t :: r,vr,nd⟩) fun _ y => setF (selQ (selsQ f (lv + 1))) (y.ts.length + 1) [] y:=fun h1 => by
    rw [e0,if_neg (fun hh => by have:=h1 (by simpa using hh.1); simp at this; omega)]
   repeat' (first
|apply s_m zh zN rfl
 . conv => lhs; whnf
 . conv => lhs; whnf
 . rfl
 . conv => lhs; whnf; arg 1; whnf
 . first | exact zv _
 . first | exact hs
 . exact fun _ => rfl
 . exact fun _ => rfl
|apply ze rfl
 . conv => lhs; whnf
 . conv => lhs; whnf
 . first | rfl | assumption
|apply s_pr zh zN rfl
 . conv => lhs; whnf
 . conv => lhs; whnf
 . rfl
 . conv => lhs; whnf; arg 1; whnf
 . first | exact zv _
 . first | exact ht1
 . exact fun _ => rfl
 . first | (intro _ _; simp only [renL,renV,ren_cells]; done) | exact fun _ _ => rfl
 refine fun ee hq => ?_
 change _ = Out.die _
 rotate_left 1
 refine fun aa xx hq => ?_
 first | (replace hq:=zAZ hq; obtain ⟨hq,rfl⟩:=hq) | (cases hq; have hq:=True.intro) | skip
|apply zCM rfl
 . conv => lhs; whnf
 . first | exact hf5
 . first | exact fun _ => rfl | (intro _; simp only [renL,renV,ren_cells])
 change _ = Out.die _
|exact (K0 ‹_› ‹_›).elim
|refine zA ?_
|refine zB ?_
|refine zK ?_
|apply aw_1
 conv => whnf
 refine ⟨?_,trivial⟩
|apply zX rfl rfl
 . conv => lhs; whnf
 . conv => lhs; whnf
 . first | exact bT1 ‹_› | exact bT2 ‹_›
|apply zR rfl rfl
 . conv => lhs; whnf
 . conv => lhs; whnf
 . first | exact bF1 ‹_› | exact bF2 ‹_›
|apply s_1
 conv => whnf; arg 1; arg 4; arg 3; whnf
 refine ⟨?_,?_⟩
|apply zD rfl
 . conv => lhs; whnf
 . conv => lhs; whnf
 . first | rfl | assumption
 . conv => lhs; whnf; arg 2; whnf
|apply zJ rfl
 . conv => lhs; whnf
 . conv => lhs; whnf
 . conv => lhs; whnf; arg 2; whnf
|refine zP (by conv => lhs; whnf) ?_ ?_ <;> intro hb
|exact trivial
|intro hg)
   all_goals first
    | exact zBT _ _
    | exact (K0 ‹_› ‹_›).elim
    | (rw [G1 ‹_› ‹_›]; rfl)
    | (rw [G2 (fun _ => by assumption),then_err hq]; rfl)
    | (rename_i hgg; rw [G2 (fun h => by rw [hgg] at h; cases h),then_err hq]; rfl)
    | (rw [G2 (fun h => by rw [hg] at h; cases h),then_err hq]; rfl)
    | skip
   have h24 : lv <= 24:=by have g : decide ((lv : Int) > 24) = false:=by assumption
                           simp at g; omega
   rw [G2 (fun _ => by assumption),zS hq]
   have hx:=h.take hq
   have hv:=ih h24
   clear ih hs ht1 hf5 K0 G1 G2 e0
   refine zW (Sub.own (t:=5) (e:=76) rfl rfl) ?_
   refine zV (fun j st => ∃ z acc,En z /\ z.ts.length < j /\ acc.length + z.ts.length <= xx.ts.length /\ setF (selQ (selsQ f (lv + 1))) (xx.ts.length + 1) [] xx = setF (selQ (selsQ f (lv + 1))) j acc z /\ Sub (cxE EN5 Tryz.prog pas w0 w he hp (outQ (fun l => V.sl 76 l) (setF (selQ (selsQ f (lv + 1))) (xx.ts.length + 1) [] xx))) st (HsL lv z acc)) (xx.ts.length + 1) ⟨xx,[],hx.1,by omega,by simp,rfl,?_⟩ ?_
   . exact Sub.live ⟨rfl,rfl,rfl,trivial⟩ ⟨rfl,rfl,trivial⟩
   rintro j st ⟨z,acc,hz,hzj,hzl,hI,hsub⟩
   refine zW hsub ?_
   clear hsub
   rw [hI]
   clear hI hh
   have hlz : z.ts.length <= 100000:=by omega
   cases j with
   | zero => omega
   | succ j =>
   obtain ⟨t2,r2,ht2⟩:=hz.cons
   have hs1:=zAg hz [125]
   have hs2:=zAg hz [46,46,46]
   have hn:=zA3 hz
   have hli:=zDp hz acc.length 64
   have hvz:=hv z hz hlz
   have hh:=zAe ht2
   obtain ⟨zts,zvr,znd⟩:=z
   cases ht2
   have A1 : (((acc.length : Int) == 0) == false) = false -> acc.length = 0 \/ isS ⟨t2 :: r2,zvr,znd⟩ [125] = false:=fun h => .inl (by simp at h; simp [h])
   have A2 : (!isS ⟨t2 :: r2,zvr,znd⟩ [125]) = true -> acc.length = 0 \/ isS ⟨t2 :: r2,zvr,znd⟩ [125] = false:=fun h => .inr (by simpa using h)
   have E2 : (!isS ⟨t2 :: r2,zvr,znd⟩ [125]) = false -> isS ⟨t2 :: r2,zvr,znd⟩ [125] = true:=fun h => by simpa using h
   have E1 : (((acc.length : Int) == 0) == false) = true -> acc.length ≠ 0:=fun h => by simp at h; intro h2; rw [List.eq_nil_of_length_eq_zero h2] at h; exact h rfl
   have B1 : ((t2.k == 2) == false) = false -> (hdT ⟨t2 :: r2,zvr,znd⟩).k = 2 \/ isS ⟨t2 :: r2,zvr,znd⟩ [46,46,46] = true:=fun h => .inl (by rw [hh]; simpa using h)
   have B2 : isS ⟨t2 :: r2,zvr,znd⟩ [46,46,46] = true -> (hdT ⟨t2 :: r2,zvr,znd⟩).k = 2 \/ isS ⟨t2 :: r2,zvr,znd⟩ [46,46,46] = true:=fun h => .inr h
   have L1 : acc.length < 64 -> (hdT ⟨t2 :: r2,zvr,znd⟩).k = 2 \/ isS ⟨t2 :: r2,zvr,znd⟩ [46,46,46] = true -> acc.length < 64:=fun h _ => h
   have L2 : ((t2.k == 2) == false) = true -> isS ⟨t2 :: r2,zvr,znd⟩ [46,46,46] = false -> (hdT ⟨t2 :: r2,zvr,znd⟩).k = 2 \/ isS ⟨t2 :: r2,zvr,znd⟩ [46,46,46] = true -> acc.length < 64:=fun h1 h2 h3 => by
    rw [hh] at h3; rcases h3 with h3 | h3
    . rw [h3] at h1; cases h1
    . rw [h2] at h3; cases h3
   repeat' (first
|apply s_m zh zN rfl
 . conv => lhs; whnf
 . conv => lhs; whnf
 . rfl
 . conv => lhs; whnf; arg 1; whnf
 . first | exact zv _
 . first | exact hs1 | exact hs2 | exact hn
 . exact fun _ => rfl
 . exact fun _ => rfl
|apply zAV zh zN rfl
 . conv => lhs; whnf
 . conv => lhs; whnf
 . first | rfl | assumption
 . conv => lhs; whnf
 . rfl
 . conv => lhs; whnf; arg 1; whnf
 . first | exact zv _
 . first | exact hs1 | exact hs2 | exact hn
 . exact fun _ => rfl
 . exact fun _ => rfl
|apply ze rfl
 . conv => lhs; whnf
 . conv => lhs; whnf
 . first | rfl | assumption
|apply s_pr zh zN rfl
 . conv => lhs; whnf
 . conv => lhs; whnf
 . rfl
 . conv => lhs; whnf; arg 1; whnf
 . first | exact zv _
 . first | exact hli | exact hvz
 . exact fun _ => rfl
 . first | (intro _ _; simp only [renL,renV,ren_cells]; done) | exact fun _ _ => rfl
 refine fun ee hq => ?_
 change _ = Out.die _
 rotate_left 1
 refine fun aa xx hq => ?_
 first | (replace hq:=zAZ hq; obtain ⟨hq,rfl⟩:=hq) | (cases hq; have hq:=True.intro) | skip
|apply zD7 [aa] rfl rfl
 . conv => lhs; whnf
 . first | exact elemSel | (conv => lhs; whnf; arg 1; whnf)
 . rfl
 . rfl
 . repeat' (first | exact trivial | apply And.intro | rfl)
|refine zA ?_
|refine zB ?_
|refine zK ?_
|refine zb ?_
|apply aw_1
 conv => whnf
 refine ⟨?_,trivial⟩
|apply zX rfl rfl
 . conv => lhs; whnf
 . conv => lhs; whnf
 . first | exact bT1 ‹_› | exact bT2 ‹_›
|apply zR rfl rfl
 . conv => lhs; whnf
 . conv => lhs; whnf
 . first | exact bF1 ‹_› | exact bF2 ‹_›
|apply s_1
 conv => whnf; arg 1; arg 4; arg 3; whnf
 refine ⟨?_,?_⟩
|apply zDk rfl rfl
 . conv => lhs; whnf
 . first | exact elemSel | (conv => lhs; whnf; arg 1; whnf)
 . first | exact fun _ => rfl | (intro _; kernel_rfl)
 . conv => lhs; whnf
 . conv => lhs; whnf; arg 1; whnf
 . conv => lhs; whnf
|apply zD rfl
 . conv => lhs; whnf
 . conv => lhs; whnf
 . first | rfl | assumption
 . conv => lhs; whnf; arg 2; whnf
|apply zJ rfl
 . conv => lhs; whnf
 . conv => lhs; whnf
 . conv => lhs; whnf; arg 2; whnf
|refine zP (by conv => lhs; whnf) ?_ ?_ <;> intro hb
|refine zI ?_
|refine zE rfl ?_
|refine zF ?_
|apply zAK rfl
 . conv => lhs; whnf; arg 2; whnf
 . conv => lhs; whnf; arg 1; whnf
|exact trivial
|intro hg)
   all_goals first
    | exact zBT _ _
    | (refine ⟨by simp,?_,?_⟩ <;> simp only [List.length_cons,List.length_nil,maxLen] <;> omega)
    | (rw [sl_end (E1 ‹_›) (E2 ‹_›)]; rfl)
    | (have hA : acc.length = 0 \/ isS ⟨t2 :: r2,zvr,znd⟩ [125] = false:=by first | exact A1 ‹_› | exact A2 ‹_›
       first
        | (have hB : (hdT ⟨t2 :: r2,zvr,znd⟩).k = 2 \/ isS ⟨t2 :: r2,zvr,znd⟩ [46,46,46] = true:=by first | exact B1 ‹_› | exact B2 ‹_›
           rw [sl_lim hA hB (zAp hq).1,(zAp hq).2]; rfl)
        | (have hL : (hdT ⟨t2 :: r2,zvr,znd⟩).k = 2 \/ isS ⟨t2 :: r2,zvr,znd⟩ [46,46,46] = true -> acc.length < 64:=by first | exact L1 ‹_› | exact L2 ‹_› ‹_›
           first
            | (rw [sl_err hA hL hq]; rfl)
            | (have l3:=hz.selL hq
               refine zH (j':=j) (by omega) ⟨xx,acc ++ [aa],l3.1,by omega,by rw [List.length_append]; simp only [List.length_cons,List.length_nil]; omega,sl_ok hA hL hq,Sub.live ⟨rfl,rfl,rfl,trivial⟩ ⟨rfl,?_,trivial⟩⟩
               show some (Res.tok _ (acc.length + 1)) = some (Res.tok _ (acc ++ [aa]).length)
               rw [List.length_append]; rfl)))
    | skip
noncomputable def VVr (d : D) : V:=.agg (cellsV Tryz.prog 12 88 d)
noncomputable def VO (d : D) : V:=.agg (cellsV Tryz.prog 12 57 d)
noncomputable def VF (d : D) : V:=.agg (cellsV Tryz.prog 12 116 d)
theorem elemVar : zy Tryz.prog 54 = some (88,144):=by kernel_rfl
noncomputable def HoA (k : Int) (n : List UInt8) (z : PS) : Vst 77:=
 stS 77 [(0,.bx (pn 0) 0),(4,.bx 4 0),(5,.bx 5 0)] [(pn 0,boxP z),(4,.box 57 [.c (.int .i64 0),.c (.string ⟨#[]⟩),.c (.slice none 0 0),.c (.slice none 0 0)]),(5,.box 57 [.c (.int .i64 k),.c (.string (bs n)),.c (.slice none 0 0),.c (.slice none 0 0)])]
noncomputable def HoV (k : Int) (n : List UInt8) (z : PS) (acc : List D) : Vst 77:=
 stS 77 [(0,.bx (pn 0) 0),(4,.bx 4 0),(5,.bx 5 0)] [(pn 0,boxP z),(4,.box 57 [.c (.int .i64 0),.c (.string ⟨#[]⟩),.c (.slice none 0 0),.c (.slice none 0 0)]),(5,.box 57 [.c (.int .i64 k),.c (.string (bs n)),.own 903 88 acc,.c (.slice none 0 0)]),(903,.tok 88 acc.length)]
def defQ (v : PS) : PR (Bool × D):=if isS v [61] = true then thenQ (zAf { nxT v with vr:=false }) fun d o => .ok ((true,d),{ o with vr:=true }) else .ok ((false,zE9),v)
def varQ (x : PS) : PR D:=
 thenQ (takeQ [36] x) fun _ y => thenQ (nameQ y) fun n z => thenQ (takeQ [58] z) fun _ u => thenQ (typQ u) fun t v => thenQ (defQ v) fun d o => .ok (varD n t d.1 d.2,o)
section
variable {j : Nat} {acc : List D} {x y z u v o : PS} {n : List UInt8} {e : Nat × Int} {t d : D} {q1 q2 : Unit}
theorem vl_end (h0 : acc.length ≠ 0) (h : isS x [41] = true) : varsF (j + 1) acc x = .ok (acc,nxT x):=by rw [varsF,if_pos ⟨h0,h⟩]
theorem vl_lim (h0 : ¬ (acc.length ≠ 0 /\ isS x [41] = true)) (h : isS x [36] = true /\ 16 <= acc.length) : varsF (j + 1) acc x = .error ((hdT x).i,4):=by rw [varsF,if_neg h0,if_pos h]
theorem then_then {α β γ : Type} (r : PR α) (f : α -> PS -> PR β) (g : β -> PS -> PR γ) : thenQ (thenQ r f) g = thenQ r fun a x => thenQ (f a x) g:=by
 cases r with
 | error e => rfl
 | ok q => rfl
theorem vl_go (h0 : ¬ (acc.length ≠ 0 /\ isS x [41] = true)) (h : ¬ (isS x [36] = true /\ 16 <= acc.length)) : varsF (j + 1) acc x = thenQ (varQ x) fun a y => varsF j (acc ++ [a]) y:=by
 rw [varsF,if_neg h0,if_neg h]
 unfold varQ
 simp only [then_then]
 rfl
theorem va_1 (h1 : takeQ [36] x = .error e) : varQ x = .error e:=by rw [varQ,then_err h1]
theorem va_2 (h1 : takeQ [36] x = .ok (q1,y)) (h2 : nameQ y = .error e) : varQ x = .error e:=by rw [varQ,zS h1,then_err h2]
theorem va_3 (h1 : takeQ [36] x = .ok (q1,y)) (h2 : nameQ y = .ok (n,z)) (h3 : takeQ [58] z = .error e) : varQ x = .error e:=by rw [varQ,zS h1,zS h2,then_err h3]
theorem va_4 (h1 : takeQ [36] x = .ok (q1,y)) (h2 : nameQ y = .ok (n,z)) (h3 : takeQ [58] z = .ok (q2,u)) (h4 : typQ u = .error e) : varQ x = .error e:=by rw [varQ,zS h1,zS h2,zS h3,then_err h4]
theorem va_5 (h1 : takeQ [36] x = .ok (q1,y)) (h2 : nameQ y = .ok (n,z)) (h3 : takeQ [58] z = .ok (q2,u)) (h4 : typQ u = .ok (t,v)) (h5 : isS v [61] = true) (h6 : zAf { nxT v with vr:=false } = .error e) : varQ x = .error e:=by
 rw [varQ,zS h1,zS h2,zS h3,zS h4,defQ,if_pos h5,then_err h6]; rfl
theorem va_6 (h1 : takeQ [36] x = .ok (q1,y)) (h2 : nameQ y = .ok (n,z)) (h3 : takeQ [58] z = .ok (q2,u)) (h4 : typQ u = .ok (t,v)) (h5 : isS v [61] = true) (h6 : zAf { nxT v with vr:=false } = .ok (d,o)) : varQ x = .ok (varD n t true d,{ o with vr:=true }):=by
 rw [varQ,zS h1,zS h2,zS h3,zS h4,defQ,if_pos h5,zS h6]; rfl
theorem va_7 (h1 : takeQ [36] x = .ok (q1,y)) (h2 : nameQ y = .ok (n,z)) (h3 : takeQ [58] z = .ok (q2,u)) (h4 : typQ u = .ok (t,v)) (h5 : isS v [61] = false) : varQ x = .ok (varD n t false zE9,v):=by
 rw [varQ,zS h1,zS h2,zS h3,zS h4,defQ,if_neg (by rw [h5]; decide)]; rfl
end
def opT2 (k : Int) (n : List UInt8) (y : PS) : PR D:=
 thenQ (if isS y [40] = true then varsF y.ts.length [] (nxT y) else .ok ([],y)) fun vs z => thenQ (setQ z) fun ss u => .ok (opD k n vs ss,u)
theorem zF1 (x : PS) (h : En x) (hlen : x.ts.length <= 100000) : ACE EN5 Tryz.prog 102 [.bx (pn 0) 0,.c (.int .i64 1)] [boxP x] (outQ (fun l => .sl 76 l) (setQ x)):=zJA 25 1 x h hlen rfl (by omega)
theorem op_ace (k : Int) (x : PS) (h : En x) (hlen : x.ts.length <= 100000) : ACE EN5 Tryz.prog 104 [.bx (pn 0) 0,.c (.int .i64 k)] [boxP x] (outQ VO (opQ k x)):=by
 obtain ⟨n,y,hny,hy,hyl⟩ : ∃ n y,(if (hdT x).k = 2 then (.ok ((hdT x).s,nxT x) : PR (List UInt8)) else .ok ([],x)) = .ok (n,y) /\ En y /\ y.ts.length <= x.ts.length:=by
  by_cases hk : (hdT x).k = 2
  . exact ⟨_,_,if_pos hk,h.nx0,nx_len x⟩
  . exact ⟨_,_,if_neg hk,h,Nat.le_refl _⟩
 have e0 : opQ k x = opT2 k n y:=by
  unfold opQ
  rw [hny]; rfl
 rw [e0]
 clear e0
 have hn0:=zA3 h
 have hs1:=zAg hy [40]
 have hn1:=zA3 hy
 have hse:=zF1 y hy (by omega)
 obtain ⟨t,r,ht⟩:=h.cons
 have hh:=zAe ht
 rw [hh] at hn0 hny
 have g1 : (t.k == 2) = true -> n = t.s /\ y = nxT x:=fun hk => by rw [if_pos (by simpa using hk)] at hny; cases hny; exact ⟨rfl,rfl⟩
 have g2 : (t.k == 2) = false -> n = [] /\ y = x:=fun hk => by rw [if_neg (by simpa using hk)] at hny; cases hny; exact ⟨rfl,rfl⟩
 obtain ⟨ts,vr,nd⟩:=x
 cases ht
 refine zAF (fn:=Tryz.f104) 77 Tryz.func104 rfl rfl ?_
 intro pas w0 w he hp
 repeat' (first
|apply zAW (VO (opD k n [] _)) rfl rfl
 . conv => lhs; whnf; arg 2; whnf
 . repeat' (first | exact VLe.refl _ | exact VLe.nil _ | exact VLe.lit _ _ | exact VLe.own _ _ _ | apply VLe.agg | apply VLeL.cons | exact VLeL.nil)
|apply s_m zh zN rfl
 . conv => lhs; whnf
 . conv => lhs; whnf
 . rfl
 . conv => lhs; whnf; arg 1; whnf
 . first | exact zv _
 . first | exact hn0 | exact hs1 | exact hn1
 . exact fun _ => rfl
 . exact fun _ => rfl
|apply s_pr zh zN rfl
 . conv => lhs; whnf
 . conv => lhs; whnf
 . rfl
 . conv => lhs; whnf; arg 1; whnf
 . first | exact zv _
 . first | exact hse
 . exact fun _ => rfl
 . first | (intro _ _; simp only [renL,renV,ren_cells]; done) | exact fun _ _ => rfl
 refine fun ee hq => ?_
 change _ = Out.die _
 rotate_left 1
 refine fun aa xx hq => ?_
 first | (replace hq:=zAZ hq; obtain ⟨hq,rfl⟩:=hq) | (cases hq; have hq:=True.intro) | skip
|apply zBA 4 (HoA k n y) rfl
|refine zHN ?_
|refine zA ?_
|refine zB ?_
|refine zK ?_
|apply aw_1
 conv => whnf
 refine ⟨?_,trivial⟩
|apply s_1
 conv => whnf; arg 1; arg 4; arg 3; whnf
 refine ⟨?_,?_⟩
|apply zY rfl rfl rfl
 . conv => lhs; whnf
 . conv => lhs; whnf; arg 1; whnf
 . conv => lhs; whnf; arg 1; whnf
 . exact ⟨by kernel_rfl,by kernel_rfl⟩
 . rfl
|refine zP (by conv => lhs; whnf) ?_ ?_ <;> intro hb
|apply zAK rfl
 . conv => lhs; whnf; arg 2; whnf
 . conv => lhs; whnf; arg 1; whnf
|exact trivial)
 all_goals first
  | exact zBT _ _
  | (obtain ⟨rfl,rfl⟩:=g1 ‹_›
     exact Sub.live ⟨rfl,rfl,rfl,trivial⟩ ⟨rfl,rfl,rfl,trivial⟩)
  | (obtain ⟨rfl,rfl⟩:=g2 ‹_›
     exact Sub.live ⟨rfl,rfl,rfl,trivial⟩ ⟨rfl,rfl,rfl,trivial⟩)
  | (rw [opT2,if_neg (by rw [hb]; decide)]
     first
      | (rw [zS (r:=Except.ok ([],y)) rfl,zS hq]; rfl)
      | (rw [zS (r:=Except.ok ([],y)) rfl,then_err hq]; rfl))
  | skip
 have hx:=hy.sg hb
 have e1 : opT2 k n y = thenQ (varsF y.ts.length [] (nxT y)) fun vs z => thenQ (setQ z) fun ss u => .ok (opD k n vs ss,u):=by rw [opT2,if_pos hb]
 rw [e1]
 have hyl2 : y.ts.length <= 100000:=by omega
 clear e1 hn0 hs1 hn1 hse g1 g2 hny
 refine zW (Sub.ownF (m:=5) (q:=903) (i:=2) (e:=88) rfl (by decide) rfl rfl rfl) ?_
 refine zV (fun j st => ∃ z acc,En z /\ z.ts.length <= j /\ acc.length + z.ts.length <= y.ts.length /\ varsF y.ts.length [] (nxT y) = varsF j acc z /\ Sub (cxE EN5 Tryz.prog pas w0 w he hp (outQ VO (thenQ (varsF y.ts.length [] (nxT y)) fun vs z => thenQ (setQ z) fun ss u => .ok (opD k n vs ss,u)))) st (HoV k n z acc)) y.ts.length ⟨nxT y,[],hx.1,by omega,by simp; omega,rfl,?_⟩ ?_
 . exact Sub.live ⟨rfl,rfl,rfl,trivial⟩ ⟨rfl,rfl,rfl,rfl,trivial⟩
 rintro j st ⟨z,acc,hz,hzj,hzl,hI,hsub⟩
 refine zW hsub ?_
 clear hsub
 rw [hI]
 clear hI hh
 cases j with
 | zero => obtain ⟨t3,r3,ht3⟩:=hz.cons; rw [ht3] at hzj; simp at hzj
 | succ j =>
 have hs1:=zAg hz [41]
 have hs2:=zAg hz [36]
 have hn:=zA3 hz
 have hli:=zDp hz acc.length 16
 by_cases hE : acc.length ≠ 0 /\ isS z [41] = true
 . have K1 : (((acc.length : Int) == 0) == false) = false -> False:=fun h => hE.1 (by simp at h; simp [h])
   have K2 : (!isS z [41]) = true -> False:=fun h => by rw [hE.2] at h; cases h
   have hse:=zF1 (nxT z) hz.nx0 (by have:=nx_len z; omega)
   rw [vl_end hE.1 hE.2]
   repeat' (first
|apply zAW (VO (opD k n acc _)) rfl rfl
 . conv => lhs; whnf; arg 2; whnf
 . repeat' (first | exact VLe.refl _ | exact VLe.nil _ | exact VLe.lit _ _ | exact VLe.own _ _ _ | apply VLe.agg | apply VLeL.cons | exact VLeL.nil)
|apply s_m zh zN rfl
 . conv => lhs; whnf
 . conv => lhs; whnf
 . rfl
 . conv => lhs; whnf; arg 1; whnf
 . first | exact zv _
 . first | exact hs1 | exact hn
 . exact fun _ => rfl
 . exact fun _ => rfl
|apply zAV zh zN rfl
 . conv => lhs; whnf
 . conv => lhs; whnf
 . first | rfl | assumption
 . conv => lhs; whnf
 . rfl
 . conv => lhs; whnf; arg 1; whnf
 . first | exact zv _
 . first | exact hs1 | exact hn
 . exact fun _ => rfl
 . exact fun _ => rfl
|apply ze rfl
 . conv => lhs; whnf
 . conv => lhs; whnf
 . first | rfl | assumption
|apply s_pr zh zN rfl
 . conv => lhs; whnf
 . conv => lhs; whnf
 . rfl
 . conv => lhs; whnf; arg 1; whnf
 . first | exact zv _
 . first | exact hse
 . exact fun _ => rfl
 . first | (intro _ _; simp only [renL,renV,ren_cells]; done) | exact fun _ _ => rfl
 refine fun ee hq => ?_
 change _ = Out.die _
 rotate_left 1
 refine fun aa xx hq => ?_
 first | (replace hq:=zAZ hq; obtain ⟨hq,rfl⟩:=hq) | (cases hq; have hq:=True.intro) | skip
|exact (K1 ‹_›).elim
|exact (K2 ‹_›).elim
|refine zA ?_
|refine zB ?_
|refine zK ?_
|apply aw_1
 conv => whnf
 refine ⟨?_,trivial⟩
|apply zR rfl rfl
 . conv => lhs; whnf
 . conv => lhs; whnf
 . first | exact bF1 ‹_› | exact bF2 ‹_›
|apply s_1
 conv => whnf; arg 1; arg 4; arg 3; whnf
 refine ⟨?_,?_⟩
|apply zY rfl rfl rfl
 . conv => lhs; whnf
 . conv => lhs; whnf; arg 1; whnf
 . conv => lhs; whnf; arg 1; whnf
 . exact ⟨by kernel_rfl,by kernel_rfl⟩
 . rfl
|apply zD rfl
 . conv => lhs; whnf
 . conv => lhs; whnf
 . first | rfl | assumption
 . conv => lhs; whnf; arg 2; whnf
|apply zJ rfl
 . conv => lhs; whnf
 . conv => lhs; whnf
 . conv => lhs; whnf; arg 2; whnf
|refine zP (by conv => lhs; whnf) ?_ ?_ <;> intro hb
|refine zI ?_
|refine zE rfl ?_
|refine zF ?_
|apply zAK rfl
 . conv => lhs; whnf; arg 2; whnf
 . conv => lhs; whnf; arg 1; whnf
|exact trivial
|intro hg)
   . rw [zS (r:=Except.ok (acc,nxT z)) rfl,zS hq]; rfl
   . rw [zS (r:=Except.ok (acc,nxT z)) rfl,then_err hq]; rfl
 . have K1 : (((acc.length : Int) == 0) == false) = true -> (!isS z [41]) = false -> False:=fun h h2 => hE ⟨by simp at h; intro h3; rw [List.eq_nil_of_length_eq_zero h3] at h; exact h rfl,by simpa using h2⟩
   by_cases hL : isS z [36] = true /\ 16 <= acc.length
   . have K2 : isS z [36] = false -> False:=fun h => by rw [hL.1] at h; cases h
     have K3 : acc.length < 16 -> False:=fun h => by omega
     rw [vl_lim hE hL]
     repeat' (first
|apply s_m zh zN rfl
 . conv => lhs; whnf
 . conv => lhs; whnf
 . rfl
 . conv => lhs; whnf; arg 1; whnf
 . first | exact zv _
 . first | exact hs1 | exact hs2
 . exact fun _ => rfl
 . exact fun _ => rfl
|apply zAV zh zN rfl
 . conv => lhs; whnf
 . conv => lhs; whnf
 . first | rfl | assumption
 . conv => lhs; whnf
 . rfl
 . conv => lhs; whnf; arg 1; whnf
 . first | exact zv _
 . first | exact hs1 | exact hs2
 . exact fun _ => rfl
 . exact fun _ => rfl
|apply ze rfl
 . conv => lhs; whnf
 . conv => lhs; whnf
 . first | rfl | assumption
|apply s_pr zh zN rfl
 . conv => lhs; whnf
 . conv => lhs; whnf
 . rfl
 . conv => lhs; whnf; arg 1; whnf
 . first | exact zv _
 . first | exact hli
 . exact fun _ => rfl
 . first | (intro _ _; simp only [renL,renV,ren_cells]; done) | exact fun _ _ => rfl
 refine fun ee hq => ?_
 change _ = Out.die _
 rotate_left 1
 refine fun aa xx hq => ?_
 first | (replace hq:=zAZ hq; obtain ⟨hq,rfl⟩:=hq) | (cases hq; have hq:=True.intro) | skip
|exact (K1 ‹_› ‹_›).elim
|exact (K2 ‹_›).elim
|exact (K3 ‹_›).elim
|refine zA ?_
|refine zB ?_
|refine zK ?_
|apply aw_1
 conv => whnf
 refine ⟨?_,trivial⟩
|apply zX rfl rfl
 . conv => lhs; whnf
 . conv => lhs; whnf
 . first | exact bT1 ‹_› | exact bT2 ‹_›
|apply zR rfl rfl
 . conv => lhs; whnf
 . conv => lhs; whnf
 . first | exact bF1 ‹_› | exact bF2 ‹_›
|apply s_1
 conv => whnf; arg 1; arg 4; arg 3; whnf
 refine ⟨?_,?_⟩
|apply zD rfl
 . conv => lhs; whnf
 . conv => lhs; whnf
 . first | rfl | assumption
 . conv => lhs; whnf; arg 2; whnf
|apply zJ rfl
 . conv => lhs; whnf
 . conv => lhs; whnf
 . conv => lhs; whnf; arg 2; whnf
|refine zP (by conv => lhs; whnf) ?_ ?_ <;> intro hb
|exact trivial
|intro hg)
     all_goals (rw [(zAp hq).2]; rfl)
   . have K2 : ∀ {e : Nat × Int},isS z [36] = true -> limQ acc.length 16 z = .error e -> False:=fun h1 h2 => hL ⟨h1,(zAp h2).1⟩
     rw [vl_go hE hL]
     have ht1:=zFE hz [36]
     have E1 : ∀ {q y1},takeQ [36] z = .ok (q,y1) -> En y1 /\ y1.ts.length < z.ts.length:=fun h1 => hz.take h1
     have E2 : ∀ {q y1 n z1},takeQ [36] z = .ok (q,y1) -> nameQ y1 = .ok (n,z1) -> En z1 /\ z1.ts.length < z.ts.length:=fun h1 h2 => ⟨((E1 h1).1.name h2).1,by have:=(E1 h1).2; have:=((E1 h1).1.name h2).2; omega⟩
     have E3 : ∀ {q y1 n z1 q2 u},takeQ [36] z = .ok (q,y1) -> nameQ y1 = .ok (n,z1) -> takeQ [58] z1 = .ok (q2,u) -> En u /\ u.ts.length < z.ts.length:=fun h1 h2 h3 => ⟨((E2 h1 h2).1.take h3).1,by have:=(E2 h1 h2).2; have:=((E2 h1 h2).1.take h3).2; omega⟩
     have E4 : ∀ {q y1 n z1 q2 u t v},takeQ [36] z = .ok (q,y1) -> nameQ y1 = .ok (n,z1) -> takeQ [58] z1 = .ok (q2,u) -> typQ u = .ok (t,v) -> En v /\ v.ts.length < z.ts.length:=fun h1 h2 h3 h4 => ⟨((E3 h1 h2 h3).1.typ h4).1,by have:=(E3 h1 h2 h3).2; have:=((E3 h1 h2 h3).1.typ h4).2; omega⟩
     have hnm : ∀ {q y1},takeQ [36] z = .ok (q,y1) -> ACE EN5 Tryz.prog 179 [.bx (pn 0) 0] [boxP y1] (outQ (fun n => .c (.string (bs n))) (nameQ y1)):=fun h1 => zCP (E1 h1).1
     have ht2 : ∀ {q y1 n z1},takeQ [36] z = .ok (q,y1) -> nameQ y1 = .ok (n,z1) -> ACE EN5 Tryz.prog 177 [.bx (pn 0) 0,.c (.string (bs [58]))] [boxP z1] (outQ (fun _ => .agg (tokC (hdT z1))) (takeQ [58] z1)):=fun h1 h2 => zFE (E2 h1 h2).1 [58]
     have hty : ∀ {q y1 n z1 q2 u},takeQ [36] z = .ok (q,y1) -> nameQ y1 = .ok (n,z1) -> takeQ [58] z1 = .ok (q2,u) -> ACE EN5 Tryz.prog 180 [.bx (pn 0) 0] [boxP u] (outQ (fun d => .agg (cellsV Tryz.prog 12 71 d)) (typQ u)):=fun h1 h2 h3 => typ_ace _ (E3 h1 h2 h3).1 (by have:=(E3 h1 h2 h3).2; omega)
     have hsi : ∀ {q y1 n z1 q2 u t v},takeQ [36] z = .ok (q,y1) -> nameQ y1 = .ok (n,z1) -> takeQ [58] z1 = .ok (q2,u) -> typQ u = .ok (t,v) -> ACB EN5 Tryz.prog 99 [.bx (pn 0) 0,.c (.string (bs [61]))] [boxP v] (.c (.bool (isS v [61]))) [boxP v]:=fun h1 h2 h3 h4 => zAg (E4 h1 h2 h3 h4).1 _
     have hnx : ∀ {q y1 n z1 q2 u t v},takeQ [36] z = .ok (q,y1) -> nameQ y1 = .ok (n,z1) -> takeQ [58] z1 = .ok (q2,u) -> typQ u = .ok (t,v) -> ACB EN5 Tryz.prog 103 [.bx (pn 0) 0] [boxP v] (.agg (tokC (hdT v))) [boxP (nxT v)]:=fun h1 h2 h3 h4 => zA3 (E4 h1 h2 h3 h4).1
     have hwh : ∀ {q y1 n z1 q2 u t v},takeQ [36] z = .ok (q,y1) -> nameQ y1 = .ok (n,z1) -> takeQ [58] z1 = .ok (q2,u) -> typQ u = .ok (t,v) -> ACE EN5 Tryz.prog 181 [.bx (pn 0) 0] [boxP ⟨(nxT v).ts,false,(nxT v).nd⟩] (outQ VV (zAf ⟨(nxT v).ts,false,(nxT v).nd⟩)):=fun {q y1 n z1 q2 u t v} h1 h2 h3 h4 => zGh _ ((E4 h1 h2 h3 h4).1.nx0) (by have:=(E4 h1 h2 h3 h4).2; have:=nx_len v; show (nxT v).ts.length <= _; omega)
     repeat' (first
|apply zAW (VVr (varD _ _ true _)) rfl rfl
 . conv => lhs; whnf; arg 2; whnf
 . repeat' (first | exact VLe.refl _ | exact VLe.nil _ | exact VLe.lit _ _ | exact VLe.own _ _ _ | apply VLe.agg | apply VLeL.cons | exact VLeL.nil)
|apply zAW (VVr (varD _ _ false zE9)) rfl rfl
 . conv => lhs; whnf; arg 2; whnf
 . repeat' (first | exact VLe.refl _ | exact VLe.nil _ | exact VLe.lit _ _ | exact VLe.own _ _ _ | apply VLe.agg | apply VLeL.cons | exact VLeL.nil)
|apply s_m zh zN rfl
 . conv => lhs; whnf
 . conv => lhs; whnf
 . rfl
 . conv => lhs; whnf; arg 1; whnf
 . first | exact zv _
 . first | exact hs1 | exact hs2 | exact hsi ‹_› ‹_› ‹_› ‹_› | exact hnx ‹_› ‹_› ‹_› ‹_›
 . exact fun _ => rfl
 . exact fun _ => rfl
|apply zAV zh zN rfl
 . conv => lhs; whnf
 . conv => lhs; whnf
 . first | rfl | assumption
 . conv => lhs; whnf
 . rfl
 . conv => lhs; whnf; arg 1; whnf
 . first | exact zv _
 . first | exact hs1 | exact hs2 | exact hsi ‹_› ‹_› ‹_› ‹_› | exact hnx ‹_› ‹_› ‹_› ‹_›
 . exact fun _ => rfl
 . exact fun _ => rfl
|apply ze rfl
 . conv => lhs; whnf
 . conv => lhs; whnf
 . first | rfl | assumption
|apply s_pr zh zN rfl
 . conv => lhs; whnf
 . conv => lhs; whnf
 . rfl
 . conv => lhs; whnf; arg 1; whnf
 . first | exact zv _ | exact etaP1 _ _ _
 . first | exact hli | exact ht1 | exact hnm ‹_› | exact ht2 ‹_› ‹_› | exact hty ‹_› ‹_› ‹_› | exact hwh ‹_› ‹_› ‹_› ‹_›
 . exact fun _ => rfl
 . first | (intro _ _; simp only [renL,renV,ren_cells]; done) | exact fun _ _ => rfl
 refine fun ee hq => ?_
 change _ = Out.die _
 rotate_left 1
 refine fun aa xx hq => ?_
 first | (replace hq:=zAZ hq; obtain ⟨hq,rfl⟩:=hq) | (cases hq; have hq:=True.intro) | skip
|apply zD7 [varD _ _ _ _] rfl rfl
 . conv => lhs; whnf
 . first | exact elemVar | (conv => lhs; whnf; arg 1; whnf)
 . rfl
 . rfl
 . repeat' (first | exact trivial | apply And.intro | rfl)
|exact (K1 ‹_› ‹_›).elim
|exact (K2 ‹_› ‹_›).elim
|apply zBA 9 (HoV k n z acc) rfl
|refine zHN ?_
|refine zA ?_
|refine zB ?_
|refine zK ?_
|refine zb ?_
|apply aw_1
 conv => whnf
 refine ⟨?_,trivial⟩
|apply zX rfl rfl
 . conv => lhs; whnf
 . conv => lhs; whnf
 . first | exact bT1 ‹_› | exact bT2 ‹_›
|apply zR rfl rfl
 . conv => lhs; whnf
 . conv => lhs; whnf
 . first | exact bF1 ‹_› | exact bF2 ‹_›
|apply s_1
 conv => whnf; arg 1; arg 4; arg 3; whnf
 refine ⟨?_,?_⟩
|apply zY rfl rfl rfl
 . conv => lhs; whnf
 . conv => lhs; whnf; arg 1; whnf
 . conv => lhs; whnf; arg 1; whnf
 . exact ⟨by kernel_rfl,by kernel_rfl⟩
 . rfl
|apply zDk rfl rfl
 . conv => lhs; whnf
 . first | exact elemVar | (conv => lhs; whnf; arg 1; whnf)
 . first | exact fun _ => rfl | (intro _; kernel_rfl)
 . conv => lhs; whnf
 . conv => lhs; whnf; arg 1; whnf
 . conv => lhs; whnf
|apply zD rfl
 . conv => lhs; whnf
 . conv => lhs; whnf
 . first | rfl | assumption
 . conv => lhs; whnf; arg 2; whnf
|apply zJ rfl
 . conv => lhs; whnf
 . conv => lhs; whnf
 . conv => lhs; whnf; arg 2; whnf
|refine zP (by conv => lhs; whnf) ?_ ?_ <;> intro hb
|exact trivial
|intro hg)
     all_goals first
      | exact Sub.live ⟨rfl,rfl,rfl,trivial⟩ ⟨rfl,rfl,rfl,rfl,trivial⟩
      | (refine ⟨by simp,?_,?_⟩ <;> simp only [List.length_cons,List.length_nil,maxLen] <;> omega)
      | (rw [va_1 ‹_›]; rfl)
      | (rw [va_2 ‹_› ‹_›]; rfl)
      | (rw [va_3 ‹_› ‹_› ‹_›]; rfl)
      | (rw [va_4 ‹_› ‹_› ‹_› ‹_›]; rfl)
      | (rw [va_5 ‹_› ‹_› ‹_› ‹_› ‹_› hq]; rfl)
      | (rename_i a1 x1 h1 a2 x2 h2 a3 x3 h3 a4 x4 h4
         have l4:=E4 h1 h2 h3 h4
         have l5:=nx_len x4
         have l6:=En.wholeL (x:=⟨(nxT x4).ts,false,(nxT x4).nd⟩) l4.1.nx0 hq
         have l7 : xx.ts.length < (nxT x4).ts.length:=l6.2
         refine zH (j':=j) (by omega) ⟨{ xx with vr:=true },acc ++ [varD a2 a4 true aa],l6.1,by show xx.ts.length <= j; omega,by show (acc ++ _).length + xx.ts.length <= _; rw [List.length_append]; simp only [List.length_cons,List.length_nil]; omega,by rw [va_6 h1 h2 h3 h4 hb hq]; rfl,Sub.live ⟨rfl,rfl,rfl,trivial⟩ ⟨rfl,rfl,rfl,?_,trivial⟩⟩
         show some (Res.tok _ (acc.length + 1)) = some (Res.tok _ (acc ++ [varD a2 a4 true aa]).length)
         rw [List.length_append]; rfl)
      | (rename_i a1 x1 h1 a2 x2 h2 a3 x3 h3
         have l4:=E4 h1 h2 h3 hq
         refine zH (j':=j) (by omega) ⟨xx,acc ++ [varD a2 aa false zE9],l4.1,by omega,by rw [List.length_append]; simp only [List.length_cons,List.length_nil]; omega,by rw [va_7 h1 h2 h3 hq hb]; rfl,Sub.live ⟨rfl,rfl,rfl,trivial⟩ ⟨rfl,rfl,rfl,?_,trivial⟩⟩
         show some (Res.tok _ (acc.length + 1)) = some (Res.tok _ (acc ++ [varD a2 aa false zE9]).length)
         rw [List.length_append]; rfl)
      | skip
theorem nb2_t {a : Int} (h : ((a != 2) == false) = true) : a = 2:=by simpa using h
theorem nb2_f {a : Int} (h : ((a != 2) == false) = false) : a ≠ 2:=by simpa using h
theorem seq_nt {s : List UInt8} {a : Array UInt8} (h : (!((bs s).toList == (⟨a⟩ : ByteArray).toList)) = true) : s ≠ a.toList:=zBI (by simpa using h)
theorem zG0 {s : List UInt8} {a : Array UInt8} (h : (!((bs s).toList == (⟨a⟩ : ByteArray).toList)) = false) : s = a.toList:=zDi (by simpa using h)
theorem fg_on {x : PS} (h : (hdT x).s = onT) : fragQ x = .error ((hdT x).i,3):=by rw [fragQ,if_pos h]
theorem fg_go {x : PS} (h : (hdT x).s ≠ onT) : fragQ x = thenQ (nameQ x) fun n y => if (hdT y).k = 2 /\ (hdT y).s = onT then thenQ (nameQ (nxT y)) fun on z => thenQ (setQ z) fun ss u => .ok (zIY n on ss,u) else .error ((hdT y).i,3):=by rw [fragQ,if_neg h]
theorem frag_ace (x : PS) (h : En x) (hlen : x.ts.length <= 100000) : ACE EN5 Tryz.prog 105 [.bx (pn 0) 0] [boxP x] (outQ VF (fragQ x)):=by
 have hnm:=zCP h
 have hf:=zAz (hdT x) 3
 obtain ⟨t,r,ht⟩:=h.cons
 have hh:=zAe ht
 rw [hh] at hf
 cases hq0 : nameQ x with
 | error e =>
   have g : (t.s = onT -> fragQ x = .error (t.i,3)) /\ (t.s ≠ onT -> fragQ x = .error e):=⟨fun h => by rw [fg_on (by rw [hh]; exact h),hh],fun h => by rw [fg_go (by rw [hh]; exact h),then_err hq0]⟩
   have K : ∀ {n y},nameQ x = .ok (n,y) -> False:=fun h => by rw [hq0] at h; cases h
   obtain ⟨ts,vr,nd⟩:=x
   cases ht
   refine zAF (fn:=Tryz.f105) 56 Tryz.func105 rfl rfl ?_
   intro pas w0 w he hp
   repeat' (first
|apply s_pr zh zN rfl
 . conv => lhs; whnf
 . conv => lhs; whnf
 . rfl
 . conv => lhs; whnf; arg 1; whnf
 . first | exact zv _
 . first | exact hnm
 . exact fun _ => rfl
 . first | (intro _ _; simp only [renL,renV,ren_cells]; done) | exact fun _ _ => rfl
 refine fun ee hq => ?_
 change _ = Out.die _
 rotate_left 1
 refine fun aa xx hq => ?_
 first | (replace hq:=zAZ hq; obtain ⟨hq,rfl⟩:=hq) | (cases hq; have hq:=True.intro) | skip
|apply zCM rfl
 . conv => lhs; whnf
 . first | exact hf
 . first | exact fun _ => rfl | (intro _; simp only [renL,renV,ren_cells])
 change _ = Out.die _
|exact (K ‹_›).elim
|refine zA ?_
|refine zB ?_
|refine zK ?_
|apply aw_1
 conv => whnf
 refine ⟨?_,trivial⟩
|apply s_1
 conv => whnf; arg 1; arg 4; arg 3; whnf
 refine ⟨?_,?_⟩
|refine zP (by conv => lhs; whnf) ?_ ?_ <;> intro hb
|exact trivial)
   all_goals first
    | exact zBT _ _
    | exact (K ‹_›).elim
    | (rw [g.1 (zDi ‹_›)]; rfl)
    | (rw [g.2 (zBI ‹_›)]; rw [hq0] at hq; cases hq; rfl)
    | skip
 | ok q =>
   obtain ⟨n,y⟩:=q
   have hy:=h.name hq0
   obtain ⟨t2,r2,ht2⟩:=hy.1.cons
   have hh2:=zAe ht2
   have hf2:=zAz (hdT y) 3
   rw [hh2] at hf2
   have hn2:=zA3 hy.1
   have hnm2:=zCP hy.1.nx0
   have hse : ∀ {on z},nameQ (nxT y) = .ok (on,z) -> ACE EN5 Tryz.prog 102 [.bx (pn 0) 0,.c (.int .i64 1)] [boxP z] (outQ (fun l => .sl 76 l) (setQ z)):=fun h1 => zF1 _ (hy.1.nx0.name h1).1 (by have:=(hy.1.nx0.name h1).2; have:=nx_len y; omega)
   have g1 : t.s = onT -> fragQ x = .error (t.i,3):=fun h => by rw [fg_on (by rw [hh]; exact h),hh]
   have g2 : t.s ≠ onT -> ¬ (t2.k = 2 /\ t2.s = onT) -> fragQ x = .error (t2.i,3):=fun h h2 => by rw [fg_go (by rw [hh]; exact h),zS hq0,if_neg (by rw [hh2]; exact h2),hh2]
   have g3 : t.s ≠ onT -> t2.k = 2 /\ t2.s = onT -> fragQ x = thenQ (nameQ (nxT y)) fun on z => thenQ (setQ z) fun ss u => .ok (zIY n on ss,u):=fun h h2 => by rw [fg_go (by rw [hh]; exact h),zS hq0,if_pos (by rw [hh2]; exact h2)]
   have K : ∀ {e},nameQ x = .error e -> False:=fun h => by rw [hq0] at h; cases h
   have hnm' : ACE EN5 Tryz.prog 179 [.bx (pn 0) 0] [boxP x] (outQ (fun n => .c (.string (bs n))) (.ok (n,y) : PR (List UInt8))):=by rw [<- hq0]; exact hnm
   obtain ⟨ts,vr,nd⟩:=x
   cases ht
   obtain ⟨yts,yvr,ynd⟩:=y
   cases ht2
   refine zAF (fn:=Tryz.f105) 56 Tryz.func105 rfl rfl ?_
   intro pas w0 w he hp
   have hS : ∀ {a : List UInt8} {b : PS},(Except.ok (n,(⟨t2 :: r2,yvr,ynd⟩ : PS)) : PR (List UInt8)) = .ok (a,b) -> a = n /\ b = ⟨t2 :: r2,yvr,ynd⟩:=fun h => by cases h; exact ⟨rfl,rfl⟩
   repeat' (first
|apply zAW (VF (zIY n _ _)) rfl rfl
 . conv => lhs; whnf; arg 2; whnf
 . repeat' (first | exact VLe.refl _ | exact VLe.nil _ | exact VLe.lit _ _ | exact VLe.own _ _ _ | apply VLe.agg | apply VLeL.cons | exact VLeL.nil)
|apply s_m zh zN rfl
 . conv => lhs; whnf
 . conv => lhs; whnf
 . rfl
 . conv => lhs; whnf; arg 1; whnf
 . first | exact zv _
 . first | exact hn2
 . exact fun _ => rfl
 . exact fun _ => rfl
|apply ze rfl
 . conv => lhs; whnf
 . conv => lhs; whnf
 . first | rfl | assumption
|apply s_pr zh zN rfl
 . conv => lhs; whnf
 . conv => lhs; whnf
 . rfl
 . conv => lhs; whnf; arg 1; whnf
 . first | exact zv _
 . first | exact hnm' | exact hnm2 | exact hse ‹_›
 . exact fun _ => rfl
 . first | (intro _ _; simp only [renL,renV,ren_cells]; done) | exact fun _ _ => rfl
 refine fun ee hq => ?_
 change _ = Out.die _
 rotate_left 1
 refine fun aa xx hq => ?_
 first | (replace hq:=zAZ hq; obtain ⟨hq,rfl⟩:=hq) | (cases hq; have hq:=True.intro) | skip
|apply zCM rfl
 . conv => lhs; whnf
 . first | exact hf | exact hf2
 . first | exact fun _ => rfl | (intro _; simp only [renL,renV,ren_cells])
 change _ = Out.die _
|refine zA ?_
|refine zB ?_
|refine zK ?_
|apply aw_1
 conv => whnf
 refine ⟨?_,trivial⟩
|apply zX rfl rfl
 . conv => lhs; whnf
 . conv => lhs; whnf
 . first | exact bT1 ‹_› | exact bT2 ‹_›
|apply zR rfl rfl
 . conv => lhs; whnf
 . conv => lhs; whnf
 . first | exact bF1 ‹_› | exact bF2 ‹_›
|apply s_1
 conv => whnf; arg 1; arg 4; arg 3; whnf
 refine ⟨?_,?_⟩
|apply zY rfl rfl rfl
 . conv => lhs; whnf
 . conv => lhs; whnf; arg 1; whnf
 . conv => lhs; whnf; arg 1; whnf
 . exact ⟨by kernel_rfl,by kernel_rfl⟩
 . rfl
|apply zD rfl
 . conv => lhs; whnf
 . conv => lhs; whnf
 . first | rfl | assumption
 . conv => lhs; whnf; arg 2; whnf
|apply zJ rfl
 . conv => lhs; whnf
 . conv => lhs; whnf
 . conv => lhs; whnf; arg 2; whnf
|refine zP (by conv => lhs; whnf) ?_ ?_ <;> intro hb
|apply zAK rfl
 . conv => lhs; whnf; arg 2; whnf
 . conv => lhs; whnf; arg 1; whnf
|exact trivial
|intro hg)
   all_goals first
    | exact zBT _ _
    | exact (K ‹_›).elim
    | (cases hq; done)
    | (rw [g1 (zDi ‹_›)]; rfl)
    | (rw [g2 (zBI ‹_›) (fun h => nb2_f hg h.1)]; rfl)
    | (rw [g2 (zBI ‹_›) (fun h => seq_nt hb h.2)]; rfl)
    | (rw [g3 (zBI ‹_›) ⟨nb2_t hg,zG0 hb⟩,then_err hq]; rfl)
    | (rw [g3 (zBI ‹_›) ⟨nb2_t hg,zG0 hb⟩,zS ‹_›,then_err hq]; rfl)
    | (rw [g3 (zBI ‹_›) ⟨nb2_t hg,zG0 hb⟩,zS ‹_›,zS hq]; rfl)
    | skip
end Go.Proofs.YthjiclhfhjdjpaaGreatDoor
namespace Go.Proofs.YthjiclhfhjdjpaaGreatDoor
def Nz {α : Type} (r : PR α) : Prop:=∀ i,r ≠ .error (i,0)
section
variable {α β : Type}
theorem Nz.okk (p : α × PS) : Nz (.ok p : PR α):=fun i h => by cases h
theorem Nz.err {i : Nat} {e : Int} (h : e ≠ 0) : Nz (.error (i,e) : PR α):=fun j hj => by cases hj; exact h rfl
theorem Nz.ite {c : Prop} [Decidable c] {a b : PR α} (h1 : c -> Nz a) (h2 : ¬ c -> Nz b) : Nz (if c then a else b):=by
 split
 . exact h1 ‹_›
 . exact h2 ‹_›
theorem Nz.then {r : PR α} {f : α -> PS -> PR β} (h : Nz r) (hf : ∀ a x,r = .ok (a,x) -> Nz (f a x)) : Nz (thenQ r f):=by
 cases hr : r with
 | error e =>
   rw [then_err (r:=.error e) rfl]
   intro i hi
   cases hi
   exact h i hr
 | ok p =>
   obtain ⟨a,x⟩:=p
   rw [zS (r:=.ok (a,x)) rfl]
   exact hf a x hr
end
theorem zEE : ∀ (k : Nat) (l t : List UInt8),unqF k l = some t -> t.length <= l.length
 | k,[],t,h => by
   have : unqF k [] = some []:=by cases k <;> rfl
   rw [this] at h; cases h; exact Nat.le_refl _
 | 0,c :: r,t,h => by cases h
 | k + 1,c :: r,t,h => by
   have h : stpU (unqF k) c r = some t:=h
   unfold stpU at h
   split at h
   . cases h
   split at h
   . obtain ⟨q,hq,rfl⟩:=Option.map_eq_some_iff.1 h
     have:=zEE k _ _ hq
     simp; omega
   split at h
   . cases h
   . rename_i d r'
     split at h
     . obtain ⟨q,hq,rfl⟩:=Option.map_eq_some_iff.1 h
       have:=zEE k _ _ hq
       simp; omega
     . split at h
       . cases h
       . split at h
         . split at h
           . obtain ⟨q,hq,rfl⟩:=Option.map_eq_some_iff.1 h
             have:=zEE k _ _ hq
             simp at this |-; omega
           . cases h
         . cases h
theorem zH4 {l t : List UInt8} (h : unquoteU l = some t) : t.length <= l.length:=by
 unfold unquoteU at h
 split at h
 . have:=zEE _ _ _ h
   simp at this; omega
 . cases h
theorem readU_len {l : List UInt8} {k : Int} {s : List UInt8} {n : Nat} (h : readU l = .ok (k,s,n)) : s.length <= l.length:=by
 unfold readU at h
 split at h
 . cases h
 . rename_i c r
   have hs:=(zGy (p:=wrdU) r).2
   have hl:=zBo wrdU r
   split at h
   . cases h; simp
   split at h
   . split at h
     . rename_i h3
       cases h
       have : (r.take 2).length = 2:=by rw [h3]; rfl
       rw [List.length_take] at this
       simp; omega
     . cases h
   split at h
   . split at h
     . cases h; rw [List.length_cons,List.length_cons,hs]; omega
     . cases h
   split at h
   . split at h
     . cases h
     . cases h; rw [List.length_cons,List.length_cons,hs]; omega
   split at h
   . split at h
     . cases h
     . split at h
       . cases h
       . rename_i ht
         cases h
         have:=zH4 ht
         simp at this |-; omega
   . cases h
theorem readU_nz {l : List UInt8} {e : Int} (h : readU l = .error e) : e ≠ 0:=by
 unfold readU at h
 split at h
 . cases h; decide
 . split at h
   . cases h
   split at h
   . split at h
     . cases h
     . cases h; decide
   split at h
   . split at h
     . cases h
     . rename_i hn; cases h; exact hn
   split at h
   . split at h
     . cases h; decide
     . cases h
   split at h
   . split at h
     . cases h; decide
     . split at h
       . cases h; decide
       . cases h
   . cases h; decide
theorem zJD : ∀ (f : Nat) (l : List UInt8) (i : Nat) (ts : List Tok),scanF f l i = .ok ts -> (∃ a e,ts = a ++ [e] /\ e.k = 5) /\ ∀ t ∈ ts,t.i <= i + l.length /\ t.s.length <= l.length
 | 0,_,_,_,h => by cases h
 | f + 1,l,i,ts,h => by
   unfold scanF at h
   split at h
   . cases h
     exact ⟨⟨[],_,rfl,rfl⟩,fun t ht => by rw [List.mem_singleton] at ht; subst ht; exact ⟨Nat.le_refl _,Nat.zero_le _⟩⟩
   . rename_i c r hl
     have hlen : (c :: r).length = l.length - skipM false l:=by rw [<- hl,List.length_drop]
     have hsk:=zA8 false l
     split at h
     . cases h
     . rename_i t n ht
       have hn:=zF7 ht
       have hu:=zJJ ht
       have hs:=readU_len hu.1
       split at h
       . cases h
       . rename_i ts' hts
         cases h
         obtain ⟨⟨a,e,rfl,he⟩,hm⟩:=zJD f _ _ _ hts
         refine ⟨⟨t :: a,e,rfl,he⟩,fun u hu' => ?_⟩
         rcases List.mem_cons.1 hu' with rfl | hu'
         . exact ⟨by rw [hu.2]; omega,by omega⟩
         . have:=hm u hu'
           rw [List.length_drop] at this
           exact ⟨by omega,by omega⟩
theorem zG4 : ∀ (f : Nat) (l : List UInt8) (i : Nat) (p : Nat × Int),l.length < f -> scanF f l i = .error p -> p.1 <= i + l.length /\ p.2 ≠ 0
 | 0,_,_,_,h,_ => by omega
 | f + 1,l,i,p,hf,h => by
   unfold scanF at h
   split at h
   . cases h
   . rename_i c r hl
     have hlen : (c :: r).length = l.length - skipM false l:=by rw [<- hl,List.length_drop]
     have hsk:=zA8 false l
     split at h
     . rename_i e he
       cases h
       refine ⟨by show i + _ <= _; omega,?_⟩
       unfold zD8 at he
       split at he
       . rename_i e' he'
         cases he
         exact readU_nz he'
       . cases he
     . rename_i t n ht
       have hn:=zF7 ht
       split at h
       . rename_i e he
         cases h
         have:=zG4 f _ _ p (by rw [List.length_drop]; omega) he
         rw [List.length_drop] at this
         exact ⟨by omega,this.2⟩
       . cases h
theorem scan_en {l : List UInt8} {ts : List Tok} (h : zCK l = .ok ts) : En ⟨ts,true,0⟩ /\ ∀ t ∈ ts,t.i <= l.length:=by
 unfold zCK at h
 split at h
 . cases h
 . obtain ⟨⟨a,e,h1,h2⟩,h3⟩:=zJD _ _ _ _ h
   exact ⟨⟨a,e,h1,h2,fun t ht => by have:=(h3 t ht).2; omega⟩,fun t ht => by have:=(h3 t ht).1; omega⟩
def inT (N : Nat) (t t' : Tok) : Prop:=t = t' /\ t.i <= N
theorem inT_tr (N : Nat) : TR (inT N) fun i i' => i = i' /\ i <= N:=⟨fun h => by rw [h.1],fun h => by rw [h.1],fun h => ⟨by rw [h.1],h.2⟩,⟨rfl,Nat.zero_le _⟩⟩
theorem all2_in {N : Nat} : ∀ {ts : List Tok},(∀ t ∈ ts,t.i <= N) -> All2 (inT N) ts ts
 | [],_ => .nil
 | t :: ts,h => .cons ⟨rfl,h t (List.mem_cons_self ..)⟩ (all2_in fun u hu => h u (List.mem_cons_of_mem _ hu))
theorem doc_err {ts : List Tok} {N i : Nat} {e : Int} (h : ∀ t ∈ ts,t.i <= N) (hq : docQ ts = .error (i,e)) : i <= N:=by
 have hr:=doc_rr (inT_tr N) (all2_in h)
 rw [hq] at hr
 exact hr.1.2
theorem scan_err {l : List UInt8} {i : Nat} {e : Int} (h : zCK l = .error (i,e)) : e ≠ 0:=by
 unfold zCK at h
 split at h
 . cases h; decide
 . exact (zG4 _ _ _ _ (Nat.lt_succ_self _) h).2
end Go.Proofs.YthjiclhfhjdjpaaGreatDoor
