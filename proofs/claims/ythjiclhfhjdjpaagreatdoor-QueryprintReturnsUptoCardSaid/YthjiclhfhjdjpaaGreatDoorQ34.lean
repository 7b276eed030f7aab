import Derived.Test.YthjiclhfhjdjpaaGreatDoorQ33
set_option maxHeartbeats 8000000
set_option maxRecDepth 100000
set_option linter.unusedVariables false
set_option linter.unusedSimpArgs false
namespace Go.Proofs.YthjiclhfhjdjpaaGreatDoor
open Go.RowKit
attribute [local irreducible] wpList Calls Code.wp AW AWo OpOk seqK zx zAI loopK endK AC zm Yld Sub
def zBn (k : Int) : List UInt8:=if k = 2 then [109,117,116,97,116,105,111,110] else if k = 3 then [115,117,98,115,99,114,105,112,116,105,111,110] else [113,117,101,114,121]
def varT (K : Nat) (v : D) : List UInt8:=[36] ++ tx (v.f 0).s ++ [58,32] ++ refB (tx ((v.f 1).f 0).s) ((v.f 1).f 1).l ++ (if (v.f 2).b = true then [32,61,32] ++ valT K (v.f 3) else [])
def zH1 (K : Nat) (l : List D) : List UInt8:=Lib.join (l.map (varT K)) commaT
def opT (K : Nat) (o : D) : List UInt8:=
 if (o.f 0).n = 1 /\ tx (o.f 1).s = [] /\ (o.f 2).l.length = 0 then [123]
 else zBn (o.f 0).n ++ (if tx (o.f 1).s = [] then [] else [32] ++ tx (o.f 1).s) ++ (if (o.f 2).l.length = 0 then [] else [40] ++ zH1 K (o.f 2).l ++ [41]) ++ [32,123]
structure VarsOk (K : Nat) (l : List D) : Prop where
 wide : ∀ i,wideD (gD l i)
 bulk : bulkL l <= 1048576
 dp : ∀ i,i < l.length -> Dp K ((gD l i).f 3)
 good : ∀ i,i < l.length -> goodV K ((gD l i).f 3)
theorem varT_len (K : Nat) (v : D) (h : wideD v) : (varT K v).length + 2 <= 40 * bulkD v:=by
 have h1:=zBG K (v.f 3) (h.f 3)
 have h2:=zZ (v.f 3)
 have h3:=zZ v
 have h4:=z8 (v.f 0)
 have h5:=zAL v 4
 have h6:=zAG (v.f 0).s
 have h7:=zC0 (tx ((v.f 1).f 0).s) ((v.f 1).f 1).l
 have h8:=zAL (v.f 1) 2
 have h9:=z8 ((v.f 1).f 0)
 have h10:=zAG ((v.f 1).f 0).s
 have h11:=Nat.le_trans (zt ((v.f 1).f 1).l) (zi ((v.f 1).f 1))
 simp only [sumN] at h5 h8
 unfold varT
 split <;> simp only [List.length_append,List.length_cons,List.length_nil] <;> omega
theorem zGk (K : Nat) (l : List D) (h : ∀ i,wideD (gD l i)) : (zH1 K l).length <= 40 * bulkL l:=zC3 l _ _ _ fun i _ => varT_len K _ (h i)
theorem refP_d (x : D) (hn : (x.f 0).s.size <= 2000000) (hl : (x.f 1).l.length <= 2000000) : AC EN Tryz.prog 121 [.agg (cellsV Tryz.prog 12 71 x)] (.c (.string (bs (refB (tx (x.f 0).s) (x.f 1).l)))):=by
 have:=refP_ac (tx (x.f 0).s) (x.f 1).l (by rw [zAG]; exact hn) hl
 rw [zDa] at this
 exact this
structure VarSz (K : Nat) (v : D) : Prop where
 name : (v.f 0).s.size <= 1048576
 rname : ((v.f 1).f 0).s.size <= 1048576
 wraps : ((v.f 1).f 1).l.length <= 1048576
 rtext : (refB (tx ((v.f 1).f 0).s) ((v.f 1).f 1).l).length <= 4000000
 dflt : bulkD (v.f 3) <= 1048576
 dtext : (valT K (v.f 3)).length <= 26000000
theorem VarsOk.sz {K : Nat} {l : List D} (h : VarsOk K l) {i : Nat} (hi : i < l.length) : VarSz K (gD l i):=by
 have h0:=zk hi
 have h0':=h.bulk
 have h1:=zBG K ((gD l i).f 3) ((h.wide i).f 3)
 have h2:=zZ ((gD l i).f 3)
 have h3:=zZ (gD l i)
 have h4:=z8 ((gD l i).f 0)
 have h5:=zAL (gD l i) 4
 have h7:=zC0 (tx (((gD l i).f 1).f 0).s) (((gD l i).f 1).f 1).l
 have h8:=zAL ((gD l i).f 1) 2
 have h9:=z8 (((gD l i).f 1).f 0)
 have h10:=zAG (((gD l i).f 1).f 0).s
 have h11:=Nat.le_trans (zt (((gD l i).f 1).f 1).l) (zi (((gD l i).f 1).f 1))
 simp only [sumN] at h5 h8
 refine ⟨?_,?_,?_,?_,?_,?_⟩ <;> omega
theorem word_ac (k : Int) : AC EN Tryz.prog 120 [.c (.int .i64 k)] (.c (.string (bs (zBn k)))):=by
 refine zG 8 Tryz.func120 rfl rfl rfl rfl ?_
 intro s w he
 repeat' (first
|refine zA ?_
|refine zB ?_
|refine zK ?_
|refine zb ?_
|apply aw_1
 conv => whnf
 refine ⟨?_,trivial⟩
|apply s_1
 conv => whnf; arg 1; arg 4; arg 3; whnf
 refine ⟨?_,?_⟩
|refine zP (by conv => lhs; whnf) ?_ ?_ <;> intro hb
|refine zM ?_
|refine zO ?_
|refine zC ?_
|refine ⟨_,by conv => lhs; whnf; arg 2; whnf,?_⟩; conv => rhs; whnf
|exact trivial)
 . rw [zBn,if_pos (by simpa using hb)]; rfl
 . rename_i h2
   rw [zBn,if_neg (by simpa using h2),if_pos (by simpa using hb)]; rfl
 . rename_i h2
   rw [zBn,if_neg (by simpa using h2),if_neg (by simpa using hb)]; rfl
theorem zGf (k : Int) : (zBn k).length <= 12:=by
 unfold zBn
 split
 . simp
 . split <;> simp
def zCs (o : D) : List UInt8:=zBn (o.f 0).n ++ (if tx (o.f 1).s = [] then [] else [32] ++ tx (o.f 1).s)
noncomputable def HhA (o : D) : Vst 72:=stS 72 [(1,.bx 1 0)] [(1,.box 57 (cellsV Tryz.prog 12 57 o))]
noncomputable def HhB (o : D) : Vst 72:=stS 72 [(1,.bx 1 0),(3,.c (.string (bs (zCs o))))] [(1,.box 57 (cellsV Tryz.prog 12 57 o))]
theorem leq0 {n : Nat} (h : (((n : Int)) == 0) = true) : n = 0:=by
 have : (n : Int) = 0:=by simpa using h
 omega
noncomputable def HhP (K : Nat) (o : D) (i : Nat) : Vst 72:=
 stS 72 [(3,.c (.string (bs (zCs o)))),(4,.own 4 9 (zn (fun i => varT K (gD (o.f 2).l i)) i)),(34,.sl 88 (o.f 2).l),(35,.c (.int .i64 (o.f 2).l.length)),(36,.c (.int .i64 i))] [(4,.tok 9 (zn (fun i => varT K (gD (o.f 2).l i)) i).length)]
theorem opHead_ac (K : Nat) (o : D) (h : VarsOk K (o.f 2).l) (hn : (o.f 1).s.size <= 1048576) : AC EN Tryz.prog 58 [.agg (cellsV Tryz.prog 12 57 o)] (.c (.string (bs (opT K o)))):=by
 have hw:=word_ac (o.f 0).n
 have hwl:=zGf (o.f 0).n
 have hll:=Nat.le_trans (zt (o.f 2).l) h.bulk
 have hvl : (zH1 K (o.f 2).l).length <= 50000000:=by have:=zGk K _ h.wide; have:=h.bulk; omega
 have hj:=zC4 (zn (fun i => varT K (gD (o.f 2).l i)) (o.f 2).l.length) [44,32] (by rw [zAH]; omega) (by rw [zAj]; exact Nat.le_trans hvl (by omega))
 rw [zAj] at hj
 have hnl : (zCs o).length <= 1048600:=by
  have:=zAG (o.f 1).s
  unfold zCs
  split <;> simp only [List.length_append,List.length_cons,List.length_nil] <;> omega
 by_cases hc : (o.f 0).n = 1 /\ tx (o.f 1).s = [] /\ (o.f 2).l.length = 0
 . have k1 : (((o.f 0).n == 1) == true) = false -> False:=fun h => by rw [hc.1] at h; cases h
   have k2 : (((o.f 1).s.toList == (⟨#[]⟩ : ByteArray).toList) == true) = false -> False:=fun h => e_ne (bF1 h) hc.2.1
   have k3 : ((((o.f 2).l.length : Int)) == 0) = false -> False:=fun h => by rw [hc.2.2] at h; cases h
   refine zG 72 Tryz.func58 rfl rfl rfl rfl ?_
   intro s w he
   repeat' (first
|exact (k1 ‹_›).elim
|exact (k2 ‹_›).elim
|exact (k3 ‹_›).elim
|refine zA ?_
|refine zB ?_
|refine zK ?_
|apply aw_1
 conv => whnf
 refine ⟨?_,trivial⟩
|apply zX rfl rfl
 . conv => lhs; whnf
 . conv => lhs; whnf
 . first | exact bT1 ‹_› | exact bT2 ‹_›
|apply s_1
 conv => whnf; arg 1; arg 4; arg 3; whnf
 refine ⟨?_,?_⟩
|apply zAC rfl rfl rfl rfl
 . conv => lhs; whnf; arg 1; whnf
 . rfl
|apply zD rfl
 . conv => lhs; whnf
 . conv => lhs; whnf
 . first | rfl | assumption
 . conv => lhs; whnf; arg 2; whnf
|apply zEY rfl
 . conv => lhs; whnf
 . conv => lhs; whnf
 . conv => lhs; whnf; arg 2; whnf
|refine zP (by conv => lhs; whnf) ?_ ?_ <;> intro hb
|refine zM ?_
|refine zC ?_
|refine ⟨_,by conv => lhs; whnf; arg 2; whnf,?_⟩; conv => rhs; whnf
|exact trivial
|intro hg)
   rw [opT,if_pos hc]; rfl
 . have kf : (((o.f 0).n == 1) == true) = true -> (((o.f 1).s.toList == (⟨#[]⟩ : ByteArray).toList) == true) = true -> ((((o.f 2).l.length : Int)) == 0) = true -> False:=fun h1 h2 h3 => hc ⟨by simpa using bT1 h1,e_eq (bT1 h2),leq0 h3⟩
   refine zG 72 Tryz.func58 rfl rfl rfl rfl ?_
   intro s w he
   repeat' (first
|apply zBA 3 (HhA o) rfl
|apply zBA 6 (HhB o) rfl
|exact (kf ‹_› ‹_› ‹_›).elim
|refine zHN ?_
|refine zA ?_
|refine zB ?_
|refine zK ?_
|apply aw_1
 conv => whnf
 refine ⟨?_,trivial⟩
|apply zX rfl rfl
 . conv => lhs; whnf
 . conv => lhs; whnf
 . first | exact bT1 ‹_› | exact bT2 ‹_›
|apply zR rfl rfl
 . conv => lhs; whnf
 . conv => lhs; whnf
 . first | exact bF1 ‹_› | exact bF2 ‹_›
|apply s_1
 conv => whnf; arg 1; arg 4; arg 3; whnf
 refine ⟨?_,?_⟩
|apply zd rfl
 . conv => lhs; whnf
 . conv => lhs; whnf
 . first | exact hw
|apply zAC rfl rfl rfl rfl
 . conv => lhs; whnf; arg 1; whnf
 . rfl
|apply zD rfl
 . conv => lhs; whnf
 . conv => lhs; whnf
 . first | rfl | assumption
 . conv => lhs; whnf; arg 2; whnf
|apply s_skip rfl
 . conv => lhs; whnf
 . conv => lhs; whnf
 . first | rfl | assumption
|apply zEY rfl
 . conv => lhs; whnf
 . conv => lhs; whnf
 . conv => lhs; whnf; arg 2; whnf
|refine zP (by conv => lhs; whnf) ?_ ?_ <;> intro hb
|exact trivial
|intro hg)
   all_goals first
    | exact Sub.live ⟨rfl,trivial⟩ ⟨rfl,trivial⟩
    | ((simp only [ByteArray.size_append,zg,z7,List.size_toArray,List.length_append,List.length_cons,List.length_nil,maxLen,Nat.reduceAdd,Int.toNat_natCast]; omega); done)
    | skip
   . have hne : ¬ tx (o.f 1).s = []:=s_ne hb
     refine Sub.live ⟨rfl,?_,trivial⟩ ⟨rfl,trivial⟩
     show V.c (.string (bs (zBn (o.f 0).n) ++ (⟨#[32]⟩ ++ (o.f 1).s))) = V.c (.string (bs (zCs o)))
     refine (str_eq ?_).symm
     rw [zCs,if_neg hne]
     simp only [zAY,zD6]; rfl
   . have hne : tx (o.f 1).s = []:=s_eq hb
     refine Sub.live ⟨rfl,?_,trivial⟩ ⟨rfl,trivial⟩
     show V.c (.string (bs (zBn (o.f 0).n))) = V.c (.string (bs (zCs o)))
     rw [zCs,if_pos hne,List.append_nil]
   . refine zW (Sub.own (t:=4) (e:=9) rfl rfl) ?_
     refine zV (fun j st => ∃ i,i + j = (o.f 2).l.length /\ Sub (cx EN Tryz.prog s w he) st (HhP K o i)) (o.f 2).l.length ⟨0,by omega,?_⟩ ?_
     . exact Sub.live ⟨rfl,rfl,rfl,rfl,rfl,trivial⟩ ⟨rfl,trivial⟩
     . rintro j st ⟨i,hij,hs2⟩
       refine zW hs2 ?_
       have htk:=zAH (fun i => varT K (gD (o.f 2).l i)) i
       have hj2 : decide ((i : Int) < ((o.f 2).l.length : Int)) = false -> AC EN Tryz.prog 59 [.sl 9 (zn (fun i => varT K (gD (o.f 2).l i)) i),.c (.string (bs [44,32]))] (.c (.string (bs (zH1 K (o.f 2).l)))):=fun hh => by
        have e : i = (o.f 2).l.length:=by have:=zGZ hh; omega
        rw [e]; exact hj
       have hv : decide ((i : Int) < ((o.f 2).l.length : Int)) = true -> AC EN Tryz.prog 122 [.agg (cellsV Tryz.prog 12 84 ((gD (o.f 2).l i).f 3))] (.c (.string (bs (valT K ((gD (o.f 2).l i).f 3))))):=fun hh =>
        zDG K _ (h.dp i (zA1 hh)) ((h.wide i).f 3) (h.good i (zA1 hh)) (h.sz (zA1 hh)).dflt
       have hr : decide ((i : Int) < ((o.f 2).l.length : Int)) = true -> AC EN Tryz.prog 121 [.agg (cellsV Tryz.prog 12 71 ((gD (o.f 2).l i).f 1))] (.c (.string (bs (refB (tx (((gD (o.f 2).l i).f 1).f 0).s) (((gD (o.f 2).l i).f 1).f 1).l)))):=fun hh => by
        have z:=h.sz (zA1 hh)
        exact refP_d _ (Nat.le_trans z.rname (by omega)) (Nat.le_trans z.wraps (by omega))
       have z : i < (o.f 2).l.length -> VarSz K (gD (o.f 2).l i):=fun hh => h.sz hh
       by_cases hi : i < (o.f 2).l.length
       . obtain ⟨z1,z2,z3,z4,z5,z6⟩:=z hi
         repeat' (first
|refine zA ?_
|refine zB ?_
|refine zK ?_
|refine zb ?_
|apply aw_1
 conv => whnf
 refine ⟨?_,trivial⟩
|apply s_1
 conv => whnf; arg 1; arg 4; arg 3; whnf
 refine ⟨?_,?_⟩
|apply zd rfl
 . conv => lhs; whnf
 . conv => lhs; whnf
 . first | exact hv ‹_› | exact hr ‹_› | exact hj2 ‹_›
|apply zY rfl rfl rfl
 . conv => lhs; whnf
 . conv => lhs; whnf; arg 1; whnf
 . conv => lhs; whnf; arg 1; whnf
 . exact ⟨by kernel_rfl,by kernel_rfl⟩
 . rfl
|apply zDk rfl rfl
 . conv => lhs; whnf
 . first | exact zAP | (conv => lhs; whnf; arg 1; whnf)
 . first | exact fun _ => rfl | (intro _; kernel_rfl)
 . conv => lhs; whnf
 . conv => lhs; whnf; arg 1; whnf
 . conv => lhs; whnf
|apply zFL rfl rfl
 . conv => lhs; whnf
 . first | exact zAP | (conv => lhs; whnf; arg 1; whnf)
 . conv => lhs; whnf; arg 1; whnf
 . rfl
 . rfl
|apply zAb (by kernel_rfl) (by kernel_rfl)
|apply zCE
|apply zCD rfl
 . conv => lhs; whnf
 . conv => lhs; whnf; arg 2; whnf
|apply zDC rfl
 . conv => lhs; whnf
 . conv => lhs; whnf
 . first | exact hv ‹_› | exact hr ‹_› | exact hj2 ‹_›
|exact zr
|exact zAQ
|exact (1000000 : Nat)
|refine zP (by conv => lhs; whnf) ?_ ?_ <;> intro hb
|refine zI ?_
|refine zE rfl ?_
|refine zF ?_
|refine zC ?_
|refine ⟨_,by conv => lhs; whnf; arg 2; whnf,?_⟩; conv => rhs; whnf
|exact trivial)
         all_goals first
          | exact zT (by omega)
          | exact zDf (by omega) (by omega)
          | ((simp only [ByteArray.size_append,zg,z7,List.size_toArray,List.length_append,List.length_cons,List.length_nil,maxLen,Nat.reduceAdd,Int.toNat_natCast]; omega); done)
          | exact at_ok hb
          | skip
         . have hhas : ((gD (o.f 2).l i).f 2).b = true:=hb
           refine zH (j':=j - 1) (by omega) ⟨i + 1,by omega,Sub.live ⟨rfl,?_,rfl,rfl,rfl,trivial⟩ ⟨?_,trivial⟩⟩
           . show V.own 4 _ (zn _ i ++ [.str (⟨#[36]⟩ ++ ((gD (o.f 2).l i).f 0).s ++ ⟨#[58,32]⟩ ++ bs (refB (tx (((gD (o.f 2).l i).f 1).f 0).s) (((gD (o.f 2).l i).f 1).f 1).l) ++ (⟨#[32,61,32]⟩ ++ bs (valT K ((gD (o.f 2).l i).f 3))))]) = _
             rw [zq,varT,if_pos hhas,<- zj,<- zj,<- zj,<- zj,<- zj,zDa]; rfl
           . show some (Res.tok _ ((zn _ i).length + 1)) = _
             rw [zq,List.length_append]; rfl
         . have hhas : ¬ ((gD (o.f 2).l i).f 2).b = true:=by
            have : ((gD (o.f 2).l i).f 2).b = false:=hb
            rw [this]; decide
           refine zH (j':=j - 1) (by omega) ⟨i + 1,by omega,Sub.live ⟨rfl,?_,rfl,rfl,rfl,trivial⟩ ⟨?_,trivial⟩⟩
           . show V.own 4 _ (zn _ i ++ [.str (⟨#[36]⟩ ++ ((gD (o.f 2).l i).f 0).s ++ ⟨#[58,32]⟩ ++ bs (refB (tx (((gD (o.f 2).l i).f 1).f 0).s) (((gD (o.f 2).l i).f 1).f 1).l))]) = _
             rw [zq,varT,if_neg hhas,List.append_nil,<- zj,<- zj,<- zj,zDa]; rfl
           . show some (Res.tok _ ((zn _ i).length + 1)) = _
             rw [zq,List.length_append]; rfl
         all_goals
          rename_i h0
          have:=zGZ h0
          omega
       . have hno : decide ((i : Int) < ((o.f 2).l.length : Int)) = true -> False:=fun h => hi (zA1 h)
         have e : i = (o.f 2).l.length:=by omega
         repeat' (first
|exact (hno ‹_›).elim
|refine zA ?_
|refine zB ?_
|refine zK ?_
|apply aw_1
 conv => whnf
 refine ⟨?_,trivial⟩
|apply s_1
 conv => whnf; arg 1; arg 4; arg 3; whnf
 refine ⟨?_,?_⟩
|apply zd rfl
 . conv => lhs; whnf
 . conv => lhs; whnf
 . first | exact hv ‹_› | exact hr ‹_› | exact hj2 ‹_›
|refine zP (by conv => lhs; whnf) ?_ ?_ <;> intro hb
|refine zI ?_
|refine zE rfl ?_
|refine zF ?_
|refine zC ?_
|refine ⟨_,by conv => lhs; whnf; arg 2; whnf,?_⟩; conv => rhs; whnf
|exact trivial)
         all_goals first
          | ((simp only [ByteArray.size_append,zg,z7,List.size_toArray,List.length_append,List.length_cons,List.length_nil,maxLen,Nat.reduceAdd,Int.toNat_natCast]; omega); done)
          | skip
         . have hp : ¬ (o.f 2).l.length = 0:=by rw [htk] at hb; have:=of_decide_eq_true hb; omega
           refine str_eq ?_
           rw [opT,if_neg hc,if_neg hp,<- zCs]
           simp only [zAY,zD6,List.append_assoc]; rfl
         . have hp : (o.f 2).l.length = 0:=by rw [htk] at hb; have:=of_decide_eq_false hb; omega
           refine str_eq ?_
           rw [opT,if_neg hc,if_pos hp,<- zCs,List.append_nil]
           simp only [zAY,zD6,List.append_assoc]; rfl
end Go.Proofs.YthjiclhfhjdjpaaGreatDoor
namespace Go.Proofs.YthjiclhfhjdjpaaGreatDoor
open Go.RowKit
attribute [local irreducible] wpList Calls Code.wp AW AWo OpOk seqK zx zAI loopK endK AC zm Yld Sub
attribute [local irreducible] ACB absLexG YldG
def zDb (K F : Nat) (first : List UInt8) (l : List D) : List UInt8:=zAk 0 first ++ selsT K F 1 l ++ zAk 0 [125]
def opB (K F : Nat) (o : D) : List UInt8:=zDb K F (opT K o) (o.f 3).l
def zEp (fr : D) : List UInt8:=[102,114,97,103,109,101,110,116,32] ++ tx (fr.f 0).s ++ [32,111,110,32] ++ tx (fr.f 1).s ++ [32,123]
def zCT (K F : Nat) (fr : D) : List UInt8:=zDb K F (zEp fr) (fr.f 2).l
def docT (K F : Nat) (q : D) : List UInt8:=Lib.join ((q.f 0).l.map (opB K F) ++ (q.f 1).l.map (zCT K F)) [10]
structure DocOk (K f : Nat) (q : D) : Prop where
 wide : wideD q
 bulk : bulkD q <= 1048576
 deep : f <= 299
 vars : ∀ i,i < (q.f 0).l.length -> VarsOk K ((gD (q.f 0).l i).f 2).l
 sels : ∀ i,i < (q.f 0).l.length -> SelsOk K (f + 1) ((gD (q.f 0).l i).f 3).l
 frag : ∀ i,i < (q.f 1).l.length -> SelsOk K (f + 1) ((gD (q.f 1).l i).f 2).l
theorem zDx (K f : Nat) (first : List UInt8) (l : List D) (hw : ∀ i,wideD (gD l i)) (hf : f <= 299) : (zDb K (f + 1) first l).length <= first.length + 1274 * bulkL l + 3:=by
 have h:=zDM K (f + 1) 1 l hw
 have h2 : (4 * (1 + (f + 1)) + 70) * bulkL l <= 1274 * bulkL l:=Nat.mul_le_mul_right _ (by omega)
 simp only [zDb,List.length_append,zAJ,List.length_cons,List.length_nil]
 omega
theorem opT_len (K : Nat) (o : D) (h : wideD o) : (opT K o).length <= 18 + (o.f 1).s.size + 40 * bulkL (o.f 2).l:=by
 have h1:=zGf (o.f 0).n
 have h2:=zAG (o.f 1).s
 have h3:=zGk K (o.f 2).l fun i => (h.f 2).l i
 unfold opT
 split
 . simp; omega
 . split <;> split <;> simp only [List.length_append,List.length_cons,List.length_nil] <;> omega
theorem opB_len (K f : Nat) (o : D) (h : wideD o) (hf : f <= 299) : (opB K (f + 1) o).length + 1 <= 1274 * bulkD o:=by
 have h1:=opT_len K o h
 have h2:=zDx K f (opT K o) (o.f 3).l (fun i => (h.f 3).l i) hf
 have h3:=zAL o 4
 have h4:=z8 (o.f 1)
 have h5:=zi (o.f 2)
 have h6:=zi (o.f 3)
 have h7:=zZ o
 simp only [sumN] at h3
 unfold opB
 omega
theorem fragB_len (K f : Nat) (o : D) (h : wideD o) (hf : f <= 299) : (zCT K (f + 1) o).length + 1 <= 1274 * bulkD o:=by
 have h2:=zDx K f (zEp o) (o.f 2).l (fun i => (h.f 2).l i) hf
 have h3:=zAL o 3
 have h4:=z8 (o.f 0)
 have h5:=z8 (o.f 1)
 have h6:=zi (o.f 2)
 have h7:=zZ o
 have h8:=zAG (o.f 0).s
 have h9:=zAG (o.f 1).s
 have h1 : (zEp o).length = 15 + (o.f 0).s.size + (o.f 1).s.size:=by simp only [zEp,List.length_append,List.length_cons,List.length_nil]; omega
 simp only [sumN] at h3
 unfold zCT
 omega
theorem zIV (a b : List (List UInt8)) (sep : List UInt8) : (Lib.join (a ++ b) sep).length <= (a.map fun l => l.length + sep.length).sum + (b.map fun l => l.length + sep.length).sum:=by
 refine Nat.le_trans (join_le sep _) ?_
 rw [List.map_append,List.sum_append]
 exact Nat.le_refl _
theorem zFG (l : List D) (f : D -> List UInt8) (s c : Nat) (h : ∀ i,i < l.length -> (f (gD l i)).length + s <= c * bulkD (gD l i)) : ((l.map f).map fun t => t.length + s).sum <= c * bulkL l:=by
 induction l with
 | nil => simp
 | cons x r ih =>
   have h0:=h 0 (by simp)
   have h1:=ih fun i hi => h (i + 1) (by simpa using hi)
   simp only [List.map_cons,List.sum_cons,bulkL,Nat.mul_add]
   have e : gD (x :: r) 0 = x:=rfl
   rw [e] at h0
   omega
theorem docT_len (K f : Nat) (q : D) (h : wideD q) (hf : f <= 299) : (docT K (f + 1) q).length <= 1274 * bulkD q:=by
 have h1:=zIV ((q.f 0).l.map (opB K (f + 1))) ((q.f 1).l.map (zCT K (f + 1))) [10]
 have h2:=zFG (q.f 0).l (opB K (f + 1)) 1 1274 fun i _ => opB_len K f _ ((h.f 0).l i) hf
 have h3:=zFG (q.f 1).l (zCT K (f + 1)) 1 1274 fun i _ => fragB_len K f _ ((h.f 1).l i) hf
 have h4:=zAL q 2
 have h5:=zi (q.f 0)
 have h6:=zi (q.f 1)
 have h7:=zZ q
 simp only [sumN] at h4
 unfold docT
 simp only [List.length_cons,List.length_nil,Nat.zero_add] at h1
 omega
theorem zJ2 (K f : Nat) (first : List UInt8) (l : List D) (h : SelsOk K (f + 1) l) (hw : ∀ i,wideD (gD l i)) (hb : bulkL l <= 1048576) (hf : f <= 299) (hs : first.length <= 100000000) :
 AC EN Tryz.prog 57 [.c (.string (bs first)),.sl 76 l] (.c (.string (bs (zDb K (f + 1) first l)))):=by
 have h1:=zDM K (f + 1) 1 l hw
 have h2 : (4 * (1 + (f + 1)) + 70) * bulkL l <= 1274 * 1048576:=Nat.mul_le_mul (by omega) hb
 have l0 : ACB EN Tryz.prog 115 [.bx (pn 0) 0,.c (.int .i64 0),.c (.string (bs first))] [.bld 110 5 []] (.tup []) [.bld 110 5 (zAk 0 first)]:=
  zCf [] 0 (bs first) (by omega) (by rw [zg]; omega) (by simp)
 have l1 : ACB EN Tryz.prog 55 [.bx (pn 0) 0,.sl 76 l,.c (.int .i64 1)] [.bld 110 5 (zAk 0 first)] (.tup []) [.bld 110 5 (zAk 0 first ++ selsT K (f + 1) 1 l)]:=
  zJB K f 1 l (zAk 0 first) h hw hb (by omega) (by rw [zAJ]; omega)
 have l2 : ACB EN Tryz.prog 115 [.bx (pn 0) 0,.c (.int .i64 0),.c (.string ⟨#[125]⟩)] [.bld 110 5 (zAk 0 first ++ selsT K (f + 1) 1 l)] (.tup []) [.bld 110 5 (zDb K (f + 1) first l)]:=
  zCf (zAk 0 first ++ selsT K (f + 1) 1 l) 0 ⟨#[125]⟩ (by omega) (by decide) (by rw [List.length_append,zAJ]; omega)
 have hl:=zDx K f first l hw hf
 refine zG 13 Tryz.func57 rfl rfl rfl rfl ?_
 intro s w he
 repeat' (first
|apply zJF rfl
 . conv => lhs; whnf
 . conv => lhs; whnf
 . rfl
 . rfl
 . first | exact l0
 . rfl
 . exact fun _ => rfl
 . exact fun _ => rfl
|apply zF2 rfl
 . conv => lhs; whnf
 . conv => lhs; whnf
 . rfl
 . conv => lhs; whnf; arg 1; whnf
 . first | exact l1 | exact l2
 . exact fun _ => rfl
 . exact fun _ => rfl
|apply s_bs rfl
 . conv => lhs; whnf
 . conv => lhs; whnf
 . rfl
 . conv => lhs; whnf; arg 1; whnf
 . exact ⟨rfl,rfl⟩
 . rfl
|refine zA ?_
|refine zB ?_
|refine zK ?_
|apply aw_1
 conv => whnf
 refine ⟨?_,trivial⟩
|apply s_1
 conv => whnf; arg 1; arg 4; arg 3; whnf
 refine ⟨?_,?_⟩
|refine zC ?_
|refine ⟨_,by conv => lhs; whnf; arg 2; whnf,?_⟩; conv => rhs; whnf
|exact trivial)
 all_goals (unfold maxLen; omega)
end Go.Proofs.YthjiclhfhjdjpaaGreatDoor
namespace Go.Proofs.YthjiclhfhjdjpaaGreatDoor
open Go.RowKit
set_option linter.unusedSectionVars false
attribute [local irreducible] wpList Calls Code.wp AW AWo OpOk seqK zx zAI loopK endK AC zm Yld Sub
attribute [local irreducible] ACB ACX ACE absLexG YldG absLexH
def wgA (most : Int) (l : List D) : Nat -> Nat -> Int -> Int
 | 0,_,n => n
 | j + 1,i,n => if n <= most then wgA most l j (i + 1) (n + (sizeR (bulkD ((gD l i).f 1)) ((gD l i).f 1) : Int)) else n
def wgS (rec : List D -> Int -> Int) (most : Int) (l : List D) : Nat -> Nat -> Int -> Int
 | 0,_,n => n
 | j + 1,i,n => if n <= most then wgS rec most l j (i + 1) (wgA most ((gD l i).f 4).l ((gD l i).f 4).l.length 0 (n + 1 + (((gD l i).f 4).l.length : Int) + (((gD l i).f 5).l.length : Int)) + rec ((gD l i).f 6).l (most - wgA most ((gD l i).f 4).l ((gD l i).f 4).l.length 0 (n + 1 + (((gD l i).f 4).l.length : Int) + (((gD l i).f 5).l.length : Int)))) else n
def wg : Nat -> List D -> Int -> Int
 | 0,_,_ => 0
 | k + 1,l,most => wgS (wg k) most l l.length 0 0
def bA (l : List D) (i : Nat) : Nat:=sumN (fun m => bulkD (gD l m)) i
theorem zE3 (l : List D) (i : Nat) : bA l (i + 1) = bA l i + bulkD (gD l i):=rfl
theorem bA_le {l : List D} {i : Nat} (h : i <= l.length) : bA l i <= bulkL l:=by
 rw [zAl]
 exact zAU _ h
theorem val_le (a : D) : sizeR (bulkD (a.f 1)) (a.f 1) <= bulkD a:=by
 have h1:=zFy (bulkD (a.f 1)) (a.f 1)
 have h2:=wD_f a 1
 have h3:=zZ a
 have h4:=zZ (a.f 1)
 omega
theorem zEP (most : Int) (l : List D) : ∀ (j i : Nat) (n : Int),n <= wgA most l j i n /\ wgA most l j i n <= n + ((bA l (i + j) : Nat) : Int) - ((bA l i : Nat) : Int)
 | 0,i,n => by simp only [wgA,Nat.add_zero]; omega
 | j + 1,i,n => by
   have ih:=zEP most l j (i + 1) (n + (sizeR (bulkD ((gD l i).f 1)) ((gD l i).f 1) : Int))
   have h1:=val_le (gD l i)
   have h2:=zE3 l i
   have h3:=zAU (fun m => bulkD (gD l m)) (show i <= i + (j + 1) by omega)
   have h4 : bA l i <= bA l (i + (j + 1)):=h3
   rw [show i + 1 + j = i + (j + 1) by omega] at ih
   unfold wgA
   split <;> omega
theorem zG2 (s : D) : 1 + bulkL (s.f 4).l + bulkL (s.f 5).l + bulkL (s.f 6).l <= bulkD s:=by
 have hf:=zAL s 7
 simp only [sumN] at hf
 have h4:=zi (s.f 4)
 have h5:=zi (s.f 5)
 have h6:=zi (s.f 6)
 have h7:=zZ s
 omega
theorem sel_own (most : Int) (s : D) (n : Int) : n <= wgA most (s.f 4).l (s.f 4).l.length 0 (n + 1 + ((s.f 4).l.length : Int) + ((s.f 5).l.length : Int)) /\
 wgA most (s.f 4).l (s.f 4).l.length 0 (n + 1 + ((s.f 4).l.length : Int) + ((s.f 5).l.length : Int)) + 2 * (bulkL (s.f 6).l : Int) <= n + 2 * (bulkD s : Int):=by
 have h1:=zEP most (s.f 4).l (s.f 4).l.length 0 (n + 1 + ((s.f 4).l.length : Int) + ((s.f 5).l.length : Int))
 have h2:=zG2 s
 have h3:=zt (s.f 4).l
 have h4:=zt (s.f 5).l
 have h5:=bA_le (l:=(s.f 4).l) (i:=0 + (s.f 4).l.length) (by omega)
 omega
theorem zGj {rec : List D -> Int -> Int} {most : Int} (hrec : ∀ l m,0 <= rec l m /\ rec l m <= 2 * (bulkL l : Int)) (l : List D) : ∀ (j i : Nat) (n : Int),n <= wgS rec most l j i n /\ wgS rec most l j i n <= n + 2 * ((bA l (i + j) : Nat) : Int) - 2 * ((bA l i : Nat) : Int)
 | 0,i,n => by simp only [wgS,Nat.add_zero]; omega
 | j + 1,i,n => by
   have h1:=sel_own most (gD l i) n
   have h2:=hrec ((gD l i).f 6).l (most - wgA most ((gD l i).f 4).l ((gD l i).f 4).l.length 0 (n + 1 + (((gD l i).f 4).l.length : Int) + (((gD l i).f 5).l.length : Int)))
   have ih:=zGj (most:=most) hrec l j (i + 1) (wgA most ((gD l i).f 4).l ((gD l i).f 4).l.length 0 (n + 1 + (((gD l i).f 4).l.length : Int) + (((gD l i).f 5).l.length : Int)) + rec ((gD l i).f 6).l (most - wgA most ((gD l i).f 4).l ((gD l i).f 4).l.length 0 (n + 1 + (((gD l i).f 4).l.length : Int) + (((gD l i).f 5).l.length : Int))))
   have h3:=zE3 l i
   have h4 : bA l i <= bA l (i + (j + 1)):=zAU (fun m => bulkD (gD l m)) (show i <= i + (j + 1) by omega)
   rw [show i + 1 + j = i + (j + 1) by omega] at ih
   unfold wgS
   split <;> omega
theorem zDE : ∀ (k : Nat) (l : List D) (most : Int),0 <= wg k l most /\ wg k l most <= 2 * (bulkL l : Int)
 | 0,l,most => by simp only [wg]; omega
 | k + 1,l,most => by
   have h:=zGj (most:=most) (fun l m => zDE k l m) l l.length 0 0
   have h2:=bA_le (l:=l) (i:=0 + l.length) (by omega)
   unfold wg
   omega
noncomputable def HWo (l : List D) (most n : Int) (i : Nat) : Vst 74:=stS 74 [(0,.sl 76 l),(1,.c (.int .i64 most)),(5,.c (.int .i64 n)),(6,.c (.int .i64 (i : Int)))] []
noncomputable def HWj (l : List D) (most n : Int) (i k : Nat) : Vst 74:=stS 74 [(0,.sl 76 l),(1,.c (.int .i64 most)),(5,.c (.int .i64 n)),(6,.c (.int .i64 (i : Int))),(7,.c (.int .i64 (k : Int)))] []
theorem gt_of {b : Bool} (h : b = true) : (b == true) = true:=by rw [h]; rfl
theorem gf_of {b : Bool} (h : b = false) : (b == true) = false:=by rw [h]; rfl
theorem zFl : ∀ (k : Nat) (l : List D) (most : Int),bulkL l < k -> bulkL l <= 1000000000 -> most <= 600 -> -(4000000000000 : Int) <= most - 2 * (bulkL l : Int) ->
 AC EN Tryz.prog 61 [.sl 76 l,.c (.int .i64 most)] (.c (.int .i64 (wg k l most)))
 | 0,_,_,h,_,_,_ => by omega
 | k + 1,l,most,h,hw,hhi,hlo => by
   have hlen:=zt l
   have hR : wgS (wg k) most l l.length 0 0 = wg (k + 1) l most:=rfl
   generalize wg (k + 1) l most = R at hR |-
   refine zG 74 Tryz.func61 rfl rfl rfl rfl ?_
   intro s w he
   repeat' (first
|refine zA ?_
|refine zB ?_
|refine zK ?_
|apply aw_1
 conv => whnf
 refine ⟨?_,trivial⟩
|apply s_1
 conv => whnf; arg 1; arg 4; arg 3; whnf
 refine ⟨?_,?_⟩
|exact trivial)
   refine zV (fun j st => ∃ i n,i + j = l.length /\ wgS (wg k) most l j i n = R /\ 0 <= n /\ n <= 2 * ((bA l i : Nat) : Int) /\ Sub (cx EN Tryz.prog s w he) st (HWo l most n i)) l.length ⟨0,0,by omega,hR,Int.le_refl _,by simp [bA,sumN],Sub.live ⟨rfl,rfl,rfl,rfl,trivial⟩ trivial⟩ ?_
   clear hR
   rintro j st ⟨i,n,hij,hR,hn0,hn1,hs2⟩
   refine zW hs2 ?_
   clear hs2
   have hbi:=bA_le (l:=l) (i:=i) (by omega)
   by_cases hi : i < l.length
   rotate_left 1
   . have f0 : decide ((i : Int) < (l.length : Nat)) = false:=decide_eq_false (by omega)
     have g0:=gf_of f0
     obtain rfl : j = 0:=by omega
     repeat' (first
|refine zA ?_
|refine zB ?_
|refine zK ?_
|apply aw_1
 conv => whnf
 refine ⟨?_,trivial⟩
|apply zR rfl rfl
 . conv => lhs; whnf
 . conv => lhs; whnf
 . first | exact bF1 ‹_› | exact bF2 ‹_›
|apply s_1
 conv => whnf; arg 1; arg 4; arg 3; whnf
 refine ⟨?_,?_⟩
|apply ze rfl
 . conv => lhs; whnf
 . conv => lhs; whnf
 . first | rfl | assumption
|refine zI ?_
|refine zE rfl ?_
|refine zF ?_
|refine zC ?_
|refine ⟨_,by conv => lhs; whnf; arg 2; whnf,?_⟩; conv => rhs; whnf
|exact trivial)
     all_goals first
      | exact zT (by omega)
      | exact zT (by simp only [Int.toNat_natCast,Nat.zero_add,Nat.reduceAdd]; omega)
      | (rw [<- hR]; rfl)
   have f0 : decide ((i : Int) < (l.length : Nat)) = true:=decide_eq_true (by omega)
   have g0:=gt_of f0
   obtain ⟨j,rfl⟩ : ∃ q,j = q + 1:=⟨j - 1,by omega⟩
   by_cases hm : n <= most
   rotate_left 1
   . have f1 : decide (n <= most) = false:=decide_eq_false hm
     repeat' (first
|apply zL
 . conv => lhs; whnf
 . assumption
|refine zA ?_
|refine zB ?_
|refine zK ?_
|apply aw_1
 conv => whnf
 refine ⟨?_,trivial⟩
|apply zX rfl rfl
 . conv => lhs; whnf
 . conv => lhs; whnf
 . first | exact bT1 ‹_› | exact bT2 ‹_›
|apply s_1
 conv => whnf; arg 1; arg 4; arg 3; whnf
 refine ⟨?_,?_⟩
|apply zD rfl
 . conv => lhs; whnf
 . conv => lhs; whnf
 . first | rfl | assumption
 . conv => lhs; whnf; arg 2; whnf
|refine zI ?_
|refine zE rfl ?_
|refine zF ?_
|refine zC ?_
|refine ⟨_,by conv => lhs; whnf; arg 2; whnf,?_⟩; conv => rhs; whnf
|exact trivial)
     all_goals first
      | exact zT (by omega)
      | exact zT (by simp only [Int.toNat_natCast,Nat.zero_add,Nat.reduceAdd]; omega)
      | (rw [<- hR]; unfold wgS; rw [if_neg hm])
   have f1 : decide (n <= most) = true:=decide_eq_true hm
   unfold wgS at hR
   rw [if_pos hm] at hR
   have hown:=sel_own most (gD l i) n
   have hbs:=zE3 l i
   have hbi2:=bA_le (l:=l) (i:=i + 1) (by omega)
   have hpt:=zG2 (gD l i)
   have hl4:=zt ((gD l i).f 4).l
   have hl5:=zt ((gD l i).f 5).l
   have hget:=zk hi
   have ih:=zFl k ((gD l i).f 6).l (most - wgA most ((gD l i).f 4).l ((gD l i).f 4).l.length 0 (n + 1 + (((gD l i).f 4).l.length : Int) + (((gD l i).f 5).l.length : Int))) (by omega) (by omega) (by omega) (by omega)
   have hwr:=zDE k ((gD l i).f 6).l (most - wgA most ((gD l i).f 4).l ((gD l i).f 4).l.length 0 (n + 1 + (((gD l i).f 4).l.length : Int) + (((gD l i).f 5).l.length : Int)))
   generalize hN : wgA most ((gD l i).f 4).l ((gD l i).f 4).l.length 0 (n + 1 + (((gD l i).f 4).l.length : Int) + (((gD l i).f 5).l.length : Int)) = N at *
   repeat' (first
|apply zU
 . conv => lhs; whnf
 . assumption
|refine zA ?_
|refine zB ?_
|refine zK ?_
|apply aw_1
 conv => whnf
 refine ⟨?_,trivial⟩
|apply zX rfl rfl
 . conv => lhs; whnf
 . conv => lhs; whnf
 . first | exact bT1 ‹_› | exact bT2 ‹_›
|apply s_1
 conv => whnf; arg 1; arg 4; arg 3; whnf
 refine ⟨?_,?_⟩
|apply zD rfl
 . conv => lhs; whnf
 . conv => lhs; whnf
 . first | rfl | assumption
 . conv => lhs; whnf; arg 2; whnf
|apply zAb (by kernel_rfl) (by kernel_rfl)
|apply zCE
|apply zCD rfl
 . conv => lhs; whnf
 . conv => lhs; whnf; arg 2; whnf
|exact zr
|exact zAQ
|exact (1000000 : Nat)
|exact trivial)
   all_goals first
    | exact zT (by omega)
    | exact zT (by simp only [Int.toNat_natCast,Nat.zero_add,Nat.reduceAdd]; omega)
    | exact zAm hi
    | skip
   refine zV (fun j2 st => ∃ q n2,q + j2 = ((gD l i).f 4).l.length /\ wgA most ((gD l i).f 4).l j2 q n2 = N /\ n <= n2 /\ Sub (cx EN Tryz.prog s w he) st (HWj l most n2 i q)) ((gD l i).f 4).l.length ⟨0,n + 1 + (((gD l i).f 4).l.length : Int) + (((gD l i).f 5).l.length : Int),by omega,hN,by omega,Sub.live ⟨rfl,rfl,rfl,rfl,rfl,trivial⟩ trivial⟩ ?_
   clear hN
   rintro j2 st2 ⟨q,n2,hqj,hN,hn2,hs3⟩
   refine zW hs3 ?_
   clear hs3
   have hrg:=zEP most ((gD l i).f 4).l j2 q n2
   rw [hN] at hrg
   by_cases hq : q < ((gD l i).f 4).l.length
   rotate_left 1
   . have f2 : decide ((q : Int) < (((gD l i).f 4).l.length : Nat)) = false:=decide_eq_false (by omega)
     have g2:=gf_of f2
     obtain rfl : j2 = 0:=by omega
     have e : n2 = N:=hN
     subst e
     repeat' (first
|refine zA ?_
|refine zB ?_
|refine zK ?_
|refine zb ?_
|apply aw_1
 conv => whnf
 refine ⟨?_,trivial⟩
|apply zR rfl rfl
 . conv => lhs; whnf
 . conv => lhs; whnf
 . first | exact bF1 ‹_› | exact bF2 ‹_›
|apply s_1
 conv => whnf; arg 1; arg 4; arg 3; whnf
 refine ⟨?_,?_⟩
|apply zd rfl
 . conv => lhs; whnf
 . conv => lhs; whnf
 . first | exact ih
|apply ze rfl
 . conv => lhs; whnf
 . conv => lhs; whnf
 . first | rfl | assumption
|refine zI ?_
|refine zE rfl ?_
|refine zF ?_
|exact trivial)
     all_goals first
      | exact zT (by omega)
      | exact zT (by simp only [Int.toNat_natCast,Nat.zero_add,Nat.reduceAdd]; omega)
      | exact zAm hi
      | exact zH (Nat.lt_succ_self j) ⟨i + 1,_,by omega,hR,by omega,by omega,Sub.live ⟨rfl,rfl,rfl,rfl,trivial⟩ trivial⟩
   have f2 : decide ((q : Int) < (((gD l i).f 4).l.length : Nat)) = true:=decide_eq_true (by omega)
   have g2:=gt_of f2
   obtain ⟨j2,rfl⟩ : ∃ z,j2 = z + 1:=⟨j2 - 1,by omega⟩
   by_cases hm2 : n2 <= most
   rotate_left 1
   . have f3 : decide (n2 <= most) = false:=decide_eq_false hm2
     have e : n2 = N:=by rw [<- hN]; unfold wgA; rw [if_neg hm2]
     subst e
     repeat' (first
|apply zL
 . conv => lhs; whnf
 . assumption
|refine zA ?_
|refine zB ?_
|refine zK ?_
|refine zb ?_
|apply aw_1
 conv => whnf
 refine ⟨?_,trivial⟩
|apply zX rfl rfl
 . conv => lhs; whnf
 . conv => lhs; whnf
 . first | exact bT1 ‹_› | exact bT2 ‹_›
|apply s_1
 conv => whnf; arg 1; arg 4; arg 3; whnf
 refine ⟨?_,?_⟩
|apply zd rfl
 . conv => lhs; whnf
 . conv => lhs; whnf
 . first | exact ih
|apply zD rfl
 . conv => lhs; whnf
 . conv => lhs; whnf
 . first | rfl | assumption
 . conv => lhs; whnf; arg 2; whnf
|refine zI ?_
|refine zE rfl ?_
|refine zF ?_
|exact trivial)
     all_goals first
      | exact zT (by omega)
      | exact zT (by simp only [Int.toNat_natCast,Nat.zero_add,Nat.reduceAdd]; omega)
      | exact zAm hi
      | exact zH (Nat.lt_succ_self j) ⟨i + 1,_,by omega,hR,by omega,by omega,Sub.live ⟨rfl,rfl,rfl,rfl,trivial⟩ trivial⟩
   have f3 : decide (n2 <= most) = true:=decide_eq_true hm2
   unfold wgA at hN
   rw [if_pos hm2] at hN
   have hga:=zk hq
   have hvl:=val_le (gD ((gD l i).f 4).l q)
   have hb1:=zZ ((gD ((gD l i).f 4).l q).f 1)
   have hb2:=wD_f (gD ((gD l i).f 4).l q) 1
   have hb3:=zZ (gD ((gD l i).f 4).l q)
   have hsz:=zFz (bulkD ((gD ((gD l i).f 4).l q).f 1)) ((gD ((gD l i).f 4).l q).f 1) (zBh _ _ (Nat.le_refl _)) (by omega)
   repeat' (first
|apply zU
 . conv => lhs; whnf
 . assumption
|refine zA ?_
|refine zB ?_
|refine zK ?_
|refine zb ?_
|apply aw_1
 conv => whnf
 refine ⟨?_,trivial⟩
|apply zX rfl rfl
 . conv => lhs; whnf
 . conv => lhs; whnf
 . first | exact bT1 ‹_› | exact bT2 ‹_›
|apply s_1
 conv => whnf; arg 1; arg 4; arg 3; whnf
 refine ⟨?_,?_⟩
|apply zd rfl
 . conv => lhs; whnf
 . conv => lhs; whnf
 . first | exact hsz
|apply zD rfl
 . conv => lhs; whnf
 . conv => lhs; whnf
 . first | rfl | assumption
 . conv => lhs; whnf; arg 2; whnf
|exact trivial)
   all_goals first
    | exact zT (by omega)
    | exact zT (by simp only [Int.toNat_natCast,Nat.zero_add,Nat.reduceAdd]; omega)
    | exact zAm hi
    | exact zAm hq
    | exact zH (Nat.lt_succ_self j2) ⟨q + 1,_,by omega,hN,by omega,Sub.live ⟨rfl,rfl,rfl,rfl,rfl,trivial⟩ trivial⟩
def lgO (l : List D) : Nat -> Nat -> Int -> Int
 | 0,_,n => n
 | j + 1,i,n => if n <= 600 then lgO l j (i + 1) (n + (((gD l i).f 2).l.length : Int) + wg (bulkL ((gD l i).f 3).l + 1) ((gD l i).f 3).l 600) else n
def lgF (l : List D) : Nat -> Nat -> Int -> Int
 | 0,_,n => n
 | j + 1,i,n => if n <= 600 then lgF l j (i + 1) (n + wg (bulkL ((gD l i).f 2).l + 1) ((gD l i).f 2).l 600) else n
def zJW (a b : List D) : Bool:=decide (lgF b b.length 0 (lgO a a.length 0 ((a.length : Int) + (b.length : Int))) > 600)
theorem zJO (o : D) : ((o.f 2).l.length : Int) + 2 * (bulkL (o.f 3).l : Int) <= 2 * (bulkD o : Int):=by
 have hf:=zAL o 4
 simp only [sumN] at hf
 have h4:=zi (o.f 2)
 have h5:=zi (o.f 3)
 have h7:=zZ o
 have h8:=zt (o.f 2).l
 omega
theorem frag_parts (o : D) : 2 * (bulkL (o.f 2).l : Int) <= 2 * (bulkD o : Int):=by
 have hf:=wD_f o 2
 have h5:=zi (o.f 2)
 have h7:=zZ o
 omega
theorem zEh (l : List D) : ∀ (j i : Nat) (n : Int),n <= lgO l j i n /\ lgO l j i n <= n + 2 * ((bA l (i + j) : Nat) : Int) - 2 * ((bA l i : Nat) : Int)
 | 0,i,n => by simp only [lgO,Nat.add_zero]; omega
 | j + 1,i,n => by
   have ih:=zEh l j (i + 1) (n + (((gD l i).f 2).l.length : Int) + wg (bulkL ((gD l i).f 3).l + 1) ((gD l i).f 3).l 600)
   have h1:=zJO (gD l i)
   have h2:=zDE (bulkL ((gD l i).f 3).l + 1) ((gD l i).f 3).l 600
   have h3:=zE3 l i
   have h4 : bA l i <= bA l (i + (j + 1)):=zAU (fun m => bulkD (gD l m)) (show i <= i + (j + 1) by omega)
   rw [show i + 1 + j = i + (j + 1) by omega] at ih
   unfold lgO
   split <;> omega
noncomputable def HLo (a b : List D) (n : Int) (i : Nat) : Vst 63:=stS 63 [(1,.bx 1 0),(3,.c (.int .i64 n)),(4,.c (.int .i64 (i : Int)))] [(1,.box 41 [.sl 57 a,.sl 116 b])]
noncomputable def HLf (a b : List D) (n : Int) (i : Nat) : Vst 63:=stS 63 [(1,.bx 1 0),(3,.c (.int .i64 n)),(5,.c (.int .i64 (i : Int)))] [(1,.box 41 [.sl 57 a,.sl 116 b])]
theorem large_ac (a b : List D) (hwa : bulkL a <= 1000000000) (hwb : bulkL b <= 1000000000) : AC EN Tryz.prog 30 [.agg [.sl 57 a,.sl 116 b]] (.c (.bool (zJW a b))):=by
 have hla:=zt a
 have hlb:=zt b
 have hA:=zEh a a.length 0 ((a.length : Int) + (b.length : Int))
 have hA2:=bA_le (l:=a) (i:=0 + a.length) (by omega)
 unfold zJW
 generalize hR : lgO a a.length 0 ((a.length : Int) + (b.length : Int)) = R at *
 refine zG 63 Tryz.func30 rfl rfl rfl rfl ?_
 intro s w he
 repeat' (first
|refine zA ?_
|refine zB ?_
|refine zK ?_
|apply aw_1
 conv => whnf
 refine ⟨?_,trivial⟩
|apply s_1
 conv => whnf; arg 1; arg 4; arg 3; whnf
 refine ⟨?_,?_⟩
|apply zAC rfl rfl rfl rfl
 . conv => lhs; whnf; arg 1; whnf
 . rfl
|exact trivial)
 all_goals first
  | exact zT (by omega)
  | exact zT (by simp only [Int.toNat_natCast,Nat.zero_add,Nat.reduceAdd]; omega)
  | skip
 refine zV (fun j st => ∃ i n,i + j = a.length /\ lgO a j i n = R /\ 0 <= n /\ n <= R /\ Sub (cx EN Tryz.prog s w he) st (HLo a b n i)) a.length ⟨0,(a.length : Int) + (b.length : Int),by omega,hR,by omega,by omega,Sub.live ⟨rfl,rfl,rfl,trivial⟩ ⟨rfl,trivial⟩⟩ ?_
 clear hR
 rintro j st ⟨i,n,hij,hR,hn0,hn1,hs2⟩
 refine zW hs2 ?_
 clear hs2
 -- behind the operations
 have hend : n = R -> ∀ st,Sub (cx EN Tryz.prog s w he) st (HLo a b R i) -> Sub (cx EN Tryz.prog s w he) st (HLo a b R i):=fun _ _ h => h
 by_cases hi : i < a.length /\ n <= 600
 . obtain ⟨hi,hm⟩:=hi
   have f0 : decide ((i : Int) < (a.length : Nat)) = true:=decide_eq_true (by omega)
   have g0:=gt_of f0
   have f1 : decide (n <= 600) = true:=decide_eq_true hm
   obtain ⟨j,rfl⟩ : ∃ q,j = q + 1:=⟨j - 1,by omega⟩
   unfold lgO at hR
   rw [if_pos hm] at hR
   have hget:=zk hi
   have hpt:=zJO (gD a i)
   have hwr:=zDE (bulkL ((gD a i).f 3).l + 1) ((gD a i).f 3).l 600
   have hrg:=zEh a j (i + 1) (n + (((gD a i).f 2).l.length : Int) + wg (bulkL ((gD a i).f 3).l + 1) ((gD a i).f 3).l 600)
   rw [hR] at hrg
   have hW:=zFl (bulkL ((gD a i).f 3).l + 1) ((gD a i).f 3).l 600 (Nat.lt_succ_self _) (by omega) (by omega) (by omega)
   repeat' (first
|apply zU
 . conv => lhs; whnf
 . assumption
|refine zA ?_
|refine zB ?_
|refine zK ?_
|refine zb ?_
|apply aw_1
 conv => whnf
 refine ⟨?_,trivial⟩
|apply zX rfl rfl
 . conv => lhs; whnf
 . conv => lhs; whnf
 . first | exact bT1 ‹_› | exact bT2 ‹_›
|apply s_1
 conv => whnf; arg 1; arg 4; arg 3; whnf
 refine ⟨?_,?_⟩
|apply zD rfl
 . conv => lhs; whnf
 . conv => lhs; whnf
 . first | rfl | assumption
 . conv => lhs; whnf; arg 2; whnf
|apply zAb (by kernel_rfl) (by kernel_rfl)
|apply zCE
|apply zCD rfl
 . conv => lhs; whnf
 . conv => lhs; whnf; arg 2; whnf
|apply zDC rfl
 . conv => lhs; whnf
 . conv => lhs; whnf
 . first | exact hW
|exact zr
|exact zAQ
|exact (1000000 : Nat)
|exact trivial)
   all_goals first
    | exact zT (by omega)
    | exact zT (by simp only [Int.toNat_natCast,Nat.zero_add,Nat.reduceAdd]; omega)
    | exact zAm hi
    | exact zH (Nat.lt_succ_self j) ⟨i + 1,_,by omega,hR,by omega,by omega,Sub.live ⟨rfl,rfl,rfl,trivial⟩ ⟨rfl,trivial⟩⟩
 . have e : n = R:=by
    rw [<- hR]
    cases j with
    | zero => rfl
    | succ j => unfold lgO; rw [if_neg (fun h => hi ⟨by omega,h⟩)]
   subst e
   have hF:=fun (z : Int) => True
   by_cases hia : i < a.length
   . have hm : ¬ n <= 600:=fun h => hi ⟨hia,h⟩
     have f0 : decide ((i : Int) < (a.length : Nat)) = true:=decide_eq_true (by omega)
     have g0:=gt_of f0
     have f1 : decide (n <= 600) = false:=decide_eq_false hm
     have hL : lgF b b.length 0 n = n:=by
      cases hb : b.length with
      | zero => rfl
      | succ m => unfold lgF; rw [if_neg hm]
     rw [hL]
     repeat' (first
|apply zL
 . conv => lhs; whnf
 . assumption
|refine zA ?_
|refine zB ?_
|refine zK ?_
|apply aw_1
 conv => whnf
 refine ⟨?_,trivial⟩
|apply zX rfl rfl
 . conv => lhs; whnf
 . conv => lhs; whnf
 . first | exact bT1 ‹_› | exact bT2 ‹_›
|apply s_1
 conv => whnf; arg 1; arg 4; arg 3; whnf
 refine ⟨?_,?_⟩
|apply zD rfl
 . conv => lhs; whnf
 . conv => lhs; whnf
 . first | rfl | assumption
 . conv => lhs; whnf; arg 2; whnf
|refine zI ?_
|refine zE rfl ?_
|refine zF ?_
|exact trivial)
     all_goals first
      | exact zT (by omega)
      | exact zT (by simp only [Int.toNat_natCast,Nat.zero_add,Nat.reduceAdd]; omega)
      | skip
     by_cases hb : 0 < b.length
     . have f2 : decide ((0 : Int) < (b.length : Nat)) = true:=decide_eq_true (by omega)
       have g2:=gt_of f2
       refine zV (fun j st => Sub (cx EN Tryz.prog s w he) st (HLf a b n 0)) 0 (Sub.live ⟨rfl,rfl,rfl,trivial⟩ ⟨rfl,trivial⟩) ?_
       rintro j2 st2 hs3
       refine zW hs3 ?_
       clear hs3
       repeat' (first
|apply zL
 . conv => lhs; whnf
 . assumption
|refine zA ?_
|refine zB ?_
|refine zK ?_
|apply aw_1
 conv => whnf
 refine ⟨?_,trivial⟩
|apply zX rfl rfl
 . conv => lhs; whnf
 . conv => lhs; whnf
 . first | exact bT1 ‹_› | exact bT2 ‹_›
|apply s_1
 conv => whnf; arg 1; arg 4; arg 3; whnf
 refine ⟨?_,?_⟩
|apply zD rfl
 . conv => lhs; whnf
 . conv => lhs; whnf
 . first | rfl | assumption
 . conv => lhs; whnf; arg 2; whnf
|refine zI ?_
|refine zE rfl ?_
|refine zF ?_
|refine zC ?_
|refine ⟨_,by conv => lhs; whnf; arg 2; whnf,?_⟩; conv => rhs; whnf
|exact trivial)
       all_goals first
        | exact zT (by omega)
        | exact zT (by simp only [Int.toNat_natCast,Nat.zero_add,Nat.reduceAdd]; omega)
        | rfl
     . have f2 : decide ((0 : Int) < (b.length : Nat)) = false:=decide_eq_false (by omega)
       have g2:=gf_of f2
       refine zV (fun j st => Sub (cx EN Tryz.prog s w he) st (HLf a b n 0)) 0 (Sub.live ⟨rfl,rfl,rfl,trivial⟩ ⟨rfl,trivial⟩) ?_
       rintro j2 st2 hs3
       refine zW hs3 ?_
       clear hs3
       repeat' (first
|refine zA ?_
|refine zB ?_
|refine zK ?_
|apply aw_1
 conv => whnf
 refine ⟨?_,trivial⟩
|apply zR rfl rfl
 . conv => lhs; whnf
 . conv => lhs; whnf
 . first | exact bF1 ‹_› | exact bF2 ‹_›
|apply s_1
 conv => whnf; arg 1; arg 4; arg 3; whnf
 refine ⟨?_,?_⟩
|apply ze rfl
 . conv => lhs; whnf
 . conv => lhs; whnf
 . first | rfl | assumption
|refine zI ?_
|refine zE rfl ?_
|refine zF ?_
|refine zC ?_
|refine ⟨_,by conv => lhs; whnf; arg 2; whnf,?_⟩; conv => rhs; whnf
|exact trivial)
       all_goals first
        | exact zT (by omega)
        | exact zT (by simp only [Int.toNat_natCast,Nat.zero_add,Nat.reduceAdd]; omega)
        | rfl
   . have f0 : decide ((i : Int) < (a.length : Nat)) = false:=decide_eq_false (by omega)
     have g0:=gf_of f0
     repeat' (first
|refine zA ?_
|refine zB ?_
|refine zK ?_
|apply aw_1
 conv => whnf
 refine ⟨?_,trivial⟩
|apply zR rfl rfl
 . conv => lhs; whnf
 . conv => lhs; whnf
 . first | exact bF1 ‹_› | exact bF2 ‹_›
|apply s_1
 conv => whnf; arg 1; arg 4; arg 3; whnf
 refine ⟨?_,?_⟩
|apply ze rfl
 . conv => lhs; whnf
 . conv => lhs; whnf
 . first | rfl | assumption
|refine zI ?_
|refine zE rfl ?_
|refine zF ?_
|exact trivial)
     all_goals first
      | exact zT (by omega)
      | exact zT (by simp only [Int.toNat_natCast,Nat.zero_add,Nat.reduceAdd]; omega)
      | skip
     generalize hQ : lgF b b.length 0 n = Q
     refine zV (fun j st => ∃ i z,i + j = b.length /\ lgF b j i z = Q /\ 0 <= z /\ z <= n + 2 * ((bA b i : Nat) : Int) /\ Sub (cx EN Tryz.prog s w he) st (HLf a b z i)) b.length ⟨0,n,by omega,hQ,by omega,by simp [bA,sumN],Sub.live ⟨rfl,rfl,rfl,trivial⟩ ⟨rfl,trivial⟩⟩ ?_
     clear hQ
     rintro j2 st2 ⟨q,z,hqj,hQ,hz0,hz1,hs3⟩
     refine zW hs3 ?_
     clear hs3
     have hbq:=bA_le (l:=b) (i:=q) (by omega)
     by_cases hq : q < b.length
     rotate_left 1
     . have f2 : decide ((q : Int) < (b.length : Nat)) = false:=decide_eq_false (by omega)
       have g2:=gf_of f2
       obtain rfl : j2 = 0:=by omega
       have e : z = Q:=hQ
       subst e
       repeat' (first
|refine zA ?_
|refine zB ?_
|refine zK ?_
|apply aw_1
 conv => whnf
 refine ⟨?_,trivial⟩
|apply zR rfl rfl
 . conv => lhs; whnf
 . conv => lhs; whnf
 . first | exact bF1 ‹_› | exact bF2 ‹_›
|apply s_1
 conv => whnf; arg 1; arg 4; arg 3; whnf
 refine ⟨?_,?_⟩
|apply ze rfl
 . conv => lhs; whnf
 . conv => lhs; whnf
 . first | rfl | assumption
|refine zI ?_
|refine zE rfl ?_
|refine zF ?_
|refine zC ?_
|refine ⟨_,by conv => lhs; whnf; arg 2; whnf,?_⟩; conv => rhs; whnf
|exact trivial)
       all_goals first
        | exact zT (by omega)
        | exact zT (by simp only [Int.toNat_natCast,Nat.zero_add,Nat.reduceAdd]; omega)
        | rfl
     have f2 : decide ((q : Int) < (b.length : Nat)) = true:=decide_eq_true (by omega)
     have g2:=gt_of f2
     obtain ⟨j2,rfl⟩ : ∃ q,j2 = q + 1:=⟨j2 - 1,by omega⟩
     by_cases hm : z <= 600
     rotate_left 1
     . have f1 : decide (z <= 600) = false:=decide_eq_false hm
       have e : z = Q:=by rw [<- hQ]; unfold lgF; rw [if_neg hm]
       subst e
       repeat' (first
|apply zL
 . conv => lhs; whnf
 . assumption
|refine zA ?_
|refine zB ?_
|refine zK ?_
|apply aw_1
 conv => whnf
 refine ⟨?_,trivial⟩
|apply zX rfl rfl
 . conv => lhs; whnf
 . conv => lhs; whnf
 . first | exact bT1 ‹_› | exact bT2 ‹_›
|apply s_1
 conv => whnf; arg 1; arg 4; arg 3; whnf
 refine ⟨?_,?_⟩
|apply zD rfl
 . conv => lhs; whnf
 . conv => lhs; whnf
 . first | rfl | assumption
 . conv => lhs; whnf; arg 2; whnf
|refine zI ?_
|refine zE rfl ?_
|refine zF ?_
|refine zC ?_
|refine ⟨_,by conv => lhs; whnf; arg 2; whnf,?_⟩; conv => rhs; whnf
|exact trivial)
       all_goals first
        | exact zT (by omega)
        | exact zT (by simp only [Int.toNat_natCast,Nat.zero_add,Nat.reduceAdd]; omega)
        | rfl
     have f1 : decide (z <= 600) = true:=decide_eq_true hm
     unfold lgF at hQ
     rw [if_pos hm] at hQ
     have hget:=zk hq
     have hpt:=frag_parts (gD b q)
     have hbs:=zE3 b q
     have hwr:=zDE (bulkL ((gD b q).f 2).l + 1) ((gD b q).f 2).l 600
     have hW:=zFl (bulkL ((gD b q).f 2).l + 1) ((gD b q).f 2).l 600 (Nat.lt_succ_self _) (by omega) (by omega) (by omega)
     repeat' (first
|apply zU
 . conv => lhs; whnf
 . assumption
|refine zA ?_
|refine zB ?_
|refine zK ?_
|refine zb ?_
|apply aw_1
 conv => whnf
 refine ⟨?_,trivial⟩
|apply zX rfl rfl
 . conv => lhs; whnf
 . conv => lhs; whnf
 . first | exact bT1 ‹_› | exact bT2 ‹_›
|apply s_1
 conv => whnf; arg 1; arg 4; arg 3; whnf
 refine ⟨?_,?_⟩
|apply zd rfl
 . conv => lhs; whnf
 . conv => lhs; whnf
 . first | exact hW
|apply zD rfl
 . conv => lhs; whnf
 . conv => lhs; whnf
 . first | rfl | assumption
 . conv => lhs; whnf; arg 2; whnf
|exact trivial)
     all_goals first
      | exact zT (by omega)
      | exact zT (by simp only [Int.toNat_natCast,Nat.zero_add,Nat.reduceAdd]; omega)
      | exact zAm hq
      | exact zH (Nat.lt_succ_self j2) ⟨q + 1,_,by omega,hQ,by omega,by omega,Sub.live ⟨rfl,rfl,rfl,trivial⟩ ⟨rfl,trivial⟩⟩
noncomputable def WV (d : D) : V:=.agg (cellsV Tryz.prog 12 84 d)
noncomputable def WA (d : D) : V:=.agg (cellsV Tryz.prog 12 86 d)
noncomputable def WS (d : D) : V:=.agg (cellsV Tryz.prog 12 76 d)
noncomputable def WO (d : D) : V:=.agg (cellsV Tryz.prog 12 57 d)
theorem zHb : zy Tryz.prog 69 = some (86,96):=by kernel_rfl
theorem zHZ : zy Tryz.prog 55 = some (76,128):=by kernel_rfl
theorem zJm : zy Tryz.prog 38 = some (57,72):=by kernel_rfl
theorem insVar_ac (l : List D) (n : Int) (hn : n <= 1) (v : Value) : AC EN Tryz.prog 265 [.sl 88 l,.c (.int .i64 0),.c (.int .i64 n),.c v] (.tup []):=by
 have f0 : decide ((0 : Int) + 1 < n) = false:=decide_eq_false (by omega)
 refine zG 53 Tryz.func265 rfl rfl rfl rfl ?_
 intro s w he
 repeat' (first
|refine zA ?_
|refine zB ?_
|refine zK ?_
|apply aw_1
 conv => whnf
 refine ⟨?_,trivial⟩
|apply s_1
 conv => whnf; arg 1; arg 4; arg 3; whnf
 refine ⟨?_,?_⟩
|exact trivial)
 . refine zV (fun _ st => Sub (cx EN Tryz.prog s w he) st (stS 53 [(2,.c (.int .i64 n)),(8,.c (.int .i64 (0 + 1)))] [])) 0 (Sub.live ⟨rfl,rfl,trivial⟩ trivial) ?_
   rintro j st hs
   refine zW hs ?_
   repeat' (first
|apply zL
 . conv => lhs; whnf
 . assumption
|refine zA ?_
|refine zB ?_
|refine zK ?_
|apply aw_1
 conv => whnf
 refine ⟨?_,trivial⟩
|apply s_1
 conv => whnf; arg 1; arg 4; arg 3; whnf
 refine ⟨?_,?_⟩
|refine zI ?_
|refine zE rfl ?_
|refine zF ?_
|refine zCQ ?_
|exact trivial)
   all_goals rfl
 . exact zT (by omega)
theorem zGu (l : List D) (n : Int) (hn : n <= 1) (v : Value) : AC EN Tryz.prog 191 [.sl 88 l,.c (.int .i64 n),.c v] (.tup []):=by
 have f0 : decide ((20 : Int) <= n) = false:=decide_eq_false (by omega)
 have f1 : decide ((20 : Int) < n) = false:=decide_eq_false (by omega)
 have hi:=insVar_ac l n hn v
 refine zG 63 Tryz.func191 rfl rfl rfl rfl ?_
 intro s w he
 repeat' (first
|refine zA ?_
|refine zB ?_
|refine zK ?_
|apply aw_1
 conv => whnf
 refine ⟨?_,trivial⟩
|apply s_1
 conv => whnf; arg 1; arg 4; arg 3; whnf
 refine ⟨?_,?_⟩
|exact trivial)
 refine zV (fun _ st => Sub (cx EN Tryz.prog s w he) st (stS 63 [(0,.sl 88 l),(1,.c (.int .i64 n)),(2,.c v),(6,.c (.int .i64 20)),(7,.c (.int .i64 0)),(8,.c (.int .i64 20))] [])) 0 (Sub.live ⟨rfl,rfl,rfl,rfl,rfl,rfl,trivial⟩ trivial) ?_
 rintro j st hs
 refine zW hs ?_
 clear hs
 repeat' (first
|apply zL
 . conv => lhs; whnf
 . assumption
|refine zA ?_
|refine zB ?_
|refine zK ?_
|apply aw_1
 conv => whnf
 refine ⟨?_,trivial⟩
|apply s_1
 conv => whnf; arg 1; arg 4; arg 3; whnf
 refine ⟨?_,?_⟩
|apply zd rfl
 . conv => lhs; whnf
 . conv => lhs; whnf
 . first | exact hi
|refine zI ?_
|refine zE rfl ?_
|refine zF ?_
|exact trivial)
 refine zV (fun _ st => Sub (cx EN Tryz.prog s w he) st (stS 63 [(1,.c (.int .i64 n)),(6,.c (.int .i64 20))] [])) 0 (Sub.live ⟨rfl,rfl,trivial⟩ trivial) ?_
 rintro j2 st2 hs
 refine zW hs ?_
 repeat' (first
|apply zL
 . conv => lhs; whnf
 . assumption
|refine zA ?_
|refine zB ?_
|refine zK ?_
|apply aw_1
 conv => whnf
 refine ⟨?_,trivial⟩
|apply s_1
 conv => whnf; arg 1; arg 4; arg 3; whnf
 refine ⟨?_,?_⟩
|refine zI ?_
|refine zE rfl ?_
|refine zF ?_
|refine zCQ ?_
|exact trivial)
 all_goals rfl
theorem sortVar_ac (l : List D) (hn : l.length <= 1) (v : Value) : AC EN Tryz.prog 108 [.sl 88 l,.c v] (.tup []):=by
 have hi:=zGu l (l.length : Int) (by omega) v
 refine zG 9 Tryz.func108 rfl rfl rfl rfl ?_
 intro s w he
 repeat' (first
|refine zA ?_
|refine zB ?_
|apply s_1
 conv => whnf; arg 1; arg 4; arg 3; whnf
 refine ⟨?_,?_⟩
|apply zd rfl
 . conv => lhs; whnf
 . conv => lhs; whnf
 . first | exact hi
|refine zCQ ?_
|exact trivial)
 all_goals rfl
theorem insDir_ac (l : List D) (n : Int) (hn : n <= 1) (v : Value) : AC EN Tryz.prog 316 [.sl 150 l,.c (.int .i64 0),.c (.int .i64 n),.c v] (.tup []):=by
 have f0 : decide ((0 : Int) + 1 < n) = false:=decide_eq_false (by omega)
 refine zG 53 Tryz.func316 rfl rfl rfl rfl ?_
 intro s w he
 repeat' (first
|refine zA ?_
|refine zB ?_
|refine zK ?_
|apply aw_1
 conv => whnf
 refine ⟨?_,trivial⟩
|apply s_1
 conv => whnf; arg 1; arg 4; arg 3; whnf
 refine ⟨?_,?_⟩
|exact trivial)
 . refine zV (fun _ st => Sub (cx EN Tryz.prog s w he) st (stS 53 [(2,.c (.int .i64 n)),(8,.c (.int .i64 (0 + 1)))] [])) 0 (Sub.live ⟨rfl,rfl,trivial⟩ trivial) ?_
   rintro j st hs
   refine zW hs ?_
   repeat' (first
|apply zL
 . conv => lhs; whnf
 . assumption
|refine zA ?_
|refine zB ?_
|refine zK ?_
|apply aw_1
 conv => whnf
 refine ⟨?_,trivial⟩
|apply s_1
 conv => whnf; arg 1; arg 4; arg 3; whnf
 refine ⟨?_,?_⟩
|refine zI ?_
|refine zE rfl ?_
|refine zF ?_
|refine zCQ ?_
|exact trivial)
   all_goals rfl
 . exact zT (by omega)
theorem zGw (l : List D) (n : Int) (hn : n <= 1) (v : Value) : AC EN Tryz.prog 260 [.sl 150 l,.c (.int .i64 n),.c v] (.tup []):=by
 have f0 : decide ((20 : Int) <= n) = false:=decide_eq_false (by omega)
 have f1 : decide ((20 : Int) < n) = false:=decide_eq_false (by omega)
 have hi:=insDir_ac l n hn v
 refine zG 63 Tryz.func260 rfl rfl rfl rfl ?_
 intro s w he
 repeat' (first
|refine zA ?_
|refine zB ?_
|refine zK ?_
|apply aw_1
 conv => whnf
 refine ⟨?_,trivial⟩
|apply s_1
 conv => whnf; arg 1; arg 4; arg 3; whnf
 refine ⟨?_,?_⟩
|exact trivial)
 refine zV (fun _ st => Sub (cx EN Tryz.prog s w he) st (stS 63 [(0,.sl 150 l),(1,.c (.int .i64 n)),(2,.c v),(6,.c (.int .i64 20)),(7,.c (.int .i64 0)),(8,.c (.int .i64 20))] [])) 0 (Sub.live ⟨rfl,rfl,rfl,rfl,rfl,rfl,trivial⟩ trivial) ?_
 rintro j st hs
 refine zW hs ?_
 clear hs
 repeat' (first
|apply zL
 . conv => lhs; whnf
 . assumption
|refine zA ?_
|refine zB ?_
|refine zK ?_
|apply aw_1
 conv => whnf
 refine ⟨?_,trivial⟩
|apply s_1
 conv => whnf; arg 1; arg 4; arg 3; whnf
 refine ⟨?_,?_⟩
|apply zd rfl
 . conv => lhs; whnf
 . conv => lhs; whnf
 . first | exact hi
|refine zI ?_
|refine zE rfl ?_
|refine zF ?_
|exact trivial)
 refine zV (fun _ st => Sub (cx EN Tryz.prog s w he) st (stS 63 [(1,.c (.int .i64 n)),(6,.c (.int .i64 20))] [])) 0 (Sub.live ⟨rfl,rfl,trivial⟩ trivial) ?_
 rintro j2 st2 hs
 refine zW hs ?_
 repeat' (first
|apply zL
 . conv => lhs; whnf
 . assumption
|refine zA ?_
|refine zB ?_
|refine zK ?_
|apply aw_1
 conv => whnf
 refine ⟨?_,trivial⟩
|apply s_1
 conv => whnf; arg 1; arg 4; arg 3; whnf
 refine ⟨?_,?_⟩
|refine zI ?_
|refine zE rfl ?_
|refine zF ?_
|refine zCQ ?_
|exact trivial)
 all_goals rfl
theorem sortDir_ac (l : List D) (hn : l.length <= 1) (v : Value) : AC EN Tryz.prog 183 [.sl 150 l,.c v] (.tup []):=by
 have hi:=zGw l (l.length : Int) (by omega) v
 refine zG 9 Tryz.func183 rfl rfl rfl rfl ?_
 intro s w he
 repeat' (first
|refine zA ?_
|refine zB ?_
|apply s_1
 conv => whnf; arg 1; arg 4; arg 3; whnf
 refine ⟨?_,?_⟩
|apply zd rfl
 . conv => lhs; whnf
 . conv => lhs; whnf
 . first | exact hi
|refine zCQ ?_
|exact trivial)
 all_goals rfl
theorem insSel_ac (l : List D) (n : Int) (hn : n <= 1) (v : Value) : AC EN Tryz.prog 318 [.sl 76 l,.c (.int .i64 0),.c (.int .i64 n),.c v] (.tup []):=by
 have f0 : decide ((0 : Int) + 1 < n) = false:=decide_eq_false (by omega)
 refine zG 53 Tryz.func318 rfl rfl rfl rfl ?_
 intro s w he
 repeat' (first
|refine zA ?_
|refine zB ?_
|refine zK ?_
|apply aw_1
 conv => whnf
 refine ⟨?_,trivial⟩
|apply s_1
 conv => whnf; arg 1; arg 4; arg 3; whnf
 refine ⟨?_,?_⟩
|exact trivial)
 . refine zV (fun _ st => Sub (cx EN Tryz.prog s w he) st (stS 53 [(2,.c (.int .i64 n)),(8,.c (.int .i64 (0 + 1)))] [])) 0 (Sub.live ⟨rfl,rfl,trivial⟩ trivial) ?_
   rintro j st hs
   refine zW hs ?_
   repeat' (first
|apply zL
 . conv => lhs; whnf
 . assumption
|refine zA ?_
|refine zB ?_
|refine zK ?_
|apply aw_1
 conv => whnf
 refine ⟨?_,trivial⟩
|apply s_1
 conv => whnf; arg 1; arg 4; arg 3; whnf
 refine ⟨?_,?_⟩
|refine zI ?_
|refine zE rfl ?_
|refine zF ?_
|refine zCQ ?_
|exact trivial)
   all_goals rfl
 . exact zT (by omega)
theorem zGv (l : List D) (n : Int) (hn : n <= 1) (v : Value) : AC EN Tryz.prog 261 [.sl 76 l,.c (.int .i64 n),.c v] (.tup []):=by
 have f0 : decide ((20 : Int) <= n) = false:=decide_eq_false (by omega)
 have f1 : decide ((20 : Int) < n) = false:=decide_eq_false (by omega)
 have hi:=insSel_ac l n hn v
 refine zG 63 Tryz.func261 rfl rfl rfl rfl ?_
 intro s w he
 repeat' (first
|refine zA ?_
|refine zB ?_
|refine zK ?_
|apply aw_1
 conv => whnf
 refine ⟨?_,trivial⟩
|apply s_1
 conv => whnf; arg 1; arg 4; arg 3; whnf
 refine ⟨?_,?_⟩
|exact trivial)
 refine zV (fun _ st => Sub (cx EN Tryz.prog s w he) st (stS 63 [(0,.sl 76 l),(1,.c (.int .i64 n)),(2,.c v),(6,.c (.int .i64 20)),(7,.c (.int .i64 0)),(8,.c (.int .i64 20))] [])) 0 (Sub.live ⟨rfl,rfl,rfl,rfl,rfl,rfl,trivial⟩ trivial) ?_
 rintro j st hs
 refine zW hs ?_
 clear hs
 repeat' (first
|apply zL
 . conv => lhs; whnf
 . assumption
|refine zA ?_
|refine zB ?_
|refine zK ?_
|apply aw_1
 conv => whnf
 refine ⟨?_,trivial⟩
|apply s_1
 conv => whnf; arg 1; arg 4; arg 3; whnf
 refine ⟨?_,?_⟩
|apply zd rfl
 . conv => lhs; whnf
 . conv => lhs; whnf
 . first | exact hi
|refine zI ?_
|refine zE rfl ?_
|refine zF ?_
|exact trivial)
 refine zV (fun _ st => Sub (cx EN Tryz.prog s w he) st (stS 63 [(1,.c (.int .i64 n)),(6,.c (.int .i64 20))] [])) 0 (Sub.live ⟨rfl,rfl,trivial⟩ trivial) ?_
 rintro j2 st2 hs
 refine zW hs ?_
 repeat' (first
|apply zL
 . conv => lhs; whnf
 . assumption
|refine zA ?_
|refine zB ?_
|refine zK ?_
|apply aw_1
 conv => whnf
 refine ⟨?_,trivial⟩
|apply s_1
 conv => whnf; arg 1; arg 4; arg 3; whnf
 refine ⟨?_,?_⟩
|refine zI ?_
|refine zE rfl ?_
|refine zF ?_
|refine zCQ ?_
|exact trivial)
 all_goals rfl
theorem sortSel_ac (l : List D) (hn : l.length <= 1) (v : Value) : AC EN Tryz.prog 186 [.sl 76 l,.c v] (.tup []):=by
 have hi:=zGv l (l.length : Int) (by omega) v
 refine zG 9 Tryz.func186 rfl rfl rfl rfl ?_
 intro s w he
 repeat' (first
|refine zA ?_
|refine zB ?_
|apply s_1
 conv => whnf; arg 1; arg 4; arg 3; whnf
 refine ⟨?_,?_⟩
|apply zd rfl
 . conv => lhs; whnf
 . conv => lhs; whnf
 . first | exact hi
|refine zCQ ?_
|exact trivial)
 all_goals rfl
theorem insArg_ac (l : List D) (n : Int) (hn : n <= 1) (v : Value) : AC EN Tryz.prog 350 [.sl 86 l,.c (.int .i64 0),.c (.int .i64 n),.c v] (.tup []):=by
 have f0 : decide ((0 : Int) + 1 < n) = false:=decide_eq_false (by omega)
 refine zG 53 Tryz.func350 rfl rfl rfl rfl ?_
 intro s w he
 repeat' (first
|refine zA ?_
|refine zB ?_
|refine zK ?_
|apply aw_1
 conv => whnf
 refine ⟨?_,trivial⟩
|apply s_1
 conv => whnf; arg 1; arg 4; arg 3; whnf
 refine ⟨?_,?_⟩
|exact trivial)
 . refine zV (fun _ st => Sub (cx EN Tryz.prog s w he) st (stS 53 [(2,.c (.int .i64 n)),(8,.c (.int .i64 (0 + 1)))] [])) 0 (Sub.live ⟨rfl,rfl,trivial⟩ trivial) ?_
   rintro j st hs
   refine zW hs ?_
   repeat' (first
|apply zL
 . conv => lhs; whnf
 . assumption
|refine zA ?_
|refine zB ?_
|refine zK ?_
|apply aw_1
 conv => whnf
 refine ⟨?_,trivial⟩
|apply s_1
 conv => whnf; arg 1; arg 4; arg 3; whnf
 refine ⟨?_,?_⟩
|refine zI ?_
|refine zE rfl ?_
|refine zF ?_
|refine zCQ ?_
|exact trivial)
   all_goals rfl
 . exact zT (by omega)
theorem zGx (l : List D) (n : Int) (hn : n <= 1) (v : Value) : AC EN Tryz.prog 315 [.sl 86 l,.c (.int .i64 n),.c v] (.tup []):=by
 have f0 : decide ((20 : Int) <= n) = false:=decide_eq_false (by omega)
 have f1 : decide ((20 : Int) < n) = false:=decide_eq_false (by omega)
 have hi:=insArg_ac l n hn v
 refine zG 63 Tryz.func315 rfl rfl rfl rfl ?_
 intro s w he
 repeat' (first
|refine zA ?_
|refine zB ?_
|refine zK ?_
|apply aw_1
 conv => whnf
 refine ⟨?_,trivial⟩
|apply s_1
 conv => whnf; arg 1; arg 4; arg 3; whnf
 refine ⟨?_,?_⟩
|exact trivial)
 refine zV (fun _ st => Sub (cx EN Tryz.prog s w he) st (stS 63 [(0,.sl 86 l),(1,.c (.int .i64 n)),(2,.c v),(6,.c (.int .i64 20)),(7,.c (.int .i64 0)),(8,.c (.int .i64 20))] [])) 0 (Sub.live ⟨rfl,rfl,rfl,rfl,rfl,rfl,trivial⟩ trivial) ?_
 rintro j st hs
 refine zW hs ?_
 clear hs
 repeat' (first
|apply zL
 . conv => lhs; whnf
 . assumption
|refine zA ?_
|refine zB ?_
|refine zK ?_
|apply aw_1
 conv => whnf
 refine ⟨?_,trivial⟩
|apply s_1
 conv => whnf; arg 1; arg 4; arg 3; whnf
 refine ⟨?_,?_⟩
|apply zd rfl
 . conv => lhs; whnf
 . conv => lhs; whnf
 . first | exact hi
|refine zI ?_
|refine zE rfl ?_
|refine zF ?_
|exact trivial)
 refine zV (fun _ st => Sub (cx EN Tryz.prog s w he) st (stS 63 [(1,.c (.int .i64 n)),(6,.c (.int .i64 20))] [])) 0 (Sub.live ⟨rfl,rfl,trivial⟩ trivial) ?_
 rintro j2 st2 hs
 refine zW hs ?_
 repeat' (first
|apply zL
 . conv => lhs; whnf
 . assumption
|refine zA ?_
|refine zB ?_
|refine zK ?_
|apply aw_1
 conv => whnf
 refine ⟨?_,trivial⟩
|apply s_1
 conv => whnf; arg 1; arg 4; arg 3; whnf
 refine ⟨?_,?_⟩
|refine zI ?_
|refine zE rfl ?_
|refine zF ?_
|refine zCQ ?_
|exact trivial)
 all_goals rfl
theorem sortArg_ac (l : List D) (hn : l.length <= 1) (v : Value) : AC EN Tryz.prog 258 [.sl 86 l,.c v] (.tup []):=by
 have hi:=zGx l (l.length : Int) (by omega) v
 refine zG 9 Tryz.func258 rfl rfl rfl rfl ?_
 intro s w he
 repeat' (first
|refine zA ?_
|refine zB ?_
|apply s_1
 conv => whnf; arg 1; arg 4; arg 3; whnf
 refine ⟨?_,?_⟩
|apply zd rfl
 . conv => lhs; whnf
 . conv => lhs; whnf
 . first | exact hi
|refine zCQ ?_
|exact trivial)
 all_goals rfl
theorem insSelN_ac (n : Int) (hn : n <= 1) (v : Value) : AC EN Tryz.prog 318 [.c (.slice none 0 0),.c (.int .i64 0),.c (.int .i64 n),.c v] (.tup []):=by
 have f0 : decide ((0 : Int) + 1 < n) = false:=decide_eq_false (by omega)
 refine zG 53 Tryz.func318 rfl rfl rfl rfl ?_
 intro s w he
 repeat' (first
|refine zA ?_
|refine zB ?_
|refine zK ?_
|apply aw_1
 conv => whnf
 refine ⟨?_,trivial⟩
|apply s_1
 conv => whnf; arg 1; arg 4; arg 3; whnf
 refine ⟨?_,?_⟩
|exact trivial)
 . refine zV (fun _ st => Sub (cx EN Tryz.prog s w he) st (stS 53 [(2,.c (.int .i64 n)),(8,.c (.int .i64 (0 + 1)))] [])) 0 (Sub.live ⟨rfl,rfl,trivial⟩ trivial) ?_
   rintro j st hs
   refine zW hs ?_
   repeat' (first
|apply zL
 . conv => lhs; whnf
 . assumption
|refine zA ?_
|refine zB ?_
|refine zK ?_
|apply aw_1
 conv => whnf
 refine ⟨?_,trivial⟩
|apply s_1
 conv => whnf; arg 1; arg 4; arg 3; whnf
 refine ⟨?_,?_⟩
|refine zI ?_
|refine zE rfl ?_
|refine zF ?_
|refine zCQ ?_
|exact trivial)
   all_goals rfl
 . exact zT (by omega)
theorem zFv (n : Int) (hn : n <= 1) (v : Value) : AC EN Tryz.prog 261 [.c (.slice none 0 0),.c (.int .i64 n),.c v] (.tup []):=by
 have f0 : decide ((20 : Int) <= n) = false:=decide_eq_false (by omega)
 have f1 : decide ((20 : Int) < n) = false:=decide_eq_false (by omega)
 have hi:=insSelN_ac n hn v
 refine zG 63 Tryz.func261 rfl rfl rfl rfl ?_
 intro s w he
 repeat' (first
|refine zA ?_
|refine zB ?_
|refine zK ?_
|apply aw_1
 conv => whnf
 refine ⟨?_,trivial⟩
|apply s_1
 conv => whnf; arg 1; arg 4; arg 3; whnf
 refine ⟨?_,?_⟩
|exact trivial)
 refine zV (fun _ st => Sub (cx EN Tryz.prog s w he) st (stS 63 [(0,.c (.slice none 0 0)),(1,.c (.int .i64 n)),(2,.c v),(6,.c (.int .i64 20)),(7,.c (.int .i64 0)),(8,.c (.int .i64 20))] [])) 0 (Sub.live ⟨rfl,rfl,rfl,rfl,rfl,rfl,trivial⟩ trivial) ?_
 rintro j st hs
 refine zW hs ?_
 clear hs
 repeat' (first
|apply zL
 . conv => lhs; whnf
 . assumption
|refine zA ?_
|refine zB ?_
|refine zK ?_
|apply aw_1
 conv => whnf
 refine ⟨?_,trivial⟩
|apply s_1
 conv => whnf; arg 1; arg 4; arg 3; whnf
 refine ⟨?_,?_⟩
|apply zd rfl
 . conv => lhs; whnf
 . conv => lhs; whnf
 . first | exact hi
|refine zI ?_
|refine zE rfl ?_
|refine zF ?_
|exact trivial)
 refine zV (fun _ st => Sub (cx EN Tryz.prog s w he) st (stS 63 [(1,.c (.int .i64 n)),(6,.c (.int .i64 20))] [])) 0 (Sub.live ⟨rfl,rfl,trivial⟩ trivial) ?_
 rintro j2 st2 hs
 refine zW hs ?_
 repeat' (first
|apply zL
 . conv => lhs; whnf
 . assumption
|refine zA ?_
|refine zB ?_
|refine zK ?_
|apply aw_1
 conv => whnf
 refine ⟨?_,trivial⟩
|apply s_1
 conv => whnf; arg 1; arg 4; arg 3; whnf
 refine ⟨?_,?_⟩
|refine zI ?_
|refine zE rfl ?_
|refine zF ?_
|refine zCQ ?_
|exact trivial)
 all_goals rfl
theorem zID (v : Value) : AC EN Tryz.prog 186 [.c (.slice none 0 0),.c v] (.tup []):=by
 have hi:=zFv 0 (by decide) v
 refine zG 9 Tryz.func186 rfl rfl rfl rfl ?_
 intro s w he
 repeat' (first
|refine zA ?_
|refine zB ?_
|apply s_1
 conv => whnf; arg 1; arg 4; arg 3; whnf
 refine ⟨?_,?_⟩
|apply zd rfl
 . conv => lhs; whnf
 . conv => lhs; whnf
 . first | exact hi
|refine zCQ ?_
|exact trivial)
 all_goals first
  | rfl
  | exact Nat.zero_le _
end Go.Proofs.YthjiclhfhjdjpaaGreatDoor
namespace Go.Proofs.YthjiclhfhjdjpaaGreatDoor
open Go.RowKit
attribute [local irreducible] wpList Calls Code.wp
section
variable {X : Cx} {nn : Nat} {st : Vst nn} {ops : Array Oper} {o : Oper} {l : List Oper} {Q : Vst nn -> Prop} {d : Option Tmp} {k : Nat} {fr rd wr : Nat -> List Nat}
theorem h_call {f : FuncId} {args : List V} {r : V} (hg : o.guard = none) (hd : o.dst = d) (h : act1 X.P st.rs (ev st) o.op = .call f args) (hc : AC X.e X.P f (outL args) r) (hf : nfB (fr k) r [] = true) (hK : absLexH X ops fr rd wr Q (k + 1) l (st.put d r)) : absLexH X ops fr rd wr Q k (o :: l) st:=
 ⟨r,[],.old (.inl ⟨by simp [gw,hg],.call h hc⟩) hf,by rw [hd]; exact hK⟩
end
end Go.Proofs.YthjiclhfhjdjpaaGreatDoor
