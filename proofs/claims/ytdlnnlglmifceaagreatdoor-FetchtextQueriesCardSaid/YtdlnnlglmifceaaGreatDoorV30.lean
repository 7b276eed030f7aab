import Derived.Test.YtdlnnlglmifceaaGreatDoorV29
set_option maxHeartbeats 8000000
set_option maxRecDepth 100000
set_option linter.unusedVariables false
set_option linter.unusedSimpArgs false
namespace Go.Proofs.YtdlnnlglmifceaaGreatDoor
open Go.RowKit
attribute [local irreducible] wpList Calls Code.wp AW AWo OpOk seqK zAi zAp loopK endK AC zAC Yld Sub
attribute [local irreducible] ACB absLexG YldG
def befT (K f n : Nat) (l : List D) (i : Nat) : List UInt8:=((l.take i).map (selT K (selsT K f (n + 1)) n)).flatten
noncomputable def HsP (K f n : Nat) (l : List D) (bl : List UInt8) (i : Nat) : Vst 85:=
 stS 85 [(0,.bx 1000000 0),(2,.c (.int .i64 n)),(9,.sl 57 l),(10,.c (.int .i64 l.length)),(11,.c (.int .i64 i))] [(1000000,.bld 203 5 (bl ++ befT K f n l i))]
theorem zF0 (K f n : Nat) (l : List D) (bl : List UInt8) (h : SelsOk K (f + 1) l) (hw : ∀ i,wideD (gD l i)) (hb : bulkL l <= 1048576) (hn : n + f <= 300) (hlen : bl.length + (selsT K (f + 1) n l).length <= 10000000000 + 1000000000 * n)
 (ih : ∀ i,i < l.length -> ((gD l i).f 6).l ≠ [] -> ∀ b2 : List UInt8,b2.length + (selsT K f (n + 1) ((gD l i).f 6).l).length <= 10000000000 + 1000000000 * (n + 1) -> ACB EN Tryz.prog 167 [.bx (pn 0) 0,.sl 57 ((gD l i).f 6).l,.c (.int .i64 ((n : Int) + 1))] [.bld 203 5 b2] (.tup []) [.bld 203 5 (b2 ++ selsT K f (n + 1) ((gD l i).f 6).l)]) :
 ACB EN Tryz.prog 167 [.bx (pn 0) 0,.sl 57 l,.c (.int .i64 (n : Int))] [.bld 203 5 bl] (.tup []) [.bld 203 5 (bl ++ selsT K (f + 1) n l)]:=by
 have hll:=zA0 l
 refine zGa 85 Tryz.func167 rfl rfl ?_
 intro pas s w he hp
 repeat' (first
|refine zB ?_
|refine zM ?_
|refine zk ?_
|refine zV ?_
|refine zd ?_
|apply aw_1
 conv => whnf
 refine ⟨?_,trivial⟩
|apply s_1
 conv => whnf; arg 1; arg 4; arg 3; whnf
 refine ⟨?_,?_⟩
|apply z7 rfl
 . conv => lhs; whnf
 . conv => lhs; whnf; arg 2; whnf
|apply zl rfl
 . conv => lhs; whnf
 . conv => lhs; whnf
 . first | fail
|apply zr rfl rfl rfl rfl
 . conv => lhs; whnf; arg 1; whnf
 . rfl
|apply zq rfl rfl rfl
 . conv => lhs; whnf
 . conv => lhs; whnf; arg 1; whnf
 . conv => lhs; whnf; arg 1; whnf
 . exact ⟨by kernel_rfl,by kernel_rfl⟩
 . rfl
|apply zw (by kernel_rfl) (by kernel_rfl)
|apply zAd
|apply zAc rfl
 . conv => lhs; whnf
 . conv => lhs; whnf; arg 2; whnf
|apply zAQ rfl
 . conv => lhs; whnf
 . conv => lhs; whnf
 . first | fail
|apply zAD rfl rfl rfl
 . conv => lhs; whnf
 . rfl
 . rfl
 . conv => lhs; whnf; arg 1; whnf
 . conv => lhs; whnf; arg 1; whnf
 . exact ⟨by kernel_rfl,by kernel_rfl⟩
 . rfl
|exact zX
|exact ze
|exact all_nil
|show List.all _ _ = true; rfl
|show zAB _ _ = true; rfl
|exact ([] : List Nat)
|exact (1000000 : Nat)
|apply zN
 . conv => lhs; whnf; arg 1; arg 1; whnf
|apply zO
 . conv => lhs; whnf; arg 1; arg 1; whnf
|refine zW (by conv => lhs; whnf) ?_ ?_ <;> intro hb
|refine zn ?_
|refine zb ?_
|refine zH ?_
|refine zL ?_
|refine zG ?_
|refine zD rfl ?_
|refine zF rfl ?_
|refine zE ?_
|refine zJ ?_
|refine zC ?_
|refine zK ?_
|refine zHn ⟨?_,?_⟩
|refine zCV ⟨?_,?_⟩
|exact (rfl : _ = V.tup [])
|refine ⟨_,by conv => lhs; whnf; arg 2; whnf,?_⟩; conv => rhs; whnf
|exact trivial
|intro hg)
 refine zAG (fun j st => ∃ i,i + j = l.length /\ Sub ⟨Tryz.prog,pas,s,w,EN,he,hp,fun _ _ _ => False,[]⟩ st (HsP K f n l bl i)) l.length ⟨0,by omega,?_⟩ ?_
 . refine Sub.live ⟨rfl,rfl,rfl,rfl,rfl,trivial⟩ ⟨?_,trivial⟩
   show some (Res.bld _ _ bl) = some (Res.bld _ _ (bl ++ []))
   rw [List.append_nil]
 . rintro j st ⟨i,hij,hs2⟩
   refine zAF hs2 ?_
   by_cases hi : i < l.length
   . have hok:=h i hi
     have hda:=tail_ac K ((gD l i).f 5).l hok.dirs
     have haa:=argsP_ac K ((gD l i).f 4).l hok.args
     have hbe : (befT K f n l i).length <= (selsT K (f + 1) n l).length:=zCj i
     have hbe1 : (befT K f n l (i + 1)).length <= (selsT K (f + 1) n l).length:=zCj (i + 1)
     have hnx : befT K f n l (i + 1) = befT K f n l i ++ selT K (selsT K f (n + 1)) n (gD l i):=selsT_take hi
     have hhl:=zGN K (gD l i) (hw i)
     have hbi:=zAf hi
     have hbw:=zv (gD l i)
     have hs1 : ((gD l i).f 1).s.size <= 1048576:=by have:=zAn ((gD l i).f 1); have:=wD_f (gD l i) 1; omega
     have hs2 : ((gD l i).f 2).s.size <= 1048576:=by have:=zAn ((gD l i).f 2); have:=wD_f (gD l i) 2; omega
     have hs3 : ((gD l i).f 3).s.size <= 1048576:=by have:=zAn ((gD l i).f 3); have:=wD_f (gD l i) 3; omega
     have hpa : (parT K ((gD l i).f 4).l).length <= 40000000:=by have:=zFQ K _ hok.args.wide; have:=hok.args.bulk; omega
     have hta : (zCe K ((gD l i).f 5).l).length <= 40000000:=by have:=zFu K _ hok.dirs.wide; have:=hok.dirs.bulk; omega
     have ne3 : (((gD l i).f 0).n == 3) = true -> ((gD l i).f 6).l ≠ []:=fun hk => by
      have hk : ((gD l i).f 0).n = 3:=by simpa using hk
      rcases hok.kind with h1 | ⟨h1,_⟩ | ⟨_,h2⟩
      . omega
      . omega
      . exact h2
     have neL : ((((gD l i).f 6).l.length : Int) == 0) = false -> ((gD l i).f 6).l ≠ []:=fun hk e => by rw [e] at hk; simp at hk
     have hin : zCF (gD l i) = true -> (befT K f n l i).length + (selsT K f (n + 1) ((gD l i).f 6).l).length <= (selsT K (f + 1) n l).length:=fun ho => by
      have e:=congrArg List.length hnx
      rw [List.length_append,selT,if_pos ho] at e
      simp only [List.length_append] at e
      omega
     have hin3 : (((gD l i).f 0).n == 3) = true -> (befT K f n l i).length + (selsT K f (n + 1) ((gD l i).f 6).l).length <= (selsT K (f + 1) n l).length:=fun hk => hin (by unfold zCF; rw [hk]; rfl)
     have op2 : (((gD l i).f 0).n == 2) = false -> ((((gD l i).f 6).l.length : Int) == 0) = false -> zCF (gD l i) = true:=fun h2 hk => by
      unfold zCF
      have h0 : (((gD l i).f 6).l.length != 0) = true:=by
       have : ¬ ((((gD l i).f 6).l.length : Int)) = 0:=by simpa using hk
       simp; exact fun e => this (by rw [e]; rfl)
      rw [h0,show (((gD l i).f 0).n != 2) = true by rw [bne,h2]; rfl]; simp
     have hinL : (((gD l i).f 0).n == 2) = false -> ((((gD l i).f 6).l.length : Int) == 0) = false -> (befT K f n l i).length + (selsT K f (n + 1) ((gD l i).f 6).l).length <= (selsT K (f + 1) n l).length:=fun h2 hk => hin (op2 h2 hk)
     repeat' (first
|apply zBC 10 ([(3,[7]),(6,[7])]) ([(9,[1000000])]) rfl (by kernel_rfl) (by kernel_rfl) (by kernel_rfl)
|apply zFa
|apply zFZ rfl
 . conv => lhs; whnf
 . conv => lhs; whnf; arg 2; whnf
|apply zC8 rfl
 . conv => lhs; whnf
 . conv => lhs; whnf
 . first | exact hda | exact haa
|apply zFb rfl rfl
 . conv => lhs; whnf
 . first | (conv => lhs; whnf; arg 1; whnf)
 . first | exact fun _ => rfl | (intro _; kernel_rfl)
 . conv => lhs; whnf
 . rfl
 . conv => lhs; whnf; arg 1; whnf
 . conv => lhs; whnf
|apply zB3 rfl rfl rfl
 . conv => lhs; whnf
 . rfl
 . conv => lhs; whnf; arg 1; whnf
 . conv => lhs; whnf; arg 1; whnf
 . exact ⟨by kernel_rfl,by kernel_rfl⟩
 . rfl
|apply zD8 rfl
 . conv => lhs; whnf
 . conv => lhs; whnf
 . rfl
 . conv => lhs; whnf; arg 1; whnf
 . first | exact zCT _ n _ (by omega) (by simp only [ByteArray.size_append,zAJ,zAR,List.size_toArray,List.length_append,List.length_cons,List.length_nil,zAq,zAj,Nat.reduceAdd,Int.toNat_natCast]; omega) (by simp only [ByteArray.size_append,zAJ,zAR,List.size_toArray,List.length_append,List.length_cons,List.length_nil,zAq,zAj,Nat.reduceAdd,Int.toNat_natCast]; omega)
 . exact fun _ => rfl
 . exact fun _ => rfl
 . rfl
|show inO _ _ = true; rfl
|apply zFN rfl
 . conv => lhs; whnf
 . conv => lhs; whnf
 . rfl
 . conv => lhs; whnf; arg 1; whnf
 . first | exact zCT _ n _ (by omega) (by simp only [ByteArray.size_append,zAJ,zAR,List.size_toArray,List.length_append,List.length_cons,List.length_nil,zAq,zAj,Nat.reduceAdd,Int.toNat_natCast]; omega) (by simp only [ByteArray.size_append,zAJ,zAR,List.size_toArray,List.length_append,List.length_cons,List.length_nil,zAq,zAj,Nat.reduceAdd,Int.toNat_natCast]; omega) | exact zCT _ n _ (by omega) (by simp only [ByteArray.size_append,zAJ,zAR,List.size_toArray,List.length_append,List.length_cons,List.length_nil,zAq,zAj,Nat.reduceAdd,Int.toNat_natCast] ; omega) (by have:=hin3 ‹_› ; simp only [ByteArray.size_append,zAJ,zAR,List.size_toArray,List.length_append,List.length_cons,List.length_nil,zAq,zAj,Nat.reduceAdd,Int.toNat_natCast] ; omega) | exact zCT _ n _ (by omega) (by simp only [ByteArray.size_append,zAJ,zAR,List.size_toArray,List.length_append,List.length_cons,List.length_nil,zAq,zAj,Nat.reduceAdd,Int.toNat_natCast] ; omega) (by have:=hinL ‹_› ‹_› ; simp only [ByteArray.size_append,zAJ,zAR,List.size_toArray,List.length_append,List.length_cons,List.length_nil,zAq,zAj,Nat.reduceAdd,Int.toNat_natCast] ; omega) | exact ih i hi (ne3 ‹_›) _ (by have:=hin3 ‹_› ; simp only [ByteArray.size_append,zAJ,zAR,List.size_toArray,List.length_append,List.length_cons,List.length_nil,zAq,zAj,Nat.reduceAdd,Int.toNat_natCast] ; omega) | exact ih i hi (neL ‹_›) _ (by have:=hinL ‹_› ‹_› ; simp only [ByteArray.size_append,zAJ,zAR,List.size_toArray,List.length_append,List.length_cons,List.length_nil,zAq,zAj,Nat.reduceAdd,Int.toNat_natCast] ; omega)
 . exact fun _ => rfl
 . exact fun _ => rfl
|refine zB ?_
|refine zM ?_
|refine zk ?_
|refine zV ?_
|refine zd ?_
|apply aw_1
 conv => whnf
 refine ⟨?_,trivial⟩
|apply s_1
 conv => whnf; arg 1; arg 4; arg 3; whnf
 refine ⟨?_,?_⟩
|apply z7 rfl
 . conv => lhs; whnf
 . conv => lhs; whnf; arg 2; whnf
|apply zl rfl
 . conv => lhs; whnf
 . conv => lhs; whnf
 . first | exact hda | exact haa
|apply zr rfl rfl rfl rfl
 . conv => lhs; whnf; arg 1; whnf
 . rfl
|apply zq rfl rfl rfl
 . conv => lhs; whnf
 . conv => lhs; whnf; arg 1; whnf
 . conv => lhs; whnf; arg 1; whnf
 . exact ⟨by kernel_rfl,by kernel_rfl⟩
 . rfl
|apply zw (by kernel_rfl) (by kernel_rfl)
|apply zAd
|apply zAc rfl
 . conv => lhs; whnf
 . conv => lhs; whnf; arg 2; whnf
|apply zAQ rfl
 . conv => lhs; whnf
 . conv => lhs; whnf
 . first | exact hda | exact haa
|apply zAD rfl rfl rfl
 . conv => lhs; whnf
 . rfl
 . rfl
 . conv => lhs; whnf; arg 1; whnf
 . conv => lhs; whnf; arg 1; whnf
 . exact ⟨by kernel_rfl,by kernel_rfl⟩
 . rfl
|exact zX
|exact ze
|exact all_nil
|show List.all _ _ = true; rfl
|show zAB _ _ = true; rfl
|exact ([] : List Nat)
|exact (1000000 : Nat)
|apply zN
 . conv => lhs; whnf; arg 1; arg 1; whnf
|apply zO
 . conv => lhs; whnf; arg 1; arg 1; whnf
|refine zW (by conv => lhs; whnf) ?_ ?_ <;> intro hb
|refine zn ?_
|refine zb ?_
|refine zH ?_
|refine zL ?_
|refine zG ?_
|refine zD rfl ?_
|refine zF rfl ?_
|refine zE ?_
|refine zJ ?_
|refine zC ?_
|refine zK ?_
|refine zHn ⟨?_,?_⟩
|refine zCV ⟨?_,?_⟩
|exact (rfl : _ = V.tup [])
|refine ⟨_,by conv => lhs; whnf; arg 2; whnf,?_⟩; conv => rhs; whnf
|exact trivial
|intro hg)
     all_goals first
      | exact zAN (by omega)
      | ((simp only [ByteArray.size_append,zAJ,zAR,List.size_toArray,List.length_append,List.length_cons,List.length_nil,maxLen,Nat.reduceAdd,Int.toNat_natCast]; omega); done)
      | exact at_ok hb
      | skip
     . have hk : ((gD l i).f 0).n = 2:=by simpa using hb
       have ho : zCF (gD l i) = false:=by simp [zCF,hk]
       refine zY (j':=j - 1) (by omega) ⟨i + 1,by omega,Sub.live ⟨rfl,rfl,rfl,rfl,rfl,trivial⟩ ⟨?_,trivial⟩⟩
       show some (Res.bld _ _ (bl ++ befT K f n l i ++ zBE n (tx (⟨#[46,46,46]⟩ ++ ((gD l i).f 2).s ++ bs (zCe K ((gD l i).f 5).l))))) = _
       rw [hnx,selT,if_neg (by rw [ho]; decide),zD7,if_pos hk,zAr,zAr,zB9,List.append_assoc]; rfl
     . rename_i h2 h3
       have hk : ((gD l i).f 0).n = 3:=by simpa using h3
       have ho : zCF (gD l i) = true:=by simp [zCF,hk]
       have he : tx ((gD l i).f 3).s ≠ []:=s_ne hb
       refine zY (j':=j - 1) (by omega) ⟨i + 1,by omega,Sub.live ⟨rfl,rfl,rfl,rfl,rfl,trivial⟩ ⟨?_,trivial⟩⟩
       show some (Res.bld _ _ (bl ++ befT K f n l i ++ zBE n (tx (⟨#[46,46,46]⟩ ++ (⟨#[32,111,110,32]⟩ ++ ((gD l i).f 3).s) ++ bs (zCe K ((gD l i).f 5).l) ++ ⟨#[32,123]⟩)) ++ selsT K f (n + 1) ((gD l i).f 6).l ++ zBE n (tx ⟨#[125]⟩))) = _
       rw [hnx,selT,if_pos ho,zD7,if_neg (by omega),if_pos hk,if_neg he]
       simp only [zAr,zB9,List.append_assoc]; rfl
     . rename_i h2 h3
       have hk : ((gD l i).f 0).n = 3:=by simpa using h3
       have ho : zCF (gD l i) = true:=by simp [zCF,hk]
       have he : tx ((gD l i).f 3).s = []:=s_eq hb
       refine zY (j':=j - 1) (by omega) ⟨i + 1,by omega,Sub.live ⟨rfl,rfl,rfl,rfl,rfl,trivial⟩ ⟨?_,trivial⟩⟩
       show some (Res.bld _ _ (bl ++ befT K f n l i ++ zBE n (tx (⟨#[46,46,46]⟩ ++ bs (zCe K ((gD l i).f 5).l) ++ ⟨#[32,123]⟩)) ++ selsT K f (n + 1) ((gD l i).f 6).l ++ zBE n (tx ⟨#[125]⟩))) = _
       rw [hnx,selT,if_pos ho,zD7,if_neg (by omega),if_pos hk,if_pos he]
       simp only [zAr,zB9,List.append_assoc]; rfl
     . rename_i h2 h3 ha
       have hk2 : ¬ ((gD l i).f 0).n = 2:=by simpa using h2
       have hk3 : ¬ ((gD l i).f 0).n = 3:=by simpa using h3
       have hl0 : ((gD l i).f 6).l.length = 0:=by have : ((((gD l i).f 6).l.length : Int)) = 0:=by simpa using hb
                                                  omega
       have ho : zCF (gD l i) = false:=by simp [zCF,hk3,hl0]
       have he : tx ((gD l i).f 1).s ≠ []:=s_ne ha
       refine zY (j':=j - 1) (by omega) ⟨i + 1,by omega,Sub.live ⟨rfl,rfl,rfl,rfl,rfl,trivial⟩ ⟨?_,trivial⟩⟩
       show some (Res.bld _ _ (bl ++ befT K f n l i ++ zBE n (tx (((gD l i).f 1).s ++ ⟨#[58,32]⟩ ++ (((gD l i).f 2).s ++ bs (parT K ((gD l i).f 4).l) ++ bs (zCe K ((gD l i).f 5).l)))))) = _
       rw [hnx,selT,if_neg (by rw [ho]; decide),zD7,if_neg hk2,if_neg hk3,if_neg he]
       simp only [zAr,zB9,List.append_assoc]; rfl
     . rename_i h2 h3 ha
       have hk2 : ¬ ((gD l i).f 0).n = 2:=by simpa using h2
       have hk3 : ¬ ((gD l i).f 0).n = 3:=by simpa using h3
       have ho : zCF (gD l i) = true:=op2 h2 hb
       have he : tx ((gD l i).f 1).s ≠ []:=s_ne ha
       refine zY (j':=j - 1) (by omega) ⟨i + 1,by omega,Sub.live ⟨rfl,rfl,rfl,rfl,rfl,trivial⟩ ⟨?_,trivial⟩⟩
       show some (Res.bld _ _ (bl ++ befT K f n l i ++ zBE n (tx (((gD l i).f 1).s ++ ⟨#[58,32]⟩ ++ (((gD l i).f 2).s ++ bs (parT K ((gD l i).f 4).l) ++ bs (zCe K ((gD l i).f 5).l)) ++ ⟨#[32,123]⟩)) ++ selsT K f (n + 1) ((gD l i).f 6).l ++ zBE n (tx ⟨#[125]⟩))) = _
       rw [hnx,selT,if_pos ho,zD7,if_neg hk2,if_neg hk3,if_neg he]
       simp only [zAr,zB9,List.append_assoc]; rfl
     . rename_i h2 h3 ha
       have hk2 : ¬ ((gD l i).f 0).n = 2:=by simpa using h2
       have hk3 : ¬ ((gD l i).f 0).n = 3:=by simpa using h3
       have hl0 : ((gD l i).f 6).l.length = 0:=by have : ((((gD l i).f 6).l.length : Int)) = 0:=by simpa using hb
                                                  omega
       have ho : zCF (gD l i) = false:=by simp [zCF,hk3,hl0]
       have he : tx ((gD l i).f 1).s = []:=s_eq ha
       refine zY (j':=j - 1) (by omega) ⟨i + 1,by omega,Sub.live ⟨rfl,rfl,rfl,rfl,rfl,trivial⟩ ⟨?_,trivial⟩⟩
       show some (Res.bld _ _ (bl ++ befT K f n l i ++ zBE n (tx (⟨#[]⟩ ++ (((gD l i).f 2).s ++ bs (parT K ((gD l i).f 4).l) ++ bs (zCe K ((gD l i).f 5).l)))))) = _
       rw [hnx,selT,if_neg (by rw [ho]; decide),zD7,if_neg hk2,if_neg hk3,if_pos he]
       simp only [zAr,zB9,List.append_assoc]; rfl
     . rename_i h2 h3 ha
       have hk2 : ¬ ((gD l i).f 0).n = 2:=by simpa using h2
       have hk3 : ¬ ((gD l i).f 0).n = 3:=by simpa using h3
       have ho : zCF (gD l i) = true:=op2 h2 hb
       have he : tx ((gD l i).f 1).s = []:=s_eq ha
       refine zY (j':=j - 1) (by omega) ⟨i + 1,by omega,Sub.live ⟨rfl,rfl,rfl,rfl,rfl,trivial⟩ ⟨?_,trivial⟩⟩
       show some (Res.bld _ _ (bl ++ befT K f n l i ++ zBE n (tx (⟨#[]⟩ ++ (((gD l i).f 2).s ++ bs (parT K ((gD l i).f 4).l) ++ bs (zCe K ((gD l i).f 5).l)) ++ ⟨#[32,123]⟩)) ++ selsT K f (n + 1) ((gD l i).f 6).l ++ zBE n (tx ⟨#[125]⟩))) = _
       rw [hnx,selT,if_pos ho,zD7,if_neg hk2,if_neg hk3,if_pos he]
       simp only [zAr,zB9,List.append_assoc]; rfl
     . have : l.length <= i:=zFn hb
       omega
   . have hno : decide ((i : Int) < (l.length : Int)) = true -> False:=fun h => hi (zBF h)
     repeat' (first
|exact (hno ‹_›).elim
|refine zj ?_
|refine za ?_
|refine zAb ?_
|refine zB ?_
|refine zM ?_
|refine zk ?_
|refine zV ?_
|refine zd ?_
|apply aw_1
 conv => whnf
 refine ⟨?_,trivial⟩
|apply s_1
 conv => whnf; arg 1; arg 4; arg 3; whnf
 refine ⟨?_,?_⟩
|apply z7 rfl
 . conv => lhs; whnf
 . conv => lhs; whnf; arg 2; whnf
|apply zl rfl
 . conv => lhs; whnf
 . conv => lhs; whnf
 . first | fail
|apply zr rfl rfl rfl rfl
 . conv => lhs; whnf; arg 1; whnf
 . rfl
|apply zq rfl rfl rfl
 . conv => lhs; whnf
 . conv => lhs; whnf; arg 1; whnf
 . conv => lhs; whnf; arg 1; whnf
 . exact ⟨by kernel_rfl,by kernel_rfl⟩
 . rfl
|apply zw (by kernel_rfl) (by kernel_rfl)
|apply zAd
|apply zAc rfl
 . conv => lhs; whnf
 . conv => lhs; whnf; arg 2; whnf
|apply zAQ rfl
 . conv => lhs; whnf
 . conv => lhs; whnf
 . first | fail
|apply zAD rfl rfl rfl
 . conv => lhs; whnf
 . rfl
 . rfl
 . conv => lhs; whnf; arg 1; whnf
 . conv => lhs; whnf; arg 1; whnf
 . exact ⟨by kernel_rfl,by kernel_rfl⟩
 . rfl
|exact zX
|exact ze
|exact all_nil
|show List.all _ _ = true; rfl
|show zAB _ _ = true; rfl
|exact ([] : List Nat)
|exact (1000000 : Nat)
|apply zN
 . conv => lhs; whnf; arg 1; arg 1; whnf
|apply zO
 . conv => lhs; whnf; arg 1; arg 1; whnf
|refine zW (by conv => lhs; whnf) ?_ ?_ <;> intro hb
|refine zn ?_
|refine zb ?_
|refine zH ?_
|refine zL ?_
|refine zG ?_
|refine zD rfl ?_
|refine zF rfl ?_
|refine zE ?_
|refine zJ ?_
|refine zC ?_
|refine zK ?_
|refine zHn ⟨?_,?_⟩
|refine zCV ⟨?_,?_⟩
|exact (rfl : _ = V.tup [])
|refine ⟨_,by conv => lhs; whnf; arg 2; whnf,?_⟩; conv => rhs; whnf
|exact trivial
|intro hg)
     refine ⟨?_,trivial⟩
     show some (Res.bld _ _ (bl ++ befT K f n l i)) = _
     have e : i = l.length:=by omega
     rw [e,befT,List.take_length]; rfl
theorem sels_acb (K : Nat) : ∀ (f n : Nat) (l : List D) (bl : List UInt8),SelsOk K (f + 1) l -> (∀ i,wideD (gD l i)) -> bulkL l <= 1048576 -> n + f <= 300 -> bl.length + (selsT K (f + 1) n l).length <= 10000000000 + 1000000000 * n ->
 ACB EN Tryz.prog 167 [.bx (pn 0) 0,.sl 57 l,.c (.int .i64 (n : Int))] [.bld 203 5 bl] (.tup []) [.bld 203 5 (bl ++ selsT K (f + 1) n l)]:=by
 intro f
 induction f with
 | zero =>
   intro n l bl h hw hb hn hlen
   exact zF0 K 0 n l bl h hw hb hn hlen fun i hi hne => absurd (h i hi).sub hne
 | succ f ih =>
   intro n l bl h hw hb hn hlen
   refine zF0 K (f + 1) n l bl h hw hb hn hlen fun i hi hne b2 hb2 => ?_
   have hbi:=zAf hi
   have h6:=zAP ((gD l i).f 6)
   have hf6:=wD_f (gD l i) 6
   have hbw:=zv (gD l i)
   exact ih (n + 1) ((gD l i).f 6).l b2 (h i hi).sub (fun j => ((hw i).f 6).l j) (by omega) (by omega) hb2
end Go.Proofs.YtdlnnlglmifceaaGreatDoor
namespace Go.Proofs.YtdlnnlglmifceaaGreatDoor
open Go.RowKit
attribute [local irreducible] wpList Calls Code.wp AW AWo OpOk seqK zAi zAp loopK endK AC zAC Yld Sub
theorem str_eq {l : List UInt8} {e : ByteArray} (h : tx e = l) : V.c (.string (bs l)) = V.c (.string e):=by rw [<- h,zCM]
def zET (k : Int) : List UInt8:=if k = 2 then [109,117,116,97,116,105,111,110] else if k = 3 then [115,117,98,115,99,114,105,112,116,105,111,110] else [113,117,101,114,121]
def varT (K : Nat) (v : D) : List UInt8:=[36] ++ tx (v.f 0).s ++ [58,32] ++ refB (tx ((v.f 1).f 0).s) ((v.f 1).f 1).l ++ (if (v.f 2).b = true then [32,61,32] ++ valT K (v.f 3) else [])
def varsT (K : Nat) (l : List D) : List UInt8:=Lib.join (l.map (varT K)) commaT
def opT (K : Nat) (o : D) : List UInt8:=
 if (o.f 0).n = 1 /\ tx (o.f 1).s = [] /\ (o.f 2).l.length = 0 then [123]
 else zET (o.f 0).n ++ (if tx (o.f 1).s = [] then [] else [32] ++ tx (o.f 1).s) ++ (if (o.f 2).l.length = 0 then [] else [40] ++ varsT K (o.f 2).l ++ [41]) ++ [32,123]
structure VarsOk (K : Nat) (l : List D) : Prop where
 wide : ∀ i,wideD (gD l i)
 bulk : bulkL l <= 1048576
 dp : ∀ i,i < l.length -> Dp K ((gD l i).f 3)
 good : ∀ i,i < l.length -> goodV K ((gD l i).f 3)
theorem varT_len (K : Nat) (v : D) (h : wideD v) : (varT K v).length + 2 <= 40 * bulkD v:=by
 have h1:=zBS K (v.f 3) (h.f 3)
 have h2:=zv (v.f 3)
 have h3:=zv v
 have h4:=zAn (v.f 0)
 have h5:=zAv v 4
 have h6:=zAj (v.f 0).s
 have h7:=zCp (tx ((v.f 1).f 0).s) ((v.f 1).f 1).l
 have h8:=zAv (v.f 1) 2
 have h9:=zAn ((v.f 1).f 0)
 have h10:=zAj ((v.f 1).f 0).s
 have h11:=Nat.le_trans (zA0 ((v.f 1).f 1).l) (zAP ((v.f 1).f 1))
 simp only [sumN] at h5 h8
 unfold varT
 split <;> simp only [List.length_append,List.length_cons,List.length_nil] <;> omega
theorem zFs (K : Nat) (l : List D) (h : ∀ i,wideD (gD l i)) : (varsT K l).length <= 40 * bulkL l:=zBI l _ _ _ fun i _ => varT_len K _ (h i)
theorem refP_d (x : D) (hn : (x.f 0).s.size <= 2000000) (hl : (x.f 1).l.length <= 2000000) : AC EN Tryz.prog 169 [.agg (cellsV Tryz.prog 12 59 x)] (.c (.string (bs (refB (tx (x.f 0).s) (x.f 1).l)))):=by
 have:=refP_ac (tx (x.f 0).s) (x.f 1).l (by rw [zAj]; exact hn) hl
 rw [zCM] at this
 exact this
structure VarSz (K : Nat) (v : D) : Prop where
 name : (v.f 0).s.size <= 1048576
 rname : ((v.f 1).f 0).s.size <= 1048576
 wraps : ((v.f 1).f 1).l.length <= 1048576
 rtext : (refB (tx ((v.f 1).f 0).s) ((v.f 1).f 1).l).length <= 4000000
 dflt : bulkD (v.f 3) <= 1048576
 dtext : (valT K (v.f 3)).length <= 26000000
theorem VarsOk.sz {K : Nat} {l : List D} (h : VarsOk K l) {i : Nat} (hi : i < l.length) : VarSz K (gD l i):=by
 have h0:=zAf hi
 have h0':=h.bulk
 have h1:=zBS K ((gD l i).f 3) ((h.wide i).f 3)
 have h2:=zv ((gD l i).f 3)
 have h3:=zv (gD l i)
 have h4:=zAn ((gD l i).f 0)
 have h5:=zAv (gD l i) 4
 have h7:=zCp (tx (((gD l i).f 1).f 0).s) (((gD l i).f 1).f 1).l
 have h8:=zAv ((gD l i).f 1) 2
 have h9:=zAn (((gD l i).f 1).f 0)
 have h10:=zAj (((gD l i).f 1).f 0).s
 have h11:=Nat.le_trans (zA0 (((gD l i).f 1).f 1).l) (zAP (((gD l i).f 1).f 1))
 simp only [sumN] at h5 h8
 refine ⟨?_,?_,?_,?_,?_,?_⟩ <;> omega
theorem word_ac (k : Int) : AC EN Tryz.prog 168 [.c (.int .i64 k)] (.c (.string (bs (zET k)))):=by
 refine zh 8 Tryz.func168 rfl rfl rfl rfl ?_
 intro s w he
 repeat' (first
|refine zB ?_
|refine zM ?_
|refine zk ?_
|refine zV ?_
|refine zd ?_
|apply aw_1
 conv => whnf
 refine ⟨?_,trivial⟩
|apply s_1
 conv => whnf; arg 1; arg 4; arg 3; whnf
 refine ⟨?_,?_⟩
|apply z7 rfl
 . conv => lhs; whnf
 . conv => lhs; whnf; arg 2; whnf
|apply zN
 . conv => lhs; whnf; arg 1; arg 1; whnf
|apply zO
 . conv => lhs; whnf; arg 1; arg 1; whnf
|refine zW (by conv => lhs; whnf) ?_ ?_ <;> intro hb
|refine zn ?_
|refine zb ?_
|refine zH ?_
|refine zL ?_
|refine zG ?_
|refine zD rfl ?_
|refine zF rfl ?_
|refine zE ?_
|refine zJ ?_
|refine zC ?_
|refine zK ?_
|refine z8 ?_
|refine zI ?_
|refine ⟨_,by conv => lhs; whnf; arg 2; whnf,?_⟩; conv => rhs; whnf
|exact trivial
|intro hg)
 . rw [zET,if_pos (by simpa using hb)]; rfl
 . rename_i h2
   rw [zET,if_neg (by simpa using h2),if_pos (by simpa using hb)]; rfl
 . rename_i h2
   rw [zET,if_neg (by simpa using h2),if_neg (by simpa using hb)]; rfl
theorem zFr (k : Int) : (zET k).length <= 12:=by
 unfold zET
 split
 . simp
 . split <;> simp
def zCl (o : D) : List UInt8:=zET (o.f 0).n ++ (if tx (o.f 1).s = [] then [] else [32] ++ tx (o.f 1).s)
noncomputable def HhA (o : D) : Vst 72:=stS 72 [(1,.bx 1 0)] [(1,.box 47 (cellsV Tryz.prog 12 47 o))]
noncomputable def HhB (o : D) : Vst 72:=stS 72 [(1,.bx 1 0),(3,.c (.string (bs (zCl o))))] [(1,.box 47 (cellsV Tryz.prog 12 47 o))]
theorem leq0 {n : Nat} (h : (((n : Int)) == 0) = true) : n = 0:=by
 have : (n : Int) = 0:=by simpa using h
 omega
noncomputable def HhP (K : Nat) (o : D) (i : Nat) : Vst 72:=
 stS 72 [(3,.c (.string (bs (zCl o)))),(4,.own 4 9 (zAH (fun i => varT K (gD (o.f 2).l i)) i)),(34,.sl 64 (o.f 2).l),(35,.c (.int .i64 (o.f 2).l.length)),(36,.c (.int .i64 i))] [(4,.tok 9 (zAH (fun i => varT K (gD (o.f 2).l i)) i).length)]
theorem opHead_ac (K : Nat) (o : D) (h : VarsOk K (o.f 2).l) (hn : (o.f 1).s.size <= 1048576) : AC EN Tryz.prog 136 [.agg (cellsV Tryz.prog 12 47 o)] (.c (.string (bs (opT K o)))):=by
 have hw:=word_ac (o.f 0).n
 have hwl:=zFr (o.f 0).n
 have hll:=Nat.le_trans (zA0 (o.f 2).l) h.bulk
 have hvl : (varsT K (o.f 2).l).length <= 50000000:=by have:=zFs K _ h.wide; have:=h.bulk; omega
 have hj:=zBp (zAH (fun i => varT K (gD (o.f 2).l i)) (o.f 2).l.length) [44,32] (by rw [zAe]; omega) (by rw [zA3]; exact Nat.le_trans hvl (by omega))
 rw [zA3] at hj
 have hnl : (zCl o).length <= 1048600:=by
  have:=zAj (o.f 1).s
  unfold zCl
  split <;> simp only [List.length_append,List.length_cons,List.length_nil] <;> omega
 by_cases hc : (o.f 0).n = 1 /\ tx (o.f 1).s = [] /\ (o.f 2).l.length = 0
 . have k1 : (((o.f 0).n == 1) == true) = false -> False:=fun h => by rw [hc.1] at h; cases h
   have k2 : (((o.f 1).s.toList == (⟨#[]⟩ : ByteArray).toList) == true) = false -> False:=fun h => e_ne (bF1 h) hc.2.1
   have k3 : ((((o.f 2).l.length : Int)) == 0) = false -> False:=fun h => by rw [hc.2.2] at h; cases h
   refine zh 72 Tryz.func136 rfl rfl rfl rfl ?_
   intro s w he
   repeat' (first
|exact (k1 ‹_›).elim
|exact (k2 ‹_›).elim
|exact (k3 ‹_›).elim
|refine zj ?_
|refine za ?_
|refine zAb ?_
|refine zB ?_
|refine zM ?_
|refine zk ?_
|refine zV ?_
|refine zd ?_
|apply aw_1
 conv => whnf
 refine ⟨?_,trivial⟩
|apply zp rfl rfl
 . conv => lhs; whnf
 . conv => lhs; whnf
 . first | exact bT1 ‹_› | exact bT2 ‹_›
|apply zo rfl rfl
 . conv => lhs; whnf
 . conv => lhs; whnf
 . first | exact bF1 ‹_› | exact bF2 ‹_›
|apply s_1
 conv => whnf; arg 1; arg 4; arg 3; whnf
 refine ⟨?_,?_⟩
|apply z7 rfl
 . conv => lhs; whnf
 . conv => lhs; whnf; arg 2; whnf
|apply zl rfl
 . conv => lhs; whnf
 . conv => lhs; whnf
 . first | exact hw
|apply zAV rfl rfl rfl rfl
 . conv => lhs; whnf; arg 1; whnf
 . rfl
|apply zr rfl rfl rfl rfl
 . conv => lhs; whnf; arg 1; whnf
 . rfl
|apply zq rfl rfl rfl
 . conv => lhs; whnf
 . conv => lhs; whnf; arg 1; whnf
 . conv => lhs; whnf; arg 1; whnf
 . exact ⟨by kernel_rfl,by kernel_rfl⟩
 . rfl
|apply zAu rfl rfl
 . conv => lhs; whnf
 . first | (conv => lhs; whnf; arg 1; whnf)
 . first | exact fun _ => rfl | (intro _; kernel_rfl)
 . conv => lhs; whnf
 . conv => lhs; whnf; arg 1; whnf
 . conv => lhs; whnf
|apply zx rfl rfl rfl rfl
 . first | (conv => lhs; whnf; arg 1; whnf)
 . first | exact fun _ => rfl | (intro _; kernel_rfl)
 . conv => lhs; whnf
 . conv => lhs; whnf
|apply zAU rfl rfl
 . conv => lhs; whnf
 . first | (conv => lhs; whnf; arg 1; whnf)
|apply zAT rfl rfl
 . conv => lhs; whnf
 . first | (conv => lhs; whnf; arg 1; whnf)
 . conv => lhs; whnf; arg 1; whnf
 . rfl
 . rfl
|apply zAO rfl rfl
 . conv => lhs; whnf
 . first | (conv => lhs; whnf; arg 1; whnf)
 . first | exact fun _ => rfl | (intro _; kernel_rfl)
 . conv => lhs; whnf
 . conv => lhs; whnf
|apply zS rfl
 . conv => lhs; whnf
 . conv => lhs; whnf
 . first | rfl | assumption
 . conv => lhs; whnf; arg 2; whnf
|apply zR rfl
 . conv => lhs; whnf
 . conv => lhs; whnf
 . first | rfl | assumption
 . conv => lhs; whnf
 . first | exact hw
|apply zA6 rfl
 . conv => lhs; whnf
 . conv => lhs; whnf
 . first | rfl | assumption
|apply zm rfl
 . conv => lhs; whnf
 . conv => lhs; whnf
 . conv => lhs; whnf; arg 2; whnf
|apply zi rfl
 . conv => lhs; whnf
 . conv => lhs; whnf
 . conv => lhs; whnf
 . first | exact hw
|apply zw (by kernel_rfl) (by kernel_rfl)
|apply zAd
|apply zAg rfl rfl
 . conv => lhs; whnf
 . conv => lhs; whnf
 . first | exact bT1 ‹_› | exact bT2 ‹_›
|apply zAY rfl rfl
 . conv => lhs; whnf
 . conv => lhs; whnf
 . first | exact bF1 ‹_› | exact bF2 ‹_›
|apply zAc rfl
 . conv => lhs; whnf
 . conv => lhs; whnf; arg 2; whnf
|apply zAQ rfl
 . conv => lhs; whnf
 . conv => lhs; whnf
 . first | exact hw
|apply zAD rfl rfl rfl
 . conv => lhs; whnf
 . rfl
 . rfl
 . conv => lhs; whnf; arg 1; whnf
 . conv => lhs; whnf; arg 1; whnf
 . exact ⟨by kernel_rfl,by kernel_rfl⟩
 . rfl
|apply zAz rfl rfl
 . conv => lhs; whnf
 . first | (conv => lhs; whnf; arg 1; whnf)
 . first | exact fun _ => rfl | (intro _; kernel_rfl)
 . conv => lhs; whnf
 . rfl
 . rfl
 . conv => lhs; whnf; arg 1; whnf
 . conv => lhs; whnf
|apply zAa rfl rfl
 . conv => lhs; whnf
 . first | (conv => lhs; whnf; arg 1; whnf)
|apply zAZ rfl rfl
 . conv => lhs; whnf
 . first | (conv => lhs; whnf; arg 1; whnf)
 . conv => lhs; whnf; arg 1; whnf
 . rfl
 . rfl
|apply zAS rfl rfl
 . conv => lhs; whnf
 . first | (conv => lhs; whnf; arg 1; whnf)
 . first | exact fun _ => rfl | (intro _; kernel_rfl)
 . conv => lhs; whnf
 . conv => lhs; whnf
|apply zy rfl
 . conv => lhs; whnf
 . conv => lhs; whnf
 . first | rfl | assumption
 . conv => lhs; whnf; arg 2; whnf
|apply zt rfl
 . conv => lhs; whnf
 . conv => lhs; whnf
 . first | rfl | assumption
 . conv => lhs; whnf
 . first | exact hw
|apply zA1 rfl
 . conv => lhs; whnf
 . conv => lhs; whnf
 . first | rfl | assumption
|apply zAE rfl
 . conv => lhs; whnf
 . conv => lhs; whnf
 . conv => lhs; whnf; arg 2; whnf
|apply zAA rfl
 . conv => lhs; whnf
 . conv => lhs; whnf
 . conv => lhs; whnf
 . first | exact hw
|exact zX
|exact ze
|exact all_nil
|show List.all _ _ = true; rfl
|show zAB _ _ = true; rfl
|exact ([] : List Nat)
|exact (1000000 : Nat)
|apply zN
 . conv => lhs; whnf; arg 1; arg 1; whnf
|apply zO
 . conv => lhs; whnf; arg 1; arg 1; whnf
|refine zW (by conv => lhs; whnf) ?_ ?_ <;> intro hb
|refine zn ?_
|refine zb ?_
|refine zH ?_
|refine zL ?_
|refine zG ?_
|refine zD rfl ?_
|refine zF rfl ?_
|refine zE ?_
|refine zJ ?_
|refine zC ?_
|refine zK ?_
|refine z8 ?_
|refine zI ?_
|refine ⟨_,by conv => lhs; whnf; arg 2; whnf,?_⟩; conv => rhs; whnf
|exact trivial
|intro hg)
   rw [opT,if_pos hc]; rfl
 . have kf : (((o.f 0).n == 1) == true) = true -> (((o.f 1).s.toList == (⟨#[]⟩ : ByteArray).toList) == true) = true -> ((((o.f 2).l.length : Int)) == 0) = true -> False:=fun h1 h2 h3 => hc ⟨by simpa using bT1 h1,e_eq (bT1 h2),leq0 h3⟩
   refine zh 72 Tryz.func136 rfl rfl rfl rfl ?_
   intro s w he
   repeat' (first
|apply zBV 3 (HhA o) rfl
|apply zBV 6 (HhB o) rfl
|exact (kf ‹_› ‹_› ‹_›).elim
|refine zj ?_
|refine za ?_
|refine zAb ?_
|refine zB ?_
|refine zM ?_
|refine zk ?_
|refine zV ?_
|refine zd ?_
|apply aw_1
 conv => whnf
 refine ⟨?_,trivial⟩
|apply zp rfl rfl
 . conv => lhs; whnf
 . conv => lhs; whnf
 . first | exact bT1 ‹_› | exact bT2 ‹_›
|apply zo rfl rfl
 . conv => lhs; whnf
 . conv => lhs; whnf
 . first | exact bF1 ‹_› | exact bF2 ‹_›
|apply s_1
 conv => whnf; arg 1; arg 4; arg 3; whnf
 refine ⟨?_,?_⟩
|apply z7 rfl
 . conv => lhs; whnf
 . conv => lhs; whnf; arg 2; whnf
|apply zl rfl
 . conv => lhs; whnf
 . conv => lhs; whnf
 . first | exact hw
|apply zAV rfl rfl rfl rfl
 . conv => lhs; whnf; arg 1; whnf
 . rfl
|apply zr rfl rfl rfl rfl
 . conv => lhs; whnf; arg 1; whnf
 . rfl
|apply zq rfl rfl rfl
 . conv => lhs; whnf
 . conv => lhs; whnf; arg 1; whnf
 . conv => lhs; whnf; arg 1; whnf
 . exact ⟨by kernel_rfl,by kernel_rfl⟩
 . rfl
|apply zAu rfl rfl
 . conv => lhs; whnf
 . first | (conv => lhs; whnf; arg 1; whnf)
 . first | exact fun _ => rfl | (intro _; kernel_rfl)
 . conv => lhs; whnf
 . conv => lhs; whnf; arg 1; whnf
 . conv => lhs; whnf
|apply zx rfl rfl rfl rfl
 . first | (conv => lhs; whnf; arg 1; whnf)
 . first | exact fun _ => rfl | (intro _; kernel_rfl)
 . conv => lhs; whnf
 . conv => lhs; whnf
|apply zAU rfl rfl
 . conv => lhs; whnf
 . first | (conv => lhs; whnf; arg 1; whnf)
|apply zAT rfl rfl
 . conv => lhs; whnf
 . first | (conv => lhs; whnf; arg 1; whnf)
 . conv => lhs; whnf; arg 1; whnf
 . rfl
 . rfl
|apply zAO rfl rfl
 . conv => lhs; whnf
 . first | (conv => lhs; whnf; arg 1; whnf)
 . first | exact fun _ => rfl | (intro _; kernel_rfl)
 . conv => lhs; whnf
 . conv => lhs; whnf
|apply zS rfl
 . conv => lhs; whnf
 . conv => lhs; whnf
 . first | rfl | assumption
 . conv => lhs; whnf; arg 2; whnf
|apply zR rfl
 . conv => lhs; whnf
 . conv => lhs; whnf
 . first | rfl | assumption
 . conv => lhs; whnf
 . first | exact hw
|apply zA6 rfl
 . conv => lhs; whnf
 . conv => lhs; whnf
 . first | rfl | assumption
|apply zm rfl
 . conv => lhs; whnf
 . conv => lhs; whnf
 . conv => lhs; whnf; arg 2; whnf
|apply zi rfl
 . conv => lhs; whnf
 . conv => lhs; whnf
 . conv => lhs; whnf
 . first | exact hw
|apply zw (by kernel_rfl) (by kernel_rfl)
|apply zAd
|apply zAg rfl rfl
 . conv => lhs; whnf
 . conv => lhs; whnf
 . first | exact bT1 ‹_› | exact bT2 ‹_›
|apply zAY rfl rfl
 . conv => lhs; whnf
 . conv => lhs; whnf
 . first | exact bF1 ‹_› | exact bF2 ‹_›
|apply zAc rfl
 . conv => lhs; whnf
 . conv => lhs; whnf; arg 2; whnf
|apply zAQ rfl
 . conv => lhs; whnf
 . conv => lhs; whnf
 . first | exact hw
|apply zAD rfl rfl rfl
 . conv => lhs; whnf
 . rfl
 . rfl
 . conv => lhs; whnf; arg 1; whnf
 . conv => lhs; whnf; arg 1; whnf
 . exact ⟨by kernel_rfl,by kernel_rfl⟩
 . rfl
|apply zAz rfl rfl
 . conv => lhs; whnf
 . first | (conv => lhs; whnf; arg 1; whnf)
 . first | exact fun _ => rfl | (intro _; kernel_rfl)
 . conv => lhs; whnf
 . rfl
 . rfl
 . conv => lhs; whnf; arg 1; whnf
 . conv => lhs; whnf
|apply zAa rfl rfl
 . conv => lhs; whnf
 . first | (conv => lhs; whnf; arg 1; whnf)
|apply zAZ rfl rfl
 . conv => lhs; whnf
 . first | (conv => lhs; whnf; arg 1; whnf)
 . conv => lhs; whnf; arg 1; whnf
 . rfl
 . rfl
|apply zAS rfl rfl
 . conv => lhs; whnf
 . first | (conv => lhs; whnf; arg 1; whnf)
 . first | exact fun _ => rfl | (intro _; kernel_rfl)
 . conv => lhs; whnf
 . conv => lhs; whnf
|apply zy rfl
 . conv => lhs; whnf
 . conv => lhs; whnf
 . first | rfl | assumption
 . conv => lhs; whnf; arg 2; whnf
|apply zt rfl
 . conv => lhs; whnf
 . conv => lhs; whnf
 . first | rfl | assumption
 . conv => lhs; whnf
 . first | exact hw
|apply zA1 rfl
 . conv => lhs; whnf
 . conv => lhs; whnf
 . first | rfl | assumption
|apply zAE rfl
 . conv => lhs; whnf
 . conv => lhs; whnf
 . conv => lhs; whnf; arg 2; whnf
|apply zAA rfl
 . conv => lhs; whnf
 . conv => lhs; whnf
 . conv => lhs; whnf
 . first | exact hw
|exact zX
|exact ze
|exact all_nil
|show List.all _ _ = true; rfl
|show zAB _ _ = true; rfl
|exact ([] : List Nat)
|exact (1000000 : Nat)
|apply zN
 . conv => lhs; whnf; arg 1; arg 1; whnf
|apply zO
 . conv => lhs; whnf; arg 1; arg 1; whnf
|refine zW (by conv => lhs; whnf) ?_ ?_ <;> intro hb
|refine zn ?_
|refine zb ?_
|refine zH ?_
|refine zL ?_
|refine zG ?_
|refine zD rfl ?_
|refine zF rfl ?_
|refine zE ?_
|refine zJ ?_
|refine zC ?_
|refine zK ?_
|refine z8 ?_
|refine zI ?_
|refine ⟨_,by conv => lhs; whnf; arg 2; whnf,?_⟩; conv => rhs; whnf
|exact trivial
|intro hg)
   all_goals first
    | exact Sub.live ⟨rfl,trivial⟩ ⟨rfl,trivial⟩
    | ((simp only [ByteArray.size_append,zAJ,zAR,List.size_toArray,List.length_append,List.length_cons,List.length_nil,maxLen,Nat.reduceAdd,Int.toNat_natCast]; omega); done)
    | skip
   . have hne : ¬ tx (o.f 1).s = []:=s_ne hb
     refine Sub.live ⟨rfl,?_,trivial⟩ ⟨rfl,trivial⟩
     show V.c (.string (bs (zET (o.f 0).n) ++ (⟨#[32]⟩ ++ (o.f 1).s))) = V.c (.string (bs (zCl o)))
     refine (str_eq ?_).symm
     rw [zCl,if_neg hne]
     simp only [zAr,zB9]; rfl
   . have hne : tx (o.f 1).s = []:=s_eq hb
     refine Sub.live ⟨rfl,?_,trivial⟩ ⟨rfl,trivial⟩
     show V.c (.string (bs (zET (o.f 0).n))) = V.c (.string (bs (zCl o)))
     rw [zCl,if_pos hne,List.append_nil]
   . refine zAF (Sub.own (t:=4) (e:=9) rfl rfl) ?_
     refine zAG (fun j st => ∃ i,i + j = (o.f 2).l.length /\ Sub (cx EN Tryz.prog s w he) st (HhP K o i)) (o.f 2).l.length ⟨0,by omega,?_⟩ ?_
     . exact Sub.live ⟨rfl,rfl,rfl,rfl,rfl,trivial⟩ ⟨rfl,trivial⟩
     . rintro j st ⟨i,hij,hs2⟩
       refine zAF hs2 ?_
       have htk:=zAe (fun i => varT K (gD (o.f 2).l i)) i
       have hj2 : decide ((i : Int) < ((o.f 2).l.length : Int)) = false -> AC EN Tryz.prog 98 [.sl 9 (zAH (fun i => varT K (gD (o.f 2).l i)) i),.c (.string (bs [44,32]))] (.c (.string (bs (varsT K (o.f 2).l)))):=fun hh => by
        have e : i = (o.f 2).l.length:=by have:=zFn hh; omega
        rw [e]; exact hj
       have hv : decide ((i : Int) < ((o.f 2).l.length : Int)) = true -> AC EN Tryz.prog 170 [.agg (cellsV Tryz.prog 12 62 ((gD (o.f 2).l i).f 3))] (.c (.string (bs (valT K ((gD (o.f 2).l i).f 3))))):=fun hh =>
        zCw K _ (h.dp i (zBF hh)) ((h.wide i).f 3) (h.good i (zBF hh)) (h.sz (zBF hh)).dflt
       have hr : decide ((i : Int) < ((o.f 2).l.length : Int)) = true -> AC EN Tryz.prog 169 [.agg (cellsV Tryz.prog 12 59 ((gD (o.f 2).l i).f 1))] (.c (.string (bs (refB (tx (((gD (o.f 2).l i).f 1).f 0).s) (((gD (o.f 2).l i).f 1).f 1).l)))):=fun hh => by
        have z:=h.sz (zBF hh)
        exact refP_d _ (Nat.le_trans z.rname (by omega)) (Nat.le_trans z.wraps (by omega))
       have z : i < (o.f 2).l.length -> VarSz K (gD (o.f 2).l i):=fun hh => h.sz hh
       by_cases hi : i < (o.f 2).l.length
       . obtain ⟨z1,z2,z3,z4,z5,z6⟩:=z hi
         repeat' (first
|refine zB ?_
|refine zM ?_
|refine zk ?_
|refine zV ?_
|refine zd ?_
|apply aw_1
 conv => whnf
 refine ⟨?_,trivial⟩
|apply zp rfl rfl
 . conv => lhs; whnf
 . conv => lhs; whnf
 . first | exact bT1 ‹_› | exact bT2 ‹_›
|apply zo rfl rfl
 . conv => lhs; whnf
 . conv => lhs; whnf
 . first | exact bF1 ‹_› | exact bF2 ‹_›
|apply s_1
 conv => whnf; arg 1; arg 4; arg 3; whnf
 refine ⟨?_,?_⟩
|apply z7 rfl
 . conv => lhs; whnf
 . conv => lhs; whnf; arg 2; whnf
|apply zl rfl
 . conv => lhs; whnf
 . conv => lhs; whnf
 . first | exact hv ‹_› | exact hr ‹_› | exact hj2 ‹_›
|apply zAV rfl rfl rfl rfl
 . conv => lhs; whnf; arg 1; whnf
 . rfl
|apply zr rfl rfl rfl rfl
 . conv => lhs; whnf; arg 1; whnf
 . rfl
|apply zq rfl rfl rfl
 . conv => lhs; whnf
 . conv => lhs; whnf; arg 1; whnf
 . conv => lhs; whnf; arg 1; whnf
 . exact ⟨by kernel_rfl,by kernel_rfl⟩
 . rfl
|apply zAu rfl rfl
 . conv => lhs; whnf
 . first | exact zZ | (conv => lhs; whnf; arg 1; whnf)
 . first | exact fun _ => rfl | (intro _; kernel_rfl)
 . conv => lhs; whnf
 . conv => lhs; whnf; arg 1; whnf
 . conv => lhs; whnf
|apply zx rfl rfl rfl rfl
 . first | exact zZ | (conv => lhs; whnf; arg 1; whnf)
 . first | exact fun _ => rfl | (intro _; kernel_rfl)
 . conv => lhs; whnf
 . conv => lhs; whnf
|apply zAU rfl rfl
 . conv => lhs; whnf
 . first | exact zZ | (conv => lhs; whnf; arg 1; whnf)
|apply zAT rfl rfl
 . conv => lhs; whnf
 . first | exact zZ | (conv => lhs; whnf; arg 1; whnf)
 . conv => lhs; whnf; arg 1; whnf
 . rfl
 . rfl
|apply zAO rfl rfl
 . conv => lhs; whnf
 . first | exact zZ | (conv => lhs; whnf; arg 1; whnf)
 . first | exact fun _ => rfl | (intro _; kernel_rfl)
 . conv => lhs; whnf
 . conv => lhs; whnf
|apply zS rfl
 . conv => lhs; whnf
 . conv => lhs; whnf
 . first | rfl | assumption
 . conv => lhs; whnf; arg 2; whnf
|apply zR rfl
 . conv => lhs; whnf
 . conv => lhs; whnf
 . first | rfl | assumption
 . conv => lhs; whnf
 . first | exact hv ‹_› | exact hr ‹_› | exact hj2 ‹_›
|apply zA6 rfl
 . conv => lhs; whnf
 . conv => lhs; whnf
 . first | rfl | assumption
|apply zm rfl
 . conv => lhs; whnf
 . conv => lhs; whnf
 . conv => lhs; whnf; arg 2; whnf
|apply zi rfl
 . conv => lhs; whnf
 . conv => lhs; whnf
 . conv => lhs; whnf
 . first | exact hv ‹_› | exact hr ‹_› | exact hj2 ‹_›
|apply zw (by kernel_rfl) (by kernel_rfl)
|apply zAd
|apply zAg rfl rfl
 . conv => lhs; whnf
 . conv => lhs; whnf
 . first | exact bT1 ‹_› | exact bT2 ‹_›
|apply zAY rfl rfl
 . conv => lhs; whnf
 . conv => lhs; whnf
 . first | exact bF1 ‹_› | exact bF2 ‹_›
|apply zAc rfl
 . conv => lhs; whnf
 . conv => lhs; whnf; arg 2; whnf
|apply zAQ rfl
 . conv => lhs; whnf
 . conv => lhs; whnf
 . first | exact hv ‹_› | exact hr ‹_› | exact hj2 ‹_›
|apply zAD rfl rfl rfl
 . conv => lhs; whnf
 . rfl
 . rfl
 . conv => lhs; whnf; arg 1; whnf
 . conv => lhs; whnf; arg 1; whnf
 . exact ⟨by kernel_rfl,by kernel_rfl⟩
 . rfl
|apply zAz rfl rfl
 . conv => lhs; whnf
 . first | exact zZ | (conv => lhs; whnf; arg 1; whnf)
 . first | exact fun _ => rfl | (intro _; kernel_rfl)
 . conv => lhs; whnf
 . rfl
 . rfl
 . conv => lhs; whnf; arg 1; whnf
 . conv => lhs; whnf
|apply zAa rfl rfl
 . conv => lhs; whnf
 . first | exact zZ | (conv => lhs; whnf; arg 1; whnf)
|apply zAZ rfl rfl
 . conv => lhs; whnf
 . first | exact zZ | (conv => lhs; whnf; arg 1; whnf)
 . conv => lhs; whnf; arg 1; whnf
 . rfl
 . rfl
|apply zAS rfl rfl
 . conv => lhs; whnf
 . first | exact zZ | (conv => lhs; whnf; arg 1; whnf)
 . first | exact fun _ => rfl | (intro _; kernel_rfl)
 . conv => lhs; whnf
 . conv => lhs; whnf
|apply zy rfl
 . conv => lhs; whnf
 . conv => lhs; whnf
 . first | rfl | assumption
 . conv => lhs; whnf; arg 2; whnf
|apply zt rfl
 . conv => lhs; whnf
 . conv => lhs; whnf
 . first | rfl | assumption
 . conv => lhs; whnf
 . first | exact hv ‹_› | exact hr ‹_› | exact hj2 ‹_›
|apply zA1 rfl
 . conv => lhs; whnf
 . conv => lhs; whnf
 . first | rfl | assumption
|apply zAE rfl
 . conv => lhs; whnf
 . conv => lhs; whnf
 . conv => lhs; whnf; arg 2; whnf
|apply zAA rfl
 . conv => lhs; whnf
 . conv => lhs; whnf
 . conv => lhs; whnf
 . first | exact hv ‹_› | exact hr ‹_› | exact hj2 ‹_›
|exact zX
|exact ze
|exact all_nil
|show List.all _ _ = true; rfl
|show zAB _ _ = true; rfl
|exact ([] : List Nat)
|exact (1000000 : Nat)
|apply zN
 . conv => lhs; whnf; arg 1; arg 1; whnf
|apply zO
 . conv => lhs; whnf; arg 1; arg 1; whnf
|refine zW (by conv => lhs; whnf) ?_ ?_ <;> intro hb
|refine zn ?_
|refine zb ?_
|refine zH ?_
|refine zL ?_
|refine zG ?_
|refine zD rfl ?_
|refine zF rfl ?_
|refine zE ?_
|refine zJ ?_
|refine zC ?_
|refine zK ?_
|refine z8 ?_
|refine zI ?_
|refine ⟨_,by conv => lhs; whnf; arg 2; whnf,?_⟩; conv => rhs; whnf
|exact trivial
|intro hg)
         all_goals first
          | exact zAN (by omega)
          | exact zCO (by omega) (by omega)
          | ((simp only [ByteArray.size_append,zAJ,zAR,List.size_toArray,List.length_append,List.length_cons,List.length_nil,maxLen,Nat.reduceAdd,Int.toNat_natCast]; omega); done)
          | exact at_ok hb
          | skip
         . have hhas : ((gD (o.f 2).l i).f 2).b = true:=hb
           refine zY (j':=j - 1) (by omega) ⟨i + 1,by omega,Sub.live ⟨rfl,?_,rfl,rfl,rfl,trivial⟩ ⟨?_,trivial⟩⟩
           . show V.own 4 _ (zAH _ i ++ [.str (⟨#[36]⟩ ++ ((gD (o.f 2).l i).f 0).s ++ ⟨#[58,32]⟩ ++ bs (refB (tx (((gD (o.f 2).l i).f 1).f 0).s) (((gD (o.f 2).l i).f 1).f 1).l) ++ (⟨#[32,61,32]⟩ ++ bs (valT K ((gD (o.f 2).l i).f 3))))]) = _
             rw [zAK,varT,if_pos hhas,<- zz,<- zz,<- zz,<- zz,<- zz,zCM]; rfl
           . show some (Res.tok _ ((zAH _ i).length + 1)) = _
             rw [zAK,List.length_append]; rfl
         . have hhas : ¬ ((gD (o.f 2).l i).f 2).b = true:=by
            have : ((gD (o.f 2).l i).f 2).b = false:=hb
            rw [this]; decide
           refine zY (j':=j - 1) (by omega) ⟨i + 1,by omega,Sub.live ⟨rfl,?_,rfl,rfl,rfl,trivial⟩ ⟨?_,trivial⟩⟩
           . show V.own 4 _ (zAH _ i ++ [.str (⟨#[36]⟩ ++ ((gD (o.f 2).l i).f 0).s ++ ⟨#[58,32]⟩ ++ bs (refB (tx (((gD (o.f 2).l i).f 1).f 0).s) (((gD (o.f 2).l i).f 1).f 1).l))]) = _
             rw [zAK,varT,if_neg hhas,List.append_nil,<- zz,<- zz,<- zz,zCM]; rfl
           . show some (Res.tok _ ((zAH _ i).length + 1)) = _
             rw [zAK,List.length_append]; rfl
         all_goals
          rename_i h0
          have:=zFn h0
          omega
       . have hno : decide ((i : Int) < ((o.f 2).l.length : Int)) = true -> False:=fun h => hi (zBF h)
         have e : i = (o.f 2).l.length:=by omega
         repeat' (first
|exact (hno ‹_›).elim
|refine zj ?_
|refine za ?_
|refine zAb ?_
|refine zB ?_
|refine zM ?_
|refine zk ?_
|refine zV ?_
|refine zd ?_
|apply aw_1
 conv => whnf
 refine ⟨?_,trivial⟩
|apply zp rfl rfl
 . conv => lhs; whnf
 . conv => lhs; whnf
 . first | exact bT1 ‹_› | exact bT2 ‹_›
|apply zo rfl rfl
 . conv => lhs; whnf
 . conv => lhs; whnf
 . first | exact bF1 ‹_› | exact bF2 ‹_›
|apply s_1
 conv => whnf; arg 1; arg 4; arg 3; whnf
 refine ⟨?_,?_⟩
|apply z7 rfl
 . conv => lhs; whnf
 . conv => lhs; whnf; arg 2; whnf
|apply zl rfl
 . conv => lhs; whnf
 . conv => lhs; whnf
 . first | exact hv ‹_› | exact hr ‹_› | exact hj2 ‹_›
|apply zAV rfl rfl rfl rfl
 . conv => lhs; whnf; arg 1; whnf
 . rfl
|apply zr rfl rfl rfl rfl
 . conv => lhs; whnf; arg 1; whnf
 . rfl
|apply zq rfl rfl rfl
 . conv => lhs; whnf
 . conv => lhs; whnf; arg 1; whnf
 . conv => lhs; whnf; arg 1; whnf
 . exact ⟨by kernel_rfl,by kernel_rfl⟩
 . rfl
|apply zAu rfl rfl
 . conv => lhs; whnf
 . first | exact zZ | (conv => lhs; whnf; arg 1; whnf)
 . first | exact fun _ => rfl | (intro _; kernel_rfl)
 . conv => lhs; whnf
 . conv => lhs; whnf; arg 1; whnf
 . conv => lhs; whnf
|apply zx rfl rfl rfl rfl
 . first | exact zZ | (conv => lhs; whnf; arg 1; whnf)
 . first | exact fun _ => rfl | (intro _; kernel_rfl)
 . conv => lhs; whnf
 . conv => lhs; whnf
|apply zAU rfl rfl
 . conv => lhs; whnf
 . first | exact zZ | (conv => lhs; whnf; arg 1; whnf)
|apply zAT rfl rfl
 . conv => lhs; whnf
 . first | exact zZ | (conv => lhs; whnf; arg 1; whnf)
 . conv => lhs; whnf; arg 1; whnf
 . rfl
 . rfl
|apply zAO rfl rfl
 . conv => lhs; whnf
 . first | exact zZ | (conv => lhs; whnf; arg 1; whnf)
 . first | exact fun _ => rfl | (intro _; kernel_rfl)
 . conv => lhs; whnf
 . conv => lhs; whnf
|apply zS rfl
 . conv => lhs; whnf
 . conv => lhs; whnf
 . first | rfl | assumption
 . conv => lhs; whnf; arg 2; whnf
|apply zR rfl
 . conv => lhs; whnf
 . conv => lhs; whnf
 . first | rfl | assumption
 . conv => lhs; whnf
 . first | exact hv ‹_› | exact hr ‹_› | exact hj2 ‹_›
|apply zA6 rfl
 . conv => lhs; whnf
 . conv => lhs; whnf
 . first | rfl | assumption
|apply zm rfl
 . conv => lhs; whnf
 . conv => lhs; whnf
 . conv => lhs; whnf; arg 2; whnf
|apply zi rfl
 . conv => lhs; whnf
 . conv => lhs; whnf
 . conv => lhs; whnf
 . first | exact hv ‹_› | exact hr ‹_› | exact hj2 ‹_›
|apply zw (by kernel_rfl) (by kernel_rfl)
|apply zAd
|apply zAg rfl rfl
 . conv => lhs; whnf
 . conv => lhs; whnf
 . first | exact bT1 ‹_› | exact bT2 ‹_›
|apply zAY rfl rfl
 . conv => lhs; whnf
 . conv => lhs; whnf
 . first | exact bF1 ‹_› | exact bF2 ‹_›
|apply zAc rfl
 . conv => lhs; whnf
 . conv => lhs; whnf; arg 2; whnf
|apply zAQ rfl
 . conv => lhs; whnf
 . conv => lhs; whnf
 . first | exact hv ‹_› | exact hr ‹_› | exact hj2 ‹_›
|apply zAD rfl rfl rfl
 . conv => lhs; whnf
 . rfl
 . rfl
 . conv => lhs; whnf; arg 1; whnf
 . conv => lhs; whnf; arg 1; whnf
 . exact ⟨by kernel_rfl,by kernel_rfl⟩
 . rfl
|apply zAz rfl rfl
 . conv => lhs; whnf
 . first | exact zZ | (conv => lhs; whnf; arg 1; whnf)
 . first | exact fun _ => rfl | (intro _; kernel_rfl)
 . conv => lhs; whnf
 . rfl
 . rfl
 . conv => lhs; whnf; arg 1; whnf
 . conv => lhs; whnf
|apply zAa rfl rfl
 . conv => lhs; whnf
 . first | exact zZ | (conv => lhs; whnf; arg 1; whnf)
|apply zAZ rfl rfl
 . conv => lhs; whnf
 . first | exact zZ | (conv => lhs; whnf; arg 1; whnf)
 . conv => lhs; whnf; arg 1; whnf
 . rfl
 . rfl
|apply zAS rfl rfl
 . conv => lhs; whnf
 . first | exact zZ | (conv => lhs; whnf; arg 1; whnf)
 . first | exact fun _ => rfl | (intro _; kernel_rfl)
 . conv => lhs; whnf
 . conv => lhs; whnf
|apply zy rfl
 . conv => lhs; whnf
 . conv => lhs; whnf
 . first | rfl | assumption
 . conv => lhs; whnf; arg 2; whnf
|apply zt rfl
 . conv => lhs; whnf
 . conv => lhs; whnf
 . first | rfl | assumption
 . conv => lhs; whnf
 . first | exact hv ‹_› | exact hr ‹_› | exact hj2 ‹_›
|apply zA1 rfl
 . conv => lhs; whnf
 . conv => lhs; whnf
 . first | rfl | assumption
|apply zAE rfl
 . conv => lhs; whnf
 . conv => lhs; whnf
 . conv => lhs; whnf; arg 2; whnf
|apply zAA rfl
 . conv => lhs; whnf
 . conv => lhs; whnf
 . conv => lhs; whnf
 . first | exact hv ‹_› | exact hr ‹_› | exact hj2 ‹_›
|exact zX
|exact ze
|exact all_nil
|show List.all _ _ = true; rfl
|show zAB _ _ = true; rfl
|exact ([] : List Nat)
|exact (1000000 : Nat)
|apply zN
 . conv => lhs; whnf; arg 1; arg 1; whnf
|apply zO
 . conv => lhs; whnf; arg 1; arg 1; whnf
|refine zW (by conv => lhs; whnf) ?_ ?_ <;> intro hb
|refine zn ?_
|refine zb ?_
|refine zH ?_
|refine zL ?_
|refine zG ?_
|refine zD rfl ?_
|refine zF rfl ?_
|refine zE ?_
|refine zJ ?_
|refine zC ?_
|refine zK ?_
|refine z8 ?_
|refine zI ?_
|refine ⟨_,by conv => lhs; whnf; arg 2; whnf,?_⟩; conv => rhs; whnf
|exact trivial
|intro hg)
         all_goals first
          | ((simp only [ByteArray.size_append,zAJ,zAR,List.size_toArray,List.length_append,List.length_cons,List.length_nil,maxLen,Nat.reduceAdd,Int.toNat_natCast]; omega); done)
          | skip
         . have hp : ¬ (o.f 2).l.length = 0:=by rw [htk] at hb; have:=of_decide_eq_true hb; omega
           refine str_eq ?_
           rw [opT,if_neg hc,if_neg hp,<- zCl]
           simp only [zAr,zB9,List.append_assoc]; rfl
         . have hp : (o.f 2).l.length = 0:=by rw [htk] at hb; have:=of_decide_eq_false hb; omega
           refine str_eq ?_
           rw [opT,if_neg hc,if_pos hp,<- zCl,List.append_nil]
           simp only [zAr,zB9,List.append_assoc]; rfl
end Go.Proofs.YtdlnnlglmifceaaGreatDoor
namespace Go.Proofs.YtdlnnlglmifceaaGreatDoor
open Go.RowKit
attribute [local irreducible] wpList Calls Code.wp AW AWo OpOk seqK zAi zAp loopK endK AC zAC Yld Sub
attribute [local irreducible] ACB absLexG YldG
def zE1 (K F : Nat) (first : List UInt8) (l : List D) : List UInt8:=zBE 0 first ++ selsT K F 1 l ++ zBE 0 [125]
def opB (K F : Nat) (o : D) : List UInt8:=zE1 K F (opT K o) (o.f 3).l
def zFc (fr : D) : List UInt8:=[102,114,97,103,109,101,110,116,32] ++ tx (fr.f 0).s ++ [32,111,110,32] ++ tx (fr.f 1).s ++ [32,123]
def zCr (K F : Nat) (fr : D) : List UInt8:=zE1 K F (zFc fr) (fr.f 2).l
def docT (K F : Nat) (q : D) : List UInt8:=Lib.join ((q.f 0).l.map (opB K F) ++ (q.f 1).l.map (zCr K F)) [10]
structure DocOk (K f : Nat) (q : D) : Prop where
 wide : wideD q
 bulk : bulkD q <= 1048576
 deep : f <= 299
 vars : ∀ i,i < (q.f 0).l.length -> VarsOk K ((gD (q.f 0).l i).f 2).l
 sels : ∀ i,i < (q.f 0).l.length -> SelsOk K (f + 1) ((gD (q.f 0).l i).f 3).l
 frag : ∀ i,i < (q.f 1).l.length -> SelsOk K (f + 1) ((gD (q.f 1).l i).f 2).l
theorem zDT (K f : Nat) (first : List UInt8) (l : List D) (hw : ∀ i,wideD (gD l i)) (hf : f <= 299) : (zE1 K (f + 1) first l).length <= first.length + 1274 * bulkL l + 3:=by
 have h:=zDx K (f + 1) 1 l hw
 have h2 : (4 * (1 + (f + 1)) + 70) * bulkL l <= 1274 * bulkL l:=Nat.mul_le_mul_right _ (by omega)
 simp only [zE1,List.length_append,zAq,List.length_cons,List.length_nil]
 omega
theorem opT_len (K : Nat) (o : D) (h : wideD o) : (opT K o).length <= 18 + (o.f 1).s.size + 40 * bulkL (o.f 2).l:=by
 have h1:=zFr (o.f 0).n
 have h2:=zAj (o.f 1).s
 have h3:=zFs K (o.f 2).l fun i => (h.f 2).l i
 unfold opT
 split
 . simp; omega
 . split <;> split <;> simp only [List.length_append,List.length_cons,List.length_nil] <;> omega
theorem opB_len (K f : Nat) (o : D) (h : wideD o) (hf : f <= 299) : (opB K (f + 1) o).length + 1 <= 1274 * bulkD o:=by
 have h1:=opT_len K o h
 have h2:=zDT K f (opT K o) (o.f 3).l (fun i => (h.f 3).l i) hf
 have h3:=zAv o 4
 have h4:=zAn (o.f 1)
 have h5:=zAP (o.f 2)
 have h6:=zAP (o.f 3)
 have h7:=zv o
 simp only [sumN] at h3
 unfold opB
 omega
theorem fragB_len (K f : Nat) (o : D) (h : wideD o) (hf : f <= 299) : (zCr K (f + 1) o).length + 1 <= 1274 * bulkD o:=by
 have h2:=zDT K f (zFc o) (o.f 2).l (fun i => (h.f 2).l i) hf
 have h3:=zAv o 3
 have h4:=zAn (o.f 0)
 have h5:=zAn (o.f 1)
 have h6:=zAP (o.f 2)
 have h7:=zv o
 have h8:=zAj (o.f 0).s
 have h9:=zAj (o.f 1).s
 have h1 : (zFc o).length = 15 + (o.f 0).s.size + (o.f 1).s.size:=by simp only [zFc,List.length_append,List.length_cons,List.length_nil]; omega
 simp only [sumN] at h3
 unfold zCr
 omega
theorem zGz (a b : List (List UInt8)) (sep : List UInt8) : (Lib.join (a ++ b) sep).length <= (a.map fun l => l.length + sep.length).sum + (b.map fun l => l.length + sep.length).sum:=by
 refine Nat.le_trans (join_le sep _) ?_
 rw [List.map_append,List.sum_append]
 exact Nat.le_refl _
theorem zEe (l : List D) (f : D -> List UInt8) (s c : Nat) (h : ∀ i,i < l.length -> (f (gD l i)).length + s <= c * bulkD (gD l i)) : ((l.map f).map fun t => t.length + s).sum <= c * bulkL l:=by
 induction l with
 | nil => simp
 | cons x r ih =>
   have h0:=h 0 (by simp)
   have h1:=ih fun i hi => h (i + 1) (by simpa using hi)
   simp only [List.map_cons,List.sum_cons,bulkL,Nat.mul_add]
   have e : gD (x :: r) 0 = x:=rfl
   rw [e] at h0
   omega
theorem zH6 (K f : Nat) (q : D) (h : wideD q) (hf : f <= 299) : (docT K (f + 1) q).length <= 1274 * bulkD q:=by
 have h1:=zGz ((q.f 0).l.map (opB K (f + 1))) ((q.f 1).l.map (zCr K (f + 1))) [10]
 have h2:=zEe (q.f 0).l (opB K (f + 1)) 1 1274 fun i _ => opB_len K f _ ((h.f 0).l i) hf
 have h3:=zEe (q.f 1).l (zCr K (f + 1)) 1 1274 fun i _ => fragB_len K f _ ((h.f 1).l i) hf
 have h4:=zAv q 2
 have h5:=zAP (q.f 0)
 have h6:=zAP (q.f 1)
 have h7:=zv q
 simp only [sumN] at h4
 unfold docT
 simp only [List.length_cons,List.length_nil,Nat.zero_add] at h1
 omega
theorem zIE (K f : Nat) (first : List UInt8) (l : List D) (h : SelsOk K (f + 1) l) (hw : ∀ i,wideD (gD l i)) (hb : bulkL l <= 1048576) (hf : f <= 299) (hs : first.length <= 100000000) :
 AC EN Tryz.prog 135 [.c (.string (bs first)),.sl 57 l] (.c (.string (bs (zE1 K (f + 1) first l)))):=by
 have h1:=zDx K (f + 1) 1 l hw
 have h2 : (4 * (1 + (f + 1)) + 70) * bulkL l <= 1274 * 1048576:=Nat.mul_le_mul (by omega) hb
 have l0 : ACB EN Tryz.prog 166 [.bx (pn 0) 0,.c (.int .i64 0),.c (.string (bs first))] [.bld 203 5 []] (.tup []) [.bld 203 5 (zBE 0 first)]:=
  zCT [] 0 (bs first) (by omega) (by rw [zAJ]; omega) (by simp)
 have l1 : ACB EN Tryz.prog 167 [.bx (pn 0) 0,.sl 57 l,.c (.int .i64 1)] [.bld 203 5 (zBE 0 first)] (.tup []) [.bld 203 5 (zBE 0 first ++ selsT K (f + 1) 1 l)]:=
  sels_acb K f 1 l (zBE 0 first) h hw hb (by omega) (by rw [zAq]; omega)
 have l2 : ACB EN Tryz.prog 166 [.bx (pn 0) 0,.c (.int .i64 0),.c (.string ⟨#[125]⟩)] [.bld 203 5 (zBE 0 first ++ selsT K (f + 1) 1 l)] (.tup []) [.bld 203 5 (zE1 K (f + 1) first l)]:=
  zCT (zBE 0 first ++ selsT K (f + 1) 1 l) 0 ⟨#[125]⟩ (by omega) (by decide) (by rw [List.length_append,zAq]; omega)
 have hl:=zDT K f first l hw hf
 refine zh 13 Tryz.func135 rfl rfl rfl rfl ?_
 intro s w he
 repeat' (first
|apply s_bcall0 rfl
 . conv => lhs; whnf
 . conv => lhs; whnf
 . rfl
 . rfl
 . first | exact l0
 . rfl
 . exact fun _ => rfl
 . exact fun _ => rfl
|apply zFN rfl
 . conv => lhs; whnf
 . conv => lhs; whnf
 . rfl
 . conv => lhs; whnf; arg 1; whnf
 . first | exact l1 | exact l2
 . exact fun _ => rfl
 . exact fun _ => rfl
|apply s_bs rfl
 . conv => lhs; whnf
 . conv => lhs; whnf
 . rfl
 . conv => lhs; whnf; arg 1; whnf
 . exact ⟨rfl,rfl⟩
 . rfl
|refine zB ?_
|refine zM ?_
|refine zk ?_
|refine zV ?_
|refine zd ?_
|apply aw_1
 conv => whnf
 refine ⟨?_,trivial⟩
|apply s_1
 conv => whnf; arg 1; arg 4; arg 3; whnf
 refine ⟨?_,?_⟩
|apply z7 rfl
 . conv => lhs; whnf
 . conv => lhs; whnf; arg 2; whnf
|apply zl rfl
 . conv => lhs; whnf
 . conv => lhs; whnf
 . first | fail
|apply zr rfl rfl rfl rfl
 . conv => lhs; whnf; arg 1; whnf
 . rfl
|apply zN
 . conv => lhs; whnf; arg 1; arg 1; whnf
|apply zO
 . conv => lhs; whnf; arg 1; arg 1; whnf
|refine zW (by conv => lhs; whnf) ?_ ?_ <;> intro hb
|refine zn ?_
|refine zb ?_
|refine zH ?_
|refine zL ?_
|refine zG ?_
|refine zD rfl ?_
|refine zF rfl ?_
|refine zE ?_
|refine zJ ?_
|refine zC ?_
|refine zK ?_
|refine z8 ?_
|refine zI ?_
|refine ⟨_,by conv => lhs; whnf; arg 2; whnf,?_⟩; conv => rhs; whnf
|exact trivial
|intro hg)
 all_goals (unfold maxLen; omega)
end Go.Proofs.YtdlnnlglmifceaaGreatDoor
namespace Go.Proofs.YtdlnnlglmifceaaGreatDoor
structure VarF (v : D) : Prop where
 name : nameB (v.f 0).s = true
 rname : nameB ((v.f 1).f 0).s = true
 rlen : ((v.f 1).f 1).l.length <= 24
 wraps : zDU (((v.f 1).f 1).l.map D.n) = true
 has : (v.f 2).b = true -> litR (v.f 3) = true /\ bareR (bulkD (v.f 3)) (v.f 3) = true
 hasnt : (v.f 2).b = false -> ((v.f 3).f 0).n = 0 /\ ((v.f 3).f 1).n = 0 /\ tx ((v.f 3).f 2).s = [] /\ ((v.f 3).f 3).l.length = 0 /\ ((v.f 3).f 4).l.length = 0
theorem xvar {v : D} (h : varR v = true) : VarF v:=by
 unfold varR refR at h
 simp only [Bool.and_eq_true,decide_eq_true_eq] at h
 obtain ⟨⟨h1,⟨h2,h3⟩,h4⟩,h5⟩:=h
 refine ⟨h1,h2,h3,h4,fun e => ?_,fun e => ?_⟩
 . rw [if_pos e] at h5
   rwa [Bool.and_eq_true] at h5
 . rw [if_neg (by rw [e]; decide)] at h5
   simp only [Bool.and_eq_true,beq_iff_eq,zD5,decide_eq_true_eq] at h5
   exact ⟨h5.1.1.1.1,h5.1.1.1.2,h5.1.1.2,h5.1.2,h5.2⟩
structure OpF (o : D) : Prop where
 kind : 1 <= (o.f 0).n /\ (o.f 0).n <= 3
 name : tx (o.f 1).s = [] \/ nameB (o.f 1).s = true
 vlen : (o.f 2).l.length <= 16
 vars : ∀ i,i < (o.f 2).l.length -> VarF (gD (o.f 2).l i)
 sels : SetF (fun d => selR (bulkL (o.f 3).l) 1 d = true) 1 (o.f 3).l 1
structure FragF (o : D) : Prop where
 name : nameB (o.f 0).s = true
 notOn : tx (o.f 0).s ≠ [111,110]
 on : nameB (o.f 1).s = true
 sels : SetF (fun d => selR (bulkL (o.f 2).l) 1 d = true) 1 (o.f 2).l 1
theorem xop {o : D} (h : opR o = true) : OpF o:=by
 unfold opR setR at h
 simp only [Bool.and_eq_true,Bool.or_eq_true,decide_eq_true_eq,Bool.not_eq_true',zD5] at h
 obtain ⟨⟨⟨⟨h1,h2⟩,h3⟩,h4⟩,h5⟩:=h
 exact ⟨h1,h2,h3,fun i hi => xvar (zCt h4 i hi),xset h5⟩
theorem xfrag {o : D} (h : fragR o = true) : FragF o:=by
 unfold fragR setR at h
 simp only [Bool.and_eq_true] at h
 have ht:=zHV h.1.1
 exact ⟨ht.1,ht.2,h.1.2,xset h.2⟩
structure QueF (q : D) : Prop where
 len : 1 <= (q.f 0).l.length + (q.f 1).l.length /\ (q.f 0).l.length + (q.f 1).l.length <= 64
 ops : ∀ i,i < (q.f 0).l.length -> OpF (gD (q.f 0).l i)
 frags : ∀ i,i < (q.f 1).l.length -> FragF (gD (q.f 1).l i)
theorem xque {q : D} (h : queR q = true) : QueF q:=by
 unfold queR at h
 simp only [Bool.and_eq_true,decide_eq_true_eq,Bool.not_eq_true'] at h
 refine ⟨h.1.1,fun i hi => xop ?_,fun i hi => xfrag (zCt h.2 i hi)⟩
 exact List.all_eq_true.1 h.1.2 _ (gD_mem hi)
def SDp : Nat -> List D -> Prop
 | 0,l => l = []
 | f + 1,l => ∀ i,i < l.length -> SDp f ((gD l i).f 6).l
structure QuePs (f : Nat) (q : D) : Prop where
 right : QueF q
 wide : wideD q
 ops : ∀ i,i < (q.f 0).l.length -> SDp f ((gD (q.f 0).l i).f 3).l
 frags : ∀ i,i < (q.f 1).l.length -> SDp f ((gD (q.f 1).l i).f 2).l
theorem good_of : ∀ (K m : Nat) (d : D),everyL m d = true -> goodV K d
 | 0,_,_,_ => trivial
 | K + 1,0,_,h => by cases h
 | K + 1,m + 1,d,h => by
   obtain ⟨hn,hi⟩:=every_node h
   exact ⟨hn.bool,fun i hl => good_of K m _ (hi i hl)⟩
theorem zHj {K : Nat} {d : D} (h : litR d = true) : goodV K d:=by
 unfold litR at h
 rw [Bool.and_eq_true] at h
 exact good_of K _ d h.2
theorem zBq {l : List D} {i : Nat} (h : i < l.length) (j : Nat) : bulkD ((gD l i).f j) <= bulkL l /\ bulkL ((gD l i).f j).l <= bulkL l:=by
 have h1:=zAf h
 have h2:=wD_f (gD l i) j
 have h3:=zv (gD l i)
 have h4:=zv ((gD l i).f j)
 have h5:=zAP ((gD l i).f j)
 omega
section
variable {K : Nat} (hK : 1048576 <= K)
include hK
theorem zGZ {l : List D} (h : zHJ l = true) (hw : ∀ i,wideD (gD l i)) (hb : bulkL l <= 1048576) : ArgsOk K l:=
 ⟨hw,hb,fun i hi => zDP K _ (by have:=(zBq hi 1).1; omega),fun i hi => zHj ((argsR_all h).2 i hi).2⟩
theorem dirsOk_of {l : List D} (h : dirsR l = true) (hw : ∀ i,wideD (gD l i)) (hb : bulkL l <= 1048576) : DirsOk K l:=
 ⟨hw,hb,fun i hi => zGZ hK ((dirsR_all h).2 i hi).2 (fun q => ((hw i).f 1).l q) (by have:=(zBq hi 1).2; omega)⟩
theorem zDy : ∀ (f k lv : Nat) (l : List D),(∀ i,i < l.length -> selR k lv (gD l i) = true) -> (l.length = 0 \/ lv <= 24) -> 25 <= f + lv -> (∀ i,wideD (gD l i)) -> bulkL l <= 1048576 -> SelsOk K f l
 | 0,_,lv,l,_,h1,h2,_,_ => by
   show l = []
   rcases h1 with h1 | h1
   . exact List.length_eq_zero_iff.1 h1
   . omega
 | f + 1,k,lv,l,h,h1,h2,hw,hb => fun i hi => by
   have h3:=h i hi
   cases k with
   | zero => cases h3
   | succ k =>
     have hs:=xsel h3
     refine ⟨zGZ hK hs.args (fun q => ((hw i).f 4).l q) (by have:=(zBq hi 4).2; omega),dirsOk_of hK hs.dirs (fun q => ((hw i).f 5).l q) (by have:=(zBq hi 5).2; omega),?_,?_⟩
     . rcases hs.kind with e | e | e
       . exact .inl e
       . exact .inr (.inl ⟨e,List.length_eq_zero_iff.1 (hs.spread e).2.2.2.1⟩)
       . refine .inr (.inr ⟨e,fun q => ?_⟩)
         have:=(hs.inline e).2.2.2.2.1
         rw [q] at this
         simp at this
     . have hsub : (∀ j,j < ((gD l i).f 6).l.length -> selR k (lv + 1) (gD ((gD l i).f 6).l j) = true) /\ (((gD l i).f 6).l.length = 0 \/ lv + 1 <= 24):=by
        rcases hs.kind with e | e | e
        . have:=(hs.field e).2.2.2
          exact ⟨this.2.2.2,this.2.2.1⟩
        . have:=(hs.spread e).2.2.2.1
          exact ⟨fun j hj => by omega,.inl this⟩
        . have:=(hs.inline e).2.2.2.2
          exact ⟨this.2.2.2,this.2.2.1⟩
       exact zDy f k (lv + 1) _ hsub.1 hsub.2 (by omega) (fun q => ((hw i).f 6).l q) (by have:=(zBq hi 6).2; omega)
theorem varsOk_of {l : List D} (h : ∀ i,i < l.length -> VarF (gD l i)) (hw : ∀ i,wideD (gD l i)) (hb : bulkL l <= 1048576) : VarsOk K l:=
 ⟨hw,hb,fun i hi => zDP K _ (by have:=(zBq hi 3).1; omega),fun i hi => by
   cases e : ((gD l i).f 2).b with
   | true => exact zHj ((h i hi).has e).1
   | false =>
     obtain ⟨h1,-,-,h4,-⟩:=(h i hi).hasnt e
     cases K with
     | zero => trivial
     | succ K => exact ⟨fun q => by omega,fun j hj => by omega⟩⟩
end
theorem docOk_of {q : D} (h : queR q = true) (hw : wideD q) (hb : bulkD q <= 1048576) : DocOk 1048576 24 q:=by
 have hq:=xque h
 have h0:=wD_f q 0
 have h1:=wD_f q 1
 have h2:=zAP (q.f 0)
 have h3:=zAP (q.f 1)
 have h4:=zv q
 refine ⟨hw,hb,by omega,fun i hi => ?_,fun i hi => ?_,fun i hi => ?_⟩
 . exact varsOk_of (Nat.le_refl _) (hq.ops i hi).vars (fun z => (((hw.f 0).l i).f 2).l z) (by have:=(zBq hi 2).2; omega)
 . exact zDy (Nat.le_refl _) 25 _ 1 _ (hq.ops i hi).sels.2.2.2 (.inr (by omega)) (by omega) (fun z => (((hw.f 0).l i).f 3).l z) (by have:=(zBq hi 3).2; omega)
 . exact zDy (Nat.le_refl _) 25 _ 1 _ (hq.frags i hi).sels.2.2.2 (.inr (by omega)) (by omega) (fun z => (((hw.f 1).l i).f 2).l z) (by have:=(zBq hi 2).2; omega)
end Go.Proofs.YtdlnnlglmifceaaGreatDoor
namespace Go.Proofs.YtdlnnlglmifceaaGreatDoor
open Go.RowKit
attribute [local irreducible] wpList Calls Code.wp
def sg0 (W : World) : Sg:=⟨fun b o => (W.cell? ⟨b,o,none⟩).isSome,fun _ => none,fun _ => none,fun _ => (undef,0)⟩
end Go.Proofs.YtdlnnlglmifceaaGreatDoor
namespace Go.Proofs.YtdlnnlglmifceaaGreatDoor
open Go.ChangeShapes Go.WideShapes Go.ChangeAt Go.RowKit
attribute [local irreducible] wpList Calls Code.wp
theorem zHS : ∀ {l : List D},(∀ i,i < l.length -> wideD (gD l i)) -> wideL l
 | [],_ => trivial
 | d :: r,h => ⟨h 0 (by simp),zHS fun i hi => by
   have:=h (i + 1) (by simpa using hi)
   simpa [gD] using this⟩
theorem arg_in {H : Type} {enc : TypeId × Value -> H} {W : World} {v : Value} {base : Nat} {dw : DataW H} {ps : List MemPlace} {t : TypeId} {fs : Array Field} (ht : Tryz.prog.underlying t = some (.struct fs)) (hv : Value.okWide Tryz.prog W .any base t v)
 (hd : DataW.Trod enc Tryz.prog W 0 (fun _ => true) true t v dw ps) :
 ∃ (k : Nat) (cs : Array Value) (d : D),v = .agg cs /\ Rep Tryz.prog W (fun b => b < W.heap.size) k t cs.toList d /\ Fits Tryz.prog k t d /\ bulkD d <= Rows.uptoBulk dw:=by
 obtain ⟨cs,rfl,_⟩:=okWide_struct ht hv
 obtain ⟨k,hk⟩:=hd
 obtain ⟨d,h1,h2,h3⟩:=zCC hk
 exact ⟨k,cs,d,rfl,by simpa [Value.cells] using h1,h2,h3⟩
theorem rep_len {P : Program} {w : World} {I : Nat -> Prop} {k : Nat} {t : TypeId} {cs : List Value} {d : D} {fs : Array Field} (ht : P.underlying t = some (.struct fs)) (h : Rep P w I k t cs d) : cs.length = P.cellsOf t:=by
 cases k with
 | zero => exact h.elim
 | succ k => unfold Rep at h; rw [ht] at h; exact h.1
theorem cells0 {W : World} {k : Nat} {t : TypeId} {cs : Array Value} {d : D} {fs : Array Field} (ht : Tryz.prog.underlying t = some (.struct fs)) (hl : layB Tryz.prog 12 t = true) (hr : Rep Tryz.prog W (fun b => b < W.heap.size) k t cs.toList d) : rel Tryz.prog (sg0 W) W (.agg (cellsV Tryz.prog 12 t d)) (.agg cs):=by
 rw [rel]
 exact ⟨cs,rfl,zDB (s:=sg0 W) 12 k t cs.toList d (RepF.of_rep hr fun b o _ h => h) (rep_len ht hr) hl⟩
theorem zHD {f : FuncId} {args : List V} {W : World} {us : Array Value} (h : AC EN Tryz.prog f args (.c (.bool true))) (hr : relL Tryz.prog (sg0 W) W args us.toList) (he : EnvT W) : Calls Tryz.prog f us W fun e W' => e = .returned (.bool true) /\ Below W.heap.size W W':=by
 refine (h (sg0 W) W us hr (fun b o h => h) he).mono ?_
 rintro e W' ⟨v,F',rfl,hfr,-,-,-,hv⟩
 rw [rel] at hv
 obtain ⟨rfl,-⟩:=hv
 exact ⟨rfl,hfr.below⟩
def laidL9 : List (String × DataW Unit) := [("math/bits.deBruijn32tab", Rows.laid_math_bits_deBruijn32tab), ("math/bits.deBruijn64tab", Rows.laid_math_bits_deBruijn64tab), ("internal/strconv.uint64pow10", Rows.laid_internal_strconv_uint64pow10)]
theorem zGU {W : World} (h : laidMetH Tryz.prog laidL9 W) : EnvT W:=by
 have h' : laidMet Tryz.prog laidL9 W:=h
 obtain ⟨ps,⟨_,_,_,_,_,_,_,_,_,_,⟨_,_,_,_,_,_,_,_,_,_,⟨g3,t3,c3,f3,p3,q3,a3,b3,e3,d3,_⟩,_⟩,_⟩,_⟩:=h'
 exact tab_of_row gPow gPowT Tryz.underlying241 Tryz.underlying219 (by kernel_rfl) (by kernel_rfl) ⟨g3,t3,c3,f3,p3,a3,b3,e3,d3⟩
end Go.Proofs.YtdlnnlglmifceaaGreatDoor
namespace Go.Proofs.YtdlnnlglmifceaaGreatDoor
open Go.RowKit
section
variable {f : D -> D} {l : List D} (hF : ∀ m,m < l.length -> bulkD (f (gD l m)) + 26 + ((gD l m).f 1).s.size + 4 * ((gD l m).f 5).s.size <= 7 * bulkD (gD l m))
include hF
end
theorem wI {n : Int} (h : decide (-9223372036854775808 <= n /\ n <= 9223372036854775807) = true) : wideD (.int n):=by
 have h2 : -9223372036854775808 <= n /\ n <= 9223372036854775807:=of_decide_eq_true h
 exact h2
theorem wideL_all {l : List D} (h : ∀ i,i < l.length -> wideD (gD l i)) : wideL l:=zHS h
theorem wide_args {d : D} (h : wideD d) : wideL d.l:=wideL_all fun i _ => h.l i
theorem field_wide {sub : ByteArray -> List D -> List D} {p : D} (h : wideD p) (hs : wideL (sub ((p.f 4).f 0).s (p.f 7).l)) : wideD (zCH sub p):=by
 have hn:=(h.f 6).n
 have ha:=wide_args (h.f 3)
 unfold zCH sD31
 refine ⟨wI rfl,trivial,trivial,trivial,ha,?_,hs,trivial⟩
 show wideL _
 split
 . trivial
 . unfold zBX dD31 sArg vD31
   refine ⟨⟨trivial,⟨⟨trivial,⟨wI rfl,wI rfl,trivial,trivial,trivial,trivial⟩,trivial⟩,⟨trivial,⟨wI rfl,hn,trivial,trivial,trivial,trivial⟩,trivial⟩,trivial⟩,trivial⟩,trivial⟩
theorem inl_wide {p : D} {fs : List D} (h : wideL fs) : wideD (inlD p fs):=by
 unfold inlD sD31
 refine ⟨wI rfl,trivial,trivial,trivial,trivial,?_,h,trivial⟩
 show wideL _
 split
 . trivial
 . unfold zDe dD31 sArg vD31
   exact ⟨⟨trivial,⟨⟨trivial,⟨wI rfl,wI rfl,trivial,trivial,trivial,trivial⟩,trivial⟩,trivial⟩,trivial⟩,trivial⟩
theorem zHu {f : D -> D} {l : List D} (hF : ∀ m,m < l.length -> wideD (f (gD l m))) (p : D) : ∀ (k i : Nat),wideL (grpI f l p k i)
 | 0,_ => trivial
 | k + 1,i => by
   by_cases h : i < l.length /\ zBG p (gD l i) = true
   . rw [zFX h]; exact ⟨hF i h.1,zHu hF p k (i + 1)⟩
   . rw [zFY h]; trivial
theorem zDw {f : D -> D} {l : List D} (hF : ∀ m,m < l.length -> wideD (f (gD l m))) (on : ByteArray) : ∀ (j i : Nat),wideL (selsI f on l j i)
 | 0,_ => trivial
 | j + 1,i => by
   by_cases hi : i < l.length
   . cases hp : zB0 on (gD l i) with
     | true => rw [zBy hi hp]; exact ⟨hF i hi,zDw hF on j (i + 1)⟩
     | false => rw [zC2 hi hp]; exact ⟨inl_wide (zHu hF _ _ _),zDw hF on j _⟩
   . rw [zC3 hi]; trivial
theorem pk_wide : ∀ (k : Nat) (on : ByteArray) (l : List D),(∀ i,wideD (gD l i)) -> wideL (pkS k on l)
 | 0,_,_,_ => trivial
 | k + 1,on,l,h => zDw (f:=zCH (pkS k)) (fun m _ => field_wide (h m) (pk_wide k _ _ fun i => ((h m).f 7).l i)) on l.length 0
theorem zG6 {f : D} {kind : Int} (hk : i64D kind) (h : wideD f) (k : Nat) : wideD (.obj [.list (fetchO k f kind),.list []]):=by
 have ho : ∀ q,wideL (opSels k q (f.f 6).l):=fun q => by
  unfold opSels
  split
  . unfold zDg sD31 dD31 sArg vD31
    exact ⟨⟨wI rfl,trivial,trivial,trivial,trivial,⟨⟨trivial,⟨⟨trivial,⟨wI rfl,wI rfl,trivial,trivial,trivial,trivial⟩,trivial⟩,trivial⟩,trivial⟩,trivial⟩,trivial,trivial⟩,trivial⟩
  . exact pk_wide k _ _ fun i => (h.f 6).l i
 refine ⟨?_,trivial,trivial⟩
 show wideL _
 unfold fetchO
 split
 . exact ⟨⟨hk,trivial,trivial,ho kind,trivial⟩,trivial⟩
 . have h1:=ho 1
   generalize opSels k 1 (f.f 6).l = S at *
   unfold zBD entS sD31 zBZ anyRef nullV sArg vD31
   exact ⟨⟨wI rfl,trivial,⟨⟨trivial,⟨trivial,⟨wI rfl,wI rfl,wI rfl,trivial⟩,trivial⟩,trivial,⟨wI rfl,wI rfl,trivial,trivial,trivial,trivial⟩,trivial⟩,trivial⟩,⟨⟨wI rfl,trivial,trivial,trivial,⟨⟨trivial,⟨wI rfl,wI rfl,trivial,trivial,trivial,trivial⟩,trivial⟩,trivial⟩,trivial,h1,trivial⟩,trivial⟩,trivial⟩,trivial⟩
end Go.Proofs.YtdlnnlglmifceaaGreatDoor
namespace Go.Proofs.YtdlnnlglmifceaaGreatDoor
def ftT : List UInt8:=[102,101,116,99,104,32]
def indG : List UInt8 -> List UInt8 -> List UInt8
 | cur,[] => if cur = [] then [] else [32,32] ++ cur ++ [10]
 | cur,c :: r => if c = 10 then [32,32] ++ cur ++ [10] ++ indG [] r else indG (cur ++ [c]) r
def indT (t : List UInt8) : List UInt8:=indG [] t
def zDb (gs : List D) (n : Int) : List UInt8:=if 0 <= n /\ n < (gs.length : Int) then tx (gD gs n.toNat).s else [63]
def zDF (l : List D) : List UInt8:=if l.length = 0 then [] else [44,32,97,102,116,101,114,32] ++ Lib.join (l.map fun d => Lib.itoa d.n) [32]
def hopT (h : D) : List UInt8:=tx (h.f 0).s ++ [46] ++ tx (h.f 1).s
def pathT (f : D) : List UInt8:=
 if (f.f 2).l.length = 0 then [] else [44,32,97,116,32] ++ Lib.join ((f.f 2).l.map hopT) [47] ++ [44,32,102,111,114,32] ++ tx (f.f 3).s ++ [44,32,98,121,32] ++ Lib.join ((f.f 4).l.map fun d => tx d.s) [32]
def restT (gs : List D) (i : Int) (f : D) : List UInt8:=
 Lib.itoa i ++ [58,32] ++ zDb gs (f.f 0).n ++ [44,32,100,101,112,116,104,32] ++ Lib.itoa (f.f 1).n ++ zDF (f.f 7).l ++ pathT f
def zGG (gs : List D) (i : Int) (f : D) : List UInt8:=ftT ++ restT gs i f ++ [10]
def zEV (gs : List D) (doc : D -> List UInt8) : List D -> Nat -> List UInt8
 | [],_ => []
 | f :: r,i => zGG gs i f ++ indT (doc f) ++ zEV gs doc r (i + 1)
end Go.Proofs.YtdlnnlglmifceaaGreatDoor
