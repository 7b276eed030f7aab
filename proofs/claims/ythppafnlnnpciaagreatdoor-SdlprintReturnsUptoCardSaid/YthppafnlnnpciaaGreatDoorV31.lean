import Derived.Shelf.Strings.Repeat
import Derived.Test.YthppafnlnnpciaaGreatDoorV30
set_option maxHeartbeats 8000000
set_option maxRecDepth 100000
set_option linter.unusedVariables false
set_option linter.unusedSimpArgs false
namespace Go.Proofs.YthppafnlnnpciaaGreatDoor
open Go.RowKit
attribute [local irreducible] wpList Calls Code.wp AW AWo OpOk seqK zz z8 loopK endK AC zl Yld Sub
attribute [local irreducible] ACB absLexG YldG
theorem arr_size (l:List UInt8):(⟨l.toArray⟩:ByteArray).size=l.length:=zW l
def opens:List D->List UInt8
 |[]=>[]
 |d::ds=>if d.n==1 then opens ds else opens ds++[91]
def closes:List D->List UInt8
 |[]=>[]
 |d::ds=>if d.n==1 then closes ds++[33] else closes ds++[93]
theorem zGF : ∀ l,[91]++opens l=opens l++[91]
 |[]=>rfl
 |d::ds=>by
  have:=zGF ds
  unfold opens
  split
  . exact this
  . rw [<- List.append_assoc,this]
theorem refB_eq (n:List UInt8) : ∀ l,refB n l=opens l++n++closes l
 |[]=>by simp [refB,opens,closes]
 |d::ds=>by
  unfold refB opens closes
  rw [refB_eq n ds]
  split
  . simp
  . rw [<- zGF];simp
theorem zET : ∀ l,(opens l).length<=l.length
 |[]=>Nat.le_refl _
 |d::ds=>by
  have:=zET ds
  unfold opens
  split<;>simp<;>omega
theorem zD6 : ∀ l,(closes l).length=l.length
 |[]=>rfl
 |d::ds=>by
  have:=zD6 ds
  unfold closes
  split<;>simp<;>omega
def H150 (n:List UInt8) (l:List D) (j:Nat):Vst 29:=
 stS 29 [(1,.bx 1 0),(3,.bx 3 0),(4,.bx 4 0),(5,.c (.int .i64 ((j:Int)-1)))] [(1,.box 48 [.c (.string (bs n)),.sl 3 l]),(3,.bld 135 5 (opens (l.drop j))),(4,.bld 135 5 (closes (l.drop j)))]
theorem refP_ac (n:List UInt8) (l:List D) (hn:n.length<=2000000) (hl:l.length<=2000000):AC EN Tryz.prog 158 [.agg [.c (.string (bs n)),.sl 3 l]] (.c (.string (bs (refB n l)))):=by
 have ho:=zET
 have hc:=zD6
 refine zN 29 Tryz.func158 rfl rfl rfl rfl ?_
 intro s w he
 repeat' (first
|refine zA ?_
|refine zB ?_
|refine zH ?_
|refine zR ?_
|refine zCt ?_
|apply aw_1
 conv=>whnf
 refine ⟨?_,trivial⟩
|apply s_1
 conv=>whnf;arg 1;arg 4;arg 3;whnf
 refine ⟨?_,?_⟩
|apply zFC rfl
 . conv=>lhs;whnf
 . conv=>lhs;whnf;arg 2;whnf
|apply ze rfl
 . conv=>lhs;whnf
 . conv=>lhs;whnf
 . first | fail
|apply zAL rfl rfl rfl rfl
 . conv=>lhs;whnf;arg 1;whnf
 . rfl
|apply zCm rfl rfl rfl rfl
 . conv=>lhs;whnf;arg 1;whnf
 . rfl
|apply zAF (by kernel_rfl) (by kernel_rfl)
|apply zAs
|apply zAr rfl
 . conv=>lhs;whnf
 . conv=>lhs;whnf;arg 2;whnf
|apply zBa rfl
 . conv=>lhs;whnf
 . conv=>lhs;whnf
 . first | fail
|exact zk
|exact zv
|exact all_nil
|show List.all _ _=true;rfl
|show zA9 _ _=true;rfl
|exact ([]:List Nat)
|exact (1000000:Nat)
|apply zBV
 . conv=>lhs;whnf;arg 1;arg 1;whnf
|apply zBW
 . conv=>lhs;whnf;arg 1;arg 1;whnf
|refine zZ (by conv=>lhs;whnf) ?_ ?_<;>intro hb
|refine zD8 ?_
|refine zCX ?_
|refine zM ?_
|refine zO ?_
|refine zQ ?_
|refine zK rfl ?_
|refine zAZ rfl ?_
|refine zAY ?_
|refine zAk ?_
|refine zJ ?_
|refine zy ?_
|refine zII ?_
|refine zE ?_
|refine ⟨_,by conv=>lhs;whnf;arg 2;whnf,?_⟩;conv=>rhs;whnf
|exact trivial
|intro hg)
 . refine zg ((Sub.bld (m:=3) (e:=5) rfl).trans (Sub.bld (m:=4) (e:=5) rfl)) ?_
   refine zi (fun j st=>j<=l.length/\Sub (cx EN Tryz.prog s w he) st (H150 n l j)) l.length ⟨Nat.le_refl _,?_⟩ ?_
   . refine Sub.live ⟨rfl,rfl,rfl,rfl,trivial⟩ ⟨rfl,?_,?_,trivial⟩
     . rw [List.drop_length];rfl
     . rw [List.drop_length];rfl
   . rintro j st ⟨hj,hs⟩
     refine zg hs ?_
     have h1:=ho (l.drop j)
     have h2:=hc (l.drop j)
     rw [List.length_drop] at h1 h2
     have hdrop:0<j->l.drop (j-1)=gD l (j-1)::l.drop j:=fun h=>by
      have hlt:j-1<l.length:=by omega
      rw [List.drop_eq_getElem_cons hlt,show j-1+1=j by omega]
      congr 1
      unfold gD;rw [List.getD_eq_getElem?_getD,List.getElem?_eq_getElem hlt];rfl
     have hnat:((j:Int)-1).toNat=j-1:=by omega
     repeat' (first
|apply s_wb rfl
 . conv=>lhs;whnf
 . conv=>lhs;whnf
 . rfl
 . conv=>lhs;whnf;arg 1;whnf
 . rfl
 . rfl
|apply y_bs rfl
 . conv=>lhs;whnf
 . conv=>lhs;whnf
 . rfl
 . conv=>lhs;whnf;arg 1;whnf
 . rfl
|refine zA ?_
|refine zB ?_
|refine zH ?_
|refine zR ?_
|refine zCt ?_
|apply aw_1
 conv=>whnf
 refine ⟨?_,trivial⟩
|apply s_1
 conv=>whnf;arg 1;arg 4;arg 3;whnf
 refine ⟨?_,?_⟩
|apply zFC rfl
 . conv=>lhs;whnf
 . conv=>lhs;whnf;arg 2;whnf
|apply ze rfl
 . conv=>lhs;whnf
 . conv=>lhs;whnf
 . first | fail
|apply zAL rfl rfl rfl rfl
 . conv=>lhs;whnf;arg 1;whnf
 . rfl
|apply zCm rfl rfl rfl rfl
 . conv=>lhs;whnf;arg 1;whnf
 . rfl
|apply zAF (by kernel_rfl) (by kernel_rfl)
|apply zAs
|apply zAr rfl
 . conv=>lhs;whnf
 . conv=>lhs;whnf;arg 2;whnf
|apply zBa rfl
 . conv=>lhs;whnf
 . conv=>lhs;whnf
 . first | fail
|exact zk
|exact zv
|exact all_nil
|show List.all _ _=true;rfl
|show zA9 _ _=true;rfl
|exact ([]:List Nat)
|exact (1000000:Nat)
|apply zBV
 . conv=>lhs;whnf;arg 1;arg 1;whnf
|apply zBW
 . conv=>lhs;whnf;arg 1;arg 1;whnf
|refine zZ (by conv=>lhs;whnf) ?_ ?_<;>intro hb
|refine zD8 ?_
|refine zCX ?_
|refine zM ?_
|refine zO ?_
|refine zQ ?_
|refine zK rfl ?_
|refine zAZ rfl ?_
|refine zAY ?_
|refine zAk ?_
|refine zJ ?_
|refine zy ?_
|refine zII ?_
|refine zE ?_
|refine ⟨_,by conv=>lhs;whnf;arg 2;whnf,?_⟩;conv=>rhs;whnf
|exact trivial
|intro hg)
     . rename_i hb0
       have hj0:0<j:=by simp at hb0;omega
       refine zI (j':=j-1) (by omega) ⟨by omega,Sub.live ⟨rfl,rfl,rfl,?_,trivial⟩ ⟨rfl,?_,?_,trivial⟩⟩
       . show V.c (.int .i64 ((j:Int)-1-1))=_
         rw [show ((j-1:Nat):Int)-1=(j:Int)-1-1 by omega]
       . show some (Res.bld _ _ (opens (l.drop j)))=_
         rw [hdrop hj0,opens]
         rw [hnat] at hb
         rw [if_pos hb]
       . show some (Res.bld _ _ (closes (l.drop j)++[33]))=_
         rw [hdrop hj0,closes]
         rw [hnat] at hb
         rw [if_pos hb]
     . exact zU (by omega)
     . omega
     . rename_i hb0
       have hj0:0<j:=by simp at hb0;omega
       refine zI (j':=j-1) (by omega) ⟨by omega,Sub.live ⟨rfl,rfl,rfl,?_,trivial⟩ ⟨rfl,?_,?_,trivial⟩⟩
       . show V.c (.int .i64 ((j:Int)-1-1))=_
         rw [show ((j-1:Nat):Int)-1=(j:Int)-1-1 by omega]
       . show some (Res.bld _ _ (opens (l.drop j)++[91]))=_
         rw [hdrop hj0,opens]
         rw [hnat] at hb
         rw [if_neg (by rw [hb];simp)]
       . show some (Res.bld _ _ (closes (l.drop j)++[93]))=_
         rw [hdrop hj0,closes]
         rw [hnat] at hb
         rw [if_neg (by rw [hb];simp)]
     . exact zU (by omega)
     . omega
     . omega
     . simp at hb;omega
     . have hj0:j=0:=by simp at hb;omega
       subst hj0
       rw [List.drop_zero,refB_eq,<- zAS,<- zAS]
       rfl
     all_goals (simp only [ByteArray.size_append,zW,arr_size,maxLen];omega)
 . exact zU (by omega)
end Go.Proofs.YthppafnlnnpciaaGreatDoor
