import GoSem.Extern.BytealgCompare
import Derived.Lib.Bytealg
import Derived.Test.YtdlnnlglmifceaaDoorQ28
set_option maxHeartbeats 8000000
set_option maxRecDepth 100000
set_option linter.unusedVariables false
set_option linter.unusedSimpArgs false
namespace Go.Proofs.YtdlnnlglmifceaaDoor
open Go.RowKit
set_option linter.unusedSectionVars false
attribute [local irreducible] wpList Calls Code.wp AW AWo OpOk seqK zAf zAj loopK endK AC zAH Yld Sub
attribute [local irreducible] ACB ACX YldG absLexH
def ordI (a b : Int) : Int:=if a < b then -1 else if b < a then 1 else 0
theorem zB5 {a b : Int} : ordI a b = 0 ↔ a = b:=by
 unfold ordI
 split
 . constructor <;> intro h <;> omega
 . split
   . constructor <;> intro h <;> omega
   . constructor <;> intro h <;> omega
theorem zFU : ∀ (a b : List UInt8),-1 <= Lib.compareBytes a b /\ Lib.compareBytes a b <= 1
 | [],[] => by simp [Lib.compareBytes]
 | [],_ :: _ => by simp [Lib.compareBytes]
 | _ :: _,[] => by simp [Lib.compareBytes]
 | a :: ar,b :: br => by
   have:=zFU ar br
   unfold Lib.compareBytes
   split
   . omega
   . split
     . omega
     . exact this
theorem zB8 : ∀ (a b : List UInt8),Lib.compareBytes a b = 0 ↔ a = b
 | [],[] => by simp [Lib.compareBytes]
 | [],_ :: _ => by simp [Lib.compareBytes]
 | _ :: _,[] => by simp [Lib.compareBytes]
 | a :: ar,b :: br => by
   have:=zB8 ar br
   unfold Lib.compareBytes
   by_cases h1 : a < b
   . rw [if_pos h1]
     constructor
     . intro h; omega
     . intro h; cases h; exact absurd h1 (UInt8.lt_irrefl _)
   . rw [if_neg h1]
     by_cases h2 : b < a
     . rw [if_pos h2]
       constructor
       . intro h; omega
       . intro h; cases h; exact absurd h2 (UInt8.lt_irrefl _)
     . rw [if_neg h2,this]
       have e : a = b:=UInt8.le_antisymm (UInt8.not_lt.1 h2) (UInt8.not_lt.1 h1)
       simp [e]
theorem i64_small {n : Int} (h : -1 <= n /\ n <= 1) : okV (.int .i64 n):=by
 show (Lit.int .i64 n).wf = true
 rw [zCm]
 simp [IntKind.min,IntKind.max,IntKind.signed,IntKind.bits]; omega
theorem cmpStrC (a b : ByteArray) (w : World) : Calls Tryd.prog 79 #[.string a,.string b] w fun e w' => e = .returned (.int .i64 (Lib.compareBytes (tx a) (tx b))) /\ w' = w:=by
 go_enter Tryd.func79,Tryd.ntmps79
 go_wp2
 rw [run_callFunc_extern Tryd.func88 (by kernel_rfl) (by kernel_rfl) (by kernel_rfl) (e:=Extern.BytealgCompare.compare) (by kernel_rfl),Lib.run_compareString]
 simp only [Result.andThen]
 rw [Oper.upon_value]
 go_wp2
 go_ret
 exact ⟨rfl,rfl⟩
def keyD (x : D) (i : Nat) : ByteArray:=if i < (x.f 4).l.length then (gD (x.f 4).l i).s else ⟨#[]⟩
def zCN (f : D -> D -> Int) (a b : D) : Nat -> Nat -> Int
 | 0,_ => ordI (a.f 3).l.length (b.f 3).l.length
 | j + 1,i =>
   if Lib.compareBytes (tx (keyD a i)) (tx (keyD b i)) != 0 then Lib.compareBytes (tx (keyD a i)) (tx (keyD b i))
   else if f (gD (a.f 3).l i) (gD (b.f 3).l i) != 0 then f (gD (a.f 3).l i) (gD (b.f 3).l i)
   else zCN f a b j (i + 1)
def cmpV : Nat -> D -> D -> Int
 | 0,_,_ => 0
 | k + 1,a,b =>
   if (a.f 0).n != (b.f 0).n then ordI (a.f 0).n (b.f 0).n
   else if (a.f 1).n != (b.f 1).n then ordI (a.f 1).n (b.f 1).n
   else if !((a.f 2).s.toList == (b.f 2).s.toList) then Lib.compareBytes (tx (a.f 2).s) (tx (b.f 2).s)
   else zCN (cmpV k) a b (min (a.f 3).l.length (b.f 3).l.length) 0
noncomputable def HV0 (a b : D) : Vst 84:=
 stS 84 [(2,.bx 2 0),(3,.bx 3 0),(7,.c (.int .i64 0))] [(2,.box 44 (cellsV Tryd.prog 12 44 a)),(3,.box 44 (cellsV Tryd.prog 12 44 b))]
noncomputable def HV1 (r : Int) : Vst 84:=stS 84 [(5,.c (.int .i64 r)),(7,.c (.int .i64 1))] []
noncomputable def HVI (a b : D) (i : Nat) : Vst 84:=
 stS 84 [(2,.bx 2 0),(3,.bx 3 0),(7,.c (.int .i64 0)),(48,.c (.int .i64 (min (a.f 3).l.length (b.f 3).l.length : Nat))),(49,.c (.int .i64 i))] [(2,.box 44 (cellsV Tryd.prog 12 44 a)),(3,.box 44 (cellsV Tryd.prog 12 44 b))]
theorem min_int {x y : Nat} : (if (y : Int) < x then (y : Int) else (x : Int)) = ((min x y : Nat) : Int):=by
 split <;> omega
theorem cmpStr1E (a b : ByteArray) : AC EN Tryd.prog 79 [.c (.string a),.c (.string b)] (.c (.int .i64 (Lib.compareBytes (tx a) (tx b)))):=
 ac_of fun s w us hus _ => by
  obtain ⟨u,u2,rfl,h1,h2⟩:=rel_two hus
  rw [rel] at h1 h2
  obtain ⟨rfl,-⟩:=h1
  obtain ⟨rfl,-⟩:=h2
  exact ⟨i64_small (zFU _ _),(cmpStrC a b w).mono fun e w' h => ⟨h.1,by rw [h.2]; exact Below.refl _ _⟩⟩
theorem cmpStr_acE (a b : ByteArray) : AC EN Tryd.prog 69 [.c (.string a),.c (.string b)] (.c (.int .i64 (Lib.compareBytes (tx a) (tx b)))):=by
 have h1:=cmpStr1E a b
 refine zV 8 Tryd.func69 rfl rfl rfl rfl ?_
 intro s w he
 repeat' (first
|refine zA ?_
|refine zI ?_
|refine zZ ?_
|refine zW ?_
|refine zi ?_
|apply aw_1
 conv => whnf
 refine ⟨?_,trivial⟩
|apply s_1
 conv => whnf; arg 1; arg 4; arg 3; whnf
 refine ⟨?_,?_⟩
|apply zAF rfl
 . conv => lhs; whnf
 . conv => lhs; whnf; arg 2; whnf
|apply zk rfl
 . conv => lhs; whnf
 . conv => lhs; whnf
 . first | exact h1
|apply zS
 . conv => lhs; whnf; arg 1; arg 1; whnf
|apply zU
 . conv => lhs; whnf; arg 1; arg 1; whnf
|refine zd (by conv => lhs; whnf) ?_ ?_ <;> intro hb
|refine zv ?_
|refine zh ?_
|refine zJ ?_
|refine zK ?_
|refine zH ?_
|refine zE rfl ?_
|refine zM rfl ?_
|refine zL ?_
|refine zO ?_
|refine zC ?_
|refine zN ?_
|refine zAG ?_
|refine zB ?_
|refine ⟨_,by conv => lhs; whnf; arg 2; whnf,?_⟩; conv => rhs; whnf
|exact trivial
|intro hg)
theorem nan_acE (a : Int) : AC EN Tryd.prog 78 [.c (.int .i64 a)] (.c (.bool false)):=by
 refine zV 6 Tryd.func78 rfl rfl rfl rfl ?_
 intro s w he
 repeat' (first
|refine zA ?_
|refine zI ?_
|refine zZ ?_
|refine zW ?_
|refine zi ?_
|apply aw_1
 conv => whnf
 refine ⟨?_,trivial⟩
|apply s_1
 conv => whnf; arg 1; arg 4; arg 3; whnf
 refine ⟨?_,?_⟩
|apply zAF rfl
 . conv => lhs; whnf
 . conv => lhs; whnf; arg 2; whnf
|apply zS
 . conv => lhs; whnf; arg 1; arg 1; whnf
|apply zU
 . conv => lhs; whnf; arg 1; arg 1; whnf
|refine zd (by conv => lhs; whnf) ?_ ?_ <;> intro hb
|refine zv ?_
|refine zh ?_
|refine zJ ?_
|refine zK ?_
|refine zH ?_
|refine zE rfl ?_
|refine zM rfl ?_
|refine zL ?_
|refine zO ?_
|refine zC ?_
|refine zN ?_
|refine zAG ?_
|refine zB ?_
|refine ⟨_,by conv => lhs; whnf; arg 2; whnf,?_⟩; conv => rhs; whnf
|exact trivial
|intro hg)
 simp
theorem cmpInt_acE (a b : Int) : AC EN Tryd.prog 68 [.c (.int .i64 a),.c (.int .i64 b)] (.c (.int .i64 (ordI a b))):=by
 have h1:=nan_acE a
 have h2:=nan_acE b
 refine zV 20 Tryd.func68 rfl rfl rfl rfl ?_
 intro s w he
 repeat' (first
|refine zA ?_
|refine zI ?_
|refine zZ ?_
|refine zW ?_
|refine zi ?_
|apply aw_1
 conv => whnf
 refine ⟨?_,trivial⟩
|apply s_1
 conv => whnf; arg 1; arg 4; arg 3; whnf
 refine ⟨?_,?_⟩
|apply zAF rfl
 . conv => lhs; whnf
 . conv => lhs; whnf; arg 2; whnf
|apply zk rfl
 . conv => lhs; whnf
 . conv => lhs; whnf
 . first | exact h1 | exact h2
|apply zS
 . conv => lhs; whnf; arg 1; arg 1; whnf
|apply zU
 . conv => lhs; whnf; arg 1; arg 1; whnf
|refine zd (by conv => lhs; whnf) ?_ ?_ <;> intro hb
|refine zv ?_
|refine zh ?_
|refine zJ ?_
|refine zK ?_
|refine zH ?_
|refine zE rfl ?_
|refine zM rfl ?_
|refine zL ?_
|refine zO ?_
|refine zC ?_
|refine zN ?_
|refine zAG ?_
|refine zB ?_
|refine ⟨_,by conv => lhs; whnf; arg 2; whnf,?_⟩; conv => rhs; whnf
|exact trivial
|intro hg)
 all_goals (simp only [decide_eq_true_eq,decide_eq_false_iff_not] at *; unfold ordI)
 . rw [if_pos (by omega)]
 . rw [if_neg (by omega),if_pos (by omega)]
 . rw [if_neg (by omega),if_neg (by omega)]
theorem key_acE (x : D) (i : Nat) : AC EN Tryd.prog 70 [.agg (cellsV Tryd.prog 12 44 x),.c (.int .i64 i)] (.c (.string (keyD x i))):=by
 refine zV 15 Tryd.func70 rfl rfl rfl rfl ?_
 intro s w he
 repeat' (first
|refine zA ?_
|refine zI ?_
|refine zZ ?_
|refine zW ?_
|refine zi ?_
|apply aw_1
 conv => whnf
 refine ⟨?_,trivial⟩
|apply s_1
 conv => whnf; arg 1; arg 4; arg 3; whnf
 refine ⟨?_,?_⟩
|apply zAF rfl
 . conv => lhs; whnf
 . conv => lhs; whnf; arg 2; whnf
|apply zAO rfl rfl rfl rfl
 . conv => lhs; whnf; arg 1; whnf
 . rfl
|apply zS
 . conv => lhs; whnf; arg 1; arg 1; whnf
|apply zU
 . conv => lhs; whnf; arg 1; arg 1; whnf
|refine zd (by conv => lhs; whnf) ?_ ?_ <;> intro hb
|refine zv ?_
|refine zh ?_
|refine zJ ?_
|refine zK ?_
|refine zH ?_
|refine zE rfl ?_
|refine zM rfl ?_
|refine zL ?_
|refine zO ?_
|refine zC ?_
|refine zN ?_
|refine zAG ?_
|refine zB ?_
|refine ⟨_,by conv => lhs; whnf; arg 2; whnf,?_⟩; conv => rhs; whnf
|exact trivial
|intro hg)
 . have hb : decide ((i : Int) < (x.f 4).l.length) = true:=hb
   unfold keyD
   rw [if_pos (by simpa using hb)]
   rfl
 . have hb : decide ((i : Int) < (x.f 4).l.length) = true:=hb
   show 0 <= (i : Int) /\ (i : Int) < (x.f 4).l.length
   simp at hb; omega
 . have hb : decide ((i : Int) < (x.f 4).l.length) = false:=hb
   unfold keyD
   rw [if_neg (by simpa using hb)]
theorem zIT : ∀ (k : Nat) (a b : D),Dp k a -> Dp k b -> bulkD a <= 1000000000 -> bulkD b <= 1000000000 -> AC EN Tryd.prog 53 [.agg (cellsV Tryd.prog 12 44 a),.agg (cellsV Tryd.prog 12 44 b)] (.c (.int .i64 (cmpV k a b)))
 | 0,a,b,h,_,_,_ => h.elim
 | k + 1,a,b,h1,h2,hb1,hb2 => by
   have i1:=bk_in hb1
   have i2:=bk_in hb2
   have l1:=i1.items
   have l2:=i2.items
   have ih:=fun i (hi : i < (a.f 3).l.length) (hj : i < (b.f 3).l.length) => zIT k _ _ (h1 i hi) (h2 i hj) (by have:=i1.at_ i hi; omega) (by have:=i2.at_ i hj; omega)
   have c1:=fun i => key_acE a i
   have c2:=fun i => key_acE b i
   have c3:=fun x y => cmpStr_acE x y
   have c4:=fun x y => cmpInt_acE x y
   refine zV 84 Tryd.func53 rfl rfl rfl rfl ?_
   intro s w he
   repeat' (first
|refine zA ?_
|refine zI ?_
|refine zZ ?_
|refine zW ?_
|refine zi ?_
|apply aw_1
 conv => whnf
 refine ⟨?_,trivial⟩
|apply s_1
 conv => whnf; arg 1; arg 4; arg 3; whnf
 refine ⟨?_,?_⟩
|apply zAF rfl
 . conv => lhs; whnf
 . conv => lhs; whnf; arg 2; whnf
|apply zk rfl
 . conv => lhs; whnf
 . conv => lhs; whnf
 . first | fail
|apply zAO rfl rfl rfl rfl
 . conv => lhs; whnf; arg 1; whnf
 . rfl
|apply zq (by kernel_rfl) (by kernel_rfl)
|apply zAR
|apply zAQ rfl
 . conv => lhs; whnf
 . conv => lhs; whnf; arg 2; whnf
|apply zAU rfl
 . conv => lhs; whnf
 . conv => lhs; whnf
 . first | fail
|exact zR
|exact zX
|exact all_nil
|show List.all _ _ = true; rfl
|show zAC _ _ = true; rfl
|exact ([] : List Nat)
|exact (1000000 : Nat)
|apply zS
 . conv => lhs; whnf; arg 1; arg 1; whnf
|apply zU
 . conv => lhs; whnf; arg 1; arg 1; whnf
|refine zd (by conv => lhs; whnf) ?_ ?_ <;> intro hb
|refine zv ?_
|refine zh ?_
|refine zJ ?_
|refine zK ?_
|refine zH ?_
|refine zE rfl ?_
|refine zM rfl ?_
|refine zL ?_
|refine zO ?_
|refine zC ?_
|refine zN ?_
|refine zAG ?_
|refine zB ?_
|refine ⟨_,by conv => lhs; whnf; arg 2; whnf,?_⟩; conv => rhs; whnf
|exact trivial
|intro hg)
   refine z7 (fun j st => (j = 1 /\ Sub (cx EN Tryd.prog s w he) st (HV0 a b)) \/ (j = 0 /\ Sub (cx EN Tryd.prog s w he) st (HV1 (cmpV (k + 1) a b)))) 1 (.inl ⟨rfl,?_⟩) ?_
   . exact Sub.live ⟨rfl,rfl,rfl,trivial⟩ ⟨rfl,rfl,trivial⟩
   . rintro j st (⟨rfl,hs2⟩ | ⟨rfl,hs2⟩)
     . refine zAA hs2 ?_
       have hC : cmpV (k + 1) a b = if (a.f 0).n != (b.f 0).n then ordI (a.f 0).n (b.f 0).n
        else if (a.f 1).n != (b.f 1).n then ordI (a.f 1).n (b.f 1).n
        else if !((a.f 2).s.toList == (b.f 2).s.toList) then Lib.compareBytes (tx (a.f 2).s) (tx (b.f 2).s)
        else zCN (cmpV k) a b (min (a.f 3).l.length (b.f 3).l.length) 0:=rfl
       generalize cmpV (k + 1) a b = R at hC |-
       repeat' (first
|refine zA ?_
|refine zI ?_
|refine zZ ?_
|refine zW ?_
|refine zi ?_
|apply aw_1
 conv => whnf
 refine ⟨?_,trivial⟩
|apply s_1
 conv => whnf; arg 1; arg 4; arg 3; whnf
 refine ⟨?_,?_⟩
|apply zAF rfl
 . conv => lhs; whnf
 . conv => lhs; whnf; arg 2; whnf
|apply zk rfl
 . conv => lhs; whnf
 . conv => lhs; whnf
 . first | exact c1 _ | exact c2 _ | exact c3 _ _ | exact c4 _ _
|apply zAO rfl rfl rfl rfl
 . conv => lhs; whnf; arg 1; whnf
 . rfl
|apply zq (by kernel_rfl) (by kernel_rfl)
|apply zAR
|apply zAQ rfl
 . conv => lhs; whnf
 . conv => lhs; whnf; arg 2; whnf
|apply zAU rfl
 . conv => lhs; whnf
 . conv => lhs; whnf
 . first | exact c1 _ | exact c2 _ | exact c3 _ _ | exact c4 _ _
|exact zR
|exact zX
|exact all_nil
|show List.all _ _ = true; rfl
|show zAC _ _ = true; rfl
|exact ([] : List Nat)
|exact (1000000 : Nat)
|apply zS
 . conv => lhs; whnf; arg 1; arg 1; whnf
|apply zU
 . conv => lhs; whnf; arg 1; arg 1; whnf
|refine zd (by conv => lhs; whnf) ?_ ?_ <;> intro hb
|refine zv ?_
|refine zh ?_
|refine zJ ?_
|refine zK ?_
|refine zH ?_
|refine zE rfl ?_
|refine zM rfl ?_
|refine zL ?_
|refine zO ?_
|refine zC ?_
|refine zN ?_
|refine zAG ?_
|refine zB ?_
|refine ⟨_,by conv => lhs; whnf; arg 2; whnf,?_⟩; conv => rhs; whnf
|exact trivial
|intro hg)
       . have e1 : ((a.f 0).n != (b.f 0).n) = true:=by assumption
         rw [hC,if_pos e1]
       . have e1 : ((a.f 0).n != (b.f 0).n) = false:=by assumption
         have e2 : ((a.f 1).n != (b.f 1).n) = true:=by assumption
         rw [hC,if_neg (by rw [e1]; decide),if_pos e2]
       . have e1 : ((a.f 0).n != (b.f 0).n) = false:=by assumption
         have e2 : ((a.f 1).n != (b.f 1).n) = false:=by assumption
         have e3 : (!((a.f 2).s.toList == (b.f 2).s.toList)) = true:=by assumption
         rw [hC,if_neg (by rw [e1]; decide),if_neg (by rw [e2]; decide),if_pos e3]
       . have e1 : ((a.f 0).n != (b.f 0).n) = false:=by assumption
         have e2 : ((a.f 1).n != (b.f 1).n) = false:=by assumption
         have e3 : (!((a.f 2).s.toList == (b.f 2).s.toList)) = false:=by assumption
         rw [if_neg (by rw [e1]; decide),if_neg (by rw [e2]; decide),if_neg (by rw [e3]; decide)] at hC
         refine z7 (fun j st => ∃ i,i + j = min (a.f 3).l.length (b.f 3).l.length /\ R = zCN (cmpV k) a b j i /\ Sub (cx EN Tryd.prog s w he) st (HVI a b i)) (min (a.f 3).l.length (b.f 3).l.length) ⟨0,by omega,hC,?_⟩ ?_
         . refine Sub.live ⟨rfl,rfl,rfl,?_,rfl,trivial⟩ ⟨rfl,rfl,trivial⟩
           show V.c (.int .i64 (if ((b.f 3).l.length : Int) < (a.f 3).l.length then ((b.f 3).l.length : Int) else ((a.f 3).l.length : Int))) = _
           rw [min_int]
         . clear e1 e2 e3
           rintro j st ⟨i,hij,hR,hs2⟩
           refine zAA hs2 ?_
           have ih2:=fun (h : decide ((i : Int) < ((min (a.f 3).l.length (b.f 3).l.length : Nat) : Int)) = true) => ih i (by simp at h; omega) (by simp at h; omega)
           repeat' (first
|refine zA ?_
|refine zI ?_
|refine zZ ?_
|refine zW ?_
|refine zi ?_
|apply aw_1
 conv => whnf
 refine ⟨?_,trivial⟩
|apply s_1
 conv => whnf; arg 1; arg 4; arg 3; whnf
 refine ⟨?_,?_⟩
|apply zAF rfl
 . conv => lhs; whnf
 . conv => lhs; whnf; arg 2; whnf
|apply zk rfl
 . conv => lhs; whnf
 . conv => lhs; whnf
 . first | exact c1 i | exact c2 i | exact c3 _ _ | exact ih2 ‹_› | exact c4 _ _
|apply zAO rfl rfl rfl rfl
 . conv => lhs; whnf; arg 1; whnf
 . rfl
|apply zq (by kernel_rfl) (by kernel_rfl)
|apply zAR
|apply zAQ rfl
 . conv => lhs; whnf
 . conv => lhs; whnf; arg 2; whnf
|apply zAU rfl
 . conv => lhs; whnf
 . conv => lhs; whnf
 . first | exact c1 i | exact c2 i | exact c3 _ _ | exact ih2 ‹_› | exact c4 _ _
|exact zR
|exact zX
|exact all_nil
|show List.all _ _ = true; rfl
|show zAC _ _ = true; rfl
|exact ([] : List Nat)
|exact (1000000 : Nat)
|apply zS
 . conv => lhs; whnf; arg 1; arg 1; whnf
|apply zU
 . conv => lhs; whnf; arg 1; arg 1; whnf
|refine zd (by conv => lhs; whnf) ?_ ?_ <;> intro hb
|refine zv ?_
|refine zh ?_
|refine zJ ?_
|refine zK ?_
|refine zH ?_
|refine zE rfl ?_
|refine zM rfl ?_
|refine zL ?_
|refine zO ?_
|refine zC ?_
|refine zN ?_
|refine zAG ?_
|refine zB ?_
|refine ⟨_,by conv => lhs; whnf; arg 2; whnf,?_⟩; conv => rhs; whnf
|exact trivial
|intro hg)
           . have h0 : decide ((i : Int) < ((min (a.f 3).l.length (b.f 3).l.length : Nat) : Int)) = true:=by assumption
             have h1 : (Lib.compareBytes (tx (keyD a i)) (tx (keyD b i)) != 0) = true:=by assumption
             obtain ⟨j,rfl⟩ : ∃ q,j = q + 1:=⟨j - 1,by simp at h0; omega⟩
             rw [hR,zCN,if_pos h1]
           . have h0 : decide ((i : Int) < ((min (a.f 3).l.length (b.f 3).l.length : Nat) : Int)) = true:=by assumption
             have h1 : (Lib.compareBytes (tx (keyD a i)) (tx (keyD b i)) != 0) = false:=by assumption
             have h2 : (cmpV k (gD (a.f 3).l i) (gD (b.f 3).l i) != 0) = true:=by assumption
             obtain ⟨j,rfl⟩ : ∃ q,j = q + 1:=⟨j - 1,by simp at h0; omega⟩
             rw [hR,zCN,if_neg (by rw [h1]; decide),if_pos h2]
           . have h0 : decide ((i : Int) < ((min (a.f 3).l.length (b.f 3).l.length : Nat) : Int)) = true:=by assumption
             have h1 : (Lib.compareBytes (tx (keyD a i)) (tx (keyD b i)) != 0) = false:=by assumption
             have h2 : (cmpV k (gD (a.f 3).l i) (gD (b.f 3).l i) != 0) = false:=by assumption
             obtain ⟨j,rfl⟩ : ∃ q,j = q + 1:=⟨j - 1,by simp at h0; omega⟩
             rw [zCN,if_neg (by rw [h1]; decide),if_neg (by rw [h2]; decide)] at hR
             exact za (j':=j) (by omega) ⟨i + 1,by omega,hR,Sub.live ⟨rfl,rfl,rfl,rfl,rfl,trivial⟩ ⟨rfl,rfl,trivial⟩⟩
           . exact zu (by omega)
           . have h0 : decide ((i : Int) < ((min (a.f 3).l.length (b.f 3).l.length : Nat) : Int)) = true:=by assumption
             show 0 <= (i : Int) /\ (i : Int) < (b.f 3).l.length
             simp at h0; omega
           . have h0 : decide ((i : Int) < ((min (a.f 3).l.length (b.f 3).l.length : Nat) : Int)) = true:=by assumption
             show 0 <= (i : Int) /\ (i : Int) < (a.f 3).l.length
             simp at h0; omega
           . have h0 : decide ((i : Int) < ((min (a.f 3).l.length (b.f 3).l.length : Nat) : Int)) = false:=by assumption
             obtain rfl : j = 0:=by simp at h0; omega
             refine za (j':=0) (by omega) (.inr ⟨rfl,Sub.live ⟨?_,rfl,trivial⟩ trivial⟩)
             rw [hR]; rfl
           . exact zu (by omega)
     . refine zAA hs2 ?_
       repeat' (first
|refine zA ?_
|refine zI ?_
|refine zZ ?_
|refine zW ?_
|refine zi ?_
|apply aw_1
 conv => whnf
 refine ⟨?_,trivial⟩
|apply s_1
 conv => whnf; arg 1; arg 4; arg 3; whnf
 refine ⟨?_,?_⟩
|apply zAF rfl
 . conv => lhs; whnf
 . conv => lhs; whnf; arg 2; whnf
|apply zk rfl
 . conv => lhs; whnf
 . conv => lhs; whnf
 . first | fail
|apply zAO rfl rfl rfl rfl
 . conv => lhs; whnf; arg 1; whnf
 . rfl
|apply zq (by kernel_rfl) (by kernel_rfl)
|apply zAR
|apply zAQ rfl
 . conv => lhs; whnf
 . conv => lhs; whnf; arg 2; whnf
|apply zAU rfl
 . conv => lhs; whnf
 . conv => lhs; whnf
 . first | fail
|exact zR
|exact zX
|exact all_nil
|show List.all _ _ = true; rfl
|show zAC _ _ = true; rfl
|exact ([] : List Nat)
|exact (1000000 : Nat)
|apply zS
 . conv => lhs; whnf; arg 1; arg 1; whnf
|apply zU
 . conv => lhs; whnf; arg 1; arg 1; whnf
|refine zd (by conv => lhs; whnf) ?_ ?_ <;> intro hb
|refine zv ?_
|refine zh ?_
|refine zJ ?_
|refine zK ?_
|refine zH ?_
|refine zE rfl ?_
|refine zM rfl ?_
|refine zL ?_
|refine zO ?_
|refine zC ?_
|refine zN ?_
|refine zAG ?_
|refine zB ?_
|refine ⟨_,by conv => lhs; whnf; arg 2; whnf,?_⟩; conv => rhs; whnf
|exact trivial
|intro hg)
theorem same_valE (k : Nat) (a b : D) (h1 : Dp k a) (h2 : Dp k b) (hb1 : bulkD a <= 1000000000) (hb2 : bulkD b <= 1000000000) : AC EN Tryd.prog 30 [.agg (cellsV Tryd.prog 12 44 a),.agg (cellsV Tryd.prog 12 44 b)] (.c (.bool (cmpV k a b == 0))):=by
 have hc:=zIT k a b h1 h2 hb1 hb2
 refine zV 9 Tryd.func30 rfl rfl rfl rfl ?_
 intro s w he
 repeat' (first
|refine zA ?_
|refine zI ?_
|refine zZ ?_
|refine zW ?_
|refine zi ?_
|apply aw_1
 conv => whnf
 refine ⟨?_,trivial⟩
|apply s_1
 conv => whnf; arg 1; arg 4; arg 3; whnf
 refine ⟨?_,?_⟩
|apply zAF rfl
 . conv => lhs; whnf
 . conv => lhs; whnf; arg 2; whnf
|apply zk rfl
 . conv => lhs; whnf
 . conv => lhs; whnf
 . first | exact hc
|apply zAO rfl rfl rfl rfl
 . conv => lhs; whnf; arg 1; whnf
 . rfl
|apply zS
 . conv => lhs; whnf; arg 1; arg 1; whnf
|apply zU
 . conv => lhs; whnf; arg 1; arg 1; whnf
|refine zd (by conv => lhs; whnf) ?_ ?_ <;> intro hb
|refine zv ?_
|refine zh ?_
|refine zJ ?_
|refine zK ?_
|refine zH ?_
|refine zE rfl ?_
|refine zM rfl ?_
|refine zL ?_
|refine zO ?_
|refine zC ?_
|refine zN ?_
|refine zAG ?_
|refine zB ?_
|refine ⟨_,by conv => lhs; whnf; arg 2; whnf,?_⟩; conv => rhs; whnf
|exact trivial
|intro hg)
def eqL (f : D -> D -> Bool) (l m : List D) : Bool:=(l.length == m.length) && (List.range l.length).all fun i => f (gD l i) (gD m i)
theorem zBd {f : D -> D -> Bool} {l m : List D} (h : ((l.length : Int) != (m.length : Int)) = true) : eqL f l m = false:=by
 have : ¬ l.length = m.length:=by simp at h; omega
 simp [eqL,this]
theorem eqL_len {l m : List D} (h : ((l.length : Int) != (m.length : Int)) = false) : l.length = m.length:=by simp at h; omega
theorem zAg {f : D -> D -> Bool} {l m : List D} {i : Nat} (hi : i < l.length) (h : f (gD l i) (gD m i) = false) : eqL f l m = false:=by
 unfold eqL
 rw [Bool.and_eq_false_iff]
 right
 rw [List.all_eq_false]
 exact ⟨i,List.mem_range.2 hi,by simp [h]⟩
theorem zA1 {f : D -> D -> Bool} {l m : List D} (hl : l.length = m.length) (h : ∀ i,i < l.length -> f (gD l i) (gD m i) = true) : eqL f l m = true:=by
 unfold eqL
 rw [Bool.and_eq_true,List.all_eq_true]
 exact ⟨by simp [hl],fun i hi => h i (List.mem_range.1 hi)⟩
theorem zBg {f : D -> D -> Bool} {l m : List D} : eqL f l m = true ↔ l.length = m.length /\ ∀ i,i < l.length -> f (gD l i) (gD m i) = true:=by
 unfold eqL
 rw [Bool.and_eq_true,List.all_eq_true]
 constructor
 . rintro ⟨h1,h2⟩
   exact ⟨by simpa using h1,fun i hi => h2 i (List.mem_range.2 hi)⟩
 . rintro ⟨h1,h2⟩
   exact ⟨by simpa using h1,fun i hi => h2 i (List.mem_range.1 hi)⟩
def intEq (a b : D) : Bool:=a.n == b.n
noncomputable def HEqInt (l m : List D) (i : Nat) : Vst 26:=
 stS 26 [(0,.sl 3 l),(1,.sl 3 m),(12,.c (.int .i64 l.length)),(13,.c (.int .i64 i))] []
theorem eqInt_ac (l m : List D) (hn : l.length <= 100000000) : AC EN Tryd.prog 54 [.sl 3 l,.sl 3 m] (.c (.bool (eqL intEq l m))):=by
 refine zV 26 Tryd.func54 rfl rfl rfl rfl ?_
 intro s w he
 repeat' (first
|refine zA ?_
|refine zI ?_
|refine zZ ?_
|refine zW ?_
|refine zi ?_
|apply aw_1
 conv => whnf
 refine ⟨?_,trivial⟩
|apply s_1
 conv => whnf; arg 1; arg 4; arg 3; whnf
 refine ⟨?_,?_⟩
|apply zAF rfl
 . conv => lhs; whnf
 . conv => lhs; whnf; arg 2; whnf
|apply zq (by kernel_rfl) (by kernel_rfl)
|apply zAR
|apply zAQ rfl
 . conv => lhs; whnf
 . conv => lhs; whnf; arg 2; whnf
|exact zR
|exact zX
|exact all_nil
|show List.all _ _ = true; rfl
|show zAC _ _ = true; rfl
|exact ([] : List Nat)
|exact (1000000 : Nat)
|apply zS
 . conv => lhs; whnf; arg 1; arg 1; whnf
|apply zU
 . conv => lhs; whnf; arg 1; arg 1; whnf
|refine zd (by conv => lhs; whnf) ?_ ?_ <;> intro hb
|refine zv ?_
|refine zh ?_
|refine zJ ?_
|refine zK ?_
|refine zH ?_
|refine zE rfl ?_
|refine zM rfl ?_
|refine zL ?_
|refine zO ?_
|refine zC ?_
|refine zN ?_
|refine zAG ?_
|refine zB ?_
|refine ⟨_,by conv => lhs; whnf; arg 2; whnf,?_⟩; conv => rhs; whnf
|exact trivial
|intro hg)
 . rw [zBd ‹_›]
 . have hlen : l.length = m.length:=eqL_len ‹_›
   refine z7 (fun j st => ∃ i,i + j = l.length /\ (∀ q,q < i -> intEq (gD l q) (gD m q) = true) /\ Sub (cx EN Tryd.prog s w he) st (HEqInt l m i)) l.length ⟨0,by omega,fun q hq => by omega,?_⟩ ?_
   . exact Sub.live ⟨rfl,rfl,rfl,rfl,trivial⟩ trivial
   . rintro j st ⟨i,hij,hall,hs2⟩
     refine zAA hs2 ?_
     repeat' (first
|refine zA ?_
|refine zI ?_
|refine zZ ?_
|refine zW ?_
|refine zi ?_
|apply aw_1
 conv => whnf
 refine ⟨?_,trivial⟩
|apply s_1
 conv => whnf; arg 1; arg 4; arg 3; whnf
 refine ⟨?_,?_⟩
|apply zAF rfl
 . conv => lhs; whnf
 . conv => lhs; whnf; arg 2; whnf
|apply zq (by kernel_rfl) (by kernel_rfl)
|apply zAR
|apply zAQ rfl
 . conv => lhs; whnf
 . conv => lhs; whnf; arg 2; whnf
|exact zR
|exact zX
|exact all_nil
|show List.all _ _ = true; rfl
|show zAC _ _ = true; rfl
|exact ([] : List Nat)
|exact (1000000 : Nat)
|apply zS
 . conv => lhs; whnf; arg 1; arg 1; whnf
|apply zU
 . conv => lhs; whnf; arg 1; arg 1; whnf
|refine zd (by conv => lhs; whnf) ?_ ?_ <;> intro hb
|refine zv ?_
|refine zh ?_
|refine zJ ?_
|refine zK ?_
|refine zH ?_
|refine zE rfl ?_
|refine zM rfl ?_
|refine zL ?_
|refine zO ?_
|refine zC ?_
|refine zN ?_
|refine zAG ?_
|refine zB ?_
|refine ⟨_,by conv => lhs; whnf; arg 2; whnf,?_⟩; conv => rhs; whnf
|exact trivial
|intro hg)
     . have hlt : i < l.length:=by have h : decide ((i : Int) < (l.length : Int)) = true:=by assumption
                                   simpa using h
       have hf : (!intEq (gD l i) (gD m i)) = true:=by assumption
       rw [zAg hlt (by simpa using hf)]
     . have hf : (!intEq (gD l i) (gD m i)) = false:=by assumption
       have hlt : i < l.length:=by have h : decide ((i : Int) < (l.length : Int)) = true:=by assumption
                                   simpa using h
       refine za (j':=j - 1) (by omega) ⟨i + 1,by omega,fun q hq => ?_,Sub.live ⟨rfl,rfl,rfl,rfl,trivial⟩ trivial⟩
       by_cases e : q = i
       . subst e; simpa using hf
       . exact hall q (by omega)
     . exact zu (by omega)
     . have h : decide ((i : Int) < (l.length : Int)) = true:=by assumption
       simp at h; omega
     . have h : decide ((i : Int) < (l.length : Int)) = true:=by assumption
       simp at h; omega
     . have h : decide ((i : Int) < (l.length : Int)) = false:=by assumption
       simp at h
       rw [zA1 hlen fun q hq => hall q (by omega)]
def zEu (a b : D) : Bool:=cmpV (bulkD a + bulkD b) a b == 0
def sEq (a b : D) : Bool:=a.s.toList == b.s.toList
def argEq (a b : D) : Bool:=sEq (a.f 0) (b.f 0) && zEu (a.f 1) (b.f 1)
def dirEq (a b : D) : Bool:=sEq (a.f 0) (b.f 0) && eqL argEq (a.f 1).l (b.f 1).l
def zDq (a b : D) : Bool:=sEq (a.f 0) (b.f 0) && eqL intEq (a.f 1).l (b.f 1).l
theorem valP_ac (a b : D) (ha : bulkD a <= 400000000) (hb : bulkD b <= 400000000) : AC EN Tryd.prog 30 [.agg (cellsV Tryd.prog 12 44 a),.agg (cellsV Tryd.prog 12 44 b)] (.c (.bool (zEu a b))):=
 same_valE _ a b (zBS _ _ (by omega)) (zBS _ _ (by omega)) (by omega) (by omega)
theorem zr (a : D) (i : Nat) : bulkD (a.f i) <= bulkD a /\ bulkL (a.f i).l <= bulkD a /\ bulkL (a.f i).l < bulkD a:=by
 have h1:=wD_f a i
 have h2:=zy a
 have h3:=zy (a.f i)
 have h4:=zAE (a.f i)
 omega
theorem zAZ {l : List D} {i : Nat} (h : i < l.length) {N : Nat} (hb : bulkL l <= N) : bulkD (gD l i) <= N:=Nat.le_trans (zAa h) hb
theorem refE_ac (a b : D) (ha : bulkD a <= 100000000) (hb : bulkD b <= 100000000) : AC EN Tryd.prog 33 [.agg (cellsV Tryd.prog 12 38 a),.agg (cellsV Tryd.prog 12 38 b)] (.c (.bool (zDq a b))):=by
 have h1:=eqInt_ac (a.f 1).l (b.f 1).l (by have:=zAY (a.f 1).l; have:=zr a 1; omega)
 unfold zDq sEq
 refine zV 17 Tryd.func33 rfl rfl rfl rfl ?_
 intro s w he
 repeat' (first
|apply s_wanted_pick_t rfl rfl rfl
 . conv => lhs; whnf
 . first | rfl | assumption
 . conv => lhs; whnf
 . first | exact bT1 ‹_› | exact bT2 ‹_› | rfl
|apply zAK rfl rfl rfl
 . conv => lhs; whnf
 . first | rfl | assumption
 . conv => lhs; whnf
 . first | exact bT1 ‹_› | exact bT2 ‹_› | rfl
|apply s_wanted_pick_f rfl rfl rfl
 . conv => lhs; whnf
 . first | rfl | assumption
 . conv => lhs; whnf
 . first | exact bF1 ‹_› | exact bF2 ‹_› | rfl
|apply zAL rfl rfl rfl
 . conv => lhs; whnf
 . first | rfl | assumption
 . conv => lhs; whnf
 . first | exact bF1 ‹_› | exact bF2 ‹_› | rfl
|refine zA ?_
|refine zI ?_
|refine zZ ?_
|refine zW ?_
|refine zi ?_
|apply aw_1
 conv => whnf
 refine ⟨?_,trivial⟩
|apply zn rfl rfl
 . conv => lhs; whnf
 . conv => lhs; whnf
 . first | exact bT1 ‹_› | exact bT2 ‹_›
|apply zl rfl rfl
 . conv => lhs; whnf
 . conv => lhs; whnf
 . first | exact bF1 ‹_› | exact bF2 ‹_›
|apply s_1
 conv => whnf; arg 1; arg 4; arg 3; whnf
 refine ⟨?_,?_⟩
|apply zAF rfl
 . conv => lhs; whnf
 . conv => lhs; whnf; arg 2; whnf
|apply zk rfl
 . conv => lhs; whnf
 . conv => lhs; whnf
 . first | exact h1
|apply zAO rfl rfl rfl rfl
 . conv => lhs; whnf; arg 1; whnf
 . rfl
|apply zQ rfl
 . conv => lhs; whnf
 . conv => lhs; whnf
 . first | rfl | assumption
 . conv => lhs; whnf; arg 2; whnf
|apply zP rfl
 . conv => lhs; whnf
 . conv => lhs; whnf
 . first | rfl | assumption
 . conv => lhs; whnf
 . first | exact h1
|apply zAB rfl
 . conv => lhs; whnf
 . conv => lhs; whnf
 . first | rfl | assumption
|apply zAm rfl
 . conv => lhs; whnf
 . rfl
 . rfl
|apply zb rfl
 . conv => lhs; whnf
 . conv => lhs; whnf
 . conv => lhs; whnf; arg 2; whnf
|apply zt rfl
 . conv => lhs; whnf
 . conv => lhs; whnf
 . conv => lhs; whnf
 . first | exact h1
|apply zm rfl
 . conv => lhs; whnf
 . conv => lhs; whnf
 . conv => lhs; whnf; arg 2; whnf
|apply zg rfl
 . conv => lhs; whnf
 . conv => lhs; whnf
 . conv => lhs; whnf
 . first | exact h1
|apply zS
 . conv => lhs; whnf; arg 1; arg 1; whnf
|apply zU
 . conv => lhs; whnf; arg 1; arg 1; whnf
|refine zd (by conv => lhs; whnf) ?_ ?_ <;> intro hb
|refine zv ?_
|refine zh ?_
|refine zJ ?_
|refine zK ?_
|refine zH ?_
|refine zE rfl ?_
|refine zM rfl ?_
|refine zL ?_
|refine zO ?_
|refine zC ?_
|refine zN ?_
|refine zAG ?_
|refine zB ?_
|refine ⟨_,by conv => lhs; whnf; arg 2; whnf,?_⟩; conv => rhs; whnf
|exact trivial
|intro hg)
 all_goals first | exact Tryd.underlying4 | (simp only [beq_true] at *; simp only [*,Bool.true_and,Bool.false_and,Bool.and_true,Bool.and_false])
theorem zEC (s : ByteArray) : s.toList = tx s:=by rw [Lib.toList_data]; rfl
theorem zGw : ∀ a b : List UInt8,Lib.compareBytes a b = if Op.bytesLess a b then -1 else if a == b then 0 else 1
 | [],[] => rfl
 | [],_ :: _ => rfl
 | _ :: _,[] => by simp [Lib.compareBytes,Op.bytesLess]
 | a :: ar,b :: br => by
   have ih:=zGw ar br
   rw [Lib.compareBytes]
   by_cases h : a < b
   . simp [h,Op.bytesLess]
   . by_cases h2 : b < a
     . have : a ≠ b:=by rintro rfl; exact h h2
       simp [h,h2,Op.bytesLess,this]
     . have : a = b:=UInt8.le_antisymm (UInt8.not_lt.1 h2) (UInt8.not_lt.1 h)
       subst this
       rw [if_neg h,if_neg h,ih]; simp [Op.bytesLess,h]
theorem intsR_ac (a b : Int) : AC EN Tryd.prog 80 [.c (.int .i64 a),.c (.int .i64 b)] (.c (.int .i64 (ordI a b))):=by
 refine zV 11 Tryd.func80 rfl rfl rfl rfl ?_
 intro s w he
 repeat' (first
|refine zA ?_
|refine zI ?_
|refine zZ ?_
|apply aw_1
 conv => whnf
 refine ⟨?_,trivial⟩
|apply s_1
 conv => whnf; arg 1; arg 4; arg 3; whnf
 refine ⟨?_,?_⟩
|refine zd (by conv => lhs; whnf) ?_ ?_ <;> intro hb
|refine zK ?_
|refine zB ?_
|refine ⟨_,by conv => lhs; whnf; arg 2; whnf,?_⟩; conv => rhs; whnf
|exact trivial)
 all_goals (simp only [decide_eq_true_eq,decide_eq_false_iff_not] at *; unfold ordI)
 . rw [if_pos (by omega)]
 . rw [if_neg (by omega),if_pos (by omega)]
 . rw [if_neg (by omega),if_neg (by omega)]
theorem strsC_ac (a b : ByteArray) : AC EN Tryd.prog 81 [.c (.string a),.c (.string b)] (.c (.int .i64 (Lib.compareBytes (tx a) (tx b)))):=by
 refine zV 11 Tryd.func81 rfl rfl rfl rfl ?_
 intro s w he
 repeat' (first
|refine zA ?_
|refine zI ?_
|refine zZ ?_
|apply aw_1
 conv => whnf
 refine ⟨?_,trivial⟩
|apply s_1
 conv => whnf; arg 1; arg 4; arg 3; whnf
 refine ⟨?_,?_⟩
|refine zd (by conv => lhs; whnf) ?_ ?_ <;> intro hb
|refine zK ?_
|refine zB ?_
|refine ⟨_,by conv => lhs; whnf; arg 2; whnf,?_⟩; conv => rhs; whnf
|exact trivial)
 all_goals rw [zGw]
 all_goals simp only [zEC] at *
 all_goals simp_all
theorem keyR_ac (d : D) (i : Nat) : AC EN Tryd.prog 82 [.agg (cellsV Tryd.prog 12 44 d),.c (.int .i64 (i : Int))] (.c (.string (keyD d i))):=by
 unfold keyD
 by_cases h : i < (d.f 4).l.length
 . have f1 : decide ((i : Int) < ((d.f 4).l.length : Nat)) = true:=decide_eq_true (by omega)
   rw [if_pos h]
   refine zV 15 Tryd.func82 rfl rfl rfl rfl ?_
   intro s w he
   repeat' (first
|apply zG
 . conv => lhs; whnf
 . assumption
|refine zA ?_
|refine zI ?_
|refine zZ ?_
|apply aw_1
 conv => whnf
 refine ⟨?_,trivial⟩
|apply s_1
 conv => whnf; arg 1; arg 4; arg 3; whnf
 refine ⟨?_,?_⟩
|apply zAO rfl rfl rfl rfl
 . conv => lhs; whnf; arg 1; whnf
 . rfl
|refine zK ?_
|refine zB ?_
|refine ⟨_,by conv => lhs; whnf; arg 2; whnf,?_⟩; conv => rhs; whnf
|exact trivial)
   all_goals first
    | exact zx h
    | rfl
 . have f1 : decide ((i : Int) < ((d.f 4).l.length : Nat)) = false:=decide_eq_false (by omega)
   rw [if_neg h]
   refine zV 15 Tryd.func82 rfl rfl rfl rfl ?_
   intro s w he
   repeat' (first
|apply zF
 . conv => lhs; whnf
 . assumption
|refine zA ?_
|refine zI ?_
|refine zZ ?_
|apply aw_1
 conv => whnf
 refine ⟨?_,trivial⟩
|apply s_1
 conv => whnf; arg 1; arg 4; arg 3; whnf
 refine ⟨?_,?_⟩
|apply zAO rfl rfl rfl rfl
 . conv => lhs; whnf; arg 1; whnf
 . rfl
|refine zB ?_
|refine ⟨_,by conv => lhs; whnf; arg 2; whnf,?_⟩; conv => rhs; whnf
|exact trivial)
noncomputable def HCg (a b : D) (c : Int) (i : Nat) : Vst 70:=stS 70 [(2,.bx 2 0),(3,.bx 3 0),(5,.c (.int .i64 c)),(6,.c (.int .i64 (i : Int)))] [(2,.box 44 (cellsV Tryd.prog 12 44 a)),(3,.box 44 (cellsV Tryd.prog 12 44 b))]
def cmp0 (a b : D) : Int:=if ordI (a.f 0).n (b.f 0).n == 0 then (if ordI (a.f 1).n (b.f 1).n == 0 then Lib.compareBytes (tx (a.f 2).s) (tx (b.f 2).s) else ordI (a.f 1).n (b.f 1).n) else ordI (a.f 0).n (b.f 0).n
theorem ordI_ne {a b : Int} : (ordI a b == 0) = !(a != b):=by
 have:=@zB5 a b
 by_cases h : a = b
 . simp [h,ordI]
 . have : ordI a b ≠ 0:=fun e => h (this.1 e)
   rw [beq_eq_false_iff_ne.2 this]; simp [h]
theorem cmpV_0 (k : Nat) (a b : D) : cmpV (k + 1) a b = if cmp0 a b == 0 then zCN (cmpV k) a b (min (a.f 3).l.length (b.f 3).l.length) 0 else cmp0 a b:=by
 have e0:=@ordI_ne (a.f 0).n (b.f 0).n
 have e1:=@ordI_ne (a.f 1).n (b.f 1).n
 have e2 : (Lib.compareBytes (tx (a.f 2).s) (tx (b.f 2).s) == 0) = ((a.f 2).s.toList == (b.f 2).s.toList):=by
  have hz:=zB8 (tx (a.f 2).s) (tx (b.f 2).s)
  rw [zEC,zEC]
  rw [Bool.eq_iff_iff]
  simp only [beq_iff_eq]
  exact hz
 unfold cmpV cmp0
 cases h0 : ((a.f 0).n != (b.f 0).n) <;> cases h1 : ((a.f 1).n != (b.f 1).n) <;> cases h2 : ((a.f 2).s.toList == (b.f 2).s.toList) <;> rw [h0] at e0 <;> rw [h1] at e1 <;> rw [h2] at e2 <;> simp only [Bool.not_true,Bool.not_false] at e0 e1 <;> simp only [e0,e1,e2,if_true,if_false,Bool.not_true,Bool.not_false,Bool.false_eq_true]
theorem zB0 {f : D -> D -> Bool} {l m : List D} {i : Nat} (h : ∀ q,q < i -> f (gD l q) (gD m q) = true) (hi : f (gD l i) (gD m i) = true) : ∀ q,q < i + 1 -> f (gD l q) (gD m q) = true:=fun q hq => by
 by_cases e : q = i
 . subst e; exact hi
 . exact h q (by omega)
theorem next1 {K R X Y : Int} {P : Prop} (q : (K == 0) = false) (hR : R = if K != 0 then K else X) : (K ≠ 0 /\ R = K) \/ (K = 0 /\ P /\ R = Y):=
 .inl ⟨by simpa using q,by rw [hR,if_pos (by simpa using q)]⟩
theorem next2 {K C R Y : Int} {P : Prop} (q : (K == 0) = true) (hR : R = if K != 0 then K else if C != 0 then C else Y) (hp : P) : (C ≠ 0 /\ R = C) \/ (C = 0 /\ P /\ R = Y):=by
 have q : K = 0:=by simpa using q
 rw [if_neg (by simp [q])] at hR
 by_cases h : C = 0
 . exact .inr ⟨h,hp,by rw [hR,if_neg (by simp [h])]⟩
 . exact .inl ⟨h,by rw [hR,if_pos (by simpa using h)]⟩
theorem cmpR_ac : ∀ (k : Nat) (a b : D),Dp k a -> Dp k b -> bulkD a <= 1000000000 -> bulkD b <= 1000000000 -> AC EN Tryd.prog 71 [.agg (cellsV Tryd.prog 12 44 a),.agg (cellsV Tryd.prog 12 44 b)] (.c (.int .i64 (cmpV k a b)))
 | 0,_,_,h,_,_,_ => h.elim
 | k + 1,a,b,h1,h2,hb1,hb2 => by
   have i1:=bk_in hb1
   have i2:=bk_in hb2
   have l1:=i1.items
   have l2:=i2.items
   have ih:=fun i (hi : i < (a.f 3).l.length) (hj : i < (b.f 3).l.length) => cmpR_ac k _ _ (h1 i hi) (h2 i hj) (by have:=i1.at_ i hi; omega) (by have:=i2.at_ i hj; omega)
   have c3:=fun x y => strsC_ac x y
   have c4:=fun x y => intsR_ac x y
   rw [cmpV_0]
   obtain ⟨c,hc⟩ : ∃ c,c = cmp0 a b:=⟨_,rfl⟩
   have hR : ∃ R,(if cmp0 a b == 0 then zCN (cmpV k) a b (min (a.f 3).l.length (b.f 3).l.length) 0 else cmp0 a b) = R /\ ((c ≠ 0 /\ R = c) \/ (c = 0 /\ R = zCN (cmpV k) a b (min (a.f 3).l.length (b.f 3).l.length) 0)):=by
    subst hc
    by_cases h : cmp0 a b = 0
    . exact ⟨_,if_pos (by simp [h]),.inr ⟨h,rfl⟩⟩
    . exact ⟨_,if_neg (by simp [h]),.inl ⟨h,rfl⟩⟩
   obtain ⟨R,eR,hR⟩:=hR
   rw [eR]
   clear eR
   cases q0 : (ordI (a.f 0).n (b.f 0).n == 0) <;> cases q1 : (ordI (a.f 1).n (b.f 1).n == 0)
   all_goals
    refine zV 70 Tryd.func71 rfl rfl rfl rfl ?_
    intro s w he
    repeat' (first
|apply zG
 . conv => lhs; whnf
 . assumption
|apply zF
 . conv => lhs; whnf
 . assumption
|refine zA ?_
|refine zI ?_
|refine zZ ?_
|apply aw_1
 conv => whnf
 refine ⟨?_,trivial⟩
|apply s_1
 conv => whnf; arg 1; arg 4; arg 3; whnf
 refine ⟨?_,?_⟩
|apply zk rfl
 . conv => lhs; whnf
 . conv => lhs; whnf
 . first | exact c3 _ _ | exact c4 _ _
|apply zAO rfl rfl rfl rfl
 . conv => lhs; whnf; arg 1; whnf
 . rfl
|exact trivial)
    refine z7 (fun j st => ∃ i c,((c ≠ 0 /\ R = c) \/ (c = 0 /\ i + j = min (a.f 3).l.length (b.f 3).l.length /\ R = zCN (cmpV k) a b j i)) /\ i <= 1000000001 /\ Sub (cx EN Tryd.prog s w he) st (HCg a b c i)) (min (a.f 3).l.length (b.f 3).l.length) ⟨0,c,?_,by omega,Sub.live ⟨rfl,rfl,?_,rfl,trivial⟩ ⟨rfl,rfl,trivial⟩⟩ ?_
    . rcases hR with h | h
      . exact .inl h
      . exact .inr ⟨h.1,by omega,h.2⟩
    . rw [hc]; unfold cmp0; rw [q0]; first | rfl | (rw [q1]; rfl)
    clear q0 q1 hR hc c
    rintro j st ⟨i,c,hR,hi,hs2⟩
    refine zAA hs2 ?_
    clear hs2
    by_cases hz : c = 0
    . have f0 : (c == 0) = true:=by simp [hz]
      obtain ⟨hij,hR⟩ : i + j = min (a.f 3).l.length (b.f 3).l.length /\ R = zCN (cmpV k) a b j i:=by
       rcases hR with h | h
       . exact absurd hz h.1
       . exact h.2
      by_cases ha : i < (a.f 3).l.length
      . have f1 : decide ((i : Int) >= ((a.f 3).l.length : Nat)) = false:=decide_eq_false (by omega)
        have g1 : (decide ((i : Int) >= ((a.f 3).l.length : Nat)) == false) = true:=by rw [f1]; rfl
        by_cases hb : i < (b.f 3).l.length
        . have f2 : decide ((i : Int) >= ((b.f 3).l.length : Nat)) = false:=decide_eq_false (by omega)
          obtain ⟨j,rfl⟩ : ∃ q,j = q + 1:=⟨j - 1,by omega⟩
          have d1:=keyR_ac a i
          have d2:=keyR_ac b i
          have d3:=ih i ha hb
          rw [zCN] at hR
          cases q2 : (Lib.compareBytes (tx (keyD a i)) (tx (keyD b i)) == 0)
          all_goals
           repeat' (first
|apply zG
 . conv => lhs; whnf
 . assumption
|apply zF
 . conv => lhs; whnf
 . assumption
|refine zA ?_
|refine zI ?_
|refine zZ ?_
|refine zW ?_
|apply aw_1
 conv => whnf
 refine ⟨?_,trivial⟩
|apply zl rfl rfl
 . conv => lhs; whnf
 . conv => lhs; whnf
 . first | exact bF1 ‹_› | exact bF2 ‹_›
|apply s_1
 conv => whnf; arg 1; arg 4; arg 3; whnf
 refine ⟨?_,?_⟩
|apply zQ rfl
 . conv => lhs; whnf
 . conv => lhs; whnf
 . first | rfl | assumption
 . conv => lhs; whnf; arg 2; whnf
|apply zq (by kernel_rfl) (by kernel_rfl)
|apply zAR
|apply zAQ rfl
 . conv => lhs; whnf
 . conv => lhs; whnf; arg 2; whnf
|apply zAU rfl
 . conv => lhs; whnf
 . conv => lhs; whnf
 . first | exact c3 _ _ | exact c4 _ _ | exact d1 | exact d2 | exact d3
|exact zR
|exact zX
|exact (1000000 : Nat)
|exact trivial)
          all_goals first
           | exact zu (by omega)
           | exact zx ha
           | exact zx hb
           | exact za (j':=j) (by omega) ⟨i + 1,Lib.compareBytes (tx (keyD a i)) (tx (keyD b i)),next1 q2 hR,by omega,Sub.live ⟨rfl,rfl,rfl,rfl,trivial⟩ ⟨rfl,rfl,trivial⟩⟩
           | exact za (j':=j) (by omega) ⟨i + 1,cmpV k (gD (a.f 3).l i) (gD (b.f 3).l i),next2 q2 hR (by omega),by omega,Sub.live ⟨rfl,rfl,rfl,rfl,trivial⟩ ⟨rfl,rfl,trivial⟩⟩
           | skip
        . have f2 : decide ((i : Int) >= ((b.f 3).l.length : Nat)) = true:=decide_eq_true (by omega)
          obtain rfl : j = 0:=by omega
          repeat' (first
|apply zG
 . conv => lhs; whnf
 . assumption
|refine zA ?_
|refine zI ?_
|refine zZ ?_
|apply aw_1
 conv => whnf
 refine ⟨?_,trivial⟩
|apply zl rfl rfl
 . conv => lhs; whnf
 . conv => lhs; whnf
 . first | exact bF1 ‹_› | exact bF2 ‹_›
|apply s_1
 conv => whnf; arg 1; arg 4; arg 3; whnf
 refine ⟨?_,?_⟩
|apply zk rfl
 . conv => lhs; whnf
 . conv => lhs; whnf
 . first | exact c3 _ _ | exact c4 _ _
|apply zQ rfl
 . conv => lhs; whnf
 . conv => lhs; whnf
 . first | rfl | assumption
 . conv => lhs; whnf; arg 2; whnf
|refine zK ?_
|refine zH ?_
|refine zN ?_
|refine zB ?_
|refine ⟨_,by conv => lhs; whnf; arg 2; whnf,?_⟩; conv => rhs; whnf
|exact trivial)
          rw [hR]; rfl
      . have f1 : decide ((i : Int) >= ((a.f 3).l.length : Nat)) = true:=decide_eq_true (by omega)
        have g1 : (decide ((i : Int) >= ((a.f 3).l.length : Nat)) == false) = false:=by rw [f1]; rfl
        obtain rfl : j = 0:=by omega
        repeat' (first
|apply zG
 . conv => lhs; whnf
 . assumption
|refine zA ?_
|refine zI ?_
|refine zZ ?_
|apply aw_1
 conv => whnf
 refine ⟨?_,trivial⟩
|apply zn rfl rfl
 . conv => lhs; whnf
 . conv => lhs; whnf
 . first | exact bT1 ‹_› | exact bT2 ‹_›
|apply s_1
 conv => whnf; arg 1; arg 4; arg 3; whnf
 refine ⟨?_,?_⟩
|apply zk rfl
 . conv => lhs; whnf
 . conv => lhs; whnf
 . first | exact c3 _ _ | exact c4 _ _
|apply zAB rfl
 . conv => lhs; whnf
 . conv => lhs; whnf
 . first | rfl | assumption
|refine zK ?_
|refine zH ?_
|refine zN ?_
|refine zB ?_
|refine ⟨_,by conv => lhs; whnf; arg 2; whnf,?_⟩; conv => rhs; whnf
|exact trivial)
        rw [hR]; rfl
    . have f0 : (c == 0) = false:=by simp [hz]
      repeat' (first
|apply zF
 . conv => lhs; whnf
 . assumption
|refine zA ?_
|refine zI ?_
|refine zZ ?_
|apply aw_1
 conv => whnf
 refine ⟨?_,trivial⟩
|apply s_1
 conv => whnf; arg 1; arg 4; arg 3; whnf
 refine ⟨?_,?_⟩
|refine zJ ?_
|refine zE rfl ?_
|refine zC ?_
|refine zB ?_
|refine ⟨_,by conv => lhs; whnf; arg 2; whnf,?_⟩; conv => rhs; whnf
|exact trivial)
      rcases hR with h | h
      . rw [h.2]
      . exact absurd h.1 hz
theorem valR_ac (a b : D) (ha : bulkD a <= 400000000) (hb : bulkD b <= 400000000) : AC EN Tryd.prog 55 [.agg (cellsV Tryd.prog 12 44 a),.agg (cellsV Tryd.prog 12 44 b)] (.c (.bool (zEu a b))):=by
 have h:=cmpR_ac _ a b (zBS (bulkD a + bulkD b) _ (by omega)) (zBS _ _ (by omega)) (by omega) (by omega)
 refine zV 9 Tryd.func55 rfl rfl rfl rfl ?_
 intro s w he
 repeat' (first
|refine zA ?_
|refine zI ?_
|refine zZ ?_
|apply aw_1
 conv => whnf
 refine ⟨?_,trivial⟩
|apply s_1
 conv => whnf; arg 1; arg 4; arg 3; whnf
 refine ⟨?_,?_⟩
|apply zk rfl
 . conv => lhs; whnf
 . conv => lhs; whnf
 . first | exact h
|apply zAO rfl rfl rfl rfl
 . conv => lhs; whnf; arg 1; whnf
 . rfl
|refine zB ?_
|refine ⟨_,by conv => lhs; whnf; arg 2; whnf,?_⟩; conv => rhs; whnf
|exact trivial)
 rfl
noncomputable def HWg (l m : List D) (i : Nat) : Vst 26:=stS 26 [(0,.sl 3 l),(1,.sl 3 m),(5,.c (.int .i64 (i : Int)))] []
theorem wrapsR_ac (l m : List D) (hl : l.length <= 1000000000) : AC EN Tryd.prog 56 [.sl 3 l,.sl 3 m] (.c (.bool (eqL intEq l m))):=by
 by_cases hlen : l.length = m.length
 . have f0 : ((l.length : Int) != (m.length : Int)) = false:=by simp [hlen]
   refine zV 26 Tryd.func56 rfl rfl rfl rfl ?_
   intro s w he
   repeat' (first
|apply zF
 . conv => lhs; whnf
 . assumption
|refine zA ?_
|refine zI ?_
|refine zZ ?_
|apply aw_1
 conv => whnf
 refine ⟨?_,trivial⟩
|apply s_1
 conv => whnf; arg 1; arg 4; arg 3; whnf
 refine ⟨?_,?_⟩
|exact trivial)
   refine z7 (fun j st => ∃ i,i + j = l.length /\ (∀ q,q < i -> intEq (gD l q) (gD m q) = true) /\ Sub (cx EN Tryd.prog s w he) st (HWg l m i)) l.length ⟨0,by omega,fun q hq => by omega,Sub.live ⟨rfl,rfl,rfl,trivial⟩ trivial⟩ ?_
   rintro j st ⟨i,hij,hall,hs2⟩
   refine zAA hs2 ?_
   clear hs2
   by_cases hi : i < l.length
   . have f1 : decide ((i : Int) < (l.length : Nat)) = true:=decide_eq_true (by omega)
     have hm : i < m.length:=by omega
     cases q : intEq (gD l i) (gD m i) with
     | true =>
       have f2 : ((gD l i).n != (gD m i).n) = false:=by simpa [intEq] using q
       repeat' (first
|apply zG
 . conv => lhs; whnf
 . assumption
|apply zF
 . conv => lhs; whnf
 . assumption
|refine zA ?_
|refine zI ?_
|refine zZ ?_
|refine zW ?_
|apply aw_1
 conv => whnf
 refine ⟨?_,trivial⟩
|apply s_1
 conv => whnf; arg 1; arg 4; arg 3; whnf
 refine ⟨?_,?_⟩
|apply zq (by kernel_rfl) (by kernel_rfl)
|apply zAR
|apply zAQ rfl
 . conv => lhs; whnf
 . conv => lhs; whnf; arg 2; whnf
|exact zR
|exact zX
|exact (1000000 : Nat)
|exact trivial)
       all_goals first
        | exact zu (by omega)
        | exact zx hi
        | exact zx hm
        | exact za (j':=j - 1) (by omega) ⟨i + 1,by omega,zB0 hall q,Sub.live ⟨rfl,rfl,rfl,trivial⟩ trivial⟩
     | false =>
       have f2 : ((gD l i).n != (gD m i).n) = true:=by simpa [intEq] using q
       rw [zAg hi q]
       repeat' (first
|apply zG
 . conv => lhs; whnf
 . assumption
|refine zA ?_
|refine zI ?_
|refine zZ ?_
|apply aw_1
 conv => whnf
 refine ⟨?_,trivial⟩
|apply s_1
 conv => whnf; arg 1; arg 4; arg 3; whnf
 refine ⟨?_,?_⟩
|apply zq (by kernel_rfl) (by kernel_rfl)
|apply zAR
|apply zAQ rfl
 . conv => lhs; whnf
 . conv => lhs; whnf; arg 2; whnf
|exact zR
|exact zX
|exact (1000000 : Nat)
|refine zK ?_
|refine zH ?_
|refine zN ?_
|refine zB ?_
|refine ⟨_,by conv => lhs; whnf; arg 2; whnf,?_⟩; conv => rhs; whnf
|exact trivial)
       all_goals first
        | exact zx hi
        | exact zx hm
   . have f1 : decide ((i : Int) < (l.length : Nat)) = false:=decide_eq_false (by omega)
     rw [zA1 hlen fun q hq => hall q (by omega)]
     repeat' (first
|apply zF
 . conv => lhs; whnf
 . assumption
|refine zA ?_
|refine zI ?_
|refine zZ ?_
|apply aw_1
 conv => whnf
 refine ⟨?_,trivial⟩
|apply s_1
 conv => whnf; arg 1; arg 4; arg 3; whnf
 refine ⟨?_,?_⟩
|refine zJ ?_
|refine zE rfl ?_
|refine zC ?_
|refine zB ?_
|refine ⟨_,by conv => lhs; whnf; arg 2; whnf,?_⟩; conv => rhs; whnf
|exact trivial)
 . have f0 : ((l.length : Int) != (m.length : Int)) = true:=by simp; omega
   rw [zBd f0]
   refine zV 26 Tryd.func56 rfl rfl rfl rfl ?_
   intro s w he
   repeat' (first
|apply zG
 . conv => lhs; whnf
 . assumption
|refine zA ?_
|refine zI ?_
|refine zZ ?_
|apply aw_1
 conv => whnf
 refine ⟨?_,trivial⟩
|apply s_1
 conv => whnf; arg 1; arg 4; arg 3; whnf
 refine ⟨?_,?_⟩
|refine zK ?_
|refine zB ?_
|refine ⟨_,by conv => lhs; whnf; arg 2; whnf,?_⟩; conv => rhs; whnf
|exact trivial)
theorem zHs (a b : D) (ha : bulkD a <= 100000000) : AC EN Tryd.prog 38 [.agg (cellsV Tryd.prog 12 38 a),.agg (cellsV Tryd.prog 12 38 b)] (.c (.bool (zDq a b))):=by
 have h1:=wrapsR_ac (a.f 1).l (b.f 1).l (by have:=zAY (a.f 1).l; have:=zr a 1; omega)
 unfold zDq sEq
 refine zV 17 Tryd.func38 rfl rfl rfl rfl ?_
 intro s w he
 repeat' (first
|refine zA ?_
|refine zI ?_
|refine zZ ?_
|apply aw_1
 conv => whnf
 refine ⟨?_,trivial⟩
|apply zn rfl rfl
 . conv => lhs; whnf
 . conv => lhs; whnf
 . first | exact bT1 ‹_› | exact bT2 ‹_›
|apply zl rfl rfl
 . conv => lhs; whnf
 . conv => lhs; whnf
 . first | exact bF1 ‹_› | exact bF2 ‹_›
|apply s_1
 conv => whnf; arg 1; arg 4; arg 3; whnf
 refine ⟨?_,?_⟩
|apply zAO rfl rfl rfl rfl
 . conv => lhs; whnf; arg 1; whnf
 . rfl
|apply zQ rfl
 . conv => lhs; whnf
 . conv => lhs; whnf
 . first | rfl | assumption
 . conv => lhs; whnf; arg 2; whnf
|apply zP rfl
 . conv => lhs; whnf
 . conv => lhs; whnf
 . first | rfl | assumption
 . conv => lhs; whnf
 . first | exact h1
|apply zAB rfl
 . conv => lhs; whnf
 . conv => lhs; whnf
 . first | rfl | assumption
|apply zb rfl
 . conv => lhs; whnf
 . conv => lhs; whnf
 . conv => lhs; whnf; arg 2; whnf
|refine zB ?_
|refine ⟨_,by conv => lhs; whnf; arg 2; whnf,?_⟩; conv => rhs; whnf
|exact trivial
|intro hg)
 all_goals first | exact Tryd.underlying4 | (simp only [beq_true] at *; simp only [*,Bool.true_and,Bool.false_and,Bool.and_true,Bool.and_false])
end Go.Proofs.YtdlnnlglmifceaaDoor
