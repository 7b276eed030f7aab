import GoSem.Extern.BytealgCompare
import Derived.Lib.Bytealg
import Derived.Test.YtdlnnlglmifceaaGreatDoorQ29
set_option maxHeartbeats 8000000
set_option maxRecDepth 100000
set_option linter.unusedVariables false
set_option linter.unusedSimpArgs false
namespace Go.Proofs.YtdlnnlglmifceaaGreatDoor
open Go.RowKit
set_option linter.unusedSectionVars false
attribute [local irreducible] wpList Calls Code.wp AW AWo OpOk seqK zAP zAR loopK endK AC zy Yld Sub
attribute [local irreducible] ACB ACX ACE absLexG YldG
def ordI (a b : Int) : Int:=if a < b then -1 else if b < a then 1 else 0
theorem zEB {a b : Int} : ordI a b = 0 ↔ a = b:=by
 unfold ordI
 split
 . constructor <;> intro h <;> omega
 . split
   . constructor <;> intro h <;> omega
   . constructor <;> intro h <;> omega
theorem zFB : ∀ (a b : List UInt8),-1 <= Lib.compareBytes a b /\ Lib.compareBytes a b <= 1
 | [],[] => by simp [Lib.compareBytes]
 | [],_ :: _ => by simp [Lib.compareBytes]
 | _ :: _,[] => by simp [Lib.compareBytes]
 | a :: ar,b :: br => by
   have:=zFB ar br
   unfold Lib.compareBytes
   split
   . omega
   . split
     . omega
     . exact this
theorem zGf : ∀ (a b : List UInt8),Lib.compareBytes a b = 0 ↔ a = b
 | [],[] => by simp [Lib.compareBytes]
 | [],_ :: _ => by simp [Lib.compareBytes]
 | _ :: _,[] => by simp [Lib.compareBytes]
 | a :: ar,b :: br => by
   have:=zGf ar br
   unfold Lib.compareBytes
   by_cases h1 : a < b
   . rw [if_pos h1]
     constructor
     . intro h; omega
     . intro h; cases h; exact absurd h1 (UInt8.lt_irrefl _)
   . rw [if_neg h1]
     by_cases h2 : b < a
     . rw [if_pos h2]
       constructor
       . intro h; omega
       . intro h; cases h; exact absurd h2 (UInt8.lt_irrefl _)
     . rw [if_neg h2,this]
       have e : a = b:=UInt8.le_antisymm (UInt8.not_lt.1 h2) (UInt8.not_lt.1 h1)
       simp [e]
theorem i64_small {n : Int} (h : -1 <= n /\ n <= 1) : okV (.int .i64 n):=by
 show (Lit.int .i64 n).wf = true
 rw [zB2]
 simp [IntKind.min,IntKind.max,IntKind.signed,IntKind.bits]; omega
theorem cmpStrC (a b : ByteArray) (w : World) : Calls Tryz.prog 157 #[.string a,.string b] w fun e w' => e = .returned (.int .i64 (Lib.compareBytes (tx a) (tx b))) /\ w' = w:=by
 go_enter Tryz.func157,Tryz.ntmps157
 go_wp2
 rw [run_callFunc_extern Tryz.func187 (by kernel_rfl) (by kernel_rfl) (by kernel_rfl) (e:=Extern.BytealgCompare.compare) (by kernel_rfl),Lib.run_compareString]
 simp only [Result.andThen]
 rw [Oper.upon_value]
 go_wp2
 go_ret
 exact ⟨rfl,rfl⟩
theorem cmpStr1 (a b : ByteArray) : AC EN5 Tryz.prog 157 [.c (.string a),.c (.string b)] (.c (.int .i64 (Lib.compareBytes (tx a) (tx b)))):=
 zDB fun s w us hus _ => by
  obtain ⟨u,u2,rfl,h1,h2⟩:=rel_two hus
  rw [rel] at h1 h2
  obtain ⟨rfl,-⟩:=h1
  obtain ⟨rfl,-⟩:=h2
  exact ⟨fun _ _ => by rw [rel]; exact ⟨rfl,i64_small (zFB _ _)⟩,(cmpStrC a b w).mono fun e w' h => ⟨h.1,by rw [h.2]; exact Below.refl _ _⟩⟩
theorem cmpStr_ac (a b : ByteArray) : AC EN5 Tryz.prog 122 [.c (.string a),.c (.string b)] (.c (.int .i64 (Lib.compareBytes (tx a) (tx b)))):=by
 have h1:=cmpStr1 a b
 refine zX 8 Tryz.func122 rfl rfl rfl rfl ?_
 intro s w he
 repeat' (first
|refine zA ?_
|refine zI ?_
|refine zb ?_
|refine zU ?_
|refine za ?_
|apply aw_1
 conv => whnf
 refine ⟨?_,trivial⟩
|apply s_1
 conv => whnf; arg 1; arg 4; arg 3; whnf
 refine ⟨?_,?_⟩
|apply zt rfl
 . conv => lhs; whnf
 . conv => lhs; whnf; arg 2; whnf
|apply zd rfl
 . conv => lhs; whnf
 . conv => lhs; whnf
 . first | exact h1
|apply zN
 . conv => lhs; whnf; arg 1; arg 1; whnf
|apply zO
 . conv => lhs; whnf; arg 1; arg 1; whnf
|refine zT (by conv => lhs; whnf) ?_ ?_ <;> intro hb
|refine zj ?_
|refine zZ ?_
|refine zG ?_
|refine zK ?_
|refine zC ?_
|refine zB rfl ?_
|refine zE rfl ?_
|refine zF ?_
|refine zJ ?_
|refine zD ?_
|refine zL ?_
|refine z6 ?_
|refine zH ?_
|refine ⟨_,by conv => lhs; whnf; arg 2; whnf,?_⟩; conv => rhs; whnf
|exact trivial
|intro hg)
theorem nan_ac (a : Int) : AC EN5 Tryz.prog 156 [.c (.int .i64 a)] (.c (.bool false)):=by
 refine zX 6 Tryz.func156 rfl rfl rfl rfl ?_
 intro s w he
 repeat' (first
|refine zA ?_
|refine zI ?_
|refine zb ?_
|refine zU ?_
|refine za ?_
|apply aw_1
 conv => whnf
 refine ⟨?_,trivial⟩
|apply s_1
 conv => whnf; arg 1; arg 4; arg 3; whnf
 refine ⟨?_,?_⟩
|apply zt rfl
 . conv => lhs; whnf
 . conv => lhs; whnf; arg 2; whnf
|apply zN
 . conv => lhs; whnf; arg 1; arg 1; whnf
|apply zO
 . conv => lhs; whnf; arg 1; arg 1; whnf
|refine zT (by conv => lhs; whnf) ?_ ?_ <;> intro hb
|refine zj ?_
|refine zZ ?_
|refine zG ?_
|refine zK ?_
|refine zC ?_
|refine zB rfl ?_
|refine zE rfl ?_
|refine zF ?_
|refine zJ ?_
|refine zD ?_
|refine zL ?_
|refine z6 ?_
|refine zH ?_
|refine ⟨_,by conv => lhs; whnf; arg 2; whnf,?_⟩; conv => rhs; whnf
|exact trivial
|intro hg)
 simp
theorem cmpInt_ac (a b : Int) : AC EN5 Tryz.prog 121 [.c (.int .i64 a),.c (.int .i64 b)] (.c (.int .i64 (ordI a b))):=by
 have h1:=nan_ac a
 have h2:=nan_ac b
 refine zX 20 Tryz.func121 rfl rfl rfl rfl ?_
 intro s w he
 repeat' (first
|refine zA ?_
|refine zI ?_
|refine zb ?_
|refine zU ?_
|refine za ?_
|apply aw_1
 conv => whnf
 refine ⟨?_,trivial⟩
|apply s_1
 conv => whnf; arg 1; arg 4; arg 3; whnf
 refine ⟨?_,?_⟩
|apply zt rfl
 . conv => lhs; whnf
 . conv => lhs; whnf; arg 2; whnf
|apply zd rfl
 . conv => lhs; whnf
 . conv => lhs; whnf
 . first | exact h1 | exact h2
|apply zN
 . conv => lhs; whnf; arg 1; arg 1; whnf
|apply zO
 . conv => lhs; whnf; arg 1; arg 1; whnf
|refine zT (by conv => lhs; whnf) ?_ ?_ <;> intro hb
|refine zj ?_
|refine zZ ?_
|refine zG ?_
|refine zK ?_
|refine zC ?_
|refine zB rfl ?_
|refine zE rfl ?_
|refine zF ?_
|refine zJ ?_
|refine zD ?_
|refine zL ?_
|refine z6 ?_
|refine zH ?_
|refine ⟨_,by conv => lhs; whnf; arg 2; whnf,?_⟩; conv => rhs; whnf
|exact trivial
|intro hg)
 all_goals (simp only [decide_eq_true_eq,decide_eq_false_iff_not] at *; unfold ordI)
 . rw [if_pos (by omega)]
 . rw [if_neg (by omega),if_pos (by omega)]
 . rw [if_neg (by omega),if_neg (by omega)]
def keyD (x : D) (i : Nat) : ByteArray:=if i < (x.f 4).l.length then (gD (x.f 4).l i).s else ⟨#[]⟩
theorem key_ac (x : D) (i : Nat) : AC EN5 Tryz.prog 123 [.agg (cellsV Tryz.prog 12 62 x),.c (.int .i64 i)] (.c (.string (keyD x i))):=by
 refine zX 15 Tryz.func123 rfl rfl rfl rfl ?_
 intro s w he
 repeat' (first
|refine zA ?_
|refine zI ?_
|refine zb ?_
|refine zU ?_
|refine za ?_
|apply aw_1
 conv => whnf
 refine ⟨?_,trivial⟩
|apply s_1
 conv => whnf; arg 1; arg 4; arg 3; whnf
 refine ⟨?_,?_⟩
|apply zt rfl
 . conv => lhs; whnf
 . conv => lhs; whnf; arg 2; whnf
|apply zAC rfl rfl rfl rfl
 . conv => lhs; whnf; arg 1; whnf
 . rfl
|apply zN
 . conv => lhs; whnf; arg 1; arg 1; whnf
|apply zO
 . conv => lhs; whnf; arg 1; arg 1; whnf
|refine zT (by conv => lhs; whnf) ?_ ?_ <;> intro hb
|refine zj ?_
|refine zZ ?_
|refine zG ?_
|refine zK ?_
|refine zC ?_
|refine zB rfl ?_
|refine zE rfl ?_
|refine zF ?_
|refine zJ ?_
|refine zD ?_
|refine zL ?_
|refine z6 ?_
|refine zH ?_
|refine ⟨_,by conv => lhs; whnf; arg 2; whnf,?_⟩; conv => rhs; whnf
|exact trivial
|intro hg)
 . have hb : decide ((i : Int) < (x.f 4).l.length) = true:=hb
   unfold keyD
   rw [if_pos (by simpa using hb)]
   rfl
 . have hb : decide ((i : Int) < (x.f 4).l.length) = true:=hb
   show 0 <= (i : Int) /\ (i : Int) < (x.f 4).l.length
   simp at hb; omega
 . have hb : decide ((i : Int) < (x.f 4).l.length) = false:=hb
   unfold keyD
   rw [if_neg (by simpa using hb)]
def cmpIt (f : D -> D -> Int) (a b : D) : Nat -> Nat -> Int
 | 0,_ => ordI (a.f 3).l.length (b.f 3).l.length
 | j + 1,i =>
   if Lib.compareBytes (tx (keyD a i)) (tx (keyD b i)) != 0 then Lib.compareBytes (tx (keyD a i)) (tx (keyD b i))
   else if f (gD (a.f 3).l i) (gD (b.f 3).l i) != 0 then f (gD (a.f 3).l i) (gD (b.f 3).l i)
   else cmpIt f a b j (i + 1)
def cmpV : Nat -> D -> D -> Int
 | 0,_,_ => 0
 | k + 1,a,b =>
   if (a.f 0).n != (b.f 0).n then ordI (a.f 0).n (b.f 0).n
   else if (a.f 1).n != (b.f 1).n then ordI (a.f 1).n (b.f 1).n
   else if !((a.f 2).s.toList == (b.f 2).s.toList) then Lib.compareBytes (tx (a.f 2).s) (tx (b.f 2).s)
   else cmpIt (cmpV k) a b (min (a.f 3).l.length (b.f 3).l.length) 0
noncomputable def HV0 (a b : D) : Vst 84:=
 stS 84 [(2,.bx 2 0),(3,.bx 3 0),(7,.c (.int .i64 0))] [(2,.box 62 (cellsV Tryz.prog 12 62 a)),(3,.box 62 (cellsV Tryz.prog 12 62 b))]
noncomputable def HV1 (r : Int) : Vst 84:=stS 84 [(5,.c (.int .i64 r)),(7,.c (.int .i64 1))] []
noncomputable def HVI (a b : D) (i : Nat) : Vst 84:=
 stS 84 [(2,.bx 2 0),(3,.bx 3 0),(7,.c (.int .i64 0)),(48,.c (.int .i64 (min (a.f 3).l.length (b.f 3).l.length : Nat))),(49,.c (.int .i64 i))] [(2,.box 62 (cellsV Tryz.prog 12 62 a)),(3,.box 62 (cellsV Tryz.prog 12 62 b))]
theorem min_int {x y : Nat} : (if (y : Int) < x then (y : Int) else (x : Int)) = ((min x y : Nat) : Int):=by
 split <;> omega
def zV : D:=.obj [.int 0,.int 0,.str ⟨#[]⟩,.list [],.list []]
noncomputable def HQr (a b : List D) (i : Nat) : Vst 65:=stS 65 [(1,.bx 1 0),(20,.sl 47 a),(21,.c (.int .i64 (a.length : Nat))),(22,.c (.int .i64 (i : Int)))] [(1,.box 25 [.sl 47 a,.sl 50 b])]
end Go.Proofs.YtdlnnlglmifceaaGreatDoor
