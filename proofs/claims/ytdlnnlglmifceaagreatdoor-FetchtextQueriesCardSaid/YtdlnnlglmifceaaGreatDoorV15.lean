import Derived.Lib.AtoiAll
import Derived.Lib.ItoaNum
import Derived.Test.YtdlnnlglmifceaaGreatDoorV14
set_option linter.unusedVariables false
set_option linter.unusedSimpArgs false
namespace Go.Proofs.YtdlnnlglmifceaaGreatDoor
def hexU (n : Nat) : UInt8:=UInt8.ofNat (if n < 10 then 48 + n else 87 + n)
def escU (c : UInt8) : List UInt8:=
 if c = 34 then [92,34] else if c = 92 then [92,92] else if c = 10 then [92,110] else if c = 13 then [92,114] else if c = 9 then [92,116]
 else if 32 <= c.toNat /\ c.toNat <= 126 then [c] else [92,117,48,48,hexU (c.toNat / 16),hexU (c.toNat % 16)]
def escL (l : List UInt8) : List UInt8:=l.flatMap escU
def zD3 (l : List UInt8) : List UInt8:=[34] ++ escL l ++ [34]
theorem escL_snoc (l : List UInt8) (c : UInt8) : escL (l ++ [c]) = escL l ++ escU c:=by simp [escL]
theorem zG9 (c : UInt8) : (escU c).length <= 6:=by
 unfold escU
 repeat' split
 all_goals simp
theorem zCs (l : List UInt8) : (escL l).length <= 6 * l.length:=by
 induction l with
 | nil => simp [escL]
 | cons c l ih =>
   have:=zG9 c
   have e : escL (c :: l) = escU c ++ escL l:=by simp [escL]
   rw [e,List.length_append,List.length_cons]; omega
theorem all256 {p : UInt8 -> Prop} (h : ∀ i : Fin 256,p (UInt8.ofNat i.val)) (c : UInt8) : p c:=by
 have h1:=h ⟨c.toNat,c.toNat_lt⟩
 have e : UInt8.ofNat c.toNat = c:=by simp
 simp only at h1
 rwa [e] at h1
def simU (d : UInt8) : Option UInt8:=
 if d = 34 \/ d = 92 \/ d = 47 then some d else if d = 98 then some 8 else if d = 102 then some 12 else if d = 110 then some 10 else if d = 114 then some 13 else if d = 116 then some 9 else none
def valU (c : UInt8) : Option Nat:=
 if 48 <= c.toNat /\ c.toNat <= 57 then some (c.toNat - 48) else if 97 <= c.toNat /\ c.toNat <= 102 then some (c.toNat - 87) else if 65 <= c.toNat /\ c.toNat <= 70 then some (c.toNat - 55) else none
def zIB (n : Nat) : List UInt8 -> Option Nat
 | [] => some n
 | c :: r => (valU c).bind fun d => zIB (16 * n + d) r
def stpU (u : List UInt8 -> Option (List UInt8)) (c : UInt8) (r : List UInt8) : Option (List UInt8):=
 if c.toNat < 32 \/ 126 < c.toNat \/ c = 34 then none
 else if c ≠ 92 then (u r).map (c :: ·)
 else match r with
  | [] => none
  | d :: r => match simU d with
    | some x => (u r).map (x :: ·)
    | none => if d ≠ 117 \/ r.length < 4 then none else match zIB 0 (r.take 4) with
      | some n => if n <= 255 then (u (r.drop 4)).map (UInt8.ofNat n :: ·) else none
      | none => none
def unqF : Nat -> List UInt8 -> Option (List UInt8)
 | _,[] => some []
 | 0,_ :: _ => none
 | k + 1,c :: r => stpU (unqF k) c r
def unqU (l : List UInt8) : Option (List UInt8):=unqF l.length l
def unquoteU (l : List UInt8) : Option (List UInt8):=
 if 2 <= l.length /\ l.getD 0 0 = 34 /\ l.getD (l.length - 1) 0 = 34 then unqU ((l.drop 1).take (l.length - 2)) else none
def digU (c : UInt8) : Bool:=decide (48 <= c.toNat /\ c.toNat <= 57)
def decV (n : Nat) (l : List UInt8) : Nat:=l.foldl (fun n c => 10 * n + (c.toNat - 48)) n
theorem decV_nil (n : Nat) : decV n [] = n:=by unfold decV; rw [List.foldl_nil]
theorem decV_cons (n : Nat) (c : UInt8) (r : List UInt8) : decV n (c :: r) = decV (10 * n + (c.toNat - 48)) r:=by unfold decV; rw [List.foldl_cons]
def magU (l : List UInt8) : List UInt8:=if l.head? = some 45 then l.tail else l
def numU (l : List UInt8) : Lib.NumEnd Int:=
 if magU l = [] \/ (magU l).head? = some 48 /\ 1 < l.length then Lib.NumEnd.syntax
 else if (magU l).all digU = false then Lib.NumEnd.syntax
 else if l.head? = some 45 then (if decV 0 (magU l) <= 9223372036854775808 then .ok (-(decV 0 (magU l) : Int)) else .range)
 else if decV 0 (magU l) < 9223372036854775808 then .ok (decV 0 (magU l)) else .range
theorem decV_snoc (l : List UInt8) (c : UInt8) (n : Nat) : decV n (l ++ [c]) = 10 * decV n l + (c.toNat - 48):=by simp [decV]
theorem zG1 {l m : List UInt8} (h : l ≠ []) : (l ++ m).head? = l.head?:=by
 cases l with
 | nil => exact absurd rfl h
 | cons c r => rfl
theorem zFh {c : UInt8} : digU c = true ↔ 48 <= c.toNat /\ c.toNat <= 57:=by simp [digU]
theorem zBc {d : Nat} (h : d < 10) : (UInt8.ofNat (48 + d)).toNat = 48 + d:=by
 rw [UInt8.toNat_ofNat']
 exact Nat.mod_eq_of_lt (by omega)
theorem zBf {u : Nat} (h : u < 10) : Lib.decDigits u = [UInt8.ofNat (48 + u)]:=by rw [Lib.decDigits,dif_pos h]
theorem zEI {u : Nat} (h : ¬ u < 10) : Lib.decDigits u = Lib.decDigits (u / 10) ++ [UInt8.ofNat (48 + u % 10)]:=by rw [Lib.decDigits,dif_neg h]
theorem zEJ (u : Nat) : (Lib.decDigits u).all digU = true:=by
 induction u using Nat.strongRecOn with
 | ind u ih =>
   by_cases h : u < 10
   . rw [zBf h,List.all_cons,List.all_nil,Bool.and_true,zFh,zBc h]; omega
   . rw [zEI h,List.all_append,ih (u / 10) (by omega),Bool.true_and,List.all_cons,List.all_nil,Bool.and_true,zFh,zBc (Nat.mod_lt _ (by omega))]
     have:=Nat.mod_lt u (show 10 > 0 by omega)
     omega
theorem dec_val (u : Nat) : decV 0 (Lib.decDigits u) = u:=by
 induction u using Nat.strongRecOn with
 | ind u ih =>
   by_cases h : u < 10
   . rw [zBf h,decV_cons,decV_nil,zBc h]; omega
   . rw [zEI h,decV_snoc,ih (u / 10) (by omega),zBc (Nat.mod_lt _ (by omega))]; omega
theorem zH9 (u : Nat) : Lib.decDigits u ≠ []:=by
 by_cases h : u < 10
 . rw [zBf h]; simp
 . rw [zEI h]; simp
theorem zIA (u : Nat) (h0 : u ≠ 0) : (Lib.decDigits u).head? ≠ some 48:=by
 induction u using Nat.strongRecOn with
 | ind u ih =>
   by_cases h : u < 10
   . rw [zBf h,List.head?_cons]
     intro e
     have e:=congrArg UInt8.toNat (Option.some.inj e)
     rw [zBc h] at e
     have : UInt8.toNat 48 = 48:=rfl
     omega
   . rw [zEI h,zG1 (zH9 _)]
     exact ih (u / 10) (by omega) (by omega)
theorem dec_one (u : Nat) (h : (Lib.decDigits u).head? = some 48) : Lib.decDigits u = [48]:=by
 by_cases h0 : u = 0
 . subst h0; rw [zBf (by omega)]; rfl
 . exact absurd h (zIA u h0)
theorem zEz : ∀ (k u : Nat),u < 10 ^ (k + 1) -> (Lib.decDigits u).length <= k + 1
 | 0,u,h => by rw [zBf (by simpa using h)]; simp
 | k + 1,u,h => by
   by_cases hs : u < 10
   . rw [zBf hs]; simp
   . have:=zEz k (u / 10) (by rw [Nat.pow_succ] at h; omega)
     rw [zEI hs,List.length_append,List.length_singleton]; omega
theorem dec_len {u : Nat} (h : u <= 9223372036854775808) : (Lib.decDigits u).length <= 20:=by
 have:=zEz 19 u (by omega)
 omega
theorem mag_neg (r : List UInt8) : magU (45 :: r) = r:=rfl
theorem mag_pos {l : List UInt8} (h : l.head? ≠ some 45) : magU l = l:=by unfold magU; rw [if_neg h]
theorem zEH {l : List UInt8} (h : l.all digU = true) : l.head? ≠ some 45:=by
 cases l with
 | nil => simp
 | cons c r =>
   rw [List.all_cons,Bool.and_eq_true] at h
   have:=zFh.1 h.1
   intro e
   have e:=congrArg UInt8.toNat (Option.some.inj e)
   have : UInt8.toNat 45 = 45:=rfl
   omega
theorem num_itoa (n : Int) (h0 : -9223372036854775808 <= n) (h1 : n <= 9223372036854775807) : numU (Lib.itoa n) = .ok n:=by
 unfold Lib.itoa
 by_cases hn : n < 0
 . rw [if_pos hn]
   unfold numU
   rw [mag_neg,if_neg,if_neg (by rw [zEJ]; simp),List.head?_cons,if_pos rfl,dec_val,if_pos (by omega)]
   . congr 1; omega
   . rintro (h | h)
     . exact zH9 _ h
     . exact zIA _ (by omega) h.1
 . rw [if_neg hn]
   have hm:=zEH (zEJ n.toNat)
   unfold numU
   rw [mag_pos hm,if_neg,if_neg (by rw [zEJ]; simp),if_neg hm,dec_val,if_pos (by omega)]
   . congr 1; omega
   . rintro (h | h)
     . exact zH9 _ h
     . rw [dec_one _ h.1] at h; simp at h
end Go.Proofs.YtdlnnlglmifceaaGreatDoor
