import Derived.Lib.AtoiAll
import Derived.Lib.ItoaNum
import Derived.Test.YtdlnnlglmifceaaGreatDoorQ14
set_option linter.unusedVariables false
set_option linter.unusedSimpArgs false
namespace Go.Proofs.YtdlnnlglmifceaaGreatDoor
def hexU (n : Nat) : UInt8:=UInt8.ofNat (if n < 10 then 48 + n else 87 + n)
def escU (c : UInt8) : List UInt8:=
 if c = 34 then [92,34] else if c = 92 then [92,92] else if c = 10 then [92,110] else if c = 13 then [92,114] else if c = 9 then [92,116]
 else if 32 <= c.toNat /\ c.toNat <= 126 then [c] else [92,117,48,48,hexU (c.toNat / 16),hexU (c.toNat % 16)]
def escL (l : List UInt8) : List UInt8:=l.flatMap escU
def quoteU (l : List UInt8) : List UInt8:=[34] ++ escL l ++ [34]
theorem zHE (c : UInt8) : (escU c).length <= 6:=by
 unfold escU
 repeat' split
 all_goals simp
theorem zHF (l : List UInt8) : (escL l).length <= 6 * l.length:=by
 induction l with
 | nil => simp [escL]
 | cons c l ih =>
   have:=zHE c
   have e : escL (c :: l) = escU c ++ escL l:=by simp [escL]
   rw [e,List.length_append,List.length_cons]; omega
theorem zIX {p : UInt8 -> Prop} (h : ∀ i : Fin 256,p (UInt8.ofNat i.val)) (c : UInt8) : p c:=by
 have h1:=h ⟨c.toNat,c.toNat_lt⟩
 have e : UInt8.ofNat c.toNat = c:=by simp
 simp only at h1
 rwa [e] at h1
def simU (d : UInt8) : Option UInt8:=
 if d = 34 \/ d = 92 \/ d = 47 then some d else if d = 98 then some 8 else if d = 102 then some 12 else if d = 110 then some 10 else if d = 114 then some 13 else if d = 116 then some 9 else none
def valU (c : UInt8) : Option Nat:=
 if 48 <= c.toNat /\ c.toNat <= 57 then some (c.toNat - 48) else if 97 <= c.toNat /\ c.toNat <= 102 then some (c.toNat - 87) else if 65 <= c.toNat /\ c.toNat <= 70 then some (c.toNat - 55) else none
def codeFrom (n : Nat) : List UInt8 -> Option Nat
 | [] => some n
 | c :: r => (valU c).bind fun d => codeFrom (16 * n + d) r
def stpU (u : List UInt8 -> Option (List UInt8)) (c : UInt8) (r : List UInt8) : Option (List UInt8):=
 if c.toNat < 32 \/ 126 < c.toNat \/ c = 34 then none
 else if c ≠ 92 then (u r).map (c :: ·)
 else match r with
  | [] => none
  | d :: r => match simU d with
    | some x => (u r).map (x :: ·)
    | none => if d ≠ 117 \/ r.length < 4 then none else match codeFrom 0 (r.take 4) with
      | some n => if n <= 255 then (u (r.drop 4)).map (UInt8.ofNat n :: ·) else none
      | none => none
def unqF : Nat -> List UInt8 -> Option (List UInt8)
 | _,[] => some []
 | 0,_ :: _ => none
 | k + 1,c :: r => stpU (unqF k) c r
def unqU (l : List UInt8) : Option (List UInt8):=unqF l.length l
theorem zEs {u v : List UInt8 -> Option (List UInt8)} {c : UInt8} {r : List UInt8} (h : ∀ l,l.length <= r.length -> u l = v l) : stpU u c r = stpU v c r:=by
 unfold stpU
 split
 . rfl
 . split
   . rw [h r (Nat.le_refl _)]
   . cases r with
     | nil => rfl
     | cons d r =>
       simp only [List.length_cons] at h
       simp only
       rw [h r (by omega),h (r.drop 4) (by simp; omega)]
theorem zFy : ∀ (k m : Nat) (l : List UInt8),l.length <= k -> l.length <= m -> unqF k l = unqF m l
 | k,m,[],_,_ => by cases k <;> cases m <;> rfl
 | 0,m,c :: r,h,_ => by simp at h
 | k + 1,0,c :: r,_,h => by simp at h
 | k + 1,m + 1,c :: r,h,h' => by
   simp only [List.length_cons] at h h'
   show stpU (unqF k) c r = stpU (unqF m) c r
   exact zEs fun l hl => zFy k m l (by omega) (by omega)
theorem unqF_at {k : Nat} {l : List UInt8} (h : l.length <= k) : unqF k l = unqU l:=zFy k l.length l h (Nat.le_refl _)
theorem unqU_nil : unqU [] = some []:=rfl
theorem zCA (c : UInt8) (r : List UInt8) : unqU (c :: r) = stpU unqU c r:=by
 show stpU (unqF r.length) c r = _
 exact zEs fun l hl => unqF_at hl
theorem unqU_bad {c : UInt8} {r : List UInt8} (h : c.toNat < 32 \/ 126 < c.toNat \/ c = 34) : unqU (c :: r) = none:=by
 rw [zCA]; unfold stpU; rw [if_pos h]
theorem unqU_plain {c : UInt8} {r : List UInt8} (h : ¬ (c.toNat < 32 \/ 126 < c.toNat \/ c = 34)) (h2 : c ≠ 92) : unqU (c :: r) = (unqU r).map (c :: ·):=by
 rw [zCA]; unfold stpU; rw [if_neg h,if_pos h2]
theorem unqU_last : unqU [92] = none:=by decide
theorem unqU_sim {d x : UInt8} {r : List UInt8} (h : simU d = some x) : unqU (92 :: d :: r) = (unqU r).map (x :: ·):=by
 rw [zCA]
 unfold stpU
 rw [if_neg (by decide),if_neg (by decide)]
 simp only [h]
theorem unqU_no {d : UInt8} {r : List UInt8} (h : simU d = none) (h2 : d ≠ 117 \/ r.length < 4) : unqU (92 :: d :: r) = none:=by
 rw [zCA]
 unfold stpU
 rw [if_neg (by decide),if_neg (by decide)]
 simp only [h]
 rw [if_pos h2]
theorem unqU_code {r : List UInt8} (h2 : 4 <= r.length) : unqU (92 :: 117 :: r) = match codeFrom 0 (r.take 4) with
 | some n => if n <= 255 then (unqU (r.drop 4)).map (UInt8.ofNat n :: ·) else none
 | none => none:=by
 rw [zCA]
 unfold stpU
 rw [if_neg (by decide),if_neg (by decide)]
 have h : simU 117 = none:=by decide
 simp only [h]
 rw [if_neg (by simp; omega)]
def unquoteU (l : List UInt8) : Option (List UInt8):=
 if 2 <= l.length /\ l.getD 0 0 = 34 /\ l.getD (l.length - 1) 0 = 34 then unqU ((l.drop 1).take (l.length - 2)) else none
def digU (c : UInt8) : Bool:=decide (48 <= c.toNat /\ c.toNat <= 57)
def decV (n : Nat) (l : List UInt8) : Nat:=l.foldl (fun n c => 10 * n + (c.toNat - 48)) n
theorem decV_nil (n : Nat) : decV n [] = n:=by unfold decV; rw [List.foldl_nil]
theorem zC7 (n : Nat) (c : UInt8) (r : List UInt8) : decV n (c :: r) = decV (10 * n + (c.toNat - 48)) r:=by unfold decV; rw [List.foldl_cons]
def magU (l : List UInt8) : List UInt8:=if l.head? = some 45 then l.tail else l
def numU (l : List UInt8) : Lib.NumEnd Int:=
 if magU l = [] \/ (magU l).head? = some 48 /\ 1 < l.length then Lib.NumEnd.syntax
 else if (magU l).all digU = false then Lib.NumEnd.syntax
 else if l.head? = some 45 then (if decV 0 (magU l) <= 9223372036854775808 then .ok (-(decV 0 (magU l) : Int)) else .range)
 else if decV 0 (magU l) < 9223372036854775808 then .ok (decV 0 (magU l)) else .range
theorem zGd (l : List UInt8) (c : UInt8) (n : Nat) : decV n (l ++ [c]) = 10 * decV n l + (c.toNat - 48):=by simp [decV]
theorem zHL : ∀ (l : List UInt8) (n : Nat),n <= decV n l
 | [],n => Nat.le_refl n
 | x :: l,n => by
   rw [zC7]
   have:=zHL l (10 * n + (x.toNat - 48))
   omega
theorem zGH (l : List UInt8) (h : l.all digU = true) : ∀ acc,acc < 18446744073709551616 -> Lib.parseUint10 acc l = if decV acc l < 18446744073709551616 then .ok (decV acc l) else .range:=by
 induction l with
 | nil => intro acc ha; rw [Lib.parseUint10,decV_nil,if_pos ha]
 | cons c r ih =>
   intro acc ha
   rw [List.all_cons,Bool.and_eq_true] at h
   have hc : 48 <= c.toNat /\ c.toNat <= 57:=by simpa [digU] using h.1
   have hge:=zHL r (10 * acc + (c.toNat - 48))
   rw [Lib.parseUint10,if_pos hc,zC7]
   by_cases h1 : 1844674407370955162 <= acc
   . rw [if_pos h1,if_neg (by omega)]
   . rw [if_neg h1]
     by_cases h2 : 18446744073709551616 <= acc * 10 + (c.toNat - 48)
     . rw [if_pos h2,if_neg (by omega)]
     . rw [if_neg h2,ih h.2 _ (by omega),show acc * 10 + (c.toNat - 48) = 10 * acc + (c.toNat - 48) from by omega]
theorem zIQ (l : List UInt8) (h0 : magU l ≠ []) (h : (magU l).all digU = true) :
 Lib.atoiAll l = if l.head? = some 45 then (if decV 0 (magU l) <= 9223372036854775808 then .ok (-(decV 0 (magU l) : Int)) else .range)
  else if decV 0 (magU l) < 9223372036854775808 then .ok (decV 0 (magU l)) else .range:=by
 cases l with
 | nil => exact absurd rfl h0
 | cons c r =>
   by_cases hc : c = 45
   . subst hc
     have hm : magU (45 :: r) = r:=rfl
     rw [hm] at h0 h |-
     have hp:=zGH r h 0 (by omega)
     have e45 : UInt8.toNat 45 = 45:=rfl
     simp only [Lib.atoiAll,Lib.parseMag,e45,List.head?_cons]
     simp only [or_true,if_true]
     rw [if_neg h0,hp]
     by_cases h1 : decV 0 r < 18446744073709551616
     . rw [if_pos h1]
       simp only
       by_cases h2 : decV 0 r <= 9223372036854775808
       . simp [h2,show ¬ 9223372036854775808 < decV 0 r by omega]
       . simp [h2,show 9223372036854775808 < decV 0 r by omega]
     . rw [if_neg h1,if_neg (by omega)]
   . have hm : magU (c :: r) = c :: r:=by
      unfold magU
      rw [List.head?_cons,if_neg (fun e => hc (Option.some.inj e))]
     rw [hm] at h0 h |-
     have hp:=zGH (c :: r) h 0 (by omega)
     have hd : 48 <= c.toNat /\ c.toNat <= 57:=by
      rw [List.all_cons,Bool.and_eq_true] at h
      simpa [digU] using h.1
     simp only [Lib.atoiAll,Lib.parseMag]
     rw [if_neg (show ¬ (c.toNat = 43 \/ c.toNat = 45) by omega),if_neg h0,hp,List.head?_cons,if_neg (fun e => hc (Option.some.inj e))]
     by_cases h1 : decV 0 (c :: r) < 18446744073709551616
     . rw [if_pos h1]
       simp only
       by_cases h2 : decV 0 (c :: r) < 9223372036854775808
       . rw [if_neg (by omega),if_neg (by omega),if_neg (by omega),if_pos h2]
       . rw [if_pos ⟨by omega,by omega⟩,if_neg h2]
     . rw [if_neg h1,if_neg (by omega)]
theorem zEG {l m : List UInt8} (h : l ≠ []) : (l ++ m).head? = l.head?:=by
 cases l with
 | nil => exact absurd rfl h
 | cons c r => rfl
theorem zBw {c : UInt8} : digU c = true ↔ 48 <= c.toNat /\ c.toNat <= 57:=by simp [digU]
theorem zBX {d : Nat} (h : d < 10) : (UInt8.ofNat (48 + d)).toNat = 48 + d:=by
 rw [UInt8.toNat_ofNat']
 exact Nat.mod_eq_of_lt (by omega)
theorem zIH {c : UInt8} (h : digU c = true) : UInt8.ofNat (48 + (c.toNat - 48)) = c:=by
 have:=zBw.1 h
 rw [show 48 + (c.toNat - 48) = c.toNat from by omega]
 simp
theorem zBH {u : Nat} (h : u < 10) : Lib.decDigits u = [UInt8.ofNat (48 + u)]:=by rw [Lib.decDigits,dif_pos h]
theorem zDT {u : Nat} (h : ¬ u < 10) : Lib.decDigits u = Lib.decDigits (u / 10) ++ [UInt8.ofNat (48 + u % 10)]:=by rw [Lib.decDigits,dif_neg h]
theorem zEO (u : Nat) : (Lib.decDigits u).all digU = true:=by
 induction u using Nat.strongRecOn with
 | ind u ih =>
   by_cases h : u < 10
   . rw [zBH h,List.all_cons,List.all_nil,Bool.and_true,zBw,zBX h]; omega
   . rw [zDT h,List.all_append,ih (u / 10) (by omega),Bool.true_and,List.all_cons,List.all_nil,Bool.and_true,zBw,zBX (Nat.mod_lt _ (by omega))]
     have:=Nat.mod_lt u (show 10 > 0 by omega)
     omega
theorem dec_val (u : Nat) : decV 0 (Lib.decDigits u) = u:=by
 induction u using Nat.strongRecOn with
 | ind u ih =>
   by_cases h : u < 10
   . rw [zBH h,zC7,decV_nil,zBX h]; omega
   . rw [zDT h,zGd,ih (u / 10) (by omega),zBX (Nat.mod_lt _ (by omega))]; omega
theorem zII (u : Nat) : Lib.decDigits u ≠ []:=by
 by_cases h : u < 10
 . rw [zBH h]; simp
 . rw [zDT h]; simp
theorem zIJ (u : Nat) (h0 : u ≠ 0) : (Lib.decDigits u).head? ≠ some 48:=by
 induction u using Nat.strongRecOn with
 | ind u ih =>
   by_cases h : u < 10
   . rw [zBH h,List.head?_cons]
     intro e
     have e:=congrArg UInt8.toNat (Option.some.inj e)
     rw [zBX h] at e
     have : UInt8.toNat 48 = 48:=rfl
     omega
   . rw [zDT h,zEG (zII _)]
     exact ih (u / 10) (by omega) (by omega)
theorem dec_one (u : Nat) (h : (Lib.decDigits u).head? = some 48) : Lib.decDigits u = [48]:=by
 by_cases h0 : u = 0
 . subst h0; rw [zBH (by omega)]; rfl
 . exact absurd h (zIJ u h0)
theorem zFA : ∀ (k u : Nat),u < 10 ^ (k + 1) -> (Lib.decDigits u).length <= k + 1
 | 0,u,h => by rw [zBH (by simpa using h)]; simp
 | k + 1,u,h => by
   by_cases hs : u < 10
   . rw [zBH hs]; simp
   . have:=zFA k (u / 10) (by rw [Nat.pow_succ] at h; omega)
     rw [zDT hs,List.length_append,List.length_singleton]; omega
theorem dec_len {u : Nat} (h : u <= 9223372036854775808) : (Lib.decDigits u).length <= 20:=by
 have:=zFA 19 u (by omega)
 omega
theorem zIK {l : List UInt8} (hl : l ≠ []) (ha : l.all digU = true) (hh : l.head? ≠ some 48) : 1 <= decV 0 l:=by
 cases l with
 | nil => exact absurd rfl hl
 | cons c r =>
   rw [List.all_cons,Bool.and_eq_true] at ha
   have hc:=zBw.1 ha.1
   have hne : c.toNat ≠ 48:=fun e => hh (by rw [List.head?_cons]; congr 1; exact UInt8.toNat_inj.1 e)
   rw [zC7]
   have:=zHL r (10 * 0 + (c.toNat - 48))
   omega
theorem dec_of : ∀ (n : Nat) (l : List UInt8),l.length = n -> l ≠ [] -> l.all digU = true -> (l.head? = some 48 -> l.length = 1) -> Lib.decDigits (decV 0 l) = l
 | 0,l,hn,hl,_,_ => absurd (List.eq_nil_of_length_eq_zero hn) hl
 | n + 1,l,hn,hl,ha,hh => by
   obtain ⟨i,c,rfl⟩ : ∃ i c,l = i ++ [c]:=⟨l.dropLast,l.getLast hl,(List.dropLast_concat_getLast hl).symm⟩
   rw [List.all_append,Bool.and_eq_true,List.all_cons,List.all_nil,Bool.and_true] at ha
   have hc:=zBw.1 ha.2
   rw [zGd]
   by_cases hi : i = []
   . subst hi
     rw [decV_nil,zBH (by omega),show 10 * 0 + (c.toNat - 48) = c.toNat - 48 from by omega,zIH ha.2]; rfl
   . have hi1 : i.head? ≠ some 48:=fun e => by
      have:=hh (by rw [zEG hi]; exact e)
      have h1 : 0 < i.length:=List.length_pos_iff.2 hi
      rw [List.length_append,List.length_singleton] at this; omega
     have hp:=zIK hi ha.1 hi1
     have hr:=dec_of n i (by simp at hn; omega) hi ha.1 (fun e => absurd e hi1)
     rw [zDT (by omega),show (10 * decV 0 i + (c.toNat - 48)) / 10 = decV 0 i from by omega,hr,show (10 * decV 0 i + (c.toNat - 48)) % 10 = c.toNat - 48 from by omega,zIH ha.2]
theorem mag_neg (r : List UInt8) : magU (45 :: r) = r:=rfl
theorem mag_pos {l : List UInt8} (h : l.head? ≠ some 45) : magU l = l:=by unfold magU; rw [if_neg h]
theorem zEN {l : List UInt8} (h : l.all digU = true) : l.head? ≠ some 45:=by
 cases l with
 | nil => simp
 | cons c r =>
   rw [List.all_cons,Bool.and_eq_true] at h
   have:=zBw.1 h.1
   intro e
   have e:=congrArg UInt8.toNat (Option.some.inj e)
   have : UInt8.toNat 45 = 45:=rfl
   omega
theorem num_itoa (n : Int) (h0 : -9223372036854775808 <= n) (h1 : n <= 9223372036854775807) : numU (Lib.itoa n) = .ok n:=by
 unfold Lib.itoa
 by_cases hn : n < 0
 . rw [if_pos hn]
   unfold numU
   rw [mag_neg,if_neg,if_neg (by rw [zEO]; simp),List.head?_cons,if_pos rfl,dec_val,if_pos (by omega)]
   . congr 1; omega
   . rintro (h | h)
     . exact zII _ h
     . exact zIJ _ (by omega) h.1
 . rw [if_neg hn]
   have hm:=zEN (zEO n.toNat)
   unfold numU
   rw [mag_pos hm,if_neg,if_neg (by rw [zEO]; simp),if_neg hm,dec_val,if_pos (by omega)]
   . congr 1; omega
   . rintro (h | h)
     . exact zII _ h
     . rw [dec_one _ h.1] at h; simp at h
theorem itoa_num {l : List UInt8} {a : Int} (h : numU l = .ok a) : Lib.itoa a = l /\ -9223372036854775808 <= a /\ a <= 9223372036854775807:=by
 unfold numU at h
 split at h
 . cases h
 . rename_i h0
   split at h
   . cases h
   . rename_i ha
     have ha : (magU l).all digU = true:=by cases hq : (magU l).all digU <;> simp_all
     have hne : magU l ≠ []:=fun e => h0 (.inl e)
     by_cases hm : l.head? = some 45
     . rw [if_pos hm] at h
       split at h
       . rename_i hv
         injection h with h
         subst h
         obtain ⟨r,rfl⟩ : ∃ r,l = 45 :: r:=by
          cases l with
          | nil => simp at hm
          | cons c r => exact ⟨r,by rw [Option.some.inj hm]⟩
         rw [mag_neg] at hne ha h0 hv |-
         have hlen : 1 < (45 :: r).length:=by
          have : 0 < r.length:=List.length_pos_iff.2 hne
          simp; omega
         have hh : r.head? ≠ some 48:=fun e => h0 (.inr ⟨e,hlen⟩)
         have hp:=zIK hne ha hh
         refine ⟨?_,by omega,by omega⟩
         unfold Lib.itoa
         rw [if_pos (by omega),show (-(decV 0 r : Int)).natAbs = decV 0 r from by omega,dec_of _ r rfl hne ha (fun e => absurd e hh)]
       . cases h
     . rw [if_neg hm] at h
       rw [mag_pos hm] at hne ha h0 h
       split at h
       . rename_i hv
         injection h with h
         subst h
         refine ⟨?_,by omega,by omega⟩
         unfold Lib.itoa
         rw [if_neg (by omega),Int.toNat_natCast,dec_of _ l rfl hne ha (fun e => by
          have h1 : ¬ 1 < l.length:=fun h1 => h0 (.inr ⟨e,h1⟩)
          have : 0 < l.length:=List.length_pos_iff.2 hne
          omega)]
       . cases h
end Go.Proofs.YtdlnnlglmifceaaGreatDoor
