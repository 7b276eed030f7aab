/- Parts of a proof, merged by a program (shake.py). -/
import Derived.Lib.AtoiAll
import Derived.Lib.ItoaNum
set_option linter.unusedVariables false
set_option linter.unusedSimpArgs false
namespace Go.Proofs.YthjiclhfhjdjpaaGreatDoor
def hexU (n : Nat) : UInt8 := UInt8.ofNat (if n < 10 then 48 + n else 87 + n)
/-- how a byte is written in a literal -/
def escU (c : UInt8) : List UInt8 :=
  if c = 34 then [92, 34] else if c = 92 then [92, 92] else if c = 10 then [92, 110] else if c = 13 then [92, 114] else if c = 9 then [92, 116]
  else if 32 ≤ c.toNat ∧ c.toNat ≤ 126 then [c] else [92, 117, 48, 48, hexU (c.toNat / 16), hexU (c.toNat % 16)]
def escL (l : List UInt8) : List UInt8 := l.flatMap escU
/-- the literal of a string -/
def quoteU (l : List UInt8) : List UInt8 := [34] ++ escL l ++ [34]
theorem escL_snoc (l : List UInt8) (c : UInt8) : escL (l ++ [c]) = escL l ++ escU c := by simp [escL]
theorem escU_length (c : UInt8) : (escU c).length ≤ 6 := by
  unfold escU
  repeat' split
  all_goals simp
theorem escL_length (l : List UInt8) : (escL l).length ≤ 6 * l.length := by
  induction l with
  | nil => simp [escL]
  | cons c l ih =>
    have := escU_length c
    have e : escL (c :: l) = escU c ++ escL l := by simp [escL]
    rw [e, List.length_append, List.length_cons]; omega
theorem all256 {p : UInt8 → Prop} (h : ∀ i : Fin 256, p (UInt8.ofNat i.val)) (c : UInt8) : p c := by
  have h1 := h ⟨c.toNat, c.toNat_lt⟩
  have e : UInt8.ofNat c.toNat = c := by simp
  simp only at h1
  rwa [e] at h1
/-- what a byte after a backslash stands for -/
def simU (d : UInt8) : Option UInt8 :=
  if d = 34 ∨ d = 92 ∨ d = 47 then some d else if d = 98 then some 8 else if d = 102 then some 12 else if d = 110 then some 10 else if d = 114 then some 13 else if d = 116 then some 9 else none
/-- the number of a hexadecimal digit -/
def valU (c : UInt8) : Option Nat :=
  if 48 ≤ c.toNat ∧ c.toNat ≤ 57 then some (c.toNat - 48) else if 97 ≤ c.toNat ∧ c.toNat ≤ 102 then some (c.toNat - 87) else if 65 ≤ c.toNat ∧ c.toNat ≤ 70 then some (c.toNat - 55) else none
/-- the number of hexadecimal digits -/
def codeFrom (n : Nat) : List UInt8 → Option Nat
  | [] => some n
  | c :: r => (valU c).bind fun d => codeFrom (16 * n + d) r
/-- one step between the quotation marks; u: what follows -/
def stpU (u : List UInt8 → Option (List UInt8)) (c : UInt8) (r : List UInt8) : Option (List UInt8) :=
  if c.toNat < 32 ∨ 126 < c.toNat ∨ c = 34 then none
  else if c ≠ 92 then (u r).map (c :: ·)
  else match r with
    | [] => none
    | d :: r => match simU d with
      | some x => (u r).map (x :: ·)
      | none => if d ≠ 117 ∨ r.length < 4 then none else match codeFrom 0 (r.take 4) with
        | some n => if n ≤ 255 then (u (r.drop 4)).map (UInt8.ofNat n :: ·) else none
        | none => none
/-- what stands between the quotation marks -/
def unqF : Nat → List UInt8 → Option (List UInt8)
  | _, [] => some []
  | 0, _ :: _ => none
  | k + 1, c :: r => stpU (unqF k) c r
def unqU (l : List UInt8) : Option (List UInt8) := unqF l.length l
theorem stpU_congr {u v : List UInt8 → Option (List UInt8)} {c : UInt8} {r : List UInt8} (h : ∀ l, l.length ≤ r.length → u l = v l) : stpU u c r = stpU v c r := by
  unfold stpU
  split
  · rfl
  · split
    · rw [h r (Nat.le_refl _)]
    · cases r with
      | nil => rfl
      | cons d r =>
        simp only [List.length_cons] at h
        simp only
        rw [h r (by omega), h (r.drop 4) (by simp; omega)]
theorem unqF_more : ∀ (k m : Nat) (l : List UInt8), l.length ≤ k → l.length ≤ m → unqF k l = unqF m l
  | k, m, [], _, _ => by cases k <;> cases m <;> rfl
  | 0, m, c :: r, h, _ => by simp at h
  | k + 1, 0, c :: r, _, h => by simp at h
  | k + 1, m + 1, c :: r, h, h' => by
    simp only [List.length_cons] at h h'
    show stpU (unqF k) c r = stpU (unqF m) c r
    exact stpU_congr fun l hl => unqF_more k m l (by omega) (by omega)
theorem unqF_at {k : Nat} {l : List UInt8} (h : l.length ≤ k) : unqF k l = unqU l := unqF_more k l.length l h (Nat.le_refl _)
theorem unqU_cons (c : UInt8) (r : List UInt8) : unqU (c :: r) = stpU unqU c r := by
  show stpU (unqF r.length) c r = _
  exact stpU_congr fun l hl => unqF_at hl
theorem unqU_plain {c : UInt8} {r : List UInt8} (h : ¬ (c.toNat < 32 ∨ 126 < c.toNat ∨ c = 34)) (h2 : c ≠ 92) : unqU (c :: r) = (unqU r).map (c :: ·) := by
  rw [unqU_cons]; unfold stpU; rw [if_neg h, if_pos h2]
theorem unqU_sim {d x : UInt8} {r : List UInt8} (h : simU d = some x) : unqU (92 :: d :: r) = (unqU r).map (x :: ·) := by
  rw [unqU_cons]
  unfold stpU
  rw [if_neg (by decide), if_neg (by decide)]
  simp only [h]
theorem unqU_code {r : List UInt8} (h2 : 4 ≤ r.length) : unqU (92 :: 117 :: r) = match codeFrom 0 (r.take 4) with
    | some n => if n ≤ 255 then (unqU (r.drop 4)).map (UInt8.ofNat n :: ·) else none
    | none => none := by
  rw [unqU_cons]
  unfold stpU
  rw [if_neg (by decide), if_neg (by decide)]
  have h : simU 117 = none := by decide
  simp only [h]
  rw [if_neg (by simp; omega)]
/-- an escape is read as its byte -/
theorem unqU_hex (c : UInt8) : codeFrom 0 [48, 48, hexU (c.toNat / 16), hexU (c.toNat % 16)] = some c.toNat := by
  revert c
  exact fun c => all256 (p := fun c => codeFrom 0 [48, 48, hexU (c.toNat / 16), hexU (c.toNat % 16)] = some c.toNat) (by decide +kernel) c
theorem unqU_esc (c : UInt8) (r : List UInt8) : unqU (escU c ++ r) = (unqU r).map (c :: ·) := by
  unfold escU
  split
  · subst_vars; exact unqU_sim (by decide)
  · split
    · subst_vars; exact unqU_sim (by decide)
    · split
      · subst_vars; exact unqU_sim (by decide)
      · split
        · subst_vars; exact unqU_sim (by decide)
        · split
          · subst_vars; exact unqU_sim (by decide)
          · split
            · rename_i h34 h92 _ _ _ h
              exact unqU_plain (by rintro (h1 | h1 | h1); omega; omega; exact h34 h1) h92
            · show unqU (92 :: 117 :: ([48, 48, hexU (c.toNat / 16), hexU (c.toNat % 16)] ++ r)) = _
              rw [unqU_code (by simp)]
              have e1 : ([48, 48, hexU (c.toNat / 16), hexU (c.toNat % 16)] ++ r).take 4 = [48, 48, hexU (c.toNat / 16), hexU (c.toNat % 16)] := rfl
              have e2 : ([48, 48, hexU (c.toNat / 16), hexU (c.toNat % 16)] ++ r).drop 4 = r := rfl
              rw [e1, e2, unqU_hex]
              have h := c.toNat_lt
              have e3 : UInt8.ofNat c.toNat = c := by simp
              simp only
              rw [if_pos (by omega), e3]
theorem unqU_escL (l : List UInt8) : unqU (escL l) = some l := by
  induction l with
  | nil => rfl
  | cons c l ih =>
    have e : escL (c :: l) = escU c ++ escL l := by simp [escL]
    rw [e, unqU_esc, ih]; rfl
/-- the string of a literal -/
def unquoteU (l : List UInt8) : Option (List UInt8) :=
  if 2 ≤ l.length ∧ l.getD 0 0 = 34 ∧ l.getD (l.length - 1) 0 = 34 then unqU ((l.drop 1).take (l.length - 2)) else none
theorem unquote_quote (l : List UInt8) : unquoteU (quoteU l) = some l := by
  have hl : (quoteU l).length = (escL l).length + 2 := by simp [quoteU]
  unfold unquoteU
  rw [if_pos, hl]
  · have : ((quoteU l).drop 1).take ((escL l).length + 2 - 2) = escL l := by
      unfold quoteU
      simp
    rw [this, unqU_escL]
  · refine ⟨by omega, by simp [quoteU], ?_⟩
    rw [hl]
    unfold quoteU
    simp
def digU (c : UInt8) : Bool := decide (48 ≤ c.toNat ∧ c.toNat ≤ 57)
/-- the number that decimal digits spell -/
def decV (n : Nat) (l : List UInt8) : Nat := l.foldl (fun n c => 10 * n + (c.toNat - 48)) n
theorem decV_nil (n : Nat) : decV n [] = n := by unfold decV; rw [List.foldl_nil]
theorem decV_cons (n : Nat) (c : UInt8) (r : List UInt8) : decV n (c :: r) = decV (10 * n + (c.toNat - 48)) r := by unfold decV; rw [List.foldl_cons]
/-- what follows a minus sign, or all -/
def magU (l : List UInt8) : List UInt8 := if l.head? = some 45 then l.tail else l
def numU (l : List UInt8) : Lib.NumEnd Int :=
  if magU l = [] ∨ (magU l).head? = some 48 ∧ 1 < l.length then Lib.NumEnd.syntax
  else if (magU l).all digU = false then Lib.NumEnd.syntax
  else if l.head? = some 45 then (if decV 0 (magU l) ≤ 9223372036854775808 then .ok (-(decV 0 (magU l) : Int)) else .range)
  else if decV 0 (magU l) < 9223372036854775808 then .ok (decV 0 (magU l)) else .range
theorem decV_snoc (l : List UInt8) (c : UInt8) (n : Nat) : decV n (l ++ [c]) = 10 * decV n l + (c.toNat - 48) := by simp [decV]
end Go.Proofs.YthjiclhfhjdjpaaGreatDoor
namespace Go.Proofs.YthjiclhfhjdjpaaGreatDoor
theorem head_append {l m : List UInt8} (h : l ≠ []) : (l ++ m).head? = l.head? := by
  cases l with
  | nil => exact absurd rfl h
  | cons c r => rfl
theorem digU_iff {c : UInt8} : digU c = true ↔ 48 ≤ c.toNat ∧ c.toNat ≤ 57 := by simp [digU]
theorem ofNat_digit {d : Nat} (h : d < 10) : (UInt8.ofNat (48 + d)).toNat = 48 + d := by
  rw [UInt8.toNat_ofNat']
  exact Nat.mod_eq_of_lt (by omega)
theorem dec_small {u : Nat} (h : u < 10) : Lib.decDigits u = [UInt8.ofNat (48 + u)] := by rw [Lib.decDigits, dif_pos h]
theorem dec_big {u : Nat} (h : ¬ u < 10) : Lib.decDigits u = Lib.decDigits (u / 10) ++ [UInt8.ofNat (48 + u % 10)] := by rw [Lib.decDigits, dif_neg h]
theorem dec_all (u : Nat) : (Lib.decDigits u).all digU = true := by
  induction u using Nat.strongRecOn with
  | ind u ih =>
    by_cases h : u < 10
    · rw [dec_small h, List.all_cons, List.all_nil, Bool.and_true, digU_iff, ofNat_digit h]; omega
    · rw [dec_big h, List.all_append, ih (u / 10) (by omega), Bool.true_and, List.all_cons, List.all_nil, Bool.and_true, digU_iff, ofNat_digit (Nat.mod_lt _ (by omega))]
      have := Nat.mod_lt u (show 10 > 0 by omega)
      omega
theorem dec_val (u : Nat) : decV 0 (Lib.decDigits u) = u := by
  induction u using Nat.strongRecOn with
  | ind u ih =>
    by_cases h : u < 10
    · rw [dec_small h, decV_cons, decV_nil, ofNat_digit h]; omega
    · rw [dec_big h, decV_snoc, ih (u / 10) (by omega), ofNat_digit (Nat.mod_lt _ (by omega))]; omega
theorem dec_ne (u : Nat) : Lib.decDigits u ≠ [] := by
  by_cases h : u < 10
  · rw [dec_small h]; simp
  · rw [dec_big h]; simp
theorem dec_head (u : Nat) (h0 : u ≠ 0) : (Lib.decDigits u).head? ≠ some 48 := by
  induction u using Nat.strongRecOn with
  | ind u ih =>
    by_cases h : u < 10
    · rw [dec_small h, List.head?_cons]
      intro e
      have e := congrArg UInt8.toNat (Option.some.inj e)
      rw [ofNat_digit h] at e
      have : UInt8.toNat 48 = 48 := rfl
      omega
    · rw [dec_big h, head_append (dec_ne _)]
      exact ih (u / 10) (by omega) (by omega)
theorem dec_one (u : Nat) (h : (Lib.decDigits u).head? = some 48) : Lib.decDigits u = [48] := by
  by_cases h0 : u = 0
  · subst h0; rw [dec_small (by omega)]; rfl
  · exact absurd h (dec_head u h0)
theorem dec_length : ∀ (k u : Nat), u < 10 ^ (k + 1) → (Lib.decDigits u).length ≤ k + 1
  | 0, u, h => by rw [dec_small (by simpa using h)]; simp
  | k + 1, u, h => by
    by_cases hs : u < 10
    · rw [dec_small hs]; simp
    · have := dec_length k (u / 10) (by rw [Nat.pow_succ] at h; omega)
      rw [dec_big hs, List.length_append, List.length_singleton]; omega
theorem dec_len {u : Nat} (h : u ≤ 9223372036854775808) : (Lib.decDigits u).length ≤ 20 := by
  have := dec_length 19 u (by omega)
  omega
theorem mag_neg (r : List UInt8) : magU (45 :: r) = r := rfl
theorem mag_pos {l : List UInt8} (h : l.head? ≠ some 45) : magU l = l := by unfold magU; rw [if_neg h]
theorem digits_no_minus {l : List UInt8} (h : l.all digU = true) : l.head? ≠ some 45 := by
  cases l with
  | nil => simp
  | cons c r =>
    rw [List.all_cons, Bool.and_eq_true] at h
    have := digU_iff.1 h.1
    intro e
    have e := congrArg UInt8.toNat (Option.some.inj e)
    have : UInt8.toNat 45 = 45 := rfl
    omega
/-- what is written is read as it was -/
theorem num_itoa (n : Int) (h0 : -9223372036854775808 ≤ n) (h1 : n ≤ 9223372036854775807) : numU (Lib.itoa n) = .ok n := by
  unfold Lib.itoa
  by_cases hn : n < 0
  · rw [if_pos hn]
    unfold numU
    rw [mag_neg, if_neg, if_neg (by rw [dec_all]; simp), List.head?_cons, if_pos rfl, dec_val, if_pos (by omega)]
    · congr 1; omega
    · rintro (h | h)
      · exact dec_ne _ h
      · exact dec_head _ (by omega) h.1
  · rw [if_neg hn]
    have hm := digits_no_minus (dec_all n.toNat)
    unfold numU
    rw [mag_pos hm, if_neg, if_neg (by rw [dec_all]; simp), if_neg hm, dec_val, if_pos (by omega)]
    · congr 1; omega
    · rintro (h | h)
      · exact dec_ne _ h
      · rw [dec_one _ h.1] at h; simp at h
end Go.Proofs.YthjiclhfhjdjpaaGreatDoor
namespace Go.Proofs.YthjiclhfhjdjpaaGreatDoor
/-- a byte that parts tokens -/
def sepB (c : UInt8) : Bool := c == 32 || c == 9 || c == 10 || c == 13 || c == 44
/-- how many bytes a separator has; true: within a comment -/
def skipM : Bool → List UInt8 → Nat
  | _, [] => 0
  | false, c :: r => if sepB c then skipM false r + 1 else if c == 35 then skipM true r + 1 else 0
  | true, c :: r => if c == 10 || c == 13 then skipM false r + 1 else skipM true r + 1
def letU (c : UInt8) : Bool := decide (97 ≤ c.toNat ∧ c.toNat ≤ 122) || decide (65 ≤ c.toNat ∧ c.toNat ≤ 90) || c == 95
def wrdU (c : UInt8) : Bool := letU c || digU c
def signB (c : UInt8) : Bool := [33, 36, 38, 40, 41, 58, 61, 64, 91, 93, 123, 124, 125].contains c
def spanN (p : UInt8 → Bool) : List UInt8 → Nat
  | [] => 0
  | c :: r => if p c then spanN p r + 1 else 0
/-- behind the first quotation mark: how many bytes up to the last one, with it -/
def litN : List UInt8 → Option Nat
  | [] => none
  | [c] => if c == 34 then some 1 else none
  | c :: d :: r => if c == 34 then some 1 else if c == 92 then (litN r).map (· + 2) else (litN (d :: r)).map (· + 1)
structure Tok where
  k : Int
  s : List UInt8
  i : Nat
deriving DecidableEq
def nerU : Lib.NumEnd Int → Int
  | .ok _ => 0
  | Lib.NumEnd.syntax => 3
  | .range => 4
/-- the token at a text's head: its kind, its text, its length -/
def readU (l : List UInt8) : Except Int (Int × List UInt8 × Nat) :=
  match l with
  | [] => .error 3
  | c :: r =>
    if signB c then .ok (1, [c], 1)
    else if c == 46 then (if r.take 2 = [46, 46] then .ok (1, [46, 46, 46], 3) else .error 3)
    else if c == 45 || digU c then
      (if nerU (numU (c :: r.take (spanN wrdU r))) = 0 then .ok (3, c :: r.take (spanN wrdU r), spanN wrdU r + 1) else .error (nerU (numU (c :: r.take (spanN wrdU r)))))
    else if letU c then
      (if spanN wrdU r + 1 > 64 then .error 3 else .ok (2, c :: r.take (spanN wrdU r), spanN wrdU r + 1))
    else if c == 34 then
      (match litN r with
      | none => .error 3
      | some n => match unquoteU (c :: r.take n) with
        | none => .error 3
        | some t => .ok (4, t, n + 1))
    else .error 3
/-- likewise, with its place -/
def readT (l : List UInt8) (i : Nat) : Except Int (Tok × Nat) :=
  match readU l with
  | .error e => .error e
  | .ok (k, s, n) => .ok (⟨k, s, i⟩, n)
def scanF : Nat → List UInt8 → Nat → Except (Nat × Int) (List Tok)
  | 0, _, i => .error (i, 0)
  | f + 1, l, i =>
    match l.drop (skipM false l) with
    | [] => .ok [⟨5, [], i + l.length⟩]
    | c :: r => match readT (c :: r) (i + skipM false l) with
      | .error e => .error (i + skipM false l, e)
      | .ok (t, n) => match scanF f ((c :: r).drop n) (i + skipM false l + n) with
        | .error e => .error e
        | .ok ts => .ok (t :: ts)
theorem spanN_le (p : UInt8 → Bool) : ∀ l, spanN p l ≤ l.length
  | [] => Nat.le_refl _
  | c :: r => by
    have := spanN_le p r
    unfold spanN
    split <;> simp <;> omega
theorem litN_le : ∀ (l : List UInt8) (n : Nat), litN l = some n → 1 ≤ n ∧ n ≤ l.length
  | [], n, h => by simp [litN] at h
  | [c], n, h => by
    unfold litN at h
    split at h
    · cases h; simp
    · cases h
  | c :: d :: r, n, h => by
    unfold litN at h
    split at h
    · cases h; simp
    · split at h
      · obtain ⟨m, hm, rfl⟩ := Option.map_eq_some_iff.1 h
        have := litN_le r m hm
        simp; omega
      · obtain ⟨m, hm, rfl⟩ := Option.map_eq_some_iff.1 h
        have := litN_le (d :: r) m hm
        simp at this ⊢; omega
theorem readU_le {l : List UInt8} {k : Int} {t : List UInt8} {n : Nat} (h : readU l = .ok (k, t, n)) : 1 ≤ n ∧ n ≤ l.length ∧ 1 ≤ k ∧ k ≤ 4 := by
  unfold readU at h
  split at h
  · cases h
  · rename_i c r
    have hs := spanN_le wrdU r
    split at h
    · cases h; simp
    split at h
    · split at h
      · rename_i h3
        cases h
        have : (r.take 2).length = 2 := by rw [h3]; rfl
        rw [List.length_take] at this
        simp; omega
      · cases h
    split at h
    · split at h
      · cases h; simp; omega
      · cases h
    split at h
    · split at h
      · cases h
      · cases h; simp; omega
    split at h
    · split at h
      · cases h
      · rename_i n' hn
        have := litN_le r n' hn
        split at h
        · cases h
        · cases h; simp; omega
    · cases h
end Go.Proofs.YthjiclhfhjdjpaaGreatDoor
