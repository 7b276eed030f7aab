/- Parts of a proof, merged by a program (shake.py). -/
import Derived.Lib.Strings
import Derived.Test.YthjiclhfhjdjpaaGreatDoorQ4
set_option linter.unusedVariables false
set_option linter.unusedSimpArgs false
namespace Go.Proofs.YthjiclhfhjdjpaaGreatDoor
/-- the byte at an index of a string, as a number; 0 behind its end -/
def bV (s : ByteArray) (i : Nat) : Int := ((s.data.toList.getD i 0).toNat : Int)
theorem bV_range (s : ByteArray) (i : Nat) : 0 ≤ bV s i ∧ bV s i ≤ 255 := by
  unfold bV
  have := (s.data.toList.getD i 0).toNat_lt
  omega
theorem bV_at {s : ByteArray} {i : Nat} (h : i < s.size) : ((s[i]'h).toNat : Int) = bV s i := by
  unfold bV
  have h' : i < s.data.toList.length := by simpa using h
  rw [List.getD_eq_getElem?_getD, List.getElem?_eq_getElem h']
  rfl
def letB (v : Int) : Bool := decide (65 ≤ v ∧ v ≤ 90 ∨ 97 ≤ v ∧ v ≤ 122 ∨ v = 95)
def digB (v : Int) : Bool := decide (48 ≤ v ∧ v ≤ 57)
/-- whether a string is a name -/
def nameB (s : ByteArray) : Bool := decide (0 < s.size ∧ s.size ≤ 64 ∧ digB (bV s 0) = false ∧ ∀ i, i < s.size → (letB (bV s i) || digB (bV s i)) = true)
theorem nameB_no {s : ByteArray} (h : ¬ (0 < s.size ∧ s.size ≤ 64)) : nameB s = false := decide_eq_false fun h' => h ⟨h'.1, h'.2.1⟩
theorem nameB_dig {s : ByteArray} (h : digB (bV s 0) = true) : nameB s = false := decide_eq_false fun h' => by rw [h'.2.2.1] at h; cases h
theorem nameB_at {s : ByteArray} {i : Nat} (hi : i < s.size) (h : (letB (bV s i) || digB (bV s i)) = false) : nameB s = false := decide_eq_false fun h' => by rw [h'.2.2.2 i hi] at h; cases h
theorem nameB_yes {s : ByteArray} (h0 : 0 < s.size) (h1 : s.size ≤ 64) (h2 : digB (bV s 0) = false) (h3 : ∀ i, i < s.size → (letB (bV s i) || digB (bV s i)) = true) : nameB s = true := decide_eq_true ⟨h0, h1, h2, h3⟩
theorem letB_true {v : Int} (h : 65 ≤ v ∧ v ≤ 90 ∨ 97 ≤ v ∧ v ≤ 122 ∨ v = 95) : letB v = true := decide_eq_true h
theorem letB_false {v : Int} (h : ¬ (65 ≤ v ∧ v ≤ 90 ∨ 97 ≤ v ∧ v ≤ 122 ∨ v = 95)) : letB v = false := decide_eq_false h
theorem digB_true {v : Int} (h : 48 ≤ v ∧ v ≤ 57) : digB v = true := decide_eq_true h
theorem digB_false {v : Int} (h : ¬ (48 ≤ v ∧ v ≤ 57)) : digB v = false := decide_eq_false h
/-- where a byte lies -/
theorem nm_cases (v : Int) : v < 48 ∨ (48 ≤ v ∧ v ≤ 57) ∨ (58 ≤ v ∧ v ≤ 64) ∨ (65 ≤ v ∧ v ≤ 90) ∨ (91 ≤ v ∧ v ≤ 94) ∨ v = 95 ∨ v = 96 ∨ (97 ≤ v ∧ v ≤ 122) ∨ 123 ≤ v := by omega
end Go.Proofs.YthjiclhfhjdjpaaGreatDoor
namespace Go.Proofs.YthjiclhfhjdjpaaGreatDoor
/-- a text's tokens, without their places -/
inductive Lex : List UInt8 → List (Int × List UInt8) → Prop where
  | done {l : List UInt8} (h : l.drop (skipM false l) = []) : Lex l []
  | tok {l : List UInt8} {c : UInt8} {r : List UInt8} {k : Int} {s : List UInt8} {n : Nat} {ks : List (Int × List UInt8)} (h : l.drop (skipM false l) = c :: r) (ht : readU (c :: r) = .ok (k, s, n)) (hr : Lex ((c :: r).drop n) ks) : Lex l ((k, s) :: ks)
def bare (t : Tok) : Int × List UInt8 := (t.k, t.s)
def endK5 : Int × List UInt8 := (5, [])
theorem readT_any {l : List UInt8} {k : Int} {s : List UInt8} {n : Nat} (h : readU l = .ok (k, s, n)) (j : Nat) : readT l j = .ok (⟨k, s, j⟩, n) := by
  unfold readT
  rw [h]
theorem Lex.scan {l : List UInt8} {ks : List (Int × List UInt8)} (h : Lex l ks) : ∀ (f i : Nat), l.length < f → ∃ ts, scanF f l i = .ok ts ∧ ts.map bare = ks ++ [endK5] := by
  induction h with
  | done h =>
    intro f i hf
    cases f with
    | zero => omega
    | succ f =>
      exact ⟨[⟨5, [], i + _⟩], by unfold scanF; rw [h], rfl⟩
  | tok h ht hr ih =>
    rename_i l c r k s n ks
    intro f i hf
    cases f with
    | zero => omega
    | succ f =>
      have hn := readU_le ht
      have hlen : (c :: r).length ≤ l.length := by rw [← h, List.length_drop]; omega
      obtain ⟨ts, h1, h2⟩ := ih f (i + skipM false l + n) (by rw [List.length_drop]; omega)
      refine ⟨⟨k, s, i + skipM false l⟩ :: ts, ?_, ?_⟩
      · unfold scanF
        rw [h]
        dsimp only
        rw [readT_any ht]
        dsimp only
        rw [h1]
      · rw [List.map_cons, h2]; rfl
/-- no word goes on here -/
def bnd (l : List UInt8) : Prop := ∀ c, l.head? = some c → wrdU c = false
theorem bnd_nil : bnd [] := fun _ h => by cases h
theorem bnd_cons {c : UInt8} {r : List UInt8} (h : wrdU c = false) : bnd (c :: r) := fun _ e => by cases e; exact h
/-- a piece of text that is these tokens, whatever comes behind it -/
def Ps (t : List UInt8) (ks : List (Int × List UInt8)) : Prop := ∀ r kr, Lex r kr → Lex (t ++ r) (ks ++ kr)
/-- likewise, if no word goes on behind it -/
def Pw (t : List UInt8) (ks : List (Int × List UInt8)) : Prop := ∀ r kr, bnd r → Lex r kr → Lex (t ++ r) (ks ++ kr)
theorem Ps.w {t : List UInt8} {ks : List (Int × List UInt8)} (h : Ps t ks) : Pw t ks := fun r kr _ hr => h r kr hr
theorem Ps.nil : Ps [] [] := fun _ _ h => h
theorem Ps.app {a b : List UInt8} {ka kb : List (Int × List UInt8)} (h : Ps a ka) (k : Ps b kb) : Ps (a ++ b) (ka ++ kb) := fun r kr hr => by
  rw [List.append_assoc, List.append_assoc]; exact h _ _ (k r kr hr)
theorem Ps.appw {a b : List UInt8} {ka kb : List (Int × List UInt8)} (h : Ps a ka) (k : Pw b kb) : Pw (a ++ b) (ka ++ kb) := fun r kr hb hr => by
  rw [List.append_assoc, List.append_assoc]; exact h _ _ (k r kr hb hr)
theorem Pw.app {a b : List UInt8} {ka kb : List (Int × List UInt8)} (h : Pw a ka) (k : Ps b kb) (hb : b ≠ [] ∧ bnd b) : Ps (a ++ b) (ka ++ kb) := fun r kr hr => by
  rw [List.append_assoc, List.append_assoc]
  refine h _ _ (fun c hc => hb.2 c ?_) (k r kr hr)
  cases b with
  | nil => exact (hb.1 rfl).elim
  | cons x y => exact hc
theorem Pw.appw {a b : List UInt8} {ka kb : List (Int × List UInt8)} (h : Pw a ka) (k : Pw b kb) (hb : bnd b) : Pw (a ++ b) (ka ++ kb) := fun r kr hr hl => by
  rw [List.append_assoc, List.append_assoc]
  refine h _ _ (fun c hc => ?_) (k r kr hr hl)
  cases b with
  | nil => exact hr c hc
  | cons x y => exact hb c hc
theorem Pw.lex {t : List UInt8} {ks : List (Int × List UInt8)} (h : Pw t ks) : Lex t ks := by
  have := h [] [] bnd_nil (.done rfl)
  rwa [List.append_nil, List.append_nil] at this
theorem Lex.sep {c : UInt8} {r : List UInt8} {kr : List (Int × List UInt8)} (hc : sepB c = true) (h : Lex r kr) : Lex (c :: r) kr := by
  have e : (c :: r).drop (skipM false (c :: r)) = r.drop (skipM false r) := by
    rw [skipM, if_pos hc, List.drop_succ_cons]
  cases h with
  | done h => exact .done (by rw [e]; exact h)
  | tok h ht hr => exact .tok (by rw [e]; exact h) ht hr
theorem Ps.sep {c : UInt8} (hc : sepB c = true) : Ps [c] [] := fun _ _ h => h.sep hc
theorem sign_plain (c : UInt8) : signB c = true → sepB c = false ∧ (c == 35) = false ∧ wrdU c = false :=
  all256 (p := fun c => signB c = true → sepB c = false ∧ (c == 35) = false ∧ wrdU c = false) (by decide +kernel) c
theorem skip_here {c : UInt8} {r : List UInt8} (h : sepB c = false) (h2 : (c == 35) = false) : skipM false (c :: r) = 0 := by
  rw [skipM, if_neg (by rw [h]; decide), if_neg (by rw [h2]; decide)]
theorem Ps.sign {c : UInt8} (hc : signB c = true) : Ps [c] [(1, [c])] := fun r kr h => by
  obtain ⟨h1, h2, -⟩ := sign_plain c hc
  refine .tok (l := c :: r) (c := c) (r := r) (n := 1) (by rw [skip_here h1 h2]; rfl) ?_ h
  unfold readU
  simp only [hc, if_true]
theorem Ps.dots : Ps [46, 46, 46] [(1, [46, 46, 46])] := fun r kr h => by
  refine .tok (l := 46 :: 46 :: 46 :: r) (c := 46) (r := 46 :: 46 :: r) (n := 3) rfl ?_ h
  unfold readU
  simp only [show signB 46 = false from rfl, Bool.false_eq_true, if_false, show ((46 : UInt8) == 46) = true from rfl, if_true, List.take_succ_cons, List.take_zero]
/-- whether bytes are a name -/
def nameU (l : List UInt8) : Bool := match l with | [] => false | c :: r => letU c && r.all wrdU && decide (r.length < 64)
theorem let_plain (c : UInt8) : letU c = true → sepB c = false ∧ (c == 35) = false ∧ signB c = false ∧ (c == 46) = false ∧ (c == 45 || digU c) = false ∧ wrdU c = true :=
  all256 (p := fun c => letU c = true → sepB c = false ∧ (c == 35) = false ∧ signB c = false ∧ (c == 46) = false ∧ (c == 45 || digU c) = false ∧ wrdU c = true) (by decide +kernel) c
theorem span_all {p : UInt8 → Bool} : ∀ (l r : List UInt8), l.all p = true → (∀ c, r.head? = some c → p c = false) → spanN p (l ++ r) = l.length
  | [], [], _, _ => rfl
  | [], c :: r, _, h => by
    show spanN p (c :: r) = 0
    rw [spanN, if_neg (by rw [h c rfl]; decide)]
  | c :: l, r, ha, h => by
    rw [List.all_cons, Bool.and_eq_true] at ha
    rw [List.cons_append, spanN, if_pos ha.1, span_all l r ha.2 h, List.length_cons]
theorem Pw.name {l : List UInt8} (h : nameU l = true) : Pw l [(2, l)] := fun r kr hb hr => by
  cases l with
  | nil => cases h
  | cons c q =>
    simp only [nameU, Bool.and_eq_true, decide_eq_true_eq] at h
    obtain ⟨⟨h1, h2⟩, h3⟩ := h
    obtain ⟨p1, p2, p3, p4, p5, p6⟩ := let_plain c h1
    have hs := span_all q r h2 hb
    refine .tok (l := c :: (q ++ r)) (c := c) (r := q ++ r) (n := q.length + 1) (by rw [skip_here p1 p2]; rfl) ?_ (by rw [List.drop_succ_cons, List.drop_left]; exact hr)
    unfold readU
    simp only [p3, p4, p5, h1, hs, Bool.false_eq_true, if_false, if_true, List.take_left]
    rw [if_neg (by omega)]
theorem digs_all : ∀ {l : List UInt8}, l.all digU = true → l.all wrdU = true := fun {l} h => by
  rw [List.all_eq_true] at h ⊢
  intro x hx
  unfold wrdU
  rw [h x hx, Bool.or_true]
theorem num_plain (c : UInt8) : (c == 45 || digU c) = true → sepB c = false ∧ (c == 35) = false ∧ signB c = false ∧ (c == 46) = false :=
  all256 (p := fun c => (c == 45 || digU c) = true → sepB c = false ∧ (c == 35) = false ∧ signB c = false ∧ (c == 46) = false) (by decide +kernel) c
theorem Pw.num {l : List UInt8} {n : Int} (h : numU l = .ok n) (h1 : ∃ c q, l = c :: q ∧ (c == 45 || digU c) = true ∧ q.all wrdU = true) : Pw l [(3, l)] := fun r kr hb hr => by
  obtain ⟨c, q, rfl, h2, h3⟩ := h1
  obtain ⟨p1, p2, p3, p4⟩ := num_plain c h2
  have hs := span_all q r h3 hb
  refine .tok (l := c :: (q ++ r)) (c := c) (r := q ++ r) (n := q.length + 1) (by rw [skip_here p1 p2]; rfl) ?_ (by rw [List.drop_succ_cons, List.drop_left]; exact hr)
  unfold readU
  simp only [p3, p4, h2, hs, Bool.false_eq_true, if_false, if_true, List.take_left, h, nerU]
theorem itoa_shape (n : Int) : ∃ c q, Lib.itoa n = c :: q ∧ (c == 45 || digU c) = true ∧ q.all wrdU = true := by
  unfold Lib.itoa
  split
  · exact ⟨45, _, rfl, rfl, digs_all (dec_all _)⟩
  · have h := dec_all n.toNat
    cases hd : Lib.decDigits n.toNat with
    | nil => exact (dec_ne _ hd).elim
    | cons c q =>
      rw [hd, List.all_cons, Bool.and_eq_true] at h
      exact ⟨c, q, rfl, by rw [h.1, Bool.or_true], digs_all h.2⟩
theorem Pw.int (n : Int) (h0 : -9223372036854775808 ≤ n) (h1 : n ≤ 9223372036854775807) : Pw (Lib.itoa n) [(3, Lib.itoa n)] := Pw.num (num_itoa n h0 h1) (itoa_shape n)
theorem lit_esc (c : UInt8) (r : List UInt8) : litN (escU c ++ r) = (litN r).map (· + (escU c).length) :=
  all256 (p := fun c => ∀ r, litN (escU c ++ r) = (litN r).map (· + (escU c).length)) (fun i => by
    revert i
    have key : ∀ (c : UInt8) (r : List UInt8), (c == 34) = false → (c == 92) = false → litN (c :: r) = (litN r).map (· + 1) := fun c r h h2 => by
      cases r with
      | nil => unfold litN; simp only [h, Bool.false_eq_true, if_false]; rfl
      | cons d r => rw [litN]; simp only [h, h2, Bool.false_eq_true, if_false]
    have key2 : ∀ (c : UInt8) (r : List UInt8), litN (92 :: c :: r) = (litN r).map (· + 2) := fun c r => by
      rw [litN]
      simp only [show ((92 : UInt8) == 34) = false from rfl, Bool.false_eq_true, if_false, show ((92 : UInt8) == 92) = true from rfl, if_true]
    have both : ∀ (e : List UInt8), (e.all (fun c => !(c == 34) && !(c == 92)) = true ∨ ∃ d q, e = 92 :: d :: q ∧ q.all (fun c => !(c == 34) && !(c == 92)) = true) → ∀ r, litN (e ++ r) = (litN r).map (· + e.length) := by
      have plain : ∀ (e : List UInt8), e.all (fun c => !(c == 34) && !(c == 92)) = true → ∀ r, litN (e ++ r) = (litN r).map (· + e.length) := fun e => by
        induction e with
        | nil => intro _ r; simp
        | cons c q ih =>
          intro h r
          simp only [List.all_cons, Bool.and_eq_true, Bool.not_eq_true'] at h
          rw [List.cons_append, key c _ h.1.1 h.1.2, ih (by simpa using h.2) r, Option.map_map]
          congr 1
      rintro e (h | ⟨d, q, rfl, h⟩) r
      · exact plain e h r
      · rw [List.cons_append, List.cons_append, key2, plain q h r, Option.map_map]
        congr 1
    have shape : ∀ i : Fin 256, ((escU (UInt8.ofNat i.val)).all (fun c => !(c == 34) && !(c == 92)) || (match escU (UInt8.ofNat i.val) with | 92 :: _ :: q => q.all (fun c => !(c == 34) && !(c == 92)) | _ => false)) = true := by decide +kernel
    intro i r
    refine both _ ?_ r
    have h := shape i
    rw [Bool.or_eq_true] at h
    rcases h with h | h
    · exact .inl h
    · refine .inr ?_
      split at h
      · rename_i d q hq; exact ⟨d, q, hq, h⟩
      · cases h) c r
theorem lit_escL (l r : List UInt8) : litN (escL l ++ r) = (litN r).map (· + (escL l).length) := by
  induction l with
  | nil => simp [escL]
  | cons c q ih =>
    have e : escL (c :: q) = escU c ++ escL q := by simp [escL]
    rw [e, List.append_assoc, lit_esc, ih, Option.map_map]
    cases litN r with
    | none => rfl
    | some n => simp [List.length_append]; omega
theorem Ps.quote (s : List UInt8) : Ps (quoteU s) [(4, s)] := fun r kr h => by
  have e : quoteU s ++ r = 34 :: (escL s ++ 34 :: r) := by simp [quoteU]
  have hl : litN (escL s ++ 34 :: r) = some ((escL s).length + 1) := by
    rw [lit_escL]
    have : litN (34 :: r) = some 1 := by cases r <;> (unfold litN; rfl)
    rw [this]
    show some (1 + (escL s).length) = _
    rw [Nat.add_comm]
  have ht : (escL s ++ 34 :: r).take ((escL s).length + 1) = escL s ++ [34] := by
    rw [List.take_append, Nat.add_sub_cancel_left, List.take_of_length_le (by omega)]; rfl
  rw [e]
  refine .tok (c := 34) (r := escL s ++ 34 :: r) (n := (escL s).length + 1 + 1) rfl ?_ ?_
  · unfold readU
    simp only [show signB 34 = false from rfl, show ((34 : UInt8) == 46) = false from rfl, show ((34 : UInt8) == 45 || digU 34) = false from rfl, show letU 34 = false from rfl, show ((34 : UInt8) == 34) = true from rfl, Bool.false_eq_true, if_false, if_true, hl, ht]
    have hq : unquoteU (34 :: (escL s ++ [34])) = some s := by
      have := unquote_quote s
      simpa [quoteU] using this
    rw [hq]
  · have : (34 :: (escL s ++ 34 :: r)).drop ((escL s).length + 1 + 1) = r := by
      rw [List.drop_succ_cons, List.drop_append, Nat.add_sub_cancel_left, List.drop_of_length_le (by omega)]; rfl
    rw [this]
    exact h
end Go.Proofs.YthjiclhfhjdjpaaGreatDoor
namespace Go.Proofs.YthjiclhfhjdjpaaGreatDoor
inductive All2 (T : Tok → Tok → Prop) : List Tok → List Tok → Prop where
  | nil : All2 T [] []
  | cons {a b : Tok} {l m : List Tok} (h : T a b) (t : All2 T l m) : All2 T (a :: l) (b :: m)
structure TR (T : Tok → Tok → Prop) (I : Nat → Nat → Prop) : Prop where
  k : ∀ {t t'}, T t t' → t.k = t'.k
  s : ∀ {t t'}, T t t' → t.s = t'.s
  i : ∀ {t t'}, T t t' → I t.i t'.i
  z : I 0 0
structure XR (T : Tok → Tok → Prop) (x x' : PS) : Prop where
  ts : All2 T x.ts x'.ts
  vr : x.vr = x'.vr
  nd : x.nd = x'.nd
def RR (T : Tok → Tok → Prop) (I : Nat → Nat → Prop) {α : Type} : PR α → PR α → Prop
  | .ok (a, x), .ok (a', x') => a = a' ∧ XR T x x'
  | .error e, .error e' => I e.1 e'.1 ∧ e.2 = e'.2
  | _, _ => False
section
variable {T : Tok → Tok → Prop} {I : Nat → Nat → Prop} {α β : Type}
theorem all2_length {a b : List Tok} (h : All2 T a b) : a.length = b.length := by induction h with | nil => rfl | cons _ _ ih => simp [ih]
theorem all2_drop {a b : List Tok} (h : All2 T a b) : ∀ n, All2 T (a.drop n) (b.drop n) := by
  induction h with
  | nil => intro n; simp; exact .nil
  | cons h1 h2 ih =>
    intro n
    cases n with
    | zero => exact .cons h1 h2
    | succ n => simpa using ih n
theorem XR.hd (hT : TR T I) {x x' : PS} (h : XR T x x') : (hdT x').k = (hdT x).k ∧ (hdT x').s = (hdT x).s ∧ I (hdT x).i (hdT x').i := by
  obtain ⟨h1, -, -⟩ := h
  unfold hdT
  generalize x.ts = a at h1
  generalize x'.ts = b at h1
  cases h1 with
  | nil => exact ⟨rfl, rfl, hT.z⟩
  | cons h2 h3 => exact ⟨(hT.k h2).symm, (hT.s h2).symm, hT.i h2⟩
theorem XR.isS (hT : TR T I) {x x' : PS} (h : XR T x x') (s : List UInt8) : isS x' s = isS x s := by
  obtain ⟨h1, h2, -⟩ := h.hd hT
  unfold Go.Proofs.YthjiclhfhjdjpaaGreatDoor.isS
  rw [h1, h2]
theorem XR.nx (hT : TR T I) {x x' : PS} (h : XR T x x') : XR T (nxT x) (nxT x') := by
  obtain ⟨h1, -, -⟩ := h.hd hT
  unfold nxT
  rw [h1]
  split
  · exact h
  · exact ⟨all2_drop h.ts 1, h.vr, h.nd⟩
theorem XR.len {x x' : PS} (h : XR T x x') : x'.ts.length = x.ts.length := (all2_length h.ts).symm
theorem RR.err (hT : TR T I) {x x' : PS} (h : XR T x x') (e : Int) : RR T I (α := α) (.error ((hdT x).i, e)) (.error ((hdT x').i, e)) := ⟨(h.hd hT).2.2, rfl⟩
theorem RR.okk {x x' : PS} (h : XR T x x') (a : α) : RR T I (.ok (a, x)) (.ok (a, x')) := ⟨rfl, h⟩
theorem RR.ite {c : Prop} [Decidable c] {a b a' b' : PR α} (h1 : c → RR T I a a') (h2 : ¬ c → RR T I b b') : RR T I (if c then a else b) (if c then a' else b') := by
  split
  · rename_i h; exact h1 h
  · rename_i h; exact h2 h
theorem RR.then {r r' : PR α} {f f' : α → PS → PR β} (h : RR T I r r') (hf : ∀ a x x', XR T x x' → RR T I (f a x) (f' a x')) : RR T I (thenQ r f) (thenQ r' f') := by
  unfold thenQ
  cases r with
  | error e => cases r' with | error e' => exact h | ok a' => exact h.elim
  | ok a =>
    cases r' with
    | error e' => exact h.elim
    | ok a' =>
      obtain ⟨a, x⟩ := a
      obtain ⟨a', x'⟩ := a'
      obtain ⟨rfl, hx⟩ := h
      exact hf _ _ _ hx
variable (hT : TR T I)
include hT
end
end Go.Proofs.YthjiclhfhjdjpaaGreatDoor
namespace Go.Proofs.YthjiclhfhjdjpaaGreatDoor
theorem Lex.kinds {l : List UInt8} {ks : List (Int × List UInt8)} (h : Lex l ks) : ∀ p ∈ ks, p.1 ≠ 5 := by
  induction h with
  | done h => intro p hp; cases hp
  | tok h ht hr ih =>
    intro p hp
    rcases List.mem_cons.1 hp with rfl | hp
    · have := readU_le ht
      show _ ≠ _
      omega
    · exact ih p hp
end Go.Proofs.YthjiclhfhjdjpaaGreatDoor
