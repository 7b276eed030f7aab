/- Parts of a proof, merged by a program (shake.py). -/
import Derived.Test.YthjiclhfhjdjpaaGreatDoorQ35
set_option linter.unusedVariables false
set_option linter.unusedSimpArgs false
namespace Go.Proofs.YthjiclhfhjdjpaaGreatDoor
/-- x stops at the end e, behind a; x' goes on with r there -/
structure J (e : Tok) (r : List Tok) (a : List Tok) (x x' : PS) : Prop where
  l : x.ts = a ++ [e]
  r : x'.ts = a ++ r
  vr : x'.vr = x.vr
  nd : x'.nd = x.nd
/-- what the one yields the other yields, if it stops ahead of the end -/
def LO (e : Tok) (r : List Tok) {α : Type} (a : List Tok) (p p' : PR α) : Prop :=
  ∀ v y, p = .ok (v, y) → ∃ b, (∃ d, a = d ++ b) ∧ y.ts = b ++ [e] ∧ (b ≠ [] → ∃ y', p' = .ok (v, y') ∧ J e r b y y')
/-- likewise, wherever it stops -/
def LS (e : Tok) (r : List Tok) {α : Type} (a : List Tok) (p p' : PR α) : Prop :=
  ∀ v y, p = .ok (v, y) → ∃ b y', (∃ t d, a = t :: d ++ b) ∧ p' = .ok (v, y') ∧ J e r b y y'
structure Ends (e : Tok) (r : List Tok) : Prop where
  k : e.k = 5
  r : r ≠ []
section
variable {e : Tok} {r : List Tok} {α β : Type}
theorem LS.lo {a : List Tok} {p p' : PR α} (h : LS e r a p p') : LO e r a p p' := fun v y hp => by
  obtain ⟨b, y', ⟨t, d, hd⟩, h1, h2⟩ := h v y hp
  exact ⟨b, ⟨t :: d, hd⟩, h2.l, fun _ => ⟨y', h1, h2⟩⟩
theorem LO.zero {p p' p'' : PR α} (h : LO e r [] p p') : LO e r [] p p'' := fun v y hp => by
  obtain ⟨b, ⟨d, hd⟩, h1, h2⟩ := h v y hp
  have : b = [] := (List.append_eq_nil_iff.1 hd.symm).2
  subst this
  exact ⟨[], ⟨[], rfl⟩, h1, fun h => (h rfl).elim⟩
theorem LS.zero {p p' p'' : PR α} (h : LS e r [] p p') : LS e r [] p p'' := fun v y hp => by
  obtain ⟨b, y', ⟨t, d, hd⟩, -⟩ := h v y hp
  cases hd
theorem LO.err {a : List Tok} {q : Nat × Int} {p' : PR α} : LO e r a (.error q) p' := fun _ _ h => by cases h
theorem LS.err {a : List Tok} {q : Nat × Int} {p' : PR α} : LS e r a (.error q) p' := fun _ _ h => by cases h
theorem LO.okk {a : List Tok} {x x' : PS} (h : J e r a x x') (v : α) : LO e r a (.ok (v, x)) (.ok (v, x')) := fun w y hp => by
  cases hp
  exact ⟨a, ⟨[], rfl⟩, h.l, fun _ => ⟨x', rfl, h⟩⟩
theorem LO.mono {a b : List Tok} {p p' : PR α} (h : LO e r b p p') (hab : ∃ d, a = d ++ b) : LO e r a p p' := fun v y hp => by
  obtain ⟨c, ⟨d, hd⟩, h1⟩ := h v y hp
  obtain ⟨d2, hd2⟩ := hab
  exact ⟨c, ⟨d2 ++ d, by rw [hd2, hd, List.append_assoc]⟩, h1⟩
theorem LS.mono {a b : List Tok} {p p' : PR α} (h : LS e r b p p') (hab : ∃ d, a = d ++ b) : LS e r a p p' := fun v y hp => by
  obtain ⟨c, y', ⟨t, d, hd⟩, h1⟩ := h v y hp
  obtain ⟨d2, hd2⟩ := hab
  cases d2 with
  | nil => exact ⟨c, y', ⟨t, d, by rw [hd2, hd]; rfl⟩, h1⟩
  | cons t2 d2 => exact ⟨c, y', ⟨t2, d2 ++ t :: d, by rw [hd2, hd]; simp⟩, h1⟩
theorem LS.okn {t : Tok} {a : List Tok} {x x' : PS} (h : J e r a x x') (v : α) : LS e r (t :: a) (.ok (v, x)) (.ok (v, x')) := fun w y hp => by
  cases hp
  exact ⟨a, x', ⟨t, [], rfl⟩, rfl, h⟩
theorem LO.ite {a : List Tok} {c c' : Prop} [Decidable c] [Decidable c'] {A A' B B' : PR α} (hc : a ≠ [] → (c ↔ c')) (h1 : c → LO e r a A A') (h2 : ¬ c → LO e r a B B') : LO e r a (if c then A else B) (if c' then A' else B') := by
  by_cases ha : a = []
  · subst ha
    by_cases h : c
    · rw [if_pos h]; exact (h1 h).zero
    · rw [if_neg h]; exact (h2 h).zero
  · by_cases h : c
    · rw [if_pos h, if_pos ((hc ha).1 h)]; exact h1 h
    · rw [if_neg h, if_neg fun h' => h ((hc ha).2 h')]; exact h2 h
theorem LS.ite {a : List Tok} {c c' : Prop} [Decidable c] [Decidable c'] {A A' B B' : PR α} (hc : a ≠ [] → (c ↔ c')) (h1 : c → LS e r a A A') (h2 : ¬ c → LS e r a B B') : LS e r a (if c then A else B) (if c' then A' else B') := by
  by_cases ha : a = []
  · subst ha
    by_cases h : c
    · rw [if_pos h]; exact (h1 h).zero
    · rw [if_neg h]; exact (h2 h).zero
  · by_cases h : c
    · rw [if_pos h, if_pos ((hc ha).1 h)]; exact h1 h
    · rw [if_neg h, if_neg fun h' => h ((hc ha).2 h')]; exact h2 h
theorem LO.then {a : List Tok} {p p' : PR α} {f f' : α → PS → PR β} (h : LO e r a p p') (hf : ∀ v b y y', J e r b y y' → LO e r b (f v y) (f' v y')) : LO e r a (thenQ p f) (thenQ p' f') := fun w z hp => by
  cases hpp : p with
  | error q => rw [hpp] at hp; cases hp
  | ok q =>
    obtain ⟨v, y⟩ := q
    obtain ⟨b, hab, h1, h2⟩ := h v y hpp
    rw [hpp] at hp
    have hp : f v y = .ok (w, z) := hp
    by_cases hb : b = []
    · subst hb
      obtain ⟨c, ⟨d, hd⟩, h3, -⟩ := hf v [] y ⟨r, y.vr, y.nd⟩ ⟨h1, rfl, rfl, rfl⟩ w z hp
      have : c = [] := (List.append_eq_nil_iff.1 hd.symm).2
      subst this
      exact ⟨[], hab, h3, fun h => (h rfl).elim⟩
    · obtain ⟨y', h3, h4⟩ := h2 hb
      rw [h3]
      exact ((hf v b y y' h4).mono hab) w z hp
theorem LS.then {a : List Tok} {p p' : PR α} {f f' : α → PS → PR β} (h : LO e r a p p') (hf : ∀ v b y y', J e r b y y' → LS e r b (f v y) (f' v y')) : LS e r a (thenQ p f) (thenQ p' f') := fun w z hp => by
  cases hpp : p with
  | error q => rw [hpp] at hp; cases hp
  | ok q =>
    obtain ⟨v, y⟩ := q
    obtain ⟨b, hab, h1, h2⟩ := h v y hpp
    rw [hpp] at hp
    have hp : f v y = .ok (w, z) := hp
    by_cases hb : b = []
    · subst hb
      obtain ⟨c, y', ⟨t, d, hd⟩, -⟩ := hf v [] y ⟨r, y.vr, y.nd⟩ ⟨h1, rfl, rfl, rfl⟩ w z hp
      cases hd
    · obtain ⟨y', h3, h4⟩ := h2 hb
      rw [h3]
      exact ((hf v b y y' h4).mono hab) w z hp
/-- a strict one first, then whatever stays where it is -/
theorem LS.pure {a : List Tok} {p p' : PR α} {f f' : α → PS → PR β} (h : LS e r a p p') (hf : ∀ v b y y', J e r b y y' → ∃ w z z', f v y = .ok (w, z) ∧ f' v y' = .ok (w, z') ∧ J e r b z z') : LS e r a (thenQ p f) (thenQ p' f') := fun w z hp => by
  cases hpp : p with
  | error q => rw [hpp] at hp; cases hp
  | ok q =>
    obtain ⟨v, y⟩ := q
    obtain ⟨b, y', hab, h1, h2⟩ := h v y hpp
    rw [hpp] at hp
    have hp : f v y = .ok (w, z) := hp
    obtain ⟨w2, z2, z', h3, h4, h5⟩ := hf v b y y' h2
    rw [hp] at h3
    cases h3
    rw [h1]
    exact ⟨b, z', hab, h4, h5⟩
variable (hE : Ends e r)
theorem J.hd {a : List Tok} {x x' : PS} (h : J e r a x x') (ha : a ≠ []) : hdT x' = hdT x := by
  cases a with
  | nil => exact (ha rfl).elim
  | cons t a => unfold hdT; rw [h.l, h.r]; rfl
theorem J.sg {a : List Tok} {x x' : PS} (h : J e r a x x') (s : List UInt8) (ha : a ≠ []) : isS x s = true ↔ isS x' s = true := by
  unfold isS; rw [h.hd ha]
include hE
theorem J.k5 {x x' : PS} (h : J e r [] x x') : (hdT x).k = 5 := by unfold hdT; rw [h.l]; exact hE.k
theorem J.ne_of_k {a : List Tok} {x x' : PS} (h : J e r a x x') (hk : (hdT x).k ≠ 5) : ∃ t a', a = t :: a' ∧ J e r a' (nxT x) (nxT x') := by
  cases a with
  | nil => exact (hk (h.k5 hE)).elim
  | cons t a =>
    have h1 := h.hd (by simp)
    refine ⟨t, a, rfl, ?_⟩
    unfold nxT
    rw [h1, if_neg hk, if_neg hk]
    exact ⟨by show x.ts.drop 1 = _; rw [h.l]; rfl, by show x'.ts.drop 1 = _; rw [h.r]; rfl, h.vr, h.nd⟩
theorem J.ne_of_isS {a : List Tok} {x x' : PS} (h : J e r a x x') {s : List UInt8} (hs : isS x s = true) : ∃ t a', a = t :: a' ∧ J e r a' (nxT x) (nxT x') := by
  refine h.ne_of_k hE ?_
  unfold isS at hs
  simp only [Bool.and_eq_true, beq_iff_eq] at hs
  rw [hs.1]; decide
theorem J.len {a : List Tok} {x x' : PS} (h : J e r a x x') : x.ts.length ≤ x'.ts.length := by
  rw [h.l, h.r, List.length_append, List.length_append]
  have : 0 < r.length := List.length_pos_iff.2 hE.r
  simp; omega
theorem take_ls {a : List Tok} {x x' : PS} (h : J e r a x x') (s : List UInt8) : LS e r a (takeQ s x) (takeQ s x') := by
  unfold takeQ
  refine .ite (h.sg s) (fun hs => ?_) fun _ => .err
  obtain ⟨t, a', rfl, h'⟩ := h.ne_of_isS hE hs
  exact .okn h' _
theorem name_ls {a : List Tok} {x x' : PS} (h : J e r a x x') : LS e r a (nameQ x) (nameQ x') := by
  unfold nameQ
  refine .ite (fun ha => by rw [h.hd ha]) (fun hk => ?_) fun _ => .err
  obtain ⟨t, a', rfl, h'⟩ := h.ne_of_k hE (by rw [hk]; decide)
  rw [h.hd (by simp)]
  exact .okn h' _
theorem open_j : ∀ (f g : Nat) {a : List Tok} {x x' : PS}, J e r a x x' → x.ts.length ≤ f → x'.ts.length ≤ g → ∃ b, (∃ d, a = d ++ b) ∧ (openQ f x).2.ts = b ++ [e] ∧ (b ≠ [] → (openQ g x').1 = (openQ f x).1 ∧ J e r b (openQ f x).2 (openQ g x').2)
  | 0, g, a, x, x', h, hf, _ => by rw [h.l] at hf; simp at hf
  | f + 1, 0, a, x, x', h, _, hg => by have := h.len hE; rw [h.l] at this; simp at this; omega
  | f + 1, g + 1, a, x, x', h, hf, hg => by
    by_cases hs : isS x [91] = true
    · obtain ⟨t, a', rfl, h'⟩ := h.ne_of_isS hE hs
      have hs' := (h.sg [91] (by simp)).1 hs
      have e1 : openQ (f + 1) x = ((openQ f (nxT x)).1 + 1, (openQ f (nxT x)).2) := by rw [openQ, if_pos hs]
      have e2 : openQ (g + 1) x' = ((openQ g (nxT x')).1 + 1, (openQ g (nxT x')).2) := by rw [openQ, if_pos hs']
      rw [e1, e2]
      obtain ⟨b, ⟨d, hd⟩, h1, h2⟩ := open_j f g h' (by rw [h'.l]; rw [h.l] at hf; simpa using hf) (by rw [h'.r]; rw [h.r] at hg; simpa using hg)
      exact ⟨b, ⟨t :: d, by rw [hd]; rfl⟩, h1, fun hb => ⟨by rw [(h2 hb).1], (h2 hb).2⟩⟩
    · have e1 : openQ (f + 1) x = (0, x) := by rw [openQ, if_neg hs]
      rw [e1]
      refine ⟨a, ⟨[], rfl⟩, h.l, fun ha => ?_⟩
      have e2 : openQ (g + 1) x' = (0, x') := by rw [openQ, if_neg fun hq => hs ((h.sg [91] ha).2 hq)]
      rw [e2]
      exact ⟨rfl, h⟩
theorem close_lo : ∀ (n : Nat) (w : List Int) {a : List Tok} {x x' : PS}, J e r a x x' → LO e r a (closeQ n w x) (closeQ n w x')
  | 0, w, a, x, x', h => by
    have e1 : ∀ x, closeQ 0 w x = if isS x [33] = true then .ok (1 :: w, nxT x) else .ok (w, x) := fun x => by unfold closeQ; split <;> rfl
    rw [e1, e1]
    refine .ite (h.sg _) (fun hs => ?_) fun _ => .okk h _
    obtain ⟨t, a', rfl, h'⟩ := h.ne_of_isS hE hs
    exact (LS.okn h' _).lo
  | n + 1, w, a, x, x', h => by
    have e1 : ∀ x, closeQ (n + 1) w x = if isS x [33] = true then thenQ (takeQ [93] (nxT x)) fun _ y => closeQ n (2 :: 1 :: w) y else thenQ (takeQ [93] x) fun _ y => closeQ n (2 :: w) y := fun x => by
      rw [closeQ]; split <;> rfl
    rw [e1, e1]
    refine .ite (h.sg _) (fun hs => ?_) fun _ => .then (take_ls hE h _).lo fun _ _ _ _ hy => close_lo n _ hy
    obtain ⟨t, a', rfl, h'⟩ := h.ne_of_isS hE hs
    exact (LO.then (take_ls hE h' _).lo fun _ _ _ _ hy => close_lo n _ hy).mono ⟨[t], rfl⟩
theorem inner_lo {a : List Tok} {x x' : PS} (h : J e r a x x') : LO e r a (innerQ x) (innerQ x') := by
  obtain ⟨b, hab, h1, h2⟩ := open_j hE x.ts.length x'.ts.length h (Nat.le_refl _) (Nat.le_refl _)
  unfold innerQ
  by_cases hb : b = []
  · subst hb
    intro v y hp
    have hk : nameQ (openQ x.ts.length x).2 = .error ((hdT (openQ x.ts.length x).2).i, 3) := by
      unfold nameQ
      rw [if_neg]
      unfold hdT
      rw [h1]
      show ¬ e.k = 2
      rw [hE.k]; decide
    rw [hk] at hp
    cases hp
  · obtain ⟨h3, h4⟩ := h2 hb
    rw [h3]
    refine LO.mono (b := b) ?_ hab
    exact .then (name_ls hE h4).lo fun _ _ _ _ hy => .then (close_lo hE _ _ hy) fun _ _ _ _ hz => .okk hz _
theorem typ_lo {a : List Tok} {x x' : PS} (h : J e r a x x') : LO e r a (typQ x) (typQ x') :=
  .then (inner_lo hE h) fun _ _ _ _ hy => .ite (fun _ => Iff.rfl) (fun _ => .err) fun _ => .okk hy _
theorem items_ls {v v' : PS → PR D} (hv : ∀ {a : List Tok} {x x' : PS}, J e r a x x' → LO e r a (v x) (v' x')) : ∀ (f g : Nat) (acc : List D) {a : List Tok} {x x' : PS}, f ≤ g → J e r a x x' → LS e r a (itemsQ v f acc x) (itemsQ v' g acc x')
  | 0, _, _, _, _, _, _, _ => .err
  | f + 1, 0, _, _, _, _, hfg, _ => by omega
  | f + 1, g + 1, acc, a, x, x', hfg, h => by
    unfold itemsQ
    refine .ite (h.sg _) (fun hs => ?_) fun _ => .then (hv h) fun _ _ _ _ hy => items_ls hv f g _ (by omega) hy
    obtain ⟨t, a', rfl, h'⟩ := h.ne_of_isS hE hs
    exact .okn h' _
theorem fields_ls {v v' : PS → PR D} (hv : ∀ {a : List Tok} {x x' : PS}, J e r a x x' → LO e r a (v x) (v' x')) : ∀ (f g : Nat) (ks : List (List UInt8)) (acc : List D) {a : List Tok} {x x' : PS}, f ≤ g → J e r a x x' → LS e r a (fieldsQ v f ks acc x) (fieldsQ v' g ks acc x')
  | 0, _, _, _, _, _, _, _, _ => .err
  | f + 1, 0, _, _, _, _, _, hfg, _ => by omega
  | f + 1, g + 1, ks, acc, a, x, x', hfg, h => by
    unfold fieldsQ
    refine .ite (h.sg _) (fun hs => ?_) fun _ => .then (name_ls hE h).lo fun k _ _ _ hy => .ite (fun _ => Iff.rfl) (fun _ => .err) fun _ => .then (take_ls hE hy _).lo fun _ _ _ _ hz => .then (hv hz) fun _ _ _ _ hu => fields_ls hv f g _ _ (by omega) hu
    obtain ⟨t, a', rfl, h'⟩ := h.ne_of_isS hE hs
    exact .okn h' _
theorem value_lo : ∀ (f lv : Nat) {a : List Tok} {x x' : PS}, J e r a x x' → LO e r a (valueQ f lv x) (valueQ f lv x')
  | 0, _, _, _, _, _ => .err
  | f + 1, lv, a, x, x', h => by
    by_cases ha : a = []
    · intro v y hp
      subst ha
      have hk := h.k5 hE
      unfold valueQ at hp
      rw [if_pos (by unfold noVal; rw [hk]; rfl)] at hp
      cases hp
    · have hh := h.hd ha
      have hn : noVal x' = noVal x := by unfold noVal isS; rw [hh, h.vr]
      unfold valueQ
      rw [hn, hh, h.nd]
      refine .ite (fun _ => Iff.rfl) (fun _ => .err) fun hno => ?_
      obtain ⟨t, a', rfl, h'⟩ := h.ne_of_k hE (fun hk => hno (by unfold noVal; rw [hk]; rfl))
      have hy : J e r a' { nxT x with nd := x.nd + 1 } { nxT x' with nd := x.nd + 1 } := ⟨h'.l, h'.r, h'.vr, rfl⟩
      have hlen : (nxT x).ts.length ≤ (nxT x').ts.length := h'.len hE
      refine .ite (fun _ => Iff.rfl) (fun _ => .err) fun _ => .ite (fun _ => Iff.rfl) (fun _ => .err) fun _ => ?_
      dsimp only
      refine LO.mono (b := a') ?_ ⟨[t], rfl⟩
      refine .ite (fun _ => Iff.rfl) (fun _ => .okk hy _) fun _ => .ite (fun _ => Iff.rfl) (fun _ => .okk hy _) fun _ => .ite (fun _ => Iff.rfl) (fun _ => .okk hy _) fun _ => .ite (fun _ => Iff.rfl) (fun _ => .then (name_ls hE hy).lo fun _ _ _ _ hz => .okk hz _) fun _ => .ite (fun _ => Iff.rfl) (fun _ => ?_) fun _ => ?_
      · exact .then (items_ls hE (fun h => value_lo f (lv + 1) h) _ _ _ (by omega) hy).lo fun _ _ _ _ hz => .okk hz _
      · exact .then (fields_ls hE (fun h => value_lo f (lv + 1) h) _ _ _ _ (by omega) hy).lo fun _ _ _ _ hz => .okk hz _
theorem whole_lo {a : List Tok} {x x' : PS} (h : J e r a x x') : LO e r a (wholeQ x) (wholeQ x') := value_lo hE _ _ ⟨h.l, h.r, h.vr, rfl⟩
theorem argsF_ls : ∀ (f g : Nat) (acc : List D) {a : List Tok} {x x' : PS}, f ≤ g → J e r a x x' → LS e r a (argsF f acc x) (argsF g acc x')
  | 0, _, _, _, _, _, _, _ => .err
  | f + 1, 0, _, _, _, _, hfg, _ => by omega
  | f + 1, g + 1, acc, a, x, x', hfg, h => by
    unfold argsF
    refine .ite (fun ha => by rw [h.sg _ ha]) (fun hs => ?_) fun _ => .ite (fun ha => by rw [h.hd ha]) (fun _ => .err) fun _ => .then (name_ls hE h).lo fun _ _ _ _ hy => .then (take_ls hE hy _).lo fun _ _ _ _ hz => .then (whole_lo hE hz) fun _ _ _ _ hu => argsF_ls f g _ (by omega) hu
    obtain ⟨t, a', rfl, h'⟩ := h.ne_of_isS hE hs.2
    exact .okn h' _
theorem args_lo {a : List Tok} {x x' : PS} (h : J e r a x x') : LO e r a (argsQ x) (argsQ x') := by
  unfold argsQ
  refine .ite (h.sg _) (fun hs => ?_) fun _ => .okk h _
  obtain ⟨t, a', rfl, h'⟩ := h.ne_of_isS hE hs
  exact (argsF_ls hE _ _ _ (h.len hE) h').lo.mono ⟨[t], rfl⟩
theorem dirsF_lo : ∀ (f g : Nat) (acc : List D) {a : List Tok} {x x' : PS}, f ≤ g → J e r a x x' → LO e r a (dirsF f acc x) (dirsF g acc x')
  | 0, _, _, _, _, _, _, _ => .err
  | f + 1, 0, _, _, _, _, hfg, _ => by omega
  | f + 1, g + 1, acc, a, x, x', hfg, h => by
    unfold dirsF
    refine .ite (h.sg _) (fun hs => ?_) fun _ => .okk h _
    obtain ⟨t, a', rfl, h'⟩ := h.ne_of_isS hE hs
    exact LO.mono (b := a') (.ite (fun _ => Iff.rfl) (fun _ => .err) fun _ => .then (name_ls hE h').lo fun _ _ _ _ hy => .then (args_lo hE hy) fun _ _ _ _ hz => dirsF_lo f g _ (by omega) hz) ⟨[t], rfl⟩
theorem dirs_lo {a : List Tok} {x x' : PS} (h : J e r a x x') : LO e r a (dirsQ x) (dirsQ x') := dirsF_lo hE _ _ _ (by have := h.len hE; omega) h
theorem sel_lo {v v' : PS → PR (List D)} (hv : ∀ {a : List Tok} {x x' : PS}, J e r a x x' → LO e r a (v x) (v' x')) {a : List Tok} {x x' : PS} (h : J e r a x x') : LO e r a (selQ v x) (selQ v' x') := by
  unfold selQ
  refine .ite (h.sg _) (fun hs => ?_) fun _ => ?_
  · obtain ⟨t, a', rfl, h'⟩ := h.ne_of_isS hE hs
    refine LO.mono (b := a') ?_ ⟨[t], rfl⟩
    dsimp only
    refine .ite (fun ha => by rw [h'.hd ha]) (fun hk => ?_) fun _ => ?_
    · obtain ⟨t2, a2, rfl, h2⟩ := h'.ne_of_k hE (by rw [hk.1]; decide)
      rw [h'.hd (by simp)]
      exact LO.mono (b := a2) (.then (dirs_lo hE h2) fun _ _ _ _ hz => .okk hz _) ⟨[t2], rfl⟩
    · refine .then (.ite (fun ha => by rw [h'.hd ha]) (fun hk => ?_) fun _ => .okk h' _) fun _ _ _ _ hz => .then (dirs_lo hE hz) fun _ _ _ _ hu => .then (hv hu) fun _ _ _ _ ho => .okk ho _
      obtain ⟨t2, a2, rfl, h2⟩ := h'.ne_of_k hE (by rw [hk]; decide)
      exact (name_ls hE h2).lo.mono ⟨[t2], rfl⟩
  · refine .then (name_ls hE h).lo fun n _ y y' hy => .then (.ite (hy.sg _) (fun hs => ?_) fun _ => .okk hy _) fun _ _ _ _ hz => .then (args_lo hE hz) fun _ _ _ _ hu => .then (dirs_lo hE hu) fun _ _ _ _ hw => .then (.ite (hw.sg _) (fun _ => hv hw) fun _ => .okk hw _) fun _ _ _ _ ho => .okk ho _
    obtain ⟨t2, a2, rfl, h2⟩ := hy.ne_of_isS hE hs
    exact LO.mono (b := a2) (.then (name_ls hE h2).lo fun _ _ _ _ hz => .okk hz _) ⟨[t2], rfl⟩
theorem setF_ls {v v' : PS → PR D} (hv : ∀ {a : List Tok} {x x' : PS}, J e r a x x' → LO e r a (v x) (v' x')) : ∀ (f g : Nat) (acc : List D) {a : List Tok} {x x' : PS}, f ≤ g → J e r a x x' → LS e r a (setF v f acc x) (setF v' g acc x')
  | 0, _, _, _, _, _, _, _ => .err
  | f + 1, 0, _, _, _, _, hfg, _ => by omega
  | f + 1, g + 1, acc, a, x, x', hfg, h => by
    unfold setF
    refine .ite (fun ha => by rw [h.sg _ ha]) (fun hs => ?_) fun _ => .ite (fun ha => by rw [h.hd ha, h.sg _ ha]) (fun _ => .err) fun _ => .then (hv h) fun _ _ _ _ hy => setF_ls hv f g _ (by omega) hy
    obtain ⟨t, a', rfl, h'⟩ := h.ne_of_isS hE hs.2
    exact .okn h' _
theorem sels_ls : ∀ (f lv : Nat) {a : List Tok} {x x' : PS}, J e r a x x' → LS e r a (selsQ f lv x) (selsQ f lv x')
  | 0, _, _, _, _, _ => .err
  | f + 1, lv, a, x, x', h => by
    unfold selsQ
    refine .ite (fun ha => by rw [h.sg _ ha]) (fun _ => .err) fun _ => .then (take_ls hE h _).lo fun _ _ y y' hy => ?_
    exact setF_ls hE (fun h => sel_lo hE (fun h => (sels_ls f (lv + 1) h).lo) h) _ _ _ (by have := hy.len hE; omega) hy
theorem set_ls {a : List Tok} {x x' : PS} (h : J e r a x x') : LS e r a (setQ x) (setQ x') := sels_ls hE _ _ h
theorem varsF_ls : ∀ (f g : Nat) (acc : List D) {a : List Tok} {x x' : PS}, f ≤ g → J e r a x x' → LS e r a (varsF f acc x) (varsF g acc x')
  | 0, _, _, _, _, _, _, _ => .err
  | f + 1, 0, _, _, _, _, hfg, _ => by omega
  | f + 1, g + 1, acc, a, x, x', hfg, h => by
    unfold varsF
    refine .ite (fun ha => by rw [h.sg _ ha]) (fun hs => ?_) fun _ => .ite (fun ha => by rw [h.sg _ ha]) (fun _ => .err) fun _ => .then (take_ls hE h _).lo fun _ _ _ _ hy => .then (name_ls hE hy).lo fun _ _ _ _ hz => .then (take_ls hE hz _).lo fun _ _ _ _ hu => .then (typ_lo hE hu) fun _ _ v v' hv => .then (.ite (hv.sg _) (fun hs => ?_) fun _ => .okk hv _) fun _ _ _ _ ho => varsF_ls f g _ (by omega) ho
    · obtain ⟨t, a', rfl, h'⟩ := h.ne_of_isS hE hs.2
      exact .okn h' _
    · obtain ⟨t, a', rfl, h'⟩ := hv.ne_of_isS hE hs
      exact LO.mono (b := a') (.then (whole_lo hE (x := { nxT v with vr := false }) (x' := { nxT v' with vr := false }) ⟨h'.l, h'.r, rfl, h'.nd⟩) fun _ _ o o' ho => .okk (x := { o with vr := true }) (x' := { o' with vr := true }) ⟨ho.l, ho.r, rfl, ho.nd⟩ _) ⟨[t], rfl⟩
theorem op_ls (k : Int) {a : List Tok} {x x' : PS} (h : J e r a x x') : LS e r a (opQ k x) (opQ k x') := by
  unfold opQ
  refine .then (.ite (fun ha => by rw [h.hd ha]) (fun hk => ?_) fun _ => .okk h _) fun _ _ y y' hy => .then (.ite (hy.sg _) (fun hs => ?_) fun _ => .okk hy _) fun _ _ _ _ hz => .pure (set_ls hE hz) fun _ _ u u' hu => ⟨_, u, u', rfl, rfl, hu⟩
  · obtain ⟨t, a', rfl, h'⟩ := h.ne_of_k hE (by rw [hk]; decide)
    rw [h.hd (by simp)]
    exact (LS.okn h' _).lo
  · obtain ⟨t, a', rfl, h'⟩ := hy.ne_of_isS hE hs
    exact (varsF_ls hE _ _ _ (hy.len hE) h').lo.mono ⟨[t], rfl⟩
end
end Go.Proofs.YthjiclhfhjdjpaaGreatDoor
namespace Go.Proofs.YthjiclhfhjdjpaaGreatDoor
/-- the tokens end with an end -/
def En (x : PS) : Prop := ∃ a e, x.ts = a ++ [e] ∧ e.k = 5 ∧ ∀ t ∈ x.ts, t.s.length ≤ 100000
theorem En.cons {x : PS} (h : En x) : ∃ t r, x.ts = t :: r := by
  obtain ⟨a, e, h1, -⟩ := h
  rw [h1]
  cases a with
  | nil => exact ⟨e, [], rfl⟩
  | cons t a => exact ⟨t, a ++ [e], rfl⟩
theorem En.lo {α : Type} {x y : PS} {v : α} (h : En x) {p : PS → PR α} (hp : ∀ {e : Tok} {a : List Tok} {x x' : PS}, Ends e [e] → J e [e] a x x' → LO e [e] a (p x) (p x')) (hq : p x = .ok (v, y)) : En y ∧ y.ts.length ≤ x.ts.length := by
  obtain ⟨a, e, h1, h2, h4⟩ := h
  obtain ⟨b, ⟨d, hd⟩, h3, -⟩ := hp (e := e) (a := a) (x := x) (x' := x) ⟨h2, by simp⟩ ⟨h1, h1, rfl, rfl⟩ v y hq
  exact ⟨⟨b, e, h3, h2, fun t ht => h4 t (by rw [h1, hd]; rw [h3] at ht; simp at ht ⊢; exact .inr ht)⟩, by rw [h3, h1, hd]; simp⟩
theorem En.ls {α : Type} {x y : PS} {v : α} (h : En x) {p : PS → PR α} (hp : ∀ {e : Tok} {a : List Tok} {x x' : PS}, Ends e [e] → J e [e] a x x' → LS e [e] a (p x) (p x')) (hq : p x = .ok (v, y)) : En y ∧ y.ts.length < x.ts.length := by
  obtain ⟨a, e, h1, h2, h4⟩ := h
  obtain ⟨b, y', ⟨t, d, hd⟩, -, h3⟩ := hp (e := e) (a := a) (x := x) (x' := x) ⟨h2, by simp⟩ ⟨h1, h1, rfl, rfl⟩ v y hq
  exact ⟨⟨b, e, h3.l, h2, fun t ht => h4 t (by rw [h1, hd]; rw [h3.l] at ht; simp at ht ⊢; exact .inr (.inr ht))⟩, by rw [h3.l, h1, hd]; simp; omega⟩
theorem En.name {x y : PS} {v : List UInt8} (h : En x) (hq : nameQ x = .ok (v, y)) : En y ∧ y.ts.length < x.ts.length := h.ls (p := nameQ) (fun hE h => name_ls hE h) hq
theorem En.whole {x y : PS} {v : D} (h : En x) (hq : wholeQ x = .ok (v, y)) : En y ∧ y.ts.length ≤ x.ts.length := h.lo (p := wholeQ) (fun hE h => whole_lo hE h) hq
theorem En.args {x y : PS} {v : List D} (h : En x) (hq : argsQ x = .ok (v, y)) : En y ∧ y.ts.length ≤ x.ts.length := h.lo (p := argsQ) (fun hE h => args_lo hE h) hq
theorem En.dirs {x y : PS} {v : List D} (h : En x) (hq : dirsQ x = .ok (v, y)) : En y ∧ y.ts.length ≤ x.ts.length := h.lo (p := dirsQ) (fun hE h => dirs_lo hE h) hq
theorem En.sel {f lv : Nat} {x y : PS} {v : D} (h : En x) (hq : selQ (selsQ f lv) x = .ok (v, y)) : En y ∧ y.ts.length ≤ x.ts.length := h.lo (p := selQ (selsQ f lv)) (fun hE h => sel_lo hE (fun h => (sels_ls hE f lv h).lo) h) hq
theorem En.sels {f lv : Nat} {x y : PS} {v : List D} (h : En x) (hq : selsQ f lv x = .ok (v, y)) : En y ∧ y.ts.length < x.ts.length := h.ls (p := selsQ f lv) (fun hE h => sels_ls hE f lv h) hq
theorem En.op {k : Int} {x y : PS} {v : D} (h : En x) (hq : opQ k x = .ok (v, y)) : En y ∧ y.ts.length < x.ts.length := h.ls (p := opQ k) (fun hE h => op_ls hE k h) hq
theorem En.nx {x : PS} (h : En x) (hk : (hdT x).k ≠ 5) : En (nxT x) ∧ (nxT x).ts.length < x.ts.length := by
  obtain ⟨a, e, h1, h2, h4⟩ := h
  have hJ : J e [e] a x x := ⟨h1, h1, rfl, rfl⟩
  obtain ⟨t, a', rfl, h3⟩ := hJ.ne_of_k (e := e) (r := [e]) ⟨h2, by simp⟩ hk
  exact ⟨⟨a', e, h3.l, h2, fun t ht => h4 t (by rw [h1]; rw [h3.l] at ht; simp at ht ⊢; exact .inr ht)⟩, by rw [h3.l, h1]; simp⟩
theorem En.hd {x : PS} (h : En x) : (hdT x).s.length ≤ 100000 := by
  obtain ⟨t, r, ht⟩ := h.cons
  obtain ⟨a, e, -, -, h4⟩ := h
  have : hdT x = t := by unfold hdT; rw [ht]; rfl
  rw [this]
  exact h4 t (by rw [ht]; simp)
end Go.Proofs.YthjiclhfhjdjpaaGreatDoor
namespace Go.Proofs.YthjiclhfhjdjpaaGreatDoor
open Go.RowKit
attribute [local irreducible] wpList Calls Code.wp AW AWo OpOk seqK blockK scopeK loopK endK AC absLex Yld Sub
attribute [local irreducible] ACB ACX absLexG YldG
set_option maxHeartbeats 8000000 in
set_option maxRecDepth 100000 in
theorem En.nd {x : PS} (h : En x) (n : Nat) (v : Bool) : En ⟨x.ts, v, n⟩ := h
set_option maxHeartbeats 8000000 in
set_option maxRecDepth 100000 in
theorem then_ok {α β : Type} {r : PR α} {f : α → PS → PR β} {a : α} {x : PS} (h : r = .ok (a, x)) : thenQ r f = f a x := by rw [h]; rfl
set_option maxHeartbeats 8000000 in
set_option maxRecDepth 100000 in
theorem then_err {α β : Type} {r : PR α} {f : α → PS → PR β} {e : Nat × Int} (h : r = .error e) : thenQ r f = .error e := by rw [h]; rfl
end Go.Proofs.YthjiclhfhjdjpaaGreatDoor
namespace Go.Proofs.YthjiclhfhjdjpaaGreatDoor
def Nz {α : Type} (r : PR α) : Prop := ∀ i, r ≠ .error (i, 0)
section
variable {α β : Type}
theorem Nz.okk (p : α × PS) : Nz (.ok p : PR α) := fun i h => by cases h
theorem Nz.err {i : Nat} {e : Int} (h : e ≠ 0) : Nz (.error (i, e) : PR α) := fun j hj => by cases hj; exact h rfl
theorem Nz.ite {c : Prop} [Decidable c] {a b : PR α} (h1 : c → Nz a) (h2 : ¬ c → Nz b) : Nz (if c then a else b) := by
  split
  · exact h1 (by assumption)
  · exact h2 (by assumption)
theorem Nz.then {r : PR α} {f : α → PS → PR β} (h : Nz r) (hf : ∀ a x, r = .ok (a, x) → Nz (f a x)) : Nz (thenQ r f) := by
  cases hr : r with
  | error e =>
    rw [then_err (r := .error e) rfl]
    intro i hi
    cases hi
    exact h i hr
  | ok p =>
    obtain ⟨a, x⟩ := p
    rw [then_ok (r := .ok (a, x)) rfl]
    exact hf a x hr
end
end Go.Proofs.YthjiclhfhjdjpaaGreatDoor
namespace Go.Proofs.YthjiclhfhjdjpaaGreatDoor
def Mz {α : Type} (r : PR α) : Prop := ∀ i e, r = .error (i, e) → 0 < e ∧ e ≤ 100
section
variable {α β : Type}
theorem Mz.okk (p : α × PS) : Mz (.ok p : PR α) := fun i e h => by cases h
theorem Mz.err {i : Nat} {e : Int} (h : 0 < e ∧ e ≤ 100) : Mz (.error (i, e) : PR α) := fun j e' hj => by cases hj; exact h
theorem Mz.ite {c : Prop} [Decidable c] {a b : PR α} (h1 : c → Mz a) (h2 : ¬ c → Mz b) : Mz (if c then a else b) := by
  split
  · exact h1 (by assumption)
  · exact h2 (by assumption)
theorem Mz.then {r : PR α} {f : α → PS → PR β} (h : Mz r) (hf : ∀ a x, r = .ok (a, x) → Mz (f a x)) : Mz (thenQ r f) := by
  cases hr : r with
  | error e =>
    rw [then_err (r := .error e) rfl]
    intro i e' hi
    cases hi
    exact h i e' hr
  | ok p =>
    obtain ⟨a, x⟩ := p
    rw [then_ok (r := .ok (a, x)) rfl]
    exact hf a x hr
end
end Go.Proofs.YthjiclhfhjdjpaaGreatDoor
namespace Go.Proofs.YthjiclhfhjdjpaaGreatDoor
/-- the weight of tokens -/
def tw : List Tok → Nat
  | [] => 0
  | t :: r => t.s.length + 40 + tw r
def Bd {α : Type} (μ : α → Nat) (N : Nat) (r : PR α) : Prop := ∀ v y, r = .ok (v, y) → μ v + tw y.ts ≤ N
section
variable {α β : Type} {μ : α → Nat} {ν : β → Nat} {N M : Nat}
theorem Bd.okk {v : α} {y : PS} (h : μ v + tw y.ts ≤ N) : Bd μ N (.ok (v, y) : PR α) := fun _ _ e => by cases e; exact h
theorem Bd.err {e : Nat × Int} : Bd μ N (.error e : PR α) := fun _ _ h => by cases h
theorem Bd.ite {c : Prop} [Decidable c] {a b : PR α} (h1 : c → Bd μ N a) (h2 : ¬ c → Bd μ N b) : Bd μ N (if c then a else b) := by
  split
  · exact h1 (by assumption)
  · exact h2 (by assumption)
theorem Bd.then {r : PR α} {f : α → PS → PR β} (h : Bd μ N r) (hf : ∀ a x, μ a + tw x.ts ≤ N → Bd ν M (f a x)) : Bd ν M (thenQ r f) := by
  cases hr : r with
  | error e =>
    rw [then_err (r := .error e) rfl]
    exact .err
  | ok p =>
    obtain ⟨a, x⟩ := p
    rw [then_ok (r := .ok (a, x)) rfl]
    exact hf a x (h a x hr)
end
/-- names and what they weigh -/
def sl (s : List UInt8) : Nat := s.length + 40
section
variable {v : PS → PR D} (hv : ∀ y, Bd bulkD (tw y.ts) (v y))
include hv
end
end Go.Proofs.YthjiclhfhjdjpaaGreatDoor
namespace Go.Proofs.YthjiclhfhjdjpaaGreatDoor
def Hr {α : Type} (Q : α → PS → Prop) (r : PR α) : Prop := ∀ v z, r = .ok (v, z) → Q v z
section
variable {α β : Type} {Q : α → PS → Prop} {R : β → PS → Prop}
theorem Hr.okk {v : α} {z : PS} (h : Q v z) : Hr Q (.ok (v, z) : PR α) := fun _ _ e => by cases e; exact h
theorem Hr.err {e : Nat × Int} : Hr Q (.error e : PR α) := fun _ _ h => by cases h
theorem Hr.ite {c : Prop} [Decidable c] {a b : PR α} (h1 : c → Hr Q a) (h2 : ¬ c → Hr Q b) : Hr Q (if c then a else b) := by
  split
  · exact h1 (by assumption)
  · exact h2 (by assumption)
theorem Hr.then {r : PR α} {f : α → PS → PR β} (h : Hr Q r) (hf : ∀ a x, Q a x → Hr R (f a x)) : Hr R (thenQ r f) := by
  cases hr : r with
  | error e =>
    rw [then_err (r := .error e) rfl]
    exact .err
  | ok p =>
    obtain ⟨a, x⟩ := p
    rw [then_ok (r := .ok (a, x)) rfl]
    exact hf a x (h a x hr)
theorem Hr.mono {r : PR α} {Q' : α → PS → Prop} (h : Hr Q r) (hq : ∀ a x, Q a x → Q' a x) : Hr Q' r := fun v z e => hq v z (h v z e)
end
/-- a name's token holds a name; kinds -/
def GT (x : PS) : Prop := ∀ t ∈ x.ts, (t.k = 2 → nameB ⟨t.s.toArray⟩ = true) ∧ 1 ≤ t.k ∧ t.k ≤ 5
theorem GT.nx {x : PS} (h : GT x) : GT (nxT x) := fun t ht => by
  unfold nxT at ht
  split at ht
  · exact h t ht
  · exact h t (List.mem_of_mem_drop ht)
theorem nx_vr (x : PS) : (nxT x).vr = x.vr := by unfold nxT; split <;> rfl
theorem nx_nd2 (x : PS) : (nxT x).nd = x.nd := by unfold nxT; split <;> rfl
theorem GT.hd {x : PS} (h : GT x) : ((hdT x).k = 2 → nameB ⟨(hdT x).s.toArray⟩ = true) ∧ 1 ≤ (hdT x).k ∧ (hdT x).k ≤ 5 := by
  unfold hdT
  cases hx : x.ts with
  | nil => exact ⟨fun h => absurd h (by decide), by decide, by decide⟩
  | cons t r => exact h t (by rw [hx]; exact List.mem_cons_self ..)
/-- what a reader keeps -/
structure Pv (x z : PS) : Prop where
  gt : GT z
  vr : z.vr = x.vr
theorem Pv.trans {x y z : PS} (h1 : Pv x y) (h2 : Pv y z) : Pv x z := ⟨h2.gt, h2.vr.trans h1.vr⟩
theorem GT.pvn {x : PS} (h : GT x) : Pv x (nxT x) := ⟨h.nx, nx_vr x⟩
theorem name_rt {x : PS} (h : GT x) : Hr (fun n z => nameB ⟨n.toArray⟩ = true ∧ Pv x z ∧ z.nd = x.nd) (nameQ x) := by
  unfold nameQ
  exact .ite (fun hk => .okk ⟨h.hd.1 hk, h.pvn, nx_nd2 x⟩) fun _ => .err
structure VOk (lv : Nat) (vr : Bool) (n0 : Nat) (v : D) (n1 : Nat) : Prop where
  sz : ∀ k, Dp k v → sizeR k v + n0 = n1
  dp : ∀ k, Dp k v → depthR k v + lv ≤ 25
  ev : ∀ k, Dp k v → everyL k v = true
  br : vr = false → ∀ k, Dp k v → bareR k v = true
structure CH (lv : Nat) (vr : Bool) (n0 : Nat) (l : List D) (n1 : Nat) : Prop where
  sz : ∀ k, (∀ i, i < l.length → Dp k (gD l i)) → sumN (fun i => sizeR k (gD l i)) l.length + n0 = n1
  dp : ∀ i, i < l.length → ∀ k, Dp k (gD l i) → depthR k (gD l i) + lv ≤ 25
  ev : ∀ i, i < l.length → ∀ k, Dp k (gD l i) → everyL k (gD l i) = true
  br : vr = false → ∀ i, i < l.length → ∀ k, Dp k (gD l i) → bareR k (gD l i) = true
theorem CH.nil {lv : Nat} {vr : Bool} {n : Nat} : CH lv vr n [] n :=
  ⟨fun k _ => by simp [sumN], fun i hi => absurd hi (Nat.not_lt_zero i), fun i hi => absurd hi (Nat.not_lt_zero i), fun _ i hi => absurd hi (Nat.not_lt_zero i)⟩
section
variable {val : PS → PR D} {lv n0 : Nat} {vr : Bool} (hv : ∀ y, GT y → y.vr = vr → y.nd ≤ 4096 → Hr (fun v z => Pv y z ∧ VOk lv vr y.nd v z.nd ∧ z.nd ≤ 4096) (val y))
include hv
end
def Al (p : D → Bool) (l : List D) : Prop := ∀ i, i < l.length → p (gD l i) = true
theorem Al.nil {p : D → Bool} : Al p [] := fun i hi => absurd hi (Nat.not_lt_zero i)
theorem Hr.name {β : Type} {R : β → PS → Prop} {x : PS} {f : List UInt8 → PS → PR β} (h : GT x) (hf : ∀ n z, (hdT x).k = 2 → nameB ⟨n.toArray⟩ = true → Pv x z → Hr R (f n z)) : Hr R (thenQ (nameQ x) f) := by
  by_cases hk : (hdT x).k = 2
  · exact .then (name_rt h) fun n z hz => hf n z hk hz.1 hz.2.1
  · unfold nameQ
    rw [if_neg hk]
    exact .err
end Go.Proofs.YthjiclhfhjdjpaaGreatDoor
namespace Go.Proofs.YthjiclhfhjdjpaaGreatDoor
/-- what a literal's node says -/
structure NodeF (d : D) : Prop where
  int0 : (d.f 0).n = 1 ∨ (d.f 0).n = 2 ∨ (d.f 1).n = 0
  txt0 : (d.f 0).n = 3 ∨ (d.f 0).n = 4 ∨ (d.f 0).n = 7 ∨ tx (d.f 2).s = []
  keys0 : (d.f 0).n = 6 ∨ (d.f 4).l.length = 0
  items0 : (d.f 0).n = 6 ∨ (d.f 0).n = 5 ∨ (d.f 3).l.length = 0
  kind : 0 ≤ (d.f 0).n ∧ (d.f 0).n ≤ 7
  bool : (d.f 0).n = 1 → (d.f 1).n = 0 ∨ (d.f 1).n = 1
  enum : (d.f 0).n = 4 → enumR (d.f 2).s = true
  var : (d.f 0).n = 7 → nameB (d.f 2).s = true
  obj : (d.f 0).n = 6 → (∀ i, i < (d.f 4).l.length → nameB (gD (d.f 4).l i).s = true) ∧ (d.f 4).l.length = (d.f 3).l.length ∧ (strsR d).Nodup
theorem any_no {p : D → Bool} {l : List D} (h : (l.any fun x => !p x) = false) : ∀ i, i < l.length → p (gD l i) = true := fun i hi => by
  rw [List.any_eq_false] at h
  have := h _ (gD_mem hi)
  simpa using this
theorem xnode {d : D} (h : nodeL d = true) : NodeF d := by
  unfold nodeL nodeK at h
  simp only [Bool.and_eq_true, Bool.or_eq_true, beq_iff_eq, decide_eq_true_eq, Bool.not_eq_true', beq_eq_false_iff_ne] at h
  obtain ⟨⟨⟨⟨⟨⟨⟨⟨h1, h2⟩, h3⟩, h4⟩, h5⟩, h6⟩, h7⟩, h8⟩, h9⟩ := h
  refine ⟨?_, ?_, h3, ?_, h5, ?_, ?_, ?_, ?_⟩
  · rcases h1 with (h | h) | h
    · exact .inl h
    · exact .inr (.inl h)
    · exact .inr (.inr h)
  · rcases h2 with ((h | h) | h) | h
    · exact .inl h
    · exact .inr (.inl h)
    · exact .inr (.inr (.inl h))
    · exact .inr (.inr (.inr h))
  · rcases h4 with (h | h) | h
    · exact .inl h
    · exact .inr (.inl h)
    · exact .inr (.inr h)
  · intro h
    rcases h6 with (h' | h') | h'
    · exact absurd h h'
    · exact .inl h'
    · exact .inr h'
  · intro h
    rcases h7 with h' | h'
    · exact absurd h h'
    · exact h'
  · intro h
    rcases h8 with h' | h'
    · exact absurd h h'
    · exact h'
  · intro h
    rcases h9 with h' | h'
    · exact absurd h h'
    · exact ⟨any_no h'.1.1, h'.1.2, h'.2⟩
theorem every_node {k : Nat} {d : D} (h : everyL (k + 1) d = true) : NodeF d ∧ ∀ i, i < (d.f 3).l.length → everyL k (gD (d.f 3).l i) = true := by
  unfold everyL at h
  rw [Bool.and_eq_true, Bool.not_eq_true'] at h
  exact ⟨xnode h.1, any_no h.2⟩
theorem argsR_all {l : List D} (h : argsR l = true) : l.length ≤ 16 ∧ ∀ i, i < l.length → nameB ((gD l i).f 0).s = true ∧ litR ((gD l i).f 1) = true := by
  unfold argsR at h
  rw [Bool.and_eq_true, Bool.not_eq_true', decide_eq_true_eq] at h
  refine ⟨h.1, fun i hi => ?_⟩
  have := any_no h.2 i hi
  unfold argR at this
  rwa [Bool.and_eq_true] at this
theorem dirsR_all {l : List D} (h : dirsR l = true) : l.length ≤ 16 ∧ ∀ i, i < l.length → nameB ((gD l i).f 0).s = true ∧ argsR ((gD l i).f 1).l = true := by
  unfold dirsR at h
  rw [Bool.and_eq_true, Bool.not_eq_true', decide_eq_true_eq] at h
  refine ⟨h.1, fun i hi => ?_⟩
  have := any_no h.2 i hi
  unfold dirR at this
  rwa [Bool.and_eq_true] at this
/-- what a right selection says, in parts -/
structure SelF (sub : List D → Nat → Prop) (d : D) : Prop where
  args : argsR (d.f 4).l = true
  dirs : dirsR (d.f 5).l = true
  field : (d.f 0).n = 1 → tx (d.f 3).s = [] ∧ nameB (d.f 2).s = true ∧ (tx (d.f 1).s = [] ∨ nameB (d.f 1).s = true) ∧ sub (d.f 6).l 0
  spread : (d.f 0).n = 2 → tx (d.f 3).s = [] ∧ tx (d.f 1).s = [] ∧ (d.f 4).l.length = 0 ∧ (d.f 6).l.length = 0 ∧ nameB (d.f 2).s = true ∧ tx (d.f 2).s ≠ [111, 110]
  inline : (d.f 0).n = 3 → tx (d.f 1).s = [] ∧ tx (d.f 2).s = [] ∧ (d.f 4).l.length = 0 ∧ (tx (d.f 3).s = [] ∨ nameB (d.f 3).s = true) ∧ sub (d.f 6).l 1
  kind : (d.f 0).n = 1 ∨ (d.f 0).n = 2 ∨ (d.f 0).n = 3
theorem none_tx {s : ByteArray} : noneS s = true ↔ tx s = [] := by unfold noneS tx; rw [beq_iff_eq]
theorem title_tx {s : ByteArray} (h : titleR s = true) : nameB s = true ∧ tx s ≠ [111, 110] := by
  unfold titleR at h
  rw [Bool.and_eq_true, Bool.not_eq_true', beq_eq_false_iff_ne] at h
  exact h
/-- a right set of selections -/
def SetF (sel : D → Prop) (lv : Nat) (l : List D) (least : Nat) : Prop := least ≤ l.length ∧ l.length ≤ 64 ∧ (l.length = 0 ∨ lv ≤ 24) ∧ ∀ i, i < l.length → sel (gD l i)
theorem xset {sel : D → Bool} {l : List D} {least lv : Nat} (h : selsR sel l least lv = true) : SetF (fun d => sel d = true) lv l least := by
  unfold selsR at h
  simp only [Bool.and_eq_true, Bool.or_eq_true, decide_eq_true_eq, Bool.not_eq_true'] at h
  exact ⟨h.1.1.1, h.1.1.2, h.1.2, any_no h.2⟩
theorem xsel {k lv : Nat} {d : D} (h : selR (k + 1) lv d = true) : SelF (fun l least => SetF (fun x => selR k (lv + 1) x = true) (lv + 1) l least) d := by
  unfold selR at h
  rw [Bool.and_eq_true, Bool.and_eq_true] at h
  obtain ⟨⟨h1, h2⟩, h3⟩ := h
  by_cases k1 : (d.f 0).n = 1
  · rw [if_pos k1] at h3
    simp only [Bool.and_eq_true, Bool.or_eq_true, none_tx] at h3
    exact ⟨h1, h2, fun _ => ⟨h3.1.1.1, h3.1.1.2, h3.1.2, xset h3.2⟩, fun e => by omega, fun e => by omega, .inl k1⟩
  rw [if_neg k1] at h3
  by_cases k2 : (d.f 0).n = 2
  · rw [if_pos k2] at h3
    simp only [Bool.and_eq_true, none_tx, decide_eq_true_eq] at h3
    have ht := title_tx h3.2
    exact ⟨h1, h2, fun e => absurd e k1, fun _ => ⟨h3.1.1.1.1, h3.1.1.1.2, h3.1.1.2, h3.1.2, ht.1, ht.2⟩, fun e => by omega, .inr (.inl k2)⟩
  rw [if_neg k2] at h3
  by_cases k3 : (d.f 0).n = 3
  · rw [if_pos k3] at h3
    simp only [Bool.and_eq_true, Bool.or_eq_true, none_tx, decide_eq_true_eq] at h3
    exact ⟨h1, h2, fun e => absurd e k1, fun e => absurd e k2, fun _ => ⟨h3.1.1.1.1, h3.1.1.1.2, h3.1.1.2, h3.1.2, xset h3.2⟩, .inr (.inr k3)⟩
  · rw [if_neg k3] at h3; cases h3
end Go.Proofs.YthjiclhfhjdjpaaGreatDoor
namespace Go.Proofs.YthjiclhfhjdjpaaGreatDoor
/-- what a right variable says -/
structure VarF (v : D) : Prop where
  name : nameB (v.f 0).s = true
  rname : nameB ((v.f 1).f 0).s = true
  rlen : ((v.f 1).f 1).l.length ≤ 24
  wraps : wrapsR (((v.f 1).f 1).l.map D.n) = true
  has : (v.f 2).b = true → litR (v.f 3) = true ∧ bareR (bulkD (v.f 3)) (v.f 3) = true
  hasnt : (v.f 2).b = false → ((v.f 3).f 0).n = 0 ∧ ((v.f 3).f 1).n = 0 ∧ tx ((v.f 3).f 2).s = [] ∧ ((v.f 3).f 3).l.length = 0 ∧ ((v.f 3).f 4).l.length = 0
theorem xvar {v : D} (h : varR v = true) : VarF v := by
  unfold varR refR at h
  simp only [Bool.and_eq_true, decide_eq_true_eq] at h
  obtain ⟨⟨h1, ⟨h2, h3⟩, h4⟩, h5⟩ := h
  refine ⟨h1, h2, h3, h4, fun e => ?_, fun e => ?_⟩
  · rw [if_pos e] at h5
    rwa [Bool.and_eq_true] at h5
  · rw [if_neg (by rw [e]; decide)] at h5
    simp only [Bool.and_eq_true, beq_iff_eq, none_tx, decide_eq_true_eq] at h5
    exact ⟨h5.1.1.1.1, h5.1.1.1.2, h5.1.1.2, h5.1.2, h5.2⟩
/-- what a right operation says -/
structure OpF (o : D) : Prop where
  kind : 1 ≤ (o.f 0).n ∧ (o.f 0).n ≤ 3
  name : tx (o.f 1).s = [] ∨ nameB (o.f 1).s = true
  vlen : (o.f 2).l.length ≤ 16
  vars : ∀ i, i < (o.f 2).l.length → VarF (gD (o.f 2).l i)
  sels : SetF (fun d => selR (bulkL (o.f 3).l) 1 d = true) 1 (o.f 3).l 1
structure FragF (o : D) : Prop where
  name : nameB (o.f 0).s = true
  notOn : tx (o.f 0).s ≠ [111, 110]
  on : nameB (o.f 1).s = true
  sels : SetF (fun d => selR (bulkL (o.f 2).l) 1 d = true) 1 (o.f 2).l 1
theorem xop {o : D} (h : opR o = true) : OpF o := by
  unfold opR setR at h
  simp only [Bool.and_eq_true, Bool.or_eq_true, decide_eq_true_eq, Bool.not_eq_true', none_tx] at h
  obtain ⟨⟨⟨⟨h1, h2⟩, h3⟩, h4⟩, h5⟩ := h
  exact ⟨h1, h2, h3, fun i hi => xvar (any_no h4 i hi), xset h5⟩
theorem xfrag {o : D} (h : fragR o = true) : FragF o := by
  unfold fragR setR at h
  simp only [Bool.and_eq_true] at h
  have ht := title_tx h.1.1
  exact ⟨ht.1, ht.2, h.1.2, xset h.2⟩
/-- what a right document says -/
structure QueF (q : D) : Prop where
  len : 1 ≤ (q.f 0).l.length + (q.f 1).l.length ∧ (q.f 0).l.length + (q.f 1).l.length ≤ 64
  ops : ∀ i, i < (q.f 0).l.length → OpF (gD (q.f 0).l i)
  frags : ∀ i, i < (q.f 1).l.length → FragF (gD (q.f 1).l i)
theorem xque {q : D} (h : queR q = true) : QueF q := by
  unfold queR at h
  simp only [Bool.and_eq_true, decide_eq_true_eq, Bool.not_eq_true'] at h
  refine ⟨h.1.1, fun i hi => xop ?_, fun i hi => xfrag (any_no h.2 i hi)⟩
  exact List.all_eq_true.1 h.1.2 _ (gD_mem hi)
end Go.Proofs.YthjiclhfhjdjpaaGreatDoor
namespace Go.Proofs.YthjiclhfhjdjpaaGreatDoor
theorem good_of : ∀ (K m : Nat) (d : D), everyL m d = true → goodV K d
  | 0, _, _, _ => trivial
  | K + 1, 0, _, h => by cases h
  | K + 1, m + 1, d, h => by
    obtain ⟨hn, hi⟩ := every_node h
    exact ⟨hn.bool, fun i hl => good_of K m _ (hi i hl)⟩
theorem lit_good {K : Nat} {d : D} (h : litR d = true) : goodV K d := by
  unfold litR at h
  rw [Bool.and_eq_true] at h
  exact good_of K _ d h.2
theorem in_bulk {l : List D} {i : Nat} (h : i < l.length) (j : Nat) : bulkD ((gD l i).f j) ≤ bulkL l ∧ bulkL ((gD l i).f j).l ≤ bulkL l := by
  have h1 := bulkL_get h
  have h2 := wD_f (gD l i) j
  have h3 := bulkD_wD (gD l i)
  have h4 := bulkD_wD ((gD l i).f j)
  have h5 := wD_list ((gD l i).f j)
  omega
section
variable {K : Nat} (hK : 1048576 ≤ K)
include hK
theorem argsOk_of {l : List D} (h : argsR l = true) (hw : ∀ i, wideD (gD l i)) (hb : bulkL l ≤ 1048576) : ArgsOk K l :=
  ⟨hw, hb, fun i hi => dp_bulk K _ (by have := (in_bulk hi 1).1; omega), fun i hi => lit_good ((argsR_all h).2 i hi).2⟩
theorem dirsOk_of {l : List D} (h : dirsR l = true) (hw : ∀ i, wideD (gD l i)) (hb : bulkL l ≤ 1048576) : DirsOk K l :=
  ⟨hw, hb, fun i hi => argsOk_of hK ((dirsR_all h).2 i hi).2 (fun q => ((hw i).f 1).l q) (by have := (in_bulk hi 1).2; omega)⟩
theorem selsOk_of : ∀ (f k lv : Nat) (l : List D), (∀ i, i < l.length → selR k lv (gD l i) = true) → (l.length = 0 ∨ lv ≤ 24) → 25 ≤ f + lv → (∀ i, wideD (gD l i)) → bulkL l ≤ 1048576 → SelsOk K f l
  | 0, _, lv, l, _, h1, h2, _, _ => by
    show l = []
    rcases h1 with h1 | h1
    · exact List.length_eq_zero_iff.1 h1
    · omega
  | f + 1, k, lv, l, h, h1, h2, hw, hb => fun i hi => by
    have h3 := h i hi
    cases k with
    | zero => cases h3
    | succ k =>
      have hs := xsel h3
      refine ⟨argsOk_of hK hs.args (fun q => ((hw i).f 4).l q) (by have := (in_bulk hi 4).2; omega), dirsOk_of hK hs.dirs (fun q => ((hw i).f 5).l q) (by have := (in_bulk hi 5).2; omega), ?_, ?_⟩
      · rcases hs.kind with e | e | e
        · exact .inl e
        · exact .inr (.inl ⟨e, List.length_eq_zero_iff.1 (hs.spread e).2.2.2.1⟩)
        · refine .inr (.inr ⟨e, fun q => ?_⟩)
          have := (hs.inline e).2.2.2.2.1
          rw [q] at this
          simp at this
      · have hsub : (∀ j, j < ((gD l i).f 6).l.length → selR k (lv + 1) (gD ((gD l i).f 6).l j) = true) ∧ (((gD l i).f 6).l.length = 0 ∨ lv + 1 ≤ 24) := by
          rcases hs.kind with e | e | e
          · have := (hs.field e).2.2.2
            exact ⟨this.2.2.2, this.2.2.1⟩
          · have := (hs.spread e).2.2.2.1
            exact ⟨fun j hj => by omega, .inl this⟩
          · have := (hs.inline e).2.2.2.2
            exact ⟨this.2.2.2, this.2.2.1⟩
        exact selsOk_of f k (lv + 1) _ hsub.1 hsub.2 (by omega) (fun q => ((hw i).f 6).l q) (by have := (in_bulk hi 6).2; omega)
theorem varsOk_of {l : List D} (h : ∀ i, i < l.length → VarF (gD l i)) (hw : ∀ i, wideD (gD l i)) (hb : bulkL l ≤ 1048576) : VarsOk K l :=
  ⟨hw, hb, fun i hi => dp_bulk K _ (by have := (in_bulk hi 3).1; omega), fun i hi => by
    cases e : ((gD l i).f 2).b with
    | true => exact lit_good ((h i hi).has e).1
    | false =>
      obtain ⟨h1, -, -, h4, -⟩ := (h i hi).hasnt e
      cases K with
      | zero => trivial
      | succ K => exact ⟨fun q => by omega, fun j hj => by omega⟩⟩
end
/-- what the printing of a document asks, a right one has -/
theorem docOk_of {q : D} (h : queR q = true) (hw : wideD q) (hb : bulkD q ≤ 1048576) : DocOk 1048576 24 q := by
  have hq := xque h
  have h0 := wD_f q 0
  have h1 := wD_f q 1
  have h2 := wD_list (q.f 0)
  have h3 := wD_list (q.f 1)
  have h4 := bulkD_wD q
  refine ⟨hw, hb, by omega, fun i hi => ?_, fun i hi => ?_, fun i hi => ?_⟩
  · exact varsOk_of (Nat.le_refl _) (hq.ops i hi).vars (fun z => (((hw.f 0).l i).f 2).l z) (by have := (in_bulk hi 2).2; omega)
  · exact selsOk_of (Nat.le_refl _) 25 _ 1 _ (hq.ops i hi).sels.2.2.2 (.inr (by omega)) (by omega) (fun z => (((hw.f 0).l i).f 3).l z) (by have := (in_bulk hi 3).2; omega)
  · exact selsOk_of (Nat.le_refl _) 25 _ 1 _ (hq.frags i hi).sels.2.2.2 (.inr (by omega)) (by omega) (fun z => (((hw.f 1).l i).f 2).l z) (by have := (in_bulk hi 2).2; omega)
end Go.Proofs.YthjiclhfhjdjpaaGreatDoor
namespace Go.Proofs.YthjiclhfhjdjpaaGreatDoor
open Go.RowKit
set_option linter.unusedSectionVars false
attribute [local irreducible] wpList Calls Code.wp AW AWo OpOk seqK blockK scopeK loopK endK AC absLex Yld Sub
attribute [local irreducible] ACB ACX absLexG YldG absLexH
set_option maxHeartbeats 8000000 in
set_option maxRecDepth 100000 in
theorem q5_ok : DocOk 1048576 24 (.obj [.list [op5], .list []]) := docOk_of (by kernel_rfl) (by simp [wideD, wideL, op5, opD, se5, selD, ag5, argD, av5, valD, strD, i64D, nmT]) (by decide +kernel)
set_option maxHeartbeats 8000000 in
set_option maxRecDepth 100000 in
theorem q0_ok : DocOk 1048576 24 (.obj [.list [op0], .list []]) := docOk_of (by kernel_rfl) (by simp [wideD, wideL, op0, opD, se0, selD, ag0, argD, av0, valD, strD, i64D, nmT]) (by decide +kernel)
set_option maxHeartbeats 8000000 in
set_option maxRecDepth 100000 in
theorem t5_eq : docT 1048576 25 (.obj [.list [op5], .list []]) = [115, 117, 98, 115, 99, 114, 105, 112, 116, 105, 111, 110, 32, 123, 10, 32, 32, 97, 58, 32, 110, 97, 109, 101, 40, 110, 58, 32, 53, 41, 10, 125, 10] := by kernel_rfl
set_option maxHeartbeats 8000000 in
set_option maxRecDepth 100000 in
theorem t0_eq : docT 1048576 25 (.obj [.list [op0], .list []]) = [115, 117, 98, 115, 99, 114, 105, 112, 116, 105, 111, 110, 32, 123, 10, 32, 32, 110, 97, 109, 101, 40, 110, 58, 32, 48, 41, 10, 125, 10] := by kernel_rfl
set_option maxHeartbeats 8000000 in
set_option maxRecDepth 100000 in
theorem s5_eq : selsT 1048576 25 1 [se5] = [32, 32, 97, 58, 32, 110, 97, 109, 101, 40, 110, 58, 32, 53, 41, 10] := by kernel_rfl
set_option maxHeartbeats 8000000 in
set_option maxRecDepth 100000 in
theorem qe_same : queEq 100 [op5] [] [op5] [] = true := by kernel_rfl
set_option maxHeartbeats 8000000 in
set_option maxRecDepth 100000 in
theorem qe_diff : queEq 100 [op5] [] [op0] [] = false := by kernel_rfl
set_option maxHeartbeats 8000000 in
set_option maxRecDepth 100000 in
theorem nself (b : ByteArray) : (!(b.toList == b.toList)) = false := by simp
set_option maxHeartbeats 8000000 in
set_option maxRecDepth 100000 in
theorem self9 (b : ByteArray) : (b.toList == b.toList) = true := by simp
set_option maxHeartbeats 8000000 in
set_option maxRecDepth 100000 in
theorem gff {b : Bool} (h : b = false) : (b == false) = true := by rw [h]; rfl
set_option maxHeartbeats 8000000 in
set_option maxRecDepth 100000 in
theorem gtt {b : Bool} (h : b = true) : (b == true) = true := by rw [h]; rfl
set_option maxHeartbeats 8000000 in
set_option maxRecDepth 100000 in
theorem example9_ac : AC EN Tryz.prog 25 [] (.c (.bool true)) := by
  have h1 := sign_ac
  have h2 : AC EN Tryz.prog 28 [.agg [.sl 57 [op5], .sl 116 []]] (.c (.string (⟨#[115, 117, 98, 115, 99, 114, 105, 112, 116, 105, 111, 110, 32, 123, 10, 32, 32, 97, 58, 32, 110, 97, 109, 101, 40, 110, 58, 32, 53, 41, 10, 125, 10]⟩ : ByteArray))) := by
    have := printP_ac _ _ _ _ q5_ok
    rw [t5_eq] at this
    exact this
  have h3 : AC EN Tryz.prog 28 [.agg [.sl 57 [op0], .sl 116 []]] (.c (.string (⟨#[115, 117, 98, 115, 99, 114, 105, 112, 116, 105, 111, 110, 32, 123, 10, 32, 32, 110, 97, 109, 101, 40, 110, 58, 32, 48, 41, 10, 125, 10]⟩ : ByteArray))) := by
    have := printP_ac _ _ _ _ q0_ok
    rw [t0_eq] at this
    exact this
  have h4 : AC EN Tryz.prog 26 [.sl 76 [se5]] (.c (.string (⟨#[32, 32, 97, 58, 32, 110, 97, 109, 101, 40, 110, 58, 32, 53, 41, 10]⟩ : ByteArray))) := by
    have := selsP_ac 1048576 24 [se5] (q5_ok.sels 0 (by decide)) (fun i => ((q5_ok.wide.f 0).l 0 |>.f 3).l i) (by decide +kernel) (by decide)
    rw [s5_eq] at this
    exact this
  have h5 := sameQ_ac 100 [op5] [] [op5] [] (by decide +kernel) (by decide) (by decide +kernel) (by decide) (by decide +kernel) (by decide)
  have h6 := sameQ_ac 100 [op5] [] [op0] [] (by decide +kernel) (by decide) (by decide +kernel) (by decide) (by decide +kernel) (by decide)
  rw [qe_same] at h5
  rw [qe_diff] at h6
  have f1 := nself (⟨#[115, 117, 98, 115, 99, 114, 105, 112, 116, 105, 111, 110, 32, 123, 10, 32, 32, 97, 58, 32, 110, 97, 109, 101, 40, 110, 58, 32, 53, 41, 10, 125, 10]⟩ : ByteArray)
  have g1 := gff f1
  have f2 := nself (⟨#[32, 32, 97, 58, 32, 110, 97, 109, 101, 40, 110, 58, 32, 53, 41, 10]⟩ : ByteArray)
  have g2 := gff f2
  have f3 := self9 (⟨#[115, 117, 98, 115, 99, 114, 105, 112, 116, 105, 111, 110, 32, 123, 10, 32, 32, 110, 97, 109, 101, 40, 110, 58, 32, 48, 41, 10, 125, 10]⟩ : ByteArray)
  have g3 := gtt f3
  refine ac_enter 52 Tryz.func25 rfl rfl rfl rfl ?_
  intro s w he
  repeat' (first
 | (apply s_valW (WV av5) rfl rfl
    · conv => lhs; whnf; arg 2; whnf
    · repeat' (first | exact VLe.refl _ | exact VLe.nil _ | exact VLe.lit _ _ | exact VLe.own _ _ _ | apply VLe.agg | apply VLeL.cons | exact VLeL.nil))
 | (apply s_valW (WA ag5) rfl rfl
    · conv => lhs; whnf; arg 2; whnf
    · repeat' (first | exact VLe.refl _ | exact VLe.nil _ | exact VLe.lit _ _ | exact VLe.own _ _ _ | apply VLe.agg | apply VLeL.cons | exact VLeL.nil))
 | (apply s_valW (WS se5) rfl rfl
    · conv => lhs; whnf; arg 2; whnf
    · repeat' (first | exact VLe.refl _ | exact VLe.nil _ | exact VLe.lit _ _ | exact VLe.own _ _ _ | apply VLe.agg | apply VLeL.cons | exact VLeL.nil))
 | (apply s_valW (WO op5) rfl rfl
    · conv => lhs; whnf; arg 2; whnf
    · repeat' (first | exact VLe.refl _ | exact VLe.nil _ | exact VLe.lit _ _ | exact VLe.own _ _ _ | apply VLe.agg | apply VLeL.cons | exact VLeL.nil))
 | (apply s_valW (WQ [op5]) rfl rfl
    · conv => lhs; whnf; arg 2; whnf
    · repeat' (first | exact VLe.refl _ | exact VLe.nil _ | exact VLe.lit _ _ | exact VLe.own _ _ _ | apply VLe.agg | apply VLeL.cons | exact VLeL.nil))
 | (apply s_lit [ag5] rfl rfl
    · conv => lhs; whnf
    · first | exact elemA9 | exact elemS9 | exact elemO9 | (conv => lhs; whnf; arg 1; whnf)
    · rfl
    · rfl
    · repeat' (first | exact trivial | apply And.intro | rfl))
 | (apply s_lit [se5] rfl rfl
    · conv => lhs; whnf
    · first | exact elemA9 | exact elemS9 | exact elemO9 | (conv => lhs; whnf; arg 1; whnf)
    · rfl
    · rfl
    · repeat' (first | exact trivial | apply And.intro | rfl))
 | (apply s_lit [op5] rfl rfl
    · conv => lhs; whnf
    · first | exact elemA9 | exact elemS9 | exact elemO9 | (conv => lhs; whnf; arg 1; whnf)
    · rfl
    · rfl
    · repeat' (first | exact trivial | apply And.intro | rfl))
 | refine aw_region ?_
 | refine awo_nil ?_
 | refine k_seq ?_
 | (apply aw_1
    conv => whnf
    refine ⟨?_, trivial⟩)
 | (apply s_pick_t rfl rfl
    · conv => lhs; whnf
    · conv => lhs; whnf
    · first | exact bT1 (by assumption) | exact bT2 (by assumption))
 | (apply s_pick_f rfl rfl
    · conv => lhs; whnf
    · conv => lhs; whnf
    · first | exact bF1 (by assumption) | exact bF2 (by assumption))
 | (apply s_1
    conv => whnf; arg 1; arg 4; arg 3; whnf
    refine ⟨?_, ?_⟩)
 | (apply s_call rfl
    · conv => lhs; whnf
    · conv => lhs; whnf
    · first | exact h1 | exact h2 | exact h3 | exact h4 | exact h5 | exact h6)
 | (apply s_store rfl rfl rfl
    · conv => lhs; whnf
    · conv => lhs; whnf; arg 1; whnf
    · conv => lhs; whnf; arg 1; whnf
    · exact ⟨by kernel_rfl, by kernel_rfl⟩
    · rfl)
 | (apply s_wanted_val rfl
    · conv => lhs; whnf
    · conv => lhs; whnf
    · first | rfl | assumption
    · conv => lhs; whnf; arg 2; whnf)
 | (apply s_wanted_call rfl
    · conv => lhs; whnf
    · conv => lhs; whnf
    · first | rfl | assumption
    · conv => lhs; whnf
    · first | exact h1 | exact h2 | exact h3 | exact h4 | exact h5 | exact h6)
 | refine k_end_ret ?_
 | (refine ⟨_, by conv => lhs; whnf; arg 2; whnf, ?_⟩; conv => rhs; whnf)
 | exact trivial)
  all_goals first
    | rfl
    | decide
end Go.Proofs.YthjiclhfhjdjpaaGreatDoor
namespace Go.Proofs.YthjiclhfhjdjpaaGreatDoor
open Go.RowKit
theorem fits_l {P : Program} {t e : TypeId} (hu : P.underlying t = some (.slice e)) {k : Nat} {d : D} (h : Fits P k t d) : ∃ j l, d = .list l ∧ ∀ i, i < l.length → Fits P j e (gD l i) := by
  cases k with
  | zero => exact h.elim
  | succ k => unfold Fits at h; rw [hu] at h; exact ⟨k, h⟩
theorem fits_o {P : Program} {t : TypeId} {fs : Array Field} (hu : P.underlying t = some (.struct fs)) {k : Nat} {d : D} (h : Fits P k t d) : ∃ j l, d = .obj l ∧ l.length = fs.size ∧ ∀ i f, fs[i]? = some f → Fits P j f.type (gD l i) := by
  cases k with
  | zero => exact h.elim
  | succ k => unfold Fits at h; rw [hu] at h; exact ⟨k, h⟩
theorem len2 {l : List D} (h : l.length = 2) : l = [gD l 0, gD l 1] := by
  match l, h with
  | [a, b], _ => rfl
end Go.Proofs.YthjiclhfhjdjpaaGreatDoor
namespace Go.Proofs.YthjiclhfhjdjpaaGreatDoor
open Go.RowKit
attribute [local irreducible] wpList Calls Code.wp
def sg0 (W : World) : Sg := ⟨fun b o => (W.cell? ⟨b, o, none⟩).isSome, fun _ => none, fun _ => none, fun _ => (undef, 0)⟩
theorem relL1 {P : Program} {s : Sg} {w : World} {v : V} {u : Value} (h : rel P s w v u) : relL P s w [v] (#[u] : Array Value).toList := by
  show relL P s w [v] [u]
  rw [relL]; exact ⟨h, by simp [relL]⟩
end Go.Proofs.YthjiclhfhjdjpaaGreatDoor
namespace Go.Proofs.YthjiclhfhjdjpaaGreatDoor
open Go.ChangeShapes Go.WideShapes Go.ChangeAt Go.RowKit
attribute [local irreducible] wpList Calls Code.wp
/-- types whose parts are among them, with numbers of 64 bits only -/
def closedB (P : Program) (S : List TypeId) : Bool := S.all fun t => match P.underlying t with
  | some .bool => true
  | some .string => true
  | some (.int q) => match q with | .i64 => true | _ => false
  | some (.slice e) => S.contains e && Nat.blt 0 (P.cellsOf e)
  | some (.struct fs) => fs.toList.all fun f => S.contains f.type
  | _ => false
theorem wideL_of : ∀ {l : List D}, (∀ i, i < l.length → wideD (gD l i)) → wideL l
  | [], _ => trivial
  | d :: r, h => ⟨h 0 (by simp), wideL_of fun i hi => by
    have := h (i + 1) (by simpa using hi)
    simpa [gD] using this⟩
set_option maxRecDepth 100000 in
theorem wide_of {P : Program} {w : World} {I : Nat → Prop} {S : List TypeId} (hS : closedB P S = true) : ∀ {k : Nat} {t : TypeId} {cs : List Value} {d : D}, S.contains t = true → Rep P w I k t cs d → Fits P k t d → wideD d
  | 0, _, _, _, _, h, _ => h.elim
  | k + 1, t, cs, d, ht, hr, hf => by
    have hc := List.all_eq_true.1 hS t (List.contains_iff_mem.1 ht)
    unfold Rep at hr
    unfold Fits at hf
    split at hr
    · rename_i hu
      rw [hu] at hf
      obtain ⟨b, rfl⟩ := hf
      trivial
    · rename_i q hu
      rw [hu] at hf hc
      obtain ⟨n, rfl⟩ := hf
      obtain ⟨-, hw⟩ := hr
      cases q <;> simp at hc
      have hw : (Lit.int IntKind.i64 n).wf = true := hw
      show i64D n
      rw [wf_int] at hw
      simp [IntKind.min, IntKind.max, IntKind.signed, IntKind.bits] at hw
      unfold i64D
      omega
    · rename_i hu
      rw [hu] at hf
      obtain ⟨s, rfl⟩ := hf
      trivial
    · rename_i e hu
      rw [hu] at hf hc
      obtain ⟨l, rfl, hfl⟩ := hf
      simp only [Bool.and_eq_true] at hc
      obtain ⟨A, c, -, -, -, -, hi⟩ := hr
      show wideL l
      refine wideL_of fun i hl => ?_
      obtain ⟨b, off, -, -, hel⟩ := hi (by show 0 < l.length; omega) (Nat.le_of_ble_eq_true hc.2)
      obtain ⟨ys, -, -, hy⟩ := hel i hl
      exact wide_of hS hc.1 hy (hfl i hl)
    · rename_i fs hu
      rw [hu] at hf hc
      obtain ⟨l, rfl, hl, hfl⟩ := hf
      show wideL l
      refine wideL_of fun i hi => ?_
      have hfi : fs[i]? = some (fs[i]'(by omega)) := Array.getElem?_eq_getElem (by omega)
      have hmem := List.all_eq_true.1 hc (fs[i]'(by omega)) (by simp)
      exact wide_of hS hmem (hr.2 i _ hfi) (hfl i _ hfi)
    · rename_i h1 h2 h3 h4 h5
      exfalso
      split at hc
      · exact h1 ‹_›
      · exact h3 ‹_›
      · exact h2 _ ‹_›
      · exact h4 _ ‹_›
      · exact h5 _ ‹_›
      · cases hc
set_option maxRecDepth 100000 in
def querySet : List TypeId := [41, 38, 39, 57, 116, 54, 88, 55, 76, 69, 86, 74, 150, 82, 84, 22, 9, 71, 32, 3, 4]
set_option maxRecDepth 100000 in
theorem query_closed : closedB Tryz.prog querySet = true := by kernel_rfl
set_option maxRecDepth 100000 in
theorem arg_in {H : Type} {enc : TypeId × Value → H} {W : World} {v : Value} {base : Nat} {dw : DataW H} {ps : List MemPlace} {t : TypeId} {fs : Array Field} (ht : Tryz.prog.underlying t = some (.struct fs)) (hv : Value.okWide Tryz.prog W .any base t v)
    (hd : DataW.Trod enc Tryz.prog W 0 (fun _ => true) true t v dw ps) :
    ∃ (k : Nat) (cs : Array Value) (d : D), v = .agg cs ∧ Rep Tryz.prog W (fun b => b < W.heap.size) k t cs.toList d ∧ Fits Tryz.prog k t d ∧ bulkD d ≤ Rows.uptoBulk dw := by
  obtain ⟨cs, rfl, _⟩ := okWide_struct ht hv
  obtain ⟨k, hk⟩ := hd
  obtain ⟨d, h1, h2, h3⟩ := rep_of_trod2 hk
  exact ⟨k, cs, d, rfl, by simpa [Value.cells] using h1, h2, h3⟩
theorem rep_len {P : Program} {w : World} {I : Nat → Prop} {k : Nat} {t : TypeId} {cs : List Value} {d : D} {fs : Array Field} (ht : P.underlying t = some (.struct fs)) (h : Rep P w I k t cs d) : cs.length = P.cellsOf t := by
  cases k with
  | zero => exact h.elim
  | succ k => unfold Rep at h; rw [ht] at h; exact h.1
set_option maxRecDepth 100000 in
theorem cells0 {W : World} {k : Nat} {t : TypeId} {cs : Array Value} {d : D} {fs : Array Field} (ht : Tryz.prog.underlying t = some (.struct fs)) (hl : layB Tryz.prog 12 t = true) (hr : Rep Tryz.prog W (fun b => b < W.heap.size) k t cs.toList d) : rel Tryz.prog (sg0 W) W (.agg (cellsV Tryz.prog 12 t d)) (.agg cs) := by
  rw [rel]
  exact ⟨cs, rfl, cells_rel (s := sg0 W) 12 k t cs.toList d (RepF.of_rep hr fun b o _ h => h) (rep_len ht hr) hl⟩
set_option maxRecDepth 100000 in
theorem calls_of_ac {f : FuncId} {args : List V} {W : World} {us : Array Value} (h : AC EN Tryz.prog f args (.c (.bool true))) (hr : relL Tryz.prog (sg0 W) W args us.toList) (he : EnvT W) : Calls Tryz.prog f us W fun e W' => e = .returned (.bool true) ∧ Below W.heap.size W W' := by
  refine (h (sg0 W) W us hr (fun b o h => h) he).mono ?_
  rintro e W' ⟨v, F', rfl, hfr, -, -, -, hv⟩
  rw [rel] at hv
  obtain ⟨rfl, -⟩ := hv
  exact ⟨rfl, hfr.below⟩
theorem upto_one {H : Type} {d : DataW H} {gs : List (DataW H)} (h : Rows.uptoSmall H (d :: gs) = true) : Rows.uptoBulk d ≤ 1048576 := by
  have h1 : Rows.uptoBulkAll (d :: gs) ≤ 1048576 := of_decide_eq_true h
  rw [Rows.uptoBulkAll] at h1
  omega
set_option maxRecDepth 100000 in
def laidL9 : List (String × DataW Unit) := [("math/bits.deBruijn32tab", Rows.laid_math_bits_deBruijn32tab), ("math/bits.deBruijn64tab", Rows.laid_math_bits_deBruijn64tab), ("internal/strconv.uint64pow10", Rows.laid_internal_strconv_uint64pow10)]
set_option maxRecDepth 100000 in
theorem env9_of_laid {W : World} (h : laidMetH Tryz.prog laidL9 W) : EnvT W := by
  have h' : laidMet Tryz.prog laidL9 W := h
  obtain ⟨ps, ⟨_, _, _, _, _, _, _, _, _, _, ⟨_, _, _, _, _, _, _, _, _, _, ⟨g3, t3, c3, f3, p3, q3, a3, b3, e3, d3, _⟩, _⟩, _⟩, _⟩ := h'
  exact tab_of_row gPow gPowT Tryz.underlying324 Tryz.underlying273 (by kernel_rfl) (by kernel_rfl) ⟨g3, t3, c3, f3, p3, a3, b3, e3, d3⟩
set_option maxRecDepth 100000 in
/-- a document that is handed in, as data -/
theorem que_in {H : Type} {enc : TypeId × Value → H} {W : World} {v : Value} {base : Nat} {dw : DataW H} {ps : List MemPlace} (hv : Value.okWide Tryz.prog W .any base 41 v) (hd : DataW.Trod enc Tryz.prog W 0 (fun _ => true) true 41 v dw ps) (hb : Rows.uptoBulk dw ≤ 1048576) :
    ∃ (k : Nat) (cs : Array Value) (a b : List D), v = .agg cs ∧ rel Tryz.prog (sg0 W) W (.agg [.sl 57 a, .sl 116 b]) (.agg cs) ∧ Fits Tryz.prog k 41 (.obj [.list a, .list b]) ∧ wideD (.obj [.list a, .list b]) ∧ bulkD (.obj [.list a, .list b]) ≤ 1048576 := by
  obtain ⟨k, cs, d, rfl, hr, hf, hbk⟩ := arg_in Tryz.underlying41 hv hd
  have hw := wide_of query_closed (by decide) hr hf
  obtain ⟨j, l, rfl, hl, hfs⟩ := fits_o Tryz.underlying41 hf
  have hl : l.length = 2 := hl
  obtain ⟨j0, l0, e0, -⟩ := fits_l Tryz.underlying38 (hfs 0 _ rfl)
  obtain ⟨j1, l1, e1, -⟩ := fits_l Tryz.underlying39 (hfs 1 _ rfl)
  have el : l = [.list l0, .list l1] := by rw [len2 hl, e0, e1]
  subst el
  exact ⟨k, cs, l0, l1, rfl, cells0 Tryz.underlying41 (by kernel_rfl) hr, hf, hw, by omega⟩
end Go.Proofs.YthjiclhfhjdjpaaGreatDoor
namespace Go.Proofs.YthjiclhfhjdjpaaGreatDoor
open Go.ChangeShapes Go.WideShapes Go.ChangeAt Go.RowKit
set_option linter.unusedSectionVars false
attribute [local irreducible] wpList Calls Code.wp AW AWo OpOk seqK blockK scopeK loopK endK AC absLex Yld Sub
attribute [local irreducible] ACB ACX absLexG YldG absLexH
def qD (a b : List D) : D := .obj [.list a, .list b]
set_option maxHeartbeats 8000000 in
set_option maxRecDepth 100000 in
theorem qD_bulk {a b : List D} (h : bulkD (qD a b) ≤ 1048576) : bulkL a ≤ 1048576 ∧ bulkL b ≤ 1048576 := by
  have : bulkD (qD a b) = bulkL a + bulkL b + 3 := by simp [qD, bulkD, bulkL]; omega
  omega
set_option maxHeartbeats 8000000 in
set_option maxRecDepth 100000 in
theorem expected_ac (a b : List D) (h : bulkD (qD a b) ≤ 1048576) : AC EN Tryz.prog 24 [.agg [.sl 57 a, .sl 116 b]] (.c (.bool (!largeV a b && queR (qD a b)))) := by
  obtain ⟨ha, hb⟩ := qD_bulk h
  have h1 := large_ac a b (by omega) (by omega)
  have h2 : AC EN Tryz.prog 32 [.agg [.sl 57 a, .sl 116 b]] (.c (.bool (queR (qD a b)))) := rightF_ac a b (by omega) (by omega)
  refine ac_enter 10 Tryz.func24 rfl rfl rfl rfl ?_
  intro s w he
  repeat' (first
 | refine aw_region ?_
 | refine awo_nil ?_
 | refine k_seq ?_
 | (apply aw_1
    conv => whnf
    refine ⟨?_, trivial⟩)
 | (apply s_pick_t rfl rfl
    · conv => lhs; whnf
    · conv => lhs; whnf
    · first | exact bT1 (by assumption) | exact bT2 (by assumption))
 | (apply s_pick_f rfl rfl
    · conv => lhs; whnf
    · conv => lhs; whnf
    · first | exact bF1 (by assumption) | exact bF2 (by assumption))
 | (apply s_1
    conv => whnf; arg 1; arg 4; arg 3; whnf
    refine ⟨?_, ?_⟩)
 | (apply s_call rfl
    · conv => lhs; whnf
    · conv => lhs; whnf
    · first | exact h1 | exact h2)
 | (apply s_box rfl rfl rfl rfl
    · conv => lhs; whnf; arg 1; whnf
    · rfl)
 | (apply s_wanted_call rfl
    · conv => lhs; whnf
    · conv => lhs; whnf
    · first | rfl | assumption
    · conv => lhs; whnf
    · first | exact h1 | exact h2)
 | (apply s_skipU rfl
    · conv => lhs; whnf
    · conv => lhs; whnf
    · first | rfl | assumption)
 | (apply s_guard_valU rfl
    · conv => lhs; whnf
    · conv => lhs; whnf
    · conv => lhs; whnf; arg 2; whnf)
 | refine k_end_ret ?_
 | (refine ⟨_, by conv => lhs; whnf; arg 2; whnf, ?_⟩; conv => rhs; whnf)
 | exact trivial
 | intro hg)
  all_goals (simp only [beq_true] at *; simp only [*, Bool.true_and, Bool.false_and])
noncomputable def HWl (a b : List D) (i : Nat) : Vst 38 := stS 38 [(1, .bx 1 0), (3, .c (.int .i64 (i : Int)))] [(1, .box 41 [.sl 57 a, .sl 116 b])]
set_option maxHeartbeats 8000000 in
set_option maxRecDepth 100000 in
theorem writes_ac (a b : List D) (hw : wideD (qD a b)) (h : bulkD (qD a b) ≤ 1048576) : AC EN Tryz.prog 6 [.agg [.sl 57 a, .sl 116 b]] (.c (.bool true)) := by
  have h1 := expected_ac a b h
  have h2 := example9_ac
  obtain ⟨ha, hb⟩ := qD_bulk h
  have hla := len_bulk a
  cases hx : (!largeV a b && queR (qD a b)) with
  | false =>
    rw [hx] at h1
    refine ac_enter 38 Tryz.func6 rfl rfl rfl rfl ?_
    intro s w he
    repeat' (first
 | refine aw_region ?_
 | refine awo_nil ?_
 | refine k_seq ?_
 | (apply aw_1
    conv => whnf
    refine ⟨?_, trivial⟩)
 | (apply s_1
    conv => whnf; arg 1; arg 4; arg 3; whnf
    refine ⟨?_, ?_⟩)
 | (apply s_call rfl
    · conv => lhs; whnf
    · conv => lhs; whnf
    · first | exact h1 | exact h2)
 | (apply s_box rfl rfl rfl rfl
    · conv => lhs; whnf; arg 1; whnf
    · rfl)
 | refine k_seq_ret ?_
 | refine k_end_ret ?_
 | (refine ⟨_, by conv => lhs; whnf; arg 2; whnf, ?_⟩; conv => rhs; whnf)
 | exact trivial)
    all_goals rfl
  | true =>
    rw [hx] at h1
    rw [Bool.and_eq_true] at hx
    have hok : DocOk 1048576 24 (.obj [.list a, .list b]) := docOk_of hx.2 hw h
    have h3 := printP_ac _ _ a b hok
    have h4 := printR_ac _ _ a b hok
    refine ac_enter 38 Tryz.func6 rfl rfl rfl rfl ?_
    intro s w he
    repeat' (first
 | refine aw_region ?_
 | refine awo_nil ?_
 | refine k_seq ?_
 | (apply aw_1
    conv => whnf
    refine ⟨?_, trivial⟩)
 | (apply s_1
    conv => whnf; arg 1; arg 4; arg 3; whnf
    refine ⟨?_, ?_⟩)
 | (apply s_call rfl
    · conv => lhs; whnf
    · conv => lhs; whnf
    · first | exact h1)
 | (apply s_box rfl rfl rfl rfl
    · conv => lhs; whnf; arg 1; whnf
    · rfl)
 | exact trivial)
    refine aw_loop (fun j st => ∃ i, i + j = a.length ∧ Sub (cx EN Tryz.prog s w he) st (HWl a b i)) a.length ⟨0, by omega, Sub.live ⟨rfl, rfl, trivial⟩ ⟨rfl, trivial⟩⟩ ?_
    rintro j st ⟨i, hij, hs2⟩
    refine aw_sub hs2 ?_
    clear hs2
    by_cases hi : i < a.length
    · have f0 : decide ((i : Int) < (a.length : Nat)) = true := decide_eq_true (by omega)
      obtain ⟨o1, o2, o3, o4⟩ := hok.op hi
      have hn3 := wD_f (gD a i) 3
      have hl3 := wD_list ((gD a i).f 3)
      have hbd := bulkD_wD (gD a i)
      have c1 := selsP_ac 1048576 24 ((gD a i).f 3).l o2 (fun q => (o3.f 3).l q) (by omega) (by decide)
      have c2 := selsR_ac 1048576 24 ((gD a i).f 3).l o2 (fun q => (o3.f 3).l q) (by omega) (by decide)
      have f1 := nself (bs (selsT 1048576 (24 + 1) 1 ((gD a i).f 3).l))
      repeat' (first
 | (apply aw_cond_kt
    · conv => lhs; whnf
    · assumption)
 | (apply aw_cond_kf
    · conv => lhs; whnf
    · assumption)
 | refine aw_region ?_
 | refine awo_nil ?_
 | refine k_seq ?_
 | refine k_block ?_
 | (apply aw_1
    conv => whnf
    refine ⟨?_, trivial⟩)
 | (apply s_1
    conv => whnf; arg 1; arg 4; arg 3; whnf
    refine ⟨?_, ?_⟩)
 | (apply aw_draw (by kernel_rfl) (by kernel_rfl))
 | apply y_nil
 | (apply y_val rfl
    · conv => lhs; whnf
    · conv => lhs; whnf; arg 2; whnf)
 | (apply y_call rfl
    · conv => lhs; whnf
    · conv => lhs; whnf
    · first | exact c1 | exact c2)
 | exact apartB_none
 | exact apartB_nil
 | exact (1000000 : Nat)
 | exact trivial)
      all_goals first
        | exact i64_ok (by omega)
        | exact at_in hi
        | exact k_loop_next (j' := j - 1) (by omega) ⟨i + 1, by omega, Sub.live ⟨rfl, rfl, trivial⟩ ⟨rfl, trivial⟩⟩
    · have f0 : decide ((i : Int) < (a.length : Nat)) = false := decide_eq_false (by omega)
      have f2 := self9 (bs (docT 1048576 (24 + 1) (.obj [.list a, .list b])))
      have g2 := gtt f2
      repeat' (first
 | (apply aw_cond_kf
    · conv => lhs; whnf
    · assumption)
 | refine aw_region ?_
 | refine awo_nil ?_
 | refine k_seq ?_
 | (apply aw_1
    conv => whnf
    refine ⟨?_, trivial⟩)
 | (apply s_1
    conv => whnf; arg 1; arg 4; arg 3; whnf
    refine ⟨?_, ?_⟩)
 | (apply aw_draw (by kernel_rfl) (by kernel_rfl))
 | apply y_nil
 | (apply y_pick_t rfl rfl
    · conv => lhs; whnf
    · conv => lhs; whnf
    · first | exact bT1 (by assumption) | exact bT2 (by assumption))
 | (apply y_val rfl
    · conv => lhs; whnf
    · conv => lhs; whnf; arg 2; whnf)
 | (apply y_call rfl
    · conv => lhs; whnf
    · conv => lhs; whnf
    · first | exact h2 | exact h3 | exact h4)
 | (apply y_wanted_call rfl
    · conv => lhs; whnf
    · conv => lhs; whnf
    · first | rfl | assumption
    · conv => lhs; whnf
    · first | exact h2 | exact h3 | exact h4)
 | exact apartB_none
 | exact apartB_nil
 | exact (1000000 : Nat)
 | refine k_seq_exit ?_
 | refine k_block_hit rfl ?_
 | refine k_loop_exit ?_
 | refine k_end_ret ?_
 | (refine ⟨_, by conv => lhs; whnf; arg 2; whnf, ?_⟩; conv => rhs; whnf)
 | exact trivial)
      all_goals rfl
set_option maxRecDepth 100000 in
set_option maxHeartbeats 8000000 in
theorem rowWrites {H : Type} {enc : TypeId × Value → H} {W : World} {v : Value} {base : Nat} {dw : DataW H} {ps : List MemPlace} (hv : Value.okWide Tryz.prog W .any base 41 v) (hd : DataW.Trod enc Tryz.prog W 0 (fun _ => true) true 41 v dw ps) (hb : Rows.uptoBulk dw ≤ 1048576) (he : EnvT W) :
    Calls Tryz.prog 6 #[v] W fun e W' => e = .returned (.bool true) ∧ Below W.heap.size W W' := by
  obtain ⟨k, cs, a, b, rfl, hr, hf, hw, hbk⟩ := que_in hv hd hb
  exact calls_of_ac (writes_ac a b hw hbk) (relL1 hr) he
end Go.Proofs.YthjiclhfhjdjpaaGreatDoor
namespace Go.Proofs.YthjiclhfhjdjpaaGreatDoor
open Go.ChangeShapes Go.WideShapes Go.ChangeAt Go.RowKit
attribute [local irreducible] wpList Calls Code.wp
set_option maxRecDepth 100000 in
theorem contractQueryprintWrites (H : Type) (enc : TypeId × Value → H) (W : World) (base : Nat) (args : Array Value) (ds gs : List (DataW H)) (before : List MemPlace)
    (hval : ∀ (j : Nat) t v, Tryz.f6.params[j]? = some t → args[j]? = some v → Value.okWide Tryz.prog W .any base t v)
    (hW : DataW.Whole enc Tryz.prog Tryz.f6.params.toList Rows.queryprintWritesSpec.vars false W args.toList ds gs before) (hL : laidMetH Tryz.prog Rows.queryprintWritesUptoRow.laid W)
    (hcond : ∀ k, (Rows.OpenSpec.upto Rows.queryprintWritesSpec).cond = some k → k H (ds ++ gs) = true)
    (hR : (DataW.weightsEach Tryz.prog (Tryz.f6.params.toList ++ (Rows.OpenSpec.upto Rows.queryprintWritesSpec).bare.plain.varTypes Tryz.prog) (ds ++ gs)).all (· ≤ reachBytes) = true) :
    Calls Tryz.prog 6 args W fun e W' => ∃ v, e = .returned v ∧ Rows.queryprintWritesSpec.post enc Tryz.prog Tryz.f6 false true false false W args v W' := by
  have hW' := hW
  obtain ⟨p, q, hA0, hV, rfl, hfz, hnd⟩ := hW
  have hA : DataW.TrodAll enc Tryz.prog W 0 (fun _ => true) true Tryz.f6.params.toList args.toList ds p := hA0
  rw [Tryz.params6] at hA hval hR
  obtain ⟨v0, vs0, d0, ds0, p0, q0, hargs, rfl, rfl, h0, r0⟩ := trodAll_cons hA
  obtain ⟨rfl, rfl, rfl⟩ := trodAll_nil r0
  obtain rfl : args = #[v0] := by cases args; simp_all
  refine (rowWrites (hval 0 41 v0 rfl rfl) h0 (upto_one (hcond _ rfl)) (env9_of_laid hL)).mono fun e W' ⟨he, hbel⟩ => ?_
  subst he
  exact ⟨_, rfl, post_true laidOut' (types_ok _ (by kernel_rfl)) Tryz.underlying4 rfl rfl hW' hbel (fun gs h => by subst h; rfl)⟩
theorem laid_metQueryprintWrites (os : Os) : laidMet Tryz.prog Rows.queryprintWritesUptoRow.laid ((laidWorld os).forCall (fun _ _ => 0) ⟨#[], #[.agg #[.slice none 0 0, .slice none 0 0]], []⟩).memory :=
  laidMet_of_run' 8 (by kernel_rfl) (by kernel_rfl)
theorem readsQueryprintWrites (os : Os) {H : Type} (enc : TypeId × Value → H) : ∃ places, DataW.whole enc Tryz.prog ((laidWorld os).forCall (fun _ _ => 0) ⟨#[], #[.agg #[.slice none 0 0, .slice none 0 0]], []⟩).memory Tryz.f6.params.toList Rows.queryprintWritesSpec.vars false (#[.agg #[.slice none 0 0, .slice none 0 0]] : Array Value).toList 8 = some ([.agg [.nil, .nil]], [], places) :=
  ⟨[], by kernel_rfl⟩
set_option maxRecDepth 100000 in
theorem liftedQueryprintWrites (os : Os) (started : os.Started) (H : Type) (enc : TypeId × Value → H) (F : Stop.Interp) :
    ReturnsInHanded {} Tryz.checked os 6 .any ((Rows.OpenSpec.upto Rows.queryprintWritesSpec).preRow enc Tryz.prog Tryz.f6 Rows.queryprintWritesUptoRow.domain false Rows.queryprintWritesUptoRow.laid) (((Rows.OpenSpec.upto Rows.queryprintWritesSpec).at F).post enc Tryz.prog Tryz.f6 false true false false) := by
  obtain ⟨places, hx⟩ := readsQueryprintWrites os enc
  refine returnsInHanded_of_row (C := Tryz.checked) (s := Rows.OpenSpec.upto Rows.queryprintWritesSpec) own started (by kernel_rfl) Tryz.func6
    (witness_row_at (enc := enc) (C := Tryz.checked) false (laidWorld os) #[.agg #[.slice none 0 0, .slice none 0 0]] rfl (by kernel_rfl) (by kernel_rfl) (by kernel_rfl)
      (OpenSpec.preRow_of_cond 8 hx (by kernel_rfl) (fun k hk => by cases hk; kernel_rfl) (by kernel_rfl) (laid_metQueryprintWrites os))) ?_
  intro W base args ds gs before hval hW _ hcond hR hL _ _
  exact contractQueryprintWrites H enc W base args ds gs before hval hW hL hcond hR
theorem and_tQueryprintWrites {a b : Bool} (h1 : a = true) (h2 : b = true) : (a && b) = true := by rw [h1, h2]; rfl
set_option maxRecDepth 100000 in
set_option maxHeartbeats 20000000 in
theorem joinedQueryprintWrites : joinedFacts Tryz.prog 6 Tryz.f6 (Rows.OpenSpec.upto Rows.queryprintWritesSpec).bare Rows.queryprintWritesUptoRow = true := by
  unfold joinedFacts
  repeat' (with_reducible apply and_tQueryprintWrites)
  all_goals as_aux_lemma => kernel_rfl
theorem saidQueryprintWrites : Rows.QueryprintWritesUptoSaid :=
  OpenClaim.holds_of_cond 6 Tryz.f6 rfl rfl rfl rfl rfl rfl rfl ⟨rfl, rfl, rfl, rfl, rfl⟩ rfl rfl rfl rfl rfl (by kernel_rfl) Tryz.func6 joinedQueryprintWrites
    (of_decide_eq_true (by kernel_rfl)) (by unfold Func.isWrapper; first | (rw [if_pos (by decide +kernel)]; kernel_rfl) | (rw [if_neg (by decide +kernel)]; exact ⟨rfl, rfl⟩))
    (fun os started H enc _ F => by rw [OpenClaim.pre_eq_preRow]; exact liftedQueryprintWrites os started H enc F)
theorem plainQueryprintWrites (f : FuncId) (fn : Func) (hf : Tryz.pinned.checked.prog.funcNamed "supergraph/supergraphlaw09.QueryprintWrites" = some f) (hfn : Tryz.pinned.checked.prog.funcs[f]? = some fn) :
    true = Tryz.pinned.checked.prog.looks [] ∧ ∀ (j : Nat) t, fn.params[j]? = some t → Tryz.pinned.checked.prog.wantsStandIn t = false := by
  obtain rfl : f = 6 := Option.some.inj ((show Tryz.prog.funcNamed "supergraph/supergraphlaw09.QueryprintWrites" = some 6 by kernel_rfl).symm.trans hf) |>.symm
  obtain rfl : fn = Tryz.f6 := (Option.some.inj (Tryz.func6.symm.trans hfn)).symm
  refine ⟨by kernel_rfl, fun j t ht => ?_⟩
  rw [Tryz.params6] at ht
  have hm := Array.mem_of_getElem? ht
  simp only [List.mem_toArray, List.mem_cons, List.not_mem_nil, or_false] at hm
  rcases hm with rfl
  · exact (show Tryz.prog.wantsStandIn 41 = false by kernel_rfl)
end Go.Proofs.YthjiclhfhjdjpaaGreatDoor
