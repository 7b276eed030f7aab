/- Parts of a proof, merged by a program (shake.py). -/
import Derived.Test.YtjhjleanihgopaaDoorQ28
set_option linter.unusedVariables false
set_option linter.unusedSimpArgs false
namespace Go.Proofs.YtjhjleanihgopaaDoor
structure Mv (S : List UInt8) (x y : JS) : Prop where
  lo : x.p ≤ y.p
  hi : y.p ≤ S.length
  m : y.m = x.m
  e : y.e = 0 → x.e = 0
variable {S : List UInt8} {x y z : JS}
theorem Mv.trans (h : Mv S x y) (k : Mv S y z) : Mv S x z := ⟨Nat.le_trans h.lo k.lo, k.hi, k.m.trans h.m, fun e => h.e (k.e e)⟩
theorem Mv.refl (h : x.p ≤ S.length) : Mv S x x := ⟨Nat.le_refl _, h, rfl, fun e => e⟩
theorem spc_le' (r : List UInt8) : (spc r).length ≤ r.length := (spc_suffix r).length_le
theorem mv_space (h : x.p ≤ S.length) : Mv S x (spaceS S x) := by
  have := spc_le' (S.drop x.p)
  rw [List.length_drop] at this
  exact ⟨by show x.p ≤ S.length - _; omega, Nat.sub_le _ _, rfl, fun e => e⟩
theorem mv_fail (h : x.p ≤ S.length) (q : Nat) {c : Int} (hc : c ≠ 0) : Mv S x (failS x q c) := by
  unfold failS
  split
  · exact ⟨Nat.le_refl _, h, rfl, fun e => absurd e hc⟩
  · exact Mv.refl h
theorem mv_go (h : x.p < S.length) : Mv S x (goS x) := ⟨Nat.le_succ _, h, rfl, fun e => e⟩
theorem mv_take (h : x.p ≤ S.length) (q : List UInt8) : Mv S x (takeS S q x).2 := by
  unfold takeS
  split
  · rename_i hh; exact mv_go hh.2.1
  · exact mv_fail h _ (by decide)
/-- who goes on without an error has read something -/
theorem take_go (q : List UInt8) (h : (takeS S q x).2.e = 0) : x.p < (takeS S q x).2.p := by
  unfold takeS at h ⊢
  split
  · exact Nat.lt_succ_self _
  · rename_i hh
    rw [if_neg hh] at h
    unfold failS at h
    split at h
    · exact absurd h (show ¬ (3 : Int) = 0 by decide)
    · contradiction
theorem mv_word : ∀ (w : List UInt8) {x : JS}, x.p ≤ S.length → Mv S x (wordS S w x)
  | [], _, h => Mv.refl h
  | c :: w, x, h => by
    have h1 := mv_take (S := S) h [c]
    exact h1.trans (mv_word w h1.hi)
theorem mv_digs (h : x.p ≤ S.length) : Mv S x (digsS S x) := by
  unfold digsS
  split
  · have := (List.dropWhile_suffix (l := S.drop x.p) (p := digU)).length_le
    rw [List.length_drop] at this
    exact ⟨by show x.p ≤ S.length - _; omega, Nat.sub_le _ _, rfl, fun e => e⟩
  · exact Mv.refl h
theorem at_lt {b : UInt8} (hb : b ≠ 0) (h : atS S x = b) : x.p < S.length := by
  unfold atS at h
  rw [List.getD_eq_getElem?_getD] at h
  cases hx : S[x.p]? with
  | none => rw [hx] at h; exact (hb h.symm).elim
  | some v => exact (List.getElem?_eq_some_iff.1 hx).1
theorem mv_num1 (h : x.p ≤ S.length) : Mv S x (if atS S x = 45 then goS x else x) := by
  split
  · rename_i hh; exact mv_go (at_lt (by decide) hh)
  · exact Mv.refl h
theorem numE_ne (r : Lib.NumEnd Int) : (numE r).2 = 0 ∨ (numE r).2 = 4 ∨ (numE r).2 = 3 := by
  cases r
  · exact .inl rfl
  · exact .inr (.inr rfl)
  · exact .inr (.inl rfl)
theorem mv_number (h : x.p ≤ S.length) : Mv S x (numberS S x).2 := by
  have h1 := mv_num1 h
  have h2 := mv_take h1.hi (if atS S x = 45 then d9 else d10)
  unfold numberS
  dsimp only
  generalize takeS S (if atS S x = 45 then d9 else d10) (if atS S x = 45 then goS x else x) = t at h2
  have h3 := mv_digs h2.hi
  generalize hy : (if t.1 = 48 then t.2 else digsS S t.2) = y
  have h4 : Mv S x y := by
    rw [← hy]
    split
    · exact h1.trans h2
    · exact (h1.trans h2).trans h3
  split
  · exact h4
  · dsimp only
    split
    · rename_i hv; exact h4.trans (mv_fail h4.hi _ hv)
    · exact h4
theorem mv_esc (h : x.p ≤ S.length) : Mv S x (escS S x) := by
  have h1 := mv_take h dEsc
  unfold escS
  dsimp only
  split
  · have h2 := mv_take h1.hi [48]
    have h3 := mv_take h2.hi [48]
    have h4 := mv_take h3.hi dHex
    exact (((h1.trans h2).trans h3).trans h4).trans (mv_take h4.hi dHex)
  · exact h1
theorem mv_body (a : Nat) : ∀ (n : Nat) {x : JS}, x.p ≤ S.length → Mv S x (bodyS S a n x).2
  | 0, _, h => Mv.refl h
  | n + 1, x, h => by
    unfold bodyS
    split
    · exact Mv.refl h
    split
    · have h1 := mv_fail h x.p (c := 3) (by decide)
      exact h1.trans (mv_body a n h1.hi)
    · rename_i hh
      have hg := mv_go (S := S) (x := x) (by omega)
      split
      · exact hg
      split
      · have h2 := mv_esc hg.hi
        exact (hg.trans h2).trans (mv_body a n h2.hi)
      · exact hg.trans (mv_body a n hg.hi)
theorem mv_str (h : x.p ≤ S.length) : Mv S x (strS S x).2 := by
  have h1 := mv_take h [34]
  exact h1.trans (mv_body _ _ h1.hi)
theorem mv_twice (h : x.p ≤ S.length) (ks : List (List UInt8)) (u : List UInt8) (q : Nat) : Mv S x (twiceS ks u q x) := by
  unfold twiceS
  split
  · exact mv_fail h _ (by decide)
  · exact Mv.refl h
structure Mc (S : List UInt8) (x y : JS) : Prop where
  lo : x.p ≤ y.p
  hi : y.p ≤ S.length
  m : y.m ≤ 4097
  e : y.e = 0 → x.e = 0 ∧ y.m ≤ 4096
theorem Mv.mc (h : Mv S x y) (hm : x.m ≤ 4096) : Mc S x y := ⟨h.lo, h.hi, by rw [h.m]; omega, fun e => ⟨h.e e, by rw [h.m]; exact hm⟩⟩
theorem Mc.mv (h : Mc S x y) (k : Mv S y z) : Mc S x z := ⟨Nat.le_trans h.lo k.lo, k.hi, by rw [k.m]; exact h.m, fun e => ⟨(h.e (k.e e)).1, by rw [k.m]; exact (h.e (k.e e)).2⟩⟩
theorem Mv.then (h : Mv S x y) (k : Mc S y z) : Mc S x z := ⟨Nat.le_trans h.lo k.lo, k.hi, k.m, fun e => ⟨h.e (k.e e).1, (k.e e).2⟩⟩
theorem Mc.then (h : Mc S x y) (k : Mc S y z) : Mc S x z := ⟨Nat.le_trans h.lo k.lo, k.hi, k.m, fun e => ⟨(h.e (k.e e).1).1, (k.e e).2⟩⟩
/-- a state that has been counted -/
structure Oc (S : List UInt8) (x : JS) : Prop where
  hi : x.p ≤ S.length
  m : x.m ≤ 4097
  e : x.e = 0 → x.m ≤ 4096
theorem Oc.refl (h : Oc S x) : Mc S x x := ⟨Nat.le_refl _, h.hi, h.m, fun e => ⟨e, h.e e⟩⟩
theorem Mc.oc (h : Mc S x y) : Oc S y := ⟨h.hi, h.m, fun e => (h.e e).2⟩
theorem Oc.mv (h : Oc S x) (k : Mv S x y) : Oc S y := ⟨k.hi, by rw [k.m]; exact h.m, fun e => by rw [k.m]; exact h.e (k.e e)⟩
def FOk (S : List UInt8) (f : JS → D × JS) : Prop := ∀ x : JS, x.p ≤ S.length → x.m ≤ 4096 → Mc S x (f x).2
variable {f : JS → D × JS}
theorem mc_items (hf : FOk S f) : ∀ (j : Nat) {x : JS} (l : List D), Oc S x → Mc S x (itemsS S f j x l).2
  | 0, _, _, h => h.refl
  | j + 1, x, l, h => by
    unfold itemsS
    split
    · exact h.refl
    · rename_i he
      have he : x.e = 0 := by simpa using he
      have h1 := hf x h.hi (h.e he)
      have h2 := h1.mv (mv_space h1.hi)
      have h3 := h2.mv (mv_take h2.hi [44, 93])
      dsimp only
      split
      · exact h3
      · exact h3.then (mc_items hf j _ h3.oc)
theorem mc_fields (hf : FOk S f) : ∀ (j : Nat) {x : JS} (ks : List (List UInt8)) (l : List D), Oc S x → Mc S x (fieldsS S f j x ks l).2.2
  | 0, _, _, _, h => h.refl
  | j + 1, x, ks, l, h => by
    unfold fieldsS
    split
    · exact h.refl
    · rename_i he
      have he : x.e = 0 := by simpa using he
      have g1 := mv_space h.hi
      have g2 := g1.trans (mv_str g1.hi)
      have g3 := g2.trans (mv_twice g2.hi ks (strS S (spaceS S x)).1 (spaceS S x).p)
      have g4 := g3.trans (mv_space g3.hi)
      have g5 := g4.trans (mv_take g4.hi [58])
      have h1 := g5.then (hf _ g5.hi (by rw [g5.m]; exact h.e he))
      have h2 := h1.mv (mv_space h1.hi)
      have h3 := h2.mv (mv_take h2.hi [44, 125])
      dsimp only
      split
      · exact h3
      · exact h3.then (mc_fields hf j _ _ h3.oc)
theorem mc_list (hf : FOk S f) (h : x.p < S.length) (hm : x.m ≤ 4096) : Mc S x (listS S f x).2 := by
  have h1 := mv_go h
  have h2 := h1.trans (mv_space h1.hi)
  unfold listS
  dsimp only
  split
  · rename_i hh
    exact (h2.trans (mv_go (at_lt (by decide) hh))).mc hm
  · exact h2.then (mc_items hf _ _ (h2.mc hm).oc)
theorem mc_obj (hf : FOk S f) (h : x.p < S.length) (hm : x.m ≤ 4096) : Mc S x (objS S f x).2 := by
  have h1 := mv_go h
  have h2 := h1.trans (mv_space h1.hi)
  unfold objS
  dsimp only
  split
  · rename_i hh
    exact (h2.trans (mv_go (at_lt (by decide) hh))).mc hm
  · exact h2.then (mc_fields hf _ _ _ (h2.mc hm).oc)
theorem mc_head (deep : Bool) (h : x.p ≤ S.length) (hm : x.m ≤ 4096) : Mc S x (headS S deep x) := by
  have h0 := mv_space h
  unfold headS
  dsimp only
  generalize hx1 : (if (spaceS S x).p = S.length ∨ dBeg.contains (atS S (spaceS S x)) = false then failS (spaceS S x) (spaceS S x).p 3 else spaceS S x) = x1
  have h1 : Mv S x x1 := by
    rw [← hx1]
    split
    · exact h0.trans (mv_fail h0.hi _ (by decide))
    · exact h0
  generalize hx2 : (if deep = true then failS x1 x1.p 5 else x1) = x2
  have h2 : Mv S x x2 := by
    rw [← hx2]
    split
    · exact h1.trans (mv_fail h1.hi _ (by decide))
    · exact h1
  have hm2 := h2.m
  split
  · unfold failS
    split
    · exact ⟨h2.lo, h2.hi, by show x2.m + 1 ≤ 4097; omega, fun e => absurd e (show ¬ (4 : Int) = 0 by decide)⟩
    · rename_i hne; exact ⟨h2.lo, h2.hi, by show x2.m + 1 ≤ 4097; omega, fun e => absurd e hne⟩
  · exact ⟨h2.lo, h2.hi, by show x2.m + 1 ≤ 4097; omega, fun e => ⟨h2.e e, by show x2.m + 1 ≤ 4096; omega⟩⟩
theorem mc_step (hf : FOk S f) (deep : Bool) : FOk S (stepS S f deep) := fun x hp hm => by
  have h := mc_head deep hp hm
  unfold stepS
  dsimp only
  generalize headS S deep x = y at h
  split
  · exact h
  rename_i he
  have he : y.e = 0 := by simpa using he
  have hm1 := (h.e he).2
  split
  · exact h.mv (mv_word _ h.hi)
  split
  · exact h.mv (mv_word _ h.hi)
  split
  · exact h.mv (mv_word _ h.hi)
  split
  · exact h.mv (mv_str h.hi)
  split
  · rename_i hh; exact h.then (mc_list hf (at_lt (by decide) hh) hm1)
  split
  · rename_i hh; exact h.then (mc_obj hf (at_lt (by decide) hh) hm1)
  · exact h.mv (mv_number h.hi)
theorem value_ok : ∀ k : Nat, FOk S (valueS S k)
  | 0 => mc_step (fun x hp hm => (Mv.refl hp).mc hm) true
  | k + 1 => mc_step (value_ok k) false
end Go.Proofs.YtjhjleanihgopaaDoor
namespace Go.Proofs.YtjhjleanihgopaaDoor
/-- the bytes of the string at a key -/
def keyU (d : D) (i : Nat) : List UInt8 := (gD (d.f 4).l i).s.data.toList
def sepU (d : D) (i : Nat) : List UInt8 := (if 0 < i then [44] else []) ++ (if (d.f 0).n = 6 then quoteU (keyU d i) ++ [58] else [])
/-- has it a text -/
def okJ : Nat → D → Bool
  | 0, _ => false
  | k + 1, d => decide (0 ≤ (d.f 0).n ∧ (d.f 0).n ≤ 6 ∧ ((d.f 0).n = 6 → (d.f 4).l.length = (d.f 3).l.length)) && (decide ((d.f 0).n ≤ 4) || (List.range (d.f 3).l.length).all fun i => okJ k (gD (d.f 3).l i))
def catU (g : Nat → List UInt8) (n : Nat) : List UInt8 := (List.range n).flatMap g
theorem catU_succ (g : Nat → List UInt8) (n : Nat) : catU g (n + 1) = catU g n ++ g n := by
  unfold catU; rw [List.range_succ, List.flatMap_append]; simp
def leafU (d : D) : List UInt8 :=
  if (d.f 0).n = 0 then [110, 117, 108, 108]
  else if (d.f 0).n = 1 then (if (d.f 1).n = 0 then [102, 97, 108, 115, 101] else [116, 114, 117, 101])
  else if (d.f 0).n = 2 then Lib.itoa (d.f 1).n
  else quoteU (d.f 2).s.data.toList
/-- the text -/
def wrJ : Nat → D → List UInt8
  | 0, _ => []
  | k + 1, d =>
    if (d.f 0).n ≤ 4 then leafU d
    else (if (d.f 0).n = 6 then [123] else [91]) ++ catU (fun i => sepU d i ++ wrJ k (gD (d.f 3).l i)) (d.f 3).l.length ++ (if (d.f 0).n = 6 then [125] else [93])
/-- what the program has written behind i elements, and whether it goes on -/
def seqP (h : Nat → List UInt8) (f : Nat → Bool × List UInt8) : Nat → Bool × List UInt8
  | 0 => (true, [])
  | i + 1 => if (seqP h f i).1 = true then ((f i).1, (seqP h f i).2 ++ h i ++ (f i).2) else seqP h f i
theorem seqP_go {h : Nat → List UInt8} {f : Nat → Bool × List UInt8} {i : Nat} (e : (seqP h f i).1 = true) : seqP h f (i + 1) = ((f i).1, (seqP h f i).2 ++ h i ++ (f i).2) := by
  rw [seqP, if_pos e]
theorem seqP_stop {h : Nat → List UInt8} {f : Nat → Bool × List UInt8} {i : Nat} (e : (seqP h f i).1 = false) : ∀ j, seqP h f (i + j) = seqP h f i
  | 0 => rfl
  | j + 1 => by
    show seqP h f (i + j + 1) = _
    rw [seqP, seqP_stop e j, if_neg (by rw [e]; decide)]
theorem seqP_all {h : Nat → List UInt8} {f : Nat → Bool × List UInt8} : ∀ n, ((seqP h f n).1 = (List.range n).all fun i => (f i).1) ∧ (((List.range n).all fun i => (f i).1) = true → (seqP h f n).2 = catU (fun i => h i ++ (f i).2) n)
  | 0 => ⟨rfl, fun _ => rfl⟩
  | n + 1 => by
    obtain ⟨h1, h2⟩ := seqP_all (h := h) (f := f) n
    rw [List.range_succ, List.all_append]
    by_cases e : (seqP h f n).1 = true
    · rw [seqP_go e]
      rw [e] at h1
      refine ⟨by simp [← h1], fun _ => ?_⟩
      rw [h2 h1.symm, catU_succ, List.append_assoc]
    · have e2 : (seqP h f n).1 = false := by simpa using e
      rw [seqP, if_neg e]
      rw [e2] at h1
      exact ⟨by rw [e2, ← h1]; rfl, fun hh => by rw [← h1] at hh; cases hh⟩
/-- what the program writes -/
def prP : Nat → D → Bool × List UInt8
  | 0, _ => (false, [])
  | k + 1, d =>
    if (d.f 0).n < 0 ∨ 6 < (d.f 0).n then (false, [])
    else if (d.f 0).n ≤ 4 then (true, leafU d)
    else if (d.f 0).n = 6 ∧ (d.f 4).l.length ≠ (d.f 3).l.length then (false, [])
    else
      let y := seqP (sepU d) (fun i => prP k (gD (d.f 3).l i)) (d.f 3).l.length
      if y.1 = true then (true, (if (d.f 0).n = 6 then [123] else [91]) ++ y.2 ++ (if (d.f 0).n = 6 then [125] else [93])) else (false, (if (d.f 0).n = 6 then [123] else [91]) ++ y.2)
theorem all_congr {n : Nat} {p q : Nat → Bool} (h : ∀ i, i < n → p i = q i) : (List.range n).all p = (List.range n).all q := by
  induction n with
  | zero => rfl
  | succ n ih => rw [List.range_succ, List.all_append, List.all_append, ih fun i hi => h i (by omega)]; simp [h n (Nat.lt_succ_self n)]
theorem catU_congr {n : Nat} {g g' : Nat → List UInt8} (h : ∀ i, i < n → g i = g' i) : catU g n = catU g' n := by
  induction n with
  | zero => rfl
  | succ n ih => rw [catU_succ, catU_succ, ih fun i hi => h i (by omega), h n (Nat.lt_succ_self n)]
theorem prP_ok : ∀ (k : Nat) (d : D), (prP k d).1 = okJ k d ∧ (okJ k d = true → (prP k d).2 = wrJ k d)
  | 0, _ => ⟨rfl, fun h => by cases h⟩
  | k + 1, d => by
    unfold prP okJ wrJ
    by_cases h0 : (d.f 0).n < 0 ∨ 6 < (d.f 0).n
    · rw [if_pos h0]
      have e : decide (0 ≤ (d.f 0).n ∧ (d.f 0).n ≤ 6 ∧ ((d.f 0).n = 6 → (d.f 4).l.length = (d.f 3).l.length)) = false := decide_eq_false fun h => by omega
      rw [e]
      exact ⟨rfl, fun h => by cases h⟩
    rw [if_neg h0]
    by_cases h4 : (d.f 0).n ≤ 4
    · rw [if_pos h4, if_pos h4]
      have e : decide (0 ≤ (d.f 0).n ∧ (d.f 0).n ≤ 6 ∧ ((d.f 0).n = 6 → (d.f 4).l.length = (d.f 3).l.length)) = true := decide_eq_true ⟨by omega, by omega, fun h => by omega⟩
      rw [e, decide_eq_true h4]
      exact ⟨rfl, fun _ => rfl⟩
    rw [if_neg h4, if_neg h4]
    by_cases h6 : (d.f 0).n = 6 ∧ (d.f 4).l.length ≠ (d.f 3).l.length
    · rw [if_pos h6]
      have e : decide (0 ≤ (d.f 0).n ∧ (d.f 0).n ≤ 6 ∧ ((d.f 0).n = 6 → (d.f 4).l.length = (d.f 3).l.length)) = false := decide_eq_false fun h => h6.2 (h.2.2 h6.1)
      rw [e]
      exact ⟨rfl, fun h => by cases h⟩
    rw [if_neg h6]
    have e : decide (0 ≤ (d.f 0).n ∧ (d.f 0).n ≤ 6 ∧ ((d.f 0).n = 6 → (d.f 4).l.length = (d.f 3).l.length)) = true := decide_eq_true ⟨by omega, by omega, fun h => by
      by_cases hh : (d.f 4).l.length = (d.f 3).l.length
      · exact hh
      · exact (h6 ⟨h, hh⟩).elim⟩
    rw [e, decide_eq_false h4, Bool.true_and, Bool.false_or]
    obtain ⟨h1, h2⟩ := seqP_all (h := sepU d) (f := fun i => prP k (gD (d.f 3).l i)) (d.f 3).l.length
    have e2 : ((List.range (d.f 3).l.length).all fun i => (prP k (gD (d.f 3).l i)).1) = (List.range (d.f 3).l.length).all fun i => okJ k (gD (d.f 3).l i) := all_congr fun i _ => (prP_ok k _).1
    dsimp only at h1 h2 ⊢
    rw [e2] at h1 h2
    rw [h1]
    by_cases ha : ((List.range (d.f 3).l.length).all fun i => okJ k (gD (d.f 3).l i)) = true
    · rw [if_pos ha]
      refine ⟨ha.symm, fun _ => ?_⟩
      rw [h2 ha]
      have e3 : catU (fun i => sepU d i ++ (prP k (gD (d.f 3).l i)).2) (d.f 3).l.length = catU (fun i => sepU d i ++ wrJ k (gD (d.f 3).l i)) (d.f 3).l.length := catU_congr fun i hi => by
        rw [(prP_ok k _).2 (by rw [List.all_eq_true] at ha; exact ha i (List.mem_range.2 hi))]
      rw [e3]
    · rw [if_neg ha]
      exact ⟨by simpa using (Bool.eq_false_iff.2 ha).symm, fun h => (ha h).elim⟩
end Go.Proofs.YtjhjleanihgopaaDoor
namespace Go.Proofs.YtjhjleanihgopaaDoor
/-- what follows an integer is no digit -/
def numStop (r : List UInt8) : Prop := ∀ c q, r = c :: q → digU c = false
theorem spc_no {c : UInt8} {r : List UInt8} (h : isSp c = false) : spc (c :: r) = c :: r := by
  unfold spc; rw [List.dropWhile_cons, if_neg (by rw [h]; decide)]
theorem word_write : ∀ (w r : List UInt8), wordJ w (w ++ r) = .ok r
  | [], _ => rfl
  | c :: w, r => by
    show (takeJ (· == c) (c :: (w ++ r))).bind (wordJ w) = _
    rw [takeJ, if_pos (by simp)]
    exact word_write w r
theorem escU_hex (c : UInt8) : hexJ (hexU (c.toNat / 16)) = true ∧ hexJ (hexU (c.toNat % 16)) = true :=
  all256 (p := fun c => hexJ (hexU (c.toNat / 16)) = true ∧ hexJ (hexU (c.toNat % 16)) = true) (by decide +kernel) c
theorem body_sim {d : UInt8} {r : List UInt8} {n : Nat} (hs : simJ d = true) : bodyJ (n + 1) (92 :: d :: r) = bodyJ n r := by
  rw [bodyJ, if_neg (by decide), if_neg (by decide), if_pos rfl, escJ, if_pos hs]; rfl
theorem body_esc (c : UInt8) (t : List UInt8) (n : Nat) : bodyJ (n + 1) (escU c ++ t) = bodyJ n t := by
  unfold escU
  split
  · exact body_sim (by decide)
  · split
    · exact body_sim (by decide)
    · split
      · exact body_sim (by decide)
      · split
        · exact body_sim (by decide)
        · split
          · exact body_sim (by decide)
          · split
            · rename_i h34 h92 _ _ _ h
              show bodyJ (n + 1) (c :: t) = _
              rw [bodyJ, if_neg (by omega), if_neg h34, if_neg h92]
            · show bodyJ (n + 1) (92 :: 117 :: 48 :: 48 :: hexU (c.toNat / 16) :: hexU (c.toNat % 16) :: t) = _
              rw [bodyJ, if_neg (by decide), if_neg (by decide), if_pos rfl, escJ, if_neg (by decide), if_pos (by decide)]
              obtain ⟨h1, h2⟩ := escU_hex c
              show (((takeJ hexJ (hexU (c.toNat / 16) :: hexU (c.toNat % 16) :: t)).bind fun r => takeJ hexJ r)).bind (bodyJ n) = _
              rw [takeJ, if_pos h1]
              show (takeJ hexJ (hexU (c.toNat % 16) :: t)).bind (bodyJ n) = _
              rw [takeJ, if_pos h2]; rfl
theorem escL_cons (c : UInt8) (l : List UInt8) : escL (c :: l) = escU c ++ escL l := by simp [escL]
theorem escU_pos (c : UInt8) : 0 < (escU c).length := by
  unfold escU
  repeat' split
  all_goals simp
theorem body_write : ∀ (l r : List UInt8) (n : Nat), (escL l ++ 34 :: r).length < n → bodyJ n (escL l ++ 34 :: r) = .ok r
  | _, _, 0, h => by omega
  | [], r, n + 1, _ => by
    show bodyJ (n + 1) (34 :: r) = _
    rw [bodyJ, if_neg (by decide), if_pos rfl]
  | c :: l, r, n + 1, h => by
    have := escU_pos c
    rw [escL_cons, List.append_assoc] at h ⊢
    rw [body_esc]
    exact body_write l r n (by rw [List.length_append] at h; omega)
theorem read_front (l r : List UInt8) : readJ (l ++ r) r = l := by
  unfold readJ
  rw [List.length_append, Nat.add_sub_cancel, List.take_left']
  rfl
theorem str_write (s r : List UInt8) : strJ (quoteU s ++ r) = .ok (s, r) := by
  have e : quoteU s ++ r = 34 :: (escL s ++ 34 :: r) := by simp [quoteU]
  have e2 := read_front (quoteU s) r
  unfold strJ
  rw [e] at e2 ⊢
  rw [takeJ, if_pos (by decide)]
  show (bodyJ ((escL s ++ 34 :: r).length + 1) (escL s ++ 34 :: r)).bind _ = _
  rw [body_write _ _ _ (Nat.lt_succ_self _)]
  show Except.ok ((unquoteU (readJ (34 :: (escL s ++ 34 :: r)) r)).getD [], r) = _
  rw [e2, unquote_quote]; rfl
theorem tw_write (l r : List UInt8) (h : l.all digU = true) (hr : numStop r) : (l ++ r).dropWhile digU = r := by
  induction l with
  | nil =>
    cases r with
    | nil => rfl
    | cons c q => rw [List.nil_append, List.dropWhile_cons, if_neg (by rw [hr c q rfl]; decide)]
  | cons a l ih =>
    rw [List.all_cons, Bool.and_eq_true] at h
    rw [List.cons_append, List.dropWhile_cons, if_pos h.1, ih h.2]
theorem dec_split (u : Nat) : ∃ c ds, Lib.decDigits u = c :: ds ∧ digU c = true ∧ ds.all digU = true ∧ (c = 48 → ds = []) ∧ (u ≠ 0 → c ≠ 48) := by
  have h1 := dec_all u
  have h2 := dec_ne u
  have h3 := dec_one u
  have h4 := dec_head u
  cases hd : Lib.decDigits u with
  | nil => exact (h2 hd).elim
  | cons c ds =>
    rw [hd] at h1 h3 h4
    rw [List.all_cons, Bool.and_eq_true] at h1
    refine ⟨c, ds, rfl, h1.1, h1.2, fun e => ?_, fun e e2 => h4 e (by rw [e2]; rfl)⟩
    have := h3 (by rw [e]; rfl)
    simpa using (List.cons.inj this).2
theorem num_write {n : Int} {r : List UInt8} (h0 : -9223372036854775808 ≤ n) (h1 : n ≤ 9223372036854775807) (hr : numStop r) : numJ (Lib.itoa n ++ r) = .ok (n, r) := by
  have hn := num_itoa n h0 h1
  have hrd := read_front (Lib.itoa n) r
  have key : ∀ (c : UInt8) (ds : List UInt8) (neg : Bool), digU c = true → ds.all digU = true → (c = 48 → ds = []) → (neg = true → c ≠ 48) → Lib.itoa n = (if neg = true then [45] else []) ++ (c :: ds) → numJ (Lib.itoa n ++ r) = .ok (n, r) := by
    intro c ds neg hc hd h48 hneg he
    have hq : (if (c :: (ds ++ r)).head? = some 48 then ds ++ r else (ds ++ r).dropWhile digU) = r := by
      by_cases hc2 : c = 48
      · rw [if_pos (by rw [hc2]; rfl), h48 hc2]; rfl
      · rw [if_neg (by simpa using hc2), tw_write ds r hd hr]
    have hh : (Lib.itoa n ++ r).head? = some (if neg = true then 45 else c) := by rw [he]; cases neg <;> rfl
    have h1' : (if (Lib.itoa n ++ r).head? = some 45 then (Lib.itoa n ++ r).tail else Lib.itoa n ++ r) = c :: (ds ++ r) := by
      cases neg with
      | true => rw [hh, if_pos rfl, he]; rfl
      | false =>
        rw [hh, if_neg (by
          intro e
          have e : c = 45 := by simpa using e
          rw [e] at hc; exact absurd hc (by decide)), he]; rfl
    have hp : (digU c && !(c == 48 && (Lib.itoa n ++ r).head? == some 45)) = true := by
      rw [hh, hc]
      cases neg with
      | true => have := hneg rfl; simp [this]
      | false =>
        have : ¬ c = 45 := by intro e; rw [e] at hc; exact absurd hc (by decide)
        simp [this]
    unfold numJ
    rw [h1']
    dsimp only
    rw [takeJ, if_pos hp]
    show (let q := if (c :: (ds ++ r)).head? = some 48 then ds ++ r else (ds ++ r).dropWhile digU
      match numOk (numU (readJ (Lib.itoa n ++ r) q)) with
      | some n => Except.ok (n, q)
      | none => Except.error ((Lib.itoa n ++ r).length, (4 : Int))) = _
    rw [hq]
    dsimp only
    rw [hrd, hn]
    rfl
  unfold Lib.itoa at key ⊢
  by_cases hneg : n < 0
  · rw [if_pos hneg] at key ⊢
    obtain ⟨c, ds, e, h1, h2, h3, h4⟩ := dec_split n.natAbs
    exact key c ds true h1 h2 h3 (fun _ => h4 (by omega)) (by rw [e]; rfl)
  · rw [if_neg hneg] at key ⊢
    obtain ⟨c, ds, e, h1, h2, h3, h4⟩ := dec_split n.toNat
    exact key c ds false h1 h2 h3 (fun e => by cases e) (by rw [e]; rfl)
end Go.Proofs.YtjhjleanihgopaaDoor
