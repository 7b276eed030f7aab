/- Parts of a proof, merged by a program (shake.py). -/
import Derived.Test.YthjiclhfhjdjpaaGreatDoorQ33
set_option linter.unusedVariables false
set_option linter.unusedSimpArgs false
namespace Go.Proofs.YthjiclhfhjdjpaaGreatDoor
open Go.RowKit
set_option linter.unusedSectionVars false
attribute [local irreducible] wpList Calls Code.wp AW AWo OpOk seqK blockK scopeK loopK endK AC absLex Yld Sub
attribute [local irreducible] ACB ACX absLexG YldG absLexH
def wgA (most : Int) (l : List D) : Nat → Nat → Int → Int
  | 0, _, n => n
  | j + 1, i, n => if n ≤ most then wgA most l j (i + 1) (n + (sizeR (bulkD ((gD l i).f 1)) ((gD l i).f 1) : Int)) else n
def wgS (rec : List D → Int → Int) (most : Int) (l : List D) : Nat → Nat → Int → Int
  | 0, _, n => n
  | j + 1, i, n => if n ≤ most then wgS rec most l j (i + 1) (wgA most ((gD l i).f 4).l ((gD l i).f 4).l.length 0 (n + 1 + (((gD l i).f 4).l.length : Int) + (((gD l i).f 5).l.length : Int)) + rec ((gD l i).f 6).l (most - wgA most ((gD l i).f 4).l ((gD l i).f 4).l.length 0 (n + 1 + (((gD l i).f 4).l.length : Int) + (((gD l i).f 5).l.length : Int)))) else n
def wg : Nat → List D → Int → Int
  | 0, _, _ => 0
  | k + 1, l, most => wgS (wg k) most l l.length 0 0
def bA (l : List D) (i : Nat) : Nat := sumN (fun m => bulkD (gD l m)) i
set_option maxHeartbeats 8000000 in
set_option maxRecDepth 100000 in
theorem bA_succ (l : List D) (i : Nat) : bA l (i + 1) = bA l i + bulkD (gD l i) := rfl
set_option maxHeartbeats 8000000 in
set_option maxRecDepth 100000 in
theorem bA_le {l : List D} {i : Nat} (h : i ≤ l.length) : bA l i ≤ bulkL l := by
  rw [bulkL_sum]
  exact sumN_mono _ h
set_option maxHeartbeats 8000000 in
set_option maxRecDepth 100000 in
theorem val_le (a : D) : sizeR (bulkD (a.f 1)) (a.f 1) ≤ bulkD a := by
  have h1 := sizeR_le (bulkD (a.f 1)) (a.f 1)
  have h2 := wD_f a 1
  have h3 := bulkD_wD a
  have h4 := bulkD_wD (a.f 1)
  omega
set_option maxHeartbeats 8000000 in
set_option maxRecDepth 100000 in
theorem wgA_range (most : Int) (l : List D) : ∀ (j i : Nat) (n : Int), n ≤ wgA most l j i n ∧ wgA most l j i n ≤ n + ((bA l (i + j) : Nat) : Int) - ((bA l i : Nat) : Int)
  | 0, i, n => by simp only [wgA, Nat.add_zero]; omega
  | j + 1, i, n => by
    have ih := wgA_range most l j (i + 1) (n + (sizeR (bulkD ((gD l i).f 1)) ((gD l i).f 1) : Int))
    have h1 := val_le (gD l i)
    have h2 := bA_succ l i
    have h3 := sumN_mono (fun m => bulkD (gD l m)) (show i ≤ i + (j + 1) by omega)
    have h4 : bA l i ≤ bA l (i + (j + 1)) := h3
    rw [show i + 1 + j = i + (j + 1) by omega] at ih
    unfold wgA
    split <;> omega
set_option maxHeartbeats 8000000 in
set_option maxRecDepth 100000 in
theorem sel_parts (s : D) : 1 + bulkL (s.f 4).l + bulkL (s.f 5).l + bulkL (s.f 6).l ≤ bulkD s := by
  have hf := wD_fields s 7
  simp only [sumN] at hf
  have h4 := wD_list (s.f 4)
  have h5 := wD_list (s.f 5)
  have h6 := wD_list (s.f 6)
  have h7 := bulkD_wD s
  omega
set_option maxHeartbeats 8000000 in
set_option maxRecDepth 100000 in
/-- what a selection weighs apart from those within it -/
theorem sel_own (most : Int) (s : D) (n : Int) : n ≤ wgA most (s.f 4).l (s.f 4).l.length 0 (n + 1 + ((s.f 4).l.length : Int) + ((s.f 5).l.length : Int)) ∧
    wgA most (s.f 4).l (s.f 4).l.length 0 (n + 1 + ((s.f 4).l.length : Int) + ((s.f 5).l.length : Int)) + 2 * (bulkL (s.f 6).l : Int) ≤ n + 2 * (bulkD s : Int) := by
  have h1 := wgA_range most (s.f 4).l (s.f 4).l.length 0 (n + 1 + ((s.f 4).l.length : Int) + ((s.f 5).l.length : Int))
  have h2 := sel_parts s
  have h3 := len_bulk (s.f 4).l
  have h4 := len_bulk (s.f 5).l
  have h5 := bA_le (l := (s.f 4).l) (i := 0 + (s.f 4).l.length) (by omega)
  omega
set_option maxHeartbeats 8000000 in
set_option maxRecDepth 100000 in
theorem wgS_range {rec : List D → Int → Int} {most : Int} (hrec : ∀ l m, 0 ≤ rec l m ∧ rec l m ≤ 2 * (bulkL l : Int)) (l : List D) : ∀ (j i : Nat) (n : Int), n ≤ wgS rec most l j i n ∧ wgS rec most l j i n ≤ n + 2 * ((bA l (i + j) : Nat) : Int) - 2 * ((bA l i : Nat) : Int)
  | 0, i, n => by simp only [wgS, Nat.add_zero]; omega
  | j + 1, i, n => by
    have h1 := sel_own most (gD l i) n
    have h2 := hrec ((gD l i).f 6).l (most - wgA most ((gD l i).f 4).l ((gD l i).f 4).l.length 0 (n + 1 + (((gD l i).f 4).l.length : Int) + (((gD l i).f 5).l.length : Int)))
    have ih := wgS_range (most := most) hrec l j (i + 1) (wgA most ((gD l i).f 4).l ((gD l i).f 4).l.length 0 (n + 1 + (((gD l i).f 4).l.length : Int) + (((gD l i).f 5).l.length : Int)) + rec ((gD l i).f 6).l (most - wgA most ((gD l i).f 4).l ((gD l i).f 4).l.length 0 (n + 1 + (((gD l i).f 4).l.length : Int) + (((gD l i).f 5).l.length : Int))))
    have h3 := bA_succ l i
    have h4 : bA l i ≤ bA l (i + (j + 1)) := sumN_mono (fun m => bulkD (gD l m)) (show i ≤ i + (j + 1) by omega)
    rw [show i + 1 + j = i + (j + 1) by omega] at ih
    unfold wgS
    split <;> omega
set_option maxHeartbeats 8000000 in
set_option maxRecDepth 100000 in
theorem wg_range : ∀ (k : Nat) (l : List D) (most : Int), 0 ≤ wg k l most ∧ wg k l most ≤ 2 * (bulkL l : Int)
  | 0, l, most => by simp only [wg]; omega
  | k + 1, l, most => by
    have h := wgS_range (most := most) (fun l m => wg_range k l m) l l.length 0 0
    have h2 := bA_le (l := l) (i := 0 + l.length) (by omega)
    unfold wg
    omega
noncomputable def HWo (l : List D) (most n : Int) (i : Nat) : Vst 74 := stS 74 [(0, .sl 76 l), (1, .c (.int .i64 most)), (5, .c (.int .i64 n)), (6, .c (.int .i64 (i : Int)))] []
noncomputable def HWj (l : List D) (most n : Int) (i k : Nat) : Vst 74 := stS 74 [(0, .sl 76 l), (1, .c (.int .i64 most)), (5, .c (.int .i64 n)), (6, .c (.int .i64 (i : Int))), (7, .c (.int .i64 (k : Int)))] []
set_option maxHeartbeats 8000000 in
set_option maxRecDepth 100000 in
theorem gt_of {b : Bool} (h : b = true) : (b == true) = true := by rw [h]; rfl
set_option maxHeartbeats 8000000 in
set_option maxRecDepth 100000 in
theorem gf_of {b : Bool} (h : b = false) : (b == true) = false := by rw [h]; rfl
set_option maxHeartbeats 8000000 in
set_option maxRecDepth 100000 in
theorem weigh_ac : ∀ (k : Nat) (l : List D) (most : Int), bulkL l < k → bulkL l ≤ 1000000000 → most ≤ 600 → -(4000000000000 : Int) ≤ most - 2 * (bulkL l : Int) →
    AC EN Tryz.prog 61 [.sl 76 l, .c (.int .i64 most)] (.c (.int .i64 (wg k l most)))
  | 0, _, _, h, _, _, _ => by omega
  | k + 1, l, most, h, hw, hhi, hlo => by
    have hlen := len_bulk l
    have hR : wgS (wg k) most l l.length 0 0 = wg (k + 1) l most := rfl
    generalize wg (k + 1) l most = R at hR ⊢
    refine ac_enter 74 Tryz.func61 rfl rfl rfl rfl ?_
    intro s w he
    repeat' (first
 | refine aw_region ?_
 | refine awo_nil ?_
 | refine k_seq ?_
 | (apply aw_1
    conv => whnf
    refine ⟨?_, trivial⟩)
 | (apply s_1
    conv => whnf; arg 1; arg 4; arg 3; whnf
    refine ⟨?_, ?_⟩)
 | exact trivial)
    refine aw_loop (fun j st => ∃ i n, i + j = l.length ∧ wgS (wg k) most l j i n = R ∧ 0 ≤ n ∧ n ≤ 2 * ((bA l i : Nat) : Int) ∧ Sub (cx EN Tryz.prog s w he) st (HWo l most n i)) l.length ⟨0, 0, by omega, hR, Int.le_refl _, by simp [bA, sumN], Sub.live ⟨rfl, rfl, rfl, rfl, trivial⟩ trivial⟩ ?_
    clear hR
    rintro j st ⟨i, n, hij, hR, hn0, hn1, hs2⟩
    refine aw_sub hs2 ?_
    clear hs2
    have hbi := bA_le (l := l) (i := i) (by omega)
    by_cases hi : i < l.length
    rotate_left 1
    · have f0 : decide ((i : Int) < (l.length : Nat)) = false := decide_eq_false (by omega)
      have g0 := gf_of f0
      obtain rfl : j = 0 := by omega
      repeat' (first
 | refine aw_region ?_
 | refine awo_nil ?_
 | refine k_seq ?_
 | (apply aw_1
    conv => whnf
    refine ⟨?_, trivial⟩)
 | (apply s_pick_f rfl rfl
    · conv => lhs; whnf
    · conv => lhs; whnf
    · first | exact bF1 (by assumption) | exact bF2 (by assumption))
 | (apply s_1
    conv => whnf; arg 1; arg 4; arg 3; whnf
    refine ⟨?_, ?_⟩)
 | (apply s_skipU rfl
    · conv => lhs; whnf
    · conv => lhs; whnf
    · first | rfl | assumption)
 | refine k_seq_exit ?_
 | refine k_block_hit rfl ?_
 | refine k_loop_exit ?_
 | refine k_end_ret ?_
 | (refine ⟨_, by conv => lhs; whnf; arg 2; whnf, ?_⟩; conv => rhs; whnf)
 | exact trivial)
      all_goals first
        | exact i64_ok (by omega)
        | exact i64_ok (by simp only [Int.toNat_natCast, Nat.zero_add, Nat.reduceAdd]; omega)
        | (rw [← hR]; rfl)
    have f0 : decide ((i : Int) < (l.length : Nat)) = true := decide_eq_true (by omega)
    have g0 := gt_of f0
    obtain ⟨j, rfl⟩ : ∃ q, j = q + 1 := ⟨j - 1, by omega⟩
    by_cases hm : n ≤ most
    rotate_left 1
    · have f1 : decide (n ≤ most) = false := decide_eq_false hm
      repeat' (first
 | (apply aw_cond_kf
    · conv => lhs; whnf
    · assumption)
 | refine aw_region ?_
 | refine awo_nil ?_
 | refine k_seq ?_
 | (apply aw_1
    conv => whnf
    refine ⟨?_, trivial⟩)
 | (apply s_pick_t rfl rfl
    · conv => lhs; whnf
    · conv => lhs; whnf
    · first | exact bT1 (by assumption) | exact bT2 (by assumption))
 | (apply s_1
    conv => whnf; arg 1; arg 4; arg 3; whnf
    refine ⟨?_, ?_⟩)
 | (apply s_wanted_val rfl
    · conv => lhs; whnf
    · conv => lhs; whnf
    · first | rfl | assumption
    · conv => lhs; whnf; arg 2; whnf)
 | refine k_seq_exit ?_
 | refine k_block_hit rfl ?_
 | refine k_loop_exit ?_
 | refine k_end_ret ?_
 | (refine ⟨_, by conv => lhs; whnf; arg 2; whnf, ?_⟩; conv => rhs; whnf)
 | exact trivial)
      all_goals first
        | exact i64_ok (by omega)
        | exact i64_ok (by simp only [Int.toNat_natCast, Nat.zero_add, Nat.reduceAdd]; omega)
        | (rw [← hR]; unfold wgS; rw [if_neg hm])
    have f1 : decide (n ≤ most) = true := decide_eq_true hm
    unfold wgS at hR
    rw [if_pos hm] at hR
    have hown := sel_own most (gD l i) n
    have hbs := bA_succ l i
    have hbi2 := bA_le (l := l) (i := i + 1) (by omega)
    have hpt := sel_parts (gD l i)
    have hl4 := len_bulk ((gD l i).f 4).l
    have hl5 := len_bulk ((gD l i).f 5).l
    have hget := bulkL_get hi
    have ih := weigh_ac k ((gD l i).f 6).l (most - wgA most ((gD l i).f 4).l ((gD l i).f 4).l.length 0 (n + 1 + (((gD l i).f 4).l.length : Int) + (((gD l i).f 5).l.length : Int))) (by omega) (by omega) (by omega) (by omega)
    have hwr := wg_range k ((gD l i).f 6).l (most - wgA most ((gD l i).f 4).l ((gD l i).f 4).l.length 0 (n + 1 + (((gD l i).f 4).l.length : Int) + (((gD l i).f 5).l.length : Int)))
    generalize hN : wgA most ((gD l i).f 4).l ((gD l i).f 4).l.length 0 (n + 1 + (((gD l i).f 4).l.length : Int) + (((gD l i).f 5).l.length : Int)) = N at *
    repeat' (first
 | (apply aw_cond_kt
    · conv => lhs; whnf
    · assumption)
 | refine aw_region ?_
 | refine awo_nil ?_
 | refine k_seq ?_
 | (apply aw_1
    conv => whnf
    refine ⟨?_, trivial⟩)
 | (apply s_pick_t rfl rfl
    · conv => lhs; whnf
    · conv => lhs; whnf
    · first | exact bT1 (by assumption) | exact bT2 (by assumption))
 | (apply s_1
    conv => whnf; arg 1; arg 4; arg 3; whnf
    refine ⟨?_, ?_⟩)
 | (apply s_wanted_val rfl
    · conv => lhs; whnf
    · conv => lhs; whnf
    · first | rfl | assumption
    · conv => lhs; whnf; arg 2; whnf)
 | (apply aw_draw (by kernel_rfl) (by kernel_rfl))
 | apply y_nil
 | (apply y_val rfl
    · conv => lhs; whnf
    · conv => lhs; whnf; arg 2; whnf)
 | exact apartB_none
 | exact apartB_nil
 | exact (1000000 : Nat)
 | exact trivial)
    all_goals first
      | exact i64_ok (by omega)
      | exact i64_ok (by simp only [Int.toNat_natCast, Nat.zero_add, Nat.reduceAdd]; omega)
      | exact at_in hi
      | skip
    refine aw_loop (fun j2 st => ∃ q n2, q + j2 = ((gD l i).f 4).l.length ∧ wgA most ((gD l i).f 4).l j2 q n2 = N ∧ n ≤ n2 ∧ Sub (cx EN Tryz.prog s w he) st (HWj l most n2 i q)) ((gD l i).f 4).l.length ⟨0, n + 1 + (((gD l i).f 4).l.length : Int) + (((gD l i).f 5).l.length : Int), by omega, hN, by omega, Sub.live ⟨rfl, rfl, rfl, rfl, rfl, trivial⟩ trivial⟩ ?_
    clear hN
    rintro j2 st2 ⟨q, n2, hqj, hN, hn2, hs3⟩
    refine aw_sub hs3 ?_
    clear hs3
    have hrg := wgA_range most ((gD l i).f 4).l j2 q n2
    rw [hN] at hrg
    by_cases hq : q < ((gD l i).f 4).l.length
    rotate_left 1
    · have f2 : decide ((q : Int) < (((gD l i).f 4).l.length : Nat)) = false := decide_eq_false (by omega)
      have g2 := gf_of f2
      obtain rfl : j2 = 0 := by omega
      have e : n2 = N := hN
      subst e
      repeat' (first
 | refine aw_region ?_
 | refine awo_nil ?_
 | refine k_seq ?_
 | refine k_block ?_
 | (apply aw_1
    conv => whnf
    refine ⟨?_, trivial⟩)
 | (apply s_pick_f rfl rfl
    · conv => lhs; whnf
    · conv => lhs; whnf
    · first | exact bF1 (by assumption) | exact bF2 (by assumption))
 | (apply s_1
    conv => whnf; arg 1; arg 4; arg 3; whnf
    refine ⟨?_, ?_⟩)
 | (apply s_call rfl
    · conv => lhs; whnf
    · conv => lhs; whnf
    · first | exact ih)
 | (apply s_skipU rfl
    · conv => lhs; whnf
    · conv => lhs; whnf
    · first | rfl | assumption)
 | refine k_seq_exit ?_
 | refine k_block_hit rfl ?_
 | refine k_loop_exit ?_
 | exact trivial)
      all_goals first
        | exact i64_ok (by omega)
        | exact i64_ok (by simp only [Int.toNat_natCast, Nat.zero_add, Nat.reduceAdd]; omega)
        | exact at_in hi
        | exact k_loop_next (Nat.lt_succ_self j) ⟨i + 1, _, by omega, hR, by omega, by omega, Sub.live ⟨rfl, rfl, rfl, rfl, trivial⟩ trivial⟩
    have f2 : decide ((q : Int) < (((gD l i).f 4).l.length : Nat)) = true := decide_eq_true (by omega)
    have g2 := gt_of f2
    obtain ⟨j2, rfl⟩ : ∃ z, j2 = z + 1 := ⟨j2 - 1, by omega⟩
    by_cases hm2 : n2 ≤ most
    rotate_left 1
    · have f3 : decide (n2 ≤ most) = false := decide_eq_false hm2
      have e : n2 = N := by rw [← hN]; unfold wgA; rw [if_neg hm2]
      subst e
      repeat' (first
 | (apply aw_cond_kf
    · conv => lhs; whnf
    · assumption)
 | refine aw_region ?_
 | refine awo_nil ?_
 | refine k_seq ?_
 | refine k_block ?_
 | (apply aw_1
    conv => whnf
    refine ⟨?_, trivial⟩)
 | (apply s_pick_t rfl rfl
    · conv => lhs; whnf
    · conv => lhs; whnf
    · first | exact bT1 (by assumption) | exact bT2 (by assumption))
 | (apply s_1
    conv => whnf; arg 1; arg 4; arg 3; whnf
    refine ⟨?_, ?_⟩)
 | (apply s_call rfl
    · conv => lhs; whnf
    · conv => lhs; whnf
    · first | exact ih)
 | (apply s_wanted_val rfl
    · conv => lhs; whnf
    · conv => lhs; whnf
    · first | rfl | assumption
    · conv => lhs; whnf; arg 2; whnf)
 | refine k_seq_exit ?_
 | refine k_block_hit rfl ?_
 | refine k_loop_exit ?_
 | exact trivial)
      all_goals first
        | exact i64_ok (by omega)
        | exact i64_ok (by simp only [Int.toNat_natCast, Nat.zero_add, Nat.reduceAdd]; omega)
        | exact at_in hi
        | exact k_loop_next (Nat.lt_succ_self j) ⟨i + 1, _, by omega, hR, by omega, by omega, Sub.live ⟨rfl, rfl, rfl, rfl, trivial⟩ trivial⟩
    have f3 : decide (n2 ≤ most) = true := decide_eq_true hm2
    unfold wgA at hN
    rw [if_pos hm2] at hN
    have hga := bulkL_get hq
    have hvl := val_le (gD ((gD l i).f 4).l q)
    have hb1 := bulkD_wD ((gD ((gD l i).f 4).l q).f 1)
    have hb2 := wD_f (gD ((gD l i).f 4).l q) 1
    have hb3 := bulkD_wD (gD ((gD l i).f 4).l q)
    have hsz := sizeF_ac (bulkD ((gD ((gD l i).f 4).l q).f 1)) ((gD ((gD l i).f 4).l q).f 1) (dp_bulk _ _ (Nat.le_refl _)) (by omega)
    repeat' (first
 | (apply aw_cond_kt
    · conv => lhs; whnf
    · assumption)
 | refine aw_region ?_
 | refine awo_nil ?_
 | refine k_seq ?_
 | refine k_block ?_
 | (apply aw_1
    conv => whnf
    refine ⟨?_, trivial⟩)
 | (apply s_pick_t rfl rfl
    · conv => lhs; whnf
    · conv => lhs; whnf
    · first | exact bT1 (by assumption) | exact bT2 (by assumption))
 | (apply s_1
    conv => whnf; arg 1; arg 4; arg 3; whnf
    refine ⟨?_, ?_⟩)
 | (apply s_call rfl
    · conv => lhs; whnf
    · conv => lhs; whnf
    · first | exact hsz)
 | (apply s_wanted_val rfl
    · conv => lhs; whnf
    · conv => lhs; whnf
    · first | rfl | assumption
    · conv => lhs; whnf; arg 2; whnf)
 | exact trivial)
    all_goals first
      | exact i64_ok (by omega)
      | exact i64_ok (by simp only [Int.toNat_natCast, Nat.zero_add, Nat.reduceAdd]; omega)
      | exact at_in hi
      | exact at_in hq
      | exact k_loop_next (Nat.lt_succ_self j2) ⟨q + 1, _, by omega, hN, by omega, Sub.live ⟨rfl, rfl, rfl, rfl, rfl, trivial⟩ trivial⟩
def lgO (l : List D) : Nat → Nat → Int → Int
  | 0, _, n => n
  | j + 1, i, n => if n ≤ 600 then lgO l j (i + 1) (n + (((gD l i).f 2).l.length : Int) + wg (bulkL ((gD l i).f 3).l + 1) ((gD l i).f 3).l 600) else n
def lgF (l : List D) : Nat → Nat → Int → Int
  | 0, _, n => n
  | j + 1, i, n => if n ≤ 600 then lgF l j (i + 1) (n + wg (bulkL ((gD l i).f 2).l + 1) ((gD l i).f 2).l 600) else n
/-- whether a document is too large -/
def largeV (a b : List D) : Bool := decide (lgF b b.length 0 (lgO a a.length 0 ((a.length : Int) + (b.length : Int))) > 600)
set_option maxHeartbeats 8000000 in
set_option maxRecDepth 100000 in
theorem op_parts (o : D) : ((o.f 2).l.length : Int) + 2 * (bulkL (o.f 3).l : Int) ≤ 2 * (bulkD o : Int) := by
  have hf := wD_fields o 4
  simp only [sumN] at hf
  have h4 := wD_list (o.f 2)
  have h5 := wD_list (o.f 3)
  have h7 := bulkD_wD o
  have h8 := len_bulk (o.f 2).l
  omega
set_option maxHeartbeats 8000000 in
set_option maxRecDepth 100000 in
theorem frag_parts (o : D) : 2 * (bulkL (o.f 2).l : Int) ≤ 2 * (bulkD o : Int) := by
  have hf := wD_f o 2
  have h5 := wD_list (o.f 2)
  have h7 := bulkD_wD o
  omega
set_option maxHeartbeats 8000000 in
set_option maxRecDepth 100000 in
theorem lgO_range (l : List D) : ∀ (j i : Nat) (n : Int), n ≤ lgO l j i n ∧ lgO l j i n ≤ n + 2 * ((bA l (i + j) : Nat) : Int) - 2 * ((bA l i : Nat) : Int)
  | 0, i, n => by simp only [lgO, Nat.add_zero]; omega
  | j + 1, i, n => by
    have ih := lgO_range l j (i + 1) (n + (((gD l i).f 2).l.length : Int) + wg (bulkL ((gD l i).f 3).l + 1) ((gD l i).f 3).l 600)
    have h1 := op_parts (gD l i)
    have h2 := wg_range (bulkL ((gD l i).f 3).l + 1) ((gD l i).f 3).l 600
    have h3 := bA_succ l i
    have h4 : bA l i ≤ bA l (i + (j + 1)) := sumN_mono (fun m => bulkD (gD l m)) (show i ≤ i + (j + 1) by omega)
    rw [show i + 1 + j = i + (j + 1) by omega] at ih
    unfold lgO
    split <;> omega
noncomputable def HLo (a b : List D) (n : Int) (i : Nat) : Vst 63 := stS 63 [(1, .bx 1 0), (3, .c (.int .i64 n)), (4, .c (.int .i64 (i : Int)))] [(1, .box 41 [.sl 57 a, .sl 116 b])]
noncomputable def HLf (a b : List D) (n : Int) (i : Nat) : Vst 63 := stS 63 [(1, .bx 1 0), (3, .c (.int .i64 n)), (5, .c (.int .i64 (i : Int)))] [(1, .box 41 [.sl 57 a, .sl 116 b])]
set_option maxHeartbeats 8000000 in
set_option maxRecDepth 100000 in
theorem large_ac (a b : List D) (hwa : bulkL a ≤ 1000000000) (hwb : bulkL b ≤ 1000000000) : AC EN Tryz.prog 30 [.agg [.sl 57 a, .sl 116 b]] (.c (.bool (largeV a b))) := by
  have hla := len_bulk a
  have hlb := len_bulk b
  have hA := lgO_range a a.length 0 ((a.length : Int) + (b.length : Int))
  have hA2 := bA_le (l := a) (i := 0 + a.length) (by omega)
  unfold largeV
  generalize hR : lgO a a.length 0 ((a.length : Int) + (b.length : Int)) = R at *
  refine ac_enter 63 Tryz.func30 rfl rfl rfl rfl ?_
  intro s w he
  repeat' (first
 | refine aw_region ?_
 | refine awo_nil ?_
 | refine k_seq ?_
 | (apply aw_1
    conv => whnf
    refine ⟨?_, trivial⟩)
 | (apply s_1
    conv => whnf; arg 1; arg 4; arg 3; whnf
    refine ⟨?_, ?_⟩)
 | (apply s_box rfl rfl rfl rfl
    · conv => lhs; whnf; arg 1; whnf
    · rfl)
 | exact trivial)
  all_goals first
    | exact i64_ok (by omega)
    | exact i64_ok (by simp only [Int.toNat_natCast, Nat.zero_add, Nat.reduceAdd]; omega)
    | skip
  refine aw_loop (fun j st => ∃ i n, i + j = a.length ∧ lgO a j i n = R ∧ 0 ≤ n ∧ n ≤ R ∧ Sub (cx EN Tryz.prog s w he) st (HLo a b n i)) a.length ⟨0, (a.length : Int) + (b.length : Int), by omega, hR, by omega, by omega, Sub.live ⟨rfl, rfl, rfl, trivial⟩ ⟨rfl, trivial⟩⟩ ?_
  clear hR
  rintro j st ⟨i, n, hij, hR, hn0, hn1, hs2⟩
  refine aw_sub hs2 ?_
  clear hs2
  -- behind the operations
  have hend : n = R → ∀ st, Sub (cx EN Tryz.prog s w he) st (HLo a b R i) → Sub (cx EN Tryz.prog s w he) st (HLo a b R i) := fun _ _ h => h
  by_cases hi : i < a.length ∧ n ≤ 600
  · obtain ⟨hi, hm⟩ := hi
    have f0 : decide ((i : Int) < (a.length : Nat)) = true := decide_eq_true (by omega)
    have g0 := gt_of f0
    have f1 : decide (n ≤ 600) = true := decide_eq_true hm
    obtain ⟨j, rfl⟩ : ∃ q, j = q + 1 := ⟨j - 1, by omega⟩
    unfold lgO at hR
    rw [if_pos hm] at hR
    have hget := bulkL_get hi
    have hpt := op_parts (gD a i)
    have hwr := wg_range (bulkL ((gD a i).f 3).l + 1) ((gD a i).f 3).l 600
    have hrg := lgO_range a j (i + 1) (n + (((gD a i).f 2).l.length : Int) + wg (bulkL ((gD a i).f 3).l + 1) ((gD a i).f 3).l 600)
    rw [hR] at hrg
    have hW := weigh_ac (bulkL ((gD a i).f 3).l + 1) ((gD a i).f 3).l 600 (Nat.lt_succ_self _) (by omega) (by omega) (by omega)
    repeat' (first
 | (apply aw_cond_kt
    · conv => lhs; whnf
    · assumption)
 | refine aw_region ?_
 | refine awo_nil ?_
 | refine k_seq ?_
 | refine k_block ?_
 | (apply aw_1
    conv => whnf
    refine ⟨?_, trivial⟩)
 | (apply s_pick_t rfl rfl
    · conv => lhs; whnf
    · conv => lhs; whnf
    · first | exact bT1 (by assumption) | exact bT2 (by assumption))
 | (apply s_1
    conv => whnf; arg 1; arg 4; arg 3; whnf
    refine ⟨?_, ?_⟩)
 | (apply s_wanted_val rfl
    · conv => lhs; whnf
    · conv => lhs; whnf
    · first | rfl | assumption
    · conv => lhs; whnf; arg 2; whnf)
 | (apply aw_draw (by kernel_rfl) (by kernel_rfl))
 | apply y_nil
 | (apply y_val rfl
    · conv => lhs; whnf
    · conv => lhs; whnf; arg 2; whnf)
 | (apply y_call rfl
    · conv => lhs; whnf
    · conv => lhs; whnf
    · first | exact hW)
 | exact apartB_none
 | exact apartB_nil
 | exact (1000000 : Nat)
 | exact trivial)
    all_goals first
      | exact i64_ok (by omega)
      | exact i64_ok (by simp only [Int.toNat_natCast, Nat.zero_add, Nat.reduceAdd]; omega)
      | exact at_in hi
      | exact k_loop_next (Nat.lt_succ_self j) ⟨i + 1, _, by omega, hR, by omega, by omega, Sub.live ⟨rfl, rfl, rfl, trivial⟩ ⟨rfl, trivial⟩⟩
  · have e : n = R := by
      rw [← hR]
      cases j with
      | zero => rfl
      | succ j => unfold lgO; rw [if_neg (fun h => hi ⟨by omega, h⟩)]
    subst e
    have hF := fun (z : Int) => True
    by_cases hia : i < a.length
    · have hm : ¬ n ≤ 600 := fun h => hi ⟨hia, h⟩
      have f0 : decide ((i : Int) < (a.length : Nat)) = true := decide_eq_true (by omega)
      have g0 := gt_of f0
      have f1 : decide (n ≤ 600) = false := decide_eq_false hm
      have hL : lgF b b.length 0 n = n := by
        cases hb : b.length with
        | zero => rfl
        | succ m => unfold lgF; rw [if_neg hm]
      rw [hL]
      repeat' (first
 | (apply aw_cond_kf
    · conv => lhs; whnf
    · assumption)
 | refine aw_region ?_
 | refine awo_nil ?_
 | refine k_seq ?_
 | (apply aw_1
    conv => whnf
    refine ⟨?_, trivial⟩)
 | (apply s_pick_t rfl rfl
    · conv => lhs; whnf
    · conv => lhs; whnf
    · first | exact bT1 (by assumption) | exact bT2 (by assumption))
 | (apply s_1
    conv => whnf; arg 1; arg 4; arg 3; whnf
    refine ⟨?_, ?_⟩)
 | (apply s_wanted_val rfl
    · conv => lhs; whnf
    · conv => lhs; whnf
    · first | rfl | assumption
    · conv => lhs; whnf; arg 2; whnf)
 | refine k_seq_exit ?_
 | refine k_block_hit rfl ?_
 | refine k_loop_exit ?_
 | exact trivial)
      all_goals first
        | exact i64_ok (by omega)
        | exact i64_ok (by simp only [Int.toNat_natCast, Nat.zero_add, Nat.reduceAdd]; omega)
        | skip
      by_cases hb : 0 < b.length
      · have f2 : decide ((0 : Int) < (b.length : Nat)) = true := decide_eq_true (by omega)
        have g2 := gt_of f2
        refine aw_loop (fun j st => Sub (cx EN Tryz.prog s w he) st (HLf a b n 0)) 0 (Sub.live ⟨rfl, rfl, rfl, trivial⟩ ⟨rfl, trivial⟩) ?_
        rintro j2 st2 hs3
        refine aw_sub hs3 ?_
        clear hs3
        repeat' (first
 | (apply aw_cond_kf
    · conv => lhs; whnf
    · assumption)
 | refine aw_region ?_
 | refine awo_nil ?_
 | refine k_seq ?_
 | (apply aw_1
    conv => whnf
    refine ⟨?_, trivial⟩)
 | (apply s_pick_t rfl rfl
    · conv => lhs; whnf
    · conv => lhs; whnf
    · first | exact bT1 (by assumption) | exact bT2 (by assumption))
 | (apply s_1
    conv => whnf; arg 1; arg 4; arg 3; whnf
    refine ⟨?_, ?_⟩)
 | (apply s_wanted_val rfl
    · conv => lhs; whnf
    · conv => lhs; whnf
    · first | rfl | assumption
    · conv => lhs; whnf; arg 2; whnf)
 | refine k_seq_exit ?_
 | refine k_block_hit rfl ?_
 | refine k_loop_exit ?_
 | refine k_end_ret ?_
 | (refine ⟨_, by conv => lhs; whnf; arg 2; whnf, ?_⟩; conv => rhs; whnf)
 | exact trivial)
        all_goals first
          | exact i64_ok (by omega)
          | exact i64_ok (by simp only [Int.toNat_natCast, Nat.zero_add, Nat.reduceAdd]; omega)
          | rfl
      · have f2 : decide ((0 : Int) < (b.length : Nat)) = false := decide_eq_false (by omega)
        have g2 := gf_of f2
        refine aw_loop (fun j st => Sub (cx EN Tryz.prog s w he) st (HLf a b n 0)) 0 (Sub.live ⟨rfl, rfl, rfl, trivial⟩ ⟨rfl, trivial⟩) ?_
        rintro j2 st2 hs3
        refine aw_sub hs3 ?_
        clear hs3
        repeat' (first
 | refine aw_region ?_
 | refine awo_nil ?_
 | refine k_seq ?_
 | (apply aw_1
    conv => whnf
    refine ⟨?_, trivial⟩)
 | (apply s_pick_f rfl rfl
    · conv => lhs; whnf
    · conv => lhs; whnf
    · first | exact bF1 (by assumption) | exact bF2 (by assumption))
 | (apply s_1
    conv => whnf; arg 1; arg 4; arg 3; whnf
    refine ⟨?_, ?_⟩)
 | (apply s_skipU rfl
    · conv => lhs; whnf
    · conv => lhs; whnf
    · first | rfl | assumption)
 | refine k_seq_exit ?_
 | refine k_block_hit rfl ?_
 | refine k_loop_exit ?_
 | refine k_end_ret ?_
 | (refine ⟨_, by conv => lhs; whnf; arg 2; whnf, ?_⟩; conv => rhs; whnf)
 | exact trivial)
        all_goals first
          | exact i64_ok (by omega)
          | exact i64_ok (by simp only [Int.toNat_natCast, Nat.zero_add, Nat.reduceAdd]; omega)
          | rfl
    · have f0 : decide ((i : Int) < (a.length : Nat)) = false := decide_eq_false (by omega)
      have g0 := gf_of f0
      repeat' (first
 | refine aw_region ?_
 | refine awo_nil ?_
 | refine k_seq ?_
 | (apply aw_1
    conv => whnf
    refine ⟨?_, trivial⟩)
 | (apply s_pick_f rfl rfl
    · conv => lhs; whnf
    · conv => lhs; whnf
    · first | exact bF1 (by assumption) | exact bF2 (by assumption))
 | (apply s_1
    conv => whnf; arg 1; arg 4; arg 3; whnf
    refine ⟨?_, ?_⟩)
 | (apply s_skipU rfl
    · conv => lhs; whnf
    · conv => lhs; whnf
    · first | rfl | assumption)
 | refine k_seq_exit ?_
 | refine k_block_hit rfl ?_
 | refine k_loop_exit ?_
 | exact trivial)
      all_goals first
        | exact i64_ok (by omega)
        | exact i64_ok (by simp only [Int.toNat_natCast, Nat.zero_add, Nat.reduceAdd]; omega)
        | skip
      generalize hQ : lgF b b.length 0 n = Q
      refine aw_loop (fun j st => ∃ i z, i + j = b.length ∧ lgF b j i z = Q ∧ 0 ≤ z ∧ z ≤ n + 2 * ((bA b i : Nat) : Int) ∧ Sub (cx EN Tryz.prog s w he) st (HLf a b z i)) b.length ⟨0, n, by omega, hQ, by omega, by simp [bA, sumN], Sub.live ⟨rfl, rfl, rfl, trivial⟩ ⟨rfl, trivial⟩⟩ ?_
      clear hQ
      rintro j2 st2 ⟨q, z, hqj, hQ, hz0, hz1, hs3⟩
      refine aw_sub hs3 ?_
      clear hs3
      have hbq := bA_le (l := b) (i := q) (by omega)
      by_cases hq : q < b.length
      rotate_left 1
      · have f2 : decide ((q : Int) < (b.length : Nat)) = false := decide_eq_false (by omega)
        have g2 := gf_of f2
        obtain rfl : j2 = 0 := by omega
        have e : z = Q := hQ
        subst e
        repeat' (first
 | refine aw_region ?_
 | refine awo_nil ?_
 | refine k_seq ?_
 | (apply aw_1
    conv => whnf
    refine ⟨?_, trivial⟩)
 | (apply s_pick_f rfl rfl
    · conv => lhs; whnf
    · conv => lhs; whnf
    · first | exact bF1 (by assumption) | exact bF2 (by assumption))
 | (apply s_1
    conv => whnf; arg 1; arg 4; arg 3; whnf
    refine ⟨?_, ?_⟩)
 | (apply s_skipU rfl
    · conv => lhs; whnf
    · conv => lhs; whnf
    · first | rfl | assumption)
 | refine k_seq_exit ?_
 | refine k_block_hit rfl ?_
 | refine k_loop_exit ?_
 | refine k_end_ret ?_
 | (refine ⟨_, by conv => lhs; whnf; arg 2; whnf, ?_⟩; conv => rhs; whnf)
 | exact trivial)
        all_goals first
          | exact i64_ok (by omega)
          | exact i64_ok (by simp only [Int.toNat_natCast, Nat.zero_add, Nat.reduceAdd]; omega)
          | rfl
      have f2 : decide ((q : Int) < (b.length : Nat)) = true := decide_eq_true (by omega)
      have g2 := gt_of f2
      obtain ⟨j2, rfl⟩ : ∃ q, j2 = q + 1 := ⟨j2 - 1, by omega⟩
      by_cases hm : z ≤ 600
      rotate_left 1
      · have f1 : decide (z ≤ 600) = false := decide_eq_false hm
        have e : z = Q := by rw [← hQ]; unfold lgF; rw [if_neg hm]
        subst e
        repeat' (first
 | (apply aw_cond_kf
    · conv => lhs; whnf
    · assumption)
 | refine aw_region ?_
 | refine awo_nil ?_
 | refine k_seq ?_
 | (apply aw_1
    conv => whnf
    refine ⟨?_, trivial⟩)
 | (apply s_pick_t rfl rfl
    · conv => lhs; whnf
    · conv => lhs; whnf
    · first | exact bT1 (by assumption) | exact bT2 (by assumption))
 | (apply s_1
    conv => whnf; arg 1; arg 4; arg 3; whnf
    refine ⟨?_, ?_⟩)
 | (apply s_wanted_val rfl
    · conv => lhs; whnf
    · conv => lhs; whnf
    · first | rfl | assumption
    · conv => lhs; whnf; arg 2; whnf)
 | refine k_seq_exit ?_
 | refine k_block_hit rfl ?_
 | refine k_loop_exit ?_
 | refine k_end_ret ?_
 | (refine ⟨_, by conv => lhs; whnf; arg 2; whnf, ?_⟩; conv => rhs; whnf)
 | exact trivial)
        all_goals first
          | exact i64_ok (by omega)
          | exact i64_ok (by simp only [Int.toNat_natCast, Nat.zero_add, Nat.reduceAdd]; omega)
          | rfl
      have f1 : decide (z ≤ 600) = true := decide_eq_true hm
      unfold lgF at hQ
      rw [if_pos hm] at hQ
      have hget := bulkL_get hq
      have hpt := frag_parts (gD b q)
      have hbs := bA_succ b q
      have hwr := wg_range (bulkL ((gD b q).f 2).l + 1) ((gD b q).f 2).l 600
      have hW := weigh_ac (bulkL ((gD b q).f 2).l + 1) ((gD b q).f 2).l 600 (Nat.lt_succ_self _) (by omega) (by omega) (by omega)
      repeat' (first
 | (apply aw_cond_kt
    · conv => lhs; whnf
    · assumption)
 | refine aw_region ?_
 | refine awo_nil ?_
 | refine k_seq ?_
 | refine k_block ?_
 | (apply aw_1
    conv => whnf
    refine ⟨?_, trivial⟩)
 | (apply s_pick_t rfl rfl
    · conv => lhs; whnf
    · conv => lhs; whnf
    · first | exact bT1 (by assumption) | exact bT2 (by assumption))
 | (apply s_1
    conv => whnf; arg 1; arg 4; arg 3; whnf
    refine ⟨?_, ?_⟩)
 | (apply s_call rfl
    · conv => lhs; whnf
    · conv => lhs; whnf
    · first | exact hW)
 | (apply s_wanted_val rfl
    · conv => lhs; whnf
    · conv => lhs; whnf
    · first | rfl | assumption
    · conv => lhs; whnf; arg 2; whnf)
 | exact trivial)
      all_goals first
        | exact i64_ok (by omega)
        | exact i64_ok (by simp only [Int.toNat_natCast, Nat.zero_add, Nat.reduceAdd]; omega)
        | exact at_in hq
        | exact k_loop_next (Nat.lt_succ_self j2) ⟨q + 1, _, by omega, hQ, by omega, by omega, Sub.live ⟨rfl, rfl, rfl, trivial⟩ ⟨rfl, trivial⟩⟩
end Go.Proofs.YthjiclhfhjdjpaaGreatDoor
namespace Go.Proofs.YthjiclhfhjdjpaaGreatDoor
open Go.RowKit
set_option linter.unusedSectionVars false
attribute [local irreducible] wpList Calls Code.wp AW AWo OpOk seqK blockK scopeK loopK endK AC absLex Yld Sub
attribute [local irreducible] ACB ACX absLexG YldG absLexH
noncomputable def WV (d : D) : V := .agg (cellsV Tryz.prog 12 84 d)
noncomputable def WA (d : D) : V := .agg (cellsV Tryz.prog 12 86 d)
noncomputable def WS (d : D) : V := .agg (cellsV Tryz.prog 12 76 d)
noncomputable def WO (d : D) : V := .agg (cellsV Tryz.prog 12 57 d)
set_option maxHeartbeats 8000000 in
set_option maxRecDepth 100000 in
theorem elemA9 : elemOk Tryz.prog 69 = some (86, 96) := by kernel_rfl
set_option maxHeartbeats 8000000 in
set_option maxRecDepth 100000 in
theorem elemS9 : elemOk Tryz.prog 55 = some (76, 128) := by kernel_rfl
set_option maxHeartbeats 8000000 in
set_option maxRecDepth 100000 in
theorem elemO9 : elemOk Tryz.prog 38 = some (57, 72) := by kernel_rfl
set_option maxHeartbeats 8000000 in
set_option maxRecDepth 100000 in
theorem insVar_ac (l : List D) (n : Int) (hn : n ≤ 1) (v : Value) : AC EN Tryz.prog 265 [.sl 88 l, .c (.int .i64 0), .c (.int .i64 n), .c v] (.tup []) := by
  have f0 : decide ((0 : Int) + 1 < n) = false := decide_eq_false (by omega)
  refine ac_enter 53 Tryz.func265 rfl rfl rfl rfl ?_
  intro s w he
  repeat' (first
 | refine aw_region ?_
 | refine awo_nil ?_
 | refine k_seq ?_
 | (apply aw_1
    conv => whnf
    refine ⟨?_, trivial⟩)
 | (apply s_1
    conv => whnf; arg 1; arg 4; arg 3; whnf
    refine ⟨?_, ?_⟩)
 | exact trivial)
  · refine aw_loop (fun _ st => Sub (cx EN Tryz.prog s w he) st (stS 53 [(2, .c (.int .i64 n)), (8, .c (.int .i64 (0 + 1)))] [])) 0 (Sub.live ⟨rfl, rfl, trivial⟩ trivial) ?_
    rintro j st hs
    refine aw_sub hs ?_
    repeat' (first
 | (apply aw_cond_kf
    · conv => lhs; whnf
    · assumption)
 | refine aw_region ?_
 | refine awo_nil ?_
 | refine k_seq ?_
 | (apply aw_1
    conv => whnf
    refine ⟨?_, trivial⟩)
 | (apply s_1
    conv => whnf; arg 1; arg 4; arg 3; whnf
    refine ⟨?_, ?_⟩)
 | refine k_seq_exit ?_
 | refine k_block_hit rfl ?_
 | refine k_loop_exit ?_
 | refine k_end ?_
 | exact trivial)
    all_goals rfl
  · exact i64_ok (by omega)
set_option maxHeartbeats 8000000 in
set_option maxRecDepth 100000 in
theorem stableVar_ac (l : List D) (n : Int) (hn : n ≤ 1) (v : Value) : AC EN Tryz.prog 191 [.sl 88 l, .c (.int .i64 n), .c v] (.tup []) := by
  have f0 : decide ((20 : Int) ≤ n) = false := decide_eq_false (by omega)
  have f1 : decide ((20 : Int) < n) = false := decide_eq_false (by omega)
  have hi := insVar_ac l n hn v
  refine ac_enter 63 Tryz.func191 rfl rfl rfl rfl ?_
  intro s w he
  repeat' (first
 | refine aw_region ?_
 | refine awo_nil ?_
 | refine k_seq ?_
 | (apply aw_1
    conv => whnf
    refine ⟨?_, trivial⟩)
 | (apply s_1
    conv => whnf; arg 1; arg 4; arg 3; whnf
    refine ⟨?_, ?_⟩)
 | exact trivial)
  refine aw_loop (fun _ st => Sub (cx EN Tryz.prog s w he) st (stS 63 [(0, .sl 88 l), (1, .c (.int .i64 n)), (2, .c v), (6, .c (.int .i64 20)), (7, .c (.int .i64 0)), (8, .c (.int .i64 20))] [])) 0 (Sub.live ⟨rfl, rfl, rfl, rfl, rfl, rfl, trivial⟩ trivial) ?_
  rintro j st hs
  refine aw_sub hs ?_
  clear hs
  repeat' (first
 | (apply aw_cond_kf
    · conv => lhs; whnf
    · assumption)
 | refine aw_region ?_
 | refine awo_nil ?_
 | refine k_seq ?_
 | (apply aw_1
    conv => whnf
    refine ⟨?_, trivial⟩)
 | (apply s_1
    conv => whnf; arg 1; arg 4; arg 3; whnf
    refine ⟨?_, ?_⟩)
 | (apply s_call rfl
    · conv => lhs; whnf
    · conv => lhs; whnf
    · first | exact hi)
 | refine k_seq_exit ?_
 | refine k_block_hit rfl ?_
 | refine k_loop_exit ?_
 | exact trivial)
  refine aw_loop (fun _ st => Sub (cx EN Tryz.prog s w he) st (stS 63 [(1, .c (.int .i64 n)), (6, .c (.int .i64 20))] [])) 0 (Sub.live ⟨rfl, rfl, trivial⟩ trivial) ?_
  rintro j2 st2 hs
  refine aw_sub hs ?_
  repeat' (first
 | (apply aw_cond_kf
    · conv => lhs; whnf
    · assumption)
 | refine aw_region ?_
 | refine awo_nil ?_
 | refine k_seq ?_
 | (apply aw_1
    conv => whnf
    refine ⟨?_, trivial⟩)
 | (apply s_1
    conv => whnf; arg 1; arg 4; arg 3; whnf
    refine ⟨?_, ?_⟩)
 | refine k_seq_exit ?_
 | refine k_block_hit rfl ?_
 | refine k_loop_exit ?_
 | refine k_end ?_
 | exact trivial)
  all_goals rfl
set_option maxHeartbeats 8000000 in
set_option maxRecDepth 100000 in
theorem sortVar_ac (l : List D) (hn : l.length ≤ 1) (v : Value) : AC EN Tryz.prog 108 [.sl 88 l, .c v] (.tup []) := by
  have hi := stableVar_ac l (l.length : Int) (by omega) v
  refine ac_enter 9 Tryz.func108 rfl rfl rfl rfl ?_
  intro s w he
  repeat' (first
 | refine aw_region ?_
 | refine awo_nil ?_
 | (apply s_1
    conv => whnf; arg 1; arg 4; arg 3; whnf
    refine ⟨?_, ?_⟩)
 | (apply s_call rfl
    · conv => lhs; whnf
    · conv => lhs; whnf
    · first | exact hi)
 | refine k_end ?_
 | exact trivial)
  all_goals rfl
set_option maxHeartbeats 8000000 in
set_option maxRecDepth 100000 in
theorem insDir_ac (l : List D) (n : Int) (hn : n ≤ 1) (v : Value) : AC EN Tryz.prog 316 [.sl 150 l, .c (.int .i64 0), .c (.int .i64 n), .c v] (.tup []) := by
  have f0 : decide ((0 : Int) + 1 < n) = false := decide_eq_false (by omega)
  refine ac_enter 53 Tryz.func316 rfl rfl rfl rfl ?_
  intro s w he
  repeat' (first
 | refine aw_region ?_
 | refine awo_nil ?_
 | refine k_seq ?_
 | (apply aw_1
    conv => whnf
    refine ⟨?_, trivial⟩)
 | (apply s_1
    conv => whnf; arg 1; arg 4; arg 3; whnf
    refine ⟨?_, ?_⟩)
 | exact trivial)
  · refine aw_loop (fun _ st => Sub (cx EN Tryz.prog s w he) st (stS 53 [(2, .c (.int .i64 n)), (8, .c (.int .i64 (0 + 1)))] [])) 0 (Sub.live ⟨rfl, rfl, trivial⟩ trivial) ?_
    rintro j st hs
    refine aw_sub hs ?_
    repeat' (first
 | (apply aw_cond_kf
    · conv => lhs; whnf
    · assumption)
 | refine aw_region ?_
 | refine awo_nil ?_
 | refine k_seq ?_
 | (apply aw_1
    conv => whnf
    refine ⟨?_, trivial⟩)
 | (apply s_1
    conv => whnf; arg 1; arg 4; arg 3; whnf
    refine ⟨?_, ?_⟩)
 | refine k_seq_exit ?_
 | refine k_block_hit rfl ?_
 | refine k_loop_exit ?_
 | refine k_end ?_
 | exact trivial)
    all_goals rfl
  · exact i64_ok (by omega)
set_option maxHeartbeats 8000000 in
set_option maxRecDepth 100000 in
theorem stableDir_ac (l : List D) (n : Int) (hn : n ≤ 1) (v : Value) : AC EN Tryz.prog 260 [.sl 150 l, .c (.int .i64 n), .c v] (.tup []) := by
  have f0 : decide ((20 : Int) ≤ n) = false := decide_eq_false (by omega)
  have f1 : decide ((20 : Int) < n) = false := decide_eq_false (by omega)
  have hi := insDir_ac l n hn v
  refine ac_enter 63 Tryz.func260 rfl rfl rfl rfl ?_
  intro s w he
  repeat' (first
 | refine aw_region ?_
 | refine awo_nil ?_
 | refine k_seq ?_
 | (apply aw_1
    conv => whnf
    refine ⟨?_, trivial⟩)
 | (apply s_1
    conv => whnf; arg 1; arg 4; arg 3; whnf
    refine ⟨?_, ?_⟩)
 | exact trivial)
  refine aw_loop (fun _ st => Sub (cx EN Tryz.prog s w he) st (stS 63 [(0, .sl 150 l), (1, .c (.int .i64 n)), (2, .c v), (6, .c (.int .i64 20)), (7, .c (.int .i64 0)), (8, .c (.int .i64 20))] [])) 0 (Sub.live ⟨rfl, rfl, rfl, rfl, rfl, rfl, trivial⟩ trivial) ?_
  rintro j st hs
  refine aw_sub hs ?_
  clear hs
  repeat' (first
 | (apply aw_cond_kf
    · conv => lhs; whnf
    · assumption)
 | refine aw_region ?_
 | refine awo_nil ?_
 | refine k_seq ?_
 | (apply aw_1
    conv => whnf
    refine ⟨?_, trivial⟩)
 | (apply s_1
    conv => whnf; arg 1; arg 4; arg 3; whnf
    refine ⟨?_, ?_⟩)
 | (apply s_call rfl
    · conv => lhs; whnf
    · conv => lhs; whnf
    · first | exact hi)
 | refine k_seq_exit ?_
 | refine k_block_hit rfl ?_
 | refine k_loop_exit ?_
 | exact trivial)
  refine aw_loop (fun _ st => Sub (cx EN Tryz.prog s w he) st (stS 63 [(1, .c (.int .i64 n)), (6, .c (.int .i64 20))] [])) 0 (Sub.live ⟨rfl, rfl, trivial⟩ trivial) ?_
  rintro j2 st2 hs
  refine aw_sub hs ?_
  repeat' (first
 | (apply aw_cond_kf
    · conv => lhs; whnf
    · assumption)
 | refine aw_region ?_
 | refine awo_nil ?_
 | refine k_seq ?_
 | (apply aw_1
    conv => whnf
    refine ⟨?_, trivial⟩)
 | (apply s_1
    conv => whnf; arg 1; arg 4; arg 3; whnf
    refine ⟨?_, ?_⟩)
 | refine k_seq_exit ?_
 | refine k_block_hit rfl ?_
 | refine k_loop_exit ?_
 | refine k_end ?_
 | exact trivial)
  all_goals rfl
set_option maxHeartbeats 8000000 in
set_option maxRecDepth 100000 in
theorem sortDir_ac (l : List D) (hn : l.length ≤ 1) (v : Value) : AC EN Tryz.prog 183 [.sl 150 l, .c v] (.tup []) := by
  have hi := stableDir_ac l (l.length : Int) (by omega) v
  refine ac_enter 9 Tryz.func183 rfl rfl rfl rfl ?_
  intro s w he
  repeat' (first
 | refine aw_region ?_
 | refine awo_nil ?_
 | (apply s_1
    conv => whnf; arg 1; arg 4; arg 3; whnf
    refine ⟨?_, ?_⟩)
 | (apply s_call rfl
    · conv => lhs; whnf
    · conv => lhs; whnf
    · first | exact hi)
 | refine k_end ?_
 | exact trivial)
  all_goals rfl
set_option maxHeartbeats 8000000 in
set_option maxRecDepth 100000 in
theorem insSel_ac (l : List D) (n : Int) (hn : n ≤ 1) (v : Value) : AC EN Tryz.prog 318 [.sl 76 l, .c (.int .i64 0), .c (.int .i64 n), .c v] (.tup []) := by
  have f0 : decide ((0 : Int) + 1 < n) = false := decide_eq_false (by omega)
  refine ac_enter 53 Tryz.func318 rfl rfl rfl rfl ?_
  intro s w he
  repeat' (first
 | refine aw_region ?_
 | refine awo_nil ?_
 | refine k_seq ?_
 | (apply aw_1
    conv => whnf
    refine ⟨?_, trivial⟩)
 | (apply s_1
    conv => whnf; arg 1; arg 4; arg 3; whnf
    refine ⟨?_, ?_⟩)
 | exact trivial)
  · refine aw_loop (fun _ st => Sub (cx EN Tryz.prog s w he) st (stS 53 [(2, .c (.int .i64 n)), (8, .c (.int .i64 (0 + 1)))] [])) 0 (Sub.live ⟨rfl, rfl, trivial⟩ trivial) ?_
    rintro j st hs
    refine aw_sub hs ?_
    repeat' (first
 | (apply aw_cond_kf
    · conv => lhs; whnf
    · assumption)
 | refine aw_region ?_
 | refine awo_nil ?_
 | refine k_seq ?_
 | (apply aw_1
    conv => whnf
    refine ⟨?_, trivial⟩)
 | (apply s_1
    conv => whnf; arg 1; arg 4; arg 3; whnf
    refine ⟨?_, ?_⟩)
 | refine k_seq_exit ?_
 | refine k_block_hit rfl ?_
 | refine k_loop_exit ?_
 | refine k_end ?_
 | exact trivial)
    all_goals rfl
  · exact i64_ok (by omega)
set_option maxHeartbeats 8000000 in
set_option maxRecDepth 100000 in
theorem stableSel_ac (l : List D) (n : Int) (hn : n ≤ 1) (v : Value) : AC EN Tryz.prog 261 [.sl 76 l, .c (.int .i64 n), .c v] (.tup []) := by
  have f0 : decide ((20 : Int) ≤ n) = false := decide_eq_false (by omega)
  have f1 : decide ((20 : Int) < n) = false := decide_eq_false (by omega)
  have hi := insSel_ac l n hn v
  refine ac_enter 63 Tryz.func261 rfl rfl rfl rfl ?_
  intro s w he
  repeat' (first
 | refine aw_region ?_
 | refine awo_nil ?_
 | refine k_seq ?_
 | (apply aw_1
    conv => whnf
    refine ⟨?_, trivial⟩)
 | (apply s_1
    conv => whnf; arg 1; arg 4; arg 3; whnf
    refine ⟨?_, ?_⟩)
 | exact trivial)
  refine aw_loop (fun _ st => Sub (cx EN Tryz.prog s w he) st (stS 63 [(0, .sl 76 l), (1, .c (.int .i64 n)), (2, .c v), (6, .c (.int .i64 20)), (7, .c (.int .i64 0)), (8, .c (.int .i64 20))] [])) 0 (Sub.live ⟨rfl, rfl, rfl, rfl, rfl, rfl, trivial⟩ trivial) ?_
  rintro j st hs
  refine aw_sub hs ?_
  clear hs
  repeat' (first
 | (apply aw_cond_kf
    · conv => lhs; whnf
    · assumption)
 | refine aw_region ?_
 | refine awo_nil ?_
 | refine k_seq ?_
 | (apply aw_1
    conv => whnf
    refine ⟨?_, trivial⟩)
 | (apply s_1
    conv => whnf; arg 1; arg 4; arg 3; whnf
    refine ⟨?_, ?_⟩)
 | (apply s_call rfl
    · conv => lhs; whnf
    · conv => lhs; whnf
    · first | exact hi)
 | refine k_seq_exit ?_
 | refine k_block_hit rfl ?_
 | refine k_loop_exit ?_
 | exact trivial)
  refine aw_loop (fun _ st => Sub (cx EN Tryz.prog s w he) st (stS 63 [(1, .c (.int .i64 n)), (6, .c (.int .i64 20))] [])) 0 (Sub.live ⟨rfl, rfl, trivial⟩ trivial) ?_
  rintro j2 st2 hs
  refine aw_sub hs ?_
  repeat' (first
 | (apply aw_cond_kf
    · conv => lhs; whnf
    · assumption)
 | refine aw_region ?_
 | refine awo_nil ?_
 | refine k_seq ?_
 | (apply aw_1
    conv => whnf
    refine ⟨?_, trivial⟩)
 | (apply s_1
    conv => whnf; arg 1; arg 4; arg 3; whnf
    refine ⟨?_, ?_⟩)
 | refine k_seq_exit ?_
 | refine k_block_hit rfl ?_
 | refine k_loop_exit ?_
 | refine k_end ?_
 | exact trivial)
  all_goals rfl
set_option maxHeartbeats 8000000 in
set_option maxRecDepth 100000 in
theorem sortSel_ac (l : List D) (hn : l.length ≤ 1) (v : Value) : AC EN Tryz.prog 186 [.sl 76 l, .c v] (.tup []) := by
  have hi := stableSel_ac l (l.length : Int) (by omega) v
  refine ac_enter 9 Tryz.func186 rfl rfl rfl rfl ?_
  intro s w he
  repeat' (first
 | refine aw_region ?_
 | refine awo_nil ?_
 | (apply s_1
    conv => whnf; arg 1; arg 4; arg 3; whnf
    refine ⟨?_, ?_⟩)
 | (apply s_call rfl
    · conv => lhs; whnf
    · conv => lhs; whnf
    · first | exact hi)
 | refine k_end ?_
 | exact trivial)
  all_goals rfl
set_option maxHeartbeats 8000000 in
set_option maxRecDepth 100000 in
theorem insArg_ac (l : List D) (n : Int) (hn : n ≤ 1) (v : Value) : AC EN Tryz.prog 350 [.sl 86 l, .c (.int .i64 0), .c (.int .i64 n), .c v] (.tup []) := by
  have f0 : decide ((0 : Int) + 1 < n) = false := decide_eq_false (by omega)
  refine ac_enter 53 Tryz.func350 rfl rfl rfl rfl ?_
  intro s w he
  repeat' (first
 | refine aw_region ?_
 | refine awo_nil ?_
 | refine k_seq ?_
 | (apply aw_1
    conv => whnf
    refine ⟨?_, trivial⟩)
 | (apply s_1
    conv => whnf; arg 1; arg 4; arg 3; whnf
    refine ⟨?_, ?_⟩)
 | exact trivial)
  · refine aw_loop (fun _ st => Sub (cx EN Tryz.prog s w he) st (stS 53 [(2, .c (.int .i64 n)), (8, .c (.int .i64 (0 + 1)))] [])) 0 (Sub.live ⟨rfl, rfl, trivial⟩ trivial) ?_
    rintro j st hs
    refine aw_sub hs ?_
    repeat' (first
 | (apply aw_cond_kf
    · conv => lhs; whnf
    · assumption)
 | refine aw_region ?_
 | refine awo_nil ?_
 | refine k_seq ?_
 | (apply aw_1
    conv => whnf
    refine ⟨?_, trivial⟩)
 | (apply s_1
    conv => whnf; arg 1; arg 4; arg 3; whnf
    refine ⟨?_, ?_⟩)
 | refine k_seq_exit ?_
 | refine k_block_hit rfl ?_
 | refine k_loop_exit ?_
 | refine k_end ?_
 | exact trivial)
    all_goals rfl
  · exact i64_ok (by omega)
set_option maxHeartbeats 8000000 in
set_option maxRecDepth 100000 in
theorem stableArg_ac (l : List D) (n : Int) (hn : n ≤ 1) (v : Value) : AC EN Tryz.prog 315 [.sl 86 l, .c (.int .i64 n), .c v] (.tup []) := by
  have f0 : decide ((20 : Int) ≤ n) = false := decide_eq_false (by omega)
  have f1 : decide ((20 : Int) < n) = false := decide_eq_false (by omega)
  have hi := insArg_ac l n hn v
  refine ac_enter 63 Tryz.func315 rfl rfl rfl rfl ?_
  intro s w he
  repeat' (first
 | refine aw_region ?_
 | refine awo_nil ?_
 | refine k_seq ?_
 | (apply aw_1
    conv => whnf
    refine ⟨?_, trivial⟩)
 | (apply s_1
    conv => whnf; arg 1; arg 4; arg 3; whnf
    refine ⟨?_, ?_⟩)
 | exact trivial)
  refine aw_loop (fun _ st => Sub (cx EN Tryz.prog s w he) st (stS 63 [(0, .sl 86 l), (1, .c (.int .i64 n)), (2, .c v), (6, .c (.int .i64 20)), (7, .c (.int .i64 0)), (8, .c (.int .i64 20))] [])) 0 (Sub.live ⟨rfl, rfl, rfl, rfl, rfl, rfl, trivial⟩ trivial) ?_
  rintro j st hs
  refine aw_sub hs ?_
  clear hs
  repeat' (first
 | (apply aw_cond_kf
    · conv => lhs; whnf
    · assumption)
 | refine aw_region ?_
 | refine awo_nil ?_
 | refine k_seq ?_
 | (apply aw_1
    conv => whnf
    refine ⟨?_, trivial⟩)
 | (apply s_1
    conv => whnf; arg 1; arg 4; arg 3; whnf
    refine ⟨?_, ?_⟩)
 | (apply s_call rfl
    · conv => lhs; whnf
    · conv => lhs; whnf
    · first | exact hi)
 | refine k_seq_exit ?_
 | refine k_block_hit rfl ?_
 | refine k_loop_exit ?_
 | exact trivial)
  refine aw_loop (fun _ st => Sub (cx EN Tryz.prog s w he) st (stS 63 [(1, .c (.int .i64 n)), (6, .c (.int .i64 20))] [])) 0 (Sub.live ⟨rfl, rfl, trivial⟩ trivial) ?_
  rintro j2 st2 hs
  refine aw_sub hs ?_
  repeat' (first
 | (apply aw_cond_kf
    · conv => lhs; whnf
    · assumption)
 | refine aw_region ?_
 | refine awo_nil ?_
 | refine k_seq ?_
 | (apply aw_1
    conv => whnf
    refine ⟨?_, trivial⟩)
 | (apply s_1
    conv => whnf; arg 1; arg 4; arg 3; whnf
    refine ⟨?_, ?_⟩)
 | refine k_seq_exit ?_
 | refine k_block_hit rfl ?_
 | refine k_loop_exit ?_
 | refine k_end ?_
 | exact trivial)
  all_goals rfl
set_option maxHeartbeats 8000000 in
set_option maxRecDepth 100000 in
theorem sortArg_ac (l : List D) (hn : l.length ≤ 1) (v : Value) : AC EN Tryz.prog 258 [.sl 86 l, .c v] (.tup []) := by
  have hi := stableArg_ac l (l.length : Int) (by omega) v
  refine ac_enter 9 Tryz.func258 rfl rfl rfl rfl ?_
  intro s w he
  repeat' (first
 | refine aw_region ?_
 | refine awo_nil ?_
 | (apply s_1
    conv => whnf; arg 1; arg 4; arg 3; whnf
    refine ⟨?_, ?_⟩)
 | (apply s_call rfl
    · conv => lhs; whnf
    · conv => lhs; whnf
    · first | exact hi)
 | refine k_end ?_
 | exact trivial)
  all_goals rfl
set_option maxHeartbeats 8000000 in
set_option maxRecDepth 100000 in
theorem insSelN_ac (n : Int) (hn : n ≤ 1) (v : Value) : AC EN Tryz.prog 318 [.c (.slice none 0 0), .c (.int .i64 0), .c (.int .i64 n), .c v] (.tup []) := by
  have f0 : decide ((0 : Int) + 1 < n) = false := decide_eq_false (by omega)
  refine ac_enter 53 Tryz.func318 rfl rfl rfl rfl ?_
  intro s w he
  repeat' (first
 | refine aw_region ?_
 | refine awo_nil ?_
 | refine k_seq ?_
 | (apply aw_1
    conv => whnf
    refine ⟨?_, trivial⟩)
 | (apply s_1
    conv => whnf; arg 1; arg 4; arg 3; whnf
    refine ⟨?_, ?_⟩)
 | exact trivial)
  · refine aw_loop (fun _ st => Sub (cx EN Tryz.prog s w he) st (stS 53 [(2, .c (.int .i64 n)), (8, .c (.int .i64 (0 + 1)))] [])) 0 (Sub.live ⟨rfl, rfl, trivial⟩ trivial) ?_
    rintro j st hs
    refine aw_sub hs ?_
    repeat' (first
 | (apply aw_cond_kf
    · conv => lhs; whnf
    · assumption)
 | refine aw_region ?_
 | refine awo_nil ?_
 | refine k_seq ?_
 | (apply aw_1
    conv => whnf
    refine ⟨?_, trivial⟩)
 | (apply s_1
    conv => whnf; arg 1; arg 4; arg 3; whnf
    refine ⟨?_, ?_⟩)
 | refine k_seq_exit ?_
 | refine k_block_hit rfl ?_
 | refine k_loop_exit ?_
 | refine k_end ?_
 | exact trivial)
    all_goals rfl
  · exact i64_ok (by omega)
set_option maxHeartbeats 8000000 in
set_option maxRecDepth 100000 in
theorem stableSelN_ac (n : Int) (hn : n ≤ 1) (v : Value) : AC EN Tryz.prog 261 [.c (.slice none 0 0), .c (.int .i64 n), .c v] (.tup []) := by
  have f0 : decide ((20 : Int) ≤ n) = false := decide_eq_false (by omega)
  have f1 : decide ((20 : Int) < n) = false := decide_eq_false (by omega)
  have hi := insSelN_ac n hn v
  refine ac_enter 63 Tryz.func261 rfl rfl rfl rfl ?_
  intro s w he
  repeat' (first
 | refine aw_region ?_
 | refine awo_nil ?_
 | refine k_seq ?_
 | (apply aw_1
    conv => whnf
    refine ⟨?_, trivial⟩)
 | (apply s_1
    conv => whnf; arg 1; arg 4; arg 3; whnf
    refine ⟨?_, ?_⟩)
 | exact trivial)
  refine aw_loop (fun _ st => Sub (cx EN Tryz.prog s w he) st (stS 63 [(0, .c (.slice none 0 0)), (1, .c (.int .i64 n)), (2, .c v), (6, .c (.int .i64 20)), (7, .c (.int .i64 0)), (8, .c (.int .i64 20))] [])) 0 (Sub.live ⟨rfl, rfl, rfl, rfl, rfl, rfl, trivial⟩ trivial) ?_
  rintro j st hs
  refine aw_sub hs ?_
  clear hs
  repeat' (first
 | (apply aw_cond_kf
    · conv => lhs; whnf
    · assumption)
 | refine aw_region ?_
 | refine awo_nil ?_
 | refine k_seq ?_
 | (apply aw_1
    conv => whnf
    refine ⟨?_, trivial⟩)
 | (apply s_1
    conv => whnf; arg 1; arg 4; arg 3; whnf
    refine ⟨?_, ?_⟩)
 | (apply s_call rfl
    · conv => lhs; whnf
    · conv => lhs; whnf
    · first | exact hi)
 | refine k_seq_exit ?_
 | refine k_block_hit rfl ?_
 | refine k_loop_exit ?_
 | exact trivial)
  refine aw_loop (fun _ st => Sub (cx EN Tryz.prog s w he) st (stS 63 [(1, .c (.int .i64 n)), (6, .c (.int .i64 20))] [])) 0 (Sub.live ⟨rfl, rfl, trivial⟩ trivial) ?_
  rintro j2 st2 hs
  refine aw_sub hs ?_
  repeat' (first
 | (apply aw_cond_kf
    · conv => lhs; whnf
    · assumption)
 | refine aw_region ?_
 | refine awo_nil ?_
 | refine k_seq ?_
 | (apply aw_1
    conv => whnf
    refine ⟨?_, trivial⟩)
 | (apply s_1
    conv => whnf; arg 1; arg 4; arg 3; whnf
    refine ⟨?_, ?_⟩)
 | refine k_seq_exit ?_
 | refine k_block_hit rfl ?_
 | refine k_loop_exit ?_
 | refine k_end ?_
 | exact trivial)
  all_goals rfl
set_option maxHeartbeats 8000000 in
set_option maxRecDepth 100000 in
theorem sortSelN_ac (v : Value) : AC EN Tryz.prog 186 [.c (.slice none 0 0), .c v] (.tup []) := by
  have hi := stableSelN_ac 0 (by decide) v
  refine ac_enter 9 Tryz.func186 rfl rfl rfl rfl ?_
  intro s w he
  repeat' (first
 | refine aw_region ?_
 | refine awo_nil ?_
 | (apply s_1
    conv => whnf; arg 1; arg 4; arg 3; whnf
    refine ⟨?_, ?_⟩)
 | (apply s_call rfl
    · conv => lhs; whnf
    · conv => lhs; whnf
    · first | exact hi)
 | refine k_end ?_
 | exact trivial)
  all_goals first
    | rfl
    | exact Nat.zero_le _
end Go.Proofs.YthjiclhfhjdjpaaGreatDoor
namespace Go.Proofs.YthjiclhfhjdjpaaGreatDoor
open Go.RowKit
attribute [local irreducible] wpList Calls Code.wp
section
variable {X : Cx} {nn : Nat} {st : Vst nn} {ops : Array Oper} {o : Oper} {l : List Oper} {Q : Vst nn → Prop} {d : Option Tmp} {k : Nat} {fr rd wr : Nat → List Nat}
theorem h_call {f : FuncId} {args : List V} {r : V} (hg : o.guard = none) (hd : o.dst = d) (h : act1 X.P st.rs (ev st) o.op = .call f args) (hc : AC X.e X.P f (outL args) r) (hf : nfB (fr k) r [] = true) (hK : absLexH X ops fr rd wr Q (k + 1) l (st.put d r)) : absLexH X ops fr rd wr Q k (o :: l) st :=
  ⟨r, [], .old (.inl ⟨by simp [gw, hg], .call h hc⟩) hf, by rw [hd]; exact hK⟩
end
end Go.Proofs.YthjiclhfhjdjpaaGreatDoor
namespace Go.Proofs.YthjiclhfhjdjpaaGreatDoor
open Go.RowKit
set_option linter.unusedSectionVars false
attribute [local irreducible] wpList Calls Code.wp AW AWo OpOk seqK blockK scopeK loopK endK AC absLex Yld Sub
attribute [local irreducible] ACB ACX absLexG YldG absLexH
def av5 : D := valD 2 5 [] [] []
def av0 : D := valD 2 0 [] [] []
def ag5 : D := argD [110] av5
def ag0 : D := argD [110] av0
def nmT : List UInt8 := [110, 97, 109, 101]
def se5 : D := selD 1 [97] nmT [] [ag5] [] []
def se0 : D := selD 1 [] nmT [] [ag0] [] []
def op5 : D := opD 3 [] [] [se5]
def op0 : D := opD 3 [] [] [se0]
set_option maxHeartbeats 8000000 in
set_option maxRecDepth 100000 in
theorem blank_ac : AC EN Tryz.prog 107 [.agg (cellsV Tryz.prog 12 84 av5)] (.agg (cellsV Tryz.prog 12 84 av0)) := by
  refine ac_enter 15 Tryz.func107 rfl rfl rfl rfl ?_
  intro s w he
  repeat' (first
 | (apply s_valW (WV av0) rfl rfl
    · conv => lhs; whnf; arg 2; whnf
    · repeat' (first | exact VLe.refl _ | exact VLe.nil _ | exact VLe.lit _ _ | exact VLe.own _ _ _ | apply VLe.agg | apply VLeL.cons | exact VLeL.nil))
 | refine aw_region ?_
 | refine awo_nil ?_
 | refine k_seq ?_
 | (apply aw_1
    conv => whnf
    refine ⟨?_, trivial⟩)
 | (apply s_1
    conv => whnf; arg 1; arg 4; arg 3; whnf
    refine ⟨?_, ?_⟩)
 | (apply s_box rfl rfl rfl rfl
    · conv => lhs; whnf; arg 1; whnf
    · rfl)
 | (apply s_store rfl rfl rfl
    · conv => lhs; whnf
    · conv => lhs; whnf; arg 1; whnf
    · conv => lhs; whnf; arg 1; whnf
    · exact ⟨by kernel_rfl, by kernel_rfl⟩
    · rfl)
 | refine k_seq_ret ?_
 | refine k_block_ret ?_
 | refine k_end_ret ?_
 | (refine ⟨_, by conv => lhs; whnf; arg 2; whnf, ?_⟩; conv => rhs; whnf)
 | exact trivial)
  all_goals rfl
noncomputable def HBa (o : List D) (i : Int) : Vst 25 := stS 25 [(3, .own 3 86 o), (6, .sl 86 [ag5]), (7, .c (.int .i64 1)), (8, .c (.int .i64 i))] [(3, .tok 86 o.length)]
set_option maxHeartbeats 8000000 in
set_option maxRecDepth 100000 in
theorem blankArgs_ac : AC EN Tryz.prog 182 [.sl 86 [ag5]] (.sl 86 [ag0]) := by
  refine ac_enter 25 Tryz.func182 rfl rfl rfl rfl ?_
  intro s w he
  repeat' (first
 | refine aw_region ?_
 | refine awo_nil ?_
 | refine k_seq ?_
 | (apply aw_1
    conv => whnf
    refine ⟨?_, trivial⟩)
 | (apply s_1
    conv => whnf; arg 1; arg 4; arg 3; whnf
    refine ⟨?_, ?_⟩)
 | exact trivial)
  refine aw_sub (Sub.own (t := 3) (e := 86) rfl rfl) ?_
  refine aw_loop (fun j st => (j = 1 ∧ Sub (cx EN Tryz.prog s w he) st (HBa [] 0)) ∨ (j = 0 ∧ Sub (cx EN Tryz.prog s w he) st (HBa [ag0] 1))) 1 (.inl ⟨rfl, Sub.live ⟨rfl, rfl, rfl, rfl, trivial⟩ ⟨rfl, trivial⟩⟩) ?_
  rintro j st (⟨rfl, hs⟩ | ⟨rfl, hs⟩)
  · refine aw_sub hs ?_
    repeat' (first
 | (apply g_valW (WA ag0) rfl rfl
    · conv => lhs; whnf; arg 2; whnf
    · repeat' (first | exact VLe.refl _ | exact VLe.nil _ | exact VLe.lit _ _ | exact VLe.own _ _ _ | apply VLe.agg | apply VLeL.cons | exact VLeL.nil))
 | (apply g_lit [ag0] rfl rfl
    · conv => lhs; whnf
    · first | exact elemA9 | (conv => lhs; whnf; arg 1; whnf)
    · rfl
    · rfl
    · repeat' (first | exact trivial | apply And.intro | rfl))
 | (apply aw_drawGn 10 ([(2,[5]),(4,[5])]) ([(8,[3])]) rfl (by kernel_rfl) (by kernel_rfl) (by kernel_rfl))
 | apply g_nil
 | (apply g_val rfl
    · conv => lhs; whnf
    · conv => lhs; whnf; arg 2; whnf)
 | (apply g_call rfl
    · conv => lhs; whnf
    · conv => lhs; whnf
    · first | exact blank_ac)
 | (apply g_app rfl rfl
    · conv => lhs; whnf
    · first | exact elemA9 | (conv => lhs; whnf; arg 1; whnf)
    · first | exact fun _ => rfl | (intro _; kernel_rfl)
    · conv => lhs; whnf
    · rfl
    · conv => lhs; whnf; arg 1; whnf
    · conv => lhs; whnf)
 | (show inO _ _ = true; rfl)
 | refine aw_region ?_
 | refine awo_nil ?_
 | refine k_seq ?_
 | refine k_block ?_
 | (apply aw_1
    conv => whnf
    refine ⟨?_, trivial⟩)
 | (apply s_1
    conv => whnf; arg 1; arg 4; arg 3; whnf
    refine ⟨?_, ?_⟩)
 | (apply s_store rfl rfl rfl
    · conv => lhs; whnf
    · conv => lhs; whnf; arg 1; whnf
    · conv => lhs; whnf; arg 1; whnf
    · exact ⟨by kernel_rfl, by kernel_rfl⟩
    · rfl)
 | exact trivial)
    · exact k_loop_next (Nat.lt_succ_self 0) (.inr ⟨rfl, Sub.live ⟨rfl, rfl, rfl, rfl, trivial⟩ ⟨rfl, trivial⟩⟩)
    all_goals decide
  · refine aw_sub hs ?_
    repeat' (first
 | refine aw_region ?_
 | refine awo_nil ?_
 | refine k_seq ?_
 | (apply aw_1
    conv => whnf
    refine ⟨?_, trivial⟩)
 | (apply s_1
    conv => whnf; arg 1; arg 4; arg 3; whnf
    refine ⟨?_, ?_⟩)
 | (apply s_call rfl
    · conv => lhs; whnf
    · conv => lhs; whnf
    · first | exact sortArg_ac [ag0] (by decide) _)
 | refine k_seq_exit ?_
 | refine k_block_hit rfl ?_
 | refine k_loop_exit ?_
 | refine k_end_ret ?_
 | (refine ⟨_, by conv => lhs; whnf; arg 2; whnf, ?_⟩; conv => rhs; whnf)
 | exact trivial)
    all_goals first
      | rfl
      | decide
set_option maxHeartbeats 8000000 in
set_option maxRecDepth 100000 in
theorem blankSels0_ac : AC EN Tryz.prog 106 [.sl 76 []] (.c (.slice none 0 0)) := by
  refine ac_enter 58 Tryz.func106 rfl rfl rfl rfl ?_
  intro s w he
  repeat' (first
 | refine aw_region ?_
 | refine awo_nil ?_
 | refine k_seq ?_
 | (apply aw_1
    conv => whnf
    refine ⟨?_, trivial⟩)
 | (apply s_1
    conv => whnf; arg 1; arg 4; arg 3; whnf
    refine ⟨?_, ?_⟩)
 | exact trivial)
  all_goals first
    | decide
    | skip
  refine aw_loop (fun _ st => Sub (cx EN Tryz.prog s w he) st (stS 58 [(3, .c (.slice none 0 0)), (9, .sl 76 []), (10, .c (.int .i64 0)), (11, .c (.int .i64 0))] [])) 0 (Sub.live ⟨rfl, rfl, rfl, rfl, trivial⟩ trivial) ?_
  rintro j st hs
  refine aw_sub hs ?_
  repeat' (first
 | refine aw_region ?_
 | refine awo_nil ?_
 | refine k_seq ?_
 | (apply aw_1
    conv => whnf
    refine ⟨?_, trivial⟩)
 | (apply s_1
    conv => whnf; arg 1; arg 4; arg 3; whnf
    refine ⟨?_, ?_⟩)
 | (apply s_call rfl
    · conv => lhs; whnf
    · conv => lhs; whnf
    · first | exact sortSelN_ac _)
 | refine k_seq_exit ?_
 | refine k_block_hit rfl ?_
 | refine k_loop_exit ?_
 | refine k_end_ret ?_
 | (refine ⟨_, by conv => lhs; whnf; arg 2; whnf, ?_⟩; conv => rhs; whnf)
 | exact trivial)
  all_goals first
    | rfl
    | decide
noncomputable def HBs (o : List D) (i : Int) : Vst 58 := stS 58 [(3, .own 3 76 o), (9, .sl 76 [se5]), (10, .c (.int .i64 1)), (11, .c (.int .i64 i))] [(3, .tok 76 o.length)]
noncomputable def HBd : Vst 58 := stS 58 [(3, .own 3 76 []), (6, .bx 6 0), (9, .sl 76 [se5]), (10, .c (.int .i64 1)), (11, .c (.int .i64 0)), (29, .sl 150 []), (30, .c (.int .i64 0)), (31, .c (.int .i64 0))] [(3, .tok 76 ([] : List D).length), (6, .box 76 (cellsV Tryz.prog 12 76 se0))]
noncomputable def HBc : Vst 58 := stS 58 [(3, .own 3 76 []), (5, .bx 5 0), (9, .sl 76 [se5]), (10, .c (.int .i64 1)), (11, .c (.int .i64 0))] [(3, .tok 76 ([] : List D).length), (5, .box 76 (cellsV Tryz.prog 12 76 se5))]
set_option maxHeartbeats 8000000 in
set_option maxRecDepth 100000 in
theorem blankSels1_ac : AC EN Tryz.prog 106 [.sl 76 [se5]] (.sl 76 [se0]) := by
  have h1 := blankArgs_ac
  have h2 := blankSels0_ac
  refine ac_enter 58 Tryz.func106 rfl rfl rfl rfl ?_
  intro s w he
  repeat' (first
 | refine aw_region ?_
 | refine awo_nil ?_
 | refine k_seq ?_
 | (apply aw_1
    conv => whnf
    refine ⟨?_, trivial⟩)
 | (apply s_1
    conv => whnf; arg 1; arg 4; arg 3; whnf
    refine ⟨?_, ?_⟩)
 | exact trivial)
  refine aw_sub (Sub.own (t := 3) (e := 76) rfl rfl) ?_
  refine aw_loop (fun j st => (j = 1 ∧ Sub (cx EN Tryz.prog s w he) st (HBs [] 0)) ∨ (j = 0 ∧ Sub (cx EN Tryz.prog s w he) st (HBs [se0] 1))) 1 (.inl ⟨rfl, Sub.live ⟨rfl, rfl, rfl, rfl, trivial⟩ ⟨rfl, trivial⟩⟩) ?_
  rintro j st (⟨rfl, hs⟩ | ⟨rfl, hs⟩)
  · refine aw_sub hs ?_
    clear hs
    repeat' (first
 | (apply aw_drawA ([(1,[5]),(3,[5]),(5,[5]),(7,[5]),(10,[5])]) ([(13,[6]),(14,[6])]) ([(13,6)]) rfl (by kernel_rfl) (by kernel_rfl) (by kernel_rfl) (by intro p hp; simp only [List.mem_cons, List.not_mem_nil, or_false] at hp; rcases hp with rfl <;> (repeat' (first | exact fresh_S rfl | refine fresh_put ?_ rfl | refine fresh_res ?_ rfl rfl))))
 | apply h_nil
 | (apply h_valW ((WS se0)) rfl rfl
    · conv => lhs; whnf; arg 2; whnf
    · repeat' (first | exact VLe.refl _ | exact VLe.nil _ | exact VLe.lit _ _ | exact VLe.own _ _ _ | apply VLe.agg | apply VLeL.cons | exact VLeL.nil)
    · kernel_rfl)
 | (apply h_alloc rfl rfl rfl rfl
    · conv => lhs; whnf; arg 1; whnf
    · rfl
    · rfl
    · kernel_rfl)
 | (apply h_val rfl
    · conv => lhs; whnf
    · conv => lhs; whnf; arg 2; whnf
    · kernel_rfl)
 | (apply h_store rfl rfl rfl
    · conv => lhs; whnf
    · rfl
    · conv => lhs; whnf; arg 1; whnf
    · conv => lhs; whnf; arg 1; whnf
    · exact ⟨by kernel_rfl, by kernel_rfl⟩
    · rfl
    · kernel_rfl)
 | (apply h_call rfl
    · conv => lhs; whnf
    · conv => lhs; whnf
    · first | exact h1 | exact h2
    · kernel_rfl)
 | (show inO _ _ = true; rfl)
 | apply aw_cutAt 5 (HBc) rfl
 | refine k_cut ?_
 | refine aw_region ?_
 | refine awo_nil ?_
 | refine k_seq ?_
 | (apply aw_1
    conv => whnf
    refine ⟨?_, trivial⟩)
 | (apply s_1
    conv => whnf; arg 1; arg 4; arg 3; whnf
    refine ⟨?_, ?_⟩)
 | (apply s_store rfl rfl rfl
    · conv => lhs; whnf
    · conv => lhs; whnf; arg 1; whnf
    · conv => lhs; whnf; arg 1; whnf
    · exact ⟨by kernel_rfl, by kernel_rfl⟩
    · rfl)
 | exact trivial)
    all_goals first
      | exact Sub.live ⟨rfl, rfl, rfl, rfl, rfl, trivial⟩ ⟨rfl, rfl, trivial⟩
      | decide
      | skip
    refine aw_loop (fun _ st => Sub (cx EN Tryz.prog s w he) st HBd) 0 (Sub.live ⟨rfl, rfl, rfl, rfl, rfl, rfl, rfl, rfl, trivial⟩ ⟨rfl, rfl, trivial⟩) ?_
    rintro j2 st2 hs
    refine aw_sub hs ?_
    clear hs
    repeat' (first
 | (apply s_lit [se0] rfl rfl
    · conv => lhs; whnf
    · first | exact elemS9 | (conv => lhs; whnf; arg 1; whnf)
    · rfl
    · rfl
    · repeat' (first | exact trivial | apply And.intro | rfl))
 | refine aw_region ?_
 | refine awo_nil ?_
 | refine k_seq ?_
 | refine k_block ?_
 | (apply aw_1
    conv => whnf
    refine ⟨?_, trivial⟩)
 | (apply s_1
    conv => whnf; arg 1; arg 4; arg 3; whnf
    refine ⟨?_, ?_⟩)
 | (apply s_call rfl
    · conv => lhs; whnf
    · conv => lhs; whnf
    · first | exact sortDir_ac [] (by decide) _)
 | (apply s_app rfl rfl
    · conv => lhs; whnf
    · first | exact elemS9 | (conv => lhs; whnf; arg 1; whnf)
    · first | exact fun _ => rfl | (intro _; kernel_rfl)
    · conv => lhs; whnf
    · conv => lhs; whnf; arg 1; whnf
    · conv => lhs; whnf)
 | refine k_seq_exit ?_
 | refine k_block_hit rfl ?_
 | refine k_loop_exit ?_
 | exact trivial)
    all_goals first
      | exact k_loop_next (Nat.lt_succ_self 0) (Or.inr ⟨rfl, Sub.live ⟨rfl, rfl, rfl, rfl, trivial⟩ ⟨rfl, trivial⟩⟩)
      | decide
      | skip
  · refine aw_sub hs ?_
    clear hs
    repeat' (first
 | refine aw_region ?_
 | refine awo_nil ?_
 | refine k_seq ?_
 | (apply aw_1
    conv => whnf
    refine ⟨?_, trivial⟩)
 | (apply s_1
    conv => whnf; arg 1; arg 4; arg 3; whnf
    refine ⟨?_, ?_⟩)
 | (apply s_call rfl
    · conv => lhs; whnf
    · conv => lhs; whnf
    · first | exact sortSel_ac [se0] (by decide) _)
 | refine k_seq_exit ?_
 | refine k_block_hit rfl ?_
 | refine k_loop_exit ?_
 | refine k_end_ret ?_
 | (refine ⟨_, by conv => lhs; whnf; arg 2; whnf, ?_⟩; conv => rhs; whnf)
 | exact trivial)
    all_goals first
      | rfl
      | decide
noncomputable def HRc (l : List D) (n i : Int) : Vst 52 := stS 52 [(2, .c (.slice none 0 0)), (3, .bx 3 0), (10, .sl 76 l), (11, .c (.int .i64 n)), (12, .c (.int .i64 i))] [(3, .box 41 [.sl 57 [op5], .sl 116 []])]
set_option maxHeartbeats 8000000 in
set_option maxRecDepth 100000 in
theorem reach0_ac : AC EN Tryz.prog 111 [.agg [.sl 57 [op5], .sl 116 []], .sl 76 [], .c (.slice none 0 0)] (.c (.slice none 0 0)) := by
  refine ac_enter 52 Tryz.func111 rfl rfl rfl rfl ?_
  intro s w he
  repeat' (first
 | refine aw_region ?_
 | refine awo_nil ?_
 | refine k_seq ?_
 | (apply aw_1
    conv => whnf
    refine ⟨?_, trivial⟩)
 | (apply s_1
    conv => whnf; arg 1; arg 4; arg 3; whnf
    refine ⟨?_, ?_⟩)
 | (apply s_box rfl rfl rfl rfl
    · conv => lhs; whnf; arg 1; whnf
    · rfl)
 | exact trivial)
  all_goals first
    | decide
    | skip
  refine aw_loop (fun _ st => Sub (cx EN Tryz.prog s w he) st (HRc [] 0 0)) 0 (Sub.live ⟨rfl, rfl, rfl, rfl, rfl, trivial⟩ ⟨rfl, trivial⟩) ?_
  rintro j st hs
  refine aw_sub hs ?_
  clear hs
  repeat' (first
 | refine aw_region ?_
 | refine awo_nil ?_
 | refine k_seq ?_
 | (apply aw_1
    conv => whnf
    refine ⟨?_, trivial⟩)
 | (apply s_1
    conv => whnf; arg 1; arg 4; arg 3; whnf
    refine ⟨?_, ?_⟩)
 | refine k_seq_exit ?_
 | refine k_block_hit rfl ?_
 | refine k_loop_exit ?_
 | refine k_end_ret ?_
 | (refine ⟨_, by conv => lhs; whnf; arg 2; whnf, ?_⟩; conv => rhs; whnf)
 | exact trivial)
  all_goals first
    | rfl
    | decide
set_option maxHeartbeats 8000000 in
set_option maxRecDepth 100000 in
theorem reach1_ac : AC EN Tryz.prog 111 [.agg [.sl 57 [op5], .sl 116 []], .sl 76 [se5], .c (.slice none 0 0)] (.c (.slice none 0 0)) := by
  have h1 := reach0_ac
  refine ac_enter 52 Tryz.func111 rfl rfl rfl rfl ?_
  intro s w he
  repeat' (first
 | refine aw_region ?_
 | refine awo_nil ?_
 | refine k_seq ?_
 | (apply aw_1
    conv => whnf
    refine ⟨?_, trivial⟩)
 | (apply s_1
    conv => whnf; arg 1; arg 4; arg 3; whnf
    refine ⟨?_, ?_⟩)
 | (apply s_box rfl rfl rfl rfl
    · conv => lhs; whnf; arg 1; whnf
    · rfl)
 | exact trivial)
  all_goals first
    | decide
    | skip
  refine aw_loop (fun j st => (j = 1 ∧ Sub (cx EN Tryz.prog s w he) st (HRc [se5] 1 0)) ∨ (j = 0 ∧ Sub (cx EN Tryz.prog s w he) st (HRc [se5] 1 1))) 1 (.inl ⟨rfl, Sub.live ⟨rfl, rfl, rfl, rfl, rfl, trivial⟩ ⟨rfl, trivial⟩⟩) ?_
  rintro j st (⟨rfl, hs⟩ | ⟨rfl, hs⟩)
  · refine aw_sub hs ?_
    clear hs
    repeat' (first
 | refine aw_region ?_
 | refine awo_nil ?_
 | refine k_seq ?_
 | (apply aw_1
    conv => whnf
    refine ⟨?_, trivial⟩)
 | (apply s_1
    conv => whnf; arg 1; arg 4; arg 3; whnf
    refine ⟨?_, ?_⟩)
 | (apply s_call rfl
    · conv => lhs; whnf
    · conv => lhs; whnf
    · first | exact h1)
 | (apply s_store rfl rfl rfl
    · conv => lhs; whnf
    · conv => lhs; whnf; arg 1; whnf
    · conv => lhs; whnf; arg 1; whnf
    · exact ⟨by kernel_rfl, by kernel_rfl⟩
    · rfl)
 | refine k_seq_exit ?_
 | refine k_block_hit rfl ?_
 | exact trivial)
    · exact k_loop_next (Nat.lt_succ_self 0) (.inr ⟨rfl, Sub.live ⟨rfl, rfl, rfl, rfl, rfl, trivial⟩ ⟨rfl, trivial⟩⟩)
    all_goals decide
  · refine aw_sub hs ?_
    clear hs
    repeat' (first
 | refine aw_region ?_
 | refine awo_nil ?_
 | refine k_seq ?_
 | (apply aw_1
    conv => whnf
    refine ⟨?_, trivial⟩)
 | (apply s_1
    conv => whnf; arg 1; arg 4; arg 3; whnf
    refine ⟨?_, ?_⟩)
 | refine k_seq_exit ?_
 | refine k_block_hit rfl ?_
 | refine k_loop_exit ?_
 | refine k_end_ret ?_
 | (refine ⟨_, by conv => lhs; whnf; arg 2; whnf, ?_⟩; conv => rhs; whnf)
 | exact trivial)
    all_goals first
      | rfl
      | decide
set_option maxHeartbeats 8000000 in
set_option maxRecDepth 100000 in
theorem insStr_ac : AC EN Tryz.prog 268 [.c (.slice none 0 0), .c (.int .i64 0), .c (.int .i64 0)] (.tup []) := by
  refine ac_enter 49 Tryz.func268 rfl rfl rfl rfl ?_
  intro s w he
  repeat' (first
 | refine aw_region ?_
 | refine awo_nil ?_
 | refine k_seq ?_
 | (apply aw_1
    conv => whnf
    refine ⟨?_, trivial⟩)
 | (apply s_1
    conv => whnf; arg 1; arg 4; arg 3; whnf
    refine ⟨?_, ?_⟩)
 | exact trivial)
  · refine aw_loop (fun _ st => Sub (cx EN Tryz.prog s w he) st (stS 49 [(2, .c (.int .i64 0)), (6, .c (.int .i64 (0 + 1)))] [])) 0 (Sub.live ⟨rfl, rfl, trivial⟩ trivial) ?_
    rintro j st hs
    refine aw_sub hs ?_
    repeat' (first
 | refine aw_region ?_
 | refine awo_nil ?_
 | refine k_seq ?_
 | (apply aw_1
    conv => whnf
    refine ⟨?_, trivial⟩)
 | (apply s_1
    conv => whnf; arg 1; arg 4; arg 3; whnf
    refine ⟨?_, ?_⟩)
 | refine k_seq_exit ?_
 | refine k_block_hit rfl ?_
 | refine k_loop_exit ?_
 | refine k_end ?_
 | exact trivial)
    all_goals rfl
  · decide
set_option maxHeartbeats 8000000 in
set_option maxRecDepth 100000 in
theorem pdq_ac (n : Int) : AC EN Tryz.prog 195 [.c (.slice none 0 0), .c (.int .i64 0), .c (.int .i64 0), .c (.int .i64 n)] (.tup []) := by
  have h1 := insStr_ac
  refine ac_enter 134 Tryz.func195 rfl rfl rfl rfl ?_
  intro s w he
  repeat' (first
 | refine aw_region ?_
 | refine awo_nil ?_
 | refine k_seq ?_
 | (apply aw_1
    conv => whnf
    refine ⟨?_, trivial⟩)
 | (apply s_1
    conv => whnf; arg 1; arg 4; arg 3; whnf
    refine ⟨?_, ?_⟩)
 | exact trivial)
  refine aw_loop (fun _ st => Sub (cx EN Tryz.prog s w he) st (stS 134 [(0, .c (.slice none 0 0)), (1, .c (.int .i64 0)), (2, .c (.int .i64 0)), (3, .c (.int .i64 n))] [])) 0 (Sub.live ⟨rfl, rfl, rfl, rfl, trivial⟩ trivial) ?_
  rintro j st hs
  refine aw_sub hs ?_
  clear hs
  repeat' (first
 | refine aw_region ?_
 | refine awo_nil ?_
 | refine k_seq ?_
 | (apply aw_1
    conv => whnf
    refine ⟨?_, trivial⟩)
 | (apply s_1
    conv => whnf; arg 1; arg 4; arg 3; whnf
    refine ⟨?_, ?_⟩)
 | (apply s_call rfl
    · conv => lhs; whnf
    · conv => lhs; whnf
    · first | exact h1)
 | refine k_seq_ret ?_
 | refine k_block_ret ?_
 | refine k_loop_ret ?_
 | refine k_end_ret ?_
 | exact trivial)
  all_goals first
    | rfl
    | decide
set_option maxHeartbeats 8000000 in
set_option maxRecDepth 100000 in
theorem len64_ac : AC EN Tryz.prog 278 [.c (.int .u64 0)] (.c (.int .i64 0)) := by
  refine ac_enter 25 Tryz.func278 rfl rfl rfl rfl ?_
  intro s w he
  repeat' (first
 | refine aw_region ?_
 | refine awo_nil ?_
 | refine k_seq ?_
 | (apply aw_1
    conv => whnf
    refine ⟨?_, trivial⟩)
 | (apply s_1
    conv => whnf; arg 1; arg 4; arg 3; whnf
    refine ⟨?_, ?_⟩)
 | refine k_end_ret ?_
 | (refine ⟨_, by conv => lhs; whnf; arg 2; whnf, ?_⟩; conv => rhs; whnf)
 | exact trivial)
  all_goals first
    | rfl
    | decide
    | exact ⟨by kernel_rfl, Int.le_refl _, of_decide_eq_true (by kernel_rfl)⟩
set_option maxHeartbeats 8000000 in
set_option maxRecDepth 100000 in
theorem bitsLen_ac : AC EN Tryz.prog 196 [.c (.int .u64 0)] (.c (.int .i64 0)) := by
  have h1 := len64_ac
  refine ac_enter 8 Tryz.func196 rfl rfl rfl rfl ?_
  intro s w he
  repeat' (first
 | refine aw_region ?_
 | refine awo_nil ?_
 | refine k_seq ?_
 | (apply aw_1
    conv => whnf
    refine ⟨?_, trivial⟩)
 | (apply s_1
    conv => whnf; arg 1; arg 4; arg 3; whnf
    refine ⟨?_, ?_⟩)
 | (apply s_call rfl
    · conv => lhs; whnf
    · conv => lhs; whnf
    · first | exact h1)
 | refine k_end_ret ?_
 | (refine ⟨_, by conv => lhs; whnf; arg 2; whnf, ?_⟩; conv => rhs; whnf)
 | exact trivial)
  all_goals first
    | rfl
    | decide
set_option maxHeartbeats 8000000 in
set_option maxRecDepth 100000 in
theorem sortStr_ac : AC EN Tryz.prog 112 [.c (.slice none 0 0)] (.tup []) := by
  have h1 := bitsLen_ac
  have h2 := pdq_ac 0
  refine ac_enter 11 Tryz.func112 rfl rfl rfl rfl ?_
  intro s w he
  repeat' (first
 | refine aw_region ?_
 | refine awo_nil ?_
 | refine k_seq ?_
 | (apply aw_1
    conv => whnf
    refine ⟨?_, trivial⟩)
 | (apply s_1
    conv => whnf; arg 1; arg 4; arg 3; whnf
    refine ⟨?_, ?_⟩)
 | (apply s_call rfl
    · conv => lhs; whnf
    · conv => lhs; whnf
    · first | exact h1 | exact h2)
 | refine k_end ?_
 | exact trivial)
  all_goals first
    | rfl
    | decide
noncomputable def WQ (o : List D) : V := .agg [.sl 57 o, .sl 116 []]
noncomputable def HSi : Vst 112 := stS 112 [(2, .bx 2 0), (4, .bx 4 0), (5, .bx 5 0), (6, .bx 6 0), (39, .sl 88 []), (40, .c (.int .i64 0)), (41, .c (.int .i64 0))] [(2, .box 41 [.sl 57 [op5], .sl 116 []]), (4, .box 41 [.c (.slice none 0 0), .c (.slice none 0 0)]), (5, .box 57 (cellsV Tryz.prog 12 57 op5)), (6, .box 57 (cellsV Tryz.prog 12 57 op0))]
noncomputable def HSj : Vst 112 := stS 112 [(4, .bx 4 0), (10, .bx 10 0), (80, .c (.slice none 0 0)), (81, .c (.int .i64 0)), (82, .c (.int .i64 0))] [(4, .box 41 [.c (.slice none 0 0), .c (.slice none 0 0)]), (10, .box 41 [.sl 57 [op0], .sl 116 []])]
noncomputable def HSc : Vst 112 := stS 112 [(2, .bx 2 0), (4, .bx 4 0), (5, .bx 5 0)] [(2, .box 41 [.sl 57 [op5], .sl 116 []]), (4, .box 41 [.c (.slice none 0 0), .c (.slice none 0 0)]), (5, .box 57 (cellsV Tryz.prog 12 57 op5))]
set_option maxHeartbeats 8000000 in
set_option maxRecDepth 100000 in
theorem sign_ac : AC EN Tryz.prog 54 [.agg [.sl 57 [op5], .sl 116 []], .c (.int .i64 0)] (.agg [.sl 57 [op0], .sl 116 []]) := by
  have h1 := blankSels1_ac
  have h2 := reach1_ac
  have h3 := sortStr_ac
  refine ac_enter 112 Tryz.func54 rfl rfl rfl rfl ?_
  intro s w he
  repeat' (first
 | (apply aw_drawA ([(1,[5]),(3,[5]),(5,[5])]) ([(8,[6]),(9,[6])]) ([(8,6)]) rfl (by kernel_rfl) (by kernel_rfl) (by kernel_rfl) (by intro p hp; simp only [List.mem_cons, List.not_mem_nil, or_false] at hp; rcases hp with rfl <;> (repeat' (first | exact fresh_S rfl | refine fresh_put ?_ rfl | refine fresh_res ?_ rfl rfl))))
 | apply h_nil
 | (apply h_valW ((WO op0)) rfl rfl
    · conv => lhs; whnf; arg 2; whnf
    · repeat' (first | exact VLe.refl _ | exact VLe.nil _ | exact VLe.lit _ _ | exact VLe.own _ _ _ | apply VLe.agg | apply VLeL.cons | exact VLeL.nil)
    · kernel_rfl)
 | (apply h_alloc rfl rfl rfl rfl
    · conv => lhs; whnf; arg 1; whnf
    · rfl
    · rfl
    · kernel_rfl)
 | (apply h_val rfl
    · conv => lhs; whnf
    · conv => lhs; whnf; arg 2; whnf
    · kernel_rfl)
 | (apply h_store rfl rfl rfl
    · conv => lhs; whnf
    · rfl
    · conv => lhs; whnf; arg 1; whnf
    · conv => lhs; whnf; arg 1; whnf
    · exact ⟨by kernel_rfl, by kernel_rfl⟩
    · rfl
    · kernel_rfl)
 | (apply h_call rfl
    · conv => lhs; whnf
    · conv => lhs; whnf
    · first | exact h1
    · kernel_rfl)
 | (show inO _ _ = true; rfl)
 | apply aw_cutAt 4 (HSc) rfl
 | refine k_cut ?_
 | refine aw_region ?_
 | refine awo_nil ?_
 | refine k_seq ?_
 | (apply aw_1
    conv => whnf
    refine ⟨?_, trivial⟩)
 | (apply s_1
    conv => whnf; arg 1; arg 4; arg 3; whnf
    refine ⟨?_, ?_⟩)
 | (apply s_box rfl rfl rfl rfl
    · conv => lhs; whnf; arg 1; whnf
    · rfl)
 | (apply s_store rfl rfl rfl
    · conv => lhs; whnf
    · conv => lhs; whnf; arg 1; whnf
    · conv => lhs; whnf; arg 1; whnf
    · exact ⟨by kernel_rfl, by kernel_rfl⟩
    · rfl)
 | exact trivial)
  all_goals first
    | exact Sub.live ⟨rfl, rfl, rfl, trivial⟩ ⟨rfl, rfl, rfl, trivial⟩
    | decide
    | skip
  refine aw_loop (fun _ st => Sub (cx EN Tryz.prog s w he) st HSi) 0 (Sub.live ⟨rfl, rfl, rfl, rfl, rfl, rfl, rfl, trivial⟩ ⟨rfl, rfl, rfl, rfl, trivial⟩) ?_
  rintro j st hs
  refine aw_sub hs ?_
  clear hs
  repeat' (first
 | (apply s_lit [op0] rfl rfl
    · conv => lhs; whnf
    · first | exact elemO9 | (conv => lhs; whnf; arg 1; whnf)
    · rfl
    · rfl
    · repeat' (first | exact trivial | apply And.intro | rfl))
 | (apply s_valW (WQ [op0]) rfl rfl
    · conv => lhs; whnf; arg 2; whnf
    · repeat' (first | exact VLe.refl _ | exact VLe.nil _ | exact VLe.lit _ _ | exact VLe.own _ _ _ | apply VLe.agg | apply VLeL.cons | exact VLeL.nil))
 | refine aw_region ?_
 | refine awo_nil ?_
 | refine k_seq ?_
 | (apply aw_1
    conv => whnf
    refine ⟨?_, trivial⟩)
 | (apply s_1
    conv => whnf; arg 1; arg 4; arg 3; whnf
    refine ⟨?_, ?_⟩)
 | (apply s_call rfl
    · conv => lhs; whnf
    · conv => lhs; whnf
    · first | exact sortVar_ac [] (by decide) _ | exact h2 | exact h3)
 | (apply s_store rfl rfl rfl
    · conv => lhs; whnf
    · conv => lhs; whnf; arg 1; whnf
    · conv => lhs; whnf; arg 1; whnf
    · exact ⟨by kernel_rfl, by kernel_rfl⟩
    · rfl)
 | refine k_seq_exit ?_
 | refine k_block_hit rfl ?_
 | refine k_loop_exit ?_
 | exact trivial)
  all_goals first
    | decide
    | skip
  refine aw_loop (fun _ st => Sub (cx EN Tryz.prog s w he) st HSj) 0 (Sub.live ⟨rfl, rfl, rfl, rfl, rfl, trivial⟩ ⟨rfl, rfl, trivial⟩) ?_
  rintro j2 st2 hs
  refine aw_sub hs ?_
  clear hs
  repeat' (first
 | refine aw_region ?_
 | refine awo_nil ?_
 | refine k_seq ?_
 | (apply aw_1
    conv => whnf
    refine ⟨?_, trivial⟩)
 | (apply s_1
    conv => whnf; arg 1; arg 4; arg 3; whnf
    refine ⟨?_, ?_⟩)
 | (apply s_store rfl rfl rfl
    · conv => lhs; whnf
    · conv => lhs; whnf; arg 1; whnf
    · conv => lhs; whnf; arg 1; whnf
    · exact ⟨by kernel_rfl, by kernel_rfl⟩
    · rfl)
 | refine k_seq_exit ?_
 | refine k_block_hit rfl ?_
 | refine k_loop_exit ?_
 | refine k_end_ret ?_
 | (refine ⟨_, by conv => lhs; whnf; arg 2; whnf, ?_⟩; conv => rhs; whnf)
 | exact trivial)
  all_goals first
    | rfl
    | decide
end Go.Proofs.YthjiclhfhjdjpaaGreatDoor
