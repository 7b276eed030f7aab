/- Parts of a proof, merged by a program (shake.py). -/
import Derived.Test.YthjiclhfhjdjpaaGreatDoorQ33
set_option linter.unusedVariables false
set_option linter.unusedSimpArgs false
namespace Go.Proofs.YthjiclhfhjdjpaaGreatDoor
open Go.RowKit
set_option linter.unusedSectionVars false
attribute [local irreducible] wpList Calls Code.wp AW AWo OpOk seqK blockK scopeK loopK endK AC absLex Yld Sub
attribute [local irreducible] ACB ACX absLexG YldG absLexH
set_option maxHeartbeats 8000000 in
set_option maxRecDepth 100000 in
theorem toL_tx (s : ByteArray) : s.toList = tx s := by rw [Lib.toList_data]; rfl
set_option maxHeartbeats 8000000 in
set_option maxRecDepth 100000 in
theorem cmpB_less : ∀ a b : List UInt8, Lib.compareBytes a b = if Op.bytesLess a b then -1 else if a == b then 0 else 1
  | [], [] => rfl
  | [], _ :: _ => rfl
  | _ :: _, [] => by simp [Lib.compareBytes, Op.bytesLess]
  | a :: ar, b :: br => by
    have ih := cmpB_less ar br
    rw [Lib.compareBytes]
    by_cases h : a < b
    · simp [h, Op.bytesLess]
    · by_cases h2 : b < a
      · have : a ≠ b := by rintro rfl; exact h h2
        simp [h, h2, Op.bytesLess, this]
      · have : a = b := UInt8.le_antisymm (UInt8.not_lt.1 h2) (UInt8.not_lt.1 h)
        subst this
        rw [if_neg h, if_neg h, ih]; simp [Op.bytesLess, h]
set_option maxHeartbeats 8000000 in
set_option maxRecDepth 100000 in
theorem intsR_ac (a b : Int) : AC EN Tryz.prog 285 [.c (.int .i64 a), .c (.int .i64 b)] (.c (.int .i64 (ordI a b))) := by
  refine ac_enter 11 Tryz.func285 rfl rfl rfl rfl ?_
  intro s w he
  repeat' (first
 | refine aw_seq ?_
 | refine aw_region ?_
 | refine awo_nil ?_
 | refine k_seq ?_
 | refine aw_skip ?_
 | (apply s_val rfl
    · conv => lhs; whnf
    · conv => lhs; whnf; arg 2; whnf)
 | (refine aw_cond (by conv => lhs; whnf) ?_ ?_ <;> intro hb)
 | refine aw_ret ?_
 | refine k_seq_ret ?_
 | refine k_end_ret ?_
 | (refine ⟨_, by conv => lhs; whnf; arg 2; whnf, ?_⟩; conv => rhs; whnf)
 | exact trivial)
  all_goals (simp only [decide_eq_true_eq, decide_eq_false_iff_not] at *; unfold ordI)
  · rw [if_pos (by omega)]
  · rw [if_neg (by omega), if_pos (by omega)]
  · rw [if_neg (by omega), if_neg (by omega)]
set_option maxHeartbeats 8000000 in
set_option maxRecDepth 100000 in
theorem strsC_ac (a b : ByteArray) : AC EN Tryz.prog 286 [.c (.string a), .c (.string b)] (.c (.int .i64 (Lib.compareBytes (tx a) (tx b)))) := by
  refine ac_enter 11 Tryz.func286 rfl rfl rfl rfl ?_
  intro s w he
  repeat' (first
 | refine aw_seq ?_
 | refine aw_region ?_
 | refine awo_nil ?_
 | refine k_seq ?_
 | refine aw_skip ?_
 | (apply s_val rfl
    · conv => lhs; whnf
    · conv => lhs; whnf; arg 2; whnf)
 | (refine aw_cond (by conv => lhs; whnf) ?_ ?_ <;> intro hb)
 | refine aw_ret ?_
 | refine k_seq_ret ?_
 | refine k_end_ret ?_
 | (refine ⟨_, by conv => lhs; whnf; arg 2; whnf, ?_⟩; conv => rhs; whnf)
 | exact trivial)
  all_goals rw [cmpB_less]
  all_goals simp only [toL_tx] at *
  all_goals simp_all
set_option maxHeartbeats 8000000 in
set_option maxRecDepth 100000 in
theorem keyR_ac (d : D) (i : Nat) : AC EN Tryz.prog 287 [.agg (cellsV Tryz.prog 12 84 d), .c (.int .i64 (i : Int))] (.c (.string (keyD d i))) := by
  unfold keyD
  by_cases h : i < (d.f 4).l.length
  · have f1 : decide ((i : Int) < ((d.f 4).l.length : Nat)) = true := decide_eq_true (by omega)
    rw [if_pos h]
    refine ac_enter 15 Tryz.func287 rfl rfl rfl rfl ?_
    intro s w he
    repeat' (first
 | (apply aw_cond_kt
    · conv => lhs; whnf
    · assumption)
 | refine aw_seq ?_
 | refine aw_region ?_
 | refine awo_nil ?_
 | refine k_seq ?_
 | (apply s_val rfl
    · conv => lhs; whnf
    · conv => lhs; whnf; arg 2; whnf)
 | (apply s_box rfl rfl rfl rfl
    · conv => lhs; whnf; arg 1; whnf
    · rfl)
 | refine aw_ret ?_
 | refine k_seq_ret ?_
 | refine k_end_ret ?_
 | (refine ⟨_, by conv => lhs; whnf; arg 2; whnf, ?_⟩; conv => rhs; whnf)
 | exact trivial)
    all_goals first
      | exact at_in h
      | rfl
  · have f1 : decide ((i : Int) < ((d.f 4).l.length : Nat)) = false := decide_eq_false (by omega)
    rw [if_neg h]
    refine ac_enter 15 Tryz.func287 rfl rfl rfl rfl ?_
    intro s w he
    repeat' (first
 | (apply aw_cond_kf
    · conv => lhs; whnf
    · assumption)
 | refine aw_seq ?_
 | refine aw_region ?_
 | refine awo_nil ?_
 | refine k_seq ?_
 | refine aw_skip ?_
 | (apply s_val rfl
    · conv => lhs; whnf
    · conv => lhs; whnf; arg 2; whnf)
 | (apply s_box rfl rfl rfl rfl
    · conv => lhs; whnf; arg 1; whnf
    · rfl)
 | refine aw_ret ?_
 | refine k_end_ret ?_
 | (refine ⟨_, by conv => lhs; whnf; arg 2; whnf, ?_⟩; conv => rhs; whnf)
 | exact trivial)
noncomputable def HCg (a b : D) (c : Int) (i : Nat) : Vst 70 := stS 70 [(2, .bx 2 0), (3, .bx 3 0), (5, .c (.int .i64 c)), (6, .c (.int .i64 (i : Int)))] [(2, .box 84 (cellsV Tryz.prog 12 84 a)), (3, .box 84 (cellsV Tryz.prog 12 84 b))]
/-- what the comparison holds ahead of its loop -/
def cmp0 (a b : D) : Int := if ordI (a.f 0).n (b.f 0).n == 0 then (if ordI (a.f 1).n (b.f 1).n == 0 then Lib.compareBytes (tx (a.f 2).s) (tx (b.f 2).s) else ordI (a.f 1).n (b.f 1).n) else ordI (a.f 0).n (b.f 0).n
set_option maxHeartbeats 8000000 in
set_option maxRecDepth 100000 in
theorem ordI_ne {a b : Int} : (ordI a b == 0) = !(a != b) := by
  have := @ordI_zero a b
  by_cases h : a = b
  · simp [h, ordI]
  · have : ordI a b ≠ 0 := fun e => h (this.1 e)
    rw [beq_eq_false_iff_ne.2 this]; simp [h]
set_option maxHeartbeats 8000000 in
set_option maxRecDepth 100000 in
theorem cmpV_0 (k : Nat) (a b : D) : cmpV (k + 1) a b = if cmp0 a b == 0 then cmpIt (cmpV k) a b (min (a.f 3).l.length (b.f 3).l.length) 0 else cmp0 a b := by
  have e0 := @ordI_ne (a.f 0).n (b.f 0).n
  have e1 := @ordI_ne (a.f 1).n (b.f 1).n
  have e2 : (Lib.compareBytes (tx (a.f 2).s) (tx (b.f 2).s) == 0) = ((a.f 2).s.toList == (b.f 2).s.toList) := by
    have hz := cmpB_zero (tx (a.f 2).s) (tx (b.f 2).s)
    rw [toL_tx, toL_tx]
    rw [Bool.eq_iff_iff]
    simp only [beq_iff_eq]
    exact hz
  unfold cmpV cmp0
  cases h0 : ((a.f 0).n != (b.f 0).n) <;> cases h1 : ((a.f 1).n != (b.f 1).n) <;> cases h2 : ((a.f 2).s.toList == (b.f 2).s.toList) <;> rw [h0] at e0 <;> rw [h1] at e1 <;> rw [h2] at e2 <;> simp only [Bool.not_true, Bool.not_false] at e0 e1 <;> simp only [e0, e1, e2, if_true, if_false, Bool.not_true, Bool.not_false, Bool.false_eq_true]
set_option maxHeartbeats 8000000 in
set_option maxRecDepth 100000 in
theorem all_next {f : D → D → Bool} {l m : List D} {i : Nat} (h : ∀ q, q < i → f (gD l q) (gD m q) = true) (hi : f (gD l i) (gD m i) = true) : ∀ q, q < i + 1 → f (gD l q) (gD m q) = true := fun q hq => by
  by_cases e : q = i
  · subst e; exact hi
  · exact h q (by omega)
set_option maxHeartbeats 8000000 in
set_option maxRecDepth 100000 in
theorem next1 {K R X Y : Int} {P : Prop} (q : (K == 0) = false) (hR : R = if K != 0 then K else X) : (K ≠ 0 ∧ R = K) ∨ (K = 0 ∧ P ∧ R = Y) :=
  .inl ⟨by simpa using q, by rw [hR, if_pos (by simpa using q)]⟩
set_option maxHeartbeats 8000000 in
set_option maxRecDepth 100000 in
theorem next2 {K C R Y : Int} {P : Prop} (q : (K == 0) = true) (hR : R = if K != 0 then K else if C != 0 then C else Y) (hp : P) : (C ≠ 0 ∧ R = C) ∨ (C = 0 ∧ P ∧ R = Y) := by
  have q : K = 0 := by simpa using q
  rw [if_neg (by simp [q])] at hR
  by_cases h : C = 0
  · exact .inr ⟨h, hp, by rw [hR, if_neg (by simp [h])]⟩
  · exact .inl ⟨h, by rw [hR, if_pos (by simpa using h)]⟩
set_option maxHeartbeats 8000000 in
set_option maxRecDepth 100000 in
theorem cmpR_ac : ∀ (k : Nat) (a b : D), Dp k a → Dp k b → bulkD a ≤ 1000000000 → bulkD b ≤ 1000000000 → AC EN Tryz.prog 215 [.agg (cellsV Tryz.prog 12 84 a), .agg (cellsV Tryz.prog 12 84 b)] (.c (.int .i64 (cmpV k a b)))
  | 0, _, _, h, _, _, _ => h.elim
  | k + 1, a, b, h1, h2, hb1, hb2 => by
    have i1 := bk_in hb1
    have i2 := bk_in hb2
    have l1 := i1.items
    have l2 := i2.items
    have ih := fun i (hi : i < (a.f 3).l.length) (hj : i < (b.f 3).l.length) => cmpR_ac k _ _ (h1 i hi) (h2 i hj) (by have := i1.at_ i hi; omega) (by have := i2.at_ i hj; omega)
    have c3 := fun x y => strsC_ac x y
    have c4 := fun x y => intsR_ac x y
    rw [cmpV_0]
    obtain ⟨c, hc⟩ : ∃ c, c = cmp0 a b := ⟨_, rfl⟩
    have hR : ∃ R, (if cmp0 a b == 0 then cmpIt (cmpV k) a b (min (a.f 3).l.length (b.f 3).l.length) 0 else cmp0 a b) = R ∧ ((c ≠ 0 ∧ R = c) ∨ (c = 0 ∧ R = cmpIt (cmpV k) a b (min (a.f 3).l.length (b.f 3).l.length) 0)) := by
      subst hc
      by_cases h : cmp0 a b = 0
      · exact ⟨_, if_pos (by simp [h]), .inr ⟨h, rfl⟩⟩
      · exact ⟨_, if_neg (by simp [h]), .inl ⟨h, rfl⟩⟩
    obtain ⟨R, eR, hR⟩ := hR
    rw [eR]
    clear eR
    cases q0 : (ordI (a.f 0).n (b.f 0).n == 0) <;> cases q1 : (ordI (a.f 1).n (b.f 1).n == 0)
    all_goals
      refine ac_enter 70 Tryz.func215 rfl rfl rfl rfl ?_
      intro s w he
      repeat' (first
 | (apply aw_cond_kt
    · conv => lhs; whnf
    · assumption)
 | (apply aw_cond_kf
    · conv => lhs; whnf
    · assumption)
 | refine aw_seq ?_
 | refine aw_region ?_
 | refine awo_nil ?_
 | refine k_seq ?_
 | refine aw_block ?_
 | refine aw_skip ?_
 | (apply s_val rfl
    · conv => lhs; whnf
    · conv => lhs; whnf; arg 2; whnf)
 | (apply s_call rfl
    · conv => lhs; whnf
    · conv => lhs; whnf
    · first | exact c3 _ _ | exact c4 _ _)
 | (apply s_box rfl rfl rfl rfl
    · conv => lhs; whnf; arg 1; whnf
    · rfl)
 | exact trivial)
      refine aw_loop (fun j st => ∃ i c, ((c ≠ 0 ∧ R = c) ∨ (c = 0 ∧ i + j = min (a.f 3).l.length (b.f 3).l.length ∧ R = cmpIt (cmpV k) a b j i)) ∧ i ≤ 1000000001 ∧ Sub (cx EN Tryz.prog s w he) st (HCg a b c i)) (min (a.f 3).l.length (b.f 3).l.length) ⟨0, c, ?_, by omega, Sub.live ⟨rfl, rfl, ?_, rfl, trivial⟩ ⟨rfl, rfl, trivial⟩⟩ ?_
      · rcases hR with h | h
        · exact .inl h
        · exact .inr ⟨h.1, by omega, h.2⟩
      · rw [hc]; unfold cmp0; rw [q0]; first | rfl | (rw [q1]; rfl)
      clear q0 q1 hR hc c
      rintro j st ⟨i, c, hR, hi, hs2⟩
      refine aw_sub hs2 ?_
      clear hs2
      by_cases hz : c = 0
      · have f0 : (c == 0) = true := by simp [hz]
        obtain ⟨hij, hR⟩ : i + j = min (a.f 3).l.length (b.f 3).l.length ∧ R = cmpIt (cmpV k) a b j i := by
          rcases hR with h | h
          · exact absurd hz h.1
          · exact h.2
        by_cases ha : i < (a.f 3).l.length
        · have f1 : decide ((i : Int) ≥ ((a.f 3).l.length : Nat)) = false := decide_eq_false (by omega)
          have g1 : (decide ((i : Int) ≥ ((a.f 3).l.length : Nat)) == false) = true := by rw [f1]; rfl
          by_cases hb : i < (b.f 3).l.length
          · have f2 : decide ((i : Int) ≥ ((b.f 3).l.length : Nat)) = false := decide_eq_false (by omega)
            obtain ⟨j, rfl⟩ : ∃ q, j = q + 1 := ⟨j - 1, by omega⟩
            have d1 := keyR_ac a i
            have d2 := keyR_ac b i
            have d3 := ih i ha hb
            rw [cmpIt] at hR
            cases q2 : (Lib.compareBytes (tx (keyD a i)) (tx (keyD b i)) == 0)
            all_goals
              repeat' (first
 | (apply aw_cond_kt
    · conv => lhs; whnf
    · assumption)
 | (apply aw_cond_kf
    · conv => lhs; whnf
    · assumption)
 | refine aw_seq ?_
 | refine aw_region ?_
 | refine awo_nil ?_
 | refine k_seq ?_
 | refine k_block ?_
 | refine aw_block ?_
 | refine aw_skip ?_
 | (apply s_pick_f rfl rfl
    · conv => lhs; whnf
    · conv => lhs; whnf
    · first | exact bF1 (by assumption) | exact bF2 (by assumption))
 | (apply s_val rfl
    · conv => lhs; whnf
    · conv => lhs; whnf; arg 2; whnf)
 | (apply s_wanted_val rfl
    · conv => lhs; whnf
    · conv => lhs; whnf
    · first | rfl | assumption
    · conv => lhs; whnf; arg 2; whnf)
 | (apply aw_draw (by kernel_rfl) (by kernel_rfl))
 | apply y_nil
 | (apply y_val rfl
    · conv => lhs; whnf
    · conv => lhs; whnf; arg 2; whnf)
 | (apply y_call rfl
    · conv => lhs; whnf
    · conv => lhs; whnf
    · first | exact c3 _ _ | exact c4 _ _ | exact d1 | exact d2 | exact d3)
 | exact apartB_none
 | exact apartB_nil
 | exact (1000000 : Nat)
 | exact trivial)
            all_goals first
              | exact i64_ok (by omega)
              | exact at_in ha
              | exact at_in hb
              | exact k_loop_next (j' := j) (by omega) ⟨i + 1, Lib.compareBytes (tx (keyD a i)) (tx (keyD b i)), next1 q2 hR, by omega, Sub.live ⟨rfl, rfl, rfl, rfl, trivial⟩ ⟨rfl, rfl, trivial⟩⟩
              | exact k_loop_next (j' := j) (by omega) ⟨i + 1, cmpV k (gD (a.f 3).l i) (gD (b.f 3).l i), next2 q2 hR (by omega), by omega, Sub.live ⟨rfl, rfl, rfl, rfl, trivial⟩ ⟨rfl, rfl, trivial⟩⟩
              | skip
          · have f2 : decide ((i : Int) ≥ ((b.f 3).l.length : Nat)) = true := decide_eq_true (by omega)
            obtain rfl : j = 0 := by omega
            repeat' (first
 | (apply aw_cond_kt
    · conv => lhs; whnf
    · assumption)
 | refine aw_seq ?_
 | refine aw_region ?_
 | refine awo_nil ?_
 | refine k_seq ?_
 | refine aw_block ?_
 | refine aw_skip ?_
 | (apply s_pick_f rfl rfl
    · conv => lhs; whnf
    · conv => lhs; whnf
    · first | exact bF1 (by assumption) | exact bF2 (by assumption))
 | (apply s_val rfl
    · conv => lhs; whnf
    · conv => lhs; whnf; arg 2; whnf)
 | (apply s_call rfl
    · conv => lhs; whnf
    · conv => lhs; whnf
    · first | exact c3 _ _ | exact c4 _ _)
 | (apply s_wanted_val rfl
    · conv => lhs; whnf
    · conv => lhs; whnf
    · first | rfl | assumption
    · conv => lhs; whnf; arg 2; whnf)
 | refine aw_ret ?_
 | refine k_seq_ret ?_
 | refine k_block_ret ?_
 | refine k_loop_ret ?_
 | refine k_end_ret ?_
 | (refine ⟨_, by conv => lhs; whnf; arg 2; whnf, ?_⟩; conv => rhs; whnf)
 | exact trivial)
            rw [hR]; rfl
        · have f1 : decide ((i : Int) ≥ ((a.f 3).l.length : Nat)) = true := decide_eq_true (by omega)
          have g1 : (decide ((i : Int) ≥ ((a.f 3).l.length : Nat)) == false) = false := by rw [f1]; rfl
          obtain rfl : j = 0 := by omega
          repeat' (first
 | (apply aw_cond_kt
    · conv => lhs; whnf
    · assumption)
 | refine aw_seq ?_
 | refine aw_region ?_
 | refine awo_nil ?_
 | refine k_seq ?_
 | refine aw_block ?_
 | refine aw_skip ?_
 | (apply s_pick_t rfl rfl
    · conv => lhs; whnf
    · conv => lhs; whnf
    · first | exact bT1 (by assumption) | exact bT2 (by assumption))
 | (apply s_val rfl
    · conv => lhs; whnf
    · conv => lhs; whnf; arg 2; whnf)
 | (apply s_call rfl
    · conv => lhs; whnf
    · conv => lhs; whnf
    · first | exact c3 _ _ | exact c4 _ _)
 | (apply s_skipU rfl
    · conv => lhs; whnf
    · conv => lhs; whnf
    · first | rfl | assumption)
 | (apply aw_cond_t
    · conv => lhs; whnf; arg 1; arg 1; whnf)
 | refine aw_ret ?_
 | refine k_seq_ret ?_
 | refine k_block_ret ?_
 | refine k_loop_ret ?_
 | refine k_end_ret ?_
 | (refine ⟨_, by conv => lhs; whnf; arg 2; whnf, ?_⟩; conv => rhs; whnf)
 | exact trivial)
          rw [hR]; rfl
      · have f0 : (c == 0) = false := by simp [hz]
        repeat' (first
 | (apply aw_cond_kf
    · conv => lhs; whnf
    · assumption)
 | refine aw_seq ?_
 | refine aw_region ?_
 | refine awo_nil ?_
 | refine k_seq ?_
 | (apply s_val rfl
    · conv => lhs; whnf
    · conv => lhs; whnf; arg 2; whnf)
 | refine aw_ret ?_
 | refine aw_exit ?_
 | refine k_seq_exit ?_
 | refine k_block_hit rfl ?_
 | refine k_loop_exit ?_
 | refine k_end_ret ?_
 | (refine ⟨_, by conv => lhs; whnf; arg 2; whnf, ?_⟩; conv => rhs; whnf)
 | exact trivial)
        rcases hR with h | h
        · rw [h.2]
        · exact absurd h.1 hz
set_option maxHeartbeats 8000000 in
set_option maxRecDepth 100000 in
theorem valR_ac (a b : D) (ha : bulkD a ≤ 400000000) (hb : bulkD b ≤ 400000000) : AC EN Tryz.prog 137 [.agg (cellsV Tryz.prog 12 84 a), .agg (cellsV Tryz.prog 12 84 b)] (.c (.bool (valEq a b))) := by
  have h := cmpR_ac _ a b (dp_bulk (bulkD a + bulkD b) _ (by omega)) (dp_bulk _ _ (by omega)) (by omega) (by omega)
  refine ac_enter 9 Tryz.func137 rfl rfl rfl rfl ?_
  intro s w he
  repeat' (first
 | refine aw_seq ?_
 | refine aw_region ?_
 | refine awo_nil ?_
 | refine k_seq ?_
 | (apply s_val rfl
    · conv => lhs; whnf
    · conv => lhs; whnf; arg 2; whnf)
 | (apply s_call rfl
    · conv => lhs; whnf
    · conv => lhs; whnf
    · first | exact h)
 | (apply s_box rfl rfl rfl rfl
    · conv => lhs; whnf; arg 1; whnf
    · rfl)
 | refine aw_ret ?_
 | refine k_end_ret ?_
 | (refine ⟨_, by conv => lhs; whnf; arg 2; whnf, ?_⟩; conv => rhs; whnf)
 | exact trivial)
  rfl
noncomputable def HWg (l m : List D) (i : Nat) : Vst 26 := stS 26 [(0, .sl 3 l), (1, .sl 3 m), (5, .c (.int .i64 (i : Int)))] []
set_option maxHeartbeats 8000000 in
set_option maxRecDepth 100000 in
theorem wrapsR_ac (l m : List D) (hl : l.length ≤ 1000000000) : AC EN Tryz.prog 140 [.sl 3 l, .sl 3 m] (.c (.bool (eqL intEq l m))) := by
  by_cases hlen : l.length = m.length
  · have f0 : ((l.length : Int) != (m.length : Int)) = false := by simp [hlen]
    refine ac_enter 26 Tryz.func140 rfl rfl rfl rfl ?_
    intro s w he
    repeat' (first
 | (apply aw_cond_kf
    · conv => lhs; whnf
    · assumption)
 | refine aw_seq ?_
 | refine aw_region ?_
 | refine awo_nil ?_
 | refine k_seq ?_
 | refine aw_block ?_
 | refine aw_skip ?_
 | (apply s_val rfl
    · conv => lhs; whnf
    · conv => lhs; whnf; arg 2; whnf)
 | exact trivial)
    refine aw_loop (fun j st => ∃ i, i + j = l.length ∧ (∀ q, q < i → intEq (gD l q) (gD m q) = true) ∧ Sub (cx EN Tryz.prog s w he) st (HWg l m i)) l.length ⟨0, by omega, fun q hq => by omega, Sub.live ⟨rfl, rfl, rfl, trivial⟩ trivial⟩ ?_
    rintro j st ⟨i, hij, hall, hs2⟩
    refine aw_sub hs2 ?_
    clear hs2
    by_cases hi : i < l.length
    · have f1 : decide ((i : Int) < (l.length : Nat)) = true := decide_eq_true (by omega)
      have hm : i < m.length := by omega
      cases q : intEq (gD l i) (gD m i) with
      | true =>
        have f2 : ((gD l i).n != (gD m i).n) = false := by simpa [intEq] using q
        repeat' (first
 | (apply aw_cond_kt
    · conv => lhs; whnf
    · assumption)
 | (apply aw_cond_kf
    · conv => lhs; whnf
    · assumption)
 | refine aw_seq ?_
 | refine aw_region ?_
 | refine awo_nil ?_
 | refine k_seq ?_
 | refine k_block ?_
 | refine aw_block ?_
 | refine aw_skip ?_
 | (apply s_val rfl
    · conv => lhs; whnf
    · conv => lhs; whnf; arg 2; whnf)
 | (apply aw_draw (by kernel_rfl) (by kernel_rfl))
 | apply y_nil
 | (apply y_val rfl
    · conv => lhs; whnf
    · conv => lhs; whnf; arg 2; whnf)
 | exact apartB_none
 | exact apartB_nil
 | exact (1000000 : Nat)
 | exact trivial)
        all_goals first
          | exact i64_ok (by omega)
          | exact at_in hi
          | exact at_in hm
          | exact k_loop_next (j' := j - 1) (by omega) ⟨i + 1, by omega, all_next hall q, Sub.live ⟨rfl, rfl, rfl, trivial⟩ trivial⟩
      | false =>
        have f2 : ((gD l i).n != (gD m i).n) = true := by simpa [intEq] using q
        rw [eqL_bad hi q]
        repeat' (first
 | (apply aw_cond_kt
    · conv => lhs; whnf
    · assumption)
 | refine aw_seq ?_
 | refine aw_region ?_
 | refine awo_nil ?_
 | refine k_seq ?_
 | refine aw_block ?_
 | refine aw_skip ?_
 | (apply s_val rfl
    · conv => lhs; whnf
    · conv => lhs; whnf; arg 2; whnf)
 | (apply aw_draw (by kernel_rfl) (by kernel_rfl))
 | apply y_nil
 | (apply y_val rfl
    · conv => lhs; whnf
    · conv => lhs; whnf; arg 2; whnf)
 | exact apartB_none
 | exact apartB_nil
 | exact (1000000 : Nat)
 | refine aw_ret ?_
 | refine k_seq_ret ?_
 | refine k_block_ret ?_
 | refine k_loop_ret ?_
 | refine k_end_ret ?_
 | (refine ⟨_, by conv => lhs; whnf; arg 2; whnf, ?_⟩; conv => rhs; whnf)
 | exact trivial)
        all_goals first
          | exact at_in hi
          | exact at_in hm
    · have f1 : decide ((i : Int) < (l.length : Nat)) = false := decide_eq_false (by omega)
      rw [eqL_all hlen fun q hq => hall q (by omega)]
      repeat' (first
 | (apply aw_cond_kf
    · conv => lhs; whnf
    · assumption)
 | refine aw_seq ?_
 | refine aw_region ?_
 | refine awo_nil ?_
 | refine k_seq ?_
 | (apply s_val rfl
    · conv => lhs; whnf
    · conv => lhs; whnf; arg 2; whnf)
 | refine aw_ret ?_
 | refine aw_exit ?_
 | refine k_seq_exit ?_
 | refine k_block_hit rfl ?_
 | refine k_loop_exit ?_
 | refine k_end_ret ?_
 | (refine ⟨_, by conv => lhs; whnf; arg 2; whnf, ?_⟩; conv => rhs; whnf)
 | exact trivial)
  · have f0 : ((l.length : Int) != (m.length : Int)) = true := by simp; omega
    rw [eqL_ne f0]
    refine ac_enter 26 Tryz.func140 rfl rfl rfl rfl ?_
    intro s w he
    repeat' (first
 | (apply aw_cond_kt
    · conv => lhs; whnf
    · assumption)
 | refine aw_seq ?_
 | refine aw_region ?_
 | refine awo_nil ?_
 | refine k_seq ?_
 | (apply s_val rfl
    · conv => lhs; whnf
    · conv => lhs; whnf; arg 2; whnf)
 | refine aw_ret ?_
 | refine k_seq_ret ?_
 | refine k_end_ret ?_
 | (refine ⟨_, by conv => lhs; whnf; arg 2; whnf, ?_⟩; conv => rhs; whnf)
 | exact trivial)
set_option maxHeartbeats 8000000 in
set_option maxRecDepth 100000 in
theorem refR2_ac (a b : D) (ha : bulkD a ≤ 100000000) : AC EN Tryz.prog 72 [.agg (cellsV Tryz.prog 12 71 a), .agg (cellsV Tryz.prog 12 71 b)] (.c (.bool (refEq a b))) := by
  have h1 := wrapsR_ac (a.f 1).l (b.f 1).l (by have := len_bulk (a.f 1).l; have := fld_bulk a 1; omega)
  unfold refEq sEq
  refine ac_enter 17 Tryz.func72 rfl rfl rfl rfl ?_
  intro s w he
  repeat' (first
 | refine aw_seq ?_
 | refine aw_region ?_
 | refine awo_nil ?_
 | refine k_seq ?_
 | (apply s_pick_t rfl rfl
    · conv => lhs; whnf
    · conv => lhs; whnf
    · first | exact bT1 (by assumption) | exact bT2 (by assumption))
 | (apply s_pick_f rfl rfl
    · conv => lhs; whnf
    · conv => lhs; whnf
    · first | exact bF1 (by assumption) | exact bF2 (by assumption))
 | (apply s_val rfl
    · conv => lhs; whnf
    · conv => lhs; whnf; arg 2; whnf)
 | (apply s_box rfl rfl rfl rfl
    · conv => lhs; whnf; arg 1; whnf
    · rfl)
 | (apply s_wanted_val rfl
    · conv => lhs; whnf
    · conv => lhs; whnf
    · first | rfl | assumption
    · conv => lhs; whnf; arg 2; whnf)
 | (apply s_wanted_call rfl
    · conv => lhs; whnf
    · conv => lhs; whnf
    · first | rfl | assumption
    · conv => lhs; whnf
    · first | exact h1)
 | (apply s_skipU rfl
    · conv => lhs; whnf
    · conv => lhs; whnf
    · first | rfl | assumption)
 | (apply s_guard_valU rfl
    · conv => lhs; whnf
    · conv => lhs; whnf
    · conv => lhs; whnf; arg 2; whnf)
 | refine aw_ret ?_
 | refine k_end_ret ?_
 | (refine ⟨_, by conv => lhs; whnf; arg 2; whnf, ?_⟩; conv => rhs; whnf)
 | exact trivial
 | intro hg)
  all_goals first | exact Tryz.underlying4 | (simp only [beq_true] at *; simp only [*, Bool.true_and, Bool.false_and, Bool.and_true, Bool.and_false])
end Go.Proofs.YthjiclhfhjdjpaaGreatDoor
namespace Go.Proofs.YthjiclhfhjdjpaaGreatDoor
/-- x stops at the end e, behind a; x' goes on with r there -/
structure J (e : Tok) (r : List Tok) (a : List Tok) (x x' : PS) : Prop where
  l : x.ts = a ++ [e]
  r : x'.ts = a ++ r
  vr : x'.vr = x.vr
  nd : x'.nd = x.nd
/-- what the one yields the other yields, if it stops ahead of the end -/
def LO (e : Tok) (r : List Tok) {α : Type} (a : List Tok) (p p' : PR α) : Prop :=
  ∀ v y, p = .ok (v, y) → ∃ b, (∃ d, a = d ++ b) ∧ y.ts = b ++ [e] ∧ (b ≠ [] → ∃ y', p' = .ok (v, y') ∧ J e r b y y')
/-- likewise, wherever it stops -/
def LS (e : Tok) (r : List Tok) {α : Type} (a : List Tok) (p p' : PR α) : Prop :=
  ∀ v y, p = .ok (v, y) → ∃ b y', (∃ t d, a = t :: d ++ b) ∧ p' = .ok (v, y') ∧ J e r b y y'
structure Ends (e : Tok) (r : List Tok) : Prop where
  k : e.k = 5
  r : r ≠ []
section
variable {e : Tok} {r : List Tok} {α β : Type}
theorem LS.lo {a : List Tok} {p p' : PR α} (h : LS e r a p p') : LO e r a p p' := fun v y hp => by
  obtain ⟨b, y', ⟨t, d, hd⟩, h1, h2⟩ := h v y hp
  exact ⟨b, ⟨t :: d, hd⟩, h2.l, fun _ => ⟨y', h1, h2⟩⟩
theorem LO.zero {p p' p'' : PR α} (h : LO e r [] p p') : LO e r [] p p'' := fun v y hp => by
  obtain ⟨b, ⟨d, hd⟩, h1, h2⟩ := h v y hp
  have : b = [] := (List.append_eq_nil_iff.1 hd.symm).2
  subst this
  exact ⟨[], ⟨[], rfl⟩, h1, fun h => (h rfl).elim⟩
theorem LS.zero {p p' p'' : PR α} (h : LS e r [] p p') : LS e r [] p p'' := fun v y hp => by
  obtain ⟨b, y', ⟨t, d, hd⟩, -⟩ := h v y hp
  cases hd
theorem LO.err {a : List Tok} {q : Nat × Int} {p' : PR α} : LO e r a (.error q) p' := fun _ _ h => by cases h
theorem LS.err {a : List Tok} {q : Nat × Int} {p' : PR α} : LS e r a (.error q) p' := fun _ _ h => by cases h
theorem LO.okk {a : List Tok} {x x' : PS} (h : J e r a x x') (v : α) : LO e r a (.ok (v, x)) (.ok (v, x')) := fun w y hp => by
  cases hp
  exact ⟨a, ⟨[], rfl⟩, h.l, fun _ => ⟨x', rfl, h⟩⟩
theorem LO.mono {a b : List Tok} {p p' : PR α} (h : LO e r b p p') (hab : ∃ d, a = d ++ b) : LO e r a p p' := fun v y hp => by
  obtain ⟨c, ⟨d, hd⟩, h1⟩ := h v y hp
  obtain ⟨d2, hd2⟩ := hab
  exact ⟨c, ⟨d2 ++ d, by rw [hd2, hd, List.append_assoc]⟩, h1⟩
theorem LS.mono {a b : List Tok} {p p' : PR α} (h : LS e r b p p') (hab : ∃ d, a = d ++ b) : LS e r a p p' := fun v y hp => by
  obtain ⟨c, y', ⟨t, d, hd⟩, h1⟩ := h v y hp
  obtain ⟨d2, hd2⟩ := hab
  cases d2 with
  | nil => exact ⟨c, y', ⟨t, d, by rw [hd2, hd]; rfl⟩, h1⟩
  | cons t2 d2 => exact ⟨c, y', ⟨t2, d2 ++ t :: d, by rw [hd2, hd]; simp⟩, h1⟩
theorem LS.okn {t : Tok} {a : List Tok} {x x' : PS} (h : J e r a x x') (v : α) : LS e r (t :: a) (.ok (v, x)) (.ok (v, x')) := fun w y hp => by
  cases hp
  exact ⟨a, x', ⟨t, [], rfl⟩, rfl, h⟩
theorem LO.ite {a : List Tok} {c c' : Prop} [Decidable c] [Decidable c'] {A A' B B' : PR α} (hc : a ≠ [] → (c ↔ c')) (h1 : c → LO e r a A A') (h2 : ¬ c → LO e r a B B') : LO e r a (if c then A else B) (if c' then A' else B') := by
  by_cases ha : a = []
  · subst ha
    by_cases h : c
    · rw [if_pos h]; exact (h1 h).zero
    · rw [if_neg h]; exact (h2 h).zero
  · by_cases h : c
    · rw [if_pos h, if_pos ((hc ha).1 h)]; exact h1 h
    · rw [if_neg h, if_neg fun h' => h ((hc ha).2 h')]; exact h2 h
theorem LS.ite {a : List Tok} {c c' : Prop} [Decidable c] [Decidable c'] {A A' B B' : PR α} (hc : a ≠ [] → (c ↔ c')) (h1 : c → LS e r a A A') (h2 : ¬ c → LS e r a B B') : LS e r a (if c then A else B) (if c' then A' else B') := by
  by_cases ha : a = []
  · subst ha
    by_cases h : c
    · rw [if_pos h]; exact (h1 h).zero
    · rw [if_neg h]; exact (h2 h).zero
  · by_cases h : c
    · rw [if_pos h, if_pos ((hc ha).1 h)]; exact h1 h
    · rw [if_neg h, if_neg fun h' => h ((hc ha).2 h')]; exact h2 h
theorem LO.then {a : List Tok} {p p' : PR α} {f f' : α → PS → PR β} (h : LO e r a p p') (hf : ∀ v b y y', J e r b y y' → LO e r b (f v y) (f' v y')) : LO e r a (thenQ p f) (thenQ p' f') := fun w z hp => by
  cases hpp : p with
  | error q => rw [hpp] at hp; cases hp
  | ok q =>
    obtain ⟨v, y⟩ := q
    obtain ⟨b, hab, h1, h2⟩ := h v y hpp
    rw [hpp] at hp
    have hp : f v y = .ok (w, z) := hp
    by_cases hb : b = []
    · subst hb
      obtain ⟨c, ⟨d, hd⟩, h3, -⟩ := hf v [] y ⟨r, y.vr, y.nd⟩ ⟨h1, rfl, rfl, rfl⟩ w z hp
      have : c = [] := (List.append_eq_nil_iff.1 hd.symm).2
      subst this
      exact ⟨[], hab, h3, fun h => (h rfl).elim⟩
    · obtain ⟨y', h3, h4⟩ := h2 hb
      rw [h3]
      exact ((hf v b y y' h4).mono hab) w z hp
theorem LS.then {a : List Tok} {p p' : PR α} {f f' : α → PS → PR β} (h : LO e r a p p') (hf : ∀ v b y y', J e r b y y' → LS e r b (f v y) (f' v y')) : LS e r a (thenQ p f) (thenQ p' f') := fun w z hp => by
  cases hpp : p with
  | error q => rw [hpp] at hp; cases hp
  | ok q =>
    obtain ⟨v, y⟩ := q
    obtain ⟨b, hab, h1, h2⟩ := h v y hpp
    rw [hpp] at hp
    have hp : f v y = .ok (w, z) := hp
    by_cases hb : b = []
    · subst hb
      obtain ⟨c, y', ⟨t, d, hd⟩, -⟩ := hf v [] y ⟨r, y.vr, y.nd⟩ ⟨h1, rfl, rfl, rfl⟩ w z hp
      cases hd
    · obtain ⟨y', h3, h4⟩ := h2 hb
      rw [h3]
      exact ((hf v b y y' h4).mono hab) w z hp
/-- a strict one first, then whatever stays where it is -/
theorem LS.pure {a : List Tok} {p p' : PR α} {f f' : α → PS → PR β} (h : LS e r a p p') (hf : ∀ v b y y', J e r b y y' → ∃ w z z', f v y = .ok (w, z) ∧ f' v y' = .ok (w, z') ∧ J e r b z z') : LS e r a (thenQ p f) (thenQ p' f') := fun w z hp => by
  cases hpp : p with
  | error q => rw [hpp] at hp; cases hp
  | ok q =>
    obtain ⟨v, y⟩ := q
    obtain ⟨b, y', hab, h1, h2⟩ := h v y hpp
    rw [hpp] at hp
    have hp : f v y = .ok (w, z) := hp
    obtain ⟨w2, z2, z', h3, h4, h5⟩ := hf v b y y' h2
    rw [hp] at h3
    cases h3
    rw [h1]
    exact ⟨b, z', hab, h4, h5⟩
variable (hE : Ends e r)
theorem J.hd {a : List Tok} {x x' : PS} (h : J e r a x x') (ha : a ≠ []) : hdT x' = hdT x := by
  cases a with
  | nil => exact (ha rfl).elim
  | cons t a => unfold hdT; rw [h.l, h.r]; rfl
theorem J.sg {a : List Tok} {x x' : PS} (h : J e r a x x') (s : List UInt8) (ha : a ≠ []) : isS x s = true ↔ isS x' s = true := by
  unfold isS; rw [h.hd ha]
include hE
theorem J.k5 {x x' : PS} (h : J e r [] x x') : (hdT x).k = 5 := by unfold hdT; rw [h.l]; exact hE.k
theorem J.ne_of_k {a : List Tok} {x x' : PS} (h : J e r a x x') (hk : (hdT x).k ≠ 5) : ∃ t a', a = t :: a' ∧ J e r a' (nxT x) (nxT x') := by
  cases a with
  | nil => exact (hk (h.k5 hE)).elim
  | cons t a =>
    have h1 := h.hd (by simp)
    refine ⟨t, a, rfl, ?_⟩
    unfold nxT
    rw [h1, if_neg hk, if_neg hk]
    exact ⟨by show x.ts.drop 1 = _; rw [h.l]; rfl, by show x'.ts.drop 1 = _; rw [h.r]; rfl, h.vr, h.nd⟩
theorem J.ne_of_isS {a : List Tok} {x x' : PS} (h : J e r a x x') {s : List UInt8} (hs : isS x s = true) : ∃ t a', a = t :: a' ∧ J e r a' (nxT x) (nxT x') := by
  refine h.ne_of_k hE ?_
  unfold isS at hs
  simp only [Bool.and_eq_true, beq_iff_eq] at hs
  rw [hs.1]; decide
theorem J.len {a : List Tok} {x x' : PS} (h : J e r a x x') : x.ts.length ≤ x'.ts.length := by
  rw [h.l, h.r, List.length_append, List.length_append]
  have : 0 < r.length := List.length_pos_iff.2 hE.r
  simp; omega
theorem take_ls {a : List Tok} {x x' : PS} (h : J e r a x x') (s : List UInt8) : LS e r a (takeQ s x) (takeQ s x') := by
  unfold takeQ
  refine .ite (h.sg s) (fun hs => ?_) fun _ => .err
  obtain ⟨t, a', rfl, h'⟩ := h.ne_of_isS hE hs
  exact .okn h' _
theorem name_ls {a : List Tok} {x x' : PS} (h : J e r a x x') : LS e r a (nameQ x) (nameQ x') := by
  unfold nameQ
  refine .ite (fun ha => by rw [h.hd ha]) (fun hk => ?_) fun _ => .err
  obtain ⟨t, a', rfl, h'⟩ := h.ne_of_k hE (by rw [hk]; decide)
  rw [h.hd (by simp)]
  exact .okn h' _
theorem open_j : ∀ (f g : Nat) {a : List Tok} {x x' : PS}, J e r a x x' → x.ts.length ≤ f → x'.ts.length ≤ g → ∃ b, (∃ d, a = d ++ b) ∧ (openQ f x).2.ts = b ++ [e] ∧ (b ≠ [] → (openQ g x').1 = (openQ f x).1 ∧ J e r b (openQ f x).2 (openQ g x').2)
  | 0, g, a, x, x', h, hf, _ => by rw [h.l] at hf; simp at hf
  | f + 1, 0, a, x, x', h, _, hg => by have := h.len hE; rw [h.l] at this; simp at this; omega
  | f + 1, g + 1, a, x, x', h, hf, hg => by
    by_cases hs : isS x [91] = true
    · obtain ⟨t, a', rfl, h'⟩ := h.ne_of_isS hE hs
      have hs' := (h.sg [91] (by simp)).1 hs
      have e1 : openQ (f + 1) x = ((openQ f (nxT x)).1 + 1, (openQ f (nxT x)).2) := by rw [openQ, if_pos hs]
      have e2 : openQ (g + 1) x' = ((openQ g (nxT x')).1 + 1, (openQ g (nxT x')).2) := by rw [openQ, if_pos hs']
      rw [e1, e2]
      obtain ⟨b, ⟨d, hd⟩, h1, h2⟩ := open_j f g h' (by rw [h'.l]; rw [h.l] at hf; simpa using hf) (by rw [h'.r]; rw [h.r] at hg; simpa using hg)
      exact ⟨b, ⟨t :: d, by rw [hd]; rfl⟩, h1, fun hb => ⟨by rw [(h2 hb).1], (h2 hb).2⟩⟩
    · have e1 : openQ (f + 1) x = (0, x) := by rw [openQ, if_neg hs]
      rw [e1]
      refine ⟨a, ⟨[], rfl⟩, h.l, fun ha => ?_⟩
      have e2 : openQ (g + 1) x' = (0, x') := by rw [openQ, if_neg fun hq => hs ((h.sg [91] ha).2 hq)]
      rw [e2]
      exact ⟨rfl, h⟩
theorem close_lo : ∀ (n : Nat) (w : List Int) {a : List Tok} {x x' : PS}, J e r a x x' → LO e r a (closeQ n w x) (closeQ n w x')
  | 0, w, a, x, x', h => by
    have e1 : ∀ x, closeQ 0 w x = if isS x [33] = true then .ok (1 :: w, nxT x) else .ok (w, x) := fun x => by unfold closeQ; split <;> rfl
    rw [e1, e1]
    refine .ite (h.sg _) (fun hs => ?_) fun _ => .okk h _
    obtain ⟨t, a', rfl, h'⟩ := h.ne_of_isS hE hs
    exact (LS.okn h' _).lo
  | n + 1, w, a, x, x', h => by
    have e1 : ∀ x, closeQ (n + 1) w x = if isS x [33] = true then thenQ (takeQ [93] (nxT x)) fun _ y => closeQ n (2 :: 1 :: w) y else thenQ (takeQ [93] x) fun _ y => closeQ n (2 :: w) y := fun x => by
      rw [closeQ]; split <;> rfl
    rw [e1, e1]
    refine .ite (h.sg _) (fun hs => ?_) fun _ => .then (take_ls hE h _).lo fun _ _ _ _ hy => close_lo n _ hy
    obtain ⟨t, a', rfl, h'⟩ := h.ne_of_isS hE hs
    exact (LO.then (take_ls hE h' _).lo fun _ _ _ _ hy => close_lo n _ hy).mono ⟨[t], rfl⟩
theorem inner_lo {a : List Tok} {x x' : PS} (h : J e r a x x') : LO e r a (innerQ x) (innerQ x') := by
  obtain ⟨b, hab, h1, h2⟩ := open_j hE x.ts.length x'.ts.length h (Nat.le_refl _) (Nat.le_refl _)
  unfold innerQ
  by_cases hb : b = []
  · subst hb
    intro v y hp
    have hk : nameQ (openQ x.ts.length x).2 = .error ((hdT (openQ x.ts.length x).2).i, 3) := by
      unfold nameQ
      rw [if_neg]
      unfold hdT
      rw [h1]
      show ¬ e.k = 2
      rw [hE.k]; decide
    rw [hk] at hp
    cases hp
  · obtain ⟨h3, h4⟩ := h2 hb
    rw [h3]
    refine LO.mono (b := b) ?_ hab
    exact .then (name_ls hE h4).lo fun _ _ _ _ hy => .then (close_lo hE _ _ hy) fun _ _ _ _ hz => .okk hz _
theorem typ_lo {a : List Tok} {x x' : PS} (h : J e r a x x') : LO e r a (typQ x) (typQ x') :=
  .then (inner_lo hE h) fun _ _ _ _ hy => .ite (fun _ => Iff.rfl) (fun _ => .err) fun _ => .okk hy _
theorem items_ls {v v' : PS → PR D} (hv : ∀ {a : List Tok} {x x' : PS}, J e r a x x' → LO e r a (v x) (v' x')) : ∀ (f g : Nat) (acc : List D) {a : List Tok} {x x' : PS}, f ≤ g → J e r a x x' → LS e r a (itemsQ v f acc x) (itemsQ v' g acc x')
  | 0, _, _, _, _, _, _, _ => .err
  | f + 1, 0, _, _, _, _, hfg, _ => by omega
  | f + 1, g + 1, acc, a, x, x', hfg, h => by
    unfold itemsQ
    refine .ite (h.sg _) (fun hs => ?_) fun _ => .then (hv h) fun _ _ _ _ hy => items_ls hv f g _ (by omega) hy
    obtain ⟨t, a', rfl, h'⟩ := h.ne_of_isS hE hs
    exact .okn h' _
theorem fields_ls {v v' : PS → PR D} (hv : ∀ {a : List Tok} {x x' : PS}, J e r a x x' → LO e r a (v x) (v' x')) : ∀ (f g : Nat) (ks : List (List UInt8)) (acc : List D) {a : List Tok} {x x' : PS}, f ≤ g → J e r a x x' → LS e r a (fieldsQ v f ks acc x) (fieldsQ v' g ks acc x')
  | 0, _, _, _, _, _, _, _, _ => .err
  | f + 1, 0, _, _, _, _, _, hfg, _ => by omega
  | f + 1, g + 1, ks, acc, a, x, x', hfg, h => by
    unfold fieldsQ
    refine .ite (h.sg _) (fun hs => ?_) fun _ => .then (name_ls hE h).lo fun k _ _ _ hy => .ite (fun _ => Iff.rfl) (fun _ => .err) fun _ => .then (take_ls hE hy _).lo fun _ _ _ _ hz => .then (hv hz) fun _ _ _ _ hu => fields_ls hv f g _ _ (by omega) hu
    obtain ⟨t, a', rfl, h'⟩ := h.ne_of_isS hE hs
    exact .okn h' _
theorem value_lo : ∀ (f lv : Nat) {a : List Tok} {x x' : PS}, J e r a x x' → LO e r a (valueQ f lv x) (valueQ f lv x')
  | 0, _, _, _, _, _ => .err
  | f + 1, lv, a, x, x', h => by
    by_cases ha : a = []
    · intro v y hp
      subst ha
      have hk := h.k5 hE
      unfold valueQ at hp
      rw [if_pos (by unfold noVal; rw [hk]; rfl)] at hp
      cases hp
    · have hh := h.hd ha
      have hn : noVal x' = noVal x := by unfold noVal isS; rw [hh, h.vr]
      unfold valueQ
      rw [hn, hh, h.nd]
      refine .ite (fun _ => Iff.rfl) (fun _ => .err) fun hno => ?_
      obtain ⟨t, a', rfl, h'⟩ := h.ne_of_k hE (fun hk => hno (by unfold noVal; rw [hk]; rfl))
      have hy : J e r a' { nxT x with nd := x.nd + 1 } { nxT x' with nd := x.nd + 1 } := ⟨h'.l, h'.r, h'.vr, rfl⟩
      have hlen : (nxT x).ts.length ≤ (nxT x').ts.length := h'.len hE
      refine .ite (fun _ => Iff.rfl) (fun _ => .err) fun _ => .ite (fun _ => Iff.rfl) (fun _ => .err) fun _ => ?_
      dsimp only
      refine LO.mono (b := a') ?_ ⟨[t], rfl⟩
      refine .ite (fun _ => Iff.rfl) (fun _ => .okk hy _) fun _ => .ite (fun _ => Iff.rfl) (fun _ => .okk hy _) fun _ => .ite (fun _ => Iff.rfl) (fun _ => .okk hy _) fun _ => .ite (fun _ => Iff.rfl) (fun _ => .then (name_ls hE hy).lo fun _ _ _ _ hz => .okk hz _) fun _ => .ite (fun _ => Iff.rfl) (fun _ => ?_) fun _ => ?_
      · exact .then (items_ls hE (fun h => value_lo f (lv + 1) h) _ _ _ (by omega) hy).lo fun _ _ _ _ hz => .okk hz _
      · exact .then (fields_ls hE (fun h => value_lo f (lv + 1) h) _ _ _ _ (by omega) hy).lo fun _ _ _ _ hz => .okk hz _
theorem whole_lo {a : List Tok} {x x' : PS} (h : J e r a x x') : LO e r a (wholeQ x) (wholeQ x') := value_lo hE _ _ ⟨h.l, h.r, h.vr, rfl⟩
theorem argsF_ls : ∀ (f g : Nat) (acc : List D) {a : List Tok} {x x' : PS}, f ≤ g → J e r a x x' → LS e r a (argsF f acc x) (argsF g acc x')
  | 0, _, _, _, _, _, _, _ => .err
  | f + 1, 0, _, _, _, _, hfg, _ => by omega
  | f + 1, g + 1, acc, a, x, x', hfg, h => by
    unfold argsF
    refine .ite (fun ha => by rw [h.sg _ ha]) (fun hs => ?_) fun _ => .ite (fun ha => by rw [h.hd ha]) (fun _ => .err) fun _ => .then (name_ls hE h).lo fun _ _ _ _ hy => .then (take_ls hE hy _).lo fun _ _ _ _ hz => .then (whole_lo hE hz) fun _ _ _ _ hu => argsF_ls f g _ (by omega) hu
    obtain ⟨t, a', rfl, h'⟩ := h.ne_of_isS hE hs.2
    exact .okn h' _
theorem args_lo {a : List Tok} {x x' : PS} (h : J e r a x x') : LO e r a (argsQ x) (argsQ x') := by
  unfold argsQ
  refine .ite (h.sg _) (fun hs => ?_) fun _ => .okk h _
  obtain ⟨t, a', rfl, h'⟩ := h.ne_of_isS hE hs
  exact (argsF_ls hE _ _ _ (h.len hE) h').lo.mono ⟨[t], rfl⟩
theorem dirsF_lo : ∀ (f g : Nat) (acc : List D) {a : List Tok} {x x' : PS}, f ≤ g → J e r a x x' → LO e r a (dirsF f acc x) (dirsF g acc x')
  | 0, _, _, _, _, _, _, _ => .err
  | f + 1, 0, _, _, _, _, hfg, _ => by omega
  | f + 1, g + 1, acc, a, x, x', hfg, h => by
    unfold dirsF
    refine .ite (h.sg _) (fun hs => ?_) fun _ => .okk h _
    obtain ⟨t, a', rfl, h'⟩ := h.ne_of_isS hE hs
    exact LO.mono (b := a') (.ite (fun _ => Iff.rfl) (fun _ => .err) fun _ => .then (name_ls hE h').lo fun _ _ _ _ hy => .then (args_lo hE hy) fun _ _ _ _ hz => dirsF_lo f g _ (by omega) hz) ⟨[t], rfl⟩
theorem dirs_lo {a : List Tok} {x x' : PS} (h : J e r a x x') : LO e r a (dirsQ x) (dirsQ x') := dirsF_lo hE _ _ _ (by have := h.len hE; omega) h
theorem sel_lo {v v' : PS → PR (List D)} (hv : ∀ {a : List Tok} {x x' : PS}, J e r a x x' → LO e r a (v x) (v' x')) {a : List Tok} {x x' : PS} (h : J e r a x x') : LO e r a (selQ v x) (selQ v' x') := by
  unfold selQ
  refine .ite (h.sg _) (fun hs => ?_) fun _ => ?_
  · obtain ⟨t, a', rfl, h'⟩ := h.ne_of_isS hE hs
    refine LO.mono (b := a') ?_ ⟨[t], rfl⟩
    dsimp only
    refine .ite (fun ha => by rw [h'.hd ha]) (fun hk => ?_) fun _ => ?_
    · obtain ⟨t2, a2, rfl, h2⟩ := h'.ne_of_k hE (by rw [hk.1]; decide)
      rw [h'.hd (by simp)]
      exact LO.mono (b := a2) (.then (dirs_lo hE h2) fun _ _ _ _ hz => .okk hz _) ⟨[t2], rfl⟩
    · refine .then (.ite (fun ha => by rw [h'.hd ha]) (fun hk => ?_) fun _ => .okk h' _) fun _ _ _ _ hz => .then (dirs_lo hE hz) fun _ _ _ _ hu => .then (hv hu) fun _ _ _ _ ho => .okk ho _
      obtain ⟨t2, a2, rfl, h2⟩ := h'.ne_of_k hE (by rw [hk]; decide)
      exact (name_ls hE h2).lo.mono ⟨[t2], rfl⟩
  · refine .then (name_ls hE h).lo fun n _ y y' hy => .then (.ite (hy.sg _) (fun hs => ?_) fun _ => .okk hy _) fun _ _ _ _ hz => .then (args_lo hE hz) fun _ _ _ _ hu => .then (dirs_lo hE hu) fun _ _ _ _ hw => .then (.ite (hw.sg _) (fun _ => hv hw) fun _ => .okk hw _) fun _ _ _ _ ho => .okk ho _
    obtain ⟨t2, a2, rfl, h2⟩ := hy.ne_of_isS hE hs
    exact LO.mono (b := a2) (.then (name_ls hE h2).lo fun _ _ _ _ hz => .okk hz _) ⟨[t2], rfl⟩
theorem setF_ls {v v' : PS → PR D} (hv : ∀ {a : List Tok} {x x' : PS}, J e r a x x' → LO e r a (v x) (v' x')) : ∀ (f g : Nat) (acc : List D) {a : List Tok} {x x' : PS}, f ≤ g → J e r a x x' → LS e r a (setF v f acc x) (setF v' g acc x')
  | 0, _, _, _, _, _, _, _ => .err
  | f + 1, 0, _, _, _, _, hfg, _ => by omega
  | f + 1, g + 1, acc, a, x, x', hfg, h => by
    unfold setF
    refine .ite (fun ha => by rw [h.sg _ ha]) (fun hs => ?_) fun _ => .ite (fun ha => by rw [h.hd ha, h.sg _ ha]) (fun _ => .err) fun _ => .then (hv h) fun _ _ _ _ hy => setF_ls hv f g _ (by omega) hy
    obtain ⟨t, a', rfl, h'⟩ := h.ne_of_isS hE hs.2
    exact .okn h' _
theorem sels_ls : ∀ (f lv : Nat) {a : List Tok} {x x' : PS}, J e r a x x' → LS e r a (selsQ f lv x) (selsQ f lv x')
  | 0, _, _, _, _, _ => .err
  | f + 1, lv, a, x, x', h => by
    unfold selsQ
    refine .ite (fun ha => by rw [h.sg _ ha]) (fun _ => .err) fun _ => .then (take_ls hE h _).lo fun _ _ y y' hy => ?_
    exact setF_ls hE (fun h => sel_lo hE (fun h => (sels_ls f (lv + 1) h).lo) h) _ _ _ (by have := hy.len hE; omega) hy
theorem set_ls {a : List Tok} {x x' : PS} (h : J e r a x x') : LS e r a (setQ x) (setQ x') := sels_ls hE _ _ h
theorem varsF_ls : ∀ (f g : Nat) (acc : List D) {a : List Tok} {x x' : PS}, f ≤ g → J e r a x x' → LS e r a (varsF f acc x) (varsF g acc x')
  | 0, _, _, _, _, _, _, _ => .err
  | f + 1, 0, _, _, _, _, hfg, _ => by omega
  | f + 1, g + 1, acc, a, x, x', hfg, h => by
    unfold varsF
    refine .ite (fun ha => by rw [h.sg _ ha]) (fun hs => ?_) fun _ => .ite (fun ha => by rw [h.sg _ ha]) (fun _ => .err) fun _ => .then (take_ls hE h _).lo fun _ _ _ _ hy => .then (name_ls hE hy).lo fun _ _ _ _ hz => .then (take_ls hE hz _).lo fun _ _ _ _ hu => .then (typ_lo hE hu) fun _ _ v v' hv => .then (.ite (hv.sg _) (fun hs => ?_) fun _ => .okk hv _) fun _ _ _ _ ho => varsF_ls f g _ (by omega) ho
    · obtain ⟨t, a', rfl, h'⟩ := h.ne_of_isS hE hs.2
      exact .okn h' _
    · obtain ⟨t, a', rfl, h'⟩ := hv.ne_of_isS hE hs
      exact LO.mono (b := a') (.then (whole_lo hE (x := { nxT v with vr := false }) (x' := { nxT v' with vr := false }) ⟨h'.l, h'.r, rfl, h'.nd⟩) fun _ _ o o' ho => .okk (x := { o with vr := true }) (x' := { o' with vr := true }) ⟨ho.l, ho.r, rfl, ho.nd⟩ _) ⟨[t], rfl⟩
theorem op_ls (k : Int) {a : List Tok} {x x' : PS} (h : J e r a x x') : LS e r a (opQ k x) (opQ k x') := by
  unfold opQ
  refine .then (.ite (fun ha => by rw [h.hd ha]) (fun hk => ?_) fun _ => .okk h _) fun _ _ y y' hy => .then (.ite (hy.sg _) (fun hs => ?_) fun _ => .okk hy _) fun _ _ _ _ hz => .pure (set_ls hE hz) fun _ _ u u' hu => ⟨_, u, u', rfl, rfl, hu⟩
  · obtain ⟨t, a', rfl, h'⟩ := h.ne_of_k hE (by rw [hk]; decide)
    rw [h.hd (by simp)]
    exact (LS.okn h' _).lo
  · obtain ⟨t, a', rfl, h'⟩ := hy.ne_of_isS hE hs
    exact (varsF_ls hE _ _ _ (hy.len hE) h').lo.mono ⟨[t], rfl⟩
theorem frag_ls {a : List Tok} {x x' : PS} (h : J e r a x x') : LS e r a (fragQ x) (fragQ x') := by
  unfold fragQ
  refine .ite (fun ha => by rw [h.hd ha]) (fun _ => .err) fun _ => .then (name_ls hE h).lo fun _ _ y y' hy => .ite (fun ha => by rw [hy.hd ha]) (fun hk => ?_) fun _ => .err
  obtain ⟨t, a', rfl, h'⟩ := hy.ne_of_k hE (by rw [hk.1]; decide)
  refine LS.mono (b := a') ?_ ⟨[t], rfl⟩
  exact .then (name_ls hE h').lo fun _ _ _ _ hz => .pure (set_ls hE hz) fun _ _ u u' hu => ⟨_, u, u', rfl, rfl, hu⟩
end
end Go.Proofs.YthjiclhfhjdjpaaGreatDoor
namespace Go.Proofs.YthjiclhfhjdjpaaGreatDoor
/-- the tokens end with an end -/
def En (x : PS) : Prop := ∃ a e, x.ts = a ++ [e] ∧ e.k = 5 ∧ ∀ t ∈ x.ts, t.s.length ≤ 100000
theorem En.cons {x : PS} (h : En x) : ∃ t r, x.ts = t :: r := by
  obtain ⟨a, e, h1, -⟩ := h
  rw [h1]
  cases a with
  | nil => exact ⟨e, [], rfl⟩
  | cons t a => exact ⟨t, a ++ [e], rfl⟩
theorem En.lo {α : Type} {x y : PS} {v : α} (h : En x) {p : PS → PR α} (hp : ∀ {e : Tok} {a : List Tok} {x x' : PS}, Ends e [e] → J e [e] a x x' → LO e [e] a (p x) (p x')) (hq : p x = .ok (v, y)) : En y ∧ y.ts.length ≤ x.ts.length := by
  obtain ⟨a, e, h1, h2, h4⟩ := h
  obtain ⟨b, ⟨d, hd⟩, h3, -⟩ := hp (e := e) (a := a) (x := x) (x' := x) ⟨h2, by simp⟩ ⟨h1, h1, rfl, rfl⟩ v y hq
  exact ⟨⟨b, e, h3, h2, fun t ht => h4 t (by rw [h1, hd]; rw [h3] at ht; simp at ht ⊢; exact .inr ht)⟩, by rw [h3, h1, hd]; simp⟩
theorem En.ls {α : Type} {x y : PS} {v : α} (h : En x) {p : PS → PR α} (hp : ∀ {e : Tok} {a : List Tok} {x x' : PS}, Ends e [e] → J e [e] a x x' → LS e [e] a (p x) (p x')) (hq : p x = .ok (v, y)) : En y ∧ y.ts.length < x.ts.length := by
  obtain ⟨a, e, h1, h2, h4⟩ := h
  obtain ⟨b, y', ⟨t, d, hd⟩, -, h3⟩ := hp (e := e) (a := a) (x := x) (x' := x) ⟨h2, by simp⟩ ⟨h1, h1, rfl, rfl⟩ v y hq
  exact ⟨⟨b, e, h3.l, h2, fun t ht => h4 t (by rw [h1, hd]; rw [h3.l] at ht; simp at ht ⊢; exact .inr (.inr ht))⟩, by rw [h3.l, h1, hd]; simp; omega⟩
theorem En.name {x y : PS} {v : List UInt8} (h : En x) (hq : nameQ x = .ok (v, y)) : En y ∧ y.ts.length < x.ts.length := h.ls (p := nameQ) (fun hE h => name_ls hE h) hq
theorem En.whole {x y : PS} {v : D} (h : En x) (hq : wholeQ x = .ok (v, y)) : En y ∧ y.ts.length ≤ x.ts.length := h.lo (p := wholeQ) (fun hE h => whole_lo hE h) hq
theorem En.args {x y : PS} {v : List D} (h : En x) (hq : argsQ x = .ok (v, y)) : En y ∧ y.ts.length ≤ x.ts.length := h.lo (p := argsQ) (fun hE h => args_lo hE h) hq
theorem En.dirs {x y : PS} {v : List D} (h : En x) (hq : dirsQ x = .ok (v, y)) : En y ∧ y.ts.length ≤ x.ts.length := h.lo (p := dirsQ) (fun hE h => dirs_lo hE h) hq
theorem En.sel {f lv : Nat} {x y : PS} {v : D} (h : En x) (hq : selQ (selsQ f lv) x = .ok (v, y)) : En y ∧ y.ts.length ≤ x.ts.length := h.lo (p := selQ (selsQ f lv)) (fun hE h => sel_lo hE (fun h => (sels_ls hE f lv h).lo) h) hq
theorem En.sels {f lv : Nat} {x y : PS} {v : List D} (h : En x) (hq : selsQ f lv x = .ok (v, y)) : En y ∧ y.ts.length < x.ts.length := h.ls (p := selsQ f lv) (fun hE h => sels_ls hE f lv h) hq
theorem En.op {k : Int} {x y : PS} {v : D} (h : En x) (hq : opQ k x = .ok (v, y)) : En y ∧ y.ts.length < x.ts.length := h.ls (p := opQ k) (fun hE h => op_ls hE k h) hq
theorem En.frag {x y : PS} {v : D} (h : En x) (hq : fragQ x = .ok (v, y)) : En y ∧ y.ts.length < x.ts.length := h.ls (p := fragQ) (fun hE h => frag_ls hE h) hq
theorem En.nx {x : PS} (h : En x) (hk : (hdT x).k ≠ 5) : En (nxT x) ∧ (nxT x).ts.length < x.ts.length := by
  obtain ⟨a, e, h1, h2, h4⟩ := h
  have hJ : J e [e] a x x := ⟨h1, h1, rfl, rfl⟩
  obtain ⟨t, a', rfl, h3⟩ := hJ.ne_of_k (e := e) (r := [e]) ⟨h2, by simp⟩ hk
  exact ⟨⟨a', e, h3.l, h2, fun t ht => h4 t (by rw [h1]; rw [h3.l] at ht; simp at ht ⊢; exact .inr ht)⟩, by rw [h3.l, h1]; simp⟩
theorem En.hd {x : PS} (h : En x) : (hdT x).s.length ≤ 100000 := by
  obtain ⟨t, r, ht⟩ := h.cons
  obtain ⟨a, e, -, -, h4⟩ := h
  have : hdT x = t := by unfold hdT; rw [ht]; rfl
  rw [this]
  exact h4 t (by rw [ht]; simp)
end Go.Proofs.YthjiclhfhjdjpaaGreatDoor
namespace Go.Proofs.YthjiclhfhjdjpaaGreatDoor
open Go.RowKit
attribute [local irreducible] wpList Calls Code.wp AW AWo OpOk seqK blockK scopeK loopK endK AC absLex Yld Sub
attribute [local irreducible] ACB ACX absLexG YldG
set_option maxHeartbeats 8000000 in
set_option maxRecDepth 100000 in
theorem En.nd {x : PS} (h : En x) (n : Nat) (v : Bool) : En ⟨x.ts, v, n⟩ := h
set_option maxHeartbeats 8000000 in
set_option maxRecDepth 100000 in
theorem then_ok {α β : Type} {r : PR α} {f : α → PS → PR β} {a : α} {x : PS} (h : r = .ok (a, x)) : thenQ r f = f a x := by rw [h]; rfl
set_option maxHeartbeats 8000000 in
set_option maxRecDepth 100000 in
theorem then_err {α β : Type} {r : PR α} {f : α → PS → PR β} {e : Nat × Int} (h : r = .error e) : thenQ r f = .error e := by rw [h]; rfl
end Go.Proofs.YthjiclhfhjdjpaaGreatDoor
namespace Go.Proofs.YthjiclhfhjdjpaaGreatDoor
def Nz {α : Type} (r : PR α) : Prop := ∀ i, r ≠ .error (i, 0)
section
variable {α β : Type}
theorem Nz.okk (p : α × PS) : Nz (.ok p : PR α) := fun i h => by cases h
theorem Nz.err {i : Nat} {e : Int} (h : e ≠ 0) : Nz (.error (i, e) : PR α) := fun j hj => by cases hj; exact h rfl
theorem Nz.ite {c : Prop} [Decidable c] {a b : PR α} (h1 : c → Nz a) (h2 : ¬ c → Nz b) : Nz (if c then a else b) := by
  split
  · exact h1 (by assumption)
  · exact h2 (by assumption)
theorem Nz.then {r : PR α} {f : α → PS → PR β} (h : Nz r) (hf : ∀ a x, r = .ok (a, x) → Nz (f a x)) : Nz (thenQ r f) := by
  cases hr : r with
  | error e =>
    rw [then_err (r := .error e) rfl]
    intro i hi
    cases hi
    exact h i hr
  | ok p =>
    obtain ⟨a, x⟩ := p
    rw [then_ok (r := .ok (a, x)) rfl]
    exact hf a x hr
end
end Go.Proofs.YthjiclhfhjdjpaaGreatDoor
namespace Go.Proofs.YthjiclhfhjdjpaaGreatDoor
def Mz {α : Type} (r : PR α) : Prop := ∀ i e, r = .error (i, e) → 0 < e ∧ e ≤ 100
section
variable {α β : Type}
theorem Mz.okk (p : α × PS) : Mz (.ok p : PR α) := fun i e h => by cases h
theorem Mz.err {i : Nat} {e : Int} (h : 0 < e ∧ e ≤ 100) : Mz (.error (i, e) : PR α) := fun j e' hj => by cases hj; exact h
theorem Mz.ite {c : Prop} [Decidable c] {a b : PR α} (h1 : c → Mz a) (h2 : ¬ c → Mz b) : Mz (if c then a else b) := by
  split
  · exact h1 (by assumption)
  · exact h2 (by assumption)
theorem Mz.then {r : PR α} {f : α → PS → PR β} (h : Mz r) (hf : ∀ a x, r = .ok (a, x) → Mz (f a x)) : Mz (thenQ r f) := by
  cases hr : r with
  | error e =>
    rw [then_err (r := .error e) rfl]
    intro i e' hi
    cases hi
    exact h i e' hr
  | ok p =>
    obtain ⟨a, x⟩ := p
    rw [then_ok (r := .ok (a, x)) rfl]
    exact hf a x hr
end
end Go.Proofs.YthjiclhfhjdjpaaGreatDoor
namespace Go.Proofs.YthjiclhfhjdjpaaGreatDoor
/-- the weight of tokens -/
def tw : List Tok → Nat
  | [] => 0
  | t :: r => t.s.length + 40 + tw r
def Bd {α : Type} (μ : α → Nat) (N : Nat) (r : PR α) : Prop := ∀ v y, r = .ok (v, y) → μ v + tw y.ts ≤ N
section
variable {α β : Type} {μ : α → Nat} {ν : β → Nat} {N M : Nat}
theorem Bd.okk {v : α} {y : PS} (h : μ v + tw y.ts ≤ N) : Bd μ N (.ok (v, y) : PR α) := fun _ _ e => by cases e; exact h
theorem Bd.err {e : Nat × Int} : Bd μ N (.error e : PR α) := fun _ _ h => by cases h
theorem Bd.ite {c : Prop} [Decidable c] {a b : PR α} (h1 : c → Bd μ N a) (h2 : ¬ c → Bd μ N b) : Bd μ N (if c then a else b) := by
  split
  · exact h1 (by assumption)
  · exact h2 (by assumption)
theorem Bd.then {r : PR α} {f : α → PS → PR β} (h : Bd μ N r) (hf : ∀ a x, μ a + tw x.ts ≤ N → Bd ν M (f a x)) : Bd ν M (thenQ r f) := by
  cases hr : r with
  | error e =>
    rw [then_err (r := .error e) rfl]
    exact .err
  | ok p =>
    obtain ⟨a, x⟩ := p
    rw [then_ok (r := .ok (a, x)) rfl]
    exact hf a x (h a x hr)
end
/-- names and what they weigh -/
def sl (s : List UInt8) : Nat := s.length + 40
section
variable {v : PS → PR D} (hv : ∀ y, Bd bulkD (tw y.ts) (v y))
include hv
end
end Go.Proofs.YthjiclhfhjdjpaaGreatDoor
namespace Go.Proofs.YthjiclhfhjdjpaaGreatDoor
def Hr {α : Type} (Q : α → PS → Prop) (r : PR α) : Prop := ∀ v z, r = .ok (v, z) → Q v z
section
variable {α β : Type} {Q : α → PS → Prop} {R : β → PS → Prop}
theorem Hr.okk {v : α} {z : PS} (h : Q v z) : Hr Q (.ok (v, z) : PR α) := fun _ _ e => by cases e; exact h
theorem Hr.err {e : Nat × Int} : Hr Q (.error e : PR α) := fun _ _ h => by cases h
theorem Hr.ite {c : Prop} [Decidable c] {a b : PR α} (h1 : c → Hr Q a) (h2 : ¬ c → Hr Q b) : Hr Q (if c then a else b) := by
  split
  · exact h1 (by assumption)
  · exact h2 (by assumption)
theorem Hr.then {r : PR α} {f : α → PS → PR β} (h : Hr Q r) (hf : ∀ a x, Q a x → Hr R (f a x)) : Hr R (thenQ r f) := by
  cases hr : r with
  | error e =>
    rw [then_err (r := .error e) rfl]
    exact .err
  | ok p =>
    obtain ⟨a, x⟩ := p
    rw [then_ok (r := .ok (a, x)) rfl]
    exact hf a x (h a x hr)
theorem Hr.mono {r : PR α} {Q' : α → PS → Prop} (h : Hr Q r) (hq : ∀ a x, Q a x → Q' a x) : Hr Q' r := fun v z e => hq v z (h v z e)
end
/-- a name's token holds a name; kinds -/
def GT (x : PS) : Prop := ∀ t ∈ x.ts, (t.k = 2 → nameB ⟨t.s.toArray⟩ = true) ∧ 1 ≤ t.k ∧ t.k ≤ 5
theorem GT.nx {x : PS} (h : GT x) : GT (nxT x) := fun t ht => by
  unfold nxT at ht
  split at ht
  · exact h t ht
  · exact h t (List.mem_of_mem_drop ht)
theorem nx_vr (x : PS) : (nxT x).vr = x.vr := by unfold nxT; split <;> rfl
theorem nx_nd2 (x : PS) : (nxT x).nd = x.nd := by unfold nxT; split <;> rfl
theorem GT.hd {x : PS} (h : GT x) : ((hdT x).k = 2 → nameB ⟨(hdT x).s.toArray⟩ = true) ∧ 1 ≤ (hdT x).k ∧ (hdT x).k ≤ 5 := by
  unfold hdT
  cases hx : x.ts with
  | nil => exact ⟨fun h => absurd h (by decide), by decide, by decide⟩
  | cons t r => exact h t (by rw [hx]; exact List.mem_cons_self ..)
/-- what a reader keeps -/
structure Pv (x z : PS) : Prop where
  gt : GT z
  vr : z.vr = x.vr
theorem Pv.trans {x y z : PS} (h1 : Pv x y) (h2 : Pv y z) : Pv x z := ⟨h2.gt, h2.vr.trans h1.vr⟩
theorem GT.pvn {x : PS} (h : GT x) : Pv x (nxT x) := ⟨h.nx, nx_vr x⟩
theorem name_rt {x : PS} (h : GT x) : Hr (fun n z => nameB ⟨n.toArray⟩ = true ∧ Pv x z ∧ z.nd = x.nd) (nameQ x) := by
  unfold nameQ
  exact .ite (fun hk => .okk ⟨h.hd.1 hk, h.pvn, nx_nd2 x⟩) fun _ => .err
structure VOk (lv : Nat) (vr : Bool) (n0 : Nat) (v : D) (n1 : Nat) : Prop where
  sz : ∀ k, Dp k v → sizeR k v + n0 = n1
  dp : ∀ k, Dp k v → depthR k v + lv ≤ 25
  ev : ∀ k, Dp k v → everyL k v = true
  br : vr = false → ∀ k, Dp k v → bareR k v = true
structure CH (lv : Nat) (vr : Bool) (n0 : Nat) (l : List D) (n1 : Nat) : Prop where
  sz : ∀ k, (∀ i, i < l.length → Dp k (gD l i)) → sumN (fun i => sizeR k (gD l i)) l.length + n0 = n1
  dp : ∀ i, i < l.length → ∀ k, Dp k (gD l i) → depthR k (gD l i) + lv ≤ 25
  ev : ∀ i, i < l.length → ∀ k, Dp k (gD l i) → everyL k (gD l i) = true
  br : vr = false → ∀ i, i < l.length → ∀ k, Dp k (gD l i) → bareR k (gD l i) = true
theorem CH.nil {lv : Nat} {vr : Bool} {n : Nat} : CH lv vr n [] n :=
  ⟨fun k _ => by simp [sumN], fun i hi => absurd hi (Nat.not_lt_zero i), fun i hi => absurd hi (Nat.not_lt_zero i), fun _ i hi => absurd hi (Nat.not_lt_zero i)⟩
section
variable {val : PS → PR D} {lv n0 : Nat} {vr : Bool} (hv : ∀ y, GT y → y.vr = vr → y.nd ≤ 4096 → Hr (fun v z => Pv y z ∧ VOk lv vr y.nd v z.nd ∧ z.nd ≤ 4096) (val y))
include hv
end
def Al (p : D → Bool) (l : List D) : Prop := ∀ i, i < l.length → p (gD l i) = true
theorem Al.nil {p : D → Bool} : Al p [] := fun i hi => absurd hi (Nat.not_lt_zero i)
theorem Hr.name {β : Type} {R : β → PS → Prop} {x : PS} {f : List UInt8 → PS → PR β} (h : GT x) (hf : ∀ n z, (hdT x).k = 2 → nameB ⟨n.toArray⟩ = true → Pv x z → Hr R (f n z)) : Hr R (thenQ (nameQ x) f) := by
  by_cases hk : (hdT x).k = 2
  · exact .then (name_rt h) fun n z hz => hf n z hk hz.1 hz.2.1
  · unfold nameQ
    rw [if_neg hk]
    exact .err
end Go.Proofs.YthjiclhfhjdjpaaGreatDoor
namespace Go.Proofs.YthjiclhfhjdjpaaGreatDoor
abbrev KS := List (Int × List UInt8)
theorem letB_u : ∀ c : UInt8, letB (c.toNat : Int) = true → letU c = true := fun c =>
  all256 (p := fun c => letB (c.toNat : Int) = true → letU c = true) (by decide +kernel) c
theorem wrdB_u : ∀ c : UInt8, (letB (c.toNat : Int) || digB (c.toNat : Int)) = true → wrdU c = true := fun c =>
  all256 (p := fun c => (letB (c.toNat : Int) || digB (c.toNat : Int)) = true → wrdU c = true) (by decide +kernel) c
theorem name_u {s : ByteArray} (h : nameB s = true) : nameU (tx s) = true := by
  unfold nameB at h
  have h := of_decide_eq_true h
  obtain ⟨h1, h2, h3, h4⟩ := h
  have hl := tx_len s
  have hb : ∀ i, i < s.size → wrdU ((tx s).getD i 0) = true := fun i hi => wrdB_u _ (h4 i hi)
  have h0 := h4 0 h1
  rw [h3, Bool.or_false] at h0
  have h5 : letU ((tx s).getD 0 0) = true := letB_u _ h0
  generalize tx s = t at hl hb h5
  cases t with
  | nil => simp at hl; omega
  | cons c q =>
    simp only [List.length_cons] at hl
    simp only [nameU, Bool.and_eq_true, decide_eq_true_eq]
    refine ⟨⟨h5, List.all_eq_true.2 fun x hx => ?_⟩, by omega⟩
    obtain ⟨i, hi, rfl⟩ := List.getElem_of_mem hx
    have := hb (i + 1) (by omega)
    rw [List.getD_cons_succ, List.getD_eq_getElem?_getD, List.getElem?_eq_getElem hi] at this
    exact this
theorem Pw.nm {s : ByteArray} (h : nameB s = true) : Pw (tx s) [(2, tx s)] := .name (name_u h)
def gK (g : Nat → KS) (j m : Nat) : KS := (List.range' j m).flatMap g
theorem gK_zero (g : Nat → KS) (j : Nat) : gK g j 0 = [] := rfl
theorem gK_succ (g : Nat → KS) (j m : Nat) : gK g j (m + 1) = g j ++ gK g (j + 1) m := by
  unfold gK
  rw [List.range'_succ, List.flatMap_cons]
theorem gK_last (g : Nat → KS) : ∀ m, gK g 0 (m + 1) = gK g 0 m ++ g m := fun m => by
  unfold gK
  rw [List.range'_concat, List.flatMap_append]
  simp
theorem gK_len (g : Nat → KS) (h : ∀ i, 1 ≤ (g i).length) : ∀ m j, m ≤ (gK g j m).length
  | 0, _ => Nat.zero_le _
  | m + 1, j => by
    have := gK_len g h m (j + 1)
    have := h j
    rw [gK_succ, List.length_append]
    omega
/-- what stands between two things, without a token -/
def Gap (sep : List UInt8) : Prop := Ps sep [] ∧ sep ≠ [] ∧ bnd sep
theorem Gap.comma : Gap commaT := ⟨(Ps.sep (c := 44) rfl).app (Ps.sep (c := 32) rfl), by decide, bnd_cons (by decide)⟩
theorem Gap.space : Gap [32] := ⟨.sep rfl, by decide, bnd_cons (by decide)⟩
theorem Gap.line : Gap [10] := ⟨.sep rfl, by decide, bnd_cons (by decide)⟩
theorem Pw.gap {a b sep : List UInt8} {ka kb : KS} (h : Pw a ka) (hs : Gap sep) (k : Pw b kb) : Pw (a ++ sep ++ b) (ka ++ kb) := by
  have h1 := h.app hs.1 ⟨hs.2.1, hs.2.2⟩
  rw [List.append_nil] at h1
  exact h1.appw k
theorem Pw.join {f : Nat → List UInt8} {g : Nat → KS} {sep : List UInt8} (hs : Gap sep) : ∀ n, (∀ i, i < n → Pw (f i) (g i)) → Pw (Lib.join ((List.range n).map f) sep) (gK g 0 n)
  | 0, _ => Ps.nil.w
  | n + 1, h => by
    have ih := Pw.join (f := f) (g := g) hs n fun i hi => h i (by omega)
    rw [gK_last, List.range_succ, List.map_append]
    cases n with
    | zero =>
      have e : Lib.join ((List.range 0).map f ++ [0].map f) sep = f 0 := by simp [Lib.join_one]
      rw [e]
      exact h 0 (by omega)
    | succ n =>
      have e : (List.range (n + 1)).map f ≠ [] := fun e => by have := congrArg List.length e; simp at this
      rw [List.map_cons, List.map_nil, joinSnoc _ _ _ e]
      exact ih.gap hs (h (n + 1) (by omega))
theorem map_range (l : List D) (f : D → List UInt8) : l.map f = (List.range l.length).map fun i => f (gD l i) := by
  apply List.ext_getElem (by simp)
  intro i h1 h2
  simp [gD_get (l := l) (i := i) (by simpa using h1)]
def rgK (g : D → KS) (l : List D) : KS := gK (fun i => g (gD l i)) 0 l.length
theorem Pw.joinL {f : D → List UInt8} {g : D → KS} {sep : List UInt8} (hs : Gap sep) (l : List D) (h : ∀ i, i < l.length → Pw (f (gD l i)) (g (gD l i))) : Pw (Lib.join (l.map f) sep) (rgK g l) := by
  rw [map_range]
  exact Pw.join hs _ h
theorem Ps.wrap {a b : UInt8} {t : List UInt8} {k : KS} (ha : signB a = true) (hb : signB b = true) (h : Pw t k) : Ps ([a] ++ t ++ [b]) ((1, [a]) :: (k ++ [(1, [b])])) := by
  have h1 := (Ps.sign ha).appw h
  have h2 := h1.app (Ps.sign hb) ⟨by simp, bnd_cons (sign_plain b hb).2.2⟩
  exact h2
def valK : Nat → D → KS
  | 0, _ => []
  | k + 1, d =>
    if (d.f 0).n = 1 then [(2, if (d.f 1).n = 1 then [116, 114, 117, 101] else [102, 97, 108, 115, 101])]
    else if (d.f 0).n = 2 then [(3, Lib.itoa (d.f 1).n)]
    else if (d.f 0).n = 3 then [(4, tx (d.f 2).s)]
    else if (d.f 0).n = 4 then [(2, tx (d.f 2).s)]
    else if (d.f 0).n = 7 then [(1, [36]), (2, tx (d.f 2).s)]
    else if (d.f 0).n = 5 then (1, [91]) :: (gK (fun i => valK k (gD (d.f 3).l i)) 0 (d.f 3).l.length ++ [(1, [93])])
    else if (d.f 0).n = 6 then (1, [123]) :: (gK (fun i => (2, tx (gD (d.f 4).l i).s) :: (1, [58]) :: valK k (gD (d.f 3).l i)) 0 (d.f 3).l.length ++ [(1, [125])])
    else [(2, [110, 117, 108, 108])]
/-- what a literal's node says -/
structure NodeF (d : D) : Prop where
  int0 : (d.f 0).n = 1 ∨ (d.f 0).n = 2 ∨ (d.f 1).n = 0
  txt0 : (d.f 0).n = 3 ∨ (d.f 0).n = 4 ∨ (d.f 0).n = 7 ∨ tx (d.f 2).s = []
  keys0 : (d.f 0).n = 6 ∨ (d.f 4).l.length = 0
  items0 : (d.f 0).n = 6 ∨ (d.f 0).n = 5 ∨ (d.f 3).l.length = 0
  kind : 0 ≤ (d.f 0).n ∧ (d.f 0).n ≤ 7
  bool : (d.f 0).n = 1 → (d.f 1).n = 0 ∨ (d.f 1).n = 1
  enum : (d.f 0).n = 4 → enumR (d.f 2).s = true
  var : (d.f 0).n = 7 → nameB (d.f 2).s = true
  obj : (d.f 0).n = 6 → (∀ i, i < (d.f 4).l.length → nameB (gD (d.f 4).l i).s = true) ∧ (d.f 4).l.length = (d.f 3).l.length ∧ (strsR d).Nodup
theorem any_no {p : D → Bool} {l : List D} (h : (l.any fun x => !p x) = false) : ∀ i, i < l.length → p (gD l i) = true := fun i hi => by
  rw [List.any_eq_false] at h
  have := h _ (gD_mem hi)
  simpa using this
theorem xnode {d : D} (h : nodeL d = true) : NodeF d := by
  unfold nodeL nodeK at h
  simp only [Bool.and_eq_true, Bool.or_eq_true, beq_iff_eq, decide_eq_true_eq, Bool.not_eq_true', beq_eq_false_iff_ne] at h
  obtain ⟨⟨⟨⟨⟨⟨⟨⟨h1, h2⟩, h3⟩, h4⟩, h5⟩, h6⟩, h7⟩, h8⟩, h9⟩ := h
  refine ⟨?_, ?_, h3, ?_, h5, ?_, ?_, ?_, ?_⟩
  · rcases h1 with (h | h) | h
    · exact .inl h
    · exact .inr (.inl h)
    · exact .inr (.inr h)
  · rcases h2 with ((h | h) | h) | h
    · exact .inl h
    · exact .inr (.inl h)
    · exact .inr (.inr (.inl h))
    · exact .inr (.inr (.inr h))
  · rcases h4 with (h | h) | h
    · exact .inl h
    · exact .inr (.inl h)
    · exact .inr (.inr h)
  · intro h
    rcases h6 with (h' | h') | h'
    · exact absurd h h'
    · exact .inl h'
    · exact .inr h'
  · intro h
    rcases h7 with h' | h'
    · exact absurd h h'
    · exact h'
  · intro h
    rcases h8 with h' | h'
    · exact absurd h h'
    · exact h'
  · intro h
    rcases h9 with h' | h'
    · exact absurd h h'
    · exact ⟨any_no h'.1.1, h'.1.2, h'.2⟩
theorem every_node {k : Nat} {d : D} (h : everyL (k + 1) d = true) : NodeF d ∧ ∀ i, i < (d.f 3).l.length → everyL k (gD (d.f 3).l i) = true := by
  unfold everyL at h
  rw [Bool.and_eq_true, Bool.not_eq_true'] at h
  exact ⟨xnode h.1, any_no h.2⟩
theorem enum_name {s : ByteArray} (h : enumR s = true) : nameB s = true ∧ tx s ≠ [116, 114, 117, 101] ∧ tx s ≠ [102, 97, 108, 115, 101] ∧ tx s ≠ [110, 117, 108, 108] := by
  unfold enumR at h
  simp only [Bool.and_eq_true, Bool.not_eq_true', beq_eq_false_iff_ne] at h
  exact ⟨h.1.1.1, h.1.1.2, h.1.2, h.2⟩
theorem valT_pw : ∀ (k : Nat) (d : D), wideD d → everyL k d = true → Pw (valT k d) (valK k d)
  | 0, _, _, h => by cases h
  | k + 1, d, hw, h => by
    obtain ⟨hn, hi⟩ := every_node h
    unfold valT valK
    split
    · split
      · exact .name rfl
      · exact .name rfl
    split
    · exact .int _ (hw.f 1).n.1 (hw.f 1).n.2
    split
    · exact (Ps.quote _).w
    split
    · exact .nm (enum_name (hn.enum ‹_›)).1
    split
    · exact (Ps.sign (c := 36) rfl).appw (.nm (hn.var ‹_›))
    split
    · exact (Ps.wrap rfl rfl (Pw.join (f := fun i => valT k (gD (d.f 3).l i)) (g := fun i => valK k (gD (d.f 3).l i)) .comma _ fun i hl => valT_pw k _ ((hw.f 3).l i) (hi i hl))).w
    split
    · obtain ⟨h1, h2, -⟩ := hn.obj ‹_›
      rw [show min (d.f 4).l.length (d.f 3).l.length = (d.f 3).l.length by omega]
      refine (Ps.wrap rfl rfl (Pw.join (f := fun i => tx (gD (d.f 4).l i).s ++ [58, 32] ++ valT k (gD (d.f 3).l i)) (g := fun i => (2, tx (gD (d.f 4).l i).s) :: (1, [58]) :: valK k (gD (d.f 3).l i)) .comma _ fun i hl => ?_)).w
      have p1 := (Pw.nm (h1 i (by omega))).app ((Ps.sign (c := 58) rfl).app (Ps.sep (c := 32) rfl)) ⟨by simp, bnd_cons (by decide)⟩
      exact p1.appw (valT_pw k _ ((hw.f 3).l i) (hi i hl))
    · exact .name rfl
theorem valT_eq {a b : Nat} {d : D} (ha : Dp a d) (hb : Dp b d) : valT a d = valT b d := by
  rcases Nat.le_total a b with h | h
  · exact (valT_more ha h).symm
  · exact valT_more hb h
def litK (d : D) : KS := valK (bulkD d) d
theorem litT_pw {K : Nat} {d : D} (hd : Dp K d) (hw : wideD d) (h : litR d = true) : Pw (valT K d) (litK d) := by
  unfold litR at h
  rw [Bool.and_eq_true] at h
  rw [valT_eq hd (dp_bulk (bulkD d) d (Nat.le_refl _))]
  exact valT_pw _ _ hw h.2
def argK (a : D) : KS := (2, tx (a.f 0).s) :: (1, [58]) :: litK (a.f 1)
def parK (l : List D) : KS := if l.length = 0 then [] else (1, [40]) :: (rgK argK l ++ [(1, [41])])
def dirK (x : D) : KS := (1, [64]) :: (2, tx (x.f 0).s) :: parK (x.f 1).l
theorem argsR_all {l : List D} (h : argsR l = true) : l.length ≤ 16 ∧ ∀ i, i < l.length → nameB ((gD l i).f 0).s = true ∧ litR ((gD l i).f 1) = true := by
  unfold argsR at h
  rw [Bool.and_eq_true, Bool.not_eq_true', decide_eq_true_eq] at h
  refine ⟨h.1, fun i hi => ?_⟩
  have := any_no h.2 i hi
  unfold argR at this
  rwa [Bool.and_eq_true] at this
theorem dirsR_all {l : List D} (h : dirsR l = true) : l.length ≤ 16 ∧ ∀ i, i < l.length → nameB ((gD l i).f 0).s = true ∧ argsR ((gD l i).f 1).l = true := by
  unfold dirsR at h
  rw [Bool.and_eq_true, Bool.not_eq_true', decide_eq_true_eq] at h
  refine ⟨h.1, fun i hi => ?_⟩
  have := any_no h.2 i hi
  unfold dirR at this
  rwa [Bool.and_eq_true] at this
theorem colon_pw {s : ByteArray} {t : List UInt8} {k : KS} (hs : nameB s = true) (h : Pw t k) : Pw (tx s ++ [58, 32] ++ t) ((2, tx s) :: (1, [58]) :: k) := by
  have p1 := (Pw.nm hs).app ((Ps.sign (c := 58) rfl).app (Ps.sep (c := 32) rfl)) ⟨by simp, bnd_cons (by decide)⟩
  exact p1.appw h
theorem argsT_pw {K : Nat} {l : List D} (h : argsR l = true) (hd : ∀ i, i < l.length → Dp K ((gD l i).f 1)) (hw : ∀ i, wideD (gD l i)) : Pw (argsT K l) (rgK argK l) := by
  unfold argsT
  exact Pw.joinL .comma l fun i hi => colon_pw ((argsR_all h).2 i hi).1 (litT_pw (hd i hi) ((hw i).f 1) ((argsR_all h).2 i hi).2)
theorem parT_ps {K : Nat} {l : List D} (h : argsR l = true) (hd : ∀ i, i < l.length → Dp K ((gD l i).f 1)) (hw : ∀ i, wideD (gD l i)) : Ps (parT K l) (parK l) := by
  unfold parT parK
  split
  · exact .nil
  · exact Ps.wrap rfl rfl (argsT_pw h hd hw)
theorem parT_bnd (K : Nat) (l : List D) : bnd (parT K l) := by
  unfold parT
  split
  · exact bnd_nil
  · exact bnd_cons (by decide)
theorem dirsT_pw {K : Nat} {l : List D} (h : dirsR l = true) (hd : DirsOk K l) : Pw (dirsT K l) (rgK dirK l) := by
  unfold dirsT
  refine Pw.joinL .space l fun i hi => ?_
  obtain ⟨h1, h2⟩ := (dirsR_all h).2 i hi
  have p1 := (Ps.sign (c := 64) rfl).appw (Pw.nm h1)
  exact p1.appw (parT_ps h2 (hd.args i hi).dp (hd.args i hi).wide).w (parT_bnd _ _)
theorem tailT_pw {K : Nat} {l : List D} (h : dirsR l = true) (hd : DirsOk K l) : Pw (tailT K l) (rgK dirK l) := by
  unfold tailT
  split
  · rename_i h0
    unfold rgK
    rw [h0]
    exact Ps.nil.w
  · exact (Ps.sep (c := 32) rfl).appw (dirsT_pw h hd)
theorem tailT_bnd (K : Nat) (l : List D) : bnd (tailT K l) := by
  unfold tailT
  split
  · exact bnd_nil
  · exact bnd_cons (by decide)
def blkK (k : KS) : KS := (1, [123]) :: (k ++ [(1, [125])])
def selK (inner : List D → KS) (s : D) : KS :=
  if (s.f 0).n = 2 then (1, [46, 46, 46]) :: (2, tx (s.f 2).s) :: rgK dirK (s.f 5).l
  else if (s.f 0).n = 3 then (1, [46, 46, 46]) :: ((if tx (s.f 3).s = [] then [] else [(2, onT), (2, tx (s.f 3).s)]) ++ (rgK dirK (s.f 5).l ++ blkK (inner (s.f 6).l)))
  else (if tx (s.f 1).s = [] then [] else [(2, tx (s.f 1).s), (1, [58])]) ++ ((2, tx (s.f 2).s) :: (parK (s.f 4).l ++ (rgK dirK (s.f 5).l ++ (if (s.f 6).l.length = 0 then [] else blkK (inner (s.f 6).l)))))
def selsK : Nat → List D → KS
  | 0, _ => []
  | f + 1, l => rgK (selK (selsK f)) l
/-- what a right selection says, in parts -/
structure SelF (sub : List D → Nat → Prop) (d : D) : Prop where
  args : argsR (d.f 4).l = true
  dirs : dirsR (d.f 5).l = true
  field : (d.f 0).n = 1 → tx (d.f 3).s = [] ∧ nameB (d.f 2).s = true ∧ (tx (d.f 1).s = [] ∨ nameB (d.f 1).s = true) ∧ sub (d.f 6).l 0
  spread : (d.f 0).n = 2 → tx (d.f 3).s = [] ∧ tx (d.f 1).s = [] ∧ (d.f 4).l.length = 0 ∧ (d.f 6).l.length = 0 ∧ nameB (d.f 2).s = true ∧ tx (d.f 2).s ≠ [111, 110]
  inline : (d.f 0).n = 3 → tx (d.f 1).s = [] ∧ tx (d.f 2).s = [] ∧ (d.f 4).l.length = 0 ∧ (tx (d.f 3).s = [] ∨ nameB (d.f 3).s = true) ∧ sub (d.f 6).l 1
  kind : (d.f 0).n = 1 ∨ (d.f 0).n = 2 ∨ (d.f 0).n = 3
theorem none_tx {s : ByteArray} : noneS s = true ↔ tx s = [] := by unfold noneS tx; rw [beq_iff_eq]
theorem title_tx {s : ByteArray} (h : titleR s = true) : nameB s = true ∧ tx s ≠ [111, 110] := by
  unfold titleR at h
  rw [Bool.and_eq_true, Bool.not_eq_true', beq_eq_false_iff_ne] at h
  exact h
/-- a right set of selections -/
def SetF (sel : D → Prop) (lv : Nat) (l : List D) (least : Nat) : Prop := least ≤ l.length ∧ l.length ≤ 64 ∧ (l.length = 0 ∨ lv ≤ 24) ∧ ∀ i, i < l.length → sel (gD l i)
theorem xset {sel : D → Bool} {l : List D} {least lv : Nat} (h : selsR sel l least lv = true) : SetF (fun d => sel d = true) lv l least := by
  unfold selsR at h
  simp only [Bool.and_eq_true, Bool.or_eq_true, decide_eq_true_eq, Bool.not_eq_true'] at h
  exact ⟨h.1.1.1, h.1.1.2, h.1.2, any_no h.2⟩
theorem xsel {k lv : Nat} {d : D} (h : selR (k + 1) lv d = true) : SelF (fun l least => SetF (fun x => selR k (lv + 1) x = true) (lv + 1) l least) d := by
  unfold selR at h
  rw [Bool.and_eq_true, Bool.and_eq_true] at h
  obtain ⟨⟨h1, h2⟩, h3⟩ := h
  by_cases k1 : (d.f 0).n = 1
  · rw [if_pos k1] at h3
    simp only [Bool.and_eq_true, Bool.or_eq_true, none_tx] at h3
    exact ⟨h1, h2, fun _ => ⟨h3.1.1.1, h3.1.1.2, h3.1.2, xset h3.2⟩, fun e => by omega, fun e => by omega, .inl k1⟩
  rw [if_neg k1] at h3
  by_cases k2 : (d.f 0).n = 2
  · rw [if_pos k2] at h3
    simp only [Bool.and_eq_true, none_tx, decide_eq_true_eq] at h3
    have ht := title_tx h3.2
    exact ⟨h1, h2, fun e => absurd e k1, fun _ => ⟨h3.1.1.1.1, h3.1.1.1.2, h3.1.1.2, h3.1.2, ht.1, ht.2⟩, fun e => by omega, .inr (.inl k2)⟩
  rw [if_neg k2] at h3
  by_cases k3 : (d.f 0).n = 3
  · rw [if_pos k3] at h3
    simp only [Bool.and_eq_true, Bool.or_eq_true, none_tx, decide_eq_true_eq] at h3
    exact ⟨h1, h2, fun e => absurd e k1, fun e => absurd e k2, fun _ => ⟨h3.1.1.1.1, h3.1.1.1.2, h3.1.1.2, h3.1.2, xset h3.2⟩, .inr (.inr k3)⟩
  · rw [if_neg k3] at h3; cases h3
theorem rep_ps (n : Nat) : Ps (Lib.repeatL [32, 32] n) [] := by
  induction n with
  | zero => exact .nil
  | succ n ih =>
    have e : Lib.repeatL [32, 32] (n + 1) = [32] ++ [32] ++ Lib.repeatL [32, 32] n := by simp [Lib.repeatL, List.replicate_succ]
    rw [e]
    exact ((Ps.sep (c := 32) rfl).app (Ps.sep (c := 32) rfl)).app ih
theorem line_ps {n : Nat} {t : List UInt8} {k : KS} (h : Pw t k) : Ps (lineT n t) k := by
  unfold lineT
  have h1 := (rep_ps n).appw h
  have h2 := h1.app (Ps.sep (c := 10) rfl) ⟨by simp, bnd_cons (by decide)⟩
  rw [List.append_nil] at h2
  exact h2
theorem brace_pw {t : List UInt8} {k : KS} (h : Pw t k) : Pw (t ++ [32, 123]) (k ++ [(1, [123])]) :=
  (h.app ((Ps.sep (c := 32) rfl).app (Ps.sign (c := 123) rfl)) ⟨by simp, bnd_cons (by decide)⟩).w
theorem block_ps {n m : Nat} {t i : List UInt8} {k ki : KS} (h : Pw t k) (hi : Ps i ki) : Ps (lineT n (t ++ [32, 123]) ++ i ++ lineT m [125]) (k ++ blkK ki) := by
  have h1 := line_ps (n := n) (brace_pw h)
  have h2 := line_ps (n := m) (Ps.sign (c := 125) rfl).w
  have h3 := (h1.app hi).app h2
  have e : k ++ [(1, [123])] ++ ki ++ [(1, [125])] = k ++ blkK ki := by simp [blkK]
  rwa [e] at h3
theorem flat_ps {f : D → List UInt8} {g : D → KS} (l : List D) (h : ∀ i, i < l.length → Ps (f (gD l i)) (g (gD l i))) : Ps (l.map f).flatten (rgK g l) := by
  have key : ∀ n, n ≤ l.length → Ps (((List.range n).map fun i => f (gD l i)).flatten) (gK (fun i => g (gD l i)) 0 n) := fun n => by
    induction n with
    | zero => intro _; exact .nil
    | succ n ih =>
      intro hn
      rw [List.range_succ, List.map_append, List.flatten_append, gK_last]
      have := (ih (by omega)).app (h n (by omega))
      simpa using this
  rw [map_range]
  exact key _ (Nat.le_refl _)
theorem head_pw {K : Nat} {sub : List D → Nat → Prop} {inner : List D → Prop} {s : D} (h : SelF sub s) (ho : SelOk K inner s) :
    Pw (headT K s) (if (s.f 0).n = 2 then (1, [46, 46, 46]) :: (2, tx (s.f 2).s) :: rgK dirK (s.f 5).l
      else if (s.f 0).n = 3 then (1, [46, 46, 46]) :: ((if tx (s.f 3).s = [] then [] else [(2, onT), (2, tx (s.f 3).s)]) ++ rgK dirK (s.f 5).l)
      else (if tx (s.f 1).s = [] then [] else [(2, tx (s.f 1).s), (1, [58])]) ++ ((2, tx (s.f 2).s) :: (parK (s.f 4).l ++ rgK dirK (s.f 5).l))) := by
  have ht := tailT_pw h.dirs ho.dirs
  have hb := tailT_bnd K (s.f 5).l
  unfold headT
  by_cases k2 : (s.f 0).n = 2
  · rw [if_pos k2, if_pos k2]
    have hn := (h.spread k2).2.2.2.2.1
    exact (Ps.dots.appw (Pw.nm hn)).appw ht hb
  rw [if_neg k2, if_neg k2]
  by_cases k3 : (s.f 0).n = 3
  · rw [if_pos k3, if_pos k3]
    by_cases e : tx (s.f 3).s = []
    · rw [if_pos e, if_pos e, List.append_nil]
      exact Ps.dots.appw ht
    · rw [if_neg e, if_neg e]
      have hn : nameB (s.f 3).s = true := by rcases (h.inline k3).2.2.2.1 with h' | h'; exact absurd h' e; exact h'
      have p1 : Pw ([32, 111, 110, 32] ++ tx (s.f 3).s) [(2, onT), (2, tx (s.f 3).s)] := by
        have a := (Ps.sep (c := 32) rfl).appw (Pw.name (l := [111, 110]) rfl)
        exact a.gap .space (Pw.nm hn)
      exact (Ps.dots.appw p1).appw ht hb
  · rw [if_neg k3, if_neg k3]
    have k1 : (s.f 0).n = 1 := by rcases h.kind with h' | h' | h'; exact h'; exact absurd h' k2; exact absurd h' k3
    obtain ⟨-, hn, ha, -⟩ := h.field k1
    have pp := parT_ps h.args ho.args.dp ho.args.wide
    have p1 : Pw (tx (s.f 2).s ++ parT K (s.f 4).l ++ tailT K (s.f 5).l) ((2, tx (s.f 2).s) :: (parK (s.f 4).l ++ rgK dirK (s.f 5).l)) := by
      have a := ((Pw.nm hn).appw pp.w (parT_bnd _ _)).appw ht hb
      exact a
    by_cases e : tx (s.f 1).s = []
    · rw [if_pos e, if_pos e]; exact p1
    · rw [if_neg e, if_neg e]
      have hn : nameB (s.f 1).s = true := by rcases ha with h' | h'; exact absurd h' e; exact h'
      exact colon_pw hn p1
theorem sel_ps {K n : Nat} {sub : List D → Nat → Prop} {inner : List D → Prop} {iT : List D → List UInt8} {iK : List D → KS} {s : D} (h : SelF sub s) (ho : SelOk K inner s) (hi : Ps (iT (s.f 6).l) (iK (s.f 6).l)) :
    Ps (selT K iT n s) (selK iK s) := by
  have hh := head_pw h ho
  unfold selT selK
  by_cases k2 : (s.f 0).n = 2
  · rw [if_pos k2] at hh
    rw [if_pos k2, if_neg (by unfold openB; rw [k2]; simp)]
    exact line_ps hh
  rw [if_neg k2] at hh
  rw [if_neg k2]
  by_cases k3 : (s.f 0).n = 3
  · rw [if_pos k3] at hh
    rw [if_pos k3, if_pos (by unfold openB; rw [k3]; rfl)]
    have := block_ps (n := n) (m := n) hh hi
    simpa [List.append_assoc] using this
  · rw [if_neg k3] at hh
    rw [if_neg k3]
    by_cases e : (s.f 6).l.length = 0
    · rw [if_neg (by unfold openB; simp [k3, e]), if_pos e, List.append_nil]
      exact line_ps hh
    · rw [if_pos (by unfold openB; simp [k2, e]), if_neg e]
      have := block_ps (n := n) (m := n) hh hi
      simpa [List.append_assoc] using this
theorem sels_ps {K : Nat} : ∀ (f k lv n : Nat) (l : List D), SelsOk K f l → (∀ i, i < l.length → selR k lv (gD l i) = true) → Ps (selsT K f n l) (selsK f l)
  | 0, _, _, _, _, _, _ => .nil
  | f + 1, k, lv, n, l, h, hr => by
    unfold selsT selsK
    refine flat_ps l fun i hi => ?_
    have h1 := h i hi
    have h2 := hr i hi
    cases k with
    | zero => cases h2
    | succ k =>
      have hs := xsel h2
      refine sel_ps hs h1 (sels_ps f k (lv + 1) (n + 1) _ h1.sub fun j hj => ?_)
      rcases hs.kind with e | e | e
      · exact (hs.field e).2.2.2.2.2.2 j hj
      · have := (hs.spread e).2.2.2.1; omega
      · exact (hs.inline e).2.2.2.2.2.2.2 j hj
end Go.Proofs.YthjiclhfhjdjpaaGreatDoor
namespace Go.Proofs.YthjiclhfhjdjpaaGreatDoor
def refK (n : List UInt8) : List D → KS
  | [] => [(2, n)]
  | d :: ds => if d.n == 1 then refK n ds ++ [(1, [33])] else (1, [91]) :: (refK n ds ++ [(1, [93])])
theorem refB_pw {s : ByteArray} (h : nameB s = true) : ∀ l : List D, Pw (refB (tx s) l) (refK (tx s) l)
  | [] => .nm h
  | d :: ds => by
    have ih := refB_pw h ds
    unfold refB refK
    split
    · exact (ih.app (Ps.sign (c := 33) rfl) ⟨by simp, bnd_cons (by decide)⟩).w
    · exact (Ps.wrap rfl rfl ih).w
def varK (v : D) : KS := (1, [36]) :: (2, tx (v.f 0).s) :: (1, [58]) :: (refK (tx ((v.f 1).f 0).s) ((v.f 1).f 1).l ++ (if (v.f 2).b = true then (1, [61]) :: litK (v.f 3) else []))
/-- what a right variable says -/
structure VarF (v : D) : Prop where
  name : nameB (v.f 0).s = true
  rname : nameB ((v.f 1).f 0).s = true
  rlen : ((v.f 1).f 1).l.length ≤ 24
  wraps : wrapsR (((v.f 1).f 1).l.map D.n) = true
  has : (v.f 2).b = true → litR (v.f 3) = true ∧ bareR (bulkD (v.f 3)) (v.f 3) = true
  hasnt : (v.f 2).b = false → ((v.f 3).f 0).n = 0 ∧ ((v.f 3).f 1).n = 0 ∧ tx ((v.f 3).f 2).s = [] ∧ ((v.f 3).f 3).l.length = 0 ∧ ((v.f 3).f 4).l.length = 0
theorem xvar {v : D} (h : varR v = true) : VarF v := by
  unfold varR refR at h
  simp only [Bool.and_eq_true, decide_eq_true_eq] at h
  obtain ⟨⟨h1, ⟨h2, h3⟩, h4⟩, h5⟩ := h
  refine ⟨h1, h2, h3, h4, fun e => ?_, fun e => ?_⟩
  · rw [if_pos e] at h5
    rwa [Bool.and_eq_true] at h5
  · rw [if_neg (by rw [e]; decide)] at h5
    simp only [Bool.and_eq_true, beq_iff_eq, none_tx, decide_eq_true_eq] at h5
    exact ⟨h5.1.1.1.1, h5.1.1.1.2, h5.1.1.2, h5.1.2, h5.2⟩
theorem varT_pw {K : Nat} {v : D} (h : VarF v) (hd : Dp K (v.f 3)) (hw : wideD v) : Pw (varT K v) (varK v) := by
  have hr := refB_pw h.rname ((v.f 1).f 1).l
  unfold varT varK
  have p1 := (Ps.sign (c := 36) rfl).appw (Pw.nm h.name)
  have p2 := p1.app ((Ps.sign (c := 58) rfl).app (Ps.sep (c := 32) rfl)) ⟨by simp, bnd_cons (by decide)⟩
  split
  · have p3 := hr.app ((Ps.sep (c := 32) rfl).app ((Ps.sign (c := 61) rfl).app (Ps.sep (c := 32) rfl))) ⟨by simp, bnd_cons (by decide)⟩
    have p4 := p2.appw (p3.appw (litT_pw hd (hw.f 3) (h.has ‹_›).1))
    simpa [List.append_assoc] using p4
  · rw [List.append_nil, List.append_nil]
    have p4 := p2.appw hr
    simpa [List.append_assoc] using p4
def varsK (l : List D) : KS := if l.length = 0 then [] else (1, [40]) :: (rgK varK l ++ [(1, [41])])
def opK (f : Nat) (o : D) : KS :=
  if (o.f 0).n = 1 ∧ tx (o.f 1).s = [] ∧ (o.f 2).l.length = 0 then blkK (selsK f (o.f 3).l)
  else (2, wordT (o.f 0).n) :: ((if tx (o.f 1).s = [] then [] else [(2, tx (o.f 1).s)]) ++ (varsK (o.f 2).l ++ blkK (selsK f (o.f 3).l)))
def frgK (f : Nat) (o : D) : KS := (2, fragT) :: (2, tx (o.f 0).s) :: (2, onT) :: (2, tx (o.f 1).s) :: blkK (selsK f (o.f 2).l)
/-- what a right operation says -/
structure OpF (o : D) : Prop where
  kind : 1 ≤ (o.f 0).n ∧ (o.f 0).n ≤ 3
  name : tx (o.f 1).s = [] ∨ nameB (o.f 1).s = true
  vlen : (o.f 2).l.length ≤ 16
  vars : ∀ i, i < (o.f 2).l.length → VarF (gD (o.f 2).l i)
  sels : SetF (fun d => selR (bulkL (o.f 3).l) 1 d = true) 1 (o.f 3).l 1
structure FragF (o : D) : Prop where
  name : nameB (o.f 0).s = true
  notOn : tx (o.f 0).s ≠ [111, 110]
  on : nameB (o.f 1).s = true
  sels : SetF (fun d => selR (bulkL (o.f 2).l) 1 d = true) 1 (o.f 2).l 1
theorem xop {o : D} (h : opR o = true) : OpF o := by
  unfold opR setR at h
  simp only [Bool.and_eq_true, Bool.or_eq_true, decide_eq_true_eq, Bool.not_eq_true', none_tx] at h
  obtain ⟨⟨⟨⟨h1, h2⟩, h3⟩, h4⟩, h5⟩ := h
  exact ⟨h1, h2, h3, fun i hi => xvar (any_no h4 i hi), xset h5⟩
theorem xfrag {o : D} (h : fragR o = true) : FragF o := by
  unfold fragR setR at h
  simp only [Bool.and_eq_true] at h
  have ht := title_tx h.1.1
  exact ⟨ht.1, ht.2, h.1.2, xset h.2⟩
/-- what a right document says -/
structure QueF (q : D) : Prop where
  len : 1 ≤ (q.f 0).l.length + (q.f 1).l.length ∧ (q.f 0).l.length + (q.f 1).l.length ≤ 64
  ops : ∀ i, i < (q.f 0).l.length → OpF (gD (q.f 0).l i)
  frags : ∀ i, i < (q.f 1).l.length → FragF (gD (q.f 1).l i)
theorem xque {q : D} (h : queR q = true) : QueF q := by
  unfold queR at h
  simp only [Bool.and_eq_true, decide_eq_true_eq, Bool.not_eq_true'] at h
  refine ⟨h.1.1, fun i hi => xop ?_, fun i hi => xfrag (any_no h.2 i hi)⟩
  exact List.all_eq_true.1 h.1.2 _ (gD_mem hi)
theorem word_name (k : Int) : nameU (wordT k) = true := by
  unfold wordT
  split
  · rfl
  · split <;> rfl
theorem varsT_ps {K : Nat} {l : List D} (h : ∀ i, i < l.length → VarF (gD l i)) (hv : VarsOk K l) : Ps (if l.length = 0 then [] else [40] ++ varsT K l ++ [41]) (varsK l) := by
  unfold varsK
  split
  · exact .nil
  · exact Ps.wrap rfl rfl (by unfold varsT; exact Pw.joinL .comma l fun i hi => varT_pw (h i hi) (hv.dp i hi) (hv.wide i))
/-- the first line of an operation, without its brace -/
theorem opT_pw {K : Nat} {o : D} (h : OpF o) (hv : VarsOk K (o.f 2).l) (hn : ¬ ((o.f 0).n = 1 ∧ tx (o.f 1).s = [] ∧ (o.f 2).l.length = 0)) :
    ∃ t, opT K o = t ++ [32, 123] ∧ Pw t ((2, wordT (o.f 0).n) :: ((if tx (o.f 1).s = [] then [] else [(2, tx (o.f 1).s)]) ++ varsK (o.f 2).l)) := by
  unfold opT
  rw [if_neg hn]
  refine ⟨_, rfl, ?_⟩
  have p1 := Pw.name (word_name (o.f 0).n)
  have p2 : Pw (wordT (o.f 0).n ++ (if tx (o.f 1).s = [] then [] else [32] ++ tx (o.f 1).s)) ((2, wordT (o.f 0).n) :: (if tx (o.f 1).s = [] then [] else [(2, tx (o.f 1).s)])) := by
    by_cases e : tx (o.f 1).s = []
    · rw [if_pos e, if_pos e, List.append_nil]; exact p1
    · rw [if_neg e, if_neg e]
      have hn : nameB (o.f 1).s = true := by rcases h.name with h' | h'; exact absurd h' e; exact h'
      have := p1.gap .space (Pw.nm hn)
      simpa [List.append_assoc] using this
  have hb : bnd (if (o.f 2).l.length = 0 then [] else [40] ++ varsT K (o.f 2).l ++ [41]) := by
    split
    · exact bnd_nil
    · exact bnd_cons (by decide)
  exact p2.appw (varsT_ps h.vars hv).w hb
theorem blockT_ps {K f : Nat} {t first : List UInt8} {k : KS} {l : List D} (e : first = t ++ [32, 123]) (h : Pw t k) (hs : Ps (selsT K f 1 l) (selsK f l)) : Ps (blockT K f first l) (k ++ blkK (selsK f l)) := by
  unfold blockT
  rw [e]
  exact block_ps h hs
theorem opB_ps {K f : Nat} {o : D} (h : OpF o) (hv : VarsOk K (o.f 2).l) (hs : SelsOk K f (o.f 3).l) : Ps (opB K f o) (opK f o) := by
  have hp := sels_ps f (bulkL (o.f 3).l) 1 1 (o.f 3).l hs h.sels.2.2.2
  unfold opB opK
  by_cases hn : (o.f 0).n = 1 ∧ tx (o.f 1).s = [] ∧ (o.f 2).l.length = 0
  · rw [if_pos hn]
    unfold blockT opT
    rw [if_pos hn]
    have h1 := line_ps (n := 0) (Ps.sign (c := 123) rfl).w
    have h2 := line_ps (n := 0) (Ps.sign (c := 125) rfl).w
    exact (h1.app hp).app h2
  · rw [if_neg hn]
    obtain ⟨t, e, ht⟩ := opT_pw h hv hn
    have := blockT_ps e ht hp
    simpa [List.append_assoc] using this
theorem frgB_ps {K f : Nat} {o : D} (h : FragF o) (hs : SelsOk K f (o.f 2).l) : Ps (fragB K f o) (frgK f o) := by
  have hp := sels_ps f (bulkL (o.f 2).l) 1 1 (o.f 2).l hs h.sels.2.2.2
  unfold fragB
  have p1 : Pw ([102, 114, 97, 103, 109, 101, 110, 116] ++ [32] ++ tx (o.f 0).s) ([(2, fragT)] ++ [(2, tx (o.f 0).s)]) := (Pw.name (l := fragT) rfl).gap .space (Pw.nm h.name)
  have p2 := p1.gap .space (Pw.name (l := [111, 110]) rfl)
  have p3 := p2.gap .space (Pw.nm h.on)
  have := blockT_ps (first := fragH o) (by simp [fragH, List.append_assoc]) p3 hp
  simpa [List.append_assoc, frgK, onT] using this
/-- the tokens of a document -/
def docK (f : Nat) (q : D) : KS := rgK (opK f) (q.f 0).l ++ rgK (frgK f) (q.f 1).l
theorem join_ps {sep : List UInt8} (hs : Ps sep []) : ∀ (ts : List (List UInt8)) (ks : List KS), ts.length = ks.length → (∀ i, i < ts.length → Ps (ts.getD i []) (ks.getD i [])) → Ps (Lib.join ts sep) ks.flatten
  | [], [], _, _ => .nil
  | [], _ :: _, h, _ => by cases h
  | _ :: _, [], h, _ => by cases h
  | t :: ts, k :: ks, hl, h => by
    have h0 : Ps t k := h 0 (by simp)
    have ht : ∀ (ts : List (List UInt8)) (ks : List KS), ts.length = ks.length → (∀ i, i < ts.length → Ps (ts.getD i []) (ks.getD i [])) → Ps (Lib.joinTail sep ts) ks.flatten := fun ts => by
      induction ts with
      | nil => intro ks e _; cases ks with
        | nil => exact .nil
        | cons _ _ => cases e
      | cons t ts ih =>
        intro ks e h
        cases ks with
        | nil => cases e
        | cons k ks =>
          have h1 : Ps t k := h 0 (by simp)
          have h2 := ih ks (by simpa using e) fun i hi => by
            have := h (i + 1) (by simpa using hi)
            simpa using this
          have h3 := (hs.app h1).app h2
          simpa [Lib.joinTail] using h3
    rw [Lib.join_cons, List.flatten_cons]
    exact h0.app (ht ts ks (by simpa using hl) fun i hi => by
      have := h (i + 1) (by simpa using hi)
      simpa using this)
theorem rgK_flat (g : D → KS) (l : List D) : rgK g l = (l.map g).flatten := by
  unfold rgK gK
  rw [← List.range_eq_range', List.flatMap_def]
  congr 1
  apply List.ext_getElem (by simp)
  intro i h1 h2
  simp [gD_get (l := l) (i := i) (by simpa using h2)]
theorem docT_ps {K f : Nat} {q : D} (h : QueF q) (hv : ∀ i, i < (q.f 0).l.length → VarsOk K ((gD (q.f 0).l i).f 2).l)
    (ho : ∀ i, i < (q.f 0).l.length → SelsOk K f ((gD (q.f 0).l i).f 3).l) (hf : ∀ i, i < (q.f 1).l.length → SelsOk K f ((gD (q.f 1).l i).f 2).l) : Ps (docT K f q) (docK f q) := by
  unfold docT docK
  rw [rgK_flat, rgK_flat, ← List.flatten_append]
  refine join_ps (.sep rfl) _ _ (by simp) fun i hi => ?_
  by_cases hl : i < (q.f 0).l.length
  · have := opB_ps (h.ops i hl) (hv i hl) (ho i hl)
    rw [List.getD_eq_getElem?_getD, List.getD_eq_getElem?_getD, List.getElem?_append_left (by simpa using hl), List.getElem?_append_left (by simpa using hl), List.getElem?_map, List.getElem?_map, List.getElem?_eq_getElem hl]
    rw [gD_get hl] at this
    exact this
  · have hl2 : i - (q.f 0).l.length < (q.f 1).l.length := by simp at hi; omega
    have := frgB_ps (h.frags _ hl2) (hf _ hl2)
    rw [List.getD_eq_getElem?_getD, List.getD_eq_getElem?_getD, List.getElem?_append_right (by simp; omega), List.getElem?_append_right (by simp; omega), List.length_map, List.length_map, List.getElem?_map, List.getElem?_map, List.getElem?_eq_getElem hl2]
    rw [gD_get hl2] at this
    exact this
end Go.Proofs.YthjiclhfhjdjpaaGreatDoor
