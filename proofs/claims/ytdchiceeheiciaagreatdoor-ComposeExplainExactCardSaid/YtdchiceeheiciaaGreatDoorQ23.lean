/- Parts of a proof, merged by a program (shake.py). -/
import Derived.LoopN
import Derived.Test.YtdchiceeheiciaaGreatDoorQ22
set_option linter.unusedVariables false
set_option linter.unusedSimpArgs false
namespace Go.Proofs.YtdchiceeheiciaaGreatDoor
open Go.RowKit
attribute [local irreducible] wpList Calls Code.wp
section
variable {X : Cx} {nn : Nat}
def rndK (R : Vst nn → Prop) (K : Exit → Vst nn → Prop) : Exit → Vst nn → Prop
  | .normal, st => R st
  | e, st => K e st
/-- a loop of at most so many rounds -/
def rnd (X : Cx) (c : Code) (K : Exit → Vst nn → Prop) : Nat → Vst nn → Prop
  | 0, _ => False
  | n + 1, st => AW X c st (rndK (rnd X c K n) K)
theorem rounds_of {c : Code} {K : Exit → Vst nn → Prop} : ∀ (n : Nat) (st : Vst nn) (s : Sg) (w : World) (a : Act), rnd X c K n st → Inv X st s w a →
    Code.rounds X.P c (fun e a' w' => ∃ (st' : Vst nn) (s' : Sg), Inv X st' s' w' a' ∧ (K e st' ∨ PX X e st')) n a w
  | 0, _, _, _, _, h, _ => h.elim
  | n + 1, st, s, w, a, h, hI => by
    rw [rounds_succ]
    refine Code.wp_mono (fun e a2 w2 ⟨st2, s2, hI2, hK⟩ => ?_) (h s w a hI)
    rcases hK with hK | ⟨pv, rfl, hp⟩
    · cases e
      case normal => exact rounds_of n st2 s2 w2 a2 hK hI2
      all_goals exact ⟨st2, s2, hI2, .inl hK⟩
    · exact ⟨st2, s2, hI2, .inr ⟨pv, rfl, hp⟩⟩
theorem aw_rounds {c : Code} {st : Vst nn} {K : Exit → Vst nn → Prop} (n : Nat) (h : AW X c st (rndK (rnd X c K n) K)) : AW X (.loop c) st K := fun s w a hI =>
  wp_loop_rounds (n + 1) (rounds_of (n + 1) st s w a h hI)
section
variable {st : Vst nn} {K : Exit → Vst nn → Prop} {c : Code}
theorem k_rnd {n : Nat} (h : AW X c st (rndK (rnd X c K n) K)) : rndK (rnd X c K (n + 1)) K .normal st := h
theorem k_rnd_exit {R : Vst nn → Prop} {id : Nat} (h : K (.exit id) st) : rndK R K (.exit id) st := h
theorem k_rnd_ret {R : Vst nn → Prop} (h : K .ret st) : rndK R K .ret st := h
end
end
end Go.Proofs.YtdchiceeheiciaaGreatDoor
namespace Go.Proofs.YtdchiceeheiciaaGreatDoor
open Go.RowKit
set_option linter.unusedSectionVars false
def gE : List D := [.str ⟨#[79, 75]⟩, .str ⟨#[69, 114, 114, 78, 105, 108]⟩, .str ⟨#[69, 114, 114, 65, 114, 103]⟩, .str ⟨#[69, 114, 114, 70, 111, 114, 109]⟩, .str ⟨#[69, 114, 114, 83, 105, 122, 101]⟩, .str ⟨#[69, 114, 114, 68, 101, 112, 116, 104]⟩, .str ⟨#[69, 114, 114, 78, 97, 109, 101]⟩, .str ⟨#[69, 114, 114, 84, 119, 105, 99, 101]⟩, .str ⟨#[69, 114, 114, 78, 111, 110, 101]⟩, .str ⟨#[69, 114, 114, 75, 105, 110, 100]⟩, .str ⟨#[69, 114, 114, 84, 121, 112, 101]⟩, .str ⟨#[69, 114, 114, 70, 117, 108, 108]⟩, .str ⟨#[69, 114, 114, 83, 116, 97, 116, 101]⟩, .str ⟨#[69, 114, 114, 71, 97, 112]⟩, .str ⟨#[69, 114, 114, 83, 116, 97, 108, 101]⟩]
def oE : List D := [.str ⟨#[69, 114, 114, 70, 105, 101, 108, 100]⟩, .str ⟨#[69, 114, 114, 76, 101, 97, 102]⟩, .str ⟨#[69, 114, 114, 65, 114, 103, 117, 109, 101, 110, 116]⟩, .str ⟨#[69, 114, 114, 86, 97, 108, 117, 101]⟩, .str ⟨#[69, 114, 114, 70, 114, 97, 103, 109, 101, 110, 116]⟩, .str ⟨#[69, 114, 114, 83, 112, 114, 101, 97, 100]⟩, .str ⟨#[69, 114, 114, 85, 110, 117, 115, 101, 100]⟩, .str ⟨#[69, 114, 114, 86, 97, 114, 105, 97, 98, 108, 101]⟩, .str ⟨#[69, 114, 114, 77, 101, 114, 103, 101]⟩, .str ⟨#[69, 114, 114, 68, 105, 114, 101, 99, 116, 105, 118, 101]⟩, .str ⟨#[69, 114, 114, 82, 111, 111, 116]⟩]
def sE : List D := [.str ⟨#[69, 114, 114, 83, 104, 97, 114, 101]⟩, .str ⟨#[69, 114, 114, 75, 101, 121]⟩, .str ⟨#[69, 114, 114, 69, 120, 116, 101, 114, 110, 97, 108]⟩, .str ⟨#[69, 114, 114, 82, 101, 113, 117, 105, 114, 101, 115]⟩, .str ⟨#[69, 114, 114, 80, 114, 111, 118, 105, 100, 101, 115]⟩, .str ⟨#[69, 114, 114, 77, 101, 109, 98, 101, 114]⟩, .str ⟨#[69, 114, 114, 83, 97, 116, 105, 115, 102, 121]⟩]
def pE : List D := [.str ⟨#[69, 114, 114, 80, 108, 97, 110]⟩, .str ⟨#[69, 114, 114, 67, 111, 115, 116]⟩, .str ⟨#[69, 114, 114, 65, 117, 116, 104]⟩, .str ⟨#[69, 114, 114, 83, 101, 114, 118, 105, 99, 101]⟩, .str ⟨#[69, 114, 114, 84, 105, 109, 101, 111, 117, 116]⟩, .str ⟨#[69, 114, 114, 78, 117, 108, 108]⟩, .str ⟨#[69, 114, 114, 82, 101, 115, 117, 108, 116]⟩]
theorem gE_len : (gE.length : Int) = 15 := rfl
theorem oE_len : (oE.length : Int) = 11 := rfl
theorem sE_len : (sE.length : Int) = 7 := rfl
theorem pE_len : (pE.length : Int) = 7 := rfl
/-- the name of a code -/
def codeS (n : Int) : ByteArray :=
  if 0 ≤ n ∧ n < 15 then (gD gE n.toNat).s
  else if 20 ≤ n ∧ n < 31 then (gD oE (n - 20).toNat).s
  else if 40 ≤ n ∧ n < 47 then (gD sE (n - 40).toNat).s
  else if 60 ≤ n ∧ n < 67 then (gD pE (n - 60).toNat).s
  else (⟨#[69, 114, 114, 110, 111]⟩ : ByteArray) ++ bs (Lib.itoa n)
theorem gD_small {l : List D} {B : Nat} (h : l.all (fun d => decide (d.s.size ≤ B)) = true) (i : Nat) : (gD l i).s.size ≤ B := by
  by_cases hi : i < l.length
  · rw [List.all_eq_true] at h
    have := h (gD l i) (by rw [gD, List.getD_eq_getElem?_getD, List.getElem?_eq_getElem hi]; exact List.getElem_mem hi)
    exact of_decide_eq_true this
  · have : gD l i = default := by rw [gD, List.getD_eq_getElem?_getD, List.getElem?_eq_none (by omega)]; rfl
    rw [this]
    exact Nat.zero_le _
theorem codeS_size (n : Int) (h0 : -9223372036854775808 ≤ n) (h1 : n ≤ 9223372036854775807) : (codeS n).size ≤ 40 := by
  unfold codeS
  split
  · exact gD_small (B := 40) (by decide) _
  split
  · exact gD_small (B := 40) (by decide) _
  split
  · exact gD_small (B := 40) (by decide) _
  split
  · exact gD_small (B := 40) (by decide) _
  · have := itoa_size n h0 h1
    rw [ByteArray.size_append, bs_size]
    show 5 + _ ≤ 40
    omega
end Go.Proofs.YtdchiceeheiciaaGreatDoor
namespace Go.Proofs.YtdchiceeheiciaaGreatDoor
open Go.RowKit
set_option linter.unusedSectionVars false
attribute [local irreducible] wpList Calls Code.wp AW AWo OpOk seqK blockK scopeK loopK endK AC absLex Yld Sub
attribute [local irreducible] ACB ACX YldG
set_option maxHeartbeats 8000000 in
set_option maxRecDepth 100000 in
theorem codeP_0 (n : Int) (h0 : -9223372036854775808 ≤ n) (h1 : n ≤ 9223372036854775807) (h : n ≤ -1) : AC EN Tryz.prog 7 [.c (.int .i64 n)] (.c (.string (codeS n))) := by
  have hI := itoa_ac n h0 h1
  have hz := itoa_size n h0 h1
  have hs := @bs_size (Lib.itoa n)
  have e : codeS n = (⟨#[69, 114, 114, 110, 111]⟩ : ByteArray) ++ bs (Lib.itoa n) := by unfold codeS; rw [if_neg (by omega), if_neg (by omega), if_neg (by omega), if_neg (by omega)]
  rw [e]
  have f0 : decide (n ≥ 0) = false := decide_eq_false (by omega)
  have m0 : decide (n ≥ 0) = true → False := fun h => by rw [f0] at h; cases h
  have k0 : (decide (n ≥ 0) == true) = true → False := fun h => by rw [f0] at h; cases h
  have f2 : decide (n ≥ 20) = false := decide_eq_false (by omega)
  have m2 : decide (n ≥ 20) = true → False := fun h => by rw [f2] at h; cases h
  have k2 : (decide (n ≥ 20) == true) = true → False := fun h => by rw [f2] at h; cases h
  have f4 : decide (n ≥ 40) = false := decide_eq_false (by omega)
  have m4 : decide (n ≥ 40) = true → False := fun h => by rw [f4] at h; cases h
  have k4 : (decide (n ≥ 40) == true) = true → False := fun h => by rw [f4] at h; cases h
  have f6 : decide (n ≥ 60) = false := decide_eq_false (by omega)
  have m6 : decide (n ≥ 60) = true → False := fun h => by rw [f6] at h; cases h
  have k6 : (decide (n ≥ 60) == true) = true → False := fun h => by rw [f6] at h; cases h
  refine ac_enter 74 Tryz.func7 rfl rfl rfl rfl ?_
  intro s w he
  repeat' (first
    | (apply s_lit gE rfl rfl
       · conv => lhs; whnf
       · first | exact elemStr | (conv => lhs; whnf; arg 1; whnf)
       · rfl
       · rfl
       · repeat' (first | exact trivial | apply And.intro | rfl))
    | (apply s_lit oE rfl rfl
       · conv => lhs; whnf
       · first | exact elemStr | (conv => lhs; whnf; arg 1; whnf)
       · rfl
       · rfl
       · repeat' (first | exact trivial | apply And.intro | rfl))
    | (apply s_lit sE rfl rfl
       · conv => lhs; whnf
       · first | exact elemStr | (conv => lhs; whnf; arg 1; whnf)
       · rfl
       · rfl
       · repeat' (first | exact trivial | apply And.intro | rfl))
    | (apply s_lit pE rfl rfl
       · conv => lhs; whnf
       · first | exact elemStr | (conv => lhs; whnf; arg 1; whnf)
       · rfl
       · rfl
       · repeat' (first | exact trivial | apply And.intro | rfl))
    | (apply s_wanted_pick_t rfl rfl rfl
       · conv => lhs; whnf
       · first | rfl | assumption
       · conv => lhs; whnf
       · first | exact bT1 (by assumption) | exact bT2 (by assumption) | rfl)
    | (apply s_wpick_t rfl rfl rfl
       · conv => lhs; whnf
       · first | rfl | assumption
       · conv => lhs; whnf
       · first | exact bT1 (by assumption) | exact bT2 (by assumption) | rfl)
    | (apply s_wanted_pick_f rfl rfl rfl
       · conv => lhs; whnf
       · first | rfl | assumption
       · conv => lhs; whnf
       · first | exact bF1 (by assumption) | exact bF2 (by assumption) | rfl)
    | (apply s_wpick_f rfl rfl rfl
       · conv => lhs; whnf
       · first | rfl | assumption
       · conv => lhs; whnf
       · first | exact bF1 (by assumption) | exact bF2 (by assumption) | rfl)
    | (apply aw_cond_kt
       · conv => lhs; whnf
       · assumption)
    | (apply aw_cond_kf
       · conv => lhs; whnf
       · assumption)
    | exact (m0 (by assumption)).elim
    | exact (k0 (by assumption)).elim
    | exact (m2 (by assumption)).elim
    | exact (k2 (by assumption)).elim
    | exact (m4 (by assumption)).elim
    | exact (k4 (by assumption)).elim
    | exact (m6 (by assumption)).elim
    | exact (k6 (by assumption)).elim
    | refine k_cut_ret ?_
    | refine k_cut_exit ?_
    | refine k_cut ?_
    | refine aw_region ?_
    | refine awo_nil ?_
    | refine k_seq ?_
    | refine k_block ?_
    | refine k_scope ?_
    | (apply aw_1
       conv => whnf
       refine ⟨?_, trivial⟩)
    | (apply s_pick_t rfl rfl
       · conv => lhs; whnf
       · conv => lhs; whnf
       · first | exact bT1 (by assumption) | exact bT2 (by assumption))
    | (apply s_pick_f rfl rfl
       · conv => lhs; whnf
       · conv => lhs; whnf
       · first | exact bF1 (by assumption) | exact bF2 (by assumption))
    | (apply s_1
       conv => whnf; arg 1; arg 4; arg 3; whnf
       refine ⟨?_, ?_⟩)
    | (apply s_val rfl
       · conv => lhs; whnf
       · conv => lhs; whnf; arg 2; whnf)
    | (apply s_call rfl
       · conv => lhs; whnf
       · conv => lhs; whnf
       · first | exact hI)
    | (apply s_box rfl rfl rfl rfl
       · conv => lhs; whnf; arg 1; whnf
       · rfl)
    | (apply s_alloc rfl rfl rfl rfl
       · conv => lhs; whnf; arg 1; whnf
       · rfl)
    | (apply s_store rfl rfl rfl
       · conv => lhs; whnf
       · conv => lhs; whnf; arg 1; whnf
       · conv => lhs; whnf; arg 1; whnf
       · exact ⟨by kernel_rfl, by kernel_rfl⟩
       · rfl)
    | (apply s_app rfl rfl
       · conv => lhs; whnf
       · first | exact elemStr | (conv => lhs; whnf; arg 1; whnf)
       · first | exact fun _ => rfl | (intro _; kernel_rfl)
       · conv => lhs; whnf
       · conv => lhs; whnf; arg 1; whnf
       · conv => lhs; whnf)
    | (apply s_app_nil rfl rfl rfl rfl
       · first | exact elemStr | (conv => lhs; whnf; arg 1; whnf)
       · first | exact fun _ => rfl | (intro _; kernel_rfl)
       · conv => lhs; whnf
       · conv => lhs; whnf)
    | (apply s_lit0 rfl rfl
       · conv => lhs; whnf
       · first | exact elemStr | (conv => lhs; whnf; arg 1; whnf))
    | (apply s_lit1 rfl rfl
       · conv => lhs; whnf
       · first | exact elemStr | (conv => lhs; whnf; arg 1; whnf)
       · conv => lhs; whnf; arg 1; whnf
       · rfl
       · rfl)
    | (apply s_onlit rfl rfl
       · conv => lhs; whnf
       · first | exact elemStr | (conv => lhs; whnf; arg 1; whnf)
       · first | exact fun _ => rfl | (intro _; kernel_rfl)
       · conv => lhs; whnf
       · conv => lhs; whnf)
    | (apply s_wanted_val rfl
       · conv => lhs; whnf
       · conv => lhs; whnf
       · first | rfl | assumption
       · conv => lhs; whnf; arg 2; whnf)
    | (apply s_wanted_call rfl
       · conv => lhs; whnf
       · conv => lhs; whnf
       · first | rfl | assumption
       · conv => lhs; whnf
       · first | exact hI)
    | (apply s_skipU rfl
       · conv => lhs; whnf
       · conv => lhs; whnf
       · first | rfl | assumption)
    | (apply s_dead rfl
       · conv => lhs; whnf
       · rfl
       · rfl)
    | (apply s_guard_valU rfl
       · conv => lhs; whnf
       · conv => lhs; whnf
       · conv => lhs; whnf; arg 2; whnf)
    | (apply s_guard_callU rfl
       · conv => lhs; whnf
       · conv => lhs; whnf
       · conv => lhs; whnf
       · first | exact hI)
    | (apply s_guard_val rfl
       · conv => lhs; whnf
       · conv => lhs; whnf
       · conv => lhs; whnf; arg 2; whnf)
    | (apply s_guard_call rfl
       · conv => lhs; whnf
       · conv => lhs; whnf
       · conv => lhs; whnf
       · first | exact hI)
    | (apply aw_draw (by kernel_rfl) (by kernel_rfl))
    | apply y_nil
    | (apply y_pick_t rfl rfl
       · conv => lhs; whnf
       · conv => lhs; whnf
       · first | exact bT1 (by assumption) | exact bT2 (by assumption))
    | (apply y_pick_f rfl rfl
       · conv => lhs; whnf
       · conv => lhs; whnf
       · first | exact bF1 (by assumption) | exact bF2 (by assumption))
    | (apply y_val rfl
       · conv => lhs; whnf
       · conv => lhs; whnf; arg 2; whnf)
    | (apply y_call rfl
       · conv => lhs; whnf
       · conv => lhs; whnf
       · first | exact hI)
    | (apply y_store rfl rfl rfl
       · conv => lhs; whnf
       · rfl
       · rfl
       · conv => lhs; whnf; arg 1; whnf
       · conv => lhs; whnf; arg 1; whnf
       · exact ⟨by kernel_rfl, by kernel_rfl⟩
       · rfl)
    | (apply y_app rfl rfl
       · conv => lhs; whnf
       · first | exact elemStr | (conv => lhs; whnf; arg 1; whnf)
       · first | exact fun _ => rfl | (intro _; kernel_rfl)
       · conv => lhs; whnf
       · rfl
       · rfl
       · conv => lhs; whnf; arg 1; whnf
       · conv => lhs; whnf)
    | (apply y_lit0 rfl rfl
       · conv => lhs; whnf
       · first | exact elemStr | (conv => lhs; whnf; arg 1; whnf))
    | (apply y_lit1 rfl rfl
       · conv => lhs; whnf
       · first | exact elemStr | (conv => lhs; whnf; arg 1; whnf)
       · conv => lhs; whnf; arg 1; whnf
       · rfl
       · rfl)
    | (apply y_onlit rfl rfl
       · conv => lhs; whnf
       · first | exact elemStr | (conv => lhs; whnf; arg 1; whnf)
       · first | exact fun _ => rfl | (intro _; kernel_rfl)
       · conv => lhs; whnf
       · conv => lhs; whnf)
    | (apply y_wanted_val rfl
       · conv => lhs; whnf
       · conv => lhs; whnf
       · first | rfl | assumption
       · conv => lhs; whnf; arg 2; whnf)
    | (apply y_wanted_call rfl
       · conv => lhs; whnf
       · conv => lhs; whnf
       · first | rfl | assumption
       · conv => lhs; whnf
       · first | exact hI)
    | (apply y_skip rfl
       · conv => lhs; whnf
       · conv => lhs; whnf
       · first | rfl | assumption)
    | (apply y_guard_val rfl
       · conv => lhs; whnf
       · conv => lhs; whnf
       · conv => lhs; whnf; arg 2; whnf)
    | (apply y_guard_call rfl
       · conv => lhs; whnf
       · conv => lhs; whnf
       · conv => lhs; whnf
       · first | exact hI)
    | exact apartB_none
    | exact apartB_nil
    | exact all_nil
    | (show List.all _ _ = true; rfl)
    | (show apartB _ _ = true; rfl)
    | exact ([] : List Nat)
    | exact (1000000 : Nat)
    | (apply aw_cond_t
       · conv => lhs; whnf; arg 1; arg 1; whnf)
    | (apply aw_cond_f
       · conv => lhs; whnf; arg 1; arg 1; whnf)
    | (refine aw_cond (by conv => lhs; whnf) ?_ ?_ <;> intro hb)
    | refine aw_ret ?_
    | refine aw_exit ?_
    | refine k_seq_exit ?_
    | refine k_seq_ret ?_
    | refine k_block_ret ?_
    | refine k_block_hit rfl ?_
    | refine k_block_miss rfl ?_
    | refine k_scope_exit ?_
    | refine k_scope_ret ?_
    | refine k_loop_exit ?_
    | refine k_loop_ret ?_
    | refine k_end ?_
    | refine k_end_ret ?_
    | (refine ⟨_, by conv => lhs; whnf; arg 2; whnf, ?_⟩; conv => rhs; whnf)
    | exact trivial
    | intro hg)
  all_goals first
    | exact i64_ok (by omega)
    | rfl
    | (refine ⟨by omega, ?_⟩; first | (rw [gE_len]; omega) | (rw [oE_len]; omega) | (rw [sE_len]; omega) | (rw [pE_len]; omega))
    | ((simp only [ByteArray.size_append, bs_size, lit_size, List.size_toArray, List.length_append, List.length_cons, List.length_nil, maxLen, Nat.reduceAdd, Int.toNat_natCast]; omega); done)
    | skip
set_option maxHeartbeats 8000000 in
set_option maxRecDepth 100000 in
theorem codeP_1 (n : Int) (h0 : -9223372036854775808 ≤ n) (h1 : n ≤ 9223372036854775807) (h : 0 ≤ n ∧ n ≤ 14) : AC EN Tryz.prog 7 [.c (.int .i64 n)] (.c (.string (codeS n))) := by
  have e : codeS n = (gD gE n.toNat).s := by unfold codeS; rw [if_pos (by omega)]
  rw [e]
  have f0 : decide (n ≥ 0) = true := decide_eq_true (by omega)
  have m0 : decide (n ≥ 0) = false → False := fun h => by rw [f0] at h; cases h
  have k0 : (decide (n ≥ 0) == true) = false → False := fun h => by rw [f0] at h; cases h
  have f1 : decide (n < (gE.length : Nat)) = true := decide_eq_true (by rw [gE_len]; omega)
  have m1 : decide (n < (gE.length : Nat)) = false → False := fun h => by rw [f1] at h; cases h
  refine ac_enter 74 Tryz.func7 rfl rfl rfl rfl ?_
  intro s w he
  repeat' (first
    | (apply s_lit gE rfl rfl
       · conv => lhs; whnf
       · first | exact elemStr | (conv => lhs; whnf; arg 1; whnf)
       · rfl
       · rfl
       · repeat' (first | exact trivial | apply And.intro | rfl))
    | (apply s_lit oE rfl rfl
       · conv => lhs; whnf
       · first | exact elemStr | (conv => lhs; whnf; arg 1; whnf)
       · rfl
       · rfl
       · repeat' (first | exact trivial | apply And.intro | rfl))
    | (apply s_lit sE rfl rfl
       · conv => lhs; whnf
       · first | exact elemStr | (conv => lhs; whnf; arg 1; whnf)
       · rfl
       · rfl
       · repeat' (first | exact trivial | apply And.intro | rfl))
    | (apply s_lit pE rfl rfl
       · conv => lhs; whnf
       · first | exact elemStr | (conv => lhs; whnf; arg 1; whnf)
       · rfl
       · rfl
       · repeat' (first | exact trivial | apply And.intro | rfl))
    | (apply s_wanted_pick_t rfl rfl rfl
       · conv => lhs; whnf
       · first | rfl | assumption
       · conv => lhs; whnf
       · first | exact bT1 (by assumption) | exact bT2 (by assumption) | rfl)
    | (apply s_wpick_t rfl rfl rfl
       · conv => lhs; whnf
       · first | rfl | assumption
       · conv => lhs; whnf
       · first | exact bT1 (by assumption) | exact bT2 (by assumption) | rfl)
    | (apply s_wanted_pick_f rfl rfl rfl
       · conv => lhs; whnf
       · first | rfl | assumption
       · conv => lhs; whnf
       · first | exact bF1 (by assumption) | exact bF2 (by assumption) | rfl)
    | (apply s_wpick_f rfl rfl rfl
       · conv => lhs; whnf
       · first | rfl | assumption
       · conv => lhs; whnf
       · first | exact bF1 (by assumption) | exact bF2 (by assumption) | rfl)
    | (apply aw_cond_kt
       · conv => lhs; whnf
       · assumption)
    | (apply aw_cond_kf
       · conv => lhs; whnf
       · assumption)
    | exact (m0 (by assumption)).elim
    | exact (k0 (by assumption)).elim
    | exact (m1 (by assumption)).elim
    | refine k_cut_ret ?_
    | refine k_cut_exit ?_
    | refine k_cut ?_
    | refine aw_region ?_
    | refine awo_nil ?_
    | refine k_seq ?_
    | refine k_block ?_
    | refine k_scope ?_
    | (apply aw_1
       conv => whnf
       refine ⟨?_, trivial⟩)
    | (apply s_pick_t rfl rfl
       · conv => lhs; whnf
       · conv => lhs; whnf
       · first | exact bT1 (by assumption) | exact bT2 (by assumption))
    | (apply s_pick_f rfl rfl
       · conv => lhs; whnf
       · conv => lhs; whnf
       · first | exact bF1 (by assumption) | exact bF2 (by assumption))
    | (apply s_1
       conv => whnf; arg 1; arg 4; arg 3; whnf
       refine ⟨?_, ?_⟩)
    | (apply s_val rfl
       · conv => lhs; whnf
       · conv => lhs; whnf; arg 2; whnf)
    | (apply s_call rfl
       · conv => lhs; whnf
       · conv => lhs; whnf
       · first | fail)
    | (apply s_box rfl rfl rfl rfl
       · conv => lhs; whnf; arg 1; whnf
       · rfl)
    | (apply s_alloc rfl rfl rfl rfl
       · conv => lhs; whnf; arg 1; whnf
       · rfl)
    | (apply s_store rfl rfl rfl
       · conv => lhs; whnf
       · conv => lhs; whnf; arg 1; whnf
       · conv => lhs; whnf; arg 1; whnf
       · exact ⟨by kernel_rfl, by kernel_rfl⟩
       · rfl)
    | (apply s_app rfl rfl
       · conv => lhs; whnf
       · first | exact elemStr | (conv => lhs; whnf; arg 1; whnf)
       · first | exact fun _ => rfl | (intro _; kernel_rfl)
       · conv => lhs; whnf
       · conv => lhs; whnf; arg 1; whnf
       · conv => lhs; whnf)
    | (apply s_app_nil rfl rfl rfl rfl
       · first | exact elemStr | (conv => lhs; whnf; arg 1; whnf)
       · first | exact fun _ => rfl | (intro _; kernel_rfl)
       · conv => lhs; whnf
       · conv => lhs; whnf)
    | (apply s_lit0 rfl rfl
       · conv => lhs; whnf
       · first | exact elemStr | (conv => lhs; whnf; arg 1; whnf))
    | (apply s_lit1 rfl rfl
       · conv => lhs; whnf
       · first | exact elemStr | (conv => lhs; whnf; arg 1; whnf)
       · conv => lhs; whnf; arg 1; whnf
       · rfl
       · rfl)
    | (apply s_onlit rfl rfl
       · conv => lhs; whnf
       · first | exact elemStr | (conv => lhs; whnf; arg 1; whnf)
       · first | exact fun _ => rfl | (intro _; kernel_rfl)
       · conv => lhs; whnf
       · conv => lhs; whnf)
    | (apply s_wanted_val rfl
       · conv => lhs; whnf
       · conv => lhs; whnf
       · first | rfl | assumption
       · conv => lhs; whnf; arg 2; whnf)
    | (apply s_wanted_call rfl
       · conv => lhs; whnf
       · conv => lhs; whnf
       · first | rfl | assumption
       · conv => lhs; whnf
       · first | fail)
    | (apply s_skipU rfl
       · conv => lhs; whnf
       · conv => lhs; whnf
       · first | rfl | assumption)
    | (apply s_dead rfl
       · conv => lhs; whnf
       · rfl
       · rfl)
    | (apply s_guard_valU rfl
       · conv => lhs; whnf
       · conv => lhs; whnf
       · conv => lhs; whnf; arg 2; whnf)
    | (apply s_guard_callU rfl
       · conv => lhs; whnf
       · conv => lhs; whnf
       · conv => lhs; whnf
       · first | fail)
    | (apply s_guard_val rfl
       · conv => lhs; whnf
       · conv => lhs; whnf
       · conv => lhs; whnf; arg 2; whnf)
    | (apply s_guard_call rfl
       · conv => lhs; whnf
       · conv => lhs; whnf
       · conv => lhs; whnf
       · first | fail)
    | (apply aw_draw (by kernel_rfl) (by kernel_rfl))
    | apply y_nil
    | (apply y_pick_t rfl rfl
       · conv => lhs; whnf
       · conv => lhs; whnf
       · first | exact bT1 (by assumption) | exact bT2 (by assumption))
    | (apply y_pick_f rfl rfl
       · conv => lhs; whnf
       · conv => lhs; whnf
       · first | exact bF1 (by assumption) | exact bF2 (by assumption))
    | (apply y_val rfl
       · conv => lhs; whnf
       · conv => lhs; whnf; arg 2; whnf)
    | (apply y_call rfl
       · conv => lhs; whnf
       · conv => lhs; whnf
       · first | fail)
    | (apply y_store rfl rfl rfl
       · conv => lhs; whnf
       · rfl
       · rfl
       · conv => lhs; whnf; arg 1; whnf
       · conv => lhs; whnf; arg 1; whnf
       · exact ⟨by kernel_rfl, by kernel_rfl⟩
       · rfl)
    | (apply y_app rfl rfl
       · conv => lhs; whnf
       · first | exact elemStr | (conv => lhs; whnf; arg 1; whnf)
       · first | exact fun _ => rfl | (intro _; kernel_rfl)
       · conv => lhs; whnf
       · rfl
       · rfl
       · conv => lhs; whnf; arg 1; whnf
       · conv => lhs; whnf)
    | (apply y_lit0 rfl rfl
       · conv => lhs; whnf
       · first | exact elemStr | (conv => lhs; whnf; arg 1; whnf))
    | (apply y_lit1 rfl rfl
       · conv => lhs; whnf
       · first | exact elemStr | (conv => lhs; whnf; arg 1; whnf)
       · conv => lhs; whnf; arg 1; whnf
       · rfl
       · rfl)
    | (apply y_onlit rfl rfl
       · conv => lhs; whnf
       · first | exact elemStr | (conv => lhs; whnf; arg 1; whnf)
       · first | exact fun _ => rfl | (intro _; kernel_rfl)
       · conv => lhs; whnf
       · conv => lhs; whnf)
    | (apply y_wanted_val rfl
       · conv => lhs; whnf
       · conv => lhs; whnf
       · first | rfl | assumption
       · conv => lhs; whnf; arg 2; whnf)
    | (apply y_wanted_call rfl
       · conv => lhs; whnf
       · conv => lhs; whnf
       · first | rfl | assumption
       · conv => lhs; whnf
       · first | fail)
    | (apply y_skip rfl
       · conv => lhs; whnf
       · conv => lhs; whnf
       · first | rfl | assumption)
    | (apply y_guard_val rfl
       · conv => lhs; whnf
       · conv => lhs; whnf
       · conv => lhs; whnf; arg 2; whnf)
    | (apply y_guard_call rfl
       · conv => lhs; whnf
       · conv => lhs; whnf
       · conv => lhs; whnf
       · first | fail)
    | exact apartB_none
    | exact apartB_nil
    | exact all_nil
    | (show List.all _ _ = true; rfl)
    | (show apartB _ _ = true; rfl)
    | exact ([] : List Nat)
    | exact (1000000 : Nat)
    | (apply aw_cond_t
       · conv => lhs; whnf; arg 1; arg 1; whnf)
    | (apply aw_cond_f
       · conv => lhs; whnf; arg 1; arg 1; whnf)
    | (refine aw_cond (by conv => lhs; whnf) ?_ ?_ <;> intro hb)
    | refine aw_ret ?_
    | refine aw_exit ?_
    | refine k_seq_exit ?_
    | refine k_seq_ret ?_
    | refine k_block_ret ?_
    | refine k_block_hit rfl ?_
    | refine k_block_miss rfl ?_
    | refine k_scope_exit ?_
    | refine k_scope_ret ?_
    | refine k_loop_exit ?_
    | refine k_loop_ret ?_
    | refine k_end ?_
    | refine k_end_ret ?_
    | (refine ⟨_, by conv => lhs; whnf; arg 2; whnf, ?_⟩; conv => rhs; whnf)
    | exact trivial
    | intro hg)
  all_goals first
    | exact i64_ok (by omega)
    | rfl
    | (refine ⟨by omega, ?_⟩; first | (rw [gE_len]; omega) | (rw [oE_len]; omega) | (rw [sE_len]; omega) | (rw [pE_len]; omega))
    | ((simp only [ByteArray.size_append, bs_size, lit_size, List.size_toArray, List.length_append, List.length_cons, List.length_nil, maxLen, Nat.reduceAdd, Int.toNat_natCast]; omega); done)
    | skip
set_option maxHeartbeats 8000000 in
set_option maxRecDepth 100000 in
theorem codeP_2 (n : Int) (h0 : -9223372036854775808 ≤ n) (h1 : n ≤ 9223372036854775807) (h : 15 ≤ n ∧ n ≤ 19) : AC EN Tryz.prog 7 [.c (.int .i64 n)] (.c (.string (codeS n))) := by
  have hI := itoa_ac n h0 h1
  have hz := itoa_size n h0 h1
  have hs := @bs_size (Lib.itoa n)
  have e : codeS n = (⟨#[69, 114, 114, 110, 111]⟩ : ByteArray) ++ bs (Lib.itoa n) := by unfold codeS; rw [if_neg (by omega), if_neg (by omega), if_neg (by omega), if_neg (by omega)]
  rw [e]
  have f0 : decide (n ≥ 0) = true := decide_eq_true (by omega)
  have m0 : decide (n ≥ 0) = false → False := fun h => by rw [f0] at h; cases h
  have k0 : (decide (n ≥ 0) == true) = false → False := fun h => by rw [f0] at h; cases h
  have f1 : decide (n < (gE.length : Nat)) = false := decide_eq_false (by rw [gE_len]; omega)
  have m1 : decide (n < (gE.length : Nat)) = true → False := fun h => by rw [f1] at h; cases h
  have f2 : decide (n ≥ 20) = false := decide_eq_false (by omega)
  have m2 : decide (n ≥ 20) = true → False := fun h => by rw [f2] at h; cases h
  have k2 : (decide (n ≥ 20) == true) = true → False := fun h => by rw [f2] at h; cases h
  have f4 : decide (n ≥ 40) = false := decide_eq_false (by omega)
  have m4 : decide (n ≥ 40) = true → False := fun h => by rw [f4] at h; cases h
  have k4 : (decide (n ≥ 40) == true) = true → False := fun h => by rw [f4] at h; cases h
  have f6 : decide (n ≥ 60) = false := decide_eq_false (by omega)
  have m6 : decide (n ≥ 60) = true → False := fun h => by rw [f6] at h; cases h
  have k6 : (decide (n ≥ 60) == true) = true → False := fun h => by rw [f6] at h; cases h
  refine ac_enter 74 Tryz.func7 rfl rfl rfl rfl ?_
  intro s w he
  repeat' (first
    | (apply s_lit gE rfl rfl
       · conv => lhs; whnf
       · first | exact elemStr | (conv => lhs; whnf; arg 1; whnf)
       · rfl
       · rfl
       · repeat' (first | exact trivial | apply And.intro | rfl))
    | (apply s_lit oE rfl rfl
       · conv => lhs; whnf
       · first | exact elemStr | (conv => lhs; whnf; arg 1; whnf)
       · rfl
       · rfl
       · repeat' (first | exact trivial | apply And.intro | rfl))
    | (apply s_lit sE rfl rfl
       · conv => lhs; whnf
       · first | exact elemStr | (conv => lhs; whnf; arg 1; whnf)
       · rfl
       · rfl
       · repeat' (first | exact trivial | apply And.intro | rfl))
    | (apply s_lit pE rfl rfl
       · conv => lhs; whnf
       · first | exact elemStr | (conv => lhs; whnf; arg 1; whnf)
       · rfl
       · rfl
       · repeat' (first | exact trivial | apply And.intro | rfl))
    | (apply s_wanted_pick_t rfl rfl rfl
       · conv => lhs; whnf
       · first | rfl | assumption
       · conv => lhs; whnf
       · first | exact bT1 (by assumption) | exact bT2 (by assumption) | rfl)
    | (apply s_wpick_t rfl rfl rfl
       · conv => lhs; whnf
       · first | rfl | assumption
       · conv => lhs; whnf
       · first | exact bT1 (by assumption) | exact bT2 (by assumption) | rfl)
    | (apply s_wanted_pick_f rfl rfl rfl
       · conv => lhs; whnf
       · first | rfl | assumption
       · conv => lhs; whnf
       · first | exact bF1 (by assumption) | exact bF2 (by assumption) | rfl)
    | (apply s_wpick_f rfl rfl rfl
       · conv => lhs; whnf
       · first | rfl | assumption
       · conv => lhs; whnf
       · first | exact bF1 (by assumption) | exact bF2 (by assumption) | rfl)
    | (apply aw_cond_kt
       · conv => lhs; whnf
       · assumption)
    | (apply aw_cond_kf
       · conv => lhs; whnf
       · assumption)
    | exact (m0 (by assumption)).elim
    | exact (k0 (by assumption)).elim
    | exact (m1 (by assumption)).elim
    | exact (m2 (by assumption)).elim
    | exact (k2 (by assumption)).elim
    | exact (m4 (by assumption)).elim
    | exact (k4 (by assumption)).elim
    | exact (m6 (by assumption)).elim
    | exact (k6 (by assumption)).elim
    | refine k_cut_ret ?_
    | refine k_cut_exit ?_
    | refine k_cut ?_
    | refine aw_region ?_
    | refine awo_nil ?_
    | refine k_seq ?_
    | refine k_block ?_
    | refine k_scope ?_
    | (apply aw_1
       conv => whnf
       refine ⟨?_, trivial⟩)
    | (apply s_pick_t rfl rfl
       · conv => lhs; whnf
       · conv => lhs; whnf
       · first | exact bT1 (by assumption) | exact bT2 (by assumption))
    | (apply s_pick_f rfl rfl
       · conv => lhs; whnf
       · conv => lhs; whnf
       · first | exact bF1 (by assumption) | exact bF2 (by assumption))
    | (apply s_1
       conv => whnf; arg 1; arg 4; arg 3; whnf
       refine ⟨?_, ?_⟩)
    | (apply s_val rfl
       · conv => lhs; whnf
       · conv => lhs; whnf; arg 2; whnf)
    | (apply s_call rfl
       · conv => lhs; whnf
       · conv => lhs; whnf
       · first | exact hI)
    | (apply s_box rfl rfl rfl rfl
       · conv => lhs; whnf; arg 1; whnf
       · rfl)
    | (apply s_alloc rfl rfl rfl rfl
       · conv => lhs; whnf; arg 1; whnf
       · rfl)
    | (apply s_store rfl rfl rfl
       · conv => lhs; whnf
       · conv => lhs; whnf; arg 1; whnf
       · conv => lhs; whnf; arg 1; whnf
       · exact ⟨by kernel_rfl, by kernel_rfl⟩
       · rfl)
    | (apply s_app rfl rfl
       · conv => lhs; whnf
       · first | exact elemStr | (conv => lhs; whnf; arg 1; whnf)
       · first | exact fun _ => rfl | (intro _; kernel_rfl)
       · conv => lhs; whnf
       · conv => lhs; whnf; arg 1; whnf
       · conv => lhs; whnf)
    | (apply s_app_nil rfl rfl rfl rfl
       · first | exact elemStr | (conv => lhs; whnf; arg 1; whnf)
       · first | exact fun _ => rfl | (intro _; kernel_rfl)
       · conv => lhs; whnf
       · conv => lhs; whnf)
    | (apply s_lit0 rfl rfl
       · conv => lhs; whnf
       · first | exact elemStr | (conv => lhs; whnf; arg 1; whnf))
    | (apply s_lit1 rfl rfl
       · conv => lhs; whnf
       · first | exact elemStr | (conv => lhs; whnf; arg 1; whnf)
       · conv => lhs; whnf; arg 1; whnf
       · rfl
       · rfl)
    | (apply s_onlit rfl rfl
       · conv => lhs; whnf
       · first | exact elemStr | (conv => lhs; whnf; arg 1; whnf)
       · first | exact fun _ => rfl | (intro _; kernel_rfl)
       · conv => lhs; whnf
       · conv => lhs; whnf)
    | (apply s_wanted_val rfl
       · conv => lhs; whnf
       · conv => lhs; whnf
       · first | rfl | assumption
       · conv => lhs; whnf; arg 2; whnf)
    | (apply s_wanted_call rfl
       · conv => lhs; whnf
       · conv => lhs; whnf
       · first | rfl | assumption
       · conv => lhs; whnf
       · first | exact hI)
    | (apply s_skipU rfl
       · conv => lhs; whnf
       · conv => lhs; whnf
       · first | rfl | assumption)
    | (apply s_dead rfl
       · conv => lhs; whnf
       · rfl
       · rfl)
    | (apply s_guard_valU rfl
       · conv => lhs; whnf
       · conv => lhs; whnf
       · conv => lhs; whnf; arg 2; whnf)
    | (apply s_guard_callU rfl
       · conv => lhs; whnf
       · conv => lhs; whnf
       · conv => lhs; whnf
       · first | exact hI)
    | (apply s_guard_val rfl
       · conv => lhs; whnf
       · conv => lhs; whnf
       · conv => lhs; whnf; arg 2; whnf)
    | (apply s_guard_call rfl
       · conv => lhs; whnf
       · conv => lhs; whnf
       · conv => lhs; whnf
       · first | exact hI)
    | (apply aw_draw (by kernel_rfl) (by kernel_rfl))
    | apply y_nil
    | (apply y_pick_t rfl rfl
       · conv => lhs; whnf
       · conv => lhs; whnf
       · first | exact bT1 (by assumption) | exact bT2 (by assumption))
    | (apply y_pick_f rfl rfl
       · conv => lhs; whnf
       · conv => lhs; whnf
       · first | exact bF1 (by assumption) | exact bF2 (by assumption))
    | (apply y_val rfl
       · conv => lhs; whnf
       · conv => lhs; whnf; arg 2; whnf)
    | (apply y_call rfl
       · conv => lhs; whnf
       · conv => lhs; whnf
       · first | exact hI)
    | (apply y_store rfl rfl rfl
       · conv => lhs; whnf
       · rfl
       · rfl
       · conv => lhs; whnf; arg 1; whnf
       · conv => lhs; whnf; arg 1; whnf
       · exact ⟨by kernel_rfl, by kernel_rfl⟩
       · rfl)
    | (apply y_app rfl rfl
       · conv => lhs; whnf
       · first | exact elemStr | (conv => lhs; whnf; arg 1; whnf)
       · first | exact fun _ => rfl | (intro _; kernel_rfl)
       · conv => lhs; whnf
       · rfl
       · rfl
       · conv => lhs; whnf; arg 1; whnf
       · conv => lhs; whnf)
    | (apply y_lit0 rfl rfl
       · conv => lhs; whnf
       · first | exact elemStr | (conv => lhs; whnf; arg 1; whnf))
    | (apply y_lit1 rfl rfl
       · conv => lhs; whnf
       · first | exact elemStr | (conv => lhs; whnf; arg 1; whnf)
       · conv => lhs; whnf; arg 1; whnf
       · rfl
       · rfl)
    | (apply y_onlit rfl rfl
       · conv => lhs; whnf
       · first | exact elemStr | (conv => lhs; whnf; arg 1; whnf)
       · first | exact fun _ => rfl | (intro _; kernel_rfl)
       · conv => lhs; whnf
       · conv => lhs; whnf)
    | (apply y_wanted_val rfl
       · conv => lhs; whnf
       · conv => lhs; whnf
       · first | rfl | assumption
       · conv => lhs; whnf; arg 2; whnf)
    | (apply y_wanted_call rfl
       · conv => lhs; whnf
       · conv => lhs; whnf
       · first | rfl | assumption
       · conv => lhs; whnf
       · first | exact hI)
    | (apply y_skip rfl
       · conv => lhs; whnf
       · conv => lhs; whnf
       · first | rfl | assumption)
    | (apply y_guard_val rfl
       · conv => lhs; whnf
       · conv => lhs; whnf
       · conv => lhs; whnf; arg 2; whnf)
    | (apply y_guard_call rfl
       · conv => lhs; whnf
       · conv => lhs; whnf
       · conv => lhs; whnf
       · first | exact hI)
    | exact apartB_none
    | exact apartB_nil
    | exact all_nil
    | (show List.all _ _ = true; rfl)
    | (show apartB _ _ = true; rfl)
    | exact ([] : List Nat)
    | exact (1000000 : Nat)
    | (apply aw_cond_t
       · conv => lhs; whnf; arg 1; arg 1; whnf)
    | (apply aw_cond_f
       · conv => lhs; whnf; arg 1; arg 1; whnf)
    | (refine aw_cond (by conv => lhs; whnf) ?_ ?_ <;> intro hb)
    | refine aw_ret ?_
    | refine aw_exit ?_
    | refine k_seq_exit ?_
    | refine k_seq_ret ?_
    | refine k_block_ret ?_
    | refine k_block_hit rfl ?_
    | refine k_block_miss rfl ?_
    | refine k_scope_exit ?_
    | refine k_scope_ret ?_
    | refine k_loop_exit ?_
    | refine k_loop_ret ?_
    | refine k_end ?_
    | refine k_end_ret ?_
    | (refine ⟨_, by conv => lhs; whnf; arg 2; whnf, ?_⟩; conv => rhs; whnf)
    | exact trivial
    | intro hg)
  all_goals first
    | exact i64_ok (by omega)
    | rfl
    | (refine ⟨by omega, ?_⟩; first | (rw [gE_len]; omega) | (rw [oE_len]; omega) | (rw [sE_len]; omega) | (rw [pE_len]; omega))
    | ((simp only [ByteArray.size_append, bs_size, lit_size, List.size_toArray, List.length_append, List.length_cons, List.length_nil, maxLen, Nat.reduceAdd, Int.toNat_natCast]; omega); done)
    | skip
set_option maxHeartbeats 8000000 in
set_option maxRecDepth 100000 in
theorem codeP_3 (n : Int) (h0 : -9223372036854775808 ≤ n) (h1 : n ≤ 9223372036854775807) (h : 20 ≤ n ∧ n ≤ 30) : AC EN Tryz.prog 7 [.c (.int .i64 n)] (.c (.string (codeS n))) := by
  have e : codeS n = (gD oE (n - 20).toNat).s := by unfold codeS; rw [if_neg (by omega)]; rw [if_pos (by omega)]
  rw [e]
  have f0 : decide (n ≥ 0) = true := decide_eq_true (by omega)
  have m0 : decide (n ≥ 0) = false → False := fun h => by rw [f0] at h; cases h
  have k0 : (decide (n ≥ 0) == true) = false → False := fun h => by rw [f0] at h; cases h
  have f1 : decide (n < (gE.length : Nat)) = false := decide_eq_false (by rw [gE_len]; omega)
  have m1 : decide (n < (gE.length : Nat)) = true → False := fun h => by rw [f1] at h; cases h
  have f2 : decide (n ≥ 20) = true := decide_eq_true (by omega)
  have m2 : decide (n ≥ 20) = false → False := fun h => by rw [f2] at h; cases h
  have k2 : (decide (n ≥ 20) == true) = false → False := fun h => by rw [f2] at h; cases h
  have f3 : decide (n - 20 < (oE.length : Nat)) = true := decide_eq_true (by rw [oE_len]; omega)
  have m3 : decide (n - 20 < (oE.length : Nat)) = false → False := fun h => by rw [f3] at h; cases h
  refine ac_enter 74 Tryz.func7 rfl rfl rfl rfl ?_
  intro s w he
  repeat' (first
    | (apply s_lit gE rfl rfl
       · conv => lhs; whnf
       · first | exact elemStr | (conv => lhs; whnf; arg 1; whnf)
       · rfl
       · rfl
       · repeat' (first | exact trivial | apply And.intro | rfl))
    | (apply s_lit oE rfl rfl
       · conv => lhs; whnf
       · first | exact elemStr | (conv => lhs; whnf; arg 1; whnf)
       · rfl
       · rfl
       · repeat' (first | exact trivial | apply And.intro | rfl))
    | (apply s_lit sE rfl rfl
       · conv => lhs; whnf
       · first | exact elemStr | (conv => lhs; whnf; arg 1; whnf)
       · rfl
       · rfl
       · repeat' (first | exact trivial | apply And.intro | rfl))
    | (apply s_lit pE rfl rfl
       · conv => lhs; whnf
       · first | exact elemStr | (conv => lhs; whnf; arg 1; whnf)
       · rfl
       · rfl
       · repeat' (first | exact trivial | apply And.intro | rfl))
    | (apply s_wanted_pick_t rfl rfl rfl
       · conv => lhs; whnf
       · first | rfl | assumption
       · conv => lhs; whnf
       · first | exact bT1 (by assumption) | exact bT2 (by assumption) | rfl)
    | (apply s_wpick_t rfl rfl rfl
       · conv => lhs; whnf
       · first | rfl | assumption
       · conv => lhs; whnf
       · first | exact bT1 (by assumption) | exact bT2 (by assumption) | rfl)
    | (apply s_wanted_pick_f rfl rfl rfl
       · conv => lhs; whnf
       · first | rfl | assumption
       · conv => lhs; whnf
       · first | exact bF1 (by assumption) | exact bF2 (by assumption) | rfl)
    | (apply s_wpick_f rfl rfl rfl
       · conv => lhs; whnf
       · first | rfl | assumption
       · conv => lhs; whnf
       · first | exact bF1 (by assumption) | exact bF2 (by assumption) | rfl)
    | (apply aw_cond_kt
       · conv => lhs; whnf
       · assumption)
    | (apply aw_cond_kf
       · conv => lhs; whnf
       · assumption)
    | exact (m0 (by assumption)).elim
    | exact (k0 (by assumption)).elim
    | exact (m1 (by assumption)).elim
    | exact (m2 (by assumption)).elim
    | exact (k2 (by assumption)).elim
    | exact (m3 (by assumption)).elim
    | refine k_cut_ret ?_
    | refine k_cut_exit ?_
    | refine k_cut ?_
    | refine aw_region ?_
    | refine awo_nil ?_
    | refine k_seq ?_
    | refine k_block ?_
    | refine k_scope ?_
    | (apply aw_1
       conv => whnf
       refine ⟨?_, trivial⟩)
    | (apply s_pick_t rfl rfl
       · conv => lhs; whnf
       · conv => lhs; whnf
       · first | exact bT1 (by assumption) | exact bT2 (by assumption))
    | (apply s_pick_f rfl rfl
       · conv => lhs; whnf
       · conv => lhs; whnf
       · first | exact bF1 (by assumption) | exact bF2 (by assumption))
    | (apply s_1
       conv => whnf; arg 1; arg 4; arg 3; whnf
       refine ⟨?_, ?_⟩)
    | (apply s_val rfl
       · conv => lhs; whnf
       · conv => lhs; whnf; arg 2; whnf)
    | (apply s_call rfl
       · conv => lhs; whnf
       · conv => lhs; whnf
       · first | fail)
    | (apply s_box rfl rfl rfl rfl
       · conv => lhs; whnf; arg 1; whnf
       · rfl)
    | (apply s_alloc rfl rfl rfl rfl
       · conv => lhs; whnf; arg 1; whnf
       · rfl)
    | (apply s_store rfl rfl rfl
       · conv => lhs; whnf
       · conv => lhs; whnf; arg 1; whnf
       · conv => lhs; whnf; arg 1; whnf
       · exact ⟨by kernel_rfl, by kernel_rfl⟩
       · rfl)
    | (apply s_app rfl rfl
       · conv => lhs; whnf
       · first | exact elemStr | (conv => lhs; whnf; arg 1; whnf)
       · first | exact fun _ => rfl | (intro _; kernel_rfl)
       · conv => lhs; whnf
       · conv => lhs; whnf; arg 1; whnf
       · conv => lhs; whnf)
    | (apply s_app_nil rfl rfl rfl rfl
       · first | exact elemStr | (conv => lhs; whnf; arg 1; whnf)
       · first | exact fun _ => rfl | (intro _; kernel_rfl)
       · conv => lhs; whnf
       · conv => lhs; whnf)
    | (apply s_lit0 rfl rfl
       · conv => lhs; whnf
       · first | exact elemStr | (conv => lhs; whnf; arg 1; whnf))
    | (apply s_lit1 rfl rfl
       · conv => lhs; whnf
       · first | exact elemStr | (conv => lhs; whnf; arg 1; whnf)
       · conv => lhs; whnf; arg 1; whnf
       · rfl
       · rfl)
    | (apply s_onlit rfl rfl
       · conv => lhs; whnf
       · first | exact elemStr | (conv => lhs; whnf; arg 1; whnf)
       · first | exact fun _ => rfl | (intro _; kernel_rfl)
       · conv => lhs; whnf
       · conv => lhs; whnf)
    | (apply s_wanted_val rfl
       · conv => lhs; whnf
       · conv => lhs; whnf
       · first | rfl | assumption
       · conv => lhs; whnf; arg 2; whnf)
    | (apply s_wanted_call rfl
       · conv => lhs; whnf
       · conv => lhs; whnf
       · first | rfl | assumption
       · conv => lhs; whnf
       · first | fail)
    | (apply s_skipU rfl
       · conv => lhs; whnf
       · conv => lhs; whnf
       · first | rfl | assumption)
    | (apply s_dead rfl
       · conv => lhs; whnf
       · rfl
       · rfl)
    | (apply s_guard_valU rfl
       · conv => lhs; whnf
       · conv => lhs; whnf
       · conv => lhs; whnf; arg 2; whnf)
    | (apply s_guard_callU rfl
       · conv => lhs; whnf
       · conv => lhs; whnf
       · conv => lhs; whnf
       · first | fail)
    | (apply s_guard_val rfl
       · conv => lhs; whnf
       · conv => lhs; whnf
       · conv => lhs; whnf; arg 2; whnf)
    | (apply s_guard_call rfl
       · conv => lhs; whnf
       · conv => lhs; whnf
       · conv => lhs; whnf
       · first | fail)
    | (apply aw_draw (by kernel_rfl) (by kernel_rfl))
    | apply y_nil
    | (apply y_pick_t rfl rfl
       · conv => lhs; whnf
       · conv => lhs; whnf
       · first | exact bT1 (by assumption) | exact bT2 (by assumption))
    | (apply y_pick_f rfl rfl
       · conv => lhs; whnf
       · conv => lhs; whnf
       · first | exact bF1 (by assumption) | exact bF2 (by assumption))
    | (apply y_val rfl
       · conv => lhs; whnf
       · conv => lhs; whnf; arg 2; whnf)
    | (apply y_call rfl
       · conv => lhs; whnf
       · conv => lhs; whnf
       · first | fail)
    | (apply y_store rfl rfl rfl
       · conv => lhs; whnf
       · rfl
       · rfl
       · conv => lhs; whnf; arg 1; whnf
       · conv => lhs; whnf; arg 1; whnf
       · exact ⟨by kernel_rfl, by kernel_rfl⟩
       · rfl)
    | (apply y_app rfl rfl
       · conv => lhs; whnf
       · first | exact elemStr | (conv => lhs; whnf; arg 1; whnf)
       · first | exact fun _ => rfl | (intro _; kernel_rfl)
       · conv => lhs; whnf
       · rfl
       · rfl
       · conv => lhs; whnf; arg 1; whnf
       · conv => lhs; whnf)
    | (apply y_lit0 rfl rfl
       · conv => lhs; whnf
       · first | exact elemStr | (conv => lhs; whnf; arg 1; whnf))
    | (apply y_lit1 rfl rfl
       · conv => lhs; whnf
       · first | exact elemStr | (conv => lhs; whnf; arg 1; whnf)
       · conv => lhs; whnf; arg 1; whnf
       · rfl
       · rfl)
    | (apply y_onlit rfl rfl
       · conv => lhs; whnf
       · first | exact elemStr | (conv => lhs; whnf; arg 1; whnf)
       · first | exact fun _ => rfl | (intro _; kernel_rfl)
       · conv => lhs; whnf
       · conv => lhs; whnf)
    | (apply y_wanted_val rfl
       · conv => lhs; whnf
       · conv => lhs; whnf
       · first | rfl | assumption
       · conv => lhs; whnf; arg 2; whnf)
    | (apply y_wanted_call rfl
       · conv => lhs; whnf
       · conv => lhs; whnf
       · first | rfl | assumption
       · conv => lhs; whnf
       · first | fail)
    | (apply y_skip rfl
       · conv => lhs; whnf
       · conv => lhs; whnf
       · first | rfl | assumption)
    | (apply y_guard_val rfl
       · conv => lhs; whnf
       · conv => lhs; whnf
       · conv => lhs; whnf; arg 2; whnf)
    | (apply y_guard_call rfl
       · conv => lhs; whnf
       · conv => lhs; whnf
       · conv => lhs; whnf
       · first | fail)
    | exact apartB_none
    | exact apartB_nil
    | exact all_nil
    | (show List.all _ _ = true; rfl)
    | (show apartB _ _ = true; rfl)
    | exact ([] : List Nat)
    | exact (1000000 : Nat)
    | (apply aw_cond_t
       · conv => lhs; whnf; arg 1; arg 1; whnf)
    | (apply aw_cond_f
       · conv => lhs; whnf; arg 1; arg 1; whnf)
    | (refine aw_cond (by conv => lhs; whnf) ?_ ?_ <;> intro hb)
    | refine aw_ret ?_
    | refine aw_exit ?_
    | refine k_seq_exit ?_
    | refine k_seq_ret ?_
    | refine k_block_ret ?_
    | refine k_block_hit rfl ?_
    | refine k_block_miss rfl ?_
    | refine k_scope_exit ?_
    | refine k_scope_ret ?_
    | refine k_loop_exit ?_
    | refine k_loop_ret ?_
    | refine k_end ?_
    | refine k_end_ret ?_
    | (refine ⟨_, by conv => lhs; whnf; arg 2; whnf, ?_⟩; conv => rhs; whnf)
    | exact trivial
    | intro hg)
  all_goals first
    | exact i64_ok (by omega)
    | rfl
    | (refine ⟨by omega, ?_⟩; first | (rw [gE_len]; omega) | (rw [oE_len]; omega) | (rw [sE_len]; omega) | (rw [pE_len]; omega))
    | ((simp only [ByteArray.size_append, bs_size, lit_size, List.size_toArray, List.length_append, List.length_cons, List.length_nil, maxLen, Nat.reduceAdd, Int.toNat_natCast]; omega); done)
    | skip
end Go.Proofs.YtdchiceeheiciaaGreatDoor
namespace Go.Proofs.YtdchiceeheiciaaGreatDoor
open Go.RowKit
set_option linter.unusedSectionVars false
attribute [local irreducible] wpList Calls Code.wp AW AWo OpOk seqK blockK scopeK loopK endK AC absLex Yld Sub
attribute [local irreducible] ACB ACX YldG
set_option maxHeartbeats 8000000 in
set_option maxRecDepth 100000 in
theorem codeP_4 (n : Int) (h0 : -9223372036854775808 ≤ n) (h1 : n ≤ 9223372036854775807) (h : 31 ≤ n ∧ n ≤ 39) : AC EN Tryz.prog 7 [.c (.int .i64 n)] (.c (.string (codeS n))) := by
  have hI := itoa_ac n h0 h1
  have hz := itoa_size n h0 h1
  have hs := @bs_size (Lib.itoa n)
  have e : codeS n = (⟨#[69, 114, 114, 110, 111]⟩ : ByteArray) ++ bs (Lib.itoa n) := by unfold codeS; rw [if_neg (by omega), if_neg (by omega), if_neg (by omega), if_neg (by omega)]
  rw [e]
  have f0 : decide (n ≥ 0) = true := decide_eq_true (by omega)
  have m0 : decide (n ≥ 0) = false → False := fun h => by rw [f0] at h; cases h
  have k0 : (decide (n ≥ 0) == true) = false → False := fun h => by rw [f0] at h; cases h
  have f1 : decide (n < (gE.length : Nat)) = false := decide_eq_false (by rw [gE_len]; omega)
  have m1 : decide (n < (gE.length : Nat)) = true → False := fun h => by rw [f1] at h; cases h
  have f2 : decide (n ≥ 20) = true := decide_eq_true (by omega)
  have m2 : decide (n ≥ 20) = false → False := fun h => by rw [f2] at h; cases h
  have k2 : (decide (n ≥ 20) == true) = false → False := fun h => by rw [f2] at h; cases h
  have f3 : decide (n - 20 < (oE.length : Nat)) = false := decide_eq_false (by rw [oE_len]; omega)
  have m3 : decide (n - 20 < (oE.length : Nat)) = true → False := fun h => by rw [f3] at h; cases h
  have f4 : decide (n ≥ 40) = false := decide_eq_false (by omega)
  have m4 : decide (n ≥ 40) = true → False := fun h => by rw [f4] at h; cases h
  have k4 : (decide (n ≥ 40) == true) = true → False := fun h => by rw [f4] at h; cases h
  have f6 : decide (n ≥ 60) = false := decide_eq_false (by omega)
  have m6 : decide (n ≥ 60) = true → False := fun h => by rw [f6] at h; cases h
  have k6 : (decide (n ≥ 60) == true) = true → False := fun h => by rw [f6] at h; cases h
  refine ac_enter 74 Tryz.func7 rfl rfl rfl rfl ?_
  intro s w he
  repeat' (first
    | (apply s_lit gE rfl rfl
       · conv => lhs; whnf
       · first | exact elemStr | (conv => lhs; whnf; arg 1; whnf)
       · rfl
       · rfl
       · repeat' (first | exact trivial | apply And.intro | rfl))
    | (apply s_lit oE rfl rfl
       · conv => lhs; whnf
       · first | exact elemStr | (conv => lhs; whnf; arg 1; whnf)
       · rfl
       · rfl
       · repeat' (first | exact trivial | apply And.intro | rfl))
    | (apply s_lit sE rfl rfl
       · conv => lhs; whnf
       · first | exact elemStr | (conv => lhs; whnf; arg 1; whnf)
       · rfl
       · rfl
       · repeat' (first | exact trivial | apply And.intro | rfl))
    | (apply s_lit pE rfl rfl
       · conv => lhs; whnf
       · first | exact elemStr | (conv => lhs; whnf; arg 1; whnf)
       · rfl
       · rfl
       · repeat' (first | exact trivial | apply And.intro | rfl))
    | (apply s_wanted_pick_t rfl rfl rfl
       · conv => lhs; whnf
       · first | rfl | assumption
       · conv => lhs; whnf
       · first | exact bT1 (by assumption) | exact bT2 (by assumption) | rfl)
    | (apply s_wpick_t rfl rfl rfl
       · conv => lhs; whnf
       · first | rfl | assumption
       · conv => lhs; whnf
       · first | exact bT1 (by assumption) | exact bT2 (by assumption) | rfl)
    | (apply s_wanted_pick_f rfl rfl rfl
       · conv => lhs; whnf
       · first | rfl | assumption
       · conv => lhs; whnf
       · first | exact bF1 (by assumption) | exact bF2 (by assumption) | rfl)
    | (apply s_wpick_f rfl rfl rfl
       · conv => lhs; whnf
       · first | rfl | assumption
       · conv => lhs; whnf
       · first | exact bF1 (by assumption) | exact bF2 (by assumption) | rfl)
    | (apply aw_cond_kt
       · conv => lhs; whnf
       · assumption)
    | (apply aw_cond_kf
       · conv => lhs; whnf
       · assumption)
    | exact (m0 (by assumption)).elim
    | exact (k0 (by assumption)).elim
    | exact (m1 (by assumption)).elim
    | exact (m2 (by assumption)).elim
    | exact (k2 (by assumption)).elim
    | exact (m3 (by assumption)).elim
    | exact (m4 (by assumption)).elim
    | exact (k4 (by assumption)).elim
    | exact (m6 (by assumption)).elim
    | exact (k6 (by assumption)).elim
    | refine k_cut_ret ?_
    | refine k_cut_exit ?_
    | refine k_cut ?_
    | refine aw_region ?_
    | refine awo_nil ?_
    | refine k_seq ?_
    | refine k_block ?_
    | refine k_scope ?_
    | (apply aw_1
       conv => whnf
       refine ⟨?_, trivial⟩)
    | (apply s_pick_t rfl rfl
       · conv => lhs; whnf
       · conv => lhs; whnf
       · first | exact bT1 (by assumption) | exact bT2 (by assumption))
    | (apply s_pick_f rfl rfl
       · conv => lhs; whnf
       · conv => lhs; whnf
       · first | exact bF1 (by assumption) | exact bF2 (by assumption))
    | (apply s_1
       conv => whnf; arg 1; arg 4; arg 3; whnf
       refine ⟨?_, ?_⟩)
    | (apply s_val rfl
       · conv => lhs; whnf
       · conv => lhs; whnf; arg 2; whnf)
    | (apply s_call rfl
       · conv => lhs; whnf
       · conv => lhs; whnf
       · first | exact hI)
    | (apply s_box rfl rfl rfl rfl
       · conv => lhs; whnf; arg 1; whnf
       · rfl)
    | (apply s_alloc rfl rfl rfl rfl
       · conv => lhs; whnf; arg 1; whnf
       · rfl)
    | (apply s_store rfl rfl rfl
       · conv => lhs; whnf
       · conv => lhs; whnf; arg 1; whnf
       · conv => lhs; whnf; arg 1; whnf
       · exact ⟨by kernel_rfl, by kernel_rfl⟩
       · rfl)
    | (apply s_app rfl rfl
       · conv => lhs; whnf
       · first | exact elemStr | (conv => lhs; whnf; arg 1; whnf)
       · first | exact fun _ => rfl | (intro _; kernel_rfl)
       · conv => lhs; whnf
       · conv => lhs; whnf; arg 1; whnf
       · conv => lhs; whnf)
    | (apply s_app_nil rfl rfl rfl rfl
       · first | exact elemStr | (conv => lhs; whnf; arg 1; whnf)
       · first | exact fun _ => rfl | (intro _; kernel_rfl)
       · conv => lhs; whnf
       · conv => lhs; whnf)
    | (apply s_lit0 rfl rfl
       · conv => lhs; whnf
       · first | exact elemStr | (conv => lhs; whnf; arg 1; whnf))
    | (apply s_lit1 rfl rfl
       · conv => lhs; whnf
       · first | exact elemStr | (conv => lhs; whnf; arg 1; whnf)
       · conv => lhs; whnf; arg 1; whnf
       · rfl
       · rfl)
    | (apply s_onlit rfl rfl
       · conv => lhs; whnf
       · first | exact elemStr | (conv => lhs; whnf; arg 1; whnf)
       · first | exact fun _ => rfl | (intro _; kernel_rfl)
       · conv => lhs; whnf
       · conv => lhs; whnf)
    | (apply s_wanted_val rfl
       · conv => lhs; whnf
       · conv => lhs; whnf
       · first | rfl | assumption
       · conv => lhs; whnf; arg 2; whnf)
    | (apply s_wanted_call rfl
       · conv => lhs; whnf
       · conv => lhs; whnf
       · first | rfl | assumption
       · conv => lhs; whnf
       · first | exact hI)
    | (apply s_skipU rfl
       · conv => lhs; whnf
       · conv => lhs; whnf
       · first | rfl | assumption)
    | (apply s_dead rfl
       · conv => lhs; whnf
       · rfl
       · rfl)
    | (apply s_guard_valU rfl
       · conv => lhs; whnf
       · conv => lhs; whnf
       · conv => lhs; whnf; arg 2; whnf)
    | (apply s_guard_callU rfl
       · conv => lhs; whnf
       · conv => lhs; whnf
       · conv => lhs; whnf
       · first | exact hI)
    | (apply s_guard_val rfl
       · conv => lhs; whnf
       · conv => lhs; whnf
       · conv => lhs; whnf; arg 2; whnf)
    | (apply s_guard_call rfl
       · conv => lhs; whnf
       · conv => lhs; whnf
       · conv => lhs; whnf
       · first | exact hI)
    | (apply aw_draw (by kernel_rfl) (by kernel_rfl))
    | apply y_nil
    | (apply y_pick_t rfl rfl
       · conv => lhs; whnf
       · conv => lhs; whnf
       · first | exact bT1 (by assumption) | exact bT2 (by assumption))
    | (apply y_pick_f rfl rfl
       · conv => lhs; whnf
       · conv => lhs; whnf
       · first | exact bF1 (by assumption) | exact bF2 (by assumption))
    | (apply y_val rfl
       · conv => lhs; whnf
       · conv => lhs; whnf; arg 2; whnf)
    | (apply y_call rfl
       · conv => lhs; whnf
       · conv => lhs; whnf
       · first | exact hI)
    | (apply y_store rfl rfl rfl
       · conv => lhs; whnf
       · rfl
       · rfl
       · conv => lhs; whnf; arg 1; whnf
       · conv => lhs; whnf; arg 1; whnf
       · exact ⟨by kernel_rfl, by kernel_rfl⟩
       · rfl)
    | (apply y_app rfl rfl
       · conv => lhs; whnf
       · first | exact elemStr | (conv => lhs; whnf; arg 1; whnf)
       · first | exact fun _ => rfl | (intro _; kernel_rfl)
       · conv => lhs; whnf
       · rfl
       · rfl
       · conv => lhs; whnf; arg 1; whnf
       · conv => lhs; whnf)
    | (apply y_lit0 rfl rfl
       · conv => lhs; whnf
       · first | exact elemStr | (conv => lhs; whnf; arg 1; whnf))
    | (apply y_lit1 rfl rfl
       · conv => lhs; whnf
       · first | exact elemStr | (conv => lhs; whnf; arg 1; whnf)
       · conv => lhs; whnf; arg 1; whnf
       · rfl
       · rfl)
    | (apply y_onlit rfl rfl
       · conv => lhs; whnf
       · first | exact elemStr | (conv => lhs; whnf; arg 1; whnf)
       · first | exact fun _ => rfl | (intro _; kernel_rfl)
       · conv => lhs; whnf
       · conv => lhs; whnf)
    | (apply y_wanted_val rfl
       · conv => lhs; whnf
       · conv => lhs; whnf
       · first | rfl | assumption
       · conv => lhs; whnf; arg 2; whnf)
    | (apply y_wanted_call rfl
       · conv => lhs; whnf
       · conv => lhs; whnf
       · first | rfl | assumption
       · conv => lhs; whnf
       · first | exact hI)
    | (apply y_skip rfl
       · conv => lhs; whnf
       · conv => lhs; whnf
       · first | rfl | assumption)
    | (apply y_guard_val rfl
       · conv => lhs; whnf
       · conv => lhs; whnf
       · conv => lhs; whnf; arg 2; whnf)
    | (apply y_guard_call rfl
       · conv => lhs; whnf
       · conv => lhs; whnf
       · conv => lhs; whnf
       · first | exact hI)
    | exact apartB_none
    | exact apartB_nil
    | exact all_nil
    | (show List.all _ _ = true; rfl)
    | (show apartB _ _ = true; rfl)
    | exact ([] : List Nat)
    | exact (1000000 : Nat)
    | (apply aw_cond_t
       · conv => lhs; whnf; arg 1; arg 1; whnf)
    | (apply aw_cond_f
       · conv => lhs; whnf; arg 1; arg 1; whnf)
    | (refine aw_cond (by conv => lhs; whnf) ?_ ?_ <;> intro hb)
    | refine aw_ret ?_
    | refine aw_exit ?_
    | refine k_seq_exit ?_
    | refine k_seq_ret ?_
    | refine k_block_ret ?_
    | refine k_block_hit rfl ?_
    | refine k_block_miss rfl ?_
    | refine k_scope_exit ?_
    | refine k_scope_ret ?_
    | refine k_loop_exit ?_
    | refine k_loop_ret ?_
    | refine k_end ?_
    | refine k_end_ret ?_
    | (refine ⟨_, by conv => lhs; whnf; arg 2; whnf, ?_⟩; conv => rhs; whnf)
    | exact trivial
    | intro hg)
  all_goals first
    | exact i64_ok (by omega)
    | rfl
    | (refine ⟨by omega, ?_⟩; first | (rw [gE_len]; omega) | (rw [oE_len]; omega) | (rw [sE_len]; omega) | (rw [pE_len]; omega))
    | ((simp only [ByteArray.size_append, bs_size, lit_size, List.size_toArray, List.length_append, List.length_cons, List.length_nil, maxLen, Nat.reduceAdd, Int.toNat_natCast]; omega); done)
    | skip
set_option maxHeartbeats 8000000 in
set_option maxRecDepth 100000 in
theorem codeP_5 (n : Int) (h0 : -9223372036854775808 ≤ n) (h1 : n ≤ 9223372036854775807) (h : 40 ≤ n ∧ n ≤ 46) : AC EN Tryz.prog 7 [.c (.int .i64 n)] (.c (.string (codeS n))) := by
  have e : codeS n = (gD sE (n - 40).toNat).s := by unfold codeS; rw [if_neg (by omega)]; rw [if_neg (by omega)]; rw [if_pos (by omega)]
  rw [e]
  have f0 : decide (n ≥ 0) = true := decide_eq_true (by omega)
  have m0 : decide (n ≥ 0) = false → False := fun h => by rw [f0] at h; cases h
  have k0 : (decide (n ≥ 0) == true) = false → False := fun h => by rw [f0] at h; cases h
  have f1 : decide (n < (gE.length : Nat)) = false := decide_eq_false (by rw [gE_len]; omega)
  have m1 : decide (n < (gE.length : Nat)) = true → False := fun h => by rw [f1] at h; cases h
  have f2 : decide (n ≥ 20) = true := decide_eq_true (by omega)
  have m2 : decide (n ≥ 20) = false → False := fun h => by rw [f2] at h; cases h
  have k2 : (decide (n ≥ 20) == true) = false → False := fun h => by rw [f2] at h; cases h
  have f3 : decide (n - 20 < (oE.length : Nat)) = false := decide_eq_false (by rw [oE_len]; omega)
  have m3 : decide (n - 20 < (oE.length : Nat)) = true → False := fun h => by rw [f3] at h; cases h
  have f4 : decide (n ≥ 40) = true := decide_eq_true (by omega)
  have m4 : decide (n ≥ 40) = false → False := fun h => by rw [f4] at h; cases h
  have k4 : (decide (n ≥ 40) == true) = false → False := fun h => by rw [f4] at h; cases h
  have f5 : decide (n - 40 < (sE.length : Nat)) = true := decide_eq_true (by rw [sE_len]; omega)
  have m5 : decide (n - 40 < (sE.length : Nat)) = false → False := fun h => by rw [f5] at h; cases h
  refine ac_enter 74 Tryz.func7 rfl rfl rfl rfl ?_
  intro s w he
  repeat' (first
    | (apply s_lit gE rfl rfl
       · conv => lhs; whnf
       · first | exact elemStr | (conv => lhs; whnf; arg 1; whnf)
       · rfl
       · rfl
       · repeat' (first | exact trivial | apply And.intro | rfl))
    | (apply s_lit oE rfl rfl
       · conv => lhs; whnf
       · first | exact elemStr | (conv => lhs; whnf; arg 1; whnf)
       · rfl
       · rfl
       · repeat' (first | exact trivial | apply And.intro | rfl))
    | (apply s_lit sE rfl rfl
       · conv => lhs; whnf
       · first | exact elemStr | (conv => lhs; whnf; arg 1; whnf)
       · rfl
       · rfl
       · repeat' (first | exact trivial | apply And.intro | rfl))
    | (apply s_lit pE rfl rfl
       · conv => lhs; whnf
       · first | exact elemStr | (conv => lhs; whnf; arg 1; whnf)
       · rfl
       · rfl
       · repeat' (first | exact trivial | apply And.intro | rfl))
    | (apply s_wanted_pick_t rfl rfl rfl
       · conv => lhs; whnf
       · first | rfl | assumption
       · conv => lhs; whnf
       · first | exact bT1 (by assumption) | exact bT2 (by assumption) | rfl)
    | (apply s_wpick_t rfl rfl rfl
       · conv => lhs; whnf
       · first | rfl | assumption
       · conv => lhs; whnf
       · first | exact bT1 (by assumption) | exact bT2 (by assumption) | rfl)
    | (apply s_wanted_pick_f rfl rfl rfl
       · conv => lhs; whnf
       · first | rfl | assumption
       · conv => lhs; whnf
       · first | exact bF1 (by assumption) | exact bF2 (by assumption) | rfl)
    | (apply s_wpick_f rfl rfl rfl
       · conv => lhs; whnf
       · first | rfl | assumption
       · conv => lhs; whnf
       · first | exact bF1 (by assumption) | exact bF2 (by assumption) | rfl)
    | (apply aw_cond_kt
       · conv => lhs; whnf
       · assumption)
    | (apply aw_cond_kf
       · conv => lhs; whnf
       · assumption)
    | exact (m0 (by assumption)).elim
    | exact (k0 (by assumption)).elim
    | exact (m1 (by assumption)).elim
    | exact (m2 (by assumption)).elim
    | exact (k2 (by assumption)).elim
    | exact (m3 (by assumption)).elim
    | exact (m4 (by assumption)).elim
    | exact (k4 (by assumption)).elim
    | exact (m5 (by assumption)).elim
    | refine k_cut_ret ?_
    | refine k_cut_exit ?_
    | refine k_cut ?_
    | refine aw_region ?_
    | refine awo_nil ?_
    | refine k_seq ?_
    | refine k_block ?_
    | refine k_scope ?_
    | (apply aw_1
       conv => whnf
       refine ⟨?_, trivial⟩)
    | (apply s_pick_t rfl rfl
       · conv => lhs; whnf
       · conv => lhs; whnf
       · first | exact bT1 (by assumption) | exact bT2 (by assumption))
    | (apply s_pick_f rfl rfl
       · conv => lhs; whnf
       · conv => lhs; whnf
       · first | exact bF1 (by assumption) | exact bF2 (by assumption))
    | (apply s_1
       conv => whnf; arg 1; arg 4; arg 3; whnf
       refine ⟨?_, ?_⟩)
    | (apply s_val rfl
       · conv => lhs; whnf
       · conv => lhs; whnf; arg 2; whnf)
    | (apply s_call rfl
       · conv => lhs; whnf
       · conv => lhs; whnf
       · first | fail)
    | (apply s_box rfl rfl rfl rfl
       · conv => lhs; whnf; arg 1; whnf
       · rfl)
    | (apply s_alloc rfl rfl rfl rfl
       · conv => lhs; whnf; arg 1; whnf
       · rfl)
    | (apply s_store rfl rfl rfl
       · conv => lhs; whnf
       · conv => lhs; whnf; arg 1; whnf
       · conv => lhs; whnf; arg 1; whnf
       · exact ⟨by kernel_rfl, by kernel_rfl⟩
       · rfl)
    | (apply s_app rfl rfl
       · conv => lhs; whnf
       · first | exact elemStr | (conv => lhs; whnf; arg 1; whnf)
       · first | exact fun _ => rfl | (intro _; kernel_rfl)
       · conv => lhs; whnf
       · conv => lhs; whnf; arg 1; whnf
       · conv => lhs; whnf)
    | (apply s_app_nil rfl rfl rfl rfl
       · first | exact elemStr | (conv => lhs; whnf; arg 1; whnf)
       · first | exact fun _ => rfl | (intro _; kernel_rfl)
       · conv => lhs; whnf
       · conv => lhs; whnf)
    | (apply s_lit0 rfl rfl
       · conv => lhs; whnf
       · first | exact elemStr | (conv => lhs; whnf; arg 1; whnf))
    | (apply s_lit1 rfl rfl
       · conv => lhs; whnf
       · first | exact elemStr | (conv => lhs; whnf; arg 1; whnf)
       · conv => lhs; whnf; arg 1; whnf
       · rfl
       · rfl)
    | (apply s_onlit rfl rfl
       · conv => lhs; whnf
       · first | exact elemStr | (conv => lhs; whnf; arg 1; whnf)
       · first | exact fun _ => rfl | (intro _; kernel_rfl)
       · conv => lhs; whnf
       · conv => lhs; whnf)
    | (apply s_wanted_val rfl
       · conv => lhs; whnf
       · conv => lhs; whnf
       · first | rfl | assumption
       · conv => lhs; whnf; arg 2; whnf)
    | (apply s_wanted_call rfl
       · conv => lhs; whnf
       · conv => lhs; whnf
       · first | rfl | assumption
       · conv => lhs; whnf
       · first | fail)
    | (apply s_skipU rfl
       · conv => lhs; whnf
       · conv => lhs; whnf
       · first | rfl | assumption)
    | (apply s_dead rfl
       · conv => lhs; whnf
       · rfl
       · rfl)
    | (apply s_guard_valU rfl
       · conv => lhs; whnf
       · conv => lhs; whnf
       · conv => lhs; whnf; arg 2; whnf)
    | (apply s_guard_callU rfl
       · conv => lhs; whnf
       · conv => lhs; whnf
       · conv => lhs; whnf
       · first | fail)
    | (apply s_guard_val rfl
       · conv => lhs; whnf
       · conv => lhs; whnf
       · conv => lhs; whnf; arg 2; whnf)
    | (apply s_guard_call rfl
       · conv => lhs; whnf
       · conv => lhs; whnf
       · conv => lhs; whnf
       · first | fail)
    | (apply aw_draw (by kernel_rfl) (by kernel_rfl))
    | apply y_nil
    | (apply y_pick_t rfl rfl
       · conv => lhs; whnf
       · conv => lhs; whnf
       · first | exact bT1 (by assumption) | exact bT2 (by assumption))
    | (apply y_pick_f rfl rfl
       · conv => lhs; whnf
       · conv => lhs; whnf
       · first | exact bF1 (by assumption) | exact bF2 (by assumption))
    | (apply y_val rfl
       · conv => lhs; whnf
       · conv => lhs; whnf; arg 2; whnf)
    | (apply y_call rfl
       · conv => lhs; whnf
       · conv => lhs; whnf
       · first | fail)
    | (apply y_store rfl rfl rfl
       · conv => lhs; whnf
       · rfl
       · rfl
       · conv => lhs; whnf; arg 1; whnf
       · conv => lhs; whnf; arg 1; whnf
       · exact ⟨by kernel_rfl, by kernel_rfl⟩
       · rfl)
    | (apply y_app rfl rfl
       · conv => lhs; whnf
       · first | exact elemStr | (conv => lhs; whnf; arg 1; whnf)
       · first | exact fun _ => rfl | (intro _; kernel_rfl)
       · conv => lhs; whnf
       · rfl
       · rfl
       · conv => lhs; whnf; arg 1; whnf
       · conv => lhs; whnf)
    | (apply y_lit0 rfl rfl
       · conv => lhs; whnf
       · first | exact elemStr | (conv => lhs; whnf; arg 1; whnf))
    | (apply y_lit1 rfl rfl
       · conv => lhs; whnf
       · first | exact elemStr | (conv => lhs; whnf; arg 1; whnf)
       · conv => lhs; whnf; arg 1; whnf
       · rfl
       · rfl)
    | (apply y_onlit rfl rfl
       · conv => lhs; whnf
       · first | exact elemStr | (conv => lhs; whnf; arg 1; whnf)
       · first | exact fun _ => rfl | (intro _; kernel_rfl)
       · conv => lhs; whnf
       · conv => lhs; whnf)
    | (apply y_wanted_val rfl
       · conv => lhs; whnf
       · conv => lhs; whnf
       · first | rfl | assumption
       · conv => lhs; whnf; arg 2; whnf)
    | (apply y_wanted_call rfl
       · conv => lhs; whnf
       · conv => lhs; whnf
       · first | rfl | assumption
       · conv => lhs; whnf
       · first | fail)
    | (apply y_skip rfl
       · conv => lhs; whnf
       · conv => lhs; whnf
       · first | rfl | assumption)
    | (apply y_guard_val rfl
       · conv => lhs; whnf
       · conv => lhs; whnf
       · conv => lhs; whnf; arg 2; whnf)
    | (apply y_guard_call rfl
       · conv => lhs; whnf
       · conv => lhs; whnf
       · conv => lhs; whnf
       · first | fail)
    | exact apartB_none
    | exact apartB_nil
    | exact all_nil
    | (show List.all _ _ = true; rfl)
    | (show apartB _ _ = true; rfl)
    | exact ([] : List Nat)
    | exact (1000000 : Nat)
    | (apply aw_cond_t
       · conv => lhs; whnf; arg 1; arg 1; whnf)
    | (apply aw_cond_f
       · conv => lhs; whnf; arg 1; arg 1; whnf)
    | (refine aw_cond (by conv => lhs; whnf) ?_ ?_ <;> intro hb)
    | refine aw_ret ?_
    | refine aw_exit ?_
    | refine k_seq_exit ?_
    | refine k_seq_ret ?_
    | refine k_block_ret ?_
    | refine k_block_hit rfl ?_
    | refine k_block_miss rfl ?_
    | refine k_scope_exit ?_
    | refine k_scope_ret ?_
    | refine k_loop_exit ?_
    | refine k_loop_ret ?_
    | refine k_end ?_
    | refine k_end_ret ?_
    | (refine ⟨_, by conv => lhs; whnf; arg 2; whnf, ?_⟩; conv => rhs; whnf)
    | exact trivial
    | intro hg)
  all_goals first
    | exact i64_ok (by omega)
    | rfl
    | (refine ⟨by omega, ?_⟩; first | (rw [gE_len]; omega) | (rw [oE_len]; omega) | (rw [sE_len]; omega) | (rw [pE_len]; omega))
    | ((simp only [ByteArray.size_append, bs_size, lit_size, List.size_toArray, List.length_append, List.length_cons, List.length_nil, maxLen, Nat.reduceAdd, Int.toNat_natCast]; omega); done)
    | skip
set_option maxHeartbeats 8000000 in
set_option maxRecDepth 100000 in
theorem codeP_6 (n : Int) (h0 : -9223372036854775808 ≤ n) (h1 : n ≤ 9223372036854775807) (h : 47 ≤ n ∧ n ≤ 59) : AC EN Tryz.prog 7 [.c (.int .i64 n)] (.c (.string (codeS n))) := by
  have hI := itoa_ac n h0 h1
  have hz := itoa_size n h0 h1
  have hs := @bs_size (Lib.itoa n)
  have e : codeS n = (⟨#[69, 114, 114, 110, 111]⟩ : ByteArray) ++ bs (Lib.itoa n) := by unfold codeS; rw [if_neg (by omega), if_neg (by omega), if_neg (by omega), if_neg (by omega)]
  rw [e]
  have f0 : decide (n ≥ 0) = true := decide_eq_true (by omega)
  have m0 : decide (n ≥ 0) = false → False := fun h => by rw [f0] at h; cases h
  have k0 : (decide (n ≥ 0) == true) = false → False := fun h => by rw [f0] at h; cases h
  have f1 : decide (n < (gE.length : Nat)) = false := decide_eq_false (by rw [gE_len]; omega)
  have m1 : decide (n < (gE.length : Nat)) = true → False := fun h => by rw [f1] at h; cases h
  have f2 : decide (n ≥ 20) = true := decide_eq_true (by omega)
  have m2 : decide (n ≥ 20) = false → False := fun h => by rw [f2] at h; cases h
  have k2 : (decide (n ≥ 20) == true) = false → False := fun h => by rw [f2] at h; cases h
  have f3 : decide (n - 20 < (oE.length : Nat)) = false := decide_eq_false (by rw [oE_len]; omega)
  have m3 : decide (n - 20 < (oE.length : Nat)) = true → False := fun h => by rw [f3] at h; cases h
  have f4 : decide (n ≥ 40) = true := decide_eq_true (by omega)
  have m4 : decide (n ≥ 40) = false → False := fun h => by rw [f4] at h; cases h
  have k4 : (decide (n ≥ 40) == true) = false → False := fun h => by rw [f4] at h; cases h
  have f5 : decide (n - 40 < (sE.length : Nat)) = false := decide_eq_false (by rw [sE_len]; omega)
  have m5 : decide (n - 40 < (sE.length : Nat)) = true → False := fun h => by rw [f5] at h; cases h
  have f6 : decide (n ≥ 60) = false := decide_eq_false (by omega)
  have m6 : decide (n ≥ 60) = true → False := fun h => by rw [f6] at h; cases h
  have k6 : (decide (n ≥ 60) == true) = true → False := fun h => by rw [f6] at h; cases h
  refine ac_enter 74 Tryz.func7 rfl rfl rfl rfl ?_
  intro s w he
  repeat' (first
    | (apply s_lit gE rfl rfl
       · conv => lhs; whnf
       · first | exact elemStr | (conv => lhs; whnf; arg 1; whnf)
       · rfl
       · rfl
       · repeat' (first | exact trivial | apply And.intro | rfl))
    | (apply s_lit oE rfl rfl
       · conv => lhs; whnf
       · first | exact elemStr | (conv => lhs; whnf; arg 1; whnf)
       · rfl
       · rfl
       · repeat' (first | exact trivial | apply And.intro | rfl))
    | (apply s_lit sE rfl rfl
       · conv => lhs; whnf
       · first | exact elemStr | (conv => lhs; whnf; arg 1; whnf)
       · rfl
       · rfl
       · repeat' (first | exact trivial | apply And.intro | rfl))
    | (apply s_lit pE rfl rfl
       · conv => lhs; whnf
       · first | exact elemStr | (conv => lhs; whnf; arg 1; whnf)
       · rfl
       · rfl
       · repeat' (first | exact trivial | apply And.intro | rfl))
    | (apply s_wanted_pick_t rfl rfl rfl
       · conv => lhs; whnf
       · first | rfl | assumption
       · conv => lhs; whnf
       · first | exact bT1 (by assumption) | exact bT2 (by assumption) | rfl)
    | (apply s_wpick_t rfl rfl rfl
       · conv => lhs; whnf
       · first | rfl | assumption
       · conv => lhs; whnf
       · first | exact bT1 (by assumption) | exact bT2 (by assumption) | rfl)
    | (apply s_wanted_pick_f rfl rfl rfl
       · conv => lhs; whnf
       · first | rfl | assumption
       · conv => lhs; whnf
       · first | exact bF1 (by assumption) | exact bF2 (by assumption) | rfl)
    | (apply s_wpick_f rfl rfl rfl
       · conv => lhs; whnf
       · first | rfl | assumption
       · conv => lhs; whnf
       · first | exact bF1 (by assumption) | exact bF2 (by assumption) | rfl)
    | (apply aw_cond_kt
       · conv => lhs; whnf
       · assumption)
    | (apply aw_cond_kf
       · conv => lhs; whnf
       · assumption)
    | exact (m0 (by assumption)).elim
    | exact (k0 (by assumption)).elim
    | exact (m1 (by assumption)).elim
    | exact (m2 (by assumption)).elim
    | exact (k2 (by assumption)).elim
    | exact (m3 (by assumption)).elim
    | exact (m4 (by assumption)).elim
    | exact (k4 (by assumption)).elim
    | exact (m5 (by assumption)).elim
    | exact (m6 (by assumption)).elim
    | exact (k6 (by assumption)).elim
    | refine k_cut_ret ?_
    | refine k_cut_exit ?_
    | refine k_cut ?_
    | refine aw_region ?_
    | refine awo_nil ?_
    | refine k_seq ?_
    | refine k_block ?_
    | refine k_scope ?_
    | (apply aw_1
       conv => whnf
       refine ⟨?_, trivial⟩)
    | (apply s_pick_t rfl rfl
       · conv => lhs; whnf
       · conv => lhs; whnf
       · first | exact bT1 (by assumption) | exact bT2 (by assumption))
    | (apply s_pick_f rfl rfl
       · conv => lhs; whnf
       · conv => lhs; whnf
       · first | exact bF1 (by assumption) | exact bF2 (by assumption))
    | (apply s_1
       conv => whnf; arg 1; arg 4; arg 3; whnf
       refine ⟨?_, ?_⟩)
    | (apply s_val rfl
       · conv => lhs; whnf
       · conv => lhs; whnf; arg 2; whnf)
    | (apply s_call rfl
       · conv => lhs; whnf
       · conv => lhs; whnf
       · first | exact hI)
    | (apply s_box rfl rfl rfl rfl
       · conv => lhs; whnf; arg 1; whnf
       · rfl)
    | (apply s_alloc rfl rfl rfl rfl
       · conv => lhs; whnf; arg 1; whnf
       · rfl)
    | (apply s_store rfl rfl rfl
       · conv => lhs; whnf
       · conv => lhs; whnf; arg 1; whnf
       · conv => lhs; whnf; arg 1; whnf
       · exact ⟨by kernel_rfl, by kernel_rfl⟩
       · rfl)
    | (apply s_app rfl rfl
       · conv => lhs; whnf
       · first | exact elemStr | (conv => lhs; whnf; arg 1; whnf)
       · first | exact fun _ => rfl | (intro _; kernel_rfl)
       · conv => lhs; whnf
       · conv => lhs; whnf; arg 1; whnf
       · conv => lhs; whnf)
    | (apply s_app_nil rfl rfl rfl rfl
       · first | exact elemStr | (conv => lhs; whnf; arg 1; whnf)
       · first | exact fun _ => rfl | (intro _; kernel_rfl)
       · conv => lhs; whnf
       · conv => lhs; whnf)
    | (apply s_lit0 rfl rfl
       · conv => lhs; whnf
       · first | exact elemStr | (conv => lhs; whnf; arg 1; whnf))
    | (apply s_lit1 rfl rfl
       · conv => lhs; whnf
       · first | exact elemStr | (conv => lhs; whnf; arg 1; whnf)
       · conv => lhs; whnf; arg 1; whnf
       · rfl
       · rfl)
    | (apply s_onlit rfl rfl
       · conv => lhs; whnf
       · first | exact elemStr | (conv => lhs; whnf; arg 1; whnf)
       · first | exact fun _ => rfl | (intro _; kernel_rfl)
       · conv => lhs; whnf
       · conv => lhs; whnf)
    | (apply s_wanted_val rfl
       · conv => lhs; whnf
       · conv => lhs; whnf
       · first | rfl | assumption
       · conv => lhs; whnf; arg 2; whnf)
    | (apply s_wanted_call rfl
       · conv => lhs; whnf
       · conv => lhs; whnf
       · first | rfl | assumption
       · conv => lhs; whnf
       · first | exact hI)
    | (apply s_skipU rfl
       · conv => lhs; whnf
       · conv => lhs; whnf
       · first | rfl | assumption)
    | (apply s_dead rfl
       · conv => lhs; whnf
       · rfl
       · rfl)
    | (apply s_guard_valU rfl
       · conv => lhs; whnf
       · conv => lhs; whnf
       · conv => lhs; whnf; arg 2; whnf)
    | (apply s_guard_callU rfl
       · conv => lhs; whnf
       · conv => lhs; whnf
       · conv => lhs; whnf
       · first | exact hI)
    | (apply s_guard_val rfl
       · conv => lhs; whnf
       · conv => lhs; whnf
       · conv => lhs; whnf; arg 2; whnf)
    | (apply s_guard_call rfl
       · conv => lhs; whnf
       · conv => lhs; whnf
       · conv => lhs; whnf
       · first | exact hI)
    | (apply aw_draw (by kernel_rfl) (by kernel_rfl))
    | apply y_nil
    | (apply y_pick_t rfl rfl
       · conv => lhs; whnf
       · conv => lhs; whnf
       · first | exact bT1 (by assumption) | exact bT2 (by assumption))
    | (apply y_pick_f rfl rfl
       · conv => lhs; whnf
       · conv => lhs; whnf
       · first | exact bF1 (by assumption) | exact bF2 (by assumption))
    | (apply y_val rfl
       · conv => lhs; whnf
       · conv => lhs; whnf; arg 2; whnf)
    | (apply y_call rfl
       · conv => lhs; whnf
       · conv => lhs; whnf
       · first | exact hI)
    | (apply y_store rfl rfl rfl
       · conv => lhs; whnf
       · rfl
       · rfl
       · conv => lhs; whnf; arg 1; whnf
       · conv => lhs; whnf; arg 1; whnf
       · exact ⟨by kernel_rfl, by kernel_rfl⟩
       · rfl)
    | (apply y_app rfl rfl
       · conv => lhs; whnf
       · first | exact elemStr | (conv => lhs; whnf; arg 1; whnf)
       · first | exact fun _ => rfl | (intro _; kernel_rfl)
       · conv => lhs; whnf
       · rfl
       · rfl
       · conv => lhs; whnf; arg 1; whnf
       · conv => lhs; whnf)
    | (apply y_lit0 rfl rfl
       · conv => lhs; whnf
       · first | exact elemStr | (conv => lhs; whnf; arg 1; whnf))
    | (apply y_lit1 rfl rfl
       · conv => lhs; whnf
       · first | exact elemStr | (conv => lhs; whnf; arg 1; whnf)
       · conv => lhs; whnf; arg 1; whnf
       · rfl
       · rfl)
    | (apply y_onlit rfl rfl
       · conv => lhs; whnf
       · first | exact elemStr | (conv => lhs; whnf; arg 1; whnf)
       · first | exact fun _ => rfl | (intro _; kernel_rfl)
       · conv => lhs; whnf
       · conv => lhs; whnf)
    | (apply y_wanted_val rfl
       · conv => lhs; whnf
       · conv => lhs; whnf
       · first | rfl | assumption
       · conv => lhs; whnf; arg 2; whnf)
    | (apply y_wanted_call rfl
       · conv => lhs; whnf
       · conv => lhs; whnf
       · first | rfl | assumption
       · conv => lhs; whnf
       · first | exact hI)
    | (apply y_skip rfl
       · conv => lhs; whnf
       · conv => lhs; whnf
       · first | rfl | assumption)
    | (apply y_guard_val rfl
       · conv => lhs; whnf
       · conv => lhs; whnf
       · conv => lhs; whnf; arg 2; whnf)
    | (apply y_guard_call rfl
       · conv => lhs; whnf
       · conv => lhs; whnf
       · conv => lhs; whnf
       · first | exact hI)
    | exact apartB_none
    | exact apartB_nil
    | exact all_nil
    | (show List.all _ _ = true; rfl)
    | (show apartB _ _ = true; rfl)
    | exact ([] : List Nat)
    | exact (1000000 : Nat)
    | (apply aw_cond_t
       · conv => lhs; whnf; arg 1; arg 1; whnf)
    | (apply aw_cond_f
       · conv => lhs; whnf; arg 1; arg 1; whnf)
    | (refine aw_cond (by conv => lhs; whnf) ?_ ?_ <;> intro hb)
    | refine aw_ret ?_
    | refine aw_exit ?_
    | refine k_seq_exit ?_
    | refine k_seq_ret ?_
    | refine k_block_ret ?_
    | refine k_block_hit rfl ?_
    | refine k_block_miss rfl ?_
    | refine k_scope_exit ?_
    | refine k_scope_ret ?_
    | refine k_loop_exit ?_
    | refine k_loop_ret ?_
    | refine k_end ?_
    | refine k_end_ret ?_
    | (refine ⟨_, by conv => lhs; whnf; arg 2; whnf, ?_⟩; conv => rhs; whnf)
    | exact trivial
    | intro hg)
  all_goals first
    | exact i64_ok (by omega)
    | rfl
    | (refine ⟨by omega, ?_⟩; first | (rw [gE_len]; omega) | (rw [oE_len]; omega) | (rw [sE_len]; omega) | (rw [pE_len]; omega))
    | ((simp only [ByteArray.size_append, bs_size, lit_size, List.size_toArray, List.length_append, List.length_cons, List.length_nil, maxLen, Nat.reduceAdd, Int.toNat_natCast]; omega); done)
    | skip
end Go.Proofs.YtdchiceeheiciaaGreatDoor
namespace Go.Proofs.YtdchiceeheiciaaGreatDoor
open Go.RowKit
set_option linter.unusedSectionVars false
attribute [local irreducible] wpList Calls Code.wp AW AWo OpOk seqK blockK scopeK loopK endK AC absLex Yld Sub
attribute [local irreducible] ACB ACX YldG
set_option maxHeartbeats 8000000 in
set_option maxRecDepth 100000 in
theorem codeP_7 (n : Int) (h0 : -9223372036854775808 ≤ n) (h1 : n ≤ 9223372036854775807) (h : 60 ≤ n ∧ n ≤ 66) : AC EN Tryz.prog 7 [.c (.int .i64 n)] (.c (.string (codeS n))) := by
  have e : codeS n = (gD pE (n - 60).toNat).s := by unfold codeS; rw [if_neg (by omega)]; rw [if_neg (by omega)]; rw [if_neg (by omega)]; rw [if_pos (by omega)]
  rw [e]
  have f0 : decide (n ≥ 0) = true := decide_eq_true (by omega)
  have m0 : decide (n ≥ 0) = false → False := fun h => by rw [f0] at h; cases h
  have k0 : (decide (n ≥ 0) == true) = false → False := fun h => by rw [f0] at h; cases h
  have f1 : decide (n < (gE.length : Nat)) = false := decide_eq_false (by rw [gE_len]; omega)
  have m1 : decide (n < (gE.length : Nat)) = true → False := fun h => by rw [f1] at h; cases h
  have f2 : decide (n ≥ 20) = true := decide_eq_true (by omega)
  have m2 : decide (n ≥ 20) = false → False := fun h => by rw [f2] at h; cases h
  have k2 : (decide (n ≥ 20) == true) = false → False := fun h => by rw [f2] at h; cases h
  have f3 : decide (n - 20 < (oE.length : Nat)) = false := decide_eq_false (by rw [oE_len]; omega)
  have m3 : decide (n - 20 < (oE.length : Nat)) = true → False := fun h => by rw [f3] at h; cases h
  have f4 : decide (n ≥ 40) = true := decide_eq_true (by omega)
  have m4 : decide (n ≥ 40) = false → False := fun h => by rw [f4] at h; cases h
  have k4 : (decide (n ≥ 40) == true) = false → False := fun h => by rw [f4] at h; cases h
  have f5 : decide (n - 40 < (sE.length : Nat)) = false := decide_eq_false (by rw [sE_len]; omega)
  have m5 : decide (n - 40 < (sE.length : Nat)) = true → False := fun h => by rw [f5] at h; cases h
  have f6 : decide (n ≥ 60) = true := decide_eq_true (by omega)
  have m6 : decide (n ≥ 60) = false → False := fun h => by rw [f6] at h; cases h
  have k6 : (decide (n ≥ 60) == true) = false → False := fun h => by rw [f6] at h; cases h
  have f7 : decide (n - 60 < (pE.length : Nat)) = true := decide_eq_true (by rw [pE_len]; omega)
  have m7 : decide (n - 60 < (pE.length : Nat)) = false → False := fun h => by rw [f7] at h; cases h
  refine ac_enter 74 Tryz.func7 rfl rfl rfl rfl ?_
  intro s w he
  repeat' (first
    | (apply s_lit gE rfl rfl
       · conv => lhs; whnf
       · first | exact elemStr | (conv => lhs; whnf; arg 1; whnf)
       · rfl
       · rfl
       · repeat' (first | exact trivial | apply And.intro | rfl))
    | (apply s_lit oE rfl rfl
       · conv => lhs; whnf
       · first | exact elemStr | (conv => lhs; whnf; arg 1; whnf)
       · rfl
       · rfl
       · repeat' (first | exact trivial | apply And.intro | rfl))
    | (apply s_lit sE rfl rfl
       · conv => lhs; whnf
       · first | exact elemStr | (conv => lhs; whnf; arg 1; whnf)
       · rfl
       · rfl
       · repeat' (first | exact trivial | apply And.intro | rfl))
    | (apply s_lit pE rfl rfl
       · conv => lhs; whnf
       · first | exact elemStr | (conv => lhs; whnf; arg 1; whnf)
       · rfl
       · rfl
       · repeat' (first | exact trivial | apply And.intro | rfl))
    | (apply s_wanted_pick_t rfl rfl rfl
       · conv => lhs; whnf
       · first | rfl | assumption
       · conv => lhs; whnf
       · first | exact bT1 (by assumption) | exact bT2 (by assumption) | rfl)
    | (apply s_wpick_t rfl rfl rfl
       · conv => lhs; whnf
       · first | rfl | assumption
       · conv => lhs; whnf
       · first | exact bT1 (by assumption) | exact bT2 (by assumption) | rfl)
    | (apply s_wanted_pick_f rfl rfl rfl
       · conv => lhs; whnf
       · first | rfl | assumption
       · conv => lhs; whnf
       · first | exact bF1 (by assumption) | exact bF2 (by assumption) | rfl)
    | (apply s_wpick_f rfl rfl rfl
       · conv => lhs; whnf
       · first | rfl | assumption
       · conv => lhs; whnf
       · first | exact bF1 (by assumption) | exact bF2 (by assumption) | rfl)
    | (apply aw_cond_kt
       · conv => lhs; whnf
       · assumption)
    | (apply aw_cond_kf
       · conv => lhs; whnf
       · assumption)
    | exact (m0 (by assumption)).elim
    | exact (k0 (by assumption)).elim
    | exact (m1 (by assumption)).elim
    | exact (m2 (by assumption)).elim
    | exact (k2 (by assumption)).elim
    | exact (m3 (by assumption)).elim
    | exact (m4 (by assumption)).elim
    | exact (k4 (by assumption)).elim
    | exact (m5 (by assumption)).elim
    | exact (m6 (by assumption)).elim
    | exact (k6 (by assumption)).elim
    | exact (m7 (by assumption)).elim
    | refine k_cut_ret ?_
    | refine k_cut_exit ?_
    | refine k_cut ?_
    | refine aw_region ?_
    | refine awo_nil ?_
    | refine k_seq ?_
    | refine k_block ?_
    | refine k_scope ?_
    | (apply aw_1
       conv => whnf
       refine ⟨?_, trivial⟩)
    | (apply s_pick_t rfl rfl
       · conv => lhs; whnf
       · conv => lhs; whnf
       · first | exact bT1 (by assumption) | exact bT2 (by assumption))
    | (apply s_pick_f rfl rfl
       · conv => lhs; whnf
       · conv => lhs; whnf
       · first | exact bF1 (by assumption) | exact bF2 (by assumption))
    | (apply s_1
       conv => whnf; arg 1; arg 4; arg 3; whnf
       refine ⟨?_, ?_⟩)
    | (apply s_val rfl
       · conv => lhs; whnf
       · conv => lhs; whnf; arg 2; whnf)
    | (apply s_call rfl
       · conv => lhs; whnf
       · conv => lhs; whnf
       · first | fail)
    | (apply s_box rfl rfl rfl rfl
       · conv => lhs; whnf; arg 1; whnf
       · rfl)
    | (apply s_alloc rfl rfl rfl rfl
       · conv => lhs; whnf; arg 1; whnf
       · rfl)
    | (apply s_store rfl rfl rfl
       · conv => lhs; whnf
       · conv => lhs; whnf; arg 1; whnf
       · conv => lhs; whnf; arg 1; whnf
       · exact ⟨by kernel_rfl, by kernel_rfl⟩
       · rfl)
    | (apply s_app rfl rfl
       · conv => lhs; whnf
       · first | exact elemStr | (conv => lhs; whnf; arg 1; whnf)
       · first | exact fun _ => rfl | (intro _; kernel_rfl)
       · conv => lhs; whnf
       · conv => lhs; whnf; arg 1; whnf
       · conv => lhs; whnf)
    | (apply s_app_nil rfl rfl rfl rfl
       · first | exact elemStr | (conv => lhs; whnf; arg 1; whnf)
       · first | exact fun _ => rfl | (intro _; kernel_rfl)
       · conv => lhs; whnf
       · conv => lhs; whnf)
    | (apply s_lit0 rfl rfl
       · conv => lhs; whnf
       · first | exact elemStr | (conv => lhs; whnf; arg 1; whnf))
    | (apply s_lit1 rfl rfl
       · conv => lhs; whnf
       · first | exact elemStr | (conv => lhs; whnf; arg 1; whnf)
       · conv => lhs; whnf; arg 1; whnf
       · rfl
       · rfl)
    | (apply s_onlit rfl rfl
       · conv => lhs; whnf
       · first | exact elemStr | (conv => lhs; whnf; arg 1; whnf)
       · first | exact fun _ => rfl | (intro _; kernel_rfl)
       · conv => lhs; whnf
       · conv => lhs; whnf)
    | (apply s_wanted_val rfl
       · conv => lhs; whnf
       · conv => lhs; whnf
       · first | rfl | assumption
       · conv => lhs; whnf; arg 2; whnf)
    | (apply s_wanted_call rfl
       · conv => lhs; whnf
       · conv => lhs; whnf
       · first | rfl | assumption
       · conv => lhs; whnf
       · first | fail)
    | (apply s_skipU rfl
       · conv => lhs; whnf
       · conv => lhs; whnf
       · first | rfl | assumption)
    | (apply s_dead rfl
       · conv => lhs; whnf
       · rfl
       · rfl)
    | (apply s_guard_valU rfl
       · conv => lhs; whnf
       · conv => lhs; whnf
       · conv => lhs; whnf; arg 2; whnf)
    | (apply s_guard_callU rfl
       · conv => lhs; whnf
       · conv => lhs; whnf
       · conv => lhs; whnf
       · first | fail)
    | (apply s_guard_val rfl
       · conv => lhs; whnf
       · conv => lhs; whnf
       · conv => lhs; whnf; arg 2; whnf)
    | (apply s_guard_call rfl
       · conv => lhs; whnf
       · conv => lhs; whnf
       · conv => lhs; whnf
       · first | fail)
    | (apply aw_draw (by kernel_rfl) (by kernel_rfl))
    | apply y_nil
    | (apply y_pick_t rfl rfl
       · conv => lhs; whnf
       · conv => lhs; whnf
       · first | exact bT1 (by assumption) | exact bT2 (by assumption))
    | (apply y_pick_f rfl rfl
       · conv => lhs; whnf
       · conv => lhs; whnf
       · first | exact bF1 (by assumption) | exact bF2 (by assumption))
    | (apply y_val rfl
       · conv => lhs; whnf
       · conv => lhs; whnf; arg 2; whnf)
    | (apply y_call rfl
       · conv => lhs; whnf
       · conv => lhs; whnf
       · first | fail)
    | (apply y_store rfl rfl rfl
       · conv => lhs; whnf
       · rfl
       · rfl
       · conv => lhs; whnf; arg 1; whnf
       · conv => lhs; whnf; arg 1; whnf
       · exact ⟨by kernel_rfl, by kernel_rfl⟩
       · rfl)
    | (apply y_app rfl rfl
       · conv => lhs; whnf
       · first | exact elemStr | (conv => lhs; whnf; arg 1; whnf)
       · first | exact fun _ => rfl | (intro _; kernel_rfl)
       · conv => lhs; whnf
       · rfl
       · rfl
       · conv => lhs; whnf; arg 1; whnf
       · conv => lhs; whnf)
    | (apply y_lit0 rfl rfl
       · conv => lhs; whnf
       · first | exact elemStr | (conv => lhs; whnf; arg 1; whnf))
    | (apply y_lit1 rfl rfl
       · conv => lhs; whnf
       · first | exact elemStr | (conv => lhs; whnf; arg 1; whnf)
       · conv => lhs; whnf; arg 1; whnf
       · rfl
       · rfl)
    | (apply y_onlit rfl rfl
       · conv => lhs; whnf
       · first | exact elemStr | (conv => lhs; whnf; arg 1; whnf)
       · first | exact fun _ => rfl | (intro _; kernel_rfl)
       · conv => lhs; whnf
       · conv => lhs; whnf)
    | (apply y_wanted_val rfl
       · conv => lhs; whnf
       · conv => lhs; whnf
       · first | rfl | assumption
       · conv => lhs; whnf; arg 2; whnf)
    | (apply y_wanted_call rfl
       · conv => lhs; whnf
       · conv => lhs; whnf
       · first | rfl | assumption
       · conv => lhs; whnf
       · first | fail)
    | (apply y_skip rfl
       · conv => lhs; whnf
       · conv => lhs; whnf
       · first | rfl | assumption)
    | (apply y_guard_val rfl
       · conv => lhs; whnf
       · conv => lhs; whnf
       · conv => lhs; whnf; arg 2; whnf)
    | (apply y_guard_call rfl
       · conv => lhs; whnf
       · conv => lhs; whnf
       · conv => lhs; whnf
       · first | fail)
    | exact apartB_none
    | exact apartB_nil
    | exact all_nil
    | (show List.all _ _ = true; rfl)
    | (show apartB _ _ = true; rfl)
    | exact ([] : List Nat)
    | exact (1000000 : Nat)
    | (apply aw_cond_t
       · conv => lhs; whnf; arg 1; arg 1; whnf)
    | (apply aw_cond_f
       · conv => lhs; whnf; arg 1; arg 1; whnf)
    | (refine aw_cond (by conv => lhs; whnf) ?_ ?_ <;> intro hb)
    | refine aw_ret ?_
    | refine aw_exit ?_
    | refine k_seq_exit ?_
    | refine k_seq_ret ?_
    | refine k_block_ret ?_
    | refine k_block_hit rfl ?_
    | refine k_block_miss rfl ?_
    | refine k_scope_exit ?_
    | refine k_scope_ret ?_
    | refine k_loop_exit ?_
    | refine k_loop_ret ?_
    | refine k_end ?_
    | refine k_end_ret ?_
    | (refine ⟨_, by conv => lhs; whnf; arg 2; whnf, ?_⟩; conv => rhs; whnf)
    | exact trivial
    | intro hg)
  all_goals first
    | exact i64_ok (by omega)
    | rfl
    | (refine ⟨by omega, ?_⟩; first | (rw [gE_len]; omega) | (rw [oE_len]; omega) | (rw [sE_len]; omega) | (rw [pE_len]; omega))
    | ((simp only [ByteArray.size_append, bs_size, lit_size, List.size_toArray, List.length_append, List.length_cons, List.length_nil, maxLen, Nat.reduceAdd, Int.toNat_natCast]; omega); done)
    | skip
set_option maxHeartbeats 8000000 in
set_option maxRecDepth 100000 in
theorem codeP_8 (n : Int) (h0 : -9223372036854775808 ≤ n) (h1 : n ≤ 9223372036854775807) (h : 67 ≤ n) : AC EN Tryz.prog 7 [.c (.int .i64 n)] (.c (.string (codeS n))) := by
  have hI := itoa_ac n h0 h1
  have hz := itoa_size n h0 h1
  have hs := @bs_size (Lib.itoa n)
  have e : codeS n = (⟨#[69, 114, 114, 110, 111]⟩ : ByteArray) ++ bs (Lib.itoa n) := by unfold codeS; rw [if_neg (by omega), if_neg (by omega), if_neg (by omega), if_neg (by omega)]
  rw [e]
  have f0 : decide (n ≥ 0) = true := decide_eq_true (by omega)
  have m0 : decide (n ≥ 0) = false → False := fun h => by rw [f0] at h; cases h
  have k0 : (decide (n ≥ 0) == true) = false → False := fun h => by rw [f0] at h; cases h
  have f1 : decide (n < (gE.length : Nat)) = false := decide_eq_false (by rw [gE_len]; omega)
  have m1 : decide (n < (gE.length : Nat)) = true → False := fun h => by rw [f1] at h; cases h
  have f2 : decide (n ≥ 20) = true := decide_eq_true (by omega)
  have m2 : decide (n ≥ 20) = false → False := fun h => by rw [f2] at h; cases h
  have k2 : (decide (n ≥ 20) == true) = false → False := fun h => by rw [f2] at h; cases h
  have f3 : decide (n - 20 < (oE.length : Nat)) = false := decide_eq_false (by rw [oE_len]; omega)
  have m3 : decide (n - 20 < (oE.length : Nat)) = true → False := fun h => by rw [f3] at h; cases h
  have f4 : decide (n ≥ 40) = true := decide_eq_true (by omega)
  have m4 : decide (n ≥ 40) = false → False := fun h => by rw [f4] at h; cases h
  have k4 : (decide (n ≥ 40) == true) = false → False := fun h => by rw [f4] at h; cases h
  have f5 : decide (n - 40 < (sE.length : Nat)) = false := decide_eq_false (by rw [sE_len]; omega)
  have m5 : decide (n - 40 < (sE.length : Nat)) = true → False := fun h => by rw [f5] at h; cases h
  have f6 : decide (n ≥ 60) = true := decide_eq_true (by omega)
  have m6 : decide (n ≥ 60) = false → False := fun h => by rw [f6] at h; cases h
  have k6 : (decide (n ≥ 60) == true) = false → False := fun h => by rw [f6] at h; cases h
  have f7 : decide (n - 60 < (pE.length : Nat)) = false := decide_eq_false (by rw [pE_len]; omega)
  have m7 : decide (n - 60 < (pE.length : Nat)) = true → False := fun h => by rw [f7] at h; cases h
  refine ac_enter 74 Tryz.func7 rfl rfl rfl rfl ?_
  intro s w he
  repeat' (first
    | (apply s_lit gE rfl rfl
       · conv => lhs; whnf
       · first | exact elemStr | (conv => lhs; whnf; arg 1; whnf)
       · rfl
       · rfl
       · repeat' (first | exact trivial | apply And.intro | rfl))
    | (apply s_lit oE rfl rfl
       · conv => lhs; whnf
       · first | exact elemStr | (conv => lhs; whnf; arg 1; whnf)
       · rfl
       · rfl
       · repeat' (first | exact trivial | apply And.intro | rfl))
    | (apply s_lit sE rfl rfl
       · conv => lhs; whnf
       · first | exact elemStr | (conv => lhs; whnf; arg 1; whnf)
       · rfl
       · rfl
       · repeat' (first | exact trivial | apply And.intro | rfl))
    | (apply s_lit pE rfl rfl
       · conv => lhs; whnf
       · first | exact elemStr | (conv => lhs; whnf; arg 1; whnf)
       · rfl
       · rfl
       · repeat' (first | exact trivial | apply And.intro | rfl))
    | (apply s_wanted_pick_t rfl rfl rfl
       · conv => lhs; whnf
       · first | rfl | assumption
       · conv => lhs; whnf
       · first | exact bT1 (by assumption) | exact bT2 (by assumption) | rfl)
    | (apply s_wpick_t rfl rfl rfl
       · conv => lhs; whnf
       · first | rfl | assumption
       · conv => lhs; whnf
       · first | exact bT1 (by assumption) | exact bT2 (by assumption) | rfl)
    | (apply s_wanted_pick_f rfl rfl rfl
       · conv => lhs; whnf
       · first | rfl | assumption
       · conv => lhs; whnf
       · first | exact bF1 (by assumption) | exact bF2 (by assumption) | rfl)
    | (apply s_wpick_f rfl rfl rfl
       · conv => lhs; whnf
       · first | rfl | assumption
       · conv => lhs; whnf
       · first | exact bF1 (by assumption) | exact bF2 (by assumption) | rfl)
    | (apply aw_cond_kt
       · conv => lhs; whnf
       · assumption)
    | (apply aw_cond_kf
       · conv => lhs; whnf
       · assumption)
    | exact (m0 (by assumption)).elim
    | exact (k0 (by assumption)).elim
    | exact (m1 (by assumption)).elim
    | exact (m2 (by assumption)).elim
    | exact (k2 (by assumption)).elim
    | exact (m3 (by assumption)).elim
    | exact (m4 (by assumption)).elim
    | exact (k4 (by assumption)).elim
    | exact (m5 (by assumption)).elim
    | exact (m6 (by assumption)).elim
    | exact (k6 (by assumption)).elim
    | exact (m7 (by assumption)).elim
    | refine k_cut_ret ?_
    | refine k_cut_exit ?_
    | refine k_cut ?_
    | refine aw_region ?_
    | refine awo_nil ?_
    | refine k_seq ?_
    | refine k_block ?_
    | refine k_scope ?_
    | (apply aw_1
       conv => whnf
       refine ⟨?_, trivial⟩)
    | (apply s_pick_t rfl rfl
       · conv => lhs; whnf
       · conv => lhs; whnf
       · first | exact bT1 (by assumption) | exact bT2 (by assumption))
    | (apply s_pick_f rfl rfl
       · conv => lhs; whnf
       · conv => lhs; whnf
       · first | exact bF1 (by assumption) | exact bF2 (by assumption))
    | (apply s_1
       conv => whnf; arg 1; arg 4; arg 3; whnf
       refine ⟨?_, ?_⟩)
    | (apply s_val rfl
       · conv => lhs; whnf
       · conv => lhs; whnf; arg 2; whnf)
    | (apply s_call rfl
       · conv => lhs; whnf
       · conv => lhs; whnf
       · first | exact hI)
    | (apply s_box rfl rfl rfl rfl
       · conv => lhs; whnf; arg 1; whnf
       · rfl)
    | (apply s_alloc rfl rfl rfl rfl
       · conv => lhs; whnf; arg 1; whnf
       · rfl)
    | (apply s_store rfl rfl rfl
       · conv => lhs; whnf
       · conv => lhs; whnf; arg 1; whnf
       · conv => lhs; whnf; arg 1; whnf
       · exact ⟨by kernel_rfl, by kernel_rfl⟩
       · rfl)
    | (apply s_app rfl rfl
       · conv => lhs; whnf
       · first | exact elemStr | (conv => lhs; whnf; arg 1; whnf)
       · first | exact fun _ => rfl | (intro _; kernel_rfl)
       · conv => lhs; whnf
       · conv => lhs; whnf; arg 1; whnf
       · conv => lhs; whnf)
    | (apply s_app_nil rfl rfl rfl rfl
       · first | exact elemStr | (conv => lhs; whnf; arg 1; whnf)
       · first | exact fun _ => rfl | (intro _; kernel_rfl)
       · conv => lhs; whnf
       · conv => lhs; whnf)
    | (apply s_lit0 rfl rfl
       · conv => lhs; whnf
       · first | exact elemStr | (conv => lhs; whnf; arg 1; whnf))
    | (apply s_lit1 rfl rfl
       · conv => lhs; whnf
       · first | exact elemStr | (conv => lhs; whnf; arg 1; whnf)
       · conv => lhs; whnf; arg 1; whnf
       · rfl
       · rfl)
    | (apply s_onlit rfl rfl
       · conv => lhs; whnf
       · first | exact elemStr | (conv => lhs; whnf; arg 1; whnf)
       · first | exact fun _ => rfl | (intro _; kernel_rfl)
       · conv => lhs; whnf
       · conv => lhs; whnf)
    | (apply s_wanted_val rfl
       · conv => lhs; whnf
       · conv => lhs; whnf
       · first | rfl | assumption
       · conv => lhs; whnf; arg 2; whnf)
    | (apply s_wanted_call rfl
       · conv => lhs; whnf
       · conv => lhs; whnf
       · first | rfl | assumption
       · conv => lhs; whnf
       · first | exact hI)
    | (apply s_skipU rfl
       · conv => lhs; whnf
       · conv => lhs; whnf
       · first | rfl | assumption)
    | (apply s_dead rfl
       · conv => lhs; whnf
       · rfl
       · rfl)
    | (apply s_guard_valU rfl
       · conv => lhs; whnf
       · conv => lhs; whnf
       · conv => lhs; whnf; arg 2; whnf)
    | (apply s_guard_callU rfl
       · conv => lhs; whnf
       · conv => lhs; whnf
       · conv => lhs; whnf
       · first | exact hI)
    | (apply s_guard_val rfl
       · conv => lhs; whnf
       · conv => lhs; whnf
       · conv => lhs; whnf; arg 2; whnf)
    | (apply s_guard_call rfl
       · conv => lhs; whnf
       · conv => lhs; whnf
       · conv => lhs; whnf
       · first | exact hI)
    | (apply aw_draw (by kernel_rfl) (by kernel_rfl))
    | apply y_nil
    | (apply y_pick_t rfl rfl
       · conv => lhs; whnf
       · conv => lhs; whnf
       · first | exact bT1 (by assumption) | exact bT2 (by assumption))
    | (apply y_pick_f rfl rfl
       · conv => lhs; whnf
       · conv => lhs; whnf
       · first | exact bF1 (by assumption) | exact bF2 (by assumption))
    | (apply y_val rfl
       · conv => lhs; whnf
       · conv => lhs; whnf; arg 2; whnf)
    | (apply y_call rfl
       · conv => lhs; whnf
       · conv => lhs; whnf
       · first | exact hI)
    | (apply y_store rfl rfl rfl
       · conv => lhs; whnf
       · rfl
       · rfl
       · conv => lhs; whnf; arg 1; whnf
       · conv => lhs; whnf; arg 1; whnf
       · exact ⟨by kernel_rfl, by kernel_rfl⟩
       · rfl)
    | (apply y_app rfl rfl
       · conv => lhs; whnf
       · first | exact elemStr | (conv => lhs; whnf; arg 1; whnf)
       · first | exact fun _ => rfl | (intro _; kernel_rfl)
       · conv => lhs; whnf
       · rfl
       · rfl
       · conv => lhs; whnf; arg 1; whnf
       · conv => lhs; whnf)
    | (apply y_lit0 rfl rfl
       · conv => lhs; whnf
       · first | exact elemStr | (conv => lhs; whnf; arg 1; whnf))
    | (apply y_lit1 rfl rfl
       · conv => lhs; whnf
       · first | exact elemStr | (conv => lhs; whnf; arg 1; whnf)
       · conv => lhs; whnf; arg 1; whnf
       · rfl
       · rfl)
    | (apply y_onlit rfl rfl
       · conv => lhs; whnf
       · first | exact elemStr | (conv => lhs; whnf; arg 1; whnf)
       · first | exact fun _ => rfl | (intro _; kernel_rfl)
       · conv => lhs; whnf
       · conv => lhs; whnf)
    | (apply y_wanted_val rfl
       · conv => lhs; whnf
       · conv => lhs; whnf
       · first | rfl | assumption
       · conv => lhs; whnf; arg 2; whnf)
    | (apply y_wanted_call rfl
       · conv => lhs; whnf
       · conv => lhs; whnf
       · first | rfl | assumption
       · conv => lhs; whnf
       · first | exact hI)
    | (apply y_skip rfl
       · conv => lhs; whnf
       · conv => lhs; whnf
       · first | rfl | assumption)
    | (apply y_guard_val rfl
       · conv => lhs; whnf
       · conv => lhs; whnf
       · conv => lhs; whnf; arg 2; whnf)
    | (apply y_guard_call rfl
       · conv => lhs; whnf
       · conv => lhs; whnf
       · conv => lhs; whnf
       · first | exact hI)
    | exact apartB_none
    | exact apartB_nil
    | exact all_nil
    | (show List.all _ _ = true; rfl)
    | (show apartB _ _ = true; rfl)
    | exact ([] : List Nat)
    | exact (1000000 : Nat)
    | (apply aw_cond_t
       · conv => lhs; whnf; arg 1; arg 1; whnf)
    | (apply aw_cond_f
       · conv => lhs; whnf; arg 1; arg 1; whnf)
    | (refine aw_cond (by conv => lhs; whnf) ?_ ?_ <;> intro hb)
    | refine aw_ret ?_
    | refine aw_exit ?_
    | refine k_seq_exit ?_
    | refine k_seq_ret ?_
    | refine k_block_ret ?_
    | refine k_block_hit rfl ?_
    | refine k_block_miss rfl ?_
    | refine k_scope_exit ?_
    | refine k_scope_ret ?_
    | refine k_loop_exit ?_
    | refine k_loop_ret ?_
    | refine k_end ?_
    | refine k_end_ret ?_
    | (refine ⟨_, by conv => lhs; whnf; arg 2; whnf, ?_⟩; conv => rhs; whnf)
    | exact trivial
    | intro hg)
  all_goals first
    | exact i64_ok (by omega)
    | rfl
    | (refine ⟨by omega, ?_⟩; first | (rw [gE_len]; omega) | (rw [oE_len]; omega) | (rw [sE_len]; omega) | (rw [pE_len]; omega))
    | ((simp only [ByteArray.size_append, bs_size, lit_size, List.size_toArray, List.length_append, List.length_cons, List.length_nil, maxLen, Nat.reduceAdd, Int.toNat_natCast]; omega); done)
    | skip
end Go.Proofs.YtdchiceeheiciaaGreatDoor
namespace Go.Proofs.YtdchiceeheiciaaGreatDoor
open Go.RowKit
set_option linter.unusedSectionVars false
attribute [local irreducible] wpList Calls Code.wp AW AWo OpOk seqK blockK scopeK loopK endK AC absLex Yld Sub
attribute [local irreducible] ACB ACX YldG
set_option maxHeartbeats 8000000 in
set_option maxRecDepth 100000 in
theorem codeP_ac (n : Int) (h0 : -9223372036854775808 ≤ n) (h1 : n ≤ 9223372036854775807) : AC EN Tryz.prog 7 [.c (.int .i64 n)] (.c (.string (codeS n))) := by
  have hr : (n ≤ -1) ∨ (0 ≤ n ∧ n ≤ 14) ∨ (15 ≤ n ∧ n ≤ 19) ∨ (20 ≤ n ∧ n ≤ 30) ∨ (31 ≤ n ∧ n ≤ 39) ∨ (40 ≤ n ∧ n ≤ 46) ∨ (47 ≤ n ∧ n ≤ 59) ∨ (60 ≤ n ∧ n ≤ 66) ∨ (67 ≤ n) := by omega
  rcases hr with h | h | h | h | h | h | h | h | h
  · exact codeP_0 n h0 h1 h
  · exact codeP_1 n h0 h1 h
  · exact codeP_2 n h0 h1 h
  · exact codeP_3 n h0 h1 h
  · exact codeP_4 n h0 h1 h
  · exact codeP_5 n h0 h1 h
  · exact codeP_6 n h0 h1 h
  · exact codeP_7 n h0 h1 h
  · exact codeP_8 n h0 h1 h
end Go.Proofs.YtdchiceeheiciaaGreatDoor
namespace Go.Proofs.YtdchiceeheiciaaGreatDoor
open Go.RowKit
set_option linter.unusedSectionVars false
attribute [local irreducible] wpList Calls Code.wp AW AWo OpOk seqK blockK scopeK loopK endK AC absLex Yld Sub
attribute [local irreducible] ACB ACX YldG
set_option maxHeartbeats 8000000 in
set_option maxRecDepth 100000 in
theorem codeR_ac (n : Int) (h0 : -9223372036854775808 ≤ n) (h1 : n ≤ 9223372036854775807) : AC EN Tryz.prog 8 [.c (.int .i64 n)] (.c (.string (codeS n))) := by
  have hI := decimalR_ac n h0 h1
  have hz := itoa_size n h0 h1
  have hs := @bs_size (Lib.itoa n)
  have hr : (n ≤ -1) ∨ (0 ≤ n ∧ n ≤ 14) ∨ (15 ≤ n ∧ n ≤ 19) ∨ (20 ≤ n ∧ n ≤ 30) ∨ (31 ≤ n ∧ n ≤ 39) ∨ (40 ≤ n ∧ n ≤ 46) ∨ (47 ≤ n ∧ n ≤ 59) ∨ (60 ≤ n ∧ n ≤ 66) ∨ (67 ≤ n) := by omega
  rcases hr with h | h | h | h | h | h | h | h | h
  · have e : codeS n = (⟨#[69, 114, 114, 110, 111]⟩ : ByteArray) ++ bs (Lib.itoa n) := by unfold codeS; rw [if_neg (by omega), if_neg (by omega), if_neg (by omega), if_neg (by omega)]
    rw [e]
    have f0 : decide (n ≥ 20) = false := decide_eq_false (by omega)
    have k0 : (decide (n ≥ 20) == true) = true → False := fun h => by rw [f0] at h; cases h
    have m0 : decide (n ≥ 20) = true → False := fun h => by rw [f0] at h; cases h
    have f1 : decide (n ≥ 20) = false := decide_eq_false (by omega)
    have k1 : (decide (n ≥ 20) == true) = true → False := fun h => by rw [f1] at h; cases h
    have m1 : decide (n ≥ 20) = true → False := fun h => by rw [f1] at h; cases h
    have f2 : decide (n ≥ 20) = false := decide_eq_false (by omega)
    have k2 : (decide (n ≥ 20) == true) = true → False := fun h => by rw [f2] at h; cases h
    have m2 : decide (n ≥ 20) = true → False := fun h => by rw [f2] at h; cases h
    have f3 : decide (n ≥ 0) = false := decide_eq_false (by omega)
    have k3 : (decide (n ≥ 0) == true) = true → False := fun h => by rw [f3] at h; cases h
    have m3 : decide (n ≥ 0) = true → False := fun h => by rw [f3] at h; cases h
    have f4 : decide (n < (gE.length : Nat)) = true := decide_eq_true (by rw [gE_len]; omega)
    have k4 : (decide (n < (gE.length : Nat)) == true) = false → False := fun h => by rw [f4] at h; cases h
    have m4 : decide (n < (gE.length : Nat)) = false → False := fun h => by rw [f4] at h; cases h
    refine ac_enter 37 Tryz.func8 rfl rfl rfl rfl ?_
    intro s w he
    repeat' (first
    | (apply s_lit gE rfl rfl
       · conv => lhs; whnf
       · first | exact elemStr | (conv => lhs; whnf; arg 1; whnf)
       · rfl
       · rfl
       · repeat' (first | exact trivial | apply And.intro | rfl))
    | (apply s_lit oE rfl rfl
       · conv => lhs; whnf
       · first | exact elemStr | (conv => lhs; whnf; arg 1; whnf)
       · rfl
       · rfl
       · repeat' (first | exact trivial | apply And.intro | rfl))
    | (apply s_lit sE rfl rfl
       · conv => lhs; whnf
       · first | exact elemStr | (conv => lhs; whnf; arg 1; whnf)
       · rfl
       · rfl
       · repeat' (first | exact trivial | apply And.intro | rfl))
    | (apply s_lit pE rfl rfl
       · conv => lhs; whnf
       · first | exact elemStr | (conv => lhs; whnf; arg 1; whnf)
       · rfl
       · rfl
       · repeat' (first | exact trivial | apply And.intro | rfl))
    | (apply s_wanted_pick_t rfl rfl rfl
       · conv => lhs; whnf
       · first | rfl | assumption
       · conv => lhs; whnf
       · first | exact bT1 (by assumption) | exact bT2 (by assumption) | rfl)
    | (apply s_wpick_t rfl rfl rfl
       · conv => lhs; whnf
       · first | rfl | assumption
       · conv => lhs; whnf
       · first | exact bT1 (by assumption) | exact bT2 (by assumption) | rfl)
    | (apply s_wanted_pick_f rfl rfl rfl
       · conv => lhs; whnf
       · first | rfl | assumption
       · conv => lhs; whnf
       · first | exact bF1 (by assumption) | exact bF2 (by assumption) | rfl)
    | (apply s_wpick_f rfl rfl rfl
       · conv => lhs; whnf
       · first | rfl | assumption
       · conv => lhs; whnf
       · first | exact bF1 (by assumption) | exact bF2 (by assumption) | rfl)
    | (apply aw_cond_kt
       · conv => lhs; whnf
       · assumption)
    | (apply aw_cond_kf
       · conv => lhs; whnf
       · assumption)
    | exact (k0 (by assumption)).elim
    | exact (m0 (by assumption)).elim
    | exact (k1 (by assumption)).elim
    | exact (m1 (by assumption)).elim
    | exact (k2 (by assumption)).elim
    | exact (m2 (by assumption)).elim
    | exact (k3 (by assumption)).elim
    | exact (m3 (by assumption)).elim
    | exact (k4 (by assumption)).elim
    | exact (m4 (by assumption)).elim
    | refine k_cut_ret ?_
    | refine k_cut_exit ?_
    | refine k_cut ?_
    | refine aw_region ?_
    | refine awo_nil ?_
    | refine k_seq ?_
    | refine k_block ?_
    | refine k_scope ?_
    | (apply aw_1
       conv => whnf
       refine ⟨?_, trivial⟩)
    | (apply s_pick_t rfl rfl
       · conv => lhs; whnf
       · conv => lhs; whnf
       · first | exact bT1 (by assumption) | exact bT2 (by assumption))
    | (apply s_pick_f rfl rfl
       · conv => lhs; whnf
       · conv => lhs; whnf
       · first | exact bF1 (by assumption) | exact bF2 (by assumption))
    | (apply s_1
       conv => whnf; arg 1; arg 4; arg 3; whnf
       refine ⟨?_, ?_⟩)
    | (apply s_val rfl
       · conv => lhs; whnf
       · conv => lhs; whnf; arg 2; whnf)
    | (apply s_call rfl
       · conv => lhs; whnf
       · conv => lhs; whnf
       · first | exact hI)
    | (apply s_box rfl rfl rfl rfl
       · conv => lhs; whnf; arg 1; whnf
       · rfl)
    | (apply s_alloc rfl rfl rfl rfl
       · conv => lhs; whnf; arg 1; whnf
       · rfl)
    | (apply s_store rfl rfl rfl
       · conv => lhs; whnf
       · conv => lhs; whnf; arg 1; whnf
       · conv => lhs; whnf; arg 1; whnf
       · exact ⟨by kernel_rfl, by kernel_rfl⟩
       · rfl)
    | (apply s_app rfl rfl
       · conv => lhs; whnf
       · first | exact elemStr | (conv => lhs; whnf; arg 1; whnf)
       · first | exact fun _ => rfl | (intro _; kernel_rfl)
       · conv => lhs; whnf
       · conv => lhs; whnf; arg 1; whnf
       · conv => lhs; whnf)
    | (apply s_app_nil rfl rfl rfl rfl
       · first | exact elemStr | (conv => lhs; whnf; arg 1; whnf)
       · first | exact fun _ => rfl | (intro _; kernel_rfl)
       · conv => lhs; whnf
       · conv => lhs; whnf)
    | (apply s_lit0 rfl rfl
       · conv => lhs; whnf
       · first | exact elemStr | (conv => lhs; whnf; arg 1; whnf))
    | (apply s_lit1 rfl rfl
       · conv => lhs; whnf
       · first | exact elemStr | (conv => lhs; whnf; arg 1; whnf)
       · conv => lhs; whnf; arg 1; whnf
       · rfl
       · rfl)
    | (apply s_onlit rfl rfl
       · conv => lhs; whnf
       · first | exact elemStr | (conv => lhs; whnf; arg 1; whnf)
       · first | exact fun _ => rfl | (intro _; kernel_rfl)
       · conv => lhs; whnf
       · conv => lhs; whnf)
    | (apply s_wanted_val rfl
       · conv => lhs; whnf
       · conv => lhs; whnf
       · first | rfl | assumption
       · conv => lhs; whnf; arg 2; whnf)
    | (apply s_wanted_call rfl
       · conv => lhs; whnf
       · conv => lhs; whnf
       · first | rfl | assumption
       · conv => lhs; whnf
       · first | exact hI)
    | (apply s_skipU rfl
       · conv => lhs; whnf
       · conv => lhs; whnf
       · first | rfl | assumption)
    | (apply s_dead rfl
       · conv => lhs; whnf
       · rfl
       · rfl)
    | (apply s_guard_valU rfl
       · conv => lhs; whnf
       · conv => lhs; whnf
       · conv => lhs; whnf; arg 2; whnf)
    | (apply s_guard_callU rfl
       · conv => lhs; whnf
       · conv => lhs; whnf
       · conv => lhs; whnf
       · first | exact hI)
    | (apply s_guard_val rfl
       · conv => lhs; whnf
       · conv => lhs; whnf
       · conv => lhs; whnf; arg 2; whnf)
    | (apply s_guard_call rfl
       · conv => lhs; whnf
       · conv => lhs; whnf
       · conv => lhs; whnf
       · first | exact hI)
    | (apply aw_draw (by kernel_rfl) (by kernel_rfl))
    | apply y_nil
    | (apply y_pick_t rfl rfl
       · conv => lhs; whnf
       · conv => lhs; whnf
       · first | exact bT1 (by assumption) | exact bT2 (by assumption))
    | (apply y_pick_f rfl rfl
       · conv => lhs; whnf
       · conv => lhs; whnf
       · first | exact bF1 (by assumption) | exact bF2 (by assumption))
    | (apply y_val rfl
       · conv => lhs; whnf
       · conv => lhs; whnf; arg 2; whnf)
    | (apply y_call rfl
       · conv => lhs; whnf
       · conv => lhs; whnf
       · first | exact hI)
    | (apply y_store rfl rfl rfl
       · conv => lhs; whnf
       · rfl
       · rfl
       · conv => lhs; whnf; arg 1; whnf
       · conv => lhs; whnf; arg 1; whnf
       · exact ⟨by kernel_rfl, by kernel_rfl⟩
       · rfl)
    | (apply y_app rfl rfl
       · conv => lhs; whnf
       · first | exact elemStr | (conv => lhs; whnf; arg 1; whnf)
       · first | exact fun _ => rfl | (intro _; kernel_rfl)
       · conv => lhs; whnf
       · rfl
       · rfl
       · conv => lhs; whnf; arg 1; whnf
       · conv => lhs; whnf)
    | (apply y_lit0 rfl rfl
       · conv => lhs; whnf
       · first | exact elemStr | (conv => lhs; whnf; arg 1; whnf))
    | (apply y_lit1 rfl rfl
       · conv => lhs; whnf
       · first | exact elemStr | (conv => lhs; whnf; arg 1; whnf)
       · conv => lhs; whnf; arg 1; whnf
       · rfl
       · rfl)
    | (apply y_onlit rfl rfl
       · conv => lhs; whnf
       · first | exact elemStr | (conv => lhs; whnf; arg 1; whnf)
       · first | exact fun _ => rfl | (intro _; kernel_rfl)
       · conv => lhs; whnf
       · conv => lhs; whnf)
    | (apply y_wanted_val rfl
       · conv => lhs; whnf
       · conv => lhs; whnf
       · first | rfl | assumption
       · conv => lhs; whnf; arg 2; whnf)
    | (apply y_wanted_call rfl
       · conv => lhs; whnf
       · conv => lhs; whnf
       · first | rfl | assumption
       · conv => lhs; whnf
       · first | exact hI)
    | (apply y_skip rfl
       · conv => lhs; whnf
       · conv => lhs; whnf
       · first | rfl | assumption)
    | (apply y_guard_val rfl
       · conv => lhs; whnf
       · conv => lhs; whnf
       · conv => lhs; whnf; arg 2; whnf)
    | (apply y_guard_call rfl
       · conv => lhs; whnf
       · conv => lhs; whnf
       · conv => lhs; whnf
       · first | exact hI)
    | exact apartB_none
    | exact apartB_nil
    | exact all_nil
    | (show List.all _ _ = true; rfl)
    | (show apartB _ _ = true; rfl)
    | exact ([] : List Nat)
    | exact (1000000 : Nat)
    | (apply aw_cond_t
       · conv => lhs; whnf; arg 1; arg 1; whnf)
    | (apply aw_cond_f
       · conv => lhs; whnf; arg 1; arg 1; whnf)
    | (refine aw_cond (by conv => lhs; whnf) ?_ ?_ <;> intro hb)
    | refine aw_ret ?_
    | refine aw_exit ?_
    | refine k_seq_exit ?_
    | refine k_seq_ret ?_
    | refine k_block_ret ?_
    | refine k_block_hit rfl ?_
    | refine k_block_miss rfl ?_
    | refine k_scope_exit ?_
    | refine k_scope_ret ?_
    | refine k_loop_exit ?_
    | refine k_loop_ret ?_
    | refine k_end ?_
    | refine k_end_ret ?_
    | (refine ⟨_, by conv => lhs; whnf; arg 2; whnf, ?_⟩; conv => rhs; whnf)
    | exact trivial
    | intro hg)
    all_goals first
      | exact i64_ok (by omega)
      | rfl
      | (rw [gE_len]; exact ⟨by omega, by omega⟩)
      | (rw [oE_len]; exact ⟨by omega, by omega⟩)
      | (rw [sE_len]; exact ⟨by omega, by omega⟩)
      | (rw [pE_len]; exact ⟨by omega, by omega⟩)
      | (refine ⟨by omega, ?_⟩; first | (rw [gE_len]; omega) | (rw [oE_len]; omega) | (rw [sE_len]; omega) | (rw [pE_len]; omega))
      | ((simp only [ByteArray.size_append, bs_size, lit_size, List.size_toArray, List.length_append, List.length_cons, List.length_nil, maxLen, Nat.reduceAdd, Int.toNat_natCast]; omega); done)
      | skip
  · have e : codeS n = (gD gE n.toNat).s := by unfold codeS; rw [if_pos (by omega)]
    rw [e]
    have f0 : decide (n ≥ 20) = false := decide_eq_false (by omega)
    have k0 : (decide (n ≥ 20) == true) = true → False := fun h => by rw [f0] at h; cases h
    have m0 : decide (n ≥ 20) = true → False := fun h => by rw [f0] at h; cases h
    have f1 : decide (n ≥ 20) = false := decide_eq_false (by omega)
    have k1 : (decide (n ≥ 20) == true) = true → False := fun h => by rw [f1] at h; cases h
    have m1 : decide (n ≥ 20) = true → False := fun h => by rw [f1] at h; cases h
    have f2 : decide (n ≥ 20) = false := decide_eq_false (by omega)
    have k2 : (decide (n ≥ 20) == true) = true → False := fun h => by rw [f2] at h; cases h
    have m2 : decide (n ≥ 20) = true → False := fun h => by rw [f2] at h; cases h
    have f3 : decide (n ≥ 0) = true := decide_eq_true (by omega)
    have k3 : (decide (n ≥ 0) == true) = false → False := fun h => by rw [f3] at h; cases h
    have m3 : decide (n ≥ 0) = false → False := fun h => by rw [f3] at h; cases h
    have f4 : decide (n < (gE.length : Nat)) = true := decide_eq_true (by rw [gE_len]; omega)
    have k4 : (decide (n < (gE.length : Nat)) == true) = false → False := fun h => by rw [f4] at h; cases h
    have m4 : decide (n < (gE.length : Nat)) = false → False := fun h => by rw [f4] at h; cases h
    refine ac_enter 37 Tryz.func8 rfl rfl rfl rfl ?_
    intro s w he
    repeat' (first
    | (apply s_lit gE rfl rfl
       · conv => lhs; whnf
       · first | exact elemStr | (conv => lhs; whnf; arg 1; whnf)
       · rfl
       · rfl
       · repeat' (first | exact trivial | apply And.intro | rfl))
    | (apply s_lit oE rfl rfl
       · conv => lhs; whnf
       · first | exact elemStr | (conv => lhs; whnf; arg 1; whnf)
       · rfl
       · rfl
       · repeat' (first | exact trivial | apply And.intro | rfl))
    | (apply s_lit sE rfl rfl
       · conv => lhs; whnf
       · first | exact elemStr | (conv => lhs; whnf; arg 1; whnf)
       · rfl
       · rfl
       · repeat' (first | exact trivial | apply And.intro | rfl))
    | (apply s_lit pE rfl rfl
       · conv => lhs; whnf
       · first | exact elemStr | (conv => lhs; whnf; arg 1; whnf)
       · rfl
       · rfl
       · repeat' (first | exact trivial | apply And.intro | rfl))
    | (apply s_wanted_pick_t rfl rfl rfl
       · conv => lhs; whnf
       · first | rfl | assumption
       · conv => lhs; whnf
       · first | exact bT1 (by assumption) | exact bT2 (by assumption) | rfl)
    | (apply s_wpick_t rfl rfl rfl
       · conv => lhs; whnf
       · first | rfl | assumption
       · conv => lhs; whnf
       · first | exact bT1 (by assumption) | exact bT2 (by assumption) | rfl)
    | (apply s_wanted_pick_f rfl rfl rfl
       · conv => lhs; whnf
       · first | rfl | assumption
       · conv => lhs; whnf
       · first | exact bF1 (by assumption) | exact bF2 (by assumption) | rfl)
    | (apply s_wpick_f rfl rfl rfl
       · conv => lhs; whnf
       · first | rfl | assumption
       · conv => lhs; whnf
       · first | exact bF1 (by assumption) | exact bF2 (by assumption) | rfl)
    | (apply aw_cond_kt
       · conv => lhs; whnf
       · assumption)
    | (apply aw_cond_kf
       · conv => lhs; whnf
       · assumption)
    | exact (k0 (by assumption)).elim
    | exact (m0 (by assumption)).elim
    | exact (k1 (by assumption)).elim
    | exact (m1 (by assumption)).elim
    | exact (k2 (by assumption)).elim
    | exact (m2 (by assumption)).elim
    | exact (k3 (by assumption)).elim
    | exact (m3 (by assumption)).elim
    | exact (k4 (by assumption)).elim
    | exact (m4 (by assumption)).elim
    | refine k_cut_ret ?_
    | refine k_cut_exit ?_
    | refine k_cut ?_
    | refine aw_region ?_
    | refine awo_nil ?_
    | refine k_seq ?_
    | refine k_block ?_
    | refine k_scope ?_
    | (apply aw_1
       conv => whnf
       refine ⟨?_, trivial⟩)
    | (apply s_pick_t rfl rfl
       · conv => lhs; whnf
       · conv => lhs; whnf
       · first | exact bT1 (by assumption) | exact bT2 (by assumption))
    | (apply s_pick_f rfl rfl
       · conv => lhs; whnf
       · conv => lhs; whnf
       · first | exact bF1 (by assumption) | exact bF2 (by assumption))
    | (apply s_1
       conv => whnf; arg 1; arg 4; arg 3; whnf
       refine ⟨?_, ?_⟩)
    | (apply s_val rfl
       · conv => lhs; whnf
       · conv => lhs; whnf; arg 2; whnf)
    | (apply s_call rfl
       · conv => lhs; whnf
       · conv => lhs; whnf
       · first | exact hI)
    | (apply s_box rfl rfl rfl rfl
       · conv => lhs; whnf; arg 1; whnf
       · rfl)
    | (apply s_alloc rfl rfl rfl rfl
       · conv => lhs; whnf; arg 1; whnf
       · rfl)
    | (apply s_store rfl rfl rfl
       · conv => lhs; whnf
       · conv => lhs; whnf; arg 1; whnf
       · conv => lhs; whnf; arg 1; whnf
       · exact ⟨by kernel_rfl, by kernel_rfl⟩
       · rfl)
    | (apply s_app rfl rfl
       · conv => lhs; whnf
       · first | exact elemStr | (conv => lhs; whnf; arg 1; whnf)
       · first | exact fun _ => rfl | (intro _; kernel_rfl)
       · conv => lhs; whnf
       · conv => lhs; whnf; arg 1; whnf
       · conv => lhs; whnf)
    | (apply s_app_nil rfl rfl rfl rfl
       · first | exact elemStr | (conv => lhs; whnf; arg 1; whnf)
       · first | exact fun _ => rfl | (intro _; kernel_rfl)
       · conv => lhs; whnf
       · conv => lhs; whnf)
    | (apply s_lit0 rfl rfl
       · conv => lhs; whnf
       · first | exact elemStr | (conv => lhs; whnf; arg 1; whnf))
    | (apply s_lit1 rfl rfl
       · conv => lhs; whnf
       · first | exact elemStr | (conv => lhs; whnf; arg 1; whnf)
       · conv => lhs; whnf; arg 1; whnf
       · rfl
       · rfl)
    | (apply s_onlit rfl rfl
       · conv => lhs; whnf
       · first | exact elemStr | (conv => lhs; whnf; arg 1; whnf)
       · first | exact fun _ => rfl | (intro _; kernel_rfl)
       · conv => lhs; whnf
       · conv => lhs; whnf)
    | (apply s_wanted_val rfl
       · conv => lhs; whnf
       · conv => lhs; whnf
       · first | rfl | assumption
       · conv => lhs; whnf; arg 2; whnf)
    | (apply s_wanted_call rfl
       · conv => lhs; whnf
       · conv => lhs; whnf
       · first | rfl | assumption
       · conv => lhs; whnf
       · first | exact hI)
    | (apply s_skipU rfl
       · conv => lhs; whnf
       · conv => lhs; whnf
       · first | rfl | assumption)
    | (apply s_dead rfl
       · conv => lhs; whnf
       · rfl
       · rfl)
    | (apply s_guard_valU rfl
       · conv => lhs; whnf
       · conv => lhs; whnf
       · conv => lhs; whnf; arg 2; whnf)
    | (apply s_guard_callU rfl
       · conv => lhs; whnf
       · conv => lhs; whnf
       · conv => lhs; whnf
       · first | exact hI)
    | (apply s_guard_val rfl
       · conv => lhs; whnf
       · conv => lhs; whnf
       · conv => lhs; whnf; arg 2; whnf)
    | (apply s_guard_call rfl
       · conv => lhs; whnf
       · conv => lhs; whnf
       · conv => lhs; whnf
       · first | exact hI)
    | (apply aw_draw (by kernel_rfl) (by kernel_rfl))
    | apply y_nil
    | (apply y_pick_t rfl rfl
       · conv => lhs; whnf
       · conv => lhs; whnf
       · first | exact bT1 (by assumption) | exact bT2 (by assumption))
    | (apply y_pick_f rfl rfl
       · conv => lhs; whnf
       · conv => lhs; whnf
       · first | exact bF1 (by assumption) | exact bF2 (by assumption))
    | (apply y_val rfl
       · conv => lhs; whnf
       · conv => lhs; whnf; arg 2; whnf)
    | (apply y_call rfl
       · conv => lhs; whnf
       · conv => lhs; whnf
       · first | exact hI)
    | (apply y_store rfl rfl rfl
       · conv => lhs; whnf
       · rfl
       · rfl
       · conv => lhs; whnf; arg 1; whnf
       · conv => lhs; whnf; arg 1; whnf
       · exact ⟨by kernel_rfl, by kernel_rfl⟩
       · rfl)
    | (apply y_app rfl rfl
       · conv => lhs; whnf
       · first | exact elemStr | (conv => lhs; whnf; arg 1; whnf)
       · first | exact fun _ => rfl | (intro _; kernel_rfl)
       · conv => lhs; whnf
       · rfl
       · rfl
       · conv => lhs; whnf; arg 1; whnf
       · conv => lhs; whnf)
    | (apply y_lit0 rfl rfl
       · conv => lhs; whnf
       · first | exact elemStr | (conv => lhs; whnf; arg 1; whnf))
    | (apply y_lit1 rfl rfl
       · conv => lhs; whnf
       · first | exact elemStr | (conv => lhs; whnf; arg 1; whnf)
       · conv => lhs; whnf; arg 1; whnf
       · rfl
       · rfl)
    | (apply y_onlit rfl rfl
       · conv => lhs; whnf
       · first | exact elemStr | (conv => lhs; whnf; arg 1; whnf)
       · first | exact fun _ => rfl | (intro _; kernel_rfl)
       · conv => lhs; whnf
       · conv => lhs; whnf)
    | (apply y_wanted_val rfl
       · conv => lhs; whnf
       · conv => lhs; whnf
       · first | rfl | assumption
       · conv => lhs; whnf; arg 2; whnf)
    | (apply y_wanted_call rfl
       · conv => lhs; whnf
       · conv => lhs; whnf
       · first | rfl | assumption
       · conv => lhs; whnf
       · first | exact hI)
    | (apply y_skip rfl
       · conv => lhs; whnf
       · conv => lhs; whnf
       · first | rfl | assumption)
    | (apply y_guard_val rfl
       · conv => lhs; whnf
       · conv => lhs; whnf
       · conv => lhs; whnf; arg 2; whnf)
    | (apply y_guard_call rfl
       · conv => lhs; whnf
       · conv => lhs; whnf
       · conv => lhs; whnf
       · first | exact hI)
    | exact apartB_none
    | exact apartB_nil
    | exact all_nil
    | (show List.all _ _ = true; rfl)
    | (show apartB _ _ = true; rfl)
    | exact ([] : List Nat)
    | exact (1000000 : Nat)
    | (apply aw_cond_t
       · conv => lhs; whnf; arg 1; arg 1; whnf)
    | (apply aw_cond_f
       · conv => lhs; whnf; arg 1; arg 1; whnf)
    | (refine aw_cond (by conv => lhs; whnf) ?_ ?_ <;> intro hb)
    | refine aw_ret ?_
    | refine aw_exit ?_
    | refine k_seq_exit ?_
    | refine k_seq_ret ?_
    | refine k_block_ret ?_
    | refine k_block_hit rfl ?_
    | refine k_block_miss rfl ?_
    | refine k_scope_exit ?_
    | refine k_scope_ret ?_
    | refine k_loop_exit ?_
    | refine k_loop_ret ?_
    | refine k_end ?_
    | refine k_end_ret ?_
    | (refine ⟨_, by conv => lhs; whnf; arg 2; whnf, ?_⟩; conv => rhs; whnf)
    | exact trivial
    | intro hg)
    all_goals first
      | exact i64_ok (by omega)
      | rfl
      | (rw [gE_len]; exact ⟨by omega, by omega⟩)
      | (rw [oE_len]; exact ⟨by omega, by omega⟩)
      | (rw [sE_len]; exact ⟨by omega, by omega⟩)
      | (rw [pE_len]; exact ⟨by omega, by omega⟩)
      | (refine ⟨by omega, ?_⟩; first | (rw [gE_len]; omega) | (rw [oE_len]; omega) | (rw [sE_len]; omega) | (rw [pE_len]; omega))
      | ((simp only [ByteArray.size_append, bs_size, lit_size, List.size_toArray, List.length_append, List.length_cons, List.length_nil, maxLen, Nat.reduceAdd, Int.toNat_natCast]; omega); done)
      | skip
  · have e : codeS n = (⟨#[69, 114, 114, 110, 111]⟩ : ByteArray) ++ bs (Lib.itoa n) := by unfold codeS; rw [if_neg (by omega), if_neg (by omega), if_neg (by omega), if_neg (by omega)]
    rw [e]
    have f0 : decide (n ≥ 20) = false := decide_eq_false (by omega)
    have k0 : (decide (n ≥ 20) == true) = true → False := fun h => by rw [f0] at h; cases h
    have m0 : decide (n ≥ 20) = true → False := fun h => by rw [f0] at h; cases h
    have f1 : decide (n ≥ 20) = false := decide_eq_false (by omega)
    have k1 : (decide (n ≥ 20) == true) = true → False := fun h => by rw [f1] at h; cases h
    have m1 : decide (n ≥ 20) = true → False := fun h => by rw [f1] at h; cases h
    have f2 : decide (n ≥ 20) = false := decide_eq_false (by omega)
    have k2 : (decide (n ≥ 20) == true) = true → False := fun h => by rw [f2] at h; cases h
    have m2 : decide (n ≥ 20) = true → False := fun h => by rw [f2] at h; cases h
    have f3 : decide (n ≥ 0) = true := decide_eq_true (by omega)
    have k3 : (decide (n ≥ 0) == true) = false → False := fun h => by rw [f3] at h; cases h
    have m3 : decide (n ≥ 0) = false → False := fun h => by rw [f3] at h; cases h
    have f4 : decide (n < (gE.length : Nat)) = false := decide_eq_false (by rw [gE_len]; omega)
    have k4 : (decide (n < (gE.length : Nat)) == true) = true → False := fun h => by rw [f4] at h; cases h
    have m4 : decide (n < (gE.length : Nat)) = true → False := fun h => by rw [f4] at h; cases h
    refine ac_enter 37 Tryz.func8 rfl rfl rfl rfl ?_
    intro s w he
    repeat' (first
    | (apply s_lit gE rfl rfl
       · conv => lhs; whnf
       · first | exact elemStr | (conv => lhs; whnf; arg 1; whnf)
       · rfl
       · rfl
       · repeat' (first | exact trivial | apply And.intro | rfl))
    | (apply s_lit oE rfl rfl
       · conv => lhs; whnf
       · first | exact elemStr | (conv => lhs; whnf; arg 1; whnf)
       · rfl
       · rfl
       · repeat' (first | exact trivial | apply And.intro | rfl))
    | (apply s_lit sE rfl rfl
       · conv => lhs; whnf
       · first | exact elemStr | (conv => lhs; whnf; arg 1; whnf)
       · rfl
       · rfl
       · repeat' (first | exact trivial | apply And.intro | rfl))
    | (apply s_lit pE rfl rfl
       · conv => lhs; whnf
       · first | exact elemStr | (conv => lhs; whnf; arg 1; whnf)
       · rfl
       · rfl
       · repeat' (first | exact trivial | apply And.intro | rfl))
    | (apply s_wanted_pick_t rfl rfl rfl
       · conv => lhs; whnf
       · first | rfl | assumption
       · conv => lhs; whnf
       · first | exact bT1 (by assumption) | exact bT2 (by assumption) | rfl)
    | (apply s_wpick_t rfl rfl rfl
       · conv => lhs; whnf
       · first | rfl | assumption
       · conv => lhs; whnf
       · first | exact bT1 (by assumption) | exact bT2 (by assumption) | rfl)
    | (apply s_wanted_pick_f rfl rfl rfl
       · conv => lhs; whnf
       · first | rfl | assumption
       · conv => lhs; whnf
       · first | exact bF1 (by assumption) | exact bF2 (by assumption) | rfl)
    | (apply s_wpick_f rfl rfl rfl
       · conv => lhs; whnf
       · first | rfl | assumption
       · conv => lhs; whnf
       · first | exact bF1 (by assumption) | exact bF2 (by assumption) | rfl)
    | (apply aw_cond_kt
       · conv => lhs; whnf
       · assumption)
    | (apply aw_cond_kf
       · conv => lhs; whnf
       · assumption)
    | exact (k0 (by assumption)).elim
    | exact (m0 (by assumption)).elim
    | exact (k1 (by assumption)).elim
    | exact (m1 (by assumption)).elim
    | exact (k2 (by assumption)).elim
    | exact (m2 (by assumption)).elim
    | exact (k3 (by assumption)).elim
    | exact (m3 (by assumption)).elim
    | exact (k4 (by assumption)).elim
    | exact (m4 (by assumption)).elim
    | refine k_cut_ret ?_
    | refine k_cut_exit ?_
    | refine k_cut ?_
    | refine aw_region ?_
    | refine awo_nil ?_
    | refine k_seq ?_
    | refine k_block ?_
    | refine k_scope ?_
    | (apply aw_1
       conv => whnf
       refine ⟨?_, trivial⟩)
    | (apply s_pick_t rfl rfl
       · conv => lhs; whnf
       · conv => lhs; whnf
       · first | exact bT1 (by assumption) | exact bT2 (by assumption))
    | (apply s_pick_f rfl rfl
       · conv => lhs; whnf
       · conv => lhs; whnf
       · first | exact bF1 (by assumption) | exact bF2 (by assumption))
    | (apply s_1
       conv => whnf; arg 1; arg 4; arg 3; whnf
       refine ⟨?_, ?_⟩)
    | (apply s_val rfl
       · conv => lhs; whnf
       · conv => lhs; whnf; arg 2; whnf)
    | (apply s_call rfl
       · conv => lhs; whnf
       · conv => lhs; whnf
       · first | exact hI)
    | (apply s_box rfl rfl rfl rfl
       · conv => lhs; whnf; arg 1; whnf
       · rfl)
    | (apply s_alloc rfl rfl rfl rfl
       · conv => lhs; whnf; arg 1; whnf
       · rfl)
    | (apply s_store rfl rfl rfl
       · conv => lhs; whnf
       · conv => lhs; whnf; arg 1; whnf
       · conv => lhs; whnf; arg 1; whnf
       · exact ⟨by kernel_rfl, by kernel_rfl⟩
       · rfl)
    | (apply s_app rfl rfl
       · conv => lhs; whnf
       · first | exact elemStr | (conv => lhs; whnf; arg 1; whnf)
       · first | exact fun _ => rfl | (intro _; kernel_rfl)
       · conv => lhs; whnf
       · conv => lhs; whnf; arg 1; whnf
       · conv => lhs; whnf)
    | (apply s_app_nil rfl rfl rfl rfl
       · first | exact elemStr | (conv => lhs; whnf; arg 1; whnf)
       · first | exact fun _ => rfl | (intro _; kernel_rfl)
       · conv => lhs; whnf
       · conv => lhs; whnf)
    | (apply s_lit0 rfl rfl
       · conv => lhs; whnf
       · first | exact elemStr | (conv => lhs; whnf; arg 1; whnf))
    | (apply s_lit1 rfl rfl
       · conv => lhs; whnf
       · first | exact elemStr | (conv => lhs; whnf; arg 1; whnf)
       · conv => lhs; whnf; arg 1; whnf
       · rfl
       · rfl)
    | (apply s_onlit rfl rfl
       · conv => lhs; whnf
       · first | exact elemStr | (conv => lhs; whnf; arg 1; whnf)
       · first | exact fun _ => rfl | (intro _; kernel_rfl)
       · conv => lhs; whnf
       · conv => lhs; whnf)
    | (apply s_wanted_val rfl
       · conv => lhs; whnf
       · conv => lhs; whnf
       · first | rfl | assumption
       · conv => lhs; whnf; arg 2; whnf)
    | (apply s_wanted_call rfl
       · conv => lhs; whnf
       · conv => lhs; whnf
       · first | rfl | assumption
       · conv => lhs; whnf
       · first | exact hI)
    | (apply s_skipU rfl
       · conv => lhs; whnf
       · conv => lhs; whnf
       · first | rfl | assumption)
    | (apply s_dead rfl
       · conv => lhs; whnf
       · rfl
       · rfl)
    | (apply s_guard_valU rfl
       · conv => lhs; whnf
       · conv => lhs; whnf
       · conv => lhs; whnf; arg 2; whnf)
    | (apply s_guard_callU rfl
       · conv => lhs; whnf
       · conv => lhs; whnf
       · conv => lhs; whnf
       · first | exact hI)
    | (apply s_guard_val rfl
       · conv => lhs; whnf
       · conv => lhs; whnf
       · conv => lhs; whnf; arg 2; whnf)
    | (apply s_guard_call rfl
       · conv => lhs; whnf
       · conv => lhs; whnf
       · conv => lhs; whnf
       · first | exact hI)
    | (apply aw_draw (by kernel_rfl) (by kernel_rfl))
    | apply y_nil
    | (apply y_pick_t rfl rfl
       · conv => lhs; whnf
       · conv => lhs; whnf
       · first | exact bT1 (by assumption) | exact bT2 (by assumption))
    | (apply y_pick_f rfl rfl
       · conv => lhs; whnf
       · conv => lhs; whnf
       · first | exact bF1 (by assumption) | exact bF2 (by assumption))
    | (apply y_val rfl
       · conv => lhs; whnf
       · conv => lhs; whnf; arg 2; whnf)
    | (apply y_call rfl
       · conv => lhs; whnf
       · conv => lhs; whnf
       · first | exact hI)
    | (apply y_store rfl rfl rfl
       · conv => lhs; whnf
       · rfl
       · rfl
       · conv => lhs; whnf; arg 1; whnf
       · conv => lhs; whnf; arg 1; whnf
       · exact ⟨by kernel_rfl, by kernel_rfl⟩
       · rfl)
    | (apply y_app rfl rfl
       · conv => lhs; whnf
       · first | exact elemStr | (conv => lhs; whnf; arg 1; whnf)
       · first | exact fun _ => rfl | (intro _; kernel_rfl)
       · conv => lhs; whnf
       · rfl
       · rfl
       · conv => lhs; whnf; arg 1; whnf
       · conv => lhs; whnf)
    | (apply y_lit0 rfl rfl
       · conv => lhs; whnf
       · first | exact elemStr | (conv => lhs; whnf; arg 1; whnf))
    | (apply y_lit1 rfl rfl
       · conv => lhs; whnf
       · first | exact elemStr | (conv => lhs; whnf; arg 1; whnf)
       · conv => lhs; whnf; arg 1; whnf
       · rfl
       · rfl)
    | (apply y_onlit rfl rfl
       · conv => lhs; whnf
       · first | exact elemStr | (conv => lhs; whnf; arg 1; whnf)
       · first | exact fun _ => rfl | (intro _; kernel_rfl)
       · conv => lhs; whnf
       · conv => lhs; whnf)
    | (apply y_wanted_val rfl
       · conv => lhs; whnf
       · conv => lhs; whnf
       · first | rfl | assumption
       · conv => lhs; whnf; arg 2; whnf)
    | (apply y_wanted_call rfl
       · conv => lhs; whnf
       · conv => lhs; whnf
       · first | rfl | assumption
       · conv => lhs; whnf
       · first | exact hI)
    | (apply y_skip rfl
       · conv => lhs; whnf
       · conv => lhs; whnf
       · first | rfl | assumption)
    | (apply y_guard_val rfl
       · conv => lhs; whnf
       · conv => lhs; whnf
       · conv => lhs; whnf; arg 2; whnf)
    | (apply y_guard_call rfl
       · conv => lhs; whnf
       · conv => lhs; whnf
       · conv => lhs; whnf
       · first | exact hI)
    | exact apartB_none
    | exact apartB_nil
    | exact all_nil
    | (show List.all _ _ = true; rfl)
    | (show apartB _ _ = true; rfl)
    | exact ([] : List Nat)
    | exact (1000000 : Nat)
    | (apply aw_cond_t
       · conv => lhs; whnf; arg 1; arg 1; whnf)
    | (apply aw_cond_f
       · conv => lhs; whnf; arg 1; arg 1; whnf)
    | (refine aw_cond (by conv => lhs; whnf) ?_ ?_ <;> intro hb)
    | refine aw_ret ?_
    | refine aw_exit ?_
    | refine k_seq_exit ?_
    | refine k_seq_ret ?_
    | refine k_block_ret ?_
    | refine k_block_hit rfl ?_
    | refine k_block_miss rfl ?_
    | refine k_scope_exit ?_
    | refine k_scope_ret ?_
    | refine k_loop_exit ?_
    | refine k_loop_ret ?_
    | refine k_end ?_
    | refine k_end_ret ?_
    | (refine ⟨_, by conv => lhs; whnf; arg 2; whnf, ?_⟩; conv => rhs; whnf)
    | exact trivial
    | intro hg)
    all_goals first
      | exact i64_ok (by omega)
      | rfl
      | (rw [gE_len]; exact ⟨by omega, by omega⟩)
      | (rw [oE_len]; exact ⟨by omega, by omega⟩)
      | (rw [sE_len]; exact ⟨by omega, by omega⟩)
      | (rw [pE_len]; exact ⟨by omega, by omega⟩)
      | (refine ⟨by omega, ?_⟩; first | (rw [gE_len]; omega) | (rw [oE_len]; omega) | (rw [sE_len]; omega) | (rw [pE_len]; omega))
      | ((simp only [ByteArray.size_append, bs_size, lit_size, List.size_toArray, List.length_append, List.length_cons, List.length_nil, maxLen, Nat.reduceAdd, Int.toNat_natCast]; omega); done)
      | skip
  · have e : codeS n = (gD oE (n - 20).toNat).s := by unfold codeS; rw [if_neg (by omega)]; rw [if_pos (by omega)]
    rw [e]
    have f0 : decide (n ≥ 20) = true := decide_eq_true (by omega)
    have k0 : (decide (n ≥ 20) == true) = false → False := fun h => by rw [f0] at h; cases h
    have m0 : decide (n ≥ 20) = false → False := fun h => by rw [f0] at h; cases h
    have f1 : decide (n - 20 ≥ 20) = false := decide_eq_false (by omega)
    have k1 : (decide (n - 20 ≥ 20) == true) = true → False := fun h => by rw [f1] at h; cases h
    have m1 : decide (n - 20 ≥ 20) = true → False := fun h => by rw [f1] at h; cases h
    have f2 : decide (n - 20 ≥ 20) = false := decide_eq_false (by omega)
    have k2 : (decide (n - 20 ≥ 20) == true) = true → False := fun h => by rw [f2] at h; cases h
    have m2 : decide (n - 20 ≥ 20) = true → False := fun h => by rw [f2] at h; cases h
    have f3 : decide (n - 20 ≥ 0) = true := decide_eq_true (by omega)
    have k3 : (decide (n - 20 ≥ 0) == true) = false → False := fun h => by rw [f3] at h; cases h
    have m3 : decide (n - 20 ≥ 0) = false → False := fun h => by rw [f3] at h; cases h
    have f4 : decide (n - 20 < (oE.length : Nat)) = true := decide_eq_true (by rw [oE_len]; omega)
    have k4 : (decide (n - 20 < (oE.length : Nat)) == true) = false → False := fun h => by rw [f4] at h; cases h
    have m4 : decide (n - 20 < (oE.length : Nat)) = false → False := fun h => by rw [f4] at h; cases h
    refine ac_enter 37 Tryz.func8 rfl rfl rfl rfl ?_
    intro s w he
    repeat' (first
    | (apply s_lit gE rfl rfl
       · conv => lhs; whnf
       · first | exact elemStr | (conv => lhs; whnf; arg 1; whnf)
       · rfl
       · rfl
       · repeat' (first | exact trivial | apply And.intro | rfl))
    | (apply s_lit oE rfl rfl
       · conv => lhs; whnf
       · first | exact elemStr | (conv => lhs; whnf; arg 1; whnf)
       · rfl
       · rfl
       · repeat' (first | exact trivial | apply And.intro | rfl))
    | (apply s_lit sE rfl rfl
       · conv => lhs; whnf
       · first | exact elemStr | (conv => lhs; whnf; arg 1; whnf)
       · rfl
       · rfl
       · repeat' (first | exact trivial | apply And.intro | rfl))
    | (apply s_lit pE rfl rfl
       · conv => lhs; whnf
       · first | exact elemStr | (conv => lhs; whnf; arg 1; whnf)
       · rfl
       · rfl
       · repeat' (first | exact trivial | apply And.intro | rfl))
    | (apply s_wanted_pick_t rfl rfl rfl
       · conv => lhs; whnf
       · first | rfl | assumption
       · conv => lhs; whnf
       · first | exact bT1 (by assumption) | exact bT2 (by assumption) | rfl)
    | (apply s_wpick_t rfl rfl rfl
       · conv => lhs; whnf
       · first | rfl | assumption
       · conv => lhs; whnf
       · first | exact bT1 (by assumption) | exact bT2 (by assumption) | rfl)
    | (apply s_wanted_pick_f rfl rfl rfl
       · conv => lhs; whnf
       · first | rfl | assumption
       · conv => lhs; whnf
       · first | exact bF1 (by assumption) | exact bF2 (by assumption) | rfl)
    | (apply s_wpick_f rfl rfl rfl
       · conv => lhs; whnf
       · first | rfl | assumption
       · conv => lhs; whnf
       · first | exact bF1 (by assumption) | exact bF2 (by assumption) | rfl)
    | (apply aw_cond_kt
       · conv => lhs; whnf
       · assumption)
    | (apply aw_cond_kf
       · conv => lhs; whnf
       · assumption)
    | exact (k0 (by assumption)).elim
    | exact (m0 (by assumption)).elim
    | exact (k1 (by assumption)).elim
    | exact (m1 (by assumption)).elim
    | exact (k2 (by assumption)).elim
    | exact (m2 (by assumption)).elim
    | exact (k3 (by assumption)).elim
    | exact (m3 (by assumption)).elim
    | exact (k4 (by assumption)).elim
    | exact (m4 (by assumption)).elim
    | refine k_cut_ret ?_
    | refine k_cut_exit ?_
    | refine k_cut ?_
    | refine aw_region ?_
    | refine awo_nil ?_
    | refine k_seq ?_
    | refine k_block ?_
    | refine k_scope ?_
    | (apply aw_1
       conv => whnf
       refine ⟨?_, trivial⟩)
    | (apply s_pick_t rfl rfl
       · conv => lhs; whnf
       · conv => lhs; whnf
       · first | exact bT1 (by assumption) | exact bT2 (by assumption))
    | (apply s_pick_f rfl rfl
       · conv => lhs; whnf
       · conv => lhs; whnf
       · first | exact bF1 (by assumption) | exact bF2 (by assumption))
    | (apply s_1
       conv => whnf; arg 1; arg 4; arg 3; whnf
       refine ⟨?_, ?_⟩)
    | (apply s_val rfl
       · conv => lhs; whnf
       · conv => lhs; whnf; arg 2; whnf)
    | (apply s_call rfl
       · conv => lhs; whnf
       · conv => lhs; whnf
       · first | exact hI)
    | (apply s_box rfl rfl rfl rfl
       · conv => lhs; whnf; arg 1; whnf
       · rfl)
    | (apply s_alloc rfl rfl rfl rfl
       · conv => lhs; whnf; arg 1; whnf
       · rfl)
    | (apply s_store rfl rfl rfl
       · conv => lhs; whnf
       · conv => lhs; whnf; arg 1; whnf
       · conv => lhs; whnf; arg 1; whnf
       · exact ⟨by kernel_rfl, by kernel_rfl⟩
       · rfl)
    | (apply s_app rfl rfl
       · conv => lhs; whnf
       · first | exact elemStr | (conv => lhs; whnf; arg 1; whnf)
       · first | exact fun _ => rfl | (intro _; kernel_rfl)
       · conv => lhs; whnf
       · conv => lhs; whnf; arg 1; whnf
       · conv => lhs; whnf)
    | (apply s_app_nil rfl rfl rfl rfl
       · first | exact elemStr | (conv => lhs; whnf; arg 1; whnf)
       · first | exact fun _ => rfl | (intro _; kernel_rfl)
       · conv => lhs; whnf
       · conv => lhs; whnf)
    | (apply s_lit0 rfl rfl
       · conv => lhs; whnf
       · first | exact elemStr | (conv => lhs; whnf; arg 1; whnf))
    | (apply s_lit1 rfl rfl
       · conv => lhs; whnf
       · first | exact elemStr | (conv => lhs; whnf; arg 1; whnf)
       · conv => lhs; whnf; arg 1; whnf
       · rfl
       · rfl)
    | (apply s_onlit rfl rfl
       · conv => lhs; whnf
       · first | exact elemStr | (conv => lhs; whnf; arg 1; whnf)
       · first | exact fun _ => rfl | (intro _; kernel_rfl)
       · conv => lhs; whnf
       · conv => lhs; whnf)
    | (apply s_wanted_val rfl
       · conv => lhs; whnf
       · conv => lhs; whnf
       · first | rfl | assumption
       · conv => lhs; whnf; arg 2; whnf)
    | (apply s_wanted_call rfl
       · conv => lhs; whnf
       · conv => lhs; whnf
       · first | rfl | assumption
       · conv => lhs; whnf
       · first | exact hI)
    | (apply s_skipU rfl
       · conv => lhs; whnf
       · conv => lhs; whnf
       · first | rfl | assumption)
    | (apply s_dead rfl
       · conv => lhs; whnf
       · rfl
       · rfl)
    | (apply s_guard_valU rfl
       · conv => lhs; whnf
       · conv => lhs; whnf
       · conv => lhs; whnf; arg 2; whnf)
    | (apply s_guard_callU rfl
       · conv => lhs; whnf
       · conv => lhs; whnf
       · conv => lhs; whnf
       · first | exact hI)
    | (apply s_guard_val rfl
       · conv => lhs; whnf
       · conv => lhs; whnf
       · conv => lhs; whnf; arg 2; whnf)
    | (apply s_guard_call rfl
       · conv => lhs; whnf
       · conv => lhs; whnf
       · conv => lhs; whnf
       · first | exact hI)
    | (apply aw_draw (by kernel_rfl) (by kernel_rfl))
    | apply y_nil
    | (apply y_pick_t rfl rfl
       · conv => lhs; whnf
       · conv => lhs; whnf
       · first | exact bT1 (by assumption) | exact bT2 (by assumption))
    | (apply y_pick_f rfl rfl
       · conv => lhs; whnf
       · conv => lhs; whnf
       · first | exact bF1 (by assumption) | exact bF2 (by assumption))
    | (apply y_val rfl
       · conv => lhs; whnf
       · conv => lhs; whnf; arg 2; whnf)
    | (apply y_call rfl
       · conv => lhs; whnf
       · conv => lhs; whnf
       · first | exact hI)
    | (apply y_store rfl rfl rfl
       · conv => lhs; whnf
       · rfl
       · rfl
       · conv => lhs; whnf; arg 1; whnf
       · conv => lhs; whnf; arg 1; whnf
       · exact ⟨by kernel_rfl, by kernel_rfl⟩
       · rfl)
    | (apply y_app rfl rfl
       · conv => lhs; whnf
       · first | exact elemStr | (conv => lhs; whnf; arg 1; whnf)
       · first | exact fun _ => rfl | (intro _; kernel_rfl)
       · conv => lhs; whnf
       · rfl
       · rfl
       · conv => lhs; whnf; arg 1; whnf
       · conv => lhs; whnf)
    | (apply y_lit0 rfl rfl
       · conv => lhs; whnf
       · first | exact elemStr | (conv => lhs; whnf; arg 1; whnf))
    | (apply y_lit1 rfl rfl
       · conv => lhs; whnf
       · first | exact elemStr | (conv => lhs; whnf; arg 1; whnf)
       · conv => lhs; whnf; arg 1; whnf
       · rfl
       · rfl)
    | (apply y_onlit rfl rfl
       · conv => lhs; whnf
       · first | exact elemStr | (conv => lhs; whnf; arg 1; whnf)
       · first | exact fun _ => rfl | (intro _; kernel_rfl)
       · conv => lhs; whnf
       · conv => lhs; whnf)
    | (apply y_wanted_val rfl
       · conv => lhs; whnf
       · conv => lhs; whnf
       · first | rfl | assumption
       · conv => lhs; whnf; arg 2; whnf)
    | (apply y_wanted_call rfl
       · conv => lhs; whnf
       · conv => lhs; whnf
       · first | rfl | assumption
       · conv => lhs; whnf
       · first | exact hI)
    | (apply y_skip rfl
       · conv => lhs; whnf
       · conv => lhs; whnf
       · first | rfl | assumption)
    | (apply y_guard_val rfl
       · conv => lhs; whnf
       · conv => lhs; whnf
       · conv => lhs; whnf; arg 2; whnf)
    | (apply y_guard_call rfl
       · conv => lhs; whnf
       · conv => lhs; whnf
       · conv => lhs; whnf
       · first | exact hI)
    | exact apartB_none
    | exact apartB_nil
    | exact all_nil
    | (show List.all _ _ = true; rfl)
    | (show apartB _ _ = true; rfl)
    | exact ([] : List Nat)
    | exact (1000000 : Nat)
    | (apply aw_cond_t
       · conv => lhs; whnf; arg 1; arg 1; whnf)
    | (apply aw_cond_f
       · conv => lhs; whnf; arg 1; arg 1; whnf)
    | (refine aw_cond (by conv => lhs; whnf) ?_ ?_ <;> intro hb)
    | refine aw_ret ?_
    | refine aw_exit ?_
    | refine k_seq_exit ?_
    | refine k_seq_ret ?_
    | refine k_block_ret ?_
    | refine k_block_hit rfl ?_
    | refine k_block_miss rfl ?_
    | refine k_scope_exit ?_
    | refine k_scope_ret ?_
    | refine k_loop_exit ?_
    | refine k_loop_ret ?_
    | refine k_end ?_
    | refine k_end_ret ?_
    | (refine ⟨_, by conv => lhs; whnf; arg 2; whnf, ?_⟩; conv => rhs; whnf)
    | exact trivial
    | intro hg)
    all_goals first
      | exact i64_ok (by omega)
      | rfl
      | (rw [gE_len]; exact ⟨by omega, by omega⟩)
      | (rw [oE_len]; exact ⟨by omega, by omega⟩)
      | (rw [sE_len]; exact ⟨by omega, by omega⟩)
      | (rw [pE_len]; exact ⟨by omega, by omega⟩)
      | (refine ⟨by omega, ?_⟩; first | (rw [gE_len]; omega) | (rw [oE_len]; omega) | (rw [sE_len]; omega) | (rw [pE_len]; omega))
      | ((simp only [ByteArray.size_append, bs_size, lit_size, List.size_toArray, List.length_append, List.length_cons, List.length_nil, maxLen, Nat.reduceAdd, Int.toNat_natCast]; omega); done)
      | skip
  · have e : codeS n = (⟨#[69, 114, 114, 110, 111]⟩ : ByteArray) ++ bs (Lib.itoa n) := by unfold codeS; rw [if_neg (by omega), if_neg (by omega), if_neg (by omega), if_neg (by omega)]
    rw [e]
    have f0 : decide (n ≥ 20) = true := decide_eq_true (by omega)
    have k0 : (decide (n ≥ 20) == true) = false → False := fun h => by rw [f0] at h; cases h
    have m0 : decide (n ≥ 20) = false → False := fun h => by rw [f0] at h; cases h
    have f1 : decide (n - 20 ≥ 20) = false := decide_eq_false (by omega)
    have k1 : (decide (n - 20 ≥ 20) == true) = true → False := fun h => by rw [f1] at h; cases h
    have m1 : decide (n - 20 ≥ 20) = true → False := fun h => by rw [f1] at h; cases h
    have f2 : decide (n - 20 ≥ 20) = false := decide_eq_false (by omega)
    have k2 : (decide (n - 20 ≥ 20) == true) = true → False := fun h => by rw [f2] at h; cases h
    have m2 : decide (n - 20 ≥ 20) = true → False := fun h => by rw [f2] at h; cases h
    have f3 : decide (n - 20 ≥ 0) = true := decide_eq_true (by omega)
    have k3 : (decide (n - 20 ≥ 0) == true) = false → False := fun h => by rw [f3] at h; cases h
    have m3 : decide (n - 20 ≥ 0) = false → False := fun h => by rw [f3] at h; cases h
    have f4 : decide (n - 20 < (oE.length : Nat)) = false := decide_eq_false (by rw [oE_len]; omega)
    have k4 : (decide (n - 20 < (oE.length : Nat)) == true) = true → False := fun h => by rw [f4] at h; cases h
    have m4 : decide (n - 20 < (oE.length : Nat)) = true → False := fun h => by rw [f4] at h; cases h
    refine ac_enter 37 Tryz.func8 rfl rfl rfl rfl ?_
    intro s w he
    repeat' (first
    | (apply s_lit gE rfl rfl
       · conv => lhs; whnf
       · first | exact elemStr | (conv => lhs; whnf; arg 1; whnf)
       · rfl
       · rfl
       · repeat' (first | exact trivial | apply And.intro | rfl))
    | (apply s_lit oE rfl rfl
       · conv => lhs; whnf
       · first | exact elemStr | (conv => lhs; whnf; arg 1; whnf)
       · rfl
       · rfl
       · repeat' (first | exact trivial | apply And.intro | rfl))
    | (apply s_lit sE rfl rfl
       · conv => lhs; whnf
       · first | exact elemStr | (conv => lhs; whnf; arg 1; whnf)
       · rfl
       · rfl
       · repeat' (first | exact trivial | apply And.intro | rfl))
    | (apply s_lit pE rfl rfl
       · conv => lhs; whnf
       · first | exact elemStr | (conv => lhs; whnf; arg 1; whnf)
       · rfl
       · rfl
       · repeat' (first | exact trivial | apply And.intro | rfl))
    | (apply s_wanted_pick_t rfl rfl rfl
       · conv => lhs; whnf
       · first | rfl | assumption
       · conv => lhs; whnf
       · first | exact bT1 (by assumption) | exact bT2 (by assumption) | rfl)
    | (apply s_wpick_t rfl rfl rfl
       · conv => lhs; whnf
       · first | rfl | assumption
       · conv => lhs; whnf
       · first | exact bT1 (by assumption) | exact bT2 (by assumption) | rfl)
    | (apply s_wanted_pick_f rfl rfl rfl
       · conv => lhs; whnf
       · first | rfl | assumption
       · conv => lhs; whnf
       · first | exact bF1 (by assumption) | exact bF2 (by assumption) | rfl)
    | (apply s_wpick_f rfl rfl rfl
       · conv => lhs; whnf
       · first | rfl | assumption
       · conv => lhs; whnf
       · first | exact bF1 (by assumption) | exact bF2 (by assumption) | rfl)
    | (apply aw_cond_kt
       · conv => lhs; whnf
       · assumption)
    | (apply aw_cond_kf
       · conv => lhs; whnf
       · assumption)
    | exact (k0 (by assumption)).elim
    | exact (m0 (by assumption)).elim
    | exact (k1 (by assumption)).elim
    | exact (m1 (by assumption)).elim
    | exact (k2 (by assumption)).elim
    | exact (m2 (by assumption)).elim
    | exact (k3 (by assumption)).elim
    | exact (m3 (by assumption)).elim
    | exact (k4 (by assumption)).elim
    | exact (m4 (by assumption)).elim
    | refine k_cut_ret ?_
    | refine k_cut_exit ?_
    | refine k_cut ?_
    | refine aw_region ?_
    | refine awo_nil ?_
    | refine k_seq ?_
    | refine k_block ?_
    | refine k_scope ?_
    | (apply aw_1
       conv => whnf
       refine ⟨?_, trivial⟩)
    | (apply s_pick_t rfl rfl
       · conv => lhs; whnf
       · conv => lhs; whnf
       · first | exact bT1 (by assumption) | exact bT2 (by assumption))
    | (apply s_pick_f rfl rfl
       · conv => lhs; whnf
       · conv => lhs; whnf
       · first | exact bF1 (by assumption) | exact bF2 (by assumption))
    | (apply s_1
       conv => whnf; arg 1; arg 4; arg 3; whnf
       refine ⟨?_, ?_⟩)
    | (apply s_val rfl
       · conv => lhs; whnf
       · conv => lhs; whnf; arg 2; whnf)
    | (apply s_call rfl
       · conv => lhs; whnf
       · conv => lhs; whnf
       · first | exact hI)
    | (apply s_box rfl rfl rfl rfl
       · conv => lhs; whnf; arg 1; whnf
       · rfl)
    | (apply s_alloc rfl rfl rfl rfl
       · conv => lhs; whnf; arg 1; whnf
       · rfl)
    | (apply s_store rfl rfl rfl
       · conv => lhs; whnf
       · conv => lhs; whnf; arg 1; whnf
       · conv => lhs; whnf; arg 1; whnf
       · exact ⟨by kernel_rfl, by kernel_rfl⟩
       · rfl)
    | (apply s_app rfl rfl
       · conv => lhs; whnf
       · first | exact elemStr | (conv => lhs; whnf; arg 1; whnf)
       · first | exact fun _ => rfl | (intro _; kernel_rfl)
       · conv => lhs; whnf
       · conv => lhs; whnf; arg 1; whnf
       · conv => lhs; whnf)
    | (apply s_app_nil rfl rfl rfl rfl
       · first | exact elemStr | (conv => lhs; whnf; arg 1; whnf)
       · first | exact fun _ => rfl | (intro _; kernel_rfl)
       · conv => lhs; whnf
       · conv => lhs; whnf)
    | (apply s_lit0 rfl rfl
       · conv => lhs; whnf
       · first | exact elemStr | (conv => lhs; whnf; arg 1; whnf))
    | (apply s_lit1 rfl rfl
       · conv => lhs; whnf
       · first | exact elemStr | (conv => lhs; whnf; arg 1; whnf)
       · conv => lhs; whnf; arg 1; whnf
       · rfl
       · rfl)
    | (apply s_onlit rfl rfl
       · conv => lhs; whnf
       · first | exact elemStr | (conv => lhs; whnf; arg 1; whnf)
       · first | exact fun _ => rfl | (intro _; kernel_rfl)
       · conv => lhs; whnf
       · conv => lhs; whnf)
    | (apply s_wanted_val rfl
       · conv => lhs; whnf
       · conv => lhs; whnf
       · first | rfl | assumption
       · conv => lhs; whnf; arg 2; whnf)
    | (apply s_wanted_call rfl
       · conv => lhs; whnf
       · conv => lhs; whnf
       · first | rfl | assumption
       · conv => lhs; whnf
       · first | exact hI)
    | (apply s_skipU rfl
       · conv => lhs; whnf
       · conv => lhs; whnf
       · first | rfl | assumption)
    | (apply s_dead rfl
       · conv => lhs; whnf
       · rfl
       · rfl)
    | (apply s_guard_valU rfl
       · conv => lhs; whnf
       · conv => lhs; whnf
       · conv => lhs; whnf; arg 2; whnf)
    | (apply s_guard_callU rfl
       · conv => lhs; whnf
       · conv => lhs; whnf
       · conv => lhs; whnf
       · first | exact hI)
    | (apply s_guard_val rfl
       · conv => lhs; whnf
       · conv => lhs; whnf
       · conv => lhs; whnf; arg 2; whnf)
    | (apply s_guard_call rfl
       · conv => lhs; whnf
       · conv => lhs; whnf
       · conv => lhs; whnf
       · first | exact hI)
    | (apply aw_draw (by kernel_rfl) (by kernel_rfl))
    | apply y_nil
    | (apply y_pick_t rfl rfl
       · conv => lhs; whnf
       · conv => lhs; whnf
       · first | exact bT1 (by assumption) | exact bT2 (by assumption))
    | (apply y_pick_f rfl rfl
       · conv => lhs; whnf
       · conv => lhs; whnf
       · first | exact bF1 (by assumption) | exact bF2 (by assumption))
    | (apply y_val rfl
       · conv => lhs; whnf
       · conv => lhs; whnf; arg 2; whnf)
    | (apply y_call rfl
       · conv => lhs; whnf
       · conv => lhs; whnf
       · first | exact hI)
    | (apply y_store rfl rfl rfl
       · conv => lhs; whnf
       · rfl
       · rfl
       · conv => lhs; whnf; arg 1; whnf
       · conv => lhs; whnf; arg 1; whnf
       · exact ⟨by kernel_rfl, by kernel_rfl⟩
       · rfl)
    | (apply y_app rfl rfl
       · conv => lhs; whnf
       · first | exact elemStr | (conv => lhs; whnf; arg 1; whnf)
       · first | exact fun _ => rfl | (intro _; kernel_rfl)
       · conv => lhs; whnf
       · rfl
       · rfl
       · conv => lhs; whnf; arg 1; whnf
       · conv => lhs; whnf)
    | (apply y_lit0 rfl rfl
       · conv => lhs; whnf
       · first | exact elemStr | (conv => lhs; whnf; arg 1; whnf))
    | (apply y_lit1 rfl rfl
       · conv => lhs; whnf
       · first | exact elemStr | (conv => lhs; whnf; arg 1; whnf)
       · conv => lhs; whnf; arg 1; whnf
       · rfl
       · rfl)
    | (apply y_onlit rfl rfl
       · conv => lhs; whnf
       · first | exact elemStr | (conv => lhs; whnf; arg 1; whnf)
       · first | exact fun _ => rfl | (intro _; kernel_rfl)
       · conv => lhs; whnf
       · conv => lhs; whnf)
    | (apply y_wanted_val rfl
       · conv => lhs; whnf
       · conv => lhs; whnf
       · first | rfl | assumption
       · conv => lhs; whnf; arg 2; whnf)
    | (apply y_wanted_call rfl
       · conv => lhs; whnf
       · conv => lhs; whnf
       · first | rfl | assumption
       · conv => lhs; whnf
       · first | exact hI)
    | (apply y_skip rfl
       · conv => lhs; whnf
       · conv => lhs; whnf
       · first | rfl | assumption)
    | (apply y_guard_val rfl
       · conv => lhs; whnf
       · conv => lhs; whnf
       · conv => lhs; whnf; arg 2; whnf)
    | (apply y_guard_call rfl
       · conv => lhs; whnf
       · conv => lhs; whnf
       · conv => lhs; whnf
       · first | exact hI)
    | exact apartB_none
    | exact apartB_nil
    | exact all_nil
    | (show List.all _ _ = true; rfl)
    | (show apartB _ _ = true; rfl)
    | exact ([] : List Nat)
    | exact (1000000 : Nat)
    | (apply aw_cond_t
       · conv => lhs; whnf; arg 1; arg 1; whnf)
    | (apply aw_cond_f
       · conv => lhs; whnf; arg 1; arg 1; whnf)
    | (refine aw_cond (by conv => lhs; whnf) ?_ ?_ <;> intro hb)
    | refine aw_ret ?_
    | refine aw_exit ?_
    | refine k_seq_exit ?_
    | refine k_seq_ret ?_
    | refine k_block_ret ?_
    | refine k_block_hit rfl ?_
    | refine k_block_miss rfl ?_
    | refine k_scope_exit ?_
    | refine k_scope_ret ?_
    | refine k_loop_exit ?_
    | refine k_loop_ret ?_
    | refine k_end ?_
    | refine k_end_ret ?_
    | (refine ⟨_, by conv => lhs; whnf; arg 2; whnf, ?_⟩; conv => rhs; whnf)
    | exact trivial
    | intro hg)
    all_goals first
      | exact i64_ok (by omega)
      | rfl
      | (rw [gE_len]; exact ⟨by omega, by omega⟩)
      | (rw [oE_len]; exact ⟨by omega, by omega⟩)
      | (rw [sE_len]; exact ⟨by omega, by omega⟩)
      | (rw [pE_len]; exact ⟨by omega, by omega⟩)
      | (refine ⟨by omega, ?_⟩; first | (rw [gE_len]; omega) | (rw [oE_len]; omega) | (rw [sE_len]; omega) | (rw [pE_len]; omega))
      | ((simp only [ByteArray.size_append, bs_size, lit_size, List.size_toArray, List.length_append, List.length_cons, List.length_nil, maxLen, Nat.reduceAdd, Int.toNat_natCast]; omega); done)
      | skip
  · have e : codeS n = (gD sE (n - 40).toNat).s := by unfold codeS; rw [if_neg (by omega)]; rw [if_neg (by omega)]; rw [if_pos (by omega)]
    rw [show n - 40 = n - 20 - 20 by omega] at e
    rw [e]
    have f0 : decide (n ≥ 20) = true := decide_eq_true (by omega)
    have k0 : (decide (n ≥ 20) == true) = false → False := fun h => by rw [f0] at h; cases h
    have m0 : decide (n ≥ 20) = false → False := fun h => by rw [f0] at h; cases h
    have f1 : decide (n - 20 ≥ 20) = true := decide_eq_true (by omega)
    have k1 : (decide (n - 20 ≥ 20) == true) = false → False := fun h => by rw [f1] at h; cases h
    have m1 : decide (n - 20 ≥ 20) = false → False := fun h => by rw [f1] at h; cases h
    have f2 : decide (n - 20 - 20 ≥ 20) = false := decide_eq_false (by omega)
    have k2 : (decide (n - 20 - 20 ≥ 20) == true) = true → False := fun h => by rw [f2] at h; cases h
    have m2 : decide (n - 20 - 20 ≥ 20) = true → False := fun h => by rw [f2] at h; cases h
    have f3 : decide (n - 20 - 20 ≥ 0) = true := decide_eq_true (by omega)
    have k3 : (decide (n - 20 - 20 ≥ 0) == true) = false → False := fun h => by rw [f3] at h; cases h
    have m3 : decide (n - 20 - 20 ≥ 0) = false → False := fun h => by rw [f3] at h; cases h
    have f4 : decide (n - 20 - 20 < (sE.length : Nat)) = true := decide_eq_true (by rw [sE_len]; omega)
    have k4 : (decide (n - 20 - 20 < (sE.length : Nat)) == true) = false → False := fun h => by rw [f4] at h; cases h
    have m4 : decide (n - 20 - 20 < (sE.length : Nat)) = false → False := fun h => by rw [f4] at h; cases h
    refine ac_enter 37 Tryz.func8 rfl rfl rfl rfl ?_
    intro s w he
    repeat' (first
    | (apply s_lit gE rfl rfl
       · conv => lhs; whnf
       · first | exact elemStr | (conv => lhs; whnf; arg 1; whnf)
       · rfl
       · rfl
       · repeat' (first | exact trivial | apply And.intro | rfl))
    | (apply s_lit oE rfl rfl
       · conv => lhs; whnf
       · first | exact elemStr | (conv => lhs; whnf; arg 1; whnf)
       · rfl
       · rfl
       · repeat' (first | exact trivial | apply And.intro | rfl))
    | (apply s_lit sE rfl rfl
       · conv => lhs; whnf
       · first | exact elemStr | (conv => lhs; whnf; arg 1; whnf)
       · rfl
       · rfl
       · repeat' (first | exact trivial | apply And.intro | rfl))
    | (apply s_lit pE rfl rfl
       · conv => lhs; whnf
       · first | exact elemStr | (conv => lhs; whnf; arg 1; whnf)
       · rfl
       · rfl
       · repeat' (first | exact trivial | apply And.intro | rfl))
    | (apply s_wanted_pick_t rfl rfl rfl
       · conv => lhs; whnf
       · first | rfl | assumption
       · conv => lhs; whnf
       · first | exact bT1 (by assumption) | exact bT2 (by assumption) | rfl)
    | (apply s_wpick_t rfl rfl rfl
       · conv => lhs; whnf
       · first | rfl | assumption
       · conv => lhs; whnf
       · first | exact bT1 (by assumption) | exact bT2 (by assumption) | rfl)
    | (apply s_wanted_pick_f rfl rfl rfl
       · conv => lhs; whnf
       · first | rfl | assumption
       · conv => lhs; whnf
       · first | exact bF1 (by assumption) | exact bF2 (by assumption) | rfl)
    | (apply s_wpick_f rfl rfl rfl
       · conv => lhs; whnf
       · first | rfl | assumption
       · conv => lhs; whnf
       · first | exact bF1 (by assumption) | exact bF2 (by assumption) | rfl)
    | (apply aw_cond_kt
       · conv => lhs; whnf
       · assumption)
    | (apply aw_cond_kf
       · conv => lhs; whnf
       · assumption)
    | exact (k0 (by assumption)).elim
    | exact (m0 (by assumption)).elim
    | exact (k1 (by assumption)).elim
    | exact (m1 (by assumption)).elim
    | exact (k2 (by assumption)).elim
    | exact (m2 (by assumption)).elim
    | exact (k3 (by assumption)).elim
    | exact (m3 (by assumption)).elim
    | exact (k4 (by assumption)).elim
    | exact (m4 (by assumption)).elim
    | refine k_cut_ret ?_
    | refine k_cut_exit ?_
    | refine k_cut ?_
    | refine aw_region ?_
    | refine awo_nil ?_
    | refine k_seq ?_
    | refine k_block ?_
    | refine k_scope ?_
    | (apply aw_1
       conv => whnf
       refine ⟨?_, trivial⟩)
    | (apply s_pick_t rfl rfl
       · conv => lhs; whnf
       · conv => lhs; whnf
       · first | exact bT1 (by assumption) | exact bT2 (by assumption))
    | (apply s_pick_f rfl rfl
       · conv => lhs; whnf
       · conv => lhs; whnf
       · first | exact bF1 (by assumption) | exact bF2 (by assumption))
    | (apply s_1
       conv => whnf; arg 1; arg 4; arg 3; whnf
       refine ⟨?_, ?_⟩)
    | (apply s_val rfl
       · conv => lhs; whnf
       · conv => lhs; whnf; arg 2; whnf)
    | (apply s_call rfl
       · conv => lhs; whnf
       · conv => lhs; whnf
       · first | exact hI)
    | (apply s_box rfl rfl rfl rfl
       · conv => lhs; whnf; arg 1; whnf
       · rfl)
    | (apply s_alloc rfl rfl rfl rfl
       · conv => lhs; whnf; arg 1; whnf
       · rfl)
    | (apply s_store rfl rfl rfl
       · conv => lhs; whnf
       · conv => lhs; whnf; arg 1; whnf
       · conv => lhs; whnf; arg 1; whnf
       · exact ⟨by kernel_rfl, by kernel_rfl⟩
       · rfl)
    | (apply s_app rfl rfl
       · conv => lhs; whnf
       · first | exact elemStr | (conv => lhs; whnf; arg 1; whnf)
       · first | exact fun _ => rfl | (intro _; kernel_rfl)
       · conv => lhs; whnf
       · conv => lhs; whnf; arg 1; whnf
       · conv => lhs; whnf)
    | (apply s_app_nil rfl rfl rfl rfl
       · first | exact elemStr | (conv => lhs; whnf; arg 1; whnf)
       · first | exact fun _ => rfl | (intro _; kernel_rfl)
       · conv => lhs; whnf
       · conv => lhs; whnf)
    | (apply s_lit0 rfl rfl
       · conv => lhs; whnf
       · first | exact elemStr | (conv => lhs; whnf; arg 1; whnf))
    | (apply s_lit1 rfl rfl
       · conv => lhs; whnf
       · first | exact elemStr | (conv => lhs; whnf; arg 1; whnf)
       · conv => lhs; whnf; arg 1; whnf
       · rfl
       · rfl)
    | (apply s_onlit rfl rfl
       · conv => lhs; whnf
       · first | exact elemStr | (conv => lhs; whnf; arg 1; whnf)
       · first | exact fun _ => rfl | (intro _; kernel_rfl)
       · conv => lhs; whnf
       · conv => lhs; whnf)
    | (apply s_wanted_val rfl
       · conv => lhs; whnf
       · conv => lhs; whnf
       · first | rfl | assumption
       · conv => lhs; whnf; arg 2; whnf)
    | (apply s_wanted_call rfl
       · conv => lhs; whnf
       · conv => lhs; whnf
       · first | rfl | assumption
       · conv => lhs; whnf
       · first | exact hI)
    | (apply s_skipU rfl
       · conv => lhs; whnf
       · conv => lhs; whnf
       · first | rfl | assumption)
    | (apply s_dead rfl
       · conv => lhs; whnf
       · rfl
       · rfl)
    | (apply s_guard_valU rfl
       · conv => lhs; whnf
       · conv => lhs; whnf
       · conv => lhs; whnf; arg 2; whnf)
    | (apply s_guard_callU rfl
       · conv => lhs; whnf
       · conv => lhs; whnf
       · conv => lhs; whnf
       · first | exact hI)
    | (apply s_guard_val rfl
       · conv => lhs; whnf
       · conv => lhs; whnf
       · conv => lhs; whnf; arg 2; whnf)
    | (apply s_guard_call rfl
       · conv => lhs; whnf
       · conv => lhs; whnf
       · conv => lhs; whnf
       · first | exact hI)
    | (apply aw_draw (by kernel_rfl) (by kernel_rfl))
    | apply y_nil
    | (apply y_pick_t rfl rfl
       · conv => lhs; whnf
       · conv => lhs; whnf
       · first | exact bT1 (by assumption) | exact bT2 (by assumption))
    | (apply y_pick_f rfl rfl
       · conv => lhs; whnf
       · conv => lhs; whnf
       · first | exact bF1 (by assumption) | exact bF2 (by assumption))
    | (apply y_val rfl
       · conv => lhs; whnf
       · conv => lhs; whnf; arg 2; whnf)
    | (apply y_call rfl
       · conv => lhs; whnf
       · conv => lhs; whnf
       · first | exact hI)
    | (apply y_store rfl rfl rfl
       · conv => lhs; whnf
       · rfl
       · rfl
       · conv => lhs; whnf; arg 1; whnf
       · conv => lhs; whnf; arg 1; whnf
       · exact ⟨by kernel_rfl, by kernel_rfl⟩
       · rfl)
    | (apply y_app rfl rfl
       · conv => lhs; whnf
       · first | exact elemStr | (conv => lhs; whnf; arg 1; whnf)
       · first | exact fun _ => rfl | (intro _; kernel_rfl)
       · conv => lhs; whnf
       · rfl
       · rfl
       · conv => lhs; whnf; arg 1; whnf
       · conv => lhs; whnf)
    | (apply y_lit0 rfl rfl
       · conv => lhs; whnf
       · first | exact elemStr | (conv => lhs; whnf; arg 1; whnf))
    | (apply y_lit1 rfl rfl
       · conv => lhs; whnf
       · first | exact elemStr | (conv => lhs; whnf; arg 1; whnf)
       · conv => lhs; whnf; arg 1; whnf
       · rfl
       · rfl)
    | (apply y_onlit rfl rfl
       · conv => lhs; whnf
       · first | exact elemStr | (conv => lhs; whnf; arg 1; whnf)
       · first | exact fun _ => rfl | (intro _; kernel_rfl)
       · conv => lhs; whnf
       · conv => lhs; whnf)
    | (apply y_wanted_val rfl
       · conv => lhs; whnf
       · conv => lhs; whnf
       · first | rfl | assumption
       · conv => lhs; whnf; arg 2; whnf)
    | (apply y_wanted_call rfl
       · conv => lhs; whnf
       · conv => lhs; whnf
       · first | rfl | assumption
       · conv => lhs; whnf
       · first | exact hI)
    | (apply y_skip rfl
       · conv => lhs; whnf
       · conv => lhs; whnf
       · first | rfl | assumption)
    | (apply y_guard_val rfl
       · conv => lhs; whnf
       · conv => lhs; whnf
       · conv => lhs; whnf; arg 2; whnf)
    | (apply y_guard_call rfl
       · conv => lhs; whnf
       · conv => lhs; whnf
       · conv => lhs; whnf
       · first | exact hI)
    | exact apartB_none
    | exact apartB_nil
    | exact all_nil
    | (show List.all _ _ = true; rfl)
    | (show apartB _ _ = true; rfl)
    | exact ([] : List Nat)
    | exact (1000000 : Nat)
    | (apply aw_cond_t
       · conv => lhs; whnf; arg 1; arg 1; whnf)
    | (apply aw_cond_f
       · conv => lhs; whnf; arg 1; arg 1; whnf)
    | (refine aw_cond (by conv => lhs; whnf) ?_ ?_ <;> intro hb)
    | refine aw_ret ?_
    | refine aw_exit ?_
    | refine k_seq_exit ?_
    | refine k_seq_ret ?_
    | refine k_block_ret ?_
    | refine k_block_hit rfl ?_
    | refine k_block_miss rfl ?_
    | refine k_scope_exit ?_
    | refine k_scope_ret ?_
    | refine k_loop_exit ?_
    | refine k_loop_ret ?_
    | refine k_end ?_
    | refine k_end_ret ?_
    | (refine ⟨_, by conv => lhs; whnf; arg 2; whnf, ?_⟩; conv => rhs; whnf)
    | exact trivial
    | intro hg)
    all_goals first
      | exact i64_ok (by omega)
      | rfl
      | (rw [gE_len]; exact ⟨by omega, by omega⟩)
      | (rw [oE_len]; exact ⟨by omega, by omega⟩)
      | (rw [sE_len]; exact ⟨by omega, by omega⟩)
      | (rw [pE_len]; exact ⟨by omega, by omega⟩)
      | (refine ⟨by omega, ?_⟩; first | (rw [gE_len]; omega) | (rw [oE_len]; omega) | (rw [sE_len]; omega) | (rw [pE_len]; omega))
      | ((simp only [ByteArray.size_append, bs_size, lit_size, List.size_toArray, List.length_append, List.length_cons, List.length_nil, maxLen, Nat.reduceAdd, Int.toNat_natCast]; omega); done)
      | skip
  · have e : codeS n = (⟨#[69, 114, 114, 110, 111]⟩ : ByteArray) ++ bs (Lib.itoa n) := by unfold codeS; rw [if_neg (by omega), if_neg (by omega), if_neg (by omega), if_neg (by omega)]
    rw [e]
    have f0 : decide (n ≥ 20) = true := decide_eq_true (by omega)
    have k0 : (decide (n ≥ 20) == true) = false → False := fun h => by rw [f0] at h; cases h
    have m0 : decide (n ≥ 20) = false → False := fun h => by rw [f0] at h; cases h
    have f1 : decide (n - 20 ≥ 20) = true := decide_eq_true (by omega)
    have k1 : (decide (n - 20 ≥ 20) == true) = false → False := fun h => by rw [f1] at h; cases h
    have m1 : decide (n - 20 ≥ 20) = false → False := fun h => by rw [f1] at h; cases h
    have f2 : decide (n - 20 - 20 ≥ 20) = false := decide_eq_false (by omega)
    have k2 : (decide (n - 20 - 20 ≥ 20) == true) = true → False := fun h => by rw [f2] at h; cases h
    have m2 : decide (n - 20 - 20 ≥ 20) = true → False := fun h => by rw [f2] at h; cases h
    have f3 : decide (n - 20 - 20 ≥ 0) = true := decide_eq_true (by omega)
    have k3 : (decide (n - 20 - 20 ≥ 0) == true) = false → False := fun h => by rw [f3] at h; cases h
    have m3 : decide (n - 20 - 20 ≥ 0) = false → False := fun h => by rw [f3] at h; cases h
    have f4 : decide (n - 20 - 20 < (sE.length : Nat)) = false := decide_eq_false (by rw [sE_len]; omega)
    have k4 : (decide (n - 20 - 20 < (sE.length : Nat)) == true) = true → False := fun h => by rw [f4] at h; cases h
    have m4 : decide (n - 20 - 20 < (sE.length : Nat)) = true → False := fun h => by rw [f4] at h; cases h
    refine ac_enter 37 Tryz.func8 rfl rfl rfl rfl ?_
    intro s w he
    repeat' (first
    | (apply s_lit gE rfl rfl
       · conv => lhs; whnf
       · first | exact elemStr | (conv => lhs; whnf; arg 1; whnf)
       · rfl
       · rfl
       · repeat' (first | exact trivial | apply And.intro | rfl))
    | (apply s_lit oE rfl rfl
       · conv => lhs; whnf
       · first | exact elemStr | (conv => lhs; whnf; arg 1; whnf)
       · rfl
       · rfl
       · repeat' (first | exact trivial | apply And.intro | rfl))
    | (apply s_lit sE rfl rfl
       · conv => lhs; whnf
       · first | exact elemStr | (conv => lhs; whnf; arg 1; whnf)
       · rfl
       · rfl
       · repeat' (first | exact trivial | apply And.intro | rfl))
    | (apply s_lit pE rfl rfl
       · conv => lhs; whnf
       · first | exact elemStr | (conv => lhs; whnf; arg 1; whnf)
       · rfl
       · rfl
       · repeat' (first | exact trivial | apply And.intro | rfl))
    | (apply s_wanted_pick_t rfl rfl rfl
       · conv => lhs; whnf
       · first | rfl | assumption
       · conv => lhs; whnf
       · first | exact bT1 (by assumption) | exact bT2 (by assumption) | rfl)
    | (apply s_wpick_t rfl rfl rfl
       · conv => lhs; whnf
       · first | rfl | assumption
       · conv => lhs; whnf
       · first | exact bT1 (by assumption) | exact bT2 (by assumption) | rfl)
    | (apply s_wanted_pick_f rfl rfl rfl
       · conv => lhs; whnf
       · first | rfl | assumption
       · conv => lhs; whnf
       · first | exact bF1 (by assumption) | exact bF2 (by assumption) | rfl)
    | (apply s_wpick_f rfl rfl rfl
       · conv => lhs; whnf
       · first | rfl | assumption
       · conv => lhs; whnf
       · first | exact bF1 (by assumption) | exact bF2 (by assumption) | rfl)
    | (apply aw_cond_kt
       · conv => lhs; whnf
       · assumption)
    | (apply aw_cond_kf
       · conv => lhs; whnf
       · assumption)
    | exact (k0 (by assumption)).elim
    | exact (m0 (by assumption)).elim
    | exact (k1 (by assumption)).elim
    | exact (m1 (by assumption)).elim
    | exact (k2 (by assumption)).elim
    | exact (m2 (by assumption)).elim
    | exact (k3 (by assumption)).elim
    | exact (m3 (by assumption)).elim
    | exact (k4 (by assumption)).elim
    | exact (m4 (by assumption)).elim
    | refine k_cut_ret ?_
    | refine k_cut_exit ?_
    | refine k_cut ?_
    | refine aw_region ?_
    | refine awo_nil ?_
    | refine k_seq ?_
    | refine k_block ?_
    | refine k_scope ?_
    | (apply aw_1
       conv => whnf
       refine ⟨?_, trivial⟩)
    | (apply s_pick_t rfl rfl
       · conv => lhs; whnf
       · conv => lhs; whnf
       · first | exact bT1 (by assumption) | exact bT2 (by assumption))
    | (apply s_pick_f rfl rfl
       · conv => lhs; whnf
       · conv => lhs; whnf
       · first | exact bF1 (by assumption) | exact bF2 (by assumption))
    | (apply s_1
       conv => whnf; arg 1; arg 4; arg 3; whnf
       refine ⟨?_, ?_⟩)
    | (apply s_val rfl
       · conv => lhs; whnf
       · conv => lhs; whnf; arg 2; whnf)
    | (apply s_call rfl
       · conv => lhs; whnf
       · conv => lhs; whnf
       · first | exact hI)
    | (apply s_box rfl rfl rfl rfl
       · conv => lhs; whnf; arg 1; whnf
       · rfl)
    | (apply s_alloc rfl rfl rfl rfl
       · conv => lhs; whnf; arg 1; whnf
       · rfl)
    | (apply s_store rfl rfl rfl
       · conv => lhs; whnf
       · conv => lhs; whnf; arg 1; whnf
       · conv => lhs; whnf; arg 1; whnf
       · exact ⟨by kernel_rfl, by kernel_rfl⟩
       · rfl)
    | (apply s_app rfl rfl
       · conv => lhs; whnf
       · first | exact elemStr | (conv => lhs; whnf; arg 1; whnf)
       · first | exact fun _ => rfl | (intro _; kernel_rfl)
       · conv => lhs; whnf
       · conv => lhs; whnf; arg 1; whnf
       · conv => lhs; whnf)
    | (apply s_app_nil rfl rfl rfl rfl
       · first | exact elemStr | (conv => lhs; whnf; arg 1; whnf)
       · first | exact fun _ => rfl | (intro _; kernel_rfl)
       · conv => lhs; whnf
       · conv => lhs; whnf)
    | (apply s_lit0 rfl rfl
       · conv => lhs; whnf
       · first | exact elemStr | (conv => lhs; whnf; arg 1; whnf))
    | (apply s_lit1 rfl rfl
       · conv => lhs; whnf
       · first | exact elemStr | (conv => lhs; whnf; arg 1; whnf)
       · conv => lhs; whnf; arg 1; whnf
       · rfl
       · rfl)
    | (apply s_onlit rfl rfl
       · conv => lhs; whnf
       · first | exact elemStr | (conv => lhs; whnf; arg 1; whnf)
       · first | exact fun _ => rfl | (intro _; kernel_rfl)
       · conv => lhs; whnf
       · conv => lhs; whnf)
    | (apply s_wanted_val rfl
       · conv => lhs; whnf
       · conv => lhs; whnf
       · first | rfl | assumption
       · conv => lhs; whnf; arg 2; whnf)
    | (apply s_wanted_call rfl
       · conv => lhs; whnf
       · conv => lhs; whnf
       · first | rfl | assumption
       · conv => lhs; whnf
       · first | exact hI)
    | (apply s_skipU rfl
       · conv => lhs; whnf
       · conv => lhs; whnf
       · first | rfl | assumption)
    | (apply s_dead rfl
       · conv => lhs; whnf
       · rfl
       · rfl)
    | (apply s_guard_valU rfl
       · conv => lhs; whnf
       · conv => lhs; whnf
       · conv => lhs; whnf; arg 2; whnf)
    | (apply s_guard_callU rfl
       · conv => lhs; whnf
       · conv => lhs; whnf
       · conv => lhs; whnf
       · first | exact hI)
    | (apply s_guard_val rfl
       · conv => lhs; whnf
       · conv => lhs; whnf
       · conv => lhs; whnf; arg 2; whnf)
    | (apply s_guard_call rfl
       · conv => lhs; whnf
       · conv => lhs; whnf
       · conv => lhs; whnf
       · first | exact hI)
    | (apply aw_draw (by kernel_rfl) (by kernel_rfl))
    | apply y_nil
    | (apply y_pick_t rfl rfl
       · conv => lhs; whnf
       · conv => lhs; whnf
       · first | exact bT1 (by assumption) | exact bT2 (by assumption))
    | (apply y_pick_f rfl rfl
       · conv => lhs; whnf
       · conv => lhs; whnf
       · first | exact bF1 (by assumption) | exact bF2 (by assumption))
    | (apply y_val rfl
       · conv => lhs; whnf
       · conv => lhs; whnf; arg 2; whnf)
    | (apply y_call rfl
       · conv => lhs; whnf
       · conv => lhs; whnf
       · first | exact hI)
    | (apply y_store rfl rfl rfl
       · conv => lhs; whnf
       · rfl
       · rfl
       · conv => lhs; whnf; arg 1; whnf
       · conv => lhs; whnf; arg 1; whnf
       · exact ⟨by kernel_rfl, by kernel_rfl⟩
       · rfl)
    | (apply y_app rfl rfl
       · conv => lhs; whnf
       · first | exact elemStr | (conv => lhs; whnf; arg 1; whnf)
       · first | exact fun _ => rfl | (intro _; kernel_rfl)
       · conv => lhs; whnf
       · rfl
       · rfl
       · conv => lhs; whnf; arg 1; whnf
       · conv => lhs; whnf)
    | (apply y_lit0 rfl rfl
       · conv => lhs; whnf
       · first | exact elemStr | (conv => lhs; whnf; arg 1; whnf))
    | (apply y_lit1 rfl rfl
       · conv => lhs; whnf
       · first | exact elemStr | (conv => lhs; whnf; arg 1; whnf)
       · conv => lhs; whnf; arg 1; whnf
       · rfl
       · rfl)
    | (apply y_onlit rfl rfl
       · conv => lhs; whnf
       · first | exact elemStr | (conv => lhs; whnf; arg 1; whnf)
       · first | exact fun _ => rfl | (intro _; kernel_rfl)
       · conv => lhs; whnf
       · conv => lhs; whnf)
    | (apply y_wanted_val rfl
       · conv => lhs; whnf
       · conv => lhs; whnf
       · first | rfl | assumption
       · conv => lhs; whnf; arg 2; whnf)
    | (apply y_wanted_call rfl
       · conv => lhs; whnf
       · conv => lhs; whnf
       · first | rfl | assumption
       · conv => lhs; whnf
       · first | exact hI)
    | (apply y_skip rfl
       · conv => lhs; whnf
       · conv => lhs; whnf
       · first | rfl | assumption)
    | (apply y_guard_val rfl
       · conv => lhs; whnf
       · conv => lhs; whnf
       · conv => lhs; whnf; arg 2; whnf)
    | (apply y_guard_call rfl
       · conv => lhs; whnf
       · conv => lhs; whnf
       · conv => lhs; whnf
       · first | exact hI)
    | exact apartB_none
    | exact apartB_nil
    | exact all_nil
    | (show List.all _ _ = true; rfl)
    | (show apartB _ _ = true; rfl)
    | exact ([] : List Nat)
    | exact (1000000 : Nat)
    | (apply aw_cond_t
       · conv => lhs; whnf; arg 1; arg 1; whnf)
    | (apply aw_cond_f
       · conv => lhs; whnf; arg 1; arg 1; whnf)
    | (refine aw_cond (by conv => lhs; whnf) ?_ ?_ <;> intro hb)
    | refine aw_ret ?_
    | refine aw_exit ?_
    | refine k_seq_exit ?_
    | refine k_seq_ret ?_
    | refine k_block_ret ?_
    | refine k_block_hit rfl ?_
    | refine k_block_miss rfl ?_
    | refine k_scope_exit ?_
    | refine k_scope_ret ?_
    | refine k_loop_exit ?_
    | refine k_loop_ret ?_
    | refine k_end ?_
    | refine k_end_ret ?_
    | (refine ⟨_, by conv => lhs; whnf; arg 2; whnf, ?_⟩; conv => rhs; whnf)
    | exact trivial
    | intro hg)
    all_goals first
      | exact i64_ok (by omega)
      | rfl
      | (rw [gE_len]; exact ⟨by omega, by omega⟩)
      | (rw [oE_len]; exact ⟨by omega, by omega⟩)
      | (rw [sE_len]; exact ⟨by omega, by omega⟩)
      | (rw [pE_len]; exact ⟨by omega, by omega⟩)
      | (refine ⟨by omega, ?_⟩; first | (rw [gE_len]; omega) | (rw [oE_len]; omega) | (rw [sE_len]; omega) | (rw [pE_len]; omega))
      | ((simp only [ByteArray.size_append, bs_size, lit_size, List.size_toArray, List.length_append, List.length_cons, List.length_nil, maxLen, Nat.reduceAdd, Int.toNat_natCast]; omega); done)
      | skip
  · have e : codeS n = (gD pE (n - 60).toNat).s := by unfold codeS; rw [if_neg (by omega)]; rw [if_neg (by omega)]; rw [if_neg (by omega)]; rw [if_pos (by omega)]
    rw [show n - 60 = n - 20 - 20 - 20 by omega] at e
    rw [e]
    have f0 : decide (n ≥ 20) = true := decide_eq_true (by omega)
    have k0 : (decide (n ≥ 20) == true) = false → False := fun h => by rw [f0] at h; cases h
    have m0 : decide (n ≥ 20) = false → False := fun h => by rw [f0] at h; cases h
    have f1 : decide (n - 20 ≥ 20) = true := decide_eq_true (by omega)
    have k1 : (decide (n - 20 ≥ 20) == true) = false → False := fun h => by rw [f1] at h; cases h
    have m1 : decide (n - 20 ≥ 20) = false → False := fun h => by rw [f1] at h; cases h
    have f2 : decide (n - 20 - 20 ≥ 20) = true := decide_eq_true (by omega)
    have k2 : (decide (n - 20 - 20 ≥ 20) == true) = false → False := fun h => by rw [f2] at h; cases h
    have m2 : decide (n - 20 - 20 ≥ 20) = false → False := fun h => by rw [f2] at h; cases h
    have f3 : decide (n - 20 - 20 - 20 ≥ 0) = true := decide_eq_true (by omega)
    have k3 : (decide (n - 20 - 20 - 20 ≥ 0) == true) = false → False := fun h => by rw [f3] at h; cases h
    have m3 : decide (n - 20 - 20 - 20 ≥ 0) = false → False := fun h => by rw [f3] at h; cases h
    have f4 : decide (n - 20 - 20 - 20 < (pE.length : Nat)) = true := decide_eq_true (by rw [pE_len]; omega)
    have k4 : (decide (n - 20 - 20 - 20 < (pE.length : Nat)) == true) = false → False := fun h => by rw [f4] at h; cases h
    have m4 : decide (n - 20 - 20 - 20 < (pE.length : Nat)) = false → False := fun h => by rw [f4] at h; cases h
    refine ac_enter 37 Tryz.func8 rfl rfl rfl rfl ?_
    intro s w he
    repeat' (first
    | (apply s_lit gE rfl rfl
       · conv => lhs; whnf
       · first | exact elemStr | (conv => lhs; whnf; arg 1; whnf)
       · rfl
       · rfl
       · repeat' (first | exact trivial | apply And.intro | rfl))
    | (apply s_lit oE rfl rfl
       · conv => lhs; whnf
       · first | exact elemStr | (conv => lhs; whnf; arg 1; whnf)
       · rfl
       · rfl
       · repeat' (first | exact trivial | apply And.intro | rfl))
    | (apply s_lit sE rfl rfl
       · conv => lhs; whnf
       · first | exact elemStr | (conv => lhs; whnf; arg 1; whnf)
       · rfl
       · rfl
       · repeat' (first | exact trivial | apply And.intro | rfl))
    | (apply s_lit pE rfl rfl
       · conv => lhs; whnf
       · first | exact elemStr | (conv => lhs; whnf; arg 1; whnf)
       · rfl
       · rfl
       · repeat' (first | exact trivial | apply And.intro | rfl))
    | (apply s_wanted_pick_t rfl rfl rfl
       · conv => lhs; whnf
       · first | rfl | assumption
       · conv => lhs; whnf
       · first | exact bT1 (by assumption) | exact bT2 (by assumption) | rfl)
    | (apply s_wpick_t rfl rfl rfl
       · conv => lhs; whnf
       · first | rfl | assumption
       · conv => lhs; whnf
       · first | exact bT1 (by assumption) | exact bT2 (by assumption) | rfl)
    | (apply s_wanted_pick_f rfl rfl rfl
       · conv => lhs; whnf
       · first | rfl | assumption
       · conv => lhs; whnf
       · first | exact bF1 (by assumption) | exact bF2 (by assumption) | rfl)
    | (apply s_wpick_f rfl rfl rfl
       · conv => lhs; whnf
       · first | rfl | assumption
       · conv => lhs; whnf
       · first | exact bF1 (by assumption) | exact bF2 (by assumption) | rfl)
    | (apply aw_cond_kt
       · conv => lhs; whnf
       · assumption)
    | (apply aw_cond_kf
       · conv => lhs; whnf
       · assumption)
    | exact (k0 (by assumption)).elim
    | exact (m0 (by assumption)).elim
    | exact (k1 (by assumption)).elim
    | exact (m1 (by assumption)).elim
    | exact (k2 (by assumption)).elim
    | exact (m2 (by assumption)).elim
    | exact (k3 (by assumption)).elim
    | exact (m3 (by assumption)).elim
    | exact (k4 (by assumption)).elim
    | exact (m4 (by assumption)).elim
    | refine k_cut_ret ?_
    | refine k_cut_exit ?_
    | refine k_cut ?_
    | refine aw_region ?_
    | refine awo_nil ?_
    | refine k_seq ?_
    | refine k_block ?_
    | refine k_scope ?_
    | (apply aw_1
       conv => whnf
       refine ⟨?_, trivial⟩)
    | (apply s_pick_t rfl rfl
       · conv => lhs; whnf
       · conv => lhs; whnf
       · first | exact bT1 (by assumption) | exact bT2 (by assumption))
    | (apply s_pick_f rfl rfl
       · conv => lhs; whnf
       · conv => lhs; whnf
       · first | exact bF1 (by assumption) | exact bF2 (by assumption))
    | (apply s_1
       conv => whnf; arg 1; arg 4; arg 3; whnf
       refine ⟨?_, ?_⟩)
    | (apply s_val rfl
       · conv => lhs; whnf
       · conv => lhs; whnf; arg 2; whnf)
    | (apply s_call rfl
       · conv => lhs; whnf
       · conv => lhs; whnf
       · first | exact hI)
    | (apply s_box rfl rfl rfl rfl
       · conv => lhs; whnf; arg 1; whnf
       · rfl)
    | (apply s_alloc rfl rfl rfl rfl
       · conv => lhs; whnf; arg 1; whnf
       · rfl)
    | (apply s_store rfl rfl rfl
       · conv => lhs; whnf
       · conv => lhs; whnf; arg 1; whnf
       · conv => lhs; whnf; arg 1; whnf
       · exact ⟨by kernel_rfl, by kernel_rfl⟩
       · rfl)
    | (apply s_app rfl rfl
       · conv => lhs; whnf
       · first | exact elemStr | (conv => lhs; whnf; arg 1; whnf)
       · first | exact fun _ => rfl | (intro _; kernel_rfl)
       · conv => lhs; whnf
       · conv => lhs; whnf; arg 1; whnf
       · conv => lhs; whnf)
    | (apply s_app_nil rfl rfl rfl rfl
       · first | exact elemStr | (conv => lhs; whnf; arg 1; whnf)
       · first | exact fun _ => rfl | (intro _; kernel_rfl)
       · conv => lhs; whnf
       · conv => lhs; whnf)
    | (apply s_lit0 rfl rfl
       · conv => lhs; whnf
       · first | exact elemStr | (conv => lhs; whnf; arg 1; whnf))
    | (apply s_lit1 rfl rfl
       · conv => lhs; whnf
       · first | exact elemStr | (conv => lhs; whnf; arg 1; whnf)
       · conv => lhs; whnf; arg 1; whnf
       · rfl
       · rfl)
    | (apply s_onlit rfl rfl
       · conv => lhs; whnf
       · first | exact elemStr | (conv => lhs; whnf; arg 1; whnf)
       · first | exact fun _ => rfl | (intro _; kernel_rfl)
       · conv => lhs; whnf
       · conv => lhs; whnf)
    | (apply s_wanted_val rfl
       · conv => lhs; whnf
       · conv => lhs; whnf
       · first | rfl | assumption
       · conv => lhs; whnf; arg 2; whnf)
    | (apply s_wanted_call rfl
       · conv => lhs; whnf
       · conv => lhs; whnf
       · first | rfl | assumption
       · conv => lhs; whnf
       · first | exact hI)
    | (apply s_skipU rfl
       · conv => lhs; whnf
       · conv => lhs; whnf
       · first | rfl | assumption)
    | (apply s_dead rfl
       · conv => lhs; whnf
       · rfl
       · rfl)
    | (apply s_guard_valU rfl
       · conv => lhs; whnf
       · conv => lhs; whnf
       · conv => lhs; whnf; arg 2; whnf)
    | (apply s_guard_callU rfl
       · conv => lhs; whnf
       · conv => lhs; whnf
       · conv => lhs; whnf
       · first | exact hI)
    | (apply s_guard_val rfl
       · conv => lhs; whnf
       · conv => lhs; whnf
       · conv => lhs; whnf; arg 2; whnf)
    | (apply s_guard_call rfl
       · conv => lhs; whnf
       · conv => lhs; whnf
       · conv => lhs; whnf
       · first | exact hI)
    | (apply aw_draw (by kernel_rfl) (by kernel_rfl))
    | apply y_nil
    | (apply y_pick_t rfl rfl
       · conv => lhs; whnf
       · conv => lhs; whnf
       · first | exact bT1 (by assumption) | exact bT2 (by assumption))
    | (apply y_pick_f rfl rfl
       · conv => lhs; whnf
       · conv => lhs; whnf
       · first | exact bF1 (by assumption) | exact bF2 (by assumption))
    | (apply y_val rfl
       · conv => lhs; whnf
       · conv => lhs; whnf; arg 2; whnf)
    | (apply y_call rfl
       · conv => lhs; whnf
       · conv => lhs; whnf
       · first | exact hI)
    | (apply y_store rfl rfl rfl
       · conv => lhs; whnf
       · rfl
       · rfl
       · conv => lhs; whnf; arg 1; whnf
       · conv => lhs; whnf; arg 1; whnf
       · exact ⟨by kernel_rfl, by kernel_rfl⟩
       · rfl)
    | (apply y_app rfl rfl
       · conv => lhs; whnf
       · first | exact elemStr | (conv => lhs; whnf; arg 1; whnf)
       · first | exact fun _ => rfl | (intro _; kernel_rfl)
       · conv => lhs; whnf
       · rfl
       · rfl
       · conv => lhs; whnf; arg 1; whnf
       · conv => lhs; whnf)
    | (apply y_lit0 rfl rfl
       · conv => lhs; whnf
       · first | exact elemStr | (conv => lhs; whnf; arg 1; whnf))
    | (apply y_lit1 rfl rfl
       · conv => lhs; whnf
       · first | exact elemStr | (conv => lhs; whnf; arg 1; whnf)
       · conv => lhs; whnf; arg 1; whnf
       · rfl
       · rfl)
    | (apply y_onlit rfl rfl
       · conv => lhs; whnf
       · first | exact elemStr | (conv => lhs; whnf; arg 1; whnf)
       · first | exact fun _ => rfl | (intro _; kernel_rfl)
       · conv => lhs; whnf
       · conv => lhs; whnf)
    | (apply y_wanted_val rfl
       · conv => lhs; whnf
       · conv => lhs; whnf
       · first | rfl | assumption
       · conv => lhs; whnf; arg 2; whnf)
    | (apply y_wanted_call rfl
       · conv => lhs; whnf
       · conv => lhs; whnf
       · first | rfl | assumption
       · conv => lhs; whnf
       · first | exact hI)
    | (apply y_skip rfl
       · conv => lhs; whnf
       · conv => lhs; whnf
       · first | rfl | assumption)
    | (apply y_guard_val rfl
       · conv => lhs; whnf
       · conv => lhs; whnf
       · conv => lhs; whnf; arg 2; whnf)
    | (apply y_guard_call rfl
       · conv => lhs; whnf
       · conv => lhs; whnf
       · conv => lhs; whnf
       · first | exact hI)
    | exact apartB_none
    | exact apartB_nil
    | exact all_nil
    | (show List.all _ _ = true; rfl)
    | (show apartB _ _ = true; rfl)
    | exact ([] : List Nat)
    | exact (1000000 : Nat)
    | (apply aw_cond_t
       · conv => lhs; whnf; arg 1; arg 1; whnf)
    | (apply aw_cond_f
       · conv => lhs; whnf; arg 1; arg 1; whnf)
    | (refine aw_cond (by conv => lhs; whnf) ?_ ?_ <;> intro hb)
    | refine aw_ret ?_
    | refine aw_exit ?_
    | refine k_seq_exit ?_
    | refine k_seq_ret ?_
    | refine k_block_ret ?_
    | refine k_block_hit rfl ?_
    | refine k_block_miss rfl ?_
    | refine k_scope_exit ?_
    | refine k_scope_ret ?_
    | refine k_loop_exit ?_
    | refine k_loop_ret ?_
    | refine k_end ?_
    | refine k_end_ret ?_
    | (refine ⟨_, by conv => lhs; whnf; arg 2; whnf, ?_⟩; conv => rhs; whnf)
    | exact trivial
    | intro hg)
    all_goals first
      | exact i64_ok (by omega)
      | rfl
      | (rw [gE_len]; exact ⟨by omega, by omega⟩)
      | (rw [oE_len]; exact ⟨by omega, by omega⟩)
      | (rw [sE_len]; exact ⟨by omega, by omega⟩)
      | (rw [pE_len]; exact ⟨by omega, by omega⟩)
      | (refine ⟨by omega, ?_⟩; first | (rw [gE_len]; omega) | (rw [oE_len]; omega) | (rw [sE_len]; omega) | (rw [pE_len]; omega))
      | ((simp only [ByteArray.size_append, bs_size, lit_size, List.size_toArray, List.length_append, List.length_cons, List.length_nil, maxLen, Nat.reduceAdd, Int.toNat_natCast]; omega); done)
      | skip
  · have e : codeS n = (⟨#[69, 114, 114, 110, 111]⟩ : ByteArray) ++ bs (Lib.itoa n) := by unfold codeS; rw [if_neg (by omega), if_neg (by omega), if_neg (by omega), if_neg (by omega)]
    rw [e]
    have f0 : decide (n ≥ 20) = true := decide_eq_true (by omega)
    have k0 : (decide (n ≥ 20) == true) = false → False := fun h => by rw [f0] at h; cases h
    have m0 : decide (n ≥ 20) = false → False := fun h => by rw [f0] at h; cases h
    have f1 : decide (n - 20 ≥ 20) = true := decide_eq_true (by omega)
    have k1 : (decide (n - 20 ≥ 20) == true) = false → False := fun h => by rw [f1] at h; cases h
    have m1 : decide (n - 20 ≥ 20) = false → False := fun h => by rw [f1] at h; cases h
    have f2 : decide (n - 20 - 20 ≥ 20) = true := decide_eq_true (by omega)
    have k2 : (decide (n - 20 - 20 ≥ 20) == true) = false → False := fun h => by rw [f2] at h; cases h
    have m2 : decide (n - 20 - 20 ≥ 20) = false → False := fun h => by rw [f2] at h; cases h
    have f3 : decide (n - 20 - 20 - 20 ≥ 0) = true := decide_eq_true (by omega)
    have k3 : (decide (n - 20 - 20 - 20 ≥ 0) == true) = false → False := fun h => by rw [f3] at h; cases h
    have m3 : decide (n - 20 - 20 - 20 ≥ 0) = false → False := fun h => by rw [f3] at h; cases h
    have f4 : decide (n - 20 - 20 - 20 < (pE.length : Nat)) = false := decide_eq_false (by rw [pE_len]; omega)
    have k4 : (decide (n - 20 - 20 - 20 < (pE.length : Nat)) == true) = true → False := fun h => by rw [f4] at h; cases h
    have m4 : decide (n - 20 - 20 - 20 < (pE.length : Nat)) = true → False := fun h => by rw [f4] at h; cases h
    refine ac_enter 37 Tryz.func8 rfl rfl rfl rfl ?_
    intro s w he
    repeat' (first
    | (apply s_lit gE rfl rfl
       · conv => lhs; whnf
       · first | exact elemStr | (conv => lhs; whnf; arg 1; whnf)
       · rfl
       · rfl
       · repeat' (first | exact trivial | apply And.intro | rfl))
    | (apply s_lit oE rfl rfl
       · conv => lhs; whnf
       · first | exact elemStr | (conv => lhs; whnf; arg 1; whnf)
       · rfl
       · rfl
       · repeat' (first | exact trivial | apply And.intro | rfl))
    | (apply s_lit sE rfl rfl
       · conv => lhs; whnf
       · first | exact elemStr | (conv => lhs; whnf; arg 1; whnf)
       · rfl
       · rfl
       · repeat' (first | exact trivial | apply And.intro | rfl))
    | (apply s_lit pE rfl rfl
       · conv => lhs; whnf
       · first | exact elemStr | (conv => lhs; whnf; arg 1; whnf)
       · rfl
       · rfl
       · repeat' (first | exact trivial | apply And.intro | rfl))
    | (apply s_wanted_pick_t rfl rfl rfl
       · conv => lhs; whnf
       · first | rfl | assumption
       · conv => lhs; whnf
       · first | exact bT1 (by assumption) | exact bT2 (by assumption) | rfl)
    | (apply s_wpick_t rfl rfl rfl
       · conv => lhs; whnf
       · first | rfl | assumption
       · conv => lhs; whnf
       · first | exact bT1 (by assumption) | exact bT2 (by assumption) | rfl)
    | (apply s_wanted_pick_f rfl rfl rfl
       · conv => lhs; whnf
       · first | rfl | assumption
       · conv => lhs; whnf
       · first | exact bF1 (by assumption) | exact bF2 (by assumption) | rfl)
    | (apply s_wpick_f rfl rfl rfl
       · conv => lhs; whnf
       · first | rfl | assumption
       · conv => lhs; whnf
       · first | exact bF1 (by assumption) | exact bF2 (by assumption) | rfl)
    | (apply aw_cond_kt
       · conv => lhs; whnf
       · assumption)
    | (apply aw_cond_kf
       · conv => lhs; whnf
       · assumption)
    | exact (k0 (by assumption)).elim
    | exact (m0 (by assumption)).elim
    | exact (k1 (by assumption)).elim
    | exact (m1 (by assumption)).elim
    | exact (k2 (by assumption)).elim
    | exact (m2 (by assumption)).elim
    | exact (k3 (by assumption)).elim
    | exact (m3 (by assumption)).elim
    | exact (k4 (by assumption)).elim
    | exact (m4 (by assumption)).elim
    | refine k_cut_ret ?_
    | refine k_cut_exit ?_
    | refine k_cut ?_
    | refine aw_region ?_
    | refine awo_nil ?_
    | refine k_seq ?_
    | refine k_block ?_
    | refine k_scope ?_
    | (apply aw_1
       conv => whnf
       refine ⟨?_, trivial⟩)
    | (apply s_pick_t rfl rfl
       · conv => lhs; whnf
       · conv => lhs; whnf
       · first | exact bT1 (by assumption) | exact bT2 (by assumption))
    | (apply s_pick_f rfl rfl
       · conv => lhs; whnf
       · conv => lhs; whnf
       · first | exact bF1 (by assumption) | exact bF2 (by assumption))
    | (apply s_1
       conv => whnf; arg 1; arg 4; arg 3; whnf
       refine ⟨?_, ?_⟩)
    | (apply s_val rfl
       · conv => lhs; whnf
       · conv => lhs; whnf; arg 2; whnf)
    | (apply s_call rfl
       · conv => lhs; whnf
       · conv => lhs; whnf
       · first | exact hI)
    | (apply s_box rfl rfl rfl rfl
       · conv => lhs; whnf; arg 1; whnf
       · rfl)
    | (apply s_alloc rfl rfl rfl rfl
       · conv => lhs; whnf; arg 1; whnf
       · rfl)
    | (apply s_store rfl rfl rfl
       · conv => lhs; whnf
       · conv => lhs; whnf; arg 1; whnf
       · conv => lhs; whnf; arg 1; whnf
       · exact ⟨by kernel_rfl, by kernel_rfl⟩
       · rfl)
    | (apply s_app rfl rfl
       · conv => lhs; whnf
       · first | exact elemStr | (conv => lhs; whnf; arg 1; whnf)
       · first | exact fun _ => rfl | (intro _; kernel_rfl)
       · conv => lhs; whnf
       · conv => lhs; whnf; arg 1; whnf
       · conv => lhs; whnf)
    | (apply s_app_nil rfl rfl rfl rfl
       · first | exact elemStr | (conv => lhs; whnf; arg 1; whnf)
       · first | exact fun _ => rfl | (intro _; kernel_rfl)
       · conv => lhs; whnf
       · conv => lhs; whnf)
    | (apply s_lit0 rfl rfl
       · conv => lhs; whnf
       · first | exact elemStr | (conv => lhs; whnf; arg 1; whnf))
    | (apply s_lit1 rfl rfl
       · conv => lhs; whnf
       · first | exact elemStr | (conv => lhs; whnf; arg 1; whnf)
       · conv => lhs; whnf; arg 1; whnf
       · rfl
       · rfl)
    | (apply s_onlit rfl rfl
       · conv => lhs; whnf
       · first | exact elemStr | (conv => lhs; whnf; arg 1; whnf)
       · first | exact fun _ => rfl | (intro _; kernel_rfl)
       · conv => lhs; whnf
       · conv => lhs; whnf)
    | (apply s_wanted_val rfl
       · conv => lhs; whnf
       · conv => lhs; whnf
       · first | rfl | assumption
       · conv => lhs; whnf; arg 2; whnf)
    | (apply s_wanted_call rfl
       · conv => lhs; whnf
       · conv => lhs; whnf
       · first | rfl | assumption
       · conv => lhs; whnf
       · first | exact hI)
    | (apply s_skipU rfl
       · conv => lhs; whnf
       · conv => lhs; whnf
       · first | rfl | assumption)
    | (apply s_dead rfl
       · conv => lhs; whnf
       · rfl
       · rfl)
    | (apply s_guard_valU rfl
       · conv => lhs; whnf
       · conv => lhs; whnf
       · conv => lhs; whnf; arg 2; whnf)
    | (apply s_guard_callU rfl
       · conv => lhs; whnf
       · conv => lhs; whnf
       · conv => lhs; whnf
       · first | exact hI)
    | (apply s_guard_val rfl
       · conv => lhs; whnf
       · conv => lhs; whnf
       · conv => lhs; whnf; arg 2; whnf)
    | (apply s_guard_call rfl
       · conv => lhs; whnf
       · conv => lhs; whnf
       · conv => lhs; whnf
       · first | exact hI)
    | (apply aw_draw (by kernel_rfl) (by kernel_rfl))
    | apply y_nil
    | (apply y_pick_t rfl rfl
       · conv => lhs; whnf
       · conv => lhs; whnf
       · first | exact bT1 (by assumption) | exact bT2 (by assumption))
    | (apply y_pick_f rfl rfl
       · conv => lhs; whnf
       · conv => lhs; whnf
       · first | exact bF1 (by assumption) | exact bF2 (by assumption))
    | (apply y_val rfl
       · conv => lhs; whnf
       · conv => lhs; whnf; arg 2; whnf)
    | (apply y_call rfl
       · conv => lhs; whnf
       · conv => lhs; whnf
       · first | exact hI)
    | (apply y_store rfl rfl rfl
       · conv => lhs; whnf
       · rfl
       · rfl
       · conv => lhs; whnf; arg 1; whnf
       · conv => lhs; whnf; arg 1; whnf
       · exact ⟨by kernel_rfl, by kernel_rfl⟩
       · rfl)
    | (apply y_app rfl rfl
       · conv => lhs; whnf
       · first | exact elemStr | (conv => lhs; whnf; arg 1; whnf)
       · first | exact fun _ => rfl | (intro _; kernel_rfl)
       · conv => lhs; whnf
       · rfl
       · rfl
       · conv => lhs; whnf; arg 1; whnf
       · conv => lhs; whnf)
    | (apply y_lit0 rfl rfl
       · conv => lhs; whnf
       · first | exact elemStr | (conv => lhs; whnf; arg 1; whnf))
    | (apply y_lit1 rfl rfl
       · conv => lhs; whnf
       · first | exact elemStr | (conv => lhs; whnf; arg 1; whnf)
       · conv => lhs; whnf; arg 1; whnf
       · rfl
       · rfl)
    | (apply y_onlit rfl rfl
       · conv => lhs; whnf
       · first | exact elemStr | (conv => lhs; whnf; arg 1; whnf)
       · first | exact fun _ => rfl | (intro _; kernel_rfl)
       · conv => lhs; whnf
       · conv => lhs; whnf)
    | (apply y_wanted_val rfl
       · conv => lhs; whnf
       · conv => lhs; whnf
       · first | rfl | assumption
       · conv => lhs; whnf; arg 2; whnf)
    | (apply y_wanted_call rfl
       · conv => lhs; whnf
       · conv => lhs; whnf
       · first | rfl | assumption
       · conv => lhs; whnf
       · first | exact hI)
    | (apply y_skip rfl
       · conv => lhs; whnf
       · conv => lhs; whnf
       · first | rfl | assumption)
    | (apply y_guard_val rfl
       · conv => lhs; whnf
       · conv => lhs; whnf
       · conv => lhs; whnf; arg 2; whnf)
    | (apply y_guard_call rfl
       · conv => lhs; whnf
       · conv => lhs; whnf
       · conv => lhs; whnf
       · first | exact hI)
    | exact apartB_none
    | exact apartB_nil
    | exact all_nil
    | (show List.all _ _ = true; rfl)
    | (show apartB _ _ = true; rfl)
    | exact ([] : List Nat)
    | exact (1000000 : Nat)
    | (apply aw_cond_t
       · conv => lhs; whnf; arg 1; arg 1; whnf)
    | (apply aw_cond_f
       · conv => lhs; whnf; arg 1; arg 1; whnf)
    | (refine aw_cond (by conv => lhs; whnf) ?_ ?_ <;> intro hb)
    | refine aw_ret ?_
    | refine aw_exit ?_
    | refine k_seq_exit ?_
    | refine k_seq_ret ?_
    | refine k_block_ret ?_
    | refine k_block_hit rfl ?_
    | refine k_block_miss rfl ?_
    | refine k_scope_exit ?_
    | refine k_scope_ret ?_
    | refine k_loop_exit ?_
    | refine k_loop_ret ?_
    | refine k_end ?_
    | refine k_end_ret ?_
    | (refine ⟨_, by conv => lhs; whnf; arg 2; whnf, ?_⟩; conv => rhs; whnf)
    | exact trivial
    | intro hg)
    all_goals first
      | exact i64_ok (by omega)
      | rfl
      | (rw [gE_len]; exact ⟨by omega, by omega⟩)
      | (rw [oE_len]; exact ⟨by omega, by omega⟩)
      | (rw [sE_len]; exact ⟨by omega, by omega⟩)
      | (rw [pE_len]; exact ⟨by omega, by omega⟩)
      | (refine ⟨by omega, ?_⟩; first | (rw [gE_len]; omega) | (rw [oE_len]; omega) | (rw [sE_len]; omega) | (rw [pE_len]; omega))
      | ((simp only [ByteArray.size_append, bs_size, lit_size, List.size_toArray, List.length_append, List.length_cons, List.length_nil, maxLen, Nat.reduceAdd, Int.toNat_natCast]; omega); done)
      | skip
end Go.Proofs.YtdchiceeheiciaaGreatDoor
namespace Go.Proofs.YtdchiceeheiciaaGreatDoor
open Go.RowKit
set_option linter.unusedSectionVars false
attribute [local irreducible] wpList Calls Code.wp AW AWo OpOk seqK blockK scopeK loopK endK AC absLex Yld Sub
attribute [local irreducible] ACB ACX YldG
def faultZ : D := .obj [.int 4, .str ⟨#[]⟩]
set_option maxHeartbeats 8000000 in
set_option maxRecDepth 100000 in
theorem elemFault : elemOk Tryz.prog 37 = some (24, 24) := by kernel_rfl
noncomputable def WFz : V := .agg (cellsV Tryz.prog 12 24 faultZ)
def superZ : D := .obj [.list [], .obj [.list []], .list [], .list []]
noncomputable def WSz : V := .agg (cellsV Tryz.prog 12 36 superZ)
set_option maxHeartbeats 8000000 in
set_option maxRecDepth 100000 in
theorem named0_ac : AC EN Tryz.prog 12 [.c (.slice none 0 0)] (.sl 24 [faultZ]) := by
  refine ac_enter 57 Tryz.func12 rfl rfl rfl rfl ?_
  intro s w he
  repeat' (first
    | (apply s_valW (WFz) rfl rfl
       · conv => lhs; whnf; arg 2; whnf
       · repeat' (first | exact VLe.refl _ | exact VLe.nil _ | exact VLe.lit _ _ | exact VLe.own _ _ _ | apply VLe.agg | apply VLeL.cons | exact VLeL.nil))
    | (apply s_lit [faultZ] rfl rfl
       · conv => lhs; whnf
       · first | exact elemFault | (conv => lhs; whnf; arg 1; whnf)
       · rfl
       · rfl
       · repeat' (first | exact trivial | apply And.intro | rfl))
    | (apply s_wanted_pick_t rfl rfl rfl
       · conv => lhs; whnf
       · first | rfl | assumption | decide +kernel
       · conv => lhs; whnf
       · first | decide +kernel | rfl)
    | (apply s_wpick_t rfl rfl rfl
       · conv => lhs; whnf
       · first | rfl | assumption | decide +kernel
       · conv => lhs; whnf
       · first | decide +kernel | rfl)
    | (apply s_wanted_pick_f rfl rfl rfl
       · conv => lhs; whnf
       · first | rfl | assumption | decide +kernel
       · conv => lhs; whnf
       · first | decide +kernel | rfl)
    | (apply s_wpick_f rfl rfl rfl
       · conv => lhs; whnf
       · first | rfl | assumption | decide +kernel
       · conv => lhs; whnf
       · first | decide +kernel | rfl)
    | apply aw_rounds 7
    | refine k_rnd ?_
    | refine k_rnd_exit ?_
    | refine k_rnd_ret ?_
    | (apply aw_cond_kt
       · conv => lhs; whnf
       · decide +kernel)
    | (apply aw_cond_kf
       · conv => lhs; whnf
       · decide +kernel)
    | refine aw_region ?_
    | refine awo_nil ?_
    | refine k_seq ?_
    | refine k_block ?_
    | refine k_scope ?_
    | (apply aw_1
       conv => whnf
       refine ⟨?_, trivial⟩)
    | (apply s_pick_t rfl rfl
       · conv => lhs; whnf
       · conv => lhs; whnf
       · first | decide +kernel)
    | (apply s_pick_f rfl rfl
       · conv => lhs; whnf
       · conv => lhs; whnf
       · first | decide +kernel)
    | (apply s_1
       conv => whnf; arg 1; arg 4; arg 3; whnf
       refine ⟨?_, ?_⟩)
    | (apply s_val rfl
       · conv => lhs; whnf
       · conv => lhs; whnf; arg 2; whnf)
    | (apply s_call rfl
       · conv => lhs; whnf
       · conv => lhs; whnf
       · first | fail)
    | (apply s_box rfl rfl rfl rfl
       · conv => lhs; whnf; arg 1; whnf
       · rfl)
    | (apply s_alloc rfl rfl rfl rfl
       · conv => lhs; whnf; arg 1; whnf
       · rfl)
    | (apply s_store rfl rfl rfl
       · conv => lhs; whnf
       · conv => lhs; whnf; arg 1; whnf
       · conv => lhs; whnf; arg 1; whnf
       · exact ⟨by kernel_rfl, by kernel_rfl⟩
       · rfl)
    | (apply s_app rfl rfl
       · conv => lhs; whnf
       · first | exact elemFault | (conv => lhs; whnf; arg 1; whnf)
       · first | exact fun _ => rfl | (intro _; kernel_rfl)
       · conv => lhs; whnf
       · conv => lhs; whnf; arg 1; whnf
       · conv => lhs; whnf)
    | (apply s_app_nil rfl rfl rfl rfl
       · first | exact elemFault | (conv => lhs; whnf; arg 1; whnf)
       · first | exact fun _ => rfl | (intro _; kernel_rfl)
       · conv => lhs; whnf
       · conv => lhs; whnf)
    | (apply s_lit0 rfl rfl
       · conv => lhs; whnf
       · first | exact elemFault | (conv => lhs; whnf; arg 1; whnf))
    | (apply s_lit1 rfl rfl
       · conv => lhs; whnf
       · first | exact elemFault | (conv => lhs; whnf; arg 1; whnf)
       · conv => lhs; whnf; arg 1; whnf
       · rfl
       · rfl)
    | (apply s_onlit rfl rfl
       · conv => lhs; whnf
       · first | exact elemFault | (conv => lhs; whnf; arg 1; whnf)
       · first | exact fun _ => rfl | (intro _; kernel_rfl)
       · conv => lhs; whnf
       · conv => lhs; whnf)
    | (apply s_wanted_val rfl
       · conv => lhs; whnf
       · conv => lhs; whnf
       · first | rfl | assumption | decide +kernel
       · conv => lhs; whnf; arg 2; whnf)
    | (apply s_wanted_call rfl
       · conv => lhs; whnf
       · conv => lhs; whnf
       · first | rfl | assumption | decide +kernel
       · conv => lhs; whnf
       · first | fail)
    | (apply s_skipU rfl
       · conv => lhs; whnf
       · conv => lhs; whnf
       · first | rfl | assumption | decide +kernel)
    | (apply s_dead rfl
       · conv => lhs; whnf
       · rfl
       · rfl)
    | (apply s_guard_valU rfl
       · conv => lhs; whnf
       · conv => lhs; whnf
       · conv => lhs; whnf; arg 2; whnf)
    | (apply s_guard_callU rfl
       · conv => lhs; whnf
       · conv => lhs; whnf
       · conv => lhs; whnf
       · first | fail)
    | (apply s_guard_val rfl
       · conv => lhs; whnf
       · conv => lhs; whnf
       · conv => lhs; whnf; arg 2; whnf)
    | (apply s_guard_call rfl
       · conv => lhs; whnf
       · conv => lhs; whnf
       · conv => lhs; whnf
       · first | fail)
    | (apply aw_draw (by kernel_rfl) (by kernel_rfl))
    | apply y_nil
    | (apply y_pick_t rfl rfl
       · conv => lhs; whnf
       · conv => lhs; whnf
       · first | decide +kernel)
    | (apply y_pick_f rfl rfl
       · conv => lhs; whnf
       · conv => lhs; whnf
       · first | decide +kernel)
    | (apply y_val rfl
       · conv => lhs; whnf
       · conv => lhs; whnf; arg 2; whnf)
    | (apply y_call rfl
       · conv => lhs; whnf
       · conv => lhs; whnf
       · first | fail)
    | (apply y_store rfl rfl rfl
       · conv => lhs; whnf
       · rfl
       · rfl
       · conv => lhs; whnf; arg 1; whnf
       · conv => lhs; whnf; arg 1; whnf
       · exact ⟨by kernel_rfl, by kernel_rfl⟩
       · rfl)
    | (apply y_app rfl rfl
       · conv => lhs; whnf
       · first | exact elemFault | (conv => lhs; whnf; arg 1; whnf)
       · first | exact fun _ => rfl | (intro _; kernel_rfl)
       · conv => lhs; whnf
       · rfl
       · rfl
       · conv => lhs; whnf; arg 1; whnf
       · conv => lhs; whnf)
    | (apply y_lit0 rfl rfl
       · conv => lhs; whnf
       · first | exact elemFault | (conv => lhs; whnf; arg 1; whnf))
    | (apply y_lit1 rfl rfl
       · conv => lhs; whnf
       · first | exact elemFault | (conv => lhs; whnf; arg 1; whnf)
       · conv => lhs; whnf; arg 1; whnf
       · rfl
       · rfl)
    | (apply y_onlit rfl rfl
       · conv => lhs; whnf
       · first | exact elemFault | (conv => lhs; whnf; arg 1; whnf)
       · first | exact fun _ => rfl | (intro _; kernel_rfl)
       · conv => lhs; whnf
       · conv => lhs; whnf)
    | (apply y_wanted_val rfl
       · conv => lhs; whnf
       · conv => lhs; whnf
       · first | rfl | assumption | decide +kernel
       · conv => lhs; whnf; arg 2; whnf)
    | (apply y_wanted_call rfl
       · conv => lhs; whnf
       · conv => lhs; whnf
       · first | rfl | assumption | decide +kernel
       · conv => lhs; whnf
       · first | fail)
    | (apply y_skip rfl
       · conv => lhs; whnf
       · conv => lhs; whnf
       · first | rfl | assumption | decide +kernel)
    | (apply y_guard_val rfl
       · conv => lhs; whnf
       · conv => lhs; whnf
       · conv => lhs; whnf; arg 2; whnf)
    | (apply y_guard_call rfl
       · conv => lhs; whnf
       · conv => lhs; whnf
       · conv => lhs; whnf
       · first | fail)
    | exact apartB_none
    | exact apartB_nil
    | exact all_nil
    | (show List.all _ _ = true; rfl)
    | (show apartB _ _ = true; rfl)
    | exact ([] : List Nat)
    | exact (1000000 : Nat)
    | (apply aw_cond_t
       · conv => lhs; whnf; arg 1; arg 1; whnf)
    | (apply aw_cond_f
       · conv => lhs; whnf; arg 1; arg 1; whnf)
    | (refine aw_cond (by conv => lhs; whnf) ?_ ?_ <;> intro hb)
    | refine aw_ret ?_
    | refine aw_exit ?_
    | refine k_seq_exit ?_
    | refine k_seq_ret ?_
    | refine k_block_ret ?_
    | refine k_block_hit rfl ?_
    | refine k_block_miss rfl ?_
    | refine k_scope_exit ?_
    | refine k_scope_ret ?_
    | refine k_loop_exit ?_
    | refine k_loop_ret ?_
    | refine k_end ?_
    | refine k_end_ret ?_
    | (refine ⟨_, by conv => lhs; whnf; arg 2; whnf, ?_⟩; conv => rhs; whnf)
    | exact trivial
    | intro hg)
  all_goals exact Nat.zero_le _
set_option maxHeartbeats 8000000 in
set_option maxRecDepth 100000 in
theorem compose0_ac : AC EN Tryz.prog 9 [.c (.slice none 0 0)] (.tup [.agg (cellsV Tryz.prog 12 36 superZ), .sl 24 [faultZ]]) := by
  have h := named0_ac
  refine ac_enter 102 Tryz.func9 rfl rfl rfl rfl ?_
  intro s w he
  repeat' (first
    | (apply s_valW (WSz) rfl rfl
       · conv => lhs; whnf; arg 2; whnf
       · repeat' (first | exact VLe.refl _ | exact VLe.nil _ | exact VLe.lit _ _ | exact VLe.own _ _ _ | apply VLe.agg | apply VLeL.cons | exact VLeL.nil))
    | (apply s_wanted_pick_t rfl rfl rfl
       · conv => lhs; whnf
       · first | rfl | assumption | decide +kernel
       · conv => lhs; whnf
       · first | decide +kernel | rfl)
    | (apply s_wpick_t rfl rfl rfl
       · conv => lhs; whnf
       · first | rfl | assumption | decide +kernel
       · conv => lhs; whnf
       · first | decide +kernel | rfl)
    | (apply s_wanted_pick_f rfl rfl rfl
       · conv => lhs; whnf
       · first | rfl | assumption | decide +kernel
       · conv => lhs; whnf
       · first | decide +kernel | rfl)
    | (apply s_wpick_f rfl rfl rfl
       · conv => lhs; whnf
       · first | rfl | assumption | decide +kernel
       · conv => lhs; whnf
       · first | decide +kernel | rfl)
    | apply aw_rounds 7
    | refine k_rnd ?_
    | refine k_rnd_exit ?_
    | refine k_rnd_ret ?_
    | (apply aw_cond_kt
       · conv => lhs; whnf
       · decide +kernel)
    | (apply aw_cond_kf
       · conv => lhs; whnf
       · decide +kernel)
    | refine aw_region ?_
    | refine awo_nil ?_
    | refine k_seq ?_
    | refine k_block ?_
    | refine k_scope ?_
    | (apply aw_1
       conv => whnf
       refine ⟨?_, trivial⟩)
    | (apply s_pick_t rfl rfl
       · conv => lhs; whnf
       · conv => lhs; whnf
       · first | decide +kernel)
    | (apply s_pick_f rfl rfl
       · conv => lhs; whnf
       · conv => lhs; whnf
       · first | decide +kernel)
    | (apply s_1
       conv => whnf; arg 1; arg 4; arg 3; whnf
       refine ⟨?_, ?_⟩)
    | (apply s_val rfl
       · conv => lhs; whnf
       · conv => lhs; whnf; arg 2; whnf)
    | (apply s_call rfl
       · conv => lhs; whnf
       · conv => lhs; whnf
       · first | exact h)
    | (apply s_box rfl rfl rfl rfl
       · conv => lhs; whnf; arg 1; whnf
       · rfl)
    | (apply s_alloc rfl rfl rfl rfl
       · conv => lhs; whnf; arg 1; whnf
       · rfl)
    | (apply s_store rfl rfl rfl
       · conv => lhs; whnf
       · conv => lhs; whnf; arg 1; whnf
       · conv => lhs; whnf; arg 1; whnf
       · exact ⟨by kernel_rfl, by kernel_rfl⟩
       · rfl)
    | (apply s_app rfl rfl
       · conv => lhs; whnf
       · first | exact elemFault | (conv => lhs; whnf; arg 1; whnf)
       · first | exact fun _ => rfl | (intro _; kernel_rfl)
       · conv => lhs; whnf
       · conv => lhs; whnf; arg 1; whnf
       · conv => lhs; whnf)
    | (apply s_app_nil rfl rfl rfl rfl
       · first | exact elemFault | (conv => lhs; whnf; arg 1; whnf)
       · first | exact fun _ => rfl | (intro _; kernel_rfl)
       · conv => lhs; whnf
       · conv => lhs; whnf)
    | (apply s_lit0 rfl rfl
       · conv => lhs; whnf
       · first | exact elemFault | (conv => lhs; whnf; arg 1; whnf))
    | (apply s_lit1 rfl rfl
       · conv => lhs; whnf
       · first | exact elemFault | (conv => lhs; whnf; arg 1; whnf)
       · conv => lhs; whnf; arg 1; whnf
       · rfl
       · rfl)
    | (apply s_onlit rfl rfl
       · conv => lhs; whnf
       · first | exact elemFault | (conv => lhs; whnf; arg 1; whnf)
       · first | exact fun _ => rfl | (intro _; kernel_rfl)
       · conv => lhs; whnf
       · conv => lhs; whnf)
    | (apply s_wanted_val rfl
       · conv => lhs; whnf
       · conv => lhs; whnf
       · first | rfl | assumption | decide +kernel
       · conv => lhs; whnf; arg 2; whnf)
    | (apply s_wanted_call rfl
       · conv => lhs; whnf
       · conv => lhs; whnf
       · first | rfl | assumption | decide +kernel
       · conv => lhs; whnf
       · first | exact h)
    | (apply s_skipU rfl
       · conv => lhs; whnf
       · conv => lhs; whnf
       · first | rfl | assumption | decide +kernel)
    | (apply s_dead rfl
       · conv => lhs; whnf
       · rfl
       · rfl)
    | (apply s_guard_valU rfl
       · conv => lhs; whnf
       · conv => lhs; whnf
       · conv => lhs; whnf; arg 2; whnf)
    | (apply s_guard_callU rfl
       · conv => lhs; whnf
       · conv => lhs; whnf
       · conv => lhs; whnf
       · first | exact h)
    | (apply s_guard_val rfl
       · conv => lhs; whnf
       · conv => lhs; whnf
       · conv => lhs; whnf; arg 2; whnf)
    | (apply s_guard_call rfl
       · conv => lhs; whnf
       · conv => lhs; whnf
       · conv => lhs; whnf
       · first | exact h)
    | (apply aw_draw (by kernel_rfl) (by kernel_rfl))
    | apply y_nil
    | (apply y_pick_t rfl rfl
       · conv => lhs; whnf
       · conv => lhs; whnf
       · first | decide +kernel)
    | (apply y_pick_f rfl rfl
       · conv => lhs; whnf
       · conv => lhs; whnf
       · first | decide +kernel)
    | (apply y_val rfl
       · conv => lhs; whnf
       · conv => lhs; whnf; arg 2; whnf)
    | (apply y_call rfl
       · conv => lhs; whnf
       · conv => lhs; whnf
       · first | exact h)
    | (apply y_store rfl rfl rfl
       · conv => lhs; whnf
       · rfl
       · rfl
       · conv => lhs; whnf; arg 1; whnf
       · conv => lhs; whnf; arg 1; whnf
       · exact ⟨by kernel_rfl, by kernel_rfl⟩
       · rfl)
    | (apply y_app rfl rfl
       · conv => lhs; whnf
       · first | exact elemFault | (conv => lhs; whnf; arg 1; whnf)
       · first | exact fun _ => rfl | (intro _; kernel_rfl)
       · conv => lhs; whnf
       · rfl
       · rfl
       · conv => lhs; whnf; arg 1; whnf
       · conv => lhs; whnf)
    | (apply y_lit0 rfl rfl
       · conv => lhs; whnf
       · first | exact elemFault | (conv => lhs; whnf; arg 1; whnf))
    | (apply y_lit1 rfl rfl
       · conv => lhs; whnf
       · first | exact elemFault | (conv => lhs; whnf; arg 1; whnf)
       · conv => lhs; whnf; arg 1; whnf
       · rfl
       · rfl)
    | (apply y_onlit rfl rfl
       · conv => lhs; whnf
       · first | exact elemFault | (conv => lhs; whnf; arg 1; whnf)
       · first | exact fun _ => rfl | (intro _; kernel_rfl)
       · conv => lhs; whnf
       · conv => lhs; whnf)
    | (apply y_wanted_val rfl
       · conv => lhs; whnf
       · conv => lhs; whnf
       · first | rfl | assumption | decide +kernel
       · conv => lhs; whnf; arg 2; whnf)
    | (apply y_wanted_call rfl
       · conv => lhs; whnf
       · conv => lhs; whnf
       · first | rfl | assumption | decide +kernel
       · conv => lhs; whnf
       · first | exact h)
    | (apply y_skip rfl
       · conv => lhs; whnf
       · conv => lhs; whnf
       · first | rfl | assumption | decide +kernel)
    | (apply y_guard_val rfl
       · conv => lhs; whnf
       · conv => lhs; whnf
       · conv => lhs; whnf; arg 2; whnf)
    | (apply y_guard_call rfl
       · conv => lhs; whnf
       · conv => lhs; whnf
       · conv => lhs; whnf
       · first | exact h)
    | exact apartB_none
    | exact apartB_nil
    | exact all_nil
    | (show List.all _ _ = true; rfl)
    | (show apartB _ _ = true; rfl)
    | exact ([] : List Nat)
    | exact (1000000 : Nat)
    | (apply aw_cond_t
       · conv => lhs; whnf; arg 1; arg 1; whnf)
    | (apply aw_cond_f
       · conv => lhs; whnf; arg 1; arg 1; whnf)
    | (refine aw_cond (by conv => lhs; whnf) ?_ ?_ <;> intro hb)
    | refine aw_ret ?_
    | refine aw_exit ?_
    | refine k_seq_exit ?_
    | refine k_seq_ret ?_
    | refine k_block_ret ?_
    | refine k_block_hit rfl ?_
    | refine k_block_miss rfl ?_
    | refine k_scope_exit ?_
    | refine k_scope_ret ?_
    | refine k_loop_exit ?_
    | refine k_loop_ret ?_
    | refine k_end ?_
    | refine k_end_ret ?_
    | (refine ⟨_, by conv => lhs; whnf; arg 2; whnf, ?_⟩; conv => rhs; whnf)
    | exact trivial
    | intro hg)
  all_goals exact ⟨_, _, rfl, rfl, rfl⟩
set_option maxHeartbeats 8000000 in
set_option maxRecDepth 100000 in
theorem awake0_ac : AC EN Tryz.prog 6 [] (.c (.bool true)) := by
  have h := compose0_ac
  refine ac_enter 17 Tryz.func6 rfl rfl rfl rfl ?_
  intro s w he
  repeat' (first
    | (apply s_wanted_pick_t rfl rfl rfl
       · conv => lhs; whnf
       · first | rfl | assumption | decide +kernel
       · conv => lhs; whnf
       · first | decide +kernel | rfl)
    | (apply s_wpick_t rfl rfl rfl
       · conv => lhs; whnf
       · first | rfl | assumption | decide +kernel
       · conv => lhs; whnf
       · first | decide +kernel | rfl)
    | (apply s_wanted_pick_f rfl rfl rfl
       · conv => lhs; whnf
       · first | rfl | assumption | decide +kernel
       · conv => lhs; whnf
       · first | decide +kernel | rfl)
    | (apply s_wpick_f rfl rfl rfl
       · conv => lhs; whnf
       · first | rfl | assumption | decide +kernel
       · conv => lhs; whnf
       · first | decide +kernel | rfl)
    | apply aw_rounds 7
    | refine k_rnd ?_
    | refine k_rnd_exit ?_
    | refine k_rnd_ret ?_
    | (apply aw_cond_kt
       · conv => lhs; whnf
       · decide +kernel)
    | (apply aw_cond_kf
       · conv => lhs; whnf
       · decide +kernel)
    | refine aw_region ?_
    | refine awo_nil ?_
    | refine k_seq ?_
    | refine k_block ?_
    | refine k_scope ?_
    | (apply aw_1
       conv => whnf
       refine ⟨?_, trivial⟩)
    | (apply s_pick_t rfl rfl
       · conv => lhs; whnf
       · conv => lhs; whnf
       · first | decide +kernel)
    | (apply s_pick_f rfl rfl
       · conv => lhs; whnf
       · conv => lhs; whnf
       · first | decide +kernel)
    | (apply s_1
       conv => whnf; arg 1; arg 4; arg 3; whnf
       refine ⟨?_, ?_⟩)
    | (apply s_val rfl
       · conv => lhs; whnf
       · conv => lhs; whnf; arg 2; whnf)
    | (apply s_call rfl
       · conv => lhs; whnf
       · conv => lhs; whnf
       · first | exact h)
    | (apply s_box rfl rfl rfl rfl
       · conv => lhs; whnf; arg 1; whnf
       · rfl)
    | (apply s_alloc rfl rfl rfl rfl
       · conv => lhs; whnf; arg 1; whnf
       · rfl)
    | (apply s_store rfl rfl rfl
       · conv => lhs; whnf
       · conv => lhs; whnf; arg 1; whnf
       · conv => lhs; whnf; arg 1; whnf
       · exact ⟨by kernel_rfl, by kernel_rfl⟩
       · rfl)
    | (apply s_app rfl rfl
       · conv => lhs; whnf
       · first | exact elemFault | (conv => lhs; whnf; arg 1; whnf)
       · first | exact fun _ => rfl | (intro _; kernel_rfl)
       · conv => lhs; whnf
       · conv => lhs; whnf; arg 1; whnf
       · conv => lhs; whnf)
    | (apply s_app_nil rfl rfl rfl rfl
       · first | exact elemFault | (conv => lhs; whnf; arg 1; whnf)
       · first | exact fun _ => rfl | (intro _; kernel_rfl)
       · conv => lhs; whnf
       · conv => lhs; whnf)
    | (apply s_lit0 rfl rfl
       · conv => lhs; whnf
       · first | exact elemFault | (conv => lhs; whnf; arg 1; whnf))
    | (apply s_lit1 rfl rfl
       · conv => lhs; whnf
       · first | exact elemFault | (conv => lhs; whnf; arg 1; whnf)
       · conv => lhs; whnf; arg 1; whnf
       · rfl
       · rfl)
    | (apply s_onlit rfl rfl
       · conv => lhs; whnf
       · first | exact elemFault | (conv => lhs; whnf; arg 1; whnf)
       · first | exact fun _ => rfl | (intro _; kernel_rfl)
       · conv => lhs; whnf
       · conv => lhs; whnf)
    | (apply s_wanted_val rfl
       · conv => lhs; whnf
       · conv => lhs; whnf
       · first | rfl | assumption | decide +kernel
       · conv => lhs; whnf; arg 2; whnf)
    | (apply s_wanted_call rfl
       · conv => lhs; whnf
       · conv => lhs; whnf
       · first | rfl | assumption | decide +kernel
       · conv => lhs; whnf
       · first | exact h)
    | (apply s_skipU rfl
       · conv => lhs; whnf
       · conv => lhs; whnf
       · first | rfl | assumption | decide +kernel)
    | (apply s_dead rfl
       · conv => lhs; whnf
       · rfl
       · rfl)
    | (apply s_guard_valU rfl
       · conv => lhs; whnf
       · conv => lhs; whnf
       · conv => lhs; whnf; arg 2; whnf)
    | (apply s_guard_callU rfl
       · conv => lhs; whnf
       · conv => lhs; whnf
       · conv => lhs; whnf
       · first | exact h)
    | (apply s_guard_val rfl
       · conv => lhs; whnf
       · conv => lhs; whnf
       · conv => lhs; whnf; arg 2; whnf)
    | (apply s_guard_call rfl
       · conv => lhs; whnf
       · conv => lhs; whnf
       · conv => lhs; whnf
       · first | exact h)
    | (apply aw_draw (by kernel_rfl) (by kernel_rfl))
    | apply y_nil
    | (apply y_pick_t rfl rfl
       · conv => lhs; whnf
       · conv => lhs; whnf
       · first | decide +kernel)
    | (apply y_pick_f rfl rfl
       · conv => lhs; whnf
       · conv => lhs; whnf
       · first | decide +kernel)
    | (apply y_val rfl
       · conv => lhs; whnf
       · conv => lhs; whnf; arg 2; whnf)
    | (apply y_call rfl
       · conv => lhs; whnf
       · conv => lhs; whnf
       · first | exact h)
    | (apply y_store rfl rfl rfl
       · conv => lhs; whnf
       · rfl
       · rfl
       · conv => lhs; whnf; arg 1; whnf
       · conv => lhs; whnf; arg 1; whnf
       · exact ⟨by kernel_rfl, by kernel_rfl⟩
       · rfl)
    | (apply y_app rfl rfl
       · conv => lhs; whnf
       · first | exact elemFault | (conv => lhs; whnf; arg 1; whnf)
       · first | exact fun _ => rfl | (intro _; kernel_rfl)
       · conv => lhs; whnf
       · rfl
       · rfl
       · conv => lhs; whnf; arg 1; whnf
       · conv => lhs; whnf)
    | (apply y_lit0 rfl rfl
       · conv => lhs; whnf
       · first | exact elemFault | (conv => lhs; whnf; arg 1; whnf))
    | (apply y_lit1 rfl rfl
       · conv => lhs; whnf
       · first | exact elemFault | (conv => lhs; whnf; arg 1; whnf)
       · conv => lhs; whnf; arg 1; whnf
       · rfl
       · rfl)
    | (apply y_onlit rfl rfl
       · conv => lhs; whnf
       · first | exact elemFault | (conv => lhs; whnf; arg 1; whnf)
       · first | exact fun _ => rfl | (intro _; kernel_rfl)
       · conv => lhs; whnf
       · conv => lhs; whnf)
    | (apply y_wanted_val rfl
       · conv => lhs; whnf
       · conv => lhs; whnf
       · first | rfl | assumption | decide +kernel
       · conv => lhs; whnf; arg 2; whnf)
    | (apply y_wanted_call rfl
       · conv => lhs; whnf
       · conv => lhs; whnf
       · first | rfl | assumption | decide +kernel
       · conv => lhs; whnf
       · first | exact h)
    | (apply y_skip rfl
       · conv => lhs; whnf
       · conv => lhs; whnf
       · first | rfl | assumption | decide +kernel)
    | (apply y_guard_val rfl
       · conv => lhs; whnf
       · conv => lhs; whnf
       · conv => lhs; whnf; arg 2; whnf)
    | (apply y_guard_call rfl
       · conv => lhs; whnf
       · conv => lhs; whnf
       · conv => lhs; whnf
       · first | exact h)
    | exact apartB_none
    | exact apartB_nil
    | exact all_nil
    | (show List.all _ _ = true; rfl)
    | (show apartB _ _ = true; rfl)
    | exact ([] : List Nat)
    | exact (1000000 : Nat)
    | (apply aw_cond_t
       · conv => lhs; whnf; arg 1; arg 1; whnf)
    | (apply aw_cond_f
       · conv => lhs; whnf; arg 1; arg 1; whnf)
    | (refine aw_cond (by conv => lhs; whnf) ?_ ?_ <;> intro hb)
    | refine aw_ret ?_
    | refine aw_exit ?_
    | refine k_seq_exit ?_
    | refine k_seq_ret ?_
    | refine k_block_ret ?_
    | refine k_block_hit rfl ?_
    | refine k_block_miss rfl ?_
    | refine k_scope_exit ?_
    | refine k_scope_ret ?_
    | refine k_loop_exit ?_
    | refine k_loop_ret ?_
    | refine k_end ?_
    | refine k_end_ret ?_
    | (refine ⟨_, by conv => lhs; whnf; arg 2; whnf, ?_⟩; conv => rhs; whnf)
    | exact trivial
    | intro hg)
  all_goals first
    | rfl
    | exact ⟨by omega, by decide⟩
    | skip
end Go.Proofs.YtdchiceeheiciaaGreatDoor
namespace Go.Proofs.YtdchiceeheiciaaGreatDoor
open Go.RowKit
set_option linter.unusedSectionVars false
attribute [local irreducible] wpList Calls Code.wp AW AWo OpOk seqK blockK scopeK loopK endK AC absLex Yld Sub
attribute [local irreducible] ACB ACX YldG
set_option maxHeartbeats 8000000 in
set_option maxRecDepth 100000 in
theorem explainP_ac (n : Int) (at_ : ByteArray) (h0 : -9223372036854775808 ≤ n) (h1 : n ≤ 9223372036854775807) (ha : at_.size ≤ 140737488351232) : AC EN Tryz.prog 4 [.agg [.c (.int .i64 n), .c (.string at_)]] (.c (.string (codeS n ++ ⟨#[58, 32]⟩ ++ at_))) := by
  have h := codeP_ac n h0 h1
  have hz := codeS_size n h0 h1
  generalize codeS n = C at h hz
  refine ac_enter 10 Tryz.func4 rfl rfl rfl rfl ?_
  intro s w he
  repeat' (first
    | (apply s_wanted_pick_t rfl rfl rfl
       · conv => lhs; whnf
       · first | rfl | assumption
       · conv => lhs; whnf
       · first | exact bT1 (by assumption) | exact bT2 (by assumption) | rfl)
    | (apply s_wpick_t rfl rfl rfl
       · conv => lhs; whnf
       · first | rfl | assumption
       · conv => lhs; whnf
       · first | exact bT1 (by assumption) | exact bT2 (by assumption) | rfl)
    | (apply s_wanted_pick_f rfl rfl rfl
       · conv => lhs; whnf
       · first | rfl | assumption
       · conv => lhs; whnf
       · first | exact bF1 (by assumption) | exact bF2 (by assumption) | rfl)
    | (apply s_wpick_f rfl rfl rfl
       · conv => lhs; whnf
       · first | rfl | assumption
       · conv => lhs; whnf
       · first | exact bF1 (by assumption) | exact bF2 (by assumption) | rfl)
    | refine aw_region ?_
    | refine awo_nil ?_
    | refine k_seq ?_
    | refine k_block ?_
    | refine k_scope ?_
    | (apply aw_1
       conv => whnf
       refine ⟨?_, trivial⟩)
    | (apply s_pick_t rfl rfl
       · conv => lhs; whnf
       · conv => lhs; whnf
       · first | exact bT1 (by assumption) | exact bT2 (by assumption))
    | (apply s_pick_f rfl rfl
       · conv => lhs; whnf
       · conv => lhs; whnf
       · first | exact bF1 (by assumption) | exact bF2 (by assumption))
    | (apply s_1
       conv => whnf; arg 1; arg 4; arg 3; whnf
       refine ⟨?_, ?_⟩)
    | (apply s_val rfl
       · conv => lhs; whnf
       · conv => lhs; whnf; arg 2; whnf)
    | (apply s_call rfl
       · conv => lhs; whnf
       · conv => lhs; whnf
       · first | exact h)
    | (apply s_box rfl rfl rfl rfl
       · conv => lhs; whnf; arg 1; whnf
       · rfl)
    | (apply s_alloc rfl rfl rfl rfl
       · conv => lhs; whnf; arg 1; whnf
       · rfl)
    | (apply s_store rfl rfl rfl
       · conv => lhs; whnf
       · conv => lhs; whnf; arg 1; whnf
       · conv => lhs; whnf; arg 1; whnf
       · exact ⟨by kernel_rfl, by kernel_rfl⟩
       · rfl)
    | (apply s_app rfl rfl
       · conv => lhs; whnf
       · first | (conv => lhs; whnf; arg 1; whnf)
       · first | exact fun _ => rfl | (intro _; kernel_rfl)
       · conv => lhs; whnf
       · conv => lhs; whnf; arg 1; whnf
       · conv => lhs; whnf)
    | (apply s_app_nil rfl rfl rfl rfl
       · first | (conv => lhs; whnf; arg 1; whnf)
       · first | exact fun _ => rfl | (intro _; kernel_rfl)
       · conv => lhs; whnf
       · conv => lhs; whnf)
    | (apply s_lit0 rfl rfl
       · conv => lhs; whnf
       · first | (conv => lhs; whnf; arg 1; whnf))
    | (apply s_lit1 rfl rfl
       · conv => lhs; whnf
       · first | (conv => lhs; whnf; arg 1; whnf)
       · conv => lhs; whnf; arg 1; whnf
       · rfl
       · rfl)
    | (apply s_onlit rfl rfl
       · conv => lhs; whnf
       · first | (conv => lhs; whnf; arg 1; whnf)
       · first | exact fun _ => rfl | (intro _; kernel_rfl)
       · conv => lhs; whnf
       · conv => lhs; whnf)
    | (apply s_wanted_val rfl
       · conv => lhs; whnf
       · conv => lhs; whnf
       · first | rfl | assumption
       · conv => lhs; whnf; arg 2; whnf)
    | (apply s_wanted_call rfl
       · conv => lhs; whnf
       · conv => lhs; whnf
       · first | rfl | assumption
       · conv => lhs; whnf
       · first | exact h)
    | (apply s_skipU rfl
       · conv => lhs; whnf
       · conv => lhs; whnf
       · first | rfl | assumption)
    | (apply s_dead rfl
       · conv => lhs; whnf
       · rfl
       · rfl)
    | (apply s_guard_valU rfl
       · conv => lhs; whnf
       · conv => lhs; whnf
       · conv => lhs; whnf; arg 2; whnf)
    | (apply s_guard_callU rfl
       · conv => lhs; whnf
       · conv => lhs; whnf
       · conv => lhs; whnf
       · first | exact h)
    | (apply s_guard_val rfl
       · conv => lhs; whnf
       · conv => lhs; whnf
       · conv => lhs; whnf; arg 2; whnf)
    | (apply s_guard_call rfl
       · conv => lhs; whnf
       · conv => lhs; whnf
       · conv => lhs; whnf
       · first | exact h)
    | (apply aw_draw (by kernel_rfl) (by kernel_rfl))
    | apply y_nil
    | (apply y_pick_t rfl rfl
       · conv => lhs; whnf
       · conv => lhs; whnf
       · first | exact bT1 (by assumption) | exact bT2 (by assumption))
    | (apply y_pick_f rfl rfl
       · conv => lhs; whnf
       · conv => lhs; whnf
       · first | exact bF1 (by assumption) | exact bF2 (by assumption))
    | (apply y_val rfl
       · conv => lhs; whnf
       · conv => lhs; whnf; arg 2; whnf)
    | (apply y_call rfl
       · conv => lhs; whnf
       · conv => lhs; whnf
       · first | exact h)
    | (apply y_store rfl rfl rfl
       · conv => lhs; whnf
       · rfl
       · rfl
       · conv => lhs; whnf; arg 1; whnf
       · conv => lhs; whnf; arg 1; whnf
       · exact ⟨by kernel_rfl, by kernel_rfl⟩
       · rfl)
    | (apply y_app rfl rfl
       · conv => lhs; whnf
       · first | (conv => lhs; whnf; arg 1; whnf)
       · first | exact fun _ => rfl | (intro _; kernel_rfl)
       · conv => lhs; whnf
       · rfl
       · rfl
       · conv => lhs; whnf; arg 1; whnf
       · conv => lhs; whnf)
    | (apply y_lit0 rfl rfl
       · conv => lhs; whnf
       · first | (conv => lhs; whnf; arg 1; whnf))
    | (apply y_lit1 rfl rfl
       · conv => lhs; whnf
       · first | (conv => lhs; whnf; arg 1; whnf)
       · conv => lhs; whnf; arg 1; whnf
       · rfl
       · rfl)
    | (apply y_onlit rfl rfl
       · conv => lhs; whnf
       · first | (conv => lhs; whnf; arg 1; whnf)
       · first | exact fun _ => rfl | (intro _; kernel_rfl)
       · conv => lhs; whnf
       · conv => lhs; whnf)
    | (apply y_wanted_val rfl
       · conv => lhs; whnf
       · conv => lhs; whnf
       · first | rfl | assumption
       · conv => lhs; whnf; arg 2; whnf)
    | (apply y_wanted_call rfl
       · conv => lhs; whnf
       · conv => lhs; whnf
       · first | rfl | assumption
       · conv => lhs; whnf
       · first | exact h)
    | (apply y_skip rfl
       · conv => lhs; whnf
       · conv => lhs; whnf
       · first | rfl | assumption)
    | (apply y_guard_val rfl
       · conv => lhs; whnf
       · conv => lhs; whnf
       · conv => lhs; whnf; arg 2; whnf)
    | (apply y_guard_call rfl
       · conv => lhs; whnf
       · conv => lhs; whnf
       · conv => lhs; whnf
       · first | exact h)
    | exact apartB_none
    | exact apartB_nil
    | exact all_nil
    | (show List.all _ _ = true; rfl)
    | (show apartB _ _ = true; rfl)
    | exact ([] : List Nat)
    | exact (1000000 : Nat)
    | (apply aw_cond_t
       · conv => lhs; whnf; arg 1; arg 1; whnf)
    | (apply aw_cond_f
       · conv => lhs; whnf; arg 1; arg 1; whnf)
    | (refine aw_cond (by conv => lhs; whnf) ?_ ?_ <;> intro hb)
    | refine aw_ret ?_
    | refine aw_exit ?_
    | refine k_seq_exit ?_
    | refine k_seq_ret ?_
    | refine k_block_ret ?_
    | refine k_block_hit rfl ?_
    | refine k_block_miss rfl ?_
    | refine k_scope_exit ?_
    | refine k_scope_ret ?_
    | refine k_loop_exit ?_
    | refine k_loop_ret ?_
    | refine k_end ?_
    | refine k_end_ret ?_
    | (refine ⟨_, by conv => lhs; whnf; arg 2; whnf, ?_⟩; conv => rhs; whnf)
    | exact trivial
    | intro hg)
  all_goals first
    | rfl
    | ((simp only [ByteArray.size_append, bs_size, lit_size, List.size_toArray, List.length_append, List.length_cons, List.length_nil, maxLen, Nat.reduceAdd, Int.toNat_natCast]; omega); done)
    | (simp only [ByteArray.size_append, lit_size] at *; simp; omega)
    | skip
set_option maxHeartbeats 8000000 in
set_option maxRecDepth 100000 in
theorem explainR_ac (n : Int) (at_ : ByteArray) (h0 : -9223372036854775808 ≤ n) (h1 : n ≤ 9223372036854775807) (ha : at_.size ≤ 140737488351232) : AC EN Tryz.prog 5 [.agg [.c (.int .i64 n), .c (.string at_)]] (.c (.string (codeS n ++ ⟨#[58, 32]⟩ ++ at_))) := by
  have h := codeR_ac n h0 h1
  have hz := codeS_size n h0 h1
  generalize codeS n = C at h hz
  refine ac_enter 10 Tryz.func5 rfl rfl rfl rfl ?_
  intro s w he
  repeat' (first
    | (apply s_wanted_pick_t rfl rfl rfl
       · conv => lhs; whnf
       · first | rfl | assumption
       · conv => lhs; whnf
       · first | exact bT1 (by assumption) | exact bT2 (by assumption) | rfl)
    | (apply s_wpick_t rfl rfl rfl
       · conv => lhs; whnf
       · first | rfl | assumption
       · conv => lhs; whnf
       · first | exact bT1 (by assumption) | exact bT2 (by assumption) | rfl)
    | (apply s_wanted_pick_f rfl rfl rfl
       · conv => lhs; whnf
       · first | rfl | assumption
       · conv => lhs; whnf
       · first | exact bF1 (by assumption) | exact bF2 (by assumption) | rfl)
    | (apply s_wpick_f rfl rfl rfl
       · conv => lhs; whnf
       · first | rfl | assumption
       · conv => lhs; whnf
       · first | exact bF1 (by assumption) | exact bF2 (by assumption) | rfl)
    | refine aw_region ?_
    | refine awo_nil ?_
    | refine k_seq ?_
    | refine k_block ?_
    | refine k_scope ?_
    | (apply aw_1
       conv => whnf
       refine ⟨?_, trivial⟩)
    | (apply s_pick_t rfl rfl
       · conv => lhs; whnf
       · conv => lhs; whnf
       · first | exact bT1 (by assumption) | exact bT2 (by assumption))
    | (apply s_pick_f rfl rfl
       · conv => lhs; whnf
       · conv => lhs; whnf
       · first | exact bF1 (by assumption) | exact bF2 (by assumption))
    | (apply s_1
       conv => whnf; arg 1; arg 4; arg 3; whnf
       refine ⟨?_, ?_⟩)
    | (apply s_val rfl
       · conv => lhs; whnf
       · conv => lhs; whnf; arg 2; whnf)
    | (apply s_call rfl
       · conv => lhs; whnf
       · conv => lhs; whnf
       · first | exact h)
    | (apply s_box rfl rfl rfl rfl
       · conv => lhs; whnf; arg 1; whnf
       · rfl)
    | (apply s_alloc rfl rfl rfl rfl
       · conv => lhs; whnf; arg 1; whnf
       · rfl)
    | (apply s_store rfl rfl rfl
       · conv => lhs; whnf
       · conv => lhs; whnf; arg 1; whnf
       · conv => lhs; whnf; arg 1; whnf
       · exact ⟨by kernel_rfl, by kernel_rfl⟩
       · rfl)
    | (apply s_app rfl rfl
       · conv => lhs; whnf
       · first | (conv => lhs; whnf; arg 1; whnf)
       · first | exact fun _ => rfl | (intro _; kernel_rfl)
       · conv => lhs; whnf
       · conv => lhs; whnf; arg 1; whnf
       · conv => lhs; whnf)
    | (apply s_app_nil rfl rfl rfl rfl
       · first | (conv => lhs; whnf; arg 1; whnf)
       · first | exact fun _ => rfl | (intro _; kernel_rfl)
       · conv => lhs; whnf
       · conv => lhs; whnf)
    | (apply s_lit0 rfl rfl
       · conv => lhs; whnf
       · first | (conv => lhs; whnf; arg 1; whnf))
    | (apply s_lit1 rfl rfl
       · conv => lhs; whnf
       · first | (conv => lhs; whnf; arg 1; whnf)
       · conv => lhs; whnf; arg 1; whnf
       · rfl
       · rfl)
    | (apply s_onlit rfl rfl
       · conv => lhs; whnf
       · first | (conv => lhs; whnf; arg 1; whnf)
       · first | exact fun _ => rfl | (intro _; kernel_rfl)
       · conv => lhs; whnf
       · conv => lhs; whnf)
    | (apply s_wanted_val rfl
       · conv => lhs; whnf
       · conv => lhs; whnf
       · first | rfl | assumption
       · conv => lhs; whnf; arg 2; whnf)
    | (apply s_wanted_call rfl
       · conv => lhs; whnf
       · conv => lhs; whnf
       · first | rfl | assumption
       · conv => lhs; whnf
       · first | exact h)
    | (apply s_skipU rfl
       · conv => lhs; whnf
       · conv => lhs; whnf
       · first | rfl | assumption)
    | (apply s_dead rfl
       · conv => lhs; whnf
       · rfl
       · rfl)
    | (apply s_guard_valU rfl
       · conv => lhs; whnf
       · conv => lhs; whnf
       · conv => lhs; whnf; arg 2; whnf)
    | (apply s_guard_callU rfl
       · conv => lhs; whnf
       · conv => lhs; whnf
       · conv => lhs; whnf
       · first | exact h)
    | (apply s_guard_val rfl
       · conv => lhs; whnf
       · conv => lhs; whnf
       · conv => lhs; whnf; arg 2; whnf)
    | (apply s_guard_call rfl
       · conv => lhs; whnf
       · conv => lhs; whnf
       · conv => lhs; whnf
       · first | exact h)
    | (apply aw_draw (by kernel_rfl) (by kernel_rfl))
    | apply y_nil
    | (apply y_pick_t rfl rfl
       · conv => lhs; whnf
       · conv => lhs; whnf
       · first | exact bT1 (by assumption) | exact bT2 (by assumption))
    | (apply y_pick_f rfl rfl
       · conv => lhs; whnf
       · conv => lhs; whnf
       · first | exact bF1 (by assumption) | exact bF2 (by assumption))
    | (apply y_val rfl
       · conv => lhs; whnf
       · conv => lhs; whnf; arg 2; whnf)
    | (apply y_call rfl
       · conv => lhs; whnf
       · conv => lhs; whnf
       · first | exact h)
    | (apply y_store rfl rfl rfl
       · conv => lhs; whnf
       · rfl
       · rfl
       · conv => lhs; whnf; arg 1; whnf
       · conv => lhs; whnf; arg 1; whnf
       · exact ⟨by kernel_rfl, by kernel_rfl⟩
       · rfl)
    | (apply y_app rfl rfl
       · conv => lhs; whnf
       · first | (conv => lhs; whnf; arg 1; whnf)
       · first | exact fun _ => rfl | (intro _; kernel_rfl)
       · conv => lhs; whnf
       · rfl
       · rfl
       · conv => lhs; whnf; arg 1; whnf
       · conv => lhs; whnf)
    | (apply y_lit0 rfl rfl
       · conv => lhs; whnf
       · first | (conv => lhs; whnf; arg 1; whnf))
    | (apply y_lit1 rfl rfl
       · conv => lhs; whnf
       · first | (conv => lhs; whnf; arg 1; whnf)
       · conv => lhs; whnf; arg 1; whnf
       · rfl
       · rfl)
    | (apply y_onlit rfl rfl
       · conv => lhs; whnf
       · first | (conv => lhs; whnf; arg 1; whnf)
       · first | exact fun _ => rfl | (intro _; kernel_rfl)
       · conv => lhs; whnf
       · conv => lhs; whnf)
    | (apply y_wanted_val rfl
       · conv => lhs; whnf
       · conv => lhs; whnf
       · first | rfl | assumption
       · conv => lhs; whnf; arg 2; whnf)
    | (apply y_wanted_call rfl
       · conv => lhs; whnf
       · conv => lhs; whnf
       · first | rfl | assumption
       · conv => lhs; whnf
       · first | exact h)
    | (apply y_skip rfl
       · conv => lhs; whnf
       · conv => lhs; whnf
       · first | rfl | assumption)
    | (apply y_guard_val rfl
       · conv => lhs; whnf
       · conv => lhs; whnf
       · conv => lhs; whnf; arg 2; whnf)
    | (apply y_guard_call rfl
       · conv => lhs; whnf
       · conv => lhs; whnf
       · conv => lhs; whnf
       · first | exact h)
    | exact apartB_none
    | exact apartB_nil
    | exact all_nil
    | (show List.all _ _ = true; rfl)
    | (show apartB _ _ = true; rfl)
    | exact ([] : List Nat)
    | exact (1000000 : Nat)
    | (apply aw_cond_t
       · conv => lhs; whnf; arg 1; arg 1; whnf)
    | (apply aw_cond_f
       · conv => lhs; whnf; arg 1; arg 1; whnf)
    | (refine aw_cond (by conv => lhs; whnf) ?_ ?_ <;> intro hb)
    | refine aw_ret ?_
    | refine aw_exit ?_
    | refine k_seq_exit ?_
    | refine k_seq_ret ?_
    | refine k_block_ret ?_
    | refine k_block_hit rfl ?_
    | refine k_block_miss rfl ?_
    | refine k_scope_exit ?_
    | refine k_scope_ret ?_
    | refine k_loop_exit ?_
    | refine k_loop_ret ?_
    | refine k_end ?_
    | refine k_end_ret ?_
    | (refine ⟨_, by conv => lhs; whnf; arg 2; whnf, ?_⟩; conv => rhs; whnf)
    | exact trivial
    | intro hg)
  all_goals first
    | rfl
    | ((simp only [ByteArray.size_append, bs_size, lit_size, List.size_toArray, List.length_append, List.length_cons, List.length_nil, maxLen, Nat.reduceAdd, Int.toNat_natCast]; omega); done)
    | (simp only [ByteArray.size_append, lit_size] at *; simp; omega)
    | skip
set_option maxHeartbeats 8000000 in
set_option maxRecDepth 100000 in
theorem explainLaw_ac (n : Int) (at_ : ByteArray) (h0 : -9223372036854775808 ≤ n) (h1 : n ≤ 9223372036854775807) (ha : at_.size ≤ 140737488351232) : AC EN Tryz.prog 3 [.c (.int .i64 n), .c (.string at_)] (.c (.bool true)) := by
  have g1 := explainP_ac n at_ h0 h1 ha
  have g2 := explainR_ac n at_ h0 h1 ha
  have g3 := awake0_ac
  generalize codeS n ++ ⟨#[58, 32]⟩ ++ at_ = T at g1 g2
  have f1 : (T.toList == T.toList) = true := by simp
  have K1 : ((T.toList == T.toList) == true) = false → False := fun h => by rw [f1] at h; cases h
  have K2 : (T.toList == T.toList) = false → False := fun h => by rw [f1] at h; cases h
  refine ac_enter 17 Tryz.func3 rfl rfl rfl rfl ?_
  intro s w he
  repeat' (first
    | (apply s_wanted_pick_t rfl rfl rfl
       · conv => lhs; whnf
       · first | rfl | assumption
       · conv => lhs; whnf
       · first | exact bT1 (by assumption) | exact bT2 (by assumption) | rfl)
    | (apply s_wpick_t rfl rfl rfl
       · conv => lhs; whnf
       · first | rfl | assumption
       · conv => lhs; whnf
       · first | exact bT1 (by assumption) | exact bT2 (by assumption) | rfl)
    | (apply s_wanted_pick_f rfl rfl rfl
       · conv => lhs; whnf
       · first | rfl | assumption
       · conv => lhs; whnf
       · first | exact bF1 (by assumption) | exact bF2 (by assumption) | rfl)
    | (apply s_wpick_f rfl rfl rfl
       · conv => lhs; whnf
       · first | rfl | assumption
       · conv => lhs; whnf
       · first | exact bF1 (by assumption) | exact bF2 (by assumption) | rfl)
    | (apply aw_cond_kt
       · conv => lhs; whnf
       · assumption)
    | (apply aw_cond_kf
       · conv => lhs; whnf
       · assumption)
    | exact (K1 (by assumption)).elim
    | exact (K2 (by assumption)).elim
    | refine k_cut_ret ?_
    | refine k_cut_exit ?_
    | refine k_cut ?_
    | refine aw_region ?_
    | refine awo_nil ?_
    | refine k_seq ?_
    | refine k_block ?_
    | refine k_scope ?_
    | (apply aw_1
       conv => whnf
       refine ⟨?_, trivial⟩)
    | (apply s_pick_t rfl rfl
       · conv => lhs; whnf
       · conv => lhs; whnf
       · first | exact bT1 (by assumption) | exact bT2 (by assumption))
    | (apply s_pick_f rfl rfl
       · conv => lhs; whnf
       · conv => lhs; whnf
       · first | exact bF1 (by assumption) | exact bF2 (by assumption))
    | (apply s_1
       conv => whnf; arg 1; arg 4; arg 3; whnf
       refine ⟨?_, ?_⟩)
    | (apply s_val rfl
       · conv => lhs; whnf
       · conv => lhs; whnf; arg 2; whnf)
    | (apply s_call rfl
       · conv => lhs; whnf
       · conv => lhs; whnf
       · first | exact g1 | exact g2 | exact g3)
    | (apply s_box rfl rfl rfl rfl
       · conv => lhs; whnf; arg 1; whnf
       · rfl)
    | (apply s_alloc rfl rfl rfl rfl
       · conv => lhs; whnf; arg 1; whnf
       · rfl)
    | (apply s_store rfl rfl rfl
       · conv => lhs; whnf
       · conv => lhs; whnf; arg 1; whnf
       · conv => lhs; whnf; arg 1; whnf
       · exact ⟨by kernel_rfl, by kernel_rfl⟩
       · rfl)
    | (apply s_app rfl rfl
       · conv => lhs; whnf
       · first | (conv => lhs; whnf; arg 1; whnf)
       · first | exact fun _ => rfl | (intro _; kernel_rfl)
       · conv => lhs; whnf
       · conv => lhs; whnf; arg 1; whnf
       · conv => lhs; whnf)
    | (apply s_app_nil rfl rfl rfl rfl
       · first | (conv => lhs; whnf; arg 1; whnf)
       · first | exact fun _ => rfl | (intro _; kernel_rfl)
       · conv => lhs; whnf
       · conv => lhs; whnf)
    | (apply s_lit0 rfl rfl
       · conv => lhs; whnf
       · first | (conv => lhs; whnf; arg 1; whnf))
    | (apply s_lit1 rfl rfl
       · conv => lhs; whnf
       · first | (conv => lhs; whnf; arg 1; whnf)
       · conv => lhs; whnf; arg 1; whnf
       · rfl
       · rfl)
    | (apply s_onlit rfl rfl
       · conv => lhs; whnf
       · first | (conv => lhs; whnf; arg 1; whnf)
       · first | exact fun _ => rfl | (intro _; kernel_rfl)
       · conv => lhs; whnf
       · conv => lhs; whnf)
    | (apply s_wanted_val rfl
       · conv => lhs; whnf
       · conv => lhs; whnf
       · first | rfl | assumption
       · conv => lhs; whnf; arg 2; whnf)
    | (apply s_wanted_call rfl
       · conv => lhs; whnf
       · conv => lhs; whnf
       · first | rfl | assumption
       · conv => lhs; whnf
       · first | exact g1 | exact g2 | exact g3)
    | (apply s_skipU rfl
       · conv => lhs; whnf
       · conv => lhs; whnf
       · first | rfl | assumption)
    | (apply s_dead rfl
       · conv => lhs; whnf
       · rfl
       · rfl)
    | (apply s_guard_valU rfl
       · conv => lhs; whnf
       · conv => lhs; whnf
       · conv => lhs; whnf; arg 2; whnf)
    | (apply s_guard_callU rfl
       · conv => lhs; whnf
       · conv => lhs; whnf
       · conv => lhs; whnf
       · first | exact g1 | exact g2 | exact g3)
    | (apply s_guard_val rfl
       · conv => lhs; whnf
       · conv => lhs; whnf
       · conv => lhs; whnf; arg 2; whnf)
    | (apply s_guard_call rfl
       · conv => lhs; whnf
       · conv => lhs; whnf
       · conv => lhs; whnf
       · first | exact g1 | exact g2 | exact g3)
    | (apply aw_draw (by kernel_rfl) (by kernel_rfl))
    | apply y_nil
    | (apply y_pick_t rfl rfl
       · conv => lhs; whnf
       · conv => lhs; whnf
       · first | exact bT1 (by assumption) | exact bT2 (by assumption))
    | (apply y_pick_f rfl rfl
       · conv => lhs; whnf
       · conv => lhs; whnf
       · first | exact bF1 (by assumption) | exact bF2 (by assumption))
    | (apply y_val rfl
       · conv => lhs; whnf
       · conv => lhs; whnf; arg 2; whnf)
    | (apply y_call rfl
       · conv => lhs; whnf
       · conv => lhs; whnf
       · first | exact g1 | exact g2 | exact g3)
    | (apply y_store rfl rfl rfl
       · conv => lhs; whnf
       · rfl
       · rfl
       · conv => lhs; whnf; arg 1; whnf
       · conv => lhs; whnf; arg 1; whnf
       · exact ⟨by kernel_rfl, by kernel_rfl⟩
       · rfl)
    | (apply y_app rfl rfl
       · conv => lhs; whnf
       · first | (conv => lhs; whnf; arg 1; whnf)
       · first | exact fun _ => rfl | (intro _; kernel_rfl)
       · conv => lhs; whnf
       · rfl
       · rfl
       · conv => lhs; whnf; arg 1; whnf
       · conv => lhs; whnf)
    | (apply y_lit0 rfl rfl
       · conv => lhs; whnf
       · first | (conv => lhs; whnf; arg 1; whnf))
    | (apply y_lit1 rfl rfl
       · conv => lhs; whnf
       · first | (conv => lhs; whnf; arg 1; whnf)
       · conv => lhs; whnf; arg 1; whnf
       · rfl
       · rfl)
    | (apply y_onlit rfl rfl
       · conv => lhs; whnf
       · first | (conv => lhs; whnf; arg 1; whnf)
       · first | exact fun _ => rfl | (intro _; kernel_rfl)
       · conv => lhs; whnf
       · conv => lhs; whnf)
    | (apply y_wanted_val rfl
       · conv => lhs; whnf
       · conv => lhs; whnf
       · first | rfl | assumption
       · conv => lhs; whnf; arg 2; whnf)
    | (apply y_wanted_call rfl
       · conv => lhs; whnf
       · conv => lhs; whnf
       · first | rfl | assumption
       · conv => lhs; whnf
       · first | exact g1 | exact g2 | exact g3)
    | (apply y_skip rfl
       · conv => lhs; whnf
       · conv => lhs; whnf
       · first | rfl | assumption)
    | (apply y_guard_val rfl
       · conv => lhs; whnf
       · conv => lhs; whnf
       · conv => lhs; whnf; arg 2; whnf)
    | (apply y_guard_call rfl
       · conv => lhs; whnf
       · conv => lhs; whnf
       · conv => lhs; whnf
       · first | exact g1 | exact g2 | exact g3)
    | exact apartB_none
    | exact apartB_nil
    | exact all_nil
    | (show List.all _ _ = true; rfl)
    | (show apartB _ _ = true; rfl)
    | exact ([] : List Nat)
    | exact (1000000 : Nat)
    | (apply aw_cond_t
       · conv => lhs; whnf; arg 1; arg 1; whnf)
    | (apply aw_cond_f
       · conv => lhs; whnf; arg 1; arg 1; whnf)
    | (refine aw_cond (by conv => lhs; whnf) ?_ ?_ <;> intro hb)
    | refine aw_ret ?_
    | refine aw_exit ?_
    | refine k_seq_exit ?_
    | refine k_seq_ret ?_
    | refine k_block_ret ?_
    | refine k_block_hit rfl ?_
    | refine k_block_miss rfl ?_
    | refine k_scope_exit ?_
    | refine k_scope_ret ?_
    | refine k_loop_exit ?_
    | refine k_loop_ret ?_
    | refine k_end ?_
    | refine k_end_ret ?_
    | (refine ⟨_, by conv => lhs; whnf; arg 2; whnf, ?_⟩; conv => rhs; whnf)
    | exact trivial
    | intro hg)
  all_goals first
    | rfl
    | exact f1
    | exact (show Tryz.prog.underlying 4 = some TypeDesc.bool by kernel_rfl)
    | (simp; done)
    | skip
end Go.Proofs.YtdchiceeheiciaaGreatDoor
