/- Parts of a proof, merged by a program (shake.py). -/
import GoSem.Extern.BytealgCompare
import Derived.Lib.Bytealg
import Derived.Test.YthjiclhfhjdjpaaGreatDoorQ36
set_option linter.unusedVariables false
set_option linter.unusedSimpArgs false
namespace Go.Proofs.YthjiclhfhjdjpaaGreatDoor
open Go.RowKit
set_option linter.unusedSectionVars false
attribute [local irreducible] wpList Calls Code.wp AW AWo OpOk seqK blockK scopeK loopK endK AC absLex Yld Sub
attribute [local irreducible] ACB ACX ACE absLexG YldG
def ordI (a b : Int) : Int := if a < b then -1 else if b < a then 1 else 0
set_option maxHeartbeats 8000000 in
set_option maxRecDepth 100000 in
theorem ordI_zero {a b : Int} : ordI a b = 0 ↔ a = b := by
  unfold ordI
  split
  · constructor <;> intro h <;> omega
  · split
    · constructor <;> intro h <;> omega
    · constructor <;> intro h <;> omega
set_option maxHeartbeats 8000000 in
set_option maxRecDepth 100000 in
theorem cmpB_range : ∀ (a b : List UInt8), -1 ≤ Lib.compareBytes a b ∧ Lib.compareBytes a b ≤ 1
  | [], [] => by simp [Lib.compareBytes]
  | [], _ :: _ => by simp [Lib.compareBytes]
  | _ :: _, [] => by simp [Lib.compareBytes]
  | a :: ar, b :: br => by
    have := cmpB_range ar br
    unfold Lib.compareBytes
    split
    · omega
    · split
      · omega
      · exact this
set_option maxHeartbeats 8000000 in
set_option maxRecDepth 100000 in
theorem cmpB_zero : ∀ (a b : List UInt8), Lib.compareBytes a b = 0 ↔ a = b
  | [], [] => by simp [Lib.compareBytes]
  | [], _ :: _ => by simp [Lib.compareBytes]
  | _ :: _, [] => by simp [Lib.compareBytes]
  | a :: ar, b :: br => by
    have := cmpB_zero ar br
    unfold Lib.compareBytes
    by_cases h1 : a < b
    · rw [if_pos h1]
      constructor
      · intro h; omega
      · intro h; cases h; exact absurd h1 (UInt8.lt_irrefl _)
    · rw [if_neg h1]
      by_cases h2 : b < a
      · rw [if_pos h2]
        constructor
        · intro h; omega
        · intro h; cases h; exact absurd h2 (UInt8.lt_irrefl _)
      · rw [if_neg h2, this]
        have e : a = b := UInt8.le_antisymm (UInt8.not_lt.1 h2) (UInt8.not_lt.1 h1)
        simp [e]
set_option maxHeartbeats 8000000 in
set_option maxRecDepth 100000 in
theorem i64_small {n : Int} (h : -1 ≤ n ∧ n ≤ 1) : okV (.int .i64 n) := by
  show (Lit.int .i64 n).wf = true
  rw [wf_int]
  simp [IntKind.min, IntKind.max, IntKind.signed, IntKind.bits]; omega
set_option maxRecDepth 100000 in
set_option maxHeartbeats 8000000 in
theorem cmpStrC (a b : ByteArray) (w : World) : Calls Tryz.prog 335 #[.string a, .string b] w fun e w' => e = .returned (.int .i64 (Lib.compareBytes (tx a) (tx b))) ∧ w' = w := by
  go_enter Tryz.func335, Tryz.ntmps335
  go_wp2
  rw [run_callFunc_extern Tryz.func362 (by kernel_rfl) (by kernel_rfl) (by kernel_rfl) (e := Extern.BytealgCompare.compare) (by kernel_rfl), Lib.run_compareString]
  simp only [Result.andThen]
  rw [Oper.upon_value]
  go_wp2
  go_ret
  exact ⟨rfl, rfl⟩
set_option maxHeartbeats 8000000 in
set_option maxRecDepth 100000 in
theorem cmpStr1 (a b : ByteArray) : AC EN5 Tryz.prog 335 [.c (.string a), .c (.string b)] (.c (.int .i64 (Lib.compareBytes (tx a) (tx b)))) :=
  ac_of5 fun s w us hus _ => by
    obtain ⟨u, u2, rfl, h1, h2⟩ := rel_two hus
    rw [rel] at h1 h2
    obtain ⟨rfl, -⟩ := h1
    obtain ⟨rfl, -⟩ := h2
    exact ⟨fun _ _ => by rw [rel]; exact ⟨rfl, i64_small (cmpB_range _ _)⟩, (cmpStrC a b w).mono fun e w' h => ⟨h.1, by rw [h.2]; exact Below.refl _ _⟩⟩
set_option maxRecDepth 100000 in
set_option maxHeartbeats 8000000 in
theorem cmpStr_ac (a b : ByteArray) : AC EN5 Tryz.prog 294 [.c (.string a), .c (.string b)] (.c (.int .i64 (Lib.compareBytes (tx a) (tx b)))) := by
  have h1 := cmpStr1 a b
  refine ac_enter 8 Tryz.func294 rfl rfl rfl rfl ?_
  intro s w he
  repeat' (first
 | refine aw_seq ?_
 | refine aw_region ?_
 | refine awo_nil ?_
 | refine k_seq ?_
 | (apply s_val rfl
    · conv => lhs; whnf
    · conv => lhs; whnf; arg 2; whnf)
 | (apply s_call rfl
    · conv => lhs; whnf
    · conv => lhs; whnf
    · first | exact h1)
 | refine aw_ret ?_
 | refine k_end_ret ?_
 | (refine ⟨_, by conv => lhs; whnf; arg 2; whnf, ?_⟩; conv => rhs; whnf)
 | exact trivial)
set_option maxRecDepth 100000 in
set_option maxHeartbeats 8000000 in
theorem nan_ac (a : Int) : AC EN5 Tryz.prog 262 [.c (.int .i64 a)] (.c (.bool false)) := by
  refine ac_enter 6 Tryz.func262 rfl rfl rfl rfl ?_
  intro s w he
  repeat' (first
 | refine aw_seq ?_
 | refine aw_region ?_
 | refine awo_nil ?_
 | refine k_seq ?_
 | (apply s_val rfl
    · conv => lhs; whnf
    · conv => lhs; whnf; arg 2; whnf)
 | refine aw_ret ?_
 | refine k_end_ret ?_
 | (refine ⟨_, by conv => lhs; whnf; arg 2; whnf, ?_⟩; conv => rhs; whnf)
 | exact trivial)
  simp
set_option maxRecDepth 100000 in
set_option maxHeartbeats 8000000 in
theorem cmpInt_ac (a b : Int) : AC EN5 Tryz.prog 189 [.c (.int .i64 a), .c (.int .i64 b)] (.c (.int .i64 (ordI a b))) := by
  have h1 := nan_ac a
  have h2 := nan_ac b
  refine ac_enter 20 Tryz.func189 rfl rfl rfl rfl ?_
  intro s w he
  repeat' (first
 | refine aw_seq ?_
 | refine aw_region ?_
 | refine awo_nil ?_
 | refine k_seq ?_
 | refine aw_skip ?_
 | (apply s_val rfl
    · conv => lhs; whnf
    · conv => lhs; whnf; arg 2; whnf)
 | (apply s_call rfl
    · conv => lhs; whnf
    · conv => lhs; whnf
    · first | exact h1 | exact h2)
 | (apply aw_cond_f
    · conv => lhs; whnf; arg 1; arg 1; whnf)
 | (refine aw_cond (by conv => lhs; whnf) ?_ ?_ <;> intro hb)
 | refine aw_ret ?_
 | refine k_seq_ret ?_
 | refine k_end_ret ?_
 | (refine ⟨_, by conv => lhs; whnf; arg 2; whnf, ?_⟩; conv => rhs; whnf)
 | exact trivial)
  all_goals (simp only [decide_eq_true_eq, decide_eq_false_iff_not] at *; unfold ordI)
  · rw [if_pos (by omega)]
  · rw [if_neg (by omega), if_pos (by omega)]
  · rw [if_neg (by omega), if_neg (by omega)]
def keyD (x : D) (i : Nat) : ByteArray := if i < (x.f 4).l.length then (gD (x.f 4).l i).s else ⟨#[]⟩
set_option maxRecDepth 100000 in
set_option maxHeartbeats 8000000 in
theorem key_ac (x : D) (i : Nat) : AC EN5 Tryz.prog 295 [.agg (cellsV Tryz.prog 12 84 x), .c (.int .i64 i)] (.c (.string (keyD x i))) := by
  refine ac_enter 15 Tryz.func295 rfl rfl rfl rfl ?_
  intro s w he
  repeat' (first
 | refine aw_seq ?_
 | refine aw_region ?_
 | refine awo_nil ?_
 | refine k_seq ?_
 | refine aw_skip ?_
 | (apply s_val rfl
    · conv => lhs; whnf
    · conv => lhs; whnf; arg 2; whnf)
 | (apply s_box rfl rfl rfl rfl
    · conv => lhs; whnf; arg 1; whnf
    · rfl)
 | (refine aw_cond (by conv => lhs; whnf) ?_ ?_ <;> intro hb)
 | refine aw_ret ?_
 | refine k_seq_ret ?_
 | refine k_end_ret ?_
 | (refine ⟨_, by conv => lhs; whnf; arg 2; whnf, ?_⟩; conv => rhs; whnf)
 | exact trivial)
  · have hb : decide ((i : Int) < (x.f 4).l.length) = true := hb
    unfold keyD
    rw [if_pos (by simpa using hb)]
    rfl
  · have hb : decide ((i : Int) < (x.f 4).l.length) = true := hb
    show 0 ≤ (i : Int) ∧ (i : Int) < (x.f 4).l.length
    simp at hb; omega
  · have hb : decide ((i : Int) < (x.f 4).l.length) = false := hb
    unfold keyD
    rw [if_neg (by simpa using hb)]
def cmpIt (f : D → D → Int) (a b : D) : Nat → Nat → Int
  | 0, _ => ordI (a.f 3).l.length (b.f 3).l.length
  | j + 1, i =>
    if Lib.compareBytes (tx (keyD a i)) (tx (keyD b i)) != 0 then Lib.compareBytes (tx (keyD a i)) (tx (keyD b i))
    else if f (gD (a.f 3).l i) (gD (b.f 3).l i) != 0 then f (gD (a.f 3).l i) (gD (b.f 3).l i)
    else cmpIt f a b j (i + 1)
def cmpV : Nat → D → D → Int
  | 0, _, _ => 0
  | k + 1, a, b =>
    if (a.f 0).n != (b.f 0).n then ordI (a.f 0).n (b.f 0).n
    else if (a.f 1).n != (b.f 1).n then ordI (a.f 1).n (b.f 1).n
    else if !((a.f 2).s.toList == (b.f 2).s.toList) then Lib.compareBytes (tx (a.f 2).s) (tx (b.f 2).s)
    else cmpIt (cmpV k) a b (min (a.f 3).l.length (b.f 3).l.length) 0
noncomputable def HV0 (a b : D) : Vst 84 :=
  stS 84 [(2, .bx 2 0), (3, .bx 3 0), (7, .c (.int .i64 0))] [(2, .box 84 (cellsV Tryz.prog 12 84 a)), (3, .box 84 (cellsV Tryz.prog 12 84 b))]
noncomputable def HV1 (r : Int) : Vst 84 := stS 84 [(5, .c (.int .i64 r)), (7, .c (.int .i64 1))] []
noncomputable def HVI (a b : D) (i : Nat) : Vst 84 :=
  stS 84 [(2, .bx 2 0), (3, .bx 3 0), (7, .c (.int .i64 0)), (48, .c (.int .i64 (min (a.f 3).l.length (b.f 3).l.length : Nat))), (49, .c (.int .i64 i))] [(2, .box 84 (cellsV Tryz.prog 12 84 a)), (3, .box 84 (cellsV Tryz.prog 12 84 b))]
set_option maxHeartbeats 8000000 in
set_option maxRecDepth 100000 in
theorem min_int {x y : Nat} : (if (y : Int) < x then (y : Int) else (x : Int)) = ((min x y : Nat) : Int) := by
  split <;> omega
set_option maxHeartbeats 8000000 in
set_option maxRecDepth 100000 in
theorem cmpP_ac : ∀ (k : Nat) (a b : D), Dp k a → Dp k b → bulkD a ≤ 1000000000 → bulkD b ≤ 1000000000 → AC EN5 Tryz.prog 229 [.agg (cellsV Tryz.prog 12 84 a), .agg (cellsV Tryz.prog 12 84 b)] (.c (.int .i64 (cmpV k a b)))
  | 0, a, b, h, _, _, _ => h.elim
  | k + 1, a, b, h1, h2, hb1, hb2 => by
    have i1 := bk_in hb1
    have i2 := bk_in hb2
    have l1 := i1.items
    have l2 := i2.items
    have ih := fun i (hi : i < (a.f 3).l.length) (hj : i < (b.f 3).l.length) => cmpP_ac k _ _ (h1 i hi) (h2 i hj) (by have := i1.at_ i hi; omega) (by have := i2.at_ i hj; omega)
    have c1 := fun i => key_ac a i
    have c2 := fun i => key_ac b i
    have c3 := fun x y => cmpStr_ac x y
    have c4 := fun x y => cmpInt_ac x y
    refine ac_enter 84 Tryz.func229 rfl rfl rfl rfl ?_
    intro s w he
    repeat' (first
 | refine aw_seq ?_
 | refine aw_region ?_
 | refine awo_nil ?_
 | refine k_seq ?_
 | refine aw_block ?_
 | refine aw_label ?_
 | refine aw_scope ?_
 | (apply s_val rfl
    · conv => lhs; whnf
    · conv => lhs; whnf; arg 2; whnf)
 | (apply s_box rfl rfl rfl rfl
    · conv => lhs; whnf; arg 1; whnf
    · rfl)
 | exact trivial)
    refine aw_loop (fun j st => (j = 1 ∧ Sub (cx EN5 Tryz.prog s w he) st (HV0 a b)) ∨ (j = 0 ∧ Sub (cx EN5 Tryz.prog s w he) st (HV1 (cmpV (k + 1) a b)))) 1 (.inl ⟨rfl, ?_⟩) ?_
    · exact Sub.live ⟨rfl, rfl, rfl, trivial⟩ ⟨rfl, rfl, trivial⟩
    · rintro j st (⟨rfl, hs2⟩ | ⟨rfl, hs2⟩)
      · refine aw_sub hs2 ?_
        have hC : cmpV (k + 1) a b = if (a.f 0).n != (b.f 0).n then ordI (a.f 0).n (b.f 0).n
          else if (a.f 1).n != (b.f 1).n then ordI (a.f 1).n (b.f 1).n
          else if !((a.f 2).s.toList == (b.f 2).s.toList) then Lib.compareBytes (tx (a.f 2).s) (tx (b.f 2).s)
          else cmpIt (cmpV k) a b (min (a.f 3).l.length (b.f 3).l.length) 0 := rfl
        generalize cmpV (k + 1) a b = R at hC ⊢
        repeat' (first
 | refine aw_seq ?_
 | refine aw_region ?_
 | refine awo_nil ?_
 | refine k_seq ?_
 | refine k_block ?_
 | refine aw_block ?_
 | refine aw_skip ?_
 | (apply s_val rfl
    · conv => lhs; whnf
    · conv => lhs; whnf; arg 2; whnf)
 | (apply s_call rfl
    · conv => lhs; whnf
    · conv => lhs; whnf
    · first | exact c1 _ | exact c2 _ | exact c3 _ _ | exact c4 _ _)
 | (apply aw_cond_t
    · conv => lhs; whnf; arg 1; arg 1; whnf)
 | (refine aw_cond (by conv => lhs; whnf) ?_ ?_ <;> intro hb)
 | refine aw_ret ?_
 | refine aw_exit ?_
 | refine k_seq_exit ?_
 | refine k_block_hit rfl ?_
 | refine k_block_miss rfl ?_
 | refine k_scope_ret ?_
 | refine k_loop_exit ?_
 | refine k_end_ret ?_
 | (refine ⟨_, by conv => lhs; whnf; arg 2; whnf, ?_⟩; conv => rhs; whnf)
 | exact trivial)
        · have e1 : ((a.f 0).n != (b.f 0).n) = true := by assumption
          rw [hC, if_pos e1]
        · have e1 : ((a.f 0).n != (b.f 0).n) = false := by assumption
          have e2 : ((a.f 1).n != (b.f 1).n) = true := by assumption
          rw [hC, if_neg (by rw [e1]; decide), if_pos e2]
        · have e1 : ((a.f 0).n != (b.f 0).n) = false := by assumption
          have e2 : ((a.f 1).n != (b.f 1).n) = false := by assumption
          have e3 : (!((a.f 2).s.toList == (b.f 2).s.toList)) = true := by assumption
          rw [hC, if_neg (by rw [e1]; decide), if_neg (by rw [e2]; decide), if_pos e3]
        · have e1 : ((a.f 0).n != (b.f 0).n) = false := by assumption
          have e2 : ((a.f 1).n != (b.f 1).n) = false := by assumption
          have e3 : (!((a.f 2).s.toList == (b.f 2).s.toList)) = false := by assumption
          rw [if_neg (by rw [e1]; decide), if_neg (by rw [e2]; decide), if_neg (by rw [e3]; decide)] at hC
          refine aw_loop (fun j st => ∃ i, i + j = min (a.f 3).l.length (b.f 3).l.length ∧ R = cmpIt (cmpV k) a b j i ∧ Sub (cx EN5 Tryz.prog s w he) st (HVI a b i)) (min (a.f 3).l.length (b.f 3).l.length) ⟨0, by omega, hC, ?_⟩ ?_
          · refine Sub.live ⟨rfl, rfl, rfl, ?_, rfl, trivial⟩ ⟨rfl, rfl, trivial⟩
            show V.c (.int .i64 (if ((b.f 3).l.length : Int) < (a.f 3).l.length then ((b.f 3).l.length : Int) else ((a.f 3).l.length : Int))) = _
            rw [min_int]
          · clear e1 e2 e3
            rintro j st ⟨i, hij, hR, hs2⟩
            refine aw_sub hs2 ?_
            have ih2 := fun (h : decide ((i : Int) < ((min (a.f 3).l.length (b.f 3).l.length : Nat) : Int)) = true) => ih i (by simp at h; omega) (by simp at h; omega)
            repeat' (first
 | refine aw_seq ?_
 | refine aw_region ?_
 | refine awo_nil ?_
 | refine k_seq ?_
 | refine k_block ?_
 | refine aw_block ?_
 | refine aw_skip ?_
 | (apply s_val rfl
    · conv => lhs; whnf
    · conv => lhs; whnf; arg 2; whnf)
 | (apply s_call rfl
    · conv => lhs; whnf
    · conv => lhs; whnf
    · first | exact c1 i | exact c2 i | exact c3 _ _ | exact ih2 (by assumption) | exact c4 _ _)
 | (apply aw_draw (by kernel_rfl) (by kernel_rfl))
 | apply y_nil
 | (apply y_val rfl
    · conv => lhs; whnf
    · conv => lhs; whnf; arg 2; whnf)
 | (apply y_call rfl
    · conv => lhs; whnf
    · conv => lhs; whnf
    · first | exact c1 i | exact c2 i | exact c3 _ _ | exact ih2 (by assumption) | exact c4 _ _)
 | exact apartB_none
 | exact apartB_nil
 | exact (1000000 : Nat)
 | (refine aw_cond (by conv => lhs; whnf) ?_ ?_ <;> intro hb)
 | refine aw_ret ?_
 | refine aw_exit ?_
 | refine k_seq_exit ?_
 | refine k_block_hit rfl ?_
 | refine k_block_miss rfl ?_
 | refine k_scope_ret ?_
 | refine k_loop_exit ?_
 | refine k_end_ret ?_
 | (refine ⟨_, by conv => lhs; whnf; arg 2; whnf, ?_⟩; conv => rhs; whnf)
 | exact trivial)
            · have h0 : decide ((i : Int) < ((min (a.f 3).l.length (b.f 3).l.length : Nat) : Int)) = true := by assumption
              have h1 : (Lib.compareBytes (tx (keyD a i)) (tx (keyD b i)) != 0) = true := by assumption
              obtain ⟨j, rfl⟩ : ∃ q, j = q + 1 := ⟨j - 1, by simp at h0; omega⟩
              rw [hR, cmpIt, if_pos h1]
            · have h0 : decide ((i : Int) < ((min (a.f 3).l.length (b.f 3).l.length : Nat) : Int)) = true := by assumption
              have h1 : (Lib.compareBytes (tx (keyD a i)) (tx (keyD b i)) != 0) = false := by assumption
              have h2 : (cmpV k (gD (a.f 3).l i) (gD (b.f 3).l i) != 0) = true := by assumption
              obtain ⟨j, rfl⟩ : ∃ q, j = q + 1 := ⟨j - 1, by simp at h0; omega⟩
              rw [hR, cmpIt, if_neg (by rw [h1]; decide), if_pos h2]
            · have h0 : decide ((i : Int) < ((min (a.f 3).l.length (b.f 3).l.length : Nat) : Int)) = true := by assumption
              have h1 : (Lib.compareBytes (tx (keyD a i)) (tx (keyD b i)) != 0) = false := by assumption
              have h2 : (cmpV k (gD (a.f 3).l i) (gD (b.f 3).l i) != 0) = false := by assumption
              obtain ⟨j, rfl⟩ : ∃ q, j = q + 1 := ⟨j - 1, by simp at h0; omega⟩
              rw [cmpIt, if_neg (by rw [h1]; decide), if_neg (by rw [h2]; decide)] at hR
              exact k_loop_next (j' := j) (by omega) ⟨i + 1, by omega, hR, Sub.live ⟨rfl, rfl, rfl, rfl, rfl, trivial⟩ ⟨rfl, rfl, trivial⟩⟩
            · exact i64_ok (by omega)
            · have h0 : decide ((i : Int) < ((min (a.f 3).l.length (b.f 3).l.length : Nat) : Int)) = true := by assumption
              show 0 ≤ (i : Int) ∧ (i : Int) < (b.f 3).l.length
              simp at h0; omega
            · have h0 : decide ((i : Int) < ((min (a.f 3).l.length (b.f 3).l.length : Nat) : Int)) = true := by assumption
              show 0 ≤ (i : Int) ∧ (i : Int) < (a.f 3).l.length
              simp at h0; omega
            · have h0 : decide ((i : Int) < ((min (a.f 3).l.length (b.f 3).l.length : Nat) : Int)) = false := by assumption
              obtain rfl : j = 0 := by simp at h0; omega
              refine k_loop_next (j' := 0) (by omega) (.inr ⟨rfl, Sub.live ⟨?_, rfl, trivial⟩ trivial⟩)
              rw [hR]; rfl
            · exact i64_ok (by omega)
      · refine aw_sub hs2 ?_
        repeat' (first
 | refine aw_seq ?_
 | refine aw_region ?_
 | refine awo_nil ?_
 | refine k_seq ?_
 | (apply s_val rfl
    · conv => lhs; whnf
    · conv => lhs; whnf; arg 2; whnf)
 | (apply aw_cond_f
    · conv => lhs; whnf; arg 1; arg 1; whnf)
 | refine aw_ret ?_
 | refine aw_exit ?_
 | refine k_seq_exit ?_
 | refine k_block_hit rfl ?_
 | refine k_scope_ret ?_
 | refine k_loop_exit ?_
 | refine k_end_ret ?_
 | (refine ⟨_, by conv => lhs; whnf; arg 2; whnf, ?_⟩; conv => rhs; whnf)
 | exact trivial)
set_option maxHeartbeats 8000000 in
set_option maxRecDepth 100000 in
theorem same_val (k : Nat) (a b : D) (h1 : Dp k a) (h2 : Dp k b) (hb1 : bulkD a ≤ 1000000000) (hb2 : bulkD b ≤ 1000000000) : AC EN5 Tryz.prog 154 [.agg (cellsV Tryz.prog 12 84 a), .agg (cellsV Tryz.prog 12 84 b)] (.c (.bool (cmpV k a b == 0))) := by
  have hc := cmpP_ac k a b h1 h2 hb1 hb2
  refine ac_enter 9 Tryz.func154 rfl rfl rfl rfl ?_
  intro s w he
  repeat' (first
 | refine aw_seq ?_
 | refine aw_region ?_
 | refine awo_nil ?_
 | refine k_seq ?_
 | (apply s_val rfl
    · conv => lhs; whnf
    · conv => lhs; whnf; arg 2; whnf)
 | (apply s_call rfl
    · conv => lhs; whnf
    · conv => lhs; whnf
    · first | exact hc)
 | (apply s_box rfl rfl rfl rfl
    · conv => lhs; whnf; arg 1; whnf
    · rfl)
 | refine aw_ret ?_
 | refine k_end_ret ?_
 | (refine ⟨_, by conv => lhs; whnf; arg 2; whnf, ?_⟩; conv => rhs; whnf)
 | exact trivial)
end Go.Proofs.YthjiclhfhjdjpaaGreatDoor
namespace Go.Proofs.YthjiclhfhjdjpaaGreatDoor
open Go.RowKit
set_option linter.unusedSectionVars false
attribute [local irreducible] wpList Calls Code.wp AW AWo OpOk seqK blockK scopeK loopK endK AC absLex Yld Sub
attribute [local irreducible] ACB ACX ACE absLexG YldG
/-- the wrappers from the one at i on -/
def wrapsI (l : List D) : Nat → Nat → Bool
  | 0, _ => true
  | j + 1, i => ((gD l i).n == 1 || (gD l i).n == 2) && !((gD l i).n == 1 && decide (0 < i) && (gD l (i - 1)).n == (gD l i).n) && wrapsI l j (i + 1)
set_option maxHeartbeats 8000000 in
set_option maxRecDepth 100000 in
theorem wrapsI_cons (x : D) (l : List D) : ∀ (j i : Nat), wrapsI (x :: l) j (i + 2) = wrapsI l j (i + 1)
  | 0, _ => rfl
  | j + 1, i => by
    unfold wrapsI
    rw [wrapsI_cons x l j (i + 1)]
    have e1 : gD (x :: l) (i + 2) = gD l (i + 1) := rfl
    have e2 : gD (x :: l) (i + 2 - 1) = gD l (i + 1 - 1) := rfl
    have e3 : decide (0 < i + 2) = decide (0 < i + 1) := by simp
    rw [e1, e2, e3]
set_option maxHeartbeats 8000000 in
set_option maxRecDepth 100000 in
theorem wrapsI_R : ∀ l : List D, wrapsI l l.length 0 = wrapsR (l.map D.n)
  | [] => rfl
  | [x] => by
    show (((x.n == 1 || x.n == 2) && !(x.n == 1 && decide (0 < 0) && _)) && true) = (x.n == 1 || x.n == 2)
    simp
  | x :: y :: r => by
    have ih := wrapsI_R (y :: r)
    show (((x.n == 1 || x.n == 2) && !(x.n == 1 && decide (0 < 0) && _)) && wrapsI (x :: y :: r) (r.length + 1) 1) = ((x.n == 1 || x.n == 2) && !(x.n == 1 && y.n == 1) && wrapsR (y.n :: r.map D.n))
    have e : wrapsI (x :: y :: r) (r.length + 1) 1 = (((y.n == 1 || y.n == 2) && !(y.n == 1 && true && (x.n == y.n))) && wrapsI (y :: r) r.length 1) := by
      show (((y.n == 1 || y.n == 2) && !(y.n == 1 && true && (x.n == y.n))) && wrapsI (x :: y :: r) r.length 2) = _
      rw [wrapsI_cons]
    have e2 : wrapsI (y :: r) (y :: r).length 0 = (((y.n == 1 || y.n == 2) && !(y.n == 1 && decide (0 < 0) && false)) && wrapsI (y :: r) r.length 1) := by
      show (((y.n == 1 || y.n == 2) && !(y.n == 1 && decide (0 < 0) && _)) && wrapsI (y :: r) r.length 1) = _
      simp
    rw [e]
    rw [e2] at ih
    have ih2 : wrapsR (y.n :: r.map D.n) = (((y.n == 1 || y.n == 2) && !(y.n == 1 && decide (0 < 0) && false)) && wrapsI (y :: r) r.length 1) := ih.symm
    rw [ih2]
    generalize wrapsI (y :: r) r.length 1 = q
    cases hy : (y.n == 1)
    · generalize (x.n == 1) = a1
      generalize (x.n == 2) = a2
      generalize (y.n == 2) = a3
      generalize (x.n == y.n) = a4
      cases a1 <;> cases a2 <;> cases a3 <;> cases a4 <;> cases q <;> rfl
    · have hy' : y.n = 1 := by simpa using hy
      rw [hy']
      generalize (x.n == 1) = a1
      generalize (x.n == 2) = a2
      cases a1 <;> cases a2 <;> cases q <;> rfl
noncomputable def HTr (d : D) (i : Nat) : Vst 48 := stS 48 [(1, .bx 1 0), (16, .sl 3 (d.f 1).l), (17, .c (.int .i64 ((d.f 1).l.length : Nat))), (18, .c (.int .i64 (i : Int)))] [(1, .box 71 (cellsV Tryz.prog 12 71 d))]
set_option maxHeartbeats 8000000 in
set_option maxRecDepth 100000 in
theorem refRight_ac (d : D) (hs : (d.f 0).s.size ≤ 1000000000) (hl : (d.f 1).l.length ≤ 1000000000) : AC EN5 Tryz.prog 153 [.agg (cellsV Tryz.prog 12 71 d)] (.c (.bool (refR d))) := by
  have hn := name_ac (d.f 0).s hs
  have hR : refR d = (nameB (d.f 0).s && decide ((d.f 1).l.length ≤ 24) && wrapsI (d.f 1).l (d.f 1).l.length 0) := by rw [wrapsI_R]; rfl
  generalize refR d = R at hR ⊢
  have e : decide (((d.f 1).l.length : Int) > 24) = !decide ((d.f 1).l.length ≤ 24) := by
    rw [Bool.eq_iff_iff]
    simp only [decide_eq_true_eq, Bool.not_eq_true', decide_eq_false_iff_not]
    omega
  refine ac_enter 48 Tryz.func153 rfl rfl rfl rfl ?_
  intro s w he
  repeat' (first
 | refine aw_seq ?_
 | refine aw_region ?_
 | refine awo_nil ?_
 | refine k_seq ?_
 | refine aw_block ?_
 | refine aw_skip ?_
 | (apply s_pick_t rfl rfl
    · conv => lhs; whnf
    · conv => lhs; whnf
    · first | exact bT1 (by assumption) | exact bT2 (by assumption))
 | (apply s_pick_f rfl rfl
    · conv => lhs; whnf
    · conv => lhs; whnf
    · first | exact bF1 (by assumption) | exact bF2 (by assumption))
 | (apply s_val rfl
    · conv => lhs; whnf
    · conv => lhs; whnf; arg 2; whnf)
 | (apply s_call rfl
    · conv => lhs; whnf
    · conv => lhs; whnf
    · first | exact hn)
 | (apply s_box rfl rfl rfl rfl
    · conv => lhs; whnf; arg 1; whnf
    · rfl)
 | (apply s_wanted_val rfl
    · conv => lhs; whnf
    · conv => lhs; whnf
    · first | rfl | assumption
    · conv => lhs; whnf; arg 2; whnf)
 | (apply s_skipU rfl
    · conv => lhs; whnf
    · conv => lhs; whnf
    · first | rfl | assumption)
 | (apply s_guard_valU rfl
    · conv => lhs; whnf
    · conv => lhs; whnf
    · conv => lhs; whnf; arg 2; whnf)
 | (apply aw_cond_t
    · conv => lhs; whnf; arg 1; arg 1; whnf)
 | (refine aw_cond (by conv => lhs; whnf) ?_ ?_ <;> intro hb)
 | refine aw_ret ?_
 | refine k_seq_ret ?_
 | refine k_end_ret ?_
 | (refine ⟨_, by conv => lhs; whnf; arg 2; whnf, ?_⟩; conv => rhs; whnf)
 | exact trivial
 | intro hg)
  · simp_all
    intros
    omega
  · have hR2 : R = wrapsI (d.f 1).l (d.f 1).l.length 0 := by simp_all
    clear hR hn
    refine aw_loop (fun j st => ∃ i, i + j = (d.f 1).l.length ∧ R = wrapsI (d.f 1).l j i ∧ Sub (cx EN5 Tryz.prog s w he) st (HTr d i)) (d.f 1).l.length ⟨0, by omega, hR2, Sub.live ⟨rfl, rfl, rfl, rfl, trivial⟩ ⟨rfl, trivial⟩⟩ ?_
    clear hR2 hg hb e
    rintro j st ⟨i, hij, hR, hs2⟩
    refine aw_sub hs2 ?_
    clear hs2
    by_cases hi : i < (d.f 1).l.length
    · obtain ⟨j, rfl⟩ : ∃ q, j = q + 1 := ⟨j - 1, by omega⟩
      have f1 : decide ((i : Int) < ((d.f 1).l.length : Nat)) = true := decide_eq_true (by omega)
      have e1 : decide ((i : Int) > 0) = decide (0 < i) := decide_eq_decide.2 (by omega)
      have eT : ((i : Int) - 1).toNat = i - 1 := by omega
      have hR' : R = (((gD (d.f 1).l (i : Int).toNat).n == 1 || (gD (d.f 1).l (i : Int).toNat).n == 2) && !((gD (d.f 1).l (i : Int).toNat).n == 1 && decide ((i : Int) > 0) && ((gD (d.f (0 + 1)).l ((i : Int) - 1).toNat).n == (gD (d.f 1).l (i : Int).toNat).n)) && wrapsI (d.f 1).l j (i + 1)) := by
        rw [hR, e1, eT, Int.toNat_natCast]; rfl
      clear hR e1
      repeat' (first
 | (apply s_wpick_t rfl rfl rfl
    · conv => lhs; whnf
    · first | rfl | assumption
    · conv => lhs; whnf
    · first | exact bT1 (by assumption) | exact bT2 (by assumption) | rfl)
 | (apply s_wpick_f rfl rfl rfl
    · conv => lhs; whnf
    · first | rfl | assumption
    · conv => lhs; whnf
    · first | exact bF1 (by assumption) | exact bF2 (by assumption) | rfl)
 | (apply aw_cond_kt
    · conv => lhs; whnf
    · assumption)
 | refine aw_seq ?_
 | refine aw_region ?_
 | refine awo_nil ?_
 | refine k_seq ?_
 | refine k_block ?_
 | refine aw_block ?_
 | refine aw_skip ?_
 | (apply s_pick_t rfl rfl
    · conv => lhs; whnf
    · conv => lhs; whnf
    · first | exact bT1 (by assumption) | exact bT2 (by assumption))
 | (apply s_pick_f rfl rfl
    · conv => lhs; whnf
    · conv => lhs; whnf
    · first | exact bF1 (by assumption) | exact bF2 (by assumption))
 | (apply s_val rfl
    · conv => lhs; whnf
    · conv => lhs; whnf; arg 2; whnf)
 | (apply s_wanted_val rfl
    · conv => lhs; whnf
    · conv => lhs; whnf
    · first | rfl | assumption
    · conv => lhs; whnf; arg 2; whnf)
 | (apply s_skipU rfl
    · conv => lhs; whnf
    · conv => lhs; whnf
    · first | rfl | assumption)
 | (apply s_dead rfl
    · conv => lhs; whnf
    · rfl
    · rfl)
 | (apply s_guard_valU rfl
    · conv => lhs; whnf
    · conv => lhs; whnf
    · conv => lhs; whnf; arg 2; whnf)
 | (apply aw_cond_t
    · conv => lhs; whnf; arg 1; arg 1; whnf)
 | (apply aw_cond_f
    · conv => lhs; whnf; arg 1; arg 1; whnf)
 | (refine aw_cond (by conv => lhs; whnf) ?_ ?_ <;> intro hb)
 | refine aw_ret ?_
 | refine k_seq_ret ?_
 | refine k_block_ret ?_
 | refine k_loop_ret ?_
 | refine k_end_ret ?_
 | (refine ⟨_, by conv => lhs; whnf; arg 2; whnf, ?_⟩; conv => rhs; whnf)
 | exact trivial
 | intro hg)
      all_goals first
        | exact i64_ok (by omega)
        | (have h0 : (i : Int) > 0 := by simp_all
           exact (show 0 ≤ (i : Int) - 1 ∧ (i : Int) - 1 < (((d.f 1).l.length : Nat) : Int) from ⟨by omega, by omega⟩))
        | exact at_in hi
        | (have h0 : (i : Int) > 0 := by simp_all
           exact i64_ok (by omega))
        | (have hN : R = wrapsI (d.f 1).l j (i + 1) := by simp_all
           exact k_loop_next (j' := j) (by omega) ⟨i + 1, by omega, hN, Sub.live ⟨rfl, rfl, rfl, rfl, trivial⟩ ⟨rfl, trivial⟩⟩)
        | skip
      all_goals
        refine congrArg (fun b => V.c (.bool b)) ?_
        clear eT f1 hi hij he
        simp_all
    · obtain rfl : j = 0 := by omega
      have f1 : decide ((i : Int) < ((d.f 1).l.length : Nat)) = false := decide_eq_false (by omega)
      repeat' (first
 | (apply aw_cond_kf
    · conv => lhs; whnf
    · assumption)
 | refine aw_seq ?_
 | refine aw_region ?_
 | refine awo_nil ?_
 | refine k_seq ?_
 | (apply s_val rfl
    · conv => lhs; whnf
    · conv => lhs; whnf; arg 2; whnf)
 | refine aw_ret ?_
 | refine aw_exit ?_
 | refine k_seq_exit ?_
 | refine k_block_hit rfl ?_
 | refine k_loop_exit ?_
 | refine k_end_ret ?_
 | (refine ⟨_, by conv => lhs; whnf; arg 2; whnf, ?_⟩; conv => rhs; whnf)
 | exact trivial)
      rw [hR]; rfl
  · simp_all
/-- the zero value -/
def zV : D := .obj [.int 0, .int 0, .str ⟨#[]⟩, .list [], .list []]
set_option maxHeartbeats 8000000 in
set_option maxRecDepth 100000 in
theorem sameZero_ac (d : D) (hw : bulkD d ≤ 1000000000) : AC EN5 Tryz.prog 154 [.agg (cellsV Tryz.prog 12 84 d), .agg (cellsV Tryz.prog 12 84 zV)] (.c (.bool ((d.f 0).n == 0 && (d.f 1).n == 0 && noneS (d.f 2).s && decide ((d.f 3).l.length = 0)))) := by
  have h := same_val (bulkD d + bulkD zV) d zV (dp_bulk _ d (by omega)) (dp_bulk _ zV (by omega)) hw (by decide)
  have e : (cmpV (bulkD d + bulkD zV) d zV == 0) = ((d.f 0).n == 0 && (d.f 1).n == 0 && noneS (d.f 2).s && decide ((d.f 3).l.length = 0)) := by
    have hp := bulkD_pos d
    obtain ⟨k, hk⟩ : ∃ k, bulkD d + bulkD zV = k + 1 := ⟨bulkD d + bulkD zV - 1, by omega⟩
    rw [hk]
    show ((if (d.f 0).n != 0 then ordI (d.f 0).n 0 else if (d.f 1).n != 0 then ordI (d.f 1).n 0 else if !((d.f 2).s.toList == ({ data := #[] } : ByteArray).toList) then Lib.compareBytes (tx (d.f 2).s) (tx ({ data := #[] } : ByteArray)) else cmpIt (cmpV k) d zV (min (d.f 3).l.length 0) 0) == 0) = _
    rw [noneS_is]
    by_cases h0 : (d.f 0).n = 0
    · by_cases h1 : (d.f 1).n = 0
      · by_cases h2 : noneS (d.f 2).s = true
        · have e0 : cmpIt (cmpV k) d zV 0 0 = ordI (d.f 3).l.length 0 := rfl
          have e1 := @ordI_zero ((d.f 3).l.length : Int) 0
          simp only [h0, h1, h2, Nat.min_zero, e0]
          simp only [bne_self_eq_false, Bool.false_eq_true, if_false, Bool.not_true, beq_self_eq_true, Bool.true_and]
          rw [Bool.eq_iff_iff]
          simp only [beq_iff_eq, decide_eq_true_eq, e1]
          omega
        · have h2' : noneS (d.f 2).s = false := by simpa using h2
          have e1 := cmpB_zero (tx (d.f 2).s) (tx ({ data := #[] } : ByteArray))
          have e2 : ¬ tx (d.f 2).s = tx ({ data := #[] } : ByteArray) := fun h => by
            unfold noneS at h2
            exact h2 (by rw [show (d.f 2).s.data.toList = [] from h]; rfl)
          have e3 := fun h => e2 (e1.1 h)
          simp [h0, h1, h2']
          exact e3
      · have e1 : (ordI (d.f 1).n 0 == 0) = false := by
          have := @ordI_zero (d.f 1).n 0
          simp only [beq_eq_false_iff_ne, ne_eq, this]
          exact h1
        have e2 : ((d.f 1).n == 0) = false := by simpa using h1
        simp [h0, h1, e1, e2]
    · have e1 : (ordI (d.f 0).n 0 == 0) = false := by
        have := @ordI_zero (d.f 0).n 0
        simp only [beq_eq_false_iff_ne, ne_eq, this]
        exact h0
      have e2 : ((d.f 0).n == 0) = false := by simpa using h0
      simp [h0, e1, e2]
  rw [e] at h
  exact h
set_option maxHeartbeats 8000000 in
set_option maxRecDepth 100000 in
theorem variable_ac (d : D) (hw : bulkD d ≤ 1000000000) : AC EN5 Tryz.prog 79 [.agg (cellsV Tryz.prog 12 88 d)] (.c (.bool (varR d))) := by
  have b0 := bulkD_wD d
  have q0 := wD_f d 0; have q0' := wD_str (d.f 0)
  have q1 := wD_f d 1
  have q3 := wD_f d 3; have q3' := bulkD_wD (d.f 3)
  have r0 := wD_f (d.f 1) 0; have r0' := wD_str ((d.f 1).f 0)
  have r1 := wD_f (d.f 1) 1; have r1' := wD_list ((d.f 1).f 1); have r1'' := bulkL_len ((d.f 1).f 1).l
  have h1 := name_ac (d.f 0).s (by omega)
  have h2 := refRight_ac (d.f 1) (by omega) (by omega)
  have h3 := sameZero_ac (d.f 3) (by omega)
  have h4 := lit_ac (d.f 3) (by omega)
  have h5 := bare_ac _ (d.f 3) (dp_bulk (bulkD (d.f 3)) (d.f 3) (Nat.le_refl _)) (by omega)
  have e : decide ((((d.f 3).f 4).l.length : Int) = 0) = decide (((d.f 3).f 4).l.length = 0) := decide_eq_decide.2 (by omega)
  have e2 : ((((d.f 3).f 4).l.length : Int) == 0) = decide (((d.f 3).f 4).l.length = 0) := by rw [Bool.eq_iff_iff]; simp only [beq_iff_eq, decide_eq_true_eq]; omega
  unfold varR
  refine ac_enter 35 Tryz.func79 rfl rfl rfl rfl ?_
  intro s w he
  repeat' (first
 | (apply s_valW ((.agg (cellsV Tryz.prog 12 84 zV))) rfl rfl
    · conv => lhs; whnf; arg 2; whnf
    · repeat' (first | exact VLe.refl _ | exact VLe.nil _ | exact VLe.lit _ _ | exact VLe.own _ _ _ | apply VLe.agg | apply VLeL.cons | exact VLeL.nil))
 | refine aw_seq ?_
 | refine aw_region ?_
 | refine awo_nil ?_
 | refine k_seq ?_
 | refine aw_skip ?_
 | (apply s_pick_t rfl rfl
    · conv => lhs; whnf
    · conv => lhs; whnf
    · first | exact bT1 (by assumption) | exact bT2 (by assumption))
 | (apply s_pick_f rfl rfl
    · conv => lhs; whnf
    · conv => lhs; whnf
    · first | exact bF1 (by assumption) | exact bF2 (by assumption))
 | (apply s_val rfl
    · conv => lhs; whnf
    · conv => lhs; whnf; arg 2; whnf)
 | (apply s_call rfl
    · conv => lhs; whnf
    · conv => lhs; whnf
    · first | exact h1 | exact h2 | exact h3 | exact h4 | exact h5)
 | (apply s_box rfl rfl rfl rfl
    · conv => lhs; whnf; arg 1; whnf
    · rfl)
 | (apply s_wanted_val rfl
    · conv => lhs; whnf
    · conv => lhs; whnf
    · first | rfl | assumption
    · conv => lhs; whnf; arg 2; whnf)
 | (apply s_wanted_call rfl
    · conv => lhs; whnf
    · conv => lhs; whnf
    · first | rfl | assumption
    · conv => lhs; whnf
    · first | exact h1 | exact h2 | exact h3 | exact h4 | exact h5)
 | (apply s_skipU rfl
    · conv => lhs; whnf
    · conv => lhs; whnf
    · first | rfl | assumption)
 | (apply s_guard_valU rfl
    · conv => lhs; whnf
    · conv => lhs; whnf
    · conv => lhs; whnf; arg 2; whnf)
 | (apply aw_cond_t
    · conv => lhs; whnf; arg 1; arg 1; whnf)
 | (refine aw_cond (by conv => lhs; whnf) ?_ ?_ <;> intro hb)
 | refine aw_ret ?_
 | refine k_seq_ret ?_
 | refine k_end_ret ?_
 | (refine ⟨_, by conv => lhs; whnf; arg 2; whnf, ?_⟩; conv => rhs; whnf)
 | exact trivial
 | intro hg)
  all_goals
    clear h1 h2 h3 h4 h5 he
    refine congrArg (fun b => V.c (.bool b)) ?_
    simp only [e, e2] at *
    simp_all
end Go.Proofs.YthjiclhfhjdjpaaGreatDoor
namespace Go.Proofs.YthjiclhfhjdjpaaGreatDoor
open Go.RowKit
set_option linter.unusedSectionVars false
attribute [local irreducible] wpList Calls Code.wp AW AWo OpOk seqK blockK scopeK loopK endK AC absLex Yld Sub
attribute [local irreducible] ACB ACX ACE absLexG YldG
set_option maxHeartbeats 8000000 in
set_option maxRecDepth 100000 in
theorem right1_ac (x : D) (hw : bulkD x ≤ 1000000000) : AC EN5 Tryz.prog 78 [.agg (cellsV Tryz.prog 12 88 x)] (.c (.bool (!varR x))) := by
  have h := variable_ac x hw
  refine ac_enter 6 Tryz.func78 rfl rfl rfl rfl ?_
  intro s w he
  repeat' (first
 | refine aw_seq ?_
 | refine aw_region ?_
 | refine awo_nil ?_
 | refine k_seq ?_
 | (apply s_val rfl
    · conv => lhs; whnf
    · conv => lhs; whnf; arg 2; whnf)
 | (apply s_call rfl
    · conv => lhs; whnf
    · conv => lhs; whnf
    · first | exact h)
 | (apply s_box rfl rfl rfl rfl
    · conv => lhs; whnf; arg 1; whnf
    · rfl)
 | refine aw_ret ?_
 | refine k_end_ret ?_
 | (refine ⟨_, by conv => lhs; whnf; arg 2; whnf, ?_⟩; conv => rhs; whnf)
 | exact trivial)
set_option maxHeartbeats 8000000 in
set_option maxRecDepth 100000 in
theorem right2_ac (x : D) (hw : bulkD x ≤ 1000000000) : AC EN5 Tryz.prog 82 [.agg (cellsV Tryz.prog 12 116 x)] (.c (.bool (!fragR x))) := by
  have b0 := bulkD_wD x
  have q0 := wD_f x 0; have q0' := wD_str (x.f 0)
  have q1 := wD_f x 1; have q1' := wD_str (x.f 1)
  have q2 := wD_f x 2; have q2' := wD_list (x.f 2)
  have h1 := title_ac (x.f 0).s (by omega)
  have h2 := name_ac (x.f 1).s (by omega)
  have h3 := set_ac (x.f 2).l (by omega)
  unfold fragR
  refine ac_enter 19 Tryz.func82 rfl rfl rfl rfl ?_
  intro s w he
  repeat' (first
 | refine aw_seq ?_
 | refine aw_region ?_
 | refine awo_nil ?_
 | refine k_seq ?_
 | (apply s_pick_t rfl rfl
    · conv => lhs; whnf
    · conv => lhs; whnf
    · first | exact bT1 (by assumption) | exact bT2 (by assumption))
 | (apply s_pick_f rfl rfl
    · conv => lhs; whnf
    · conv => lhs; whnf
    · first | exact bF1 (by assumption) | exact bF2 (by assumption))
 | (apply s_val rfl
    · conv => lhs; whnf
    · conv => lhs; whnf; arg 2; whnf)
 | (apply s_call rfl
    · conv => lhs; whnf
    · conv => lhs; whnf
    · first | exact h1 | exact h2 | exact h3)
 | (apply s_box rfl rfl rfl rfl
    · conv => lhs; whnf; arg 1; whnf
    · rfl)
 | (apply s_wanted_val rfl
    · conv => lhs; whnf
    · conv => lhs; whnf
    · first | rfl | assumption
    · conv => lhs; whnf; arg 2; whnf)
 | (apply s_wanted_call rfl
    · conv => lhs; whnf
    · conv => lhs; whnf
    · first | rfl | assumption
    · conv => lhs; whnf
    · first | exact h1 | exact h2 | exact h3)
 | (apply s_skipU rfl
    · conv => lhs; whnf
    · conv => lhs; whnf
    · first | rfl | assumption)
 | (apply s_guard_valU rfl
    · conv => lhs; whnf
    · conv => lhs; whnf
    · conv => lhs; whnf; arg 2; whnf)
 | refine aw_ret ?_
 | refine k_end_ret ?_
 | (refine ⟨_, by conv => lhs; whnf; arg 2; whnf, ?_⟩; conv => rhs; whnf)
 | exact trivial
 | intro hg)
  all_goals
    clear h1 h2 h3 he
    refine congrArg (fun b => V.c (.bool b)) ?_
    simp_all
def opsI (l : List D) : Nat → Nat → Bool
  | 0, _ => true
  | j + 1, i => opR (gD l i) && opsI l j (i + 1)
set_option maxHeartbeats 8000000 in
set_option maxRecDepth 100000 in
theorem opsI_cons (x : D) (l : List D) : ∀ (j i : Nat), opsI (x :: l) j (i + 1) = opsI l j i
  | 0, _ => rfl
  | j + 1, i => by
    unfold opsI
    rw [opsI_cons x l j (i + 1)]
    rfl
set_option maxHeartbeats 8000000 in
set_option maxRecDepth 100000 in
theorem opsI_all : ∀ l : List D, opsI l l.length 0 = l.all opR
  | [] => rfl
  | x :: r => by
    show (opR x && opsI (x :: r) r.length 1) = (opR x && r.all opR)
    rw [opsI_cons, opsI_all r]
noncomputable def HQr (a b : List D) (i : Nat) : Vst 65 := stS 65 [(1, .bx 1 0), (20, .sl 57 a), (21, .c (.int .i64 (a.length : Nat))), (22, .c (.int .i64 (i : Int)))] [(1, .box 41 [.sl 57 a, .sl 116 b])]
set_option maxHeartbeats 8000000 in
set_option maxRecDepth 100000 in
theorem right_ac (a b : List D) (hwa : bulkL a ≤ 1000000000) (hwb : bulkL b ≤ 1000000000) : AC EN5 Tryz.prog 36 [.agg [.sl 57 a, .sl 116 b]] (.c (.bool (queR (.obj [.list a, .list b])))) := by
  have hla := bulkL_len a
  have hlb := bulkL_len b
  have hR : queR (.obj [.list a, .list b]) = (decide (1 ≤ a.length + b.length ∧ a.length + b.length ≤ 64) && opsI a a.length 0 && !(b.any fun x => !fragR x)) := by
    rw [opsI_all]; rfl
  generalize queR (.obj [.list a, .list b]) = R at hR ⊢
  have hfr := containsFrag_ac b (fun x => !fragR x) (by omega) fun i hi => right2_ac _ (by have := bulkL_get hi; omega)
  have e1 : decide ((a.length : Int) + (b.length : Int) < 1) = !decide (1 ≤ a.length + b.length) := by
    rw [Bool.eq_iff_iff]
    simp only [decide_eq_true_eq, Bool.not_eq_true', decide_eq_false_iff_not]
    omega
  have e2 : decide ((a.length : Int) + (b.length : Int) > 64) = !decide (a.length + b.length ≤ 64) := by
    rw [Bool.eq_iff_iff]
    simp only [decide_eq_true_eq, Bool.not_eq_true', decide_eq_false_iff_not]
    omega
  have e3 : decide (1 ≤ a.length + b.length ∧ a.length + b.length ≤ 64) = (decide (1 ≤ a.length + b.length) && decide (a.length + b.length ≤ 64)) := Bool.decide_and _ _
  rw [e3] at hR
  clear e3
  refine ac_enter 65 Tryz.func36 rfl rfl rfl rfl ?_
  intro s w he
  repeat' (first
 | refine aw_seq ?_
 | refine aw_region ?_
 | refine awo_nil ?_
 | refine k_seq ?_
 | refine aw_block ?_
 | refine aw_skip ?_
 | (apply s_pick_t rfl rfl
    · conv => lhs; whnf
    · conv => lhs; whnf
    · first | exact bT1 (by assumption) | exact bT2 (by assumption))
 | (apply s_pick_f rfl rfl
    · conv => lhs; whnf
    · conv => lhs; whnf
    · first | exact bF1 (by assumption) | exact bF2 (by assumption))
 | (apply s_val rfl
    · conv => lhs; whnf
    · conv => lhs; whnf; arg 2; whnf)
 | (apply s_box rfl rfl rfl rfl
    · conv => lhs; whnf; arg 1; whnf
    · rfl)
 | (apply s_wanted_val rfl
    · conv => lhs; whnf
    · conv => lhs; whnf
    · first | rfl | assumption
    · conv => lhs; whnf; arg 2; whnf)
 | (apply s_skipU rfl
    · conv => lhs; whnf
    · conv => lhs; whnf
    · first | rfl | assumption)
 | (apply s_guard_valU rfl
    · conv => lhs; whnf
    · conv => lhs; whnf
    · conv => lhs; whnf; arg 2; whnf)
 | (apply aw_cond_t
    · conv => lhs; whnf; arg 1; arg 1; whnf)
 | (refine aw_cond (by conv => lhs; whnf) ?_ ?_ <;> intro hb)
 | refine aw_ret ?_
 | refine k_seq_ret ?_
 | refine k_end_ret ?_
 | (refine ⟨_, by conv => lhs; whnf; arg 2; whnf, ?_⟩; conv => rhs; whnf)
 | exact trivial
 | intro hg)
  · simp only [e1, e2] at *
    generalize decide (a.length + b.length ≤ 64) = x at *
    simp_all
  · have hR2 : R = (opsI a a.length 0 && !(b.any fun x => !fragR x)) := by
      simp only [e1, e2] at *
      simp_all
    clear hR hb hg e1 e2
    refine aw_loop (fun j st => ∃ i, i + j = a.length ∧ R = (opsI a j i && !(b.any fun x => !fragR x)) ∧ Sub (cx EN5 Tryz.prog s w he) st (HQr a b i)) a.length ⟨0, by omega, hR2, Sub.live ⟨rfl, rfl, rfl, rfl, trivial⟩ ⟨rfl, trivial⟩⟩ ?_
    clear hR2
    rintro j st ⟨i, hij, hR, hs2⟩
    refine aw_sub hs2 ?_
    clear hs2
    by_cases hi : i < a.length
    · obtain ⟨j, rfl⟩ : ∃ q, j = q + 1 := ⟨j - 1, by omega⟩
      have f1 : decide ((i : Int) < (a.length : Nat)) = true := decide_eq_true (by omega)
      have b0 := bulkL_get hi
      have b1 := bulkD_wD (gD a i)
      have q1 := wD_f (gD a i) 1; have q1' := wD_str ((gD a i).f 1)
      have q2 := wD_f (gD a i) 2; have q2' := wD_list ((gD a i).f 2); have q2'' := bulkL_len ((gD a i).f 2).l
      have q3 := wD_f (gD a i) 3; have q3' := wD_list ((gD a i).f 3)
      have h1 := name_ac ((gD a i).f 1).s (by omega)
      have h2 := containsVar_ac ((gD a i).f 2).l (fun x => !varR x) (by omega) fun i hi => right1_ac _ (by have := bulkL_get hi; omega)
      have h3 := set_ac ((gD a i).f 3).l (by omega)
      have g1 : decide (((gD a i).f 0).n < 1) = !decide (1 ≤ ((gD a i).f 0).n) := by
        rw [Bool.eq_iff_iff]
        simp only [decide_eq_true_eq, Bool.not_eq_true', decide_eq_false_iff_not]
        omega
      have g2 : decide (((gD a i).f 0).n > 3) = !decide (((gD a i).f 0).n ≤ 3) := by
        rw [Bool.eq_iff_iff]
        simp only [decide_eq_true_eq, Bool.not_eq_true', decide_eq_false_iff_not]
        omega
      have g3 : decide ((((gD a i).f 2).l.length : Int) > 16) = !decide (((gD a i).f 2).l.length ≤ 16) := by
        rw [Bool.eq_iff_iff]
        simp only [decide_eq_true_eq, Bool.not_eq_true', decide_eq_false_iff_not]
        omega
      have g4 := noneS_is ((gD a i).f 1).s
      have hR' : R = ((decide (1 ≤ ((gD a i).f 0).n) && decide (((gD a i).f 0).n ≤ 3)) && (noneS ((gD a i).f 1).s || nameB ((gD a i).f 1).s) && decide (((gD a i).f 2).l.length ≤ 16) && !(((gD a i).f 2).l.any fun x => !varR x) && setR ((gD a i).f 3).l && opsI a j (i + 1) && !(b.any fun x => !fragR x)) := by
        rw [hR, ← Bool.decide_and]; rfl
      clear hR b0 b1 q1 q1' q2 q2' q2'' q3 q3' hfr
      repeat' (first
 | (apply s_wpick_t rfl rfl rfl
    · conv => lhs; whnf
    · first | rfl | assumption
    · conv => lhs; whnf
    · first | exact bT1 (by assumption) | exact bT2 (by assumption) | rfl)
 | (apply s_wpick_f rfl rfl rfl
    · conv => lhs; whnf
    · first | rfl | assumption
    · conv => lhs; whnf
    · first | exact bF1 (by assumption) | exact bF2 (by assumption) | rfl)
 | (apply aw_cond_kt
    · conv => lhs; whnf
    · assumption)
 | refine aw_seq ?_
 | refine aw_region ?_
 | refine awo_nil ?_
 | refine k_seq ?_
 | refine k_block ?_
 | refine aw_block ?_
 | refine aw_skip ?_
 | (apply s_pick_t rfl rfl
    · conv => lhs; whnf
    · conv => lhs; whnf
    · first | exact bT1 (by assumption) | exact bT2 (by assumption))
 | (apply s_pick_f rfl rfl
    · conv => lhs; whnf
    · conv => lhs; whnf
    · first | exact bF1 (by assumption) | exact bF2 (by assumption))
 | (apply s_val rfl
    · conv => lhs; whnf
    · conv => lhs; whnf; arg 2; whnf)
 | (apply s_call rfl
    · conv => lhs; whnf
    · conv => lhs; whnf
    · first | exact h1 | exact h2 | exact h3)
 | (apply s_alloc rfl rfl rfl rfl
    · conv => lhs; whnf; arg 1; whnf
    · rfl)
 | (apply s_store rfl rfl rfl
    · conv => lhs; whnf
    · conv => lhs; whnf; arg 1; whnf
    · conv => lhs; whnf; arg 1; whnf
    · exact ⟨by kernel_rfl, by kernel_rfl⟩
    · rfl)
 | (apply s_wanted_val rfl
    · conv => lhs; whnf
    · conv => lhs; whnf
    · first | rfl | assumption
    · conv => lhs; whnf; arg 2; whnf)
 | (apply s_wanted_call rfl
    · conv => lhs; whnf
    · conv => lhs; whnf
    · first | rfl | assumption
    · conv => lhs; whnf
    · first | exact h1 | exact h2 | exact h3)
 | (apply s_skipU rfl
    · conv => lhs; whnf
    · conv => lhs; whnf
    · first | rfl | assumption)
 | (apply s_dead rfl
    · conv => lhs; whnf
    · rfl
    · rfl)
 | (apply s_guard_valU rfl
    · conv => lhs; whnf
    · conv => lhs; whnf
    · conv => lhs; whnf; arg 2; whnf)
 | (apply aw_cond_t
    · conv => lhs; whnf; arg 1; arg 1; whnf)
 | (refine aw_cond (by conv => lhs; whnf) ?_ ?_ <;> intro hb)
 | refine aw_ret ?_
 | refine k_seq_ret ?_
 | refine k_block_ret ?_
 | refine k_loop_ret ?_
 | refine k_end_ret ?_
 | (refine ⟨_, by conv => lhs; whnf; arg 2; whnf, ?_⟩; conv => rhs; whnf)
 | exact trivial
 | intro hg)
      all_goals first
        | exact i64_ok (by omega)
        | exact at_in hi
        | refine congrArg (fun b => V.c (.bool b)) ?_
        | refine k_loop_next (j' := j) (by omega) ⟨i + 1, by omega, ?_, Sub.live ⟨rfl, rfl, rfl, rfl, trivial⟩ ⟨rfl, trivial⟩⟩
      all_goals
        clear h1 h2 h3
        simp only [Int.toNat_natCast, Nat.reduceAdd, g1, g2, g3, g4] at *
        clear g1 g2 g3 g4
        generalize setR ((gD a i).f 3).l = a1 at *
        generalize (((gD a i).f 2).l.any fun x => !varR x) = a2 at *
        generalize decide (((gD a i).f 2).l.length ≤ 16) = a3 at *
        generalize noneS ((gD a i).f 1).s = a4 at *
        generalize nameB ((gD a i).f 1).s = a5 at *
        generalize decide (((gD a i).f 0).n ≤ 3) = a6 at *
        generalize decide (1 ≤ ((gD a i).f 0).n) = a7 at *
        generalize (b.any fun x => !fragR x) = a8 at *
        generalize opsI a j (i + 1) = a9 at *
        clear f1 hi hij he
        simp_all
    · obtain rfl : j = 0 := by omega
      have f1 : decide ((i : Int) < (a.length : Nat)) = false := decide_eq_false (by omega)
      repeat' (first
 | (apply aw_cond_kf
    · conv => lhs; whnf
    · assumption)
 | refine aw_seq ?_
 | refine aw_region ?_
 | refine awo_nil ?_
 | refine k_seq ?_
 | (apply s_val rfl
    · conv => lhs; whnf
    · conv => lhs; whnf; arg 2; whnf)
 | (apply s_call rfl
    · conv => lhs; whnf
    · conv => lhs; whnf
    · first | exact hfr)
 | refine aw_ret ?_
 | refine aw_exit ?_
 | refine k_seq_exit ?_
 | refine k_block_hit rfl ?_
 | refine k_loop_exit ?_
 | refine k_end_ret ?_
 | (refine ⟨_, by conv => lhs; whnf; arg 2; whnf, ?_⟩; conv => rhs; whnf)
 | exact trivial)
      rw [hR]; rfl
  · simp only [e1, e2] at *
    simp_all
  · exact i64_ok (by omega)
end Go.Proofs.YthjiclhfhjdjpaaGreatDoor
namespace Go.Proofs.YthjiclhfhjdjpaaGreatDoor
open Go.RowKit
set_option linter.unusedSectionVars false
attribute [local irreducible] wpList Calls Code.wp AW AWo OpOk seqK blockK scopeK loopK endK AC absLex Yld Sub
attribute [local irreducible] ACB ACX ACE absLexG YldG
end Go.Proofs.YthjiclhfhjdjpaaGreatDoor
namespace Go.Proofs.YthjiclhfhjdjpaaGreatDoor
open Go.RowKit
set_option linter.unusedSectionVars false
def exT : List UInt8 := [113, 117, 101, 114, 121, 32, 113, 40, 36, 110, 58, 32, 73, 110, 116, 32, 61, 32, 49, 41, 32, 123, 32, 97, 58, 32, 117, 115, 101, 114, 40, 105, 100, 58, 32, 36, 110, 41, 32, 123, 32, 110, 97, 109, 101, 32, 46, 46, 46, 102, 32, 125, 32, 125, 32, 102, 114, 97, 103, 109, 101, 110, 116, 32, 102, 32, 111, 110, 32, 85, 115, 101, 114, 32, 123, 32, 105, 100, 32, 125]
def exQ : D := match parseT exT with
  | .ok q => q
  | .error _ => default
set_option maxHeartbeats 8000000 in
set_option maxRecDepth 100000 in
theorem ex_parse : parseT exT = .ok exQ := by kernel_rfl
set_option maxHeartbeats 8000000 in
set_option maxRecDepth 100000 in
theorem ex_bad : parseT [123, 32, 125] = .error (2, 3) := by kernel_rfl
set_option maxHeartbeats 8000000 in
set_option maxRecDepth 100000 in
theorem ex_right : queR exQ = true := by kernel_rfl
set_option maxHeartbeats 8000000 in
set_option maxRecDepth 100000 in
theorem ex_queD : exQ = .obj [.list (exQ.f 0).l, .list (exQ.f 1).l] := by kernel_rfl
set_option maxHeartbeats 8000000 in
set_option maxRecDepth 100000 in
theorem ex_bulk0 : bulkL (exQ.f 0).l ≤ 1000 := by
  have : decide (bulkL (exQ.f 0).l ≤ 1000) = true := by kernel_rfl
  simpa using this
set_option maxHeartbeats 8000000 in
set_option maxRecDepth 100000 in
theorem ex_bulk1 : bulkL (exQ.f 1).l ≤ 1000 := by
  have : decide (bulkL (exQ.f 1).l ≤ 1000) = true := by kernel_rfl
  simpa using this
end Go.Proofs.YthjiclhfhjdjpaaGreatDoor
namespace Go.Proofs.YthjiclhfhjdjpaaGreatDoor
open Go.RowKit
set_option linter.unusedSectionVars false
attribute [local irreducible] wpList Calls Code.wp AW AWo OpOk seqK blockK scopeK loopK endK AC absLex Yld Sub
attribute [local irreducible] ACB ACX ACE absLexG YldG
set_option maxHeartbeats 8000000 in
set_option maxRecDepth 100000 in
theorem named_ac (s : ByteArray) : AC EN5 Tryz.prog 73 [.c (.string s)] (.agg (cellsV Tryz.prog 12 71 (.obj [.str s, .list []]))) := by
  refine ac_enter 5 Tryz.func73 rfl rfl rfl rfl ?_
  intro σ w he
  repeat' (first
 | (apply s_valW ((.agg (cellsV Tryz.prog 12 71 (.obj [.str s, .list []])))) rfl rfl
    · conv => lhs; whnf; arg 2; whnf
    · repeat' (first | exact VLe.refl _ | exact VLe.nil _ | exact VLe.lit _ _ | exact VLe.own _ _ _ | apply VLe.agg | apply VLeL.cons | exact VLeL.nil))
 | refine aw_seq ?_
 | refine aw_region ?_
 | refine awo_nil ?_
 | refine k_seq ?_
 | (apply s_val rfl
    · conv => lhs; whnf
    · conv => lhs; whnf; arg 2; whnf)
 | (apply s_alloc rfl rfl rfl rfl
    · conv => lhs; whnf; arg 1; whnf
    · rfl)
 | (apply s_store rfl rfl rfl
    · conv => lhs; whnf
    · conv => lhs; whnf; arg 1; whnf
    · conv => lhs; whnf; arg 1; whnf
    · exact ⟨by kernel_rfl, by kernel_rfl⟩
    · rfl)
 | refine aw_ret ?_
 | refine k_end_ret ?_
 | (refine ⟨_, by conv => lhs; whnf; arg 2; whnf, ?_⟩; conv => rhs; whnf)
 | exact trivial)
  rfl
set_option maxHeartbeats 8000000 in
set_option maxRecDepth 100000 in
theorem ff_t {b : Bool} (h : b = false) (h2 : b = true) : False := by rw [h] at h2; cases h2
set_option maxHeartbeats 8000000 in
set_option maxRecDepth 100000 in
theorem of_dec {p : Prop} [Decidable p] (h : decide p = true) : p := of_decide_eq_true h
def opX : D := gD (exQ.f 0).l 0
def vaX : D := gD (opX.f 2).l 0
set_option maxHeartbeats 8000000 in
set_option maxRecDepth 100000 in
theorem knows_ac : AC EN5 Tryz.prog 34 [] (.c (.bool true)) := by
  have h1 : AC EN5 Tryz.prog 23 [.c (.string { data := ([113, 117, 101, 114, 121, 32, 113, 40, 36, 110, 58, 32, 73, 110, 116, 32, 61, 32, 49, 41, 32, 123, 32, 97, 58, 32, 117, 115, 101, 114, 40, 105, 100, 58, 32, 36, 110, 41, 32, 123].append [32, 110, 97, 109, 101, 32, 46, 46, 46, 102, 32, 125, 32, 125, 32, 102, 114, 97, 103, 109, 101, 110, 116, 32, 102, 32, 111, 110, 32, 85, 115, 101, 114, 32, 123, 32, 105, 100, 32, 125]).toArray })] (parseW (.ok exQ)) := by
    have := parse_ac exT (by decide)
    rw [ex_parse] at this
    exact this
  have h2 : AC EN5 Tryz.prog 23 [.c (.string { data := #[123, 32, 125] })] (parseW (.error (2, 3))) := by
    have := parse_ac [123, 32, 125] (by decide)
    rw [ex_bad] at this
    exact this
  have h3 := right_ac (exQ.f 0).l (exQ.f 1).l (by have := ex_bulk0; omega) (by have := ex_bulk1; omega)
  rw [← ex_queD, ex_right] at h3
  have h4 := named_ac { data := #[73, 110, 116] }
  have et : vaX.f 1 = .obj [.str { data := #[73, 110, 116] }, .list []] := by kernel_rfl
  have h5 := sameRef_ac (.obj [.str { data := #[73, 110, 116] }, .list []]) (by decide)
  refine ac_enter 146 Tryz.func34 rfl rfl rfl rfl ?_
  intro s w he
  repeat' (first
 | refine aw_seq ?_
 | refine aw_region ?_
 | refine awo_nil ?_
 | refine k_seq ?_
 | refine aw_skip ?_
 | (apply s_val rfl
    · conv => lhs; whnf
    · conv => lhs; whnf; arg 2; whnf)
 | (apply s_call rfl
    · conv => lhs; whnf
    · conv => lhs; whnf
    · first | exact h1 | exact h2 | exact h3 | exact h4 | exact h5)
 | (apply s_alloc rfl rfl rfl rfl
    · conv => lhs; whnf; arg 1; whnf
    · rfl)
 | (apply s_store rfl rfl rfl
    · conv => lhs; whnf
    · conv => lhs; whnf; arg 1; whnf
    · conv => lhs; whnf; arg 1; whnf
    · exact ⟨by kernel_rfl, by kernel_rfl⟩
    · rfl)
 | (apply s_wanted_val rfl
    · conv => lhs; whnf
    · conv => lhs; whnf
    · first | rfl | assumption
    · conv => lhs; whnf; arg 2; whnf)
 | (apply aw_draw (by kernel_rfl) (by kernel_rfl))
 | apply y_nil
 | (apply y_pick_t rfl rfl
    · conv => lhs; whnf
    · conv => lhs; whnf
    · first | exact bT1 (by assumption) | exact bT2 (by assumption))
 | (apply y_pick_f rfl rfl
    · conv => lhs; whnf
    · conv => lhs; whnf
    · first | exact bF1 (by assumption) | exact bF2 (by assumption))
 | (apply y_val rfl
    · conv => lhs; whnf
    · conv => lhs; whnf; arg 2; whnf)
 | (apply y_wanted_val rfl
    · conv => lhs; whnf
    · conv => lhs; whnf
    · first | rfl | assumption
    · conv => lhs; whnf; arg 2; whnf)
 | (apply y_wanted_call rfl
    · conv => lhs; whnf
    · conv => lhs; whnf
    · first | rfl | assumption
    · conv => lhs; whnf
    · first | exact h1 | exact h2 | exact h3 | exact h4 | exact h5)
 | (apply y_skip rfl
    · conv => lhs; whnf
    · conv => lhs; whnf
    · first | rfl | assumption)
 | (apply y_guard_val rfl
    · conv => lhs; whnf
    · conv => lhs; whnf
    · conv => lhs; whnf; arg 2; whnf)
 | exact apartB_none
 | exact apartB_nil
 | exact (1000000 : Nat)
 | (apply aw_cond_f
    · conv => lhs; whnf; arg 1; arg 1; whnf)
 | refine aw_ret ?_
 | refine k_end_ret ?_
 | (refine ⟨_, by conv => lhs; whnf; arg 2; whnf, ?_⟩; conv => rhs; whnf)
 | exact trivial
 | intro hg)
  all_goals first
    | exact of_dec (by kernel_rfl)
    | exact (ff_t (by assumption) (by kernel_rfl)).elim
end Go.Proofs.YthjiclhfhjdjpaaGreatDoor
namespace Go.Proofs.YthjiclhfhjdjpaaGreatDoor
/-- the weight of tokens -/
def tw : List Tok → Nat
  | [] => 0
  | t :: r => t.s.length + 40 + tw r
def Bd {α : Type} (μ : α → Nat) (N : Nat) (r : PR α) : Prop := ∀ v y, r = .ok (v, y) → μ v + tw y.ts ≤ N
section
variable {α β : Type} {μ : α → Nat} {ν : β → Nat} {N M : Nat}
theorem Bd.okk {v : α} {y : PS} (h : μ v + tw y.ts ≤ N) : Bd μ N (.ok (v, y) : PR α) := fun _ _ e => by cases e; exact h
theorem Bd.err {e : Nat × Int} : Bd μ N (.error e : PR α) := fun _ _ h => by cases h
theorem Bd.ite {c : Prop} [Decidable c] {a b : PR α} (h1 : c → Bd μ N a) (h2 : ¬ c → Bd μ N b) : Bd μ N (if c then a else b) := by
  split
  · exact h1 (by assumption)
  · exact h2 (by assumption)
theorem Bd.then {r : PR α} {f : α → PS → PR β} (h : Bd μ N r) (hf : ∀ a x, μ a + tw x.ts ≤ N → Bd ν M (f a x)) : Bd ν M (thenQ r f) := by
  cases hr : r with
  | error e =>
    rw [then_err (r := .error e) rfl]
    exact .err
  | ok p =>
    obtain ⟨a, x⟩ := p
    rw [then_ok (r := .ok (a, x)) rfl]
    exact hf a x (h a x hr)
end
theorem tw_nx (x : PS) : tw (nxT x).ts ≤ tw x.ts := by
  unfold nxT
  split
  · exact Nat.le_refl _
  · cases hx : x.ts with
    | nil => simp [hx]
    | cons t r => simp [hx, tw]
theorem tw_hd {x : PS} (h : (hdT x).k ≠ 5) : tw (nxT x).ts + (hdT x).s.length + 40 ≤ tw x.ts := by
  unfold nxT
  rw [if_neg h]
  cases hx : x.ts with
  | nil => unfold hdT at h; rw [hx] at h; exact absurd rfl h
  | cons t r =>
    have : hdT x = t := by unfold hdT; rw [hx]; rfl
    rw [this]
    simp [tw]; omega
theorem tw_k2 {x : PS} (h : (hdT x).k = 2) : tw (nxT x).ts + (hdT x).s.length + 40 ≤ tw x.ts := tw_hd (by omega)
theorem tw_is {x : PS} {s : List UInt8} (h : isS x s = true) : tw (nxT x).ts + 40 ≤ tw x.ts := by
  have hk : (hdT x).k = 1 := by unfold isS at h; simp at h; exact h.1
  have := tw_hd (x := x) (by omega)
  omega
theorem str_bulk (s : List UInt8) : bulkD (strD s) = s.length + 1 := by simp [strD, bulkD, ByteArray.size]
theorem bulkL_app : ∀ (a b : List D), bulkL (a ++ b) = bulkL a + bulkL b
  | [], b => by simp [bulkL]
  | x :: r, b => by
    have := bulkL_app r b
    simp [bulkL, this]; omega
theorem bulkL_one (x : D) : bulkL [x] = bulkD x := by simp [bulkL]
/-- names and what they weigh -/
def sl (s : List UInt8) : Nat := s.length + 40
theorem take_bd (s : List UInt8) (x : PS) : Bd (fun _ => 40) (tw x.ts) (takeQ s x) := by
  unfold takeQ
  exact .ite (fun h => .okk (by have := tw_is h; omega)) fun _ => .err
theorem name_bd (x : PS) : Bd sl (tw x.ts) (nameQ x) := by
  unfold nameQ
  exact .ite (fun h => .okk (by have := tw_k2 h; unfold sl; omega)) fun _ => .err
theorem open_bd : ∀ (f : Nat) (x : PS), tw (openQ f x).2.ts + 40 * (openQ f x).1 ≤ tw x.ts
  | 0, x => by simp [openQ]
  | f + 1, x => by
    unfold openQ
    by_cases h : isS x [91] = true
    · rw [if_pos h]
      have := open_bd f (nxT x)
      have := tw_is h
      dsimp only; omega
    · rw [if_neg h]; simp
theorem close_bd : ∀ (n : Nat) (w : List Int) (x : PS), Bd (fun v : List Int => v.length) (w.length + tw x.ts) (closeQ n w x)
  | 0, w, x => by
    unfold closeQ
    by_cases h : isS x [33] = true
    · rw [if_pos h]
      have := tw_is h
      exact .okk (by simp; omega)
    · rw [if_neg h]
      exact .okk (by simp)
  | n + 1, w, x => by
    unfold closeQ
    refine .then (take_bd _ _) fun _ y h => ?_
    have h2 := close_bd n (2 :: (if isS x [33] = true then 1 :: w else w)) y
    intro v z hv
    have h3 := h2 v z hv
    by_cases hs : isS x [33] = true
    · have := tw_is hs
      rw [if_pos hs] at h h3
      simp only [List.length_cons] at h3
      show v.length + _ ≤ _
      omega
    · rw [if_neg hs] at h h3
      simp only [List.length_cons] at h3
      show v.length + _ ≤ _
      omega
theorem inner_bd (x : PS) : Bd (fun t : List UInt8 × List Int => t.1.length + 40 + t.2.length) (tw x.ts) (innerQ x) := by
  have h0 := open_bd x.ts.length x
  refine .then (name_bd _) fun n y h1 => .then (close_bd _ [] y) fun w z h2 => .okk ?_
  unfold sl at h1
  simp only [List.length_nil] at h2
  dsimp only
  omega
theorem ints_bulk : ∀ w : List Int, bulkL (w.map D.int) = w.length
  | [] => rfl
  | x :: r => by
    have := ints_bulk r
    simp [bulkL, bulkD, this]; omega
theorem typ_bd (x : PS) : Bd (fun d => bulkD d + 30) (tw x.ts) (typQ x) := by
  refine .then (inner_bd x) fun t y h => .ite (fun _ => .err) fun _ => .okk ?_
  have e : bulkD (refD t.1 t.2) = t.1.length + t.2.length + 3 := by
    simp [refD, bulkD, bulkL, strD, ints_bulk, ByteArray.size]; omega
  rw [e]; omega
def kl : List (List UInt8) → Nat
  | [] => 0
  | k :: r => k.length + 1 + kl r
theorem kl_app : ∀ (a : List (List UInt8)) (k : List UInt8), kl (a ++ [k]) = kl a + (k.length + 1)
  | [], k => by simp [kl]
  | x :: r, k => by
    have := kl_app r k
    simp [kl, this]; omega
theorem kl_bulk : ∀ ks : List (List UInt8), bulkL (ks.map strD) = kl ks
  | [] => rfl
  | k :: r => by
    have := kl_bulk r
    simp [bulkL, kl, this, str_bulk]
theorem val_bulk (k n : Int) (s : List UInt8) (items : List D) (keys : List (List UInt8)) : bulkD (valD k n s items keys) = s.length + bulkL items + kl keys + 6 := by
  simp only [valD, bulkD, bulkL, str_bulk, kl_bulk]; omega
theorem word_bulk (s : List UInt8) : bulkD (wordV s) ≤ s.length + 6 := by
  unfold wordV nullD
  repeat' split
  all_goals
    rw [val_bulk]
    simp [bulkL, kl]
section
variable {v : PS → PR D} (hv : ∀ y, Bd bulkD (tw y.ts) (v y))
include hv
theorem items_bd : ∀ (f : Nat) (acc : List D) (x : PS), Bd bulkL (bulkL acc + tw x.ts) (itemsQ v f acc x)
  | 0, _, _ => .err
  | f + 1, acc, x => by
    unfold itemsQ
    refine .ite (fun h => .okk (by have := tw_is h; omega)) fun _ => .then (hv x) fun a y h => ?_
    have := items_bd f (acc ++ [a]) y
    rw [bulkL_app, bulkL_one] at this
    exact fun u z hu => by have := this u z hu; omega
theorem fields_bd : ∀ (f : Nat) (ks : List (List UInt8)) (acc : List D) (x : PS), Bd (fun p : List (List UInt8) × List D => kl p.1 + bulkL p.2) (kl ks + bulkL acc + tw x.ts) (fieldsQ v f ks acc x)
  | 0, _, _, _ => .err
  | f + 1, ks, acc, x => by
    unfold fieldsQ
    refine .ite (fun h => .okk (by have := tw_is h; dsimp only; omega)) fun _ => .then (name_bd x) fun k y h1 => .ite (fun _ => .err) fun _ => .then (take_bd _ y) fun _ z h2 => .then (hv z) fun a u h3 => ?_
    have := fields_bd f (ks ++ [k]) (acc ++ [a]) u
    rw [bulkL_app, bulkL_one, kl_app] at this
    unfold sl at h1
    exact fun w z hu => by have := this w z hu; dsimp only at this ⊢; omega
end
theorem value_bd : ∀ (f lv : Nat) (x : PS), Bd (fun d => bulkD d + 20) (tw x.ts) (valueQ f lv x)
  | 0, _, _ => .err
  | f + 1, lv, x => by
    have ih : ∀ y, Bd bulkD (tw y.ts) (valueQ f (lv + 1) y) := fun y u z h => by have := value_bd f (lv + 1) y u z h; dsimp only at this; omega
    unfold valueQ
    refine .ite (fun _ => .err) fun hn => .ite (fun _ => .err) fun _ => .ite (fun _ => .err) fun _ => ?_
    have hk : (hdT x).k ≠ 5 := fun h => hn (by unfold noVal; simp [h])
    have hw := tw_hd hk
    dsimp only
    refine .ite (fun _ => .okk ?_) fun _ => .ite (fun _ => .okk ?_) fun _ => .ite (fun _ => .okk ?_) fun _ => .ite (fun _ => .then (name_bd _) fun n z h => .okk ?_) fun _ => .ite (fun _ => .then (items_bd ih _ _ _) fun l z h => .okk ?_) fun _ => .then (fields_bd ih _ _ _ _) fun l z h => .okk ?_
    · rw [val_bulk]; simp [bulkL, kl]; omega
    · rw [val_bulk]; simp [bulkL, kl]; omega
    · have := word_bulk (hdT x).s
      dsimp only; omega
    · rw [val_bulk]; unfold sl at h; simp [bulkL, kl] at h ⊢; omega
    · rw [val_bulk]; simp [bulkL, kl] at h ⊢; omega
    · rw [val_bulk]; simp [bulkL, kl] at h ⊢; omega
theorem whole_bd (x : PS) : Bd (fun d => bulkD d + 20) (tw x.ts) (wholeQ x) := value_bd 25 1 _
theorem arg_bulk (n : List UInt8) (v : D) : bulkD (argD n v) = n.length + bulkD v + 2 := by simp only [argD, bulkD, bulkL, str_bulk]; omega
theorem dir_bulk (n : List UInt8) (aa : List D) : bulkD (dirD n aa) = n.length + bulkL aa + 3 := by simp only [dirD, bulkD, bulkL, str_bulk]; omega
theorem argsF_bd : ∀ (f : Nat) (acc : List D) (x : PS), Bd bulkL (bulkL acc + tw x.ts) (argsF f acc x)
  | 0, _, _ => .err
  | f + 1, acc, x => by
    unfold argsF
    refine .ite (fun h => .okk (by have := tw_is h.2; omega)) fun _ => .ite (fun _ => .err) fun _ => .then (name_bd x) fun n y h1 => .then (take_bd _ y) fun _ z h2 => .then (whole_bd z) fun a u h3 => ?_
    have := argsF_bd f (acc ++ [argD n a]) u
    rw [bulkL_app, bulkL_one, arg_bulk] at this
    unfold sl at h1
    exact fun w z hu => by have := this w z hu; omega
theorem args_bd (x : PS) : Bd bulkL (tw x.ts) (argsQ x) := by
  unfold argsQ
  refine .ite (fun h => ?_) fun _ => .okk (by simp [bulkL])
  have h0 := tw_is h
  have := argsF_bd x.ts.length [] (nxT x)
  exact fun w z hu => by have := this w z hu; simp only [bulkL] at this; omega
theorem dirsF_bd : ∀ (f : Nat) (acc : List D) (x : PS), Bd bulkL (bulkL acc + tw x.ts) (dirsF f acc x)
  | 0, _, _ => .err
  | f + 1, acc, x => by
    unfold dirsF
    refine .ite (fun h => .ite (fun _ => .err) fun _ => .then (name_bd _) fun n y h1 => .then (args_bd y) fun aa z h2 => ?_) fun _ => .okk (Nat.le_refl _)
    have h0 := tw_is h
    have := dirsF_bd f (acc ++ [dirD n aa]) z
    rw [bulkL_app, bulkL_one, dir_bulk] at this
    unfold sl at h1
    exact fun w z hu => by have := this w z hu; omega
theorem dirs_bd (x : PS) : Bd bulkL (tw x.ts) (dirsQ x) := by
  have := dirsF_bd (x.ts.length + 1) [] x
  exact fun w z hu => by have := this w z hu; simp only [bulkL] at this; omega
theorem sel_bulk (k : Int) (al n on : List UInt8) (aa ds ss : List D) : bulkD (selD k al n on aa ds ss) = al.length + n.length + on.length + bulkL aa + bulkL ds + bulkL ss + 8 := by simp only [selD, bulkD, bulkL, str_bulk]; omega
theorem sel_bd {v : PS → PR (List D)} (hv : ∀ y, Bd bulkL (tw y.ts) (v y)) (x : PS) : Bd (fun d => bulkD d + 20) (tw x.ts) (selQ v x) := by
  unfold selQ
  refine .ite (fun hs => ?_) fun _ => ?_
  · have h0 := tw_is hs
    dsimp only
    refine .ite (fun hk => .then (dirs_bd _) fun ds z h1 => .okk ?_) fun _ => ?_
    · have := tw_k2 hk.1
      rw [sel_bulk]; simp only [bulkL, List.length_nil]; omega
    · refine .then (μ := List.length) (N := tw (nxT x).ts) (.ite (fun hk => ?_) fun _ => .okk (by simp)) fun on z h1 => .then (dirs_bd z) fun ds u h2 => .then (hv u) fun ss w h3 => .okk ?_
      · have := name_bd (nxT (nxT x))
        have := tw_nx (nxT x)
        exact fun w z hu => by have := name_bd (nxT (nxT x)) w z hu; unfold sl at this; omega
      · rw [sel_bulk]; simp only [bulkL, List.length_nil]; omega
  · refine .then (name_bd x) fun n y h1 => .then (μ := fun p : List UInt8 × List UInt8 => p.1.length + p.2.length) (N := n.length + tw y.ts) (.ite (fun hs => .then (name_bd _) fun m z h2 => .okk ?_) fun _ => .okk (by simp)) fun an z h2 => .then (args_bd z) fun aa u h3 => .then (dirs_bd u) fun ds w h4 => .then (μ := bulkL) (N := tw w.ts) (.ite (fun _ => hv w) fun _ => .okk (by simp [bulkL])) fun ss o h5 => .okk ?_
    · have := tw_is hs
      unfold sl at h2
      dsimp only; omega
    · unfold sl at h1
      rw [sel_bulk]; simp only [List.length_nil]; omega
theorem setF_bd {v : PS → PR D} (hv : ∀ y, Bd (fun d => bulkD d + 20) (tw y.ts) (v y)) : ∀ (f : Nat) (acc : List D) (x : PS), Bd bulkL (bulkL acc + tw x.ts) (setF v f acc x)
  | 0, _, _ => .err
  | f + 1, acc, x => by
    unfold setF
    refine .ite (fun h => .okk (by have := tw_is h.2; omega)) fun _ => .ite (fun _ => .err) fun _ => .then (hv x) fun a y h => ?_
    have := setF_bd hv f (acc ++ [a]) y
    rw [bulkL_app, bulkL_one] at this
    exact fun u z hu => by have := this u z hu; omega
theorem sels_bd : ∀ (f lv : Nat) (x : PS), Bd (fun l => bulkL l + 40) (tw x.ts) (selsQ f lv x)
  | 0, _, _ => .err
  | f + 1, lv, x => by
    have ih : ∀ y, Bd bulkL (tw y.ts) (selsQ f (lv + 1) y) := fun y u z h => by have := sels_bd f (lv + 1) y u z h; dsimp only at this; omega
    unfold selsQ
    refine .ite (fun _ => .err) fun _ => .then (take_bd _ x) fun _ y h => ?_
    have := setF_bd (sel_bd ih) (y.ts.length + 1) [] y
    exact fun u z hu => by have := this u z hu; simp only [bulkL] at this; dsimp only; omega
theorem set_bd (x : PS) : Bd (fun l => bulkL l + 40) (tw x.ts) (setQ x) := sels_bd 25 1 x
theorem var_bulk (n : List UInt8) (t : D) (h : Bool) (v : D) : bulkD (varD n t h v) = n.length + bulkD t + bulkD v + 3 := by simp only [varD, bulkD, bulkL, str_bulk]; omega
theorem null_bulk : bulkD nullD = 6 := by decide
theorem varsF_bd : ∀ (f : Nat) (acc : List D) (x : PS), Bd bulkL (bulkL acc + tw x.ts) (varsF f acc x)
  | 0, _, _ => .err
  | f + 1, acc, x => by
    unfold varsF
    refine .ite (fun h => .okk (by have := tw_is h.2; omega)) fun _ => .ite (fun _ => .err) fun _ => .then (take_bd _ x) fun _ y h1 => .then (name_bd y) fun n z h2 => .then (take_bd _ z) fun _ u h3 => .then (typ_bd u) fun t w h4 => .then (μ := fun d : Bool × D => bulkD d.2) (N := 6 + tw w.ts) (.ite (fun hs => .then (whole_bd _) fun d o h5 => .okk ?_) fun _ => .okk (by rw [null_bulk]; omega)) fun d o h5 => ?_
    · have := tw_is hs
      dsimp only at h5 ⊢
      omega
    · have := varsF_bd f (acc ++ [varD n t d.1 d.2]) o
      rw [bulkL_app, bulkL_one, var_bulk] at this
      unfold sl at h2
      exact fun w z hu => by have := this w z hu; omega
theorem op_bulk (k : Int) (n : List UInt8) (vs ss : List D) : bulkD (opD k n vs ss) = n.length + bulkL vs + bulkL ss + 5 := by simp only [opD, bulkD, bulkL, str_bulk]; omega
theorem frag_bulk (n on : List UInt8) (ss : List D) : bulkD (fragD n on ss) = n.length + on.length + bulkL ss + 4 := by simp only [fragD, bulkD, bulkL, str_bulk]; omega
theorem op_bd (k : Int) (x : PS) : Bd bulkD (tw x.ts) (opQ k x) := by
  unfold opQ
  refine .then (μ := List.length) (N := tw x.ts) (.ite (fun h => .okk (by have := tw_k2 h; omega)) fun _ => .okk (by simp)) fun n y h1 => .then (μ := bulkL) (N := tw y.ts) (.ite (fun hs => ?_) fun _ => .okk (by simp [bulkL])) fun vs z h2 => .then (set_bd z) fun ss u h3 => .okk ?_
  · have h0 := tw_is hs
    exact fun u z hu => by have := varsF_bd _ _ _ u z hu; simp only [bulkL] at this; omega
  · rw [op_bulk]; omega
theorem frag_bd (x : PS) : Bd bulkD (tw x.ts) (fragQ x) := by
  unfold fragQ
  refine .ite (fun _ => .err) fun _ => .then (name_bd x) fun n y h1 => .ite (fun hk => .then (name_bd _) fun on z h2 => .then (set_bd z) fun ss u h3 => .okk ?_) fun _ => .err
  have := tw_k2 hk.1
  unfold sl at h1 h2
  rw [frag_bulk]; omega
theorem docF_bd : ∀ (f n : Nat) (ops frs : List D) (x : PS), Bd (fun p : List D × List D => bulkL p.1 + bulkL p.2) (bulkL ops + bulkL frs + tw x.ts) (docF f n ops frs x)
  | 0, _, _, _, _ => .err
  | f + 1, n, ops, frs, x => by
    unfold docF
    refine .ite (fun _ => .okk (Nat.le_refl _)) fun _ => ?_
    dsimp only
    have hnx := tw_nx x
    refine .ite (fun _ => .err) fun _ => .ite (fun _ => .err) fun _ => .ite (fun _ => .then (set_bd x) fun ss y h => ?_) fun _ => .ite (fun _ => .then (op_bd _ _) fun o y h => ?_) fun _ => .then (frag_bd _) fun o y h => ?_
    · have := docF_bd f (n + 1) (ops ++ [opD 1 [] [] ss]) frs y
      rw [bulkL_app, bulkL_one, op_bulk] at this
      exact fun u z hu => by have := this u z hu; simp only [bulkL, List.length_nil] at this h ⊢; omega
    · have := docF_bd f (n + 1) (ops ++ [o]) frs y
      rw [bulkL_app, bulkL_one] at this
      exact fun u z hu => by have := this u z hu; dsimp only at this ⊢; omega
    · have := docF_bd f (n + 1) ops (frs ++ [o]) y
      rw [bulkL_app, bulkL_one] at this
      exact fun u z hu => by have := this u z hu; dsimp only at this ⊢; omega
theorem readU_sl {l : List UInt8} {k : Int} {s : List UInt8} {n : Nat} (h : readU l = .ok (k, s, n)) : s.length ≤ n := by
  unfold readU at h
  split at h
  · cases h
  · rename_i c r
    have hs := (span_take (p := wrdU) r).2
    have hl := spanN_le wrdU r
    split at h
    · cases h; simp
    split at h
    · split at h
      · cases h; simp
      · cases h
    split at h
    · split at h
      · cases h; rw [List.length_cons, hs]; omega
      · cases h
    split at h
    · split at h
      · cases h
      · cases h; rw [List.length_cons, hs]; omega
    split at h
    · split at h
      · cases h
      · split at h
        · cases h
        · rename_i ht
          cases h
          have := unquote_len ht
          simp at this ⊢; omega
    · cases h
theorem scanF_tw : ∀ (f : Nat) (l : List UInt8) (i : Nat) (ts : List Tok), scanF f l i = .ok ts → tw ts ≤ 41 * l.length + 40
  | 0, _, _, _, h => by cases h
  | f + 1, l, i, ts, h => by
    unfold scanF at h
    split at h
    · cases h
      simp [tw]
    · rename_i c r hl
      have hlen : (c :: r).length = l.length - skipM false l := by rw [← hl, List.length_drop]
      have hsk := skipM_le false l
      split at h
      · cases h
      · rename_i t n ht
        have hn := readT_le ht
        have hu := readT_ok ht
        have hs := readU_sl hu.1
        split at h
        · cases h
        · rename_i ts' hts
          cases h
          have := scanF_tw f _ _ _ hts
          rw [List.length_drop] at this
          simp only [tw]
          omega
theorem parse_bulk {l : List UInt8} {q : D} (h : parseT l = .ok q) : bulkL (q.f 0).l + bulkL (q.f 1).l ≤ 41 * l.length + 40 := by
  unfold parseT at h
  split at h
  · cases h
  · rename_i ts hs
    split at h
    · cases h
    · rename_i p z hd
      cases h
      obtain ⟨a, b⟩ := p
      have h1 := docF_bd _ _ _ _ _ _ _ hd
      have h2 : tw ts ≤ 41 * l.length + 40 := by
        unfold scanT at hs
        split at hs
        · cases hs
        · exact scanF_tw _ _ _ _ hs
      simp only [bulkL] at h1
      show bulkL a + bulkL b ≤ _
      omega
end Go.Proofs.YthjiclhfhjdjpaaGreatDoor
namespace Go.Proofs.YthjiclhfhjdjpaaGreatDoor
section
variable {M : Prop} {V W : Bool} {T : Tok → Tok → Prop} {I : Nat → Nat → Prop} {α β : Type}
variable (hT : TR T I)
include hT
end
end Go.Proofs.YthjiclhfhjdjpaaGreatDoor
namespace Go.Proofs.YthjiclhfhjdjpaaGreatDoor
open Go.RowKit
set_option linter.unusedSectionVars false
attribute [local irreducible] wpList Calls Code.wp AW AWo OpOk seqK blockK scopeK loopK endK AC absLex Yld Sub
attribute [local irreducible] ACB ACX ACE absLexG YldG
def opsO : Except (Nat × Int) D → List D
  | .ok q => (q.f 0).l
  | .error _ => []
def frsO : Except (Nat × Int) D → List D
  | .ok q => (q.f 1).l
  | .error _ => []
def atO : Except (Nat × Int) D → Nat
  | .ok _ => 0
  | .error x => x.1
def errO : Except (Nat × Int) D → Int
  | .ok _ => 0
  | .error x => x.2
set_option maxHeartbeats 8000000 in
set_option maxRecDepth 100000 in
theorem parseO_ac (s : List UInt8) (hs : s.length ≤ 4000000000) : AC EN5 Tryz.prog 23 [.c (.string (bs s))] (.tup [.agg [.sl 57 (opsO (parseT s)), .sl 116 (frsO (parseT s))], .c (.int .i64 (atO (parseT s) : Int)), .c (.int .i64 (errO (parseT s)))]) := by
  refine (parse_ac s hs).res ?_
  cases parseT s with
  | ok q => exact .refl _
  | error x => exact .tup (.cons (.agg (.cons (.nil _) (.cons (.nil _) .nil))) (.cons (.refl _) (.cons (.refl _) .nil)))
end Go.Proofs.YthjiclhfhjdjpaaGreatDoor
namespace Go.Proofs.YthjiclhfhjdjpaaGreatDoor
open Go.RowKit
attribute [local irreducible] wpList Calls Code.wp
def sg0 (W : World) : Sg := ⟨fun b o => (W.cell? ⟨b, o, none⟩).isSome, fun _ => none, fun _ => none, fun _ => (undef, 0)⟩
theorem var_size {P : Program} {w : World} {n : String} {g : Nat} {cs : Array Value} (hg : P.globalNamed n = some g) (h : w.var? P n = some cs) : g + 1 ≤ w.heap.size := by
  unfold World.var? at h
  rw [hg] at h
  simp only [Option.bind_some] at h
  rcases Nat.lt_or_ge g w.heap.size with h' | h'
  · exact h'
  · rw [Array.getElem?_eq_none h'] at h; cases h
theorem en5_of {W : World} (h : Env W) : EN5.E W := by
  obtain ⟨h1, ⟨tp, p, h2⟩, ⟨tp', p', h3⟩⟩ := id h
  have a1 := var_size gPow h1
  have a2 := var_size gErrR h2
  have a3 := var_size gErrS h3
  exact ⟨h, Nat.max_le.2 ⟨a1, Nat.max_le.2 ⟨a2, a3⟩⟩⟩
theorem calls_of_ac5 {f : FuncId} {args : List V} {W : World} {us : Array Value} (h : AC EN5 Tryz.prog f args (.c (.bool true))) (hr : relL Tryz.prog (sg0 W) W args us.toList) (he : Env W) : Calls Tryz.prog f us W fun e W' => e = .returned (.bool true) ∧ Below W.heap.size W W' := by
  refine (h (sg0 W) W us hr (fun b o h => h) (en5_of he)).mono ?_
  rintro e W' ⟨v, F', rfl, hfr, -, -, -, hv⟩
  rw [rel] at hv
  obtain ⟨rfl, -⟩ := hv
  exact ⟨rfl, hfr.below⟩
theorem relL1 {P : Program} {s : Sg} {w : World} {v : V} {u : Value} (h : rel P s w v u) : relL P s w [v] (#[u] : Array Value).toList := by
  show relL P s w [v] [u]
  rw [relL]; exact ⟨h, by simp [relL]⟩
end Go.Proofs.YthjiclhfhjdjpaaGreatDoor
namespace Go.Proofs.YthjiclhfhjdjpaaGreatDoor
open Go.RowKit
attribute [local irreducible] wpList Calls Code.wp
end Go.Proofs.YthjiclhfhjdjpaaGreatDoor
