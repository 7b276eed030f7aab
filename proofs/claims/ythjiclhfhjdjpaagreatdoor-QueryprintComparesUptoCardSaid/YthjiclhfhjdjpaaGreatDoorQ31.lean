/- Parts of a proof, merged by a program (shake.py). -/
import Derived.Test.YthjiclhfhjdjpaaGreatDoorProg
import Derived.KernelRfl
import Derived.Test.YthjiclhfhjdjpaaGreatDoorQ30
set_option linter.unusedVariables false
set_option linter.unusedSimpArgs false
namespace Go.Proofs.YthjiclhfhjdjpaaGreatDoor
open Go.RowKit
attribute [local irreducible] wpList Calls Code.wp AW AWo OpOk seqK blockK scopeK loopK endK AC absLex Yld Sub
/-- texts as data -/
def strsJ (f : Nat → List UInt8) (n : Nat) : List D := (List.range n).map fun i => .str (bs (f i))
set_option maxHeartbeats 8000000 in
set_option maxRecDepth 100000 in
theorem strsR_len (f : Nat → List UInt8) (n : Nat) : (strsJ f n).length = n := by simp [strsJ]
set_option maxHeartbeats 8000000 in
set_option maxRecDepth 100000 in
theorem strsR_succ (f : Nat → List UInt8) (n : Nat) : strsJ f (n + 1) = strsJ f n ++ [.str (bs (f n))] := by simp [strsJ, List.range_succ]
set_option maxHeartbeats 8000000 in
set_option maxRecDepth 100000 in
theorem txs_strsR (f : Nat → List UInt8) (n : Nat) : txs (strsJ f n) = (List.range n).map f := by
  unfold txs strsJ
  rw [List.map_map]
  exact List.map_congr_left fun i _ => tx_bs _
set_option maxHeartbeats 8000000 in
set_option maxRecDepth 100000 in
theorem app_ok {l : List D} {x : D} {c : Nat} (h : l.length ≤ 100000000) (hc : c ≤ 1000) : 0 < [x].length ∧ l.length + [x].length ≤ maxLen ∧ (l.length + [x].length) * c ≤ 140737488355328 := by
  refine ⟨by simp, by unfold maxLen; simp; omega, ?_⟩
  have : (l.length + 1) * c ≤ 100000001 * 1000 := Nat.mul_le_mul (by omega) hc
  simp only [List.length_cons, List.length_nil, Nat.zero_add]
  omega
set_option maxHeartbeats 8000000 in
set_option maxRecDepth 100000 in
theorem at_ok {i n : Nat} (h : decide ((i : Int) < (n : Int)) = true) : 0 ≤ (i : Int) ∧ (i : Int) < (n : Int) := ⟨by omega, of_decide_eq_true h⟩
set_option maxHeartbeats 8000000 in
set_option maxRecDepth 100000 in
theorem at_lt {i n : Nat} (h : decide ((i : Int) < (n : Int)) = true) : i < n := by have := of_decide_eq_true h; omega
set_option maxHeartbeats 8000000 in
set_option maxRecDepth 100000 in
theorem at_ge {i n : Nat} (h : decide ((i : Int) < (n : Int)) = false) : n ≤ i := by have := of_decide_eq_false h; omega
set_option maxHeartbeats 8000000 in
set_option maxRecDepth 100000 in
theorem sz3 {a b : UInt8} {l : List UInt8} {n : Nat} (h : l.length ≤ n) (hn : n ≤ 1000000000 := by omega) : ((⟨#[a]⟩ : ByteArray) ++ bs l).size + (⟨#[b]⟩ : ByteArray).size ≤ maxLen := by
  simp only [ByteArray.size_append, bs_size]
  show 1 + _ + 1 ≤ _
  unfold maxLen; omega
set_option maxHeartbeats 8000000 in
set_option maxRecDepth 100000 in
theorem sz2 {a : UInt8} {l : List UInt8} {n : Nat} (h : l.length ≤ n) (hn : n ≤ 1000000000 := by omega) : (⟨#[a]⟩ : ByteArray).size + (bs l).size ≤ maxLen := by
  simp only [bs_size]
  show 1 + _ ≤ _
  unfold maxLen; omega
def mI (a b : Nat) : Int := if (b : Int) < (a : Int) then b else a
set_option maxHeartbeats 8000000 in
set_option maxRecDepth 100000 in
theorem mI_eq (a b : Nat) : mI a b = (min a b : Nat) := by unfold mI; split <;> omega
noncomputable def HzL (d : D) (f : Nat → List UInt8) (i : Nat) : Vst 85 :=
  stS 85 [(1, .bx 1 0), (3, .own 3 9 (strsJ f i)), (36, .sl 84 (d.f 3).l), (37, .c (.int .i64 (d.f 3).l.length)), (38, .c (.int .i64 i))] [(1, .box 84 (cellsV Tryz.prog 12 84 d)), (3, .tok 9 (strsJ f i).length)]
noncomputable def HzO (d : D) (f : Nat → List UInt8) (i : Nat) : Vst 85 :=
  stS 85 [(1, .bx 1 0), (3, .own 3 9 (strsJ f i)), (60, .c (.int .i64 (if ((d.f 3).l.length : Int) < ((d.f 4).l.length : Int) then ((d.f 3).l.length : Int) else ((d.f 4).l.length : Int)))), (61, .c (.int .i64 i))] [(1, .box 84 (cellsV Tryz.prog 12 84 d)), (3, .tok 9 (strsJ f i).length)]
/-- the bools within are 0 or 1 -/
def goodV : Nat → D → Prop
  | 0, _ => True
  | k + 1, d => ((d.f 0).n = 1 → (d.f 1).n = 0 ∨ (d.f 1).n = 1) ∧ ∀ i, i < (d.f 3).l.length → goodV k (gD (d.f 3).l i)
set_option maxHeartbeats 8000000 in
set_option maxRecDepth 100000 in
theorem val_items (k : Nat) (d : D) (hw : wideD d) (hb : bulkD d ≤ 1048576) : (Lib.join ((List.range (d.f 3).l.length).map fun i => valT k (gD (d.f 3).l i)) commaT).length ≤ 26000000 := by
  have := join_range_le (d.f 3).l.length (fun i => valT k (gD (d.f 3).l i)) commaT (fun i => 24 * bulkD (gD (d.f 3).l i)) fun i hi => valT_len k _ ((hw.f 3).l i)
  rw [sumN_mul, ← bulkL_sum] at this
  have h3 := wD_list (d.f 3)
  have h4 := wD_f d 3
  have h5 := bulkD_wD d
  omega
set_option maxHeartbeats 8000000 in
set_option maxRecDepth 100000 in
theorem val_entries (k : Nat) (d : D) (hw : wideD d) (hb : bulkD d ≤ 1048576) : (Lib.join ((List.range (min (d.f 4).l.length (d.f 3).l.length)).map fun i => tx (gD (d.f 4).l i).s ++ [58, 32] ++ valT k (gD (d.f 3).l i)) commaT).length ≤ 52000000 := by
  have := join_range_le (min (d.f 4).l.length (d.f 3).l.length) (fun i => tx (gD (d.f 4).l i).s ++ [58, 32] ++ valT k (gD (d.f 3).l i)) commaT (fun i => 24 * bulkD (gD (d.f 4).l i) + 24 * bulkD (gD (d.f 3).l i)) fun i hi => by
    have a := valT_len k (gD (d.f 3).l i) ((hw.f 3).l i)
    have b := wD_str (gD (d.f 4).l i)
    have c := bulkD_wD (gD (d.f 4).l i)
    have e := tx_len (gD (d.f 4).l i).s
    have e' : commaT.length = 2 := rfl
    simp only [List.length_append, List.length_cons, List.length_nil]
    omega
  rw [sumN_add, sumN_mul, sumN_mul] at this
  have a1 := sumN_mono (fun i => bulkD (gD (d.f 4).l i)) (show min (d.f 4).l.length (d.f 3).l.length ≤ (d.f 4).l.length by omega)
  have a2 := sumN_mono (fun i => bulkD (gD (d.f 3).l i)) (show min (d.f 4).l.length (d.f 3).l.length ≤ (d.f 3).l.length by omega)
  rw [← bulkL_sum] at a1 a2
  have h3 := wD_list (d.f 3)
  have h4 := wD_list (d.f 4)
  have h5 := wD_f d 3
  have h6 := wD_f d 4
  have h7 := bulkD_wD d
  omega
set_option maxHeartbeats 8000000 in
set_option maxRecDepth 100000 in
theorem val_lens (d : D) (hb : bulkD d ≤ 1048576) : (d.f 2).s.size ≤ 1048576 ∧ (d.f 3).l.length ≤ 1048576 ∧ (d.f 4).l.length ≤ 1048576 := by
  have len : ∀ l : List D, l.length ≤ bulkL l := fun l => by
    induction l with
    | nil => exact Nat.zero_le _
    | cons x r ih => have := bulkD_pos x; simp only [List.length_cons, bulkL]; omega
  have h2 := wD_str (d.f 2)
  have h3 := wD_list (d.f 3)
  have h4 := wD_list (d.f 4)
  have h5 := wD_f d 2
  have h6 := wD_f d 3
  have h7 := wD_f d 4
  have h8 := bulkD_wD d
  have := len (d.f 3).l
  have := len (d.f 4).l
  omega
set_option maxHeartbeats 8000000 in
set_option maxRecDepth 100000 in
theorem valT_list {k : Nat} {d : D} (h : (d.f 0).n = 5) : valT (k + 1) d = [91] ++ Lib.join ((List.range (d.f 3).l.length).map fun i => valT k (gD (d.f 3).l i)) commaT ++ [93] := by
  rw [valT, h]; rfl
set_option maxHeartbeats 8000000 in
set_option maxRecDepth 100000 in
theorem valT_obj {k : Nat} {d : D} (h : (d.f 0).n = 6) : valT (k + 1) d = [123] ++ Lib.join ((List.range (min (d.f 4).l.length (d.f 3).l.length)).map fun i => tx (gD (d.f 4).l i).s ++ [58, 32] ++ valT k (gD (d.f 3).l i)) commaT ++ [125] := by
  rw [valT, h]; rfl
set_option maxHeartbeats 4000000 in
set_option maxRecDepth 100000 in
theorem valueP_ac : ∀ (k : Nat) (d : D), Dp k d → wideD d → goodV k d → bulkD d ≤ 1048576 → AC EN Tryz.prog 122 [.agg (cellsV Tryz.prog 12 84 d)] (.c (.string (bs (valT k d))))
  | 0, _, h, _, _, _ => h.elim
  | k + 1, d, h, hw, hg, hb => by
    obtain ⟨hs, hl3, hl4⟩ := val_lens d hb
    have hn := (hw.f 1).n
    have hdec := decimalP_ac (d.f 1).n hn.1 hn.2
    have hq := quoteP_ac (d.f 2).s hs
    have hit := val_items k d hw hb
    have hen := val_entries k d hw hb
    have ih : ∀ i, i < (d.f 3).l.length → AC EN Tryz.prog 122 [.agg (cellsV Tryz.prog 12 84 (gD (d.f 3).l i))] (.c (.string (bs (valT k (gD (d.f 3).l i))))) := fun i hi =>
      valueP_ac k _ (h i hi) ((hw.f 3).l i) (hg.2 i hi) (by have := bulk_item hi; have := bulkD_wD d; omega)
    have hjl := join_ac (strsJ (fun i => valT k (gD (d.f 3).l i)) (d.f 3).l.length) [44, 32] (by rw [strsR_len]; omega) (by rw [txs_strsR]; exact Nat.le_trans hit (by omega))
    have hjo := join_ac (strsJ (fun i => tx (gD (d.f 4).l i).s ++ [58, 32] ++ valT k (gD (d.f 3).l i)) (min (d.f 4).l.length (d.f 3).l.length)) [44, 32] (by rw [strsR_len]; omega) (by rw [txs_strsR]; exact Nat.le_trans hen (by omega))
    refine ac_enter 85 Tryz.func122 rfl rfl rfl rfl ?_
    intro s w he
    repeat' (first
 | refine aw_region ?_
 | refine awo_nil ?_
 | refine k_seq ?_
 | refine k_block ?_
 | (apply aw_1
    conv => whnf
    refine ⟨?_, trivial⟩)
 | (apply s_1
    conv => whnf; arg 1; arg 4; arg 3; whnf
    refine ⟨?_, ?_⟩)
 | (apply s_call rfl
    · conv => lhs; whnf
    · conv => lhs; whnf
    · first | exact hdec | exact hq)
 | (apply s_box rfl rfl rfl rfl
    · conv => lhs; whnf; arg 1; whnf
    · rfl)
 | (refine aw_cond (by conv => lhs; whnf) ?_ ?_ <;> intro hb)
 | refine k_seq_ret ?_
 | refine k_block_ret ?_
 | refine k_end_ret ?_
 | (refine ⟨_, by conv => lhs; whnf; arg 2; whnf, ?_⟩; conv => rhs; whnf)
 | exact trivial)
    · rename_i h0
      rw [valT, if_pos (by simpa using h0), if_neg (by have h1 : (d.f 1).n = 0 := by simpa using hb
                                                       rw [h1]; decide)]; rfl
    · rename_i h0
      have h1 : ¬ (d.f 1).n = 0 := by simpa using hb
      rw [valT, if_pos (by simpa using h0), if_pos ((hg.1 (by simpa using h0)).resolve_left h1)]; rfl
    · rename_i h0
      rw [valT, if_neg (by simpa using h0), if_pos (by simpa using hb)]
    · rename_i h0 h1
      rw [valT, if_neg (by simpa using h0), if_neg (by simpa using h1), if_pos (by simpa using hb)]
    · rename_i h0 h1 h2
      rw [valT, if_neg (by simpa using h0), if_neg (by simpa using h1), if_neg (by simpa using h2), if_pos (by simpa using hb), bs_tx]
    · rename_i h0 h1 h2 h3
      rw [valT, if_neg (by simpa using h0), if_neg (by simpa using h1), if_neg (by simpa using h2), if_neg (by simpa using h3), if_pos (by simpa using hb), ← bs_append, bs_tx]; rfl
    · have : (d.f (0 + 1 + 1)).s.size ≤ 1048576 := hs
      show 1 + _ ≤ _
      unfold maxLen; omega
    · have hk : (d.f 0).n = 5 := by simpa using hb
      refine aw_sub (Sub.own (t := 3) (e := 9) rfl rfl) ?_
      refine aw_loop (fun j st => ∃ i, i + j = (d.f 3).l.length ∧ Sub (cx EN Tryz.prog s w he) st (HzL d (fun i => valT k (gD (d.f 3).l i)) i)) (d.f 3).l.length ⟨0, by omega, ?_⟩ ?_
      · exact Sub.live ⟨rfl, rfl, rfl, rfl, rfl, trivial⟩ ⟨rfl, rfl, trivial⟩
      · rintro j st ⟨i, hij, hs2⟩
        refine aw_sub hs2 ?_
        have htk := strsR_len (fun i => valT k (gD (d.f 3).l i)) i
        have ih2 := fun (h : decide ((i : Int) < (d.f 3).l.length) = true) => ih i (by simpa using h)
        have hjl2 : decide ((i : Int) < (d.f 3).l.length) = false → AC EN Tryz.prog 59 [.sl 9 (strsJ (fun i => valT k (gD (d.f 3).l i)) i), .c (.string (bs [44, 32]))] (.c (.string (bs (Lib.join (txs (strsJ (fun i => valT k (gD (d.f 3).l i)) (d.f 3).l.length)) [44, 32])))) := fun h => by
          have e : i = (d.f 3).l.length := by simp at h; omega
          rw [e]; exact hjl
        repeat' (first
 | refine aw_region ?_
 | refine awo_nil ?_
 | refine k_seq ?_
 | refine k_block ?_
 | (apply aw_1
    conv => whnf
    refine ⟨?_, trivial⟩)
 | (apply s_1
    conv => whnf; arg 1; arg 4; arg 3; whnf
    refine ⟨?_, ?_⟩)
 | (apply s_call rfl
    · conv => lhs; whnf
    · conv => lhs; whnf
    · first | exact ih2 (by assumption) | exact hjl2 (by assumption))
 | (apply s_store rfl rfl rfl
    · conv => lhs; whnf
    · conv => lhs; whnf; arg 1; whnf
    · conv => lhs; whnf; arg 1; whnf
    · exact ⟨by kernel_rfl, by kernel_rfl⟩
    · rfl)
 | (apply s_app rfl rfl
    · conv => lhs; whnf
    · first | exact elemStr | (conv => lhs; whnf; arg 1; whnf)
    · first | exact fun _ => rfl | (intro _; kernel_rfl)
    · conv => lhs; whnf
    · conv => lhs; whnf; arg 1; whnf
    · conv => lhs; whnf)
 | (apply s_lit1 rfl rfl
    · conv => lhs; whnf
    · first | exact elemStr | (conv => lhs; whnf; arg 1; whnf)
    · conv => lhs; whnf; arg 1; whnf
    · rfl
    · rfl)
 | (refine aw_cond (by conv => lhs; whnf) ?_ ?_ <;> intro hb)
 | refine k_seq_exit ?_
 | refine k_seq_ret ?_
 | refine k_block_ret ?_
 | refine k_block_hit rfl ?_
 | refine k_loop_exit ?_
 | refine k_end_ret ?_
 | (refine ⟨_, by conv => lhs; whnf; arg 2; whnf, ?_⟩; conv => rhs; whnf)
 | exact trivial)
        · have hi := at_lt hb
          refine k_loop_next (j' := j - 1) (by omega) ⟨i + 1, by omega, Sub.live ⟨rfl, ?_, rfl, rfl, rfl, trivial⟩ ⟨rfl, ?_, trivial⟩⟩
          · show V.own 3 _ (strsJ _ i ++ [.str (bs _)]) = _
            rw [← strsR_succ]
          · show some (Res.tok _ ((strsJ _ i).length + 1)) = _
            rw [strsR_succ, List.length_append]; rfl
        · exact i64_ok (by omega)
        · exact app_ok (by omega) (by omega)
        · exact at_ok hb
        · rw [valT_list hk, txs_strsR, ← bs_append, ← bs_append]; rfl
        · rw [txs_strsR]; exact sz3 hit
        · rw [txs_strsR]; exact sz2 hit
    · have hk : (d.f 0).n = 6 := by simpa using hb
      refine aw_sub (Sub.own (t := 3) (e := 9) rfl rfl) ?_
      refine aw_loop (fun j st => ∃ i, i + j = min (d.f 4).l.length (d.f 3).l.length ∧ Sub (cx EN Tryz.prog s w he) st (HzO d (fun i => tx (gD (d.f 4).l i).s ++ [58, 32] ++ valT k (gD (d.f 3).l i)) i)) (min (d.f 4).l.length (d.f 3).l.length) ⟨0, by omega, ?_⟩ ?_
      · exact Sub.live ⟨rfl, rfl, rfl, rfl, trivial⟩ ⟨rfl, rfl, trivial⟩
      · rintro j st ⟨i, hij, hs2⟩
        refine aw_sub hs2 ?_
        have htk := strsR_len (fun i => tx (gD (d.f 4).l i).s ++ [58, 32] ++ valT k (gD (d.f 3).l i)) i
        have hlt : decide ((i : Int) < mI (d.f 4).l.length (d.f 3).l.length) = true → i < (d.f 3).l.length ∧ i < (d.f 4).l.length := fun h => by
          rw [mI_eq] at h
          have := at_lt h
          omega
        have ih2 := fun (h : decide ((i : Int) < mI (d.f 4).l.length (d.f 3).l.length) = true) => ih i (hlt h).1
        have hjo2 : decide ((i : Int) < mI (d.f 4).l.length (d.f 3).l.length) = false → AC EN Tryz.prog 59 [.sl 9 (strsJ (fun i => tx (gD (d.f 4).l i).s ++ [58, 32] ++ valT k (gD (d.f 3).l i)) i), .c (.string (bs [44, 32]))] (.c (.string (bs (Lib.join (txs (strsJ (fun i => tx (gD (d.f 4).l i).s ++ [58, 32] ++ valT k (gD (d.f 3).l i)) (min (d.f 4).l.length (d.f 3).l.length))) [44, 32])))) := fun h => by
          rw [mI_eq] at h
          have e : i = min (d.f 4).l.length (d.f 3).l.length := by have := at_ge h; omega
          rw [e]; exact hjo
        have hks : i < (d.f 4).l.length → (gD (d.f 4).l i).s.size ≤ 1048576 := fun hi => by
          have := wD_str (gD (d.f 4).l i)
          have := bulkD_wD (gD (d.f 4).l i)
          have := bulk_item hi
          have := bulkD_wD d
          omega
        have hvs : i < (d.f 3).l.length → (valT k (gD (d.f 3).l i)).length ≤ 26000000 := fun hi => by
          have := valT_len k _ ((hw.f 3).l i)
          have := bulk_item hi
          have := bulkD_wD d
          omega
        repeat' (first
 | refine aw_region ?_
 | refine awo_nil ?_
 | refine k_seq ?_
 | refine k_block ?_
 | (apply aw_1
    conv => whnf
    refine ⟨?_, trivial⟩)
 | (apply s_1
    conv => whnf; arg 1; arg 4; arg 3; whnf
    refine ⟨?_, ?_⟩)
 | (apply s_call rfl
    · conv => lhs; whnf
    · conv => lhs; whnf
    · first | exact ih2 (by assumption) | exact hjo2 (by assumption))
 | (apply aw_draw (by kernel_rfl) (by kernel_rfl))
 | apply y_nil
 | (apply y_val rfl
    · conv => lhs; whnf
    · conv => lhs; whnf; arg 2; whnf)
 | (apply y_call rfl
    · conv => lhs; whnf
    · conv => lhs; whnf
    · first | exact ih2 (by assumption) | exact hjo2 (by assumption))
 | (apply y_app rfl rfl
    · conv => lhs; whnf
    · first | exact elemStr | (conv => lhs; whnf; arg 1; whnf)
    · first | exact fun _ => rfl | (intro _; kernel_rfl)
    · conv => lhs; whnf
    · rfl
    · rfl
    · conv => lhs; whnf; arg 1; whnf
    · conv => lhs; whnf)
 | (apply y_lit1 rfl rfl
    · conv => lhs; whnf
    · first | exact elemStr | (conv => lhs; whnf; arg 1; whnf)
    · conv => lhs; whnf; arg 1; whnf
    · rfl
    · rfl)
 | exact apartB_none
 | (show apartB _ _ = true; rfl)
 | (refine aw_cond (by conv => lhs; whnf) ?_ ?_ <;> intro hb)
 | refine k_seq_exit ?_
 | refine k_seq_ret ?_
 | refine k_block_ret ?_
 | refine k_block_hit rfl ?_
 | refine k_loop_exit ?_
 | refine k_end_ret ?_
 | (refine ⟨_, by conv => lhs; whnf; arg 2; whnf, ?_⟩; conv => rhs; whnf)
 | exact trivial)
        · refine k_loop_next (j' := j - 1) (by have := hlt hb; omega) ⟨i + 1, by have := hlt hb; omega, Sub.live ⟨rfl, ?_, rfl, rfl, trivial⟩ ⟨rfl, ?_, trivial⟩⟩
          · show V.own 3 _ (strsJ _ i ++ [.str ((gD (d.f 4).l i).s ++ ⟨#[58, 32]⟩ ++ bs _)]) = _
            rw [strsR_succ, ← bs_append, ← bs_append, bs_tx]; rfl
          · show some (Res.tok _ ((strsJ _ i).length + 1)) = _
            rw [strsR_succ, List.length_append]; rfl
        · exact i64_ok (by have := hlt hb; omega)
        · exact app_ok (by have := hlt hb; omega) (by omega)
        · have h1 := hks (hlt hb).2
          have h2 := hvs (hlt hb).1
          rw [ByteArray.size_append, bs_size]
          show (gD (d.f 4).l i).s.size + 2 + _ ≤ _
          unfold maxLen; omega
        · have := (hlt hb).1
          exact ⟨by omega, by show (i : Int) < ((d.f 3).l.length : Int); omega⟩
        · have h1 := hks (hlt hb).2
          show (gD (d.f 4).l i).s.size + 2 ≤ _
          unfold maxLen; omega
        · have := (hlt hb).2
          exact ⟨by omega, by show (i : Int) < ((d.f 4).l.length : Int); omega⟩
        · rw [valT_obj hk, txs_strsR, ← bs_append, ← bs_append]; rfl
        · rw [txs_strsR]; exact sz3 hen
        · rw [txs_strsR]; exact sz2 hen
    · rename_i h0 h1 h2 h3 h4 h5
      rw [valT, if_neg (by simpa using h0), if_neg (by simpa using h1), if_neg (by simpa using h2), if_neg (by simpa using h3), if_neg (by simpa using h4), if_neg (by simpa using h5), if_neg (by simpa using hb)]; rfl
end Go.Proofs.YthjiclhfhjdjpaaGreatDoor
namespace Go.Proofs.YthjiclhfhjdjpaaGreatDoor
open Go.RowKit
attribute [local irreducible] wpList Calls Code.wp AW AWo OpOk seqK blockK scopeK loopK endK AC absLex Yld Sub
/-- what the printing of arguments asks -/
structure ArgsOk (k : Nat) (l : List D) : Prop where
  wide : ∀ i, wideD (gD l i)
  bulk : bulkL l ≤ 1048576
  dp : ∀ i, i < l.length → Dp k ((gD l i).f 1)
  good : ∀ i, i < l.length → goodV k ((gD l i).f 1)
structure DirsOk (k : Nat) (l : List D) : Prop where
  wide : ∀ i, wideD (gD l i)
  bulk : bulkL l ≤ 1048576
  args : ∀ i, i < l.length → ArgsOk k ((gD l i).f 1).l
set_option maxHeartbeats 8000000 in
set_option maxRecDepth 100000 in
theorem len_bulk (l : List D) : l.length ≤ bulkL l := by
  induction l with
  | nil => exact Nat.zero_le _
  | cons x r ih => have := bulkD_pos x; simp only [List.length_cons, bulkL]; omega
set_option maxHeartbeats 8000000 in
set_option maxRecDepth 100000 in
theorem map_strsR (f : D → List UInt8) (l : List D) : txs (strsJ (fun i => f (gD l i)) l.length) = l.map f := by
  rw [txs_strsR]
  apply List.ext_getElem (by simp)
  intro i h1 h2
  simp [gD_get (l := l) (i := i) (by simpa using h1)]
set_option maxHeartbeats 8000000 in
set_option maxRecDepth 100000 in
theorem ArgsOk.val {k : Nat} {l : List D} (h : ArgsOk k l) {i : Nat} (hi : i < l.length) : bulkD ((gD l i).f 1) ≤ 1048576 := by
  have := bulkL_get hi
  have := wD_f (gD l i) 1
  have := bulkD_wD ((gD l i).f 1)
  have := bulkD_wD (gD l i)
  have := h.bulk
  omega
set_option maxHeartbeats 8000000 in
set_option maxRecDepth 100000 in
theorem ArgsOk.name {k : Nat} {l : List D} (h : ArgsOk k l) {i : Nat} (hi : i < l.length) : ((gD l i).f 0).s.size ≤ 1048576 := by
  have := bulkL_get hi
  have := wD_f (gD l i) 0
  have := wD_str ((gD l i).f 0)
  have := bulkD_wD (gD l i)
  have := h.bulk
  omega
set_option maxHeartbeats 8000000 in
set_option maxRecDepth 100000 in
theorem ArgsOk.text {k : Nat} {l : List D} (h : ArgsOk k l) {i : Nat} (hi : i < l.length) : (valT k ((gD l i).f 1)).length ≤ 26000000 := by
  have := h.val hi
  have := valT_len k ((gD l i).f 1) ((h.wide i).f 1)
  omega
set_option maxHeartbeats 8000000 in
set_option maxRecDepth 100000 in
theorem DirsOk.name {k : Nat} {l : List D} (h : DirsOk k l) {i : Nat} (hi : i < l.length) : ((gD l i).f 0).s.size ≤ 1048576 := by
  have := bulkL_get hi
  have := wD_f (gD l i) 0
  have := wD_str ((gD l i).f 0)
  have := bulkD_wD (gD l i)
  have := h.bulk
  omega
set_option maxHeartbeats 8000000 in
set_option maxRecDepth 100000 in
theorem DirsOk.par {k : Nat} {l : List D} (h : DirsOk k l) {i : Nat} (hi : i < l.length) : (argsT k ((gD l i).f 1).l).length ≤ 30000000 := by
  have := argsT_len k ((gD l i).f 1).l (h.args i hi).wide
  have := (h.args i hi).bulk
  omega
set_option maxHeartbeats 8000000 in
set_option maxRecDepth 100000 in
theorem ArgsOk.len {k : Nat} {l : List D} (h : ArgsOk k l) : l.length ≤ 1048576 := Nat.le_trans (len_bulk l) h.bulk
set_option maxHeartbeats 8000000 in
set_option maxRecDepth 100000 in
theorem DirsOk.len {k : Nat} {l : List D} (h : DirsOk k l) : l.length ≤ 1048576 := Nat.le_trans (len_bulk l) h.bulk
set_option maxHeartbeats 8000000 in
set_option maxRecDepth 100000 in
theorem parT_if (k : Nat) (l : List D) : parT k l = if 0 < l.length then [40] ++ argsT k l ++ [41] else [] := by
  unfold parT
  by_cases h : l.length = 0
  · rw [if_pos h, if_neg (by omega)]
  · rw [if_neg h, if_pos (by omega)]
noncomputable def HdP (k : Nat) (l : List D) (i : Nat) : Vst 53 :=
  stS 53 [(3, .own 3 9 (strsJ (fun i => dirT k (gD l i)) i)), (10, .sl 150 l), (11, .c (.int .i64 l.length)), (12, .c (.int .i64 i))] [(3, .tok 9 (strsJ (fun i => dirT k (gD l i)) i).length)]
noncomputable def HaP (k : Nat) (l : List D) (i m : Nat) : Vst 53 :=
  stS 53 [(3, .own 3 9 (strsJ (fun i => dirT k (gD l i)) i)), (6, .c (.string (⟨#[64]⟩ ++ ((gD l i).f 0).s))), (7, .own 7 9 (strsJ (fun j => argT k (gD ((gD l i).f 1).l j)) m)), (10, .sl 150 l), (11, .c (.int .i64 l.length)), (12, .c (.int .i64 i)), (20, .sl 86 ((gD l i).f 1).l), (21, .c (.int .i64 ((gD l i).f 1).l.length)), (22, .c (.int .i64 m))]
    [(3, .tok 9 (strsJ (fun i => dirT k (gD l i)) i).length), (7, .tok 9 (strsJ (fun j => argT k (gD ((gD l i).f 1).l j)) m).length)]
set_option maxHeartbeats 4000000 in
set_option maxRecDepth 100000 in
theorem dirsP_ac (k : Nat) (l : List D) (h : DirsOk k l) : AC EN Tryz.prog 185 [.sl 150 l] (.c (.string (bs (dirsT k l)))) := by
  have hlen := h.len
  have hds := dirsT_len k l h.wide
  have hbk := h.bulk
  have hj := join_ac (strsJ (fun i => dirT k (gD l i)) l.length) [32] (by rw [strsR_len]; omega) (by rw [map_strsR]; exact Nat.le_trans hds (by omega))
  rw [map_strsR] at hj
  refine ac_enter 53 Tryz.func185 rfl rfl rfl rfl ?_
  intro s w he
  repeat' (first
 | refine aw_region ?_
 | refine awo_nil ?_
 | refine k_seq ?_
 | (apply aw_1
    conv => whnf
    refine ⟨?_, trivial⟩)
 | (apply s_1
    conv => whnf; arg 1; arg 4; arg 3; whnf
    refine ⟨?_, ?_⟩)
 | exact trivial)
  refine aw_sub (Sub.own (t := 3) (e := 9) rfl rfl) ?_
  refine aw_loop (fun j st => ∃ i, i + j = l.length ∧ Sub (cx EN Tryz.prog s w he) st (HdP k l i)) l.length ⟨0, by omega, ?_⟩ ?_
  · exact Sub.live ⟨rfl, rfl, rfl, rfl, trivial⟩ ⟨rfl, trivial⟩
  · rintro j st ⟨i, hij, hs2⟩
    refine aw_sub hs2 ?_
    have htk := strsR_len (fun i => dirT k (gD l i)) i
    have hj2 : decide ((i : Int) < (l.length : Int)) = false → AC EN Tryz.prog 59 [.sl 9 (strsJ (fun i => dirT k (gD l i)) i), .c (.string (bs [32]))] (.c (.string (bs (dirsT k l)))) := fun hh => by
      have e : i = l.length := by have := at_ge hh; omega
      rw [e]; exact hj
    have hnm : i < l.length → ((gD l i).f 0).s.size ≤ 1048576 := fun hi => h.name hi
    repeat' (first
 | refine aw_region ?_
 | refine awo_nil ?_
 | refine k_seq ?_
 | (apply aw_1
    conv => whnf
    refine ⟨?_, trivial⟩)
 | (apply s_1
    conv => whnf; arg 1; arg 4; arg 3; whnf
    refine ⟨?_, ?_⟩)
 | (apply s_call rfl
    · conv => lhs; whnf
    · conv => lhs; whnf
    · first | exact hj2 (by assumption))
 | (apply s_store rfl rfl rfl
    · conv => lhs; whnf
    · conv => lhs; whnf; arg 1; whnf
    · conv => lhs; whnf; arg 1; whnf
    · exact ⟨by kernel_rfl, by kernel_rfl⟩
    · rfl)
 | (refine aw_cond (by conv => lhs; whnf) ?_ ?_ <;> intro hb)
 | refine k_seq_exit ?_
 | refine k_block_hit rfl ?_
 | refine k_loop_exit ?_
 | refine k_end_ret ?_
 | (refine ⟨_, by conv => lhs; whnf; arg 2; whnf, ?_⟩; conv => rhs; whnf)
 | exact trivial)
    · have hi := at_lt hb
      have ha := h.args i hi
      have hla := ha.len
      have hpar := h.par hi
      have hja := join_ac (strsJ (fun j => argT k (gD ((gD l i).f 1).l j)) ((gD l i).f 1).l.length) [44, 32] (by rw [strsR_len]; omega) (by rw [map_strsR]; exact Nat.le_trans hpar (by omega))
      rw [map_strsR] at hja
      refine aw_sub (Sub.own (t := 7) (e := 9) rfl rfl) ?_
      refine aw_loop (fun j st => ∃ m, m + j = ((gD l i).f 1).l.length ∧ Sub (cx EN Tryz.prog s w he) st (HaP k l i m)) ((gD l i).f 1).l.length ⟨0, by omega, ?_⟩ ?_
      · exact Sub.live ⟨rfl, rfl, rfl, rfl, rfl, rfl, rfl, rfl, rfl, trivial⟩ ⟨rfl, rfl, trivial⟩
      · rintro j2 st2 ⟨m, hmj, hs3⟩
        refine aw_sub hs3 ?_
        have htk2 := strsR_len (fun j => argT k (gD ((gD l i).f 1).l j)) m
        have hv : decide ((m : Int) < (((gD l i).f 1).l.length : Int)) = true → AC EN Tryz.prog 122 [.agg (cellsV Tryz.prog 12 84 ((gD ((gD l i).f 1).l m).f 1))] (.c (.string (bs (valT k ((gD ((gD l i).f 1).l m).f 1))))) := fun hh =>
          valueP_ac k _ (ha.dp m (at_lt hh)) ((ha.wide m).f 1) (ha.good m (at_lt hh)) (ha.val (at_lt hh))
        have hja2 : decide ((m : Int) < (((gD l i).f 1).l.length : Int)) = false → AC EN Tryz.prog 59 [.sl 9 (strsJ (fun j => argT k (gD ((gD l i).f 1).l j)) m), .c (.string (bs [44, 32]))] (.c (.string (bs (argsT k ((gD l i).f 1).l)))) := fun hh => by
          have e : m = ((gD l i).f 1).l.length := by have := at_ge hh; omega
          rw [e]; exact hja
        repeat' (first
 | refine aw_region ?_
 | refine awo_nil ?_
 | refine k_seq ?_
 | refine k_block ?_
 | (apply aw_1
    conv => whnf
    refine ⟨?_, trivial⟩)
 | (apply s_1
    conv => whnf; arg 1; arg 4; arg 3; whnf
    refine ⟨?_, ?_⟩)
 | (apply s_call rfl
    · conv => lhs; whnf
    · conv => lhs; whnf
    · first | exact hv (by assumption) | exact hja2 (by assumption))
 | (apply s_store rfl rfl rfl
    · conv => lhs; whnf
    · conv => lhs; whnf; arg 1; whnf
    · conv => lhs; whnf; arg 1; whnf
    · exact ⟨by kernel_rfl, by kernel_rfl⟩
    · rfl)
 | (apply s_app rfl rfl
    · conv => lhs; whnf
    · first | exact elemStr | (conv => lhs; whnf; arg 1; whnf)
    · first | exact fun _ => rfl | (intro _; kernel_rfl)
    · conv => lhs; whnf
    · conv => lhs; whnf; arg 1; whnf
    · conv => lhs; whnf)
 | (apply s_lit1 rfl rfl
    · conv => lhs; whnf
    · first | exact elemStr | (conv => lhs; whnf; arg 1; whnf)
    · conv => lhs; whnf; arg 1; whnf
    · rfl
    · rfl)
 | (apply aw_draw (by kernel_rfl) (by kernel_rfl))
 | apply y_nil
 | (apply y_val rfl
    · conv => lhs; whnf
    · conv => lhs; whnf; arg 2; whnf)
 | (apply y_call rfl
    · conv => lhs; whnf
    · conv => lhs; whnf
    · first | exact hv (by assumption) | exact hja2 (by assumption))
 | (apply y_app rfl rfl
    · conv => lhs; whnf
    · first | exact elemStr | (conv => lhs; whnf; arg 1; whnf)
    · first | exact fun _ => rfl | (intro _; kernel_rfl)
    · conv => lhs; whnf
    · rfl
    · rfl
    · conv => lhs; whnf; arg 1; whnf
    · conv => lhs; whnf)
 | (apply y_lit1 rfl rfl
    · conv => lhs; whnf
    · first | exact elemStr | (conv => lhs; whnf; arg 1; whnf)
    · conv => lhs; whnf; arg 1; whnf
    · rfl
    · rfl)
 | exact apartB_none
 | (show apartB _ _ = true; rfl)
 | (refine aw_cond (by conv => lhs; whnf) ?_ ?_ <;> intro hb)
 | refine k_seq_exit ?_
 | refine k_block_hit rfl ?_
 | refine k_loop_exit ?_
 | exact trivial)
        · have hm := at_lt hb
          refine k_loop_next (j' := j2 - 1) (by omega) ⟨m + 1, by omega, Sub.live ⟨rfl, rfl, ?_, rfl, rfl, rfl, rfl, rfl, rfl, trivial⟩ ⟨rfl, ?_, trivial⟩⟩
          · show V.own 7 _ (strsJ _ m ++ [.str (((gD ((gD l i).f 1).l m).f 0).s ++ ⟨#[58, 32]⟩ ++ bs _)]) = _
            rw [strsR_succ, argT, ← bs_append, ← bs_append, bs_tx]; rfl
          · show some (Res.tok _ ((strsJ _ m).length + 1)) = _
            rw [strsR_succ, List.length_append]; rfl
        · exact i64_ok (by have := at_lt hb; omega)
        · exact app_ok (by have := at_lt hb; omega) (by omega)
        · have h1 := ha.name (at_lt hb)
          have h2 := ha.text (at_lt hb)
          (simp only [ByteArray.size_append, bs_size, lit_size, List.size_toArray, List.length_append, List.length_cons, List.length_nil, maxLen, Nat.reduceAdd, Int.toNat_natCast]; omega)
        · have h1 := ha.name (at_lt hb)
          (simp only [ByteArray.size_append, bs_size, lit_size, List.size_toArray, List.length_append, List.length_cons, List.length_nil, maxLen, Nat.reduceAdd, Int.toNat_natCast]; omega)
        · exact at_ok hb
        · rename_i hb0
          have e : m = ((gD l i).f 1).l.length := by have := at_ge hb0; omega
          have hp : 0 < ((gD l i).f 1).l.length := by rw [htk2] at hb; have := of_decide_eq_true hb; omega
          refine k_loop_next (j' := j - 1) (by omega) ⟨i + 1, by omega, Sub.live ⟨?_, rfl, rfl, rfl, trivial⟩ ⟨?_, trivial⟩⟩
          · show V.own 3 _ (strsJ _ i ++ [.str (⟨#[64]⟩ ++ ((gD l i).f 0).s ++ (⟨#[40]⟩ ++ bs (argsT k ((gD l i).f 1).l) ++ ⟨#[41]⟩))]) = _
            rw [strsR_succ, dirT, parT_if, if_pos hp, ← bs_append, ← bs_append, ← bs_append, ← bs_append, bs_tx]; rfl
          · show some (Res.tok _ ((strsJ _ i).length + 1)) = _
            rw [strsR_succ, List.length_append]; rfl
        · exact i64_ok (by omega)
        · exact app_ok (by omega) (by omega)
        · have := hnm hi
          (simp only [ByteArray.size_append, bs_size, lit_size, List.size_toArray, List.length_append, List.length_cons, List.length_nil, maxLen, Nat.reduceAdd, Int.toNat_natCast]; omega)
        · (simp only [ByteArray.size_append, bs_size, lit_size, List.size_toArray, List.length_append, List.length_cons, List.length_nil, maxLen, Nat.reduceAdd, Int.toNat_natCast]; omega)
        · (simp only [ByteArray.size_append, bs_size, lit_size, List.size_toArray, List.length_append, List.length_cons, List.length_nil, maxLen, Nat.reduceAdd, Int.toNat_natCast]; omega)
        · rename_i hb0
          have e : m = ((gD l i).f 1).l.length := by have := at_ge hb0; omega
          have hp : ¬ 0 < ((gD l i).f 1).l.length := by rw [htk2] at hb; have := of_decide_eq_false hb; omega
          refine k_loop_next (j' := j - 1) (by omega) ⟨i + 1, by omega, Sub.live ⟨?_, rfl, rfl, rfl, trivial⟩ ⟨?_, trivial⟩⟩
          · show V.own 3 _ (strsJ _ i ++ [.str (⟨#[64]⟩ ++ ((gD l i).f 0).s)]) = _
            rw [strsR_succ, dirT, parT_if, if_neg hp, List.append_nil, ← bs_append, bs_tx]; rfl
          · show some (Res.tok _ ((strsJ _ i).length + 1)) = _
            rw [strsR_succ, List.length_append]; rfl
        · exact i64_ok (by omega)
        · exact app_ok (by omega) (by omega)
    · have := hnm (at_lt hb)
      show 1 + ((gD l i).f 0).s.size ≤ _
      unfold maxLen; omega
    · exact at_ok hb
end Go.Proofs.YthjiclhfhjdjpaaGreatDoor
namespace Go.Proofs.YthjiclhfhjdjpaaGreatDoor
open Go.RowKit
attribute [local irreducible] wpList Calls Code.wp AW AWo OpOk seqK blockK scopeK loopK endK AC absLex Yld Sub
set_option maxHeartbeats 8000000 in
set_option maxRecDepth 100000 in
theorem tail_ac (k : Nat) (l : List D) (h : DirsOk k l) : AC EN Tryz.prog 116 [.sl 150 l] (.c (.string (bs (tailT k l)))) := by
  have hd := dirsP_ac k l h
  have hds := dirsT_len k l h.wide
  have hbk := h.bulk
  refine ac_enter 9 Tryz.func116 rfl rfl rfl rfl ?_
  intro s w he
  repeat' (first
 | refine aw_region ?_
 | refine awo_nil ?_
 | refine k_seq ?_
 | (apply aw_1
    conv => whnf
    refine ⟨?_, trivial⟩)
 | (apply s_1
    conv => whnf; arg 1; arg 4; arg 3; whnf
    refine ⟨?_, ?_⟩)
 | (apply s_call rfl
    · conv => lhs; whnf
    · conv => lhs; whnf
    · first | exact hd)
 | (refine aw_cond (by conv => lhs; whnf) ?_ ?_ <;> intro hb)
 | refine k_seq_ret ?_
 | refine k_end_ret ?_
 | (refine ⟨_, by conv => lhs; whnf; arg 2; whnf, ?_⟩; conv => rhs; whnf)
 | exact trivial)
  · have e : l.length = 0 := by have : ((l.length : Int)) = 0 := by simpa using hb
                                omega
    rw [tailT, if_pos e]; rfl
  · have e : ¬ l.length = 0 := by have : ¬ ((l.length : Int)) = 0 := by simpa using hb
                                  omega
    rw [tailT, if_neg e, ← bs_append]; rfl
  · exact sz2 hds
noncomputable def HgP (k : Nat) (l : List D) (i : Nat) : Vst 30 :=
  stS 30 [(3, .own 3 9 (strsJ (fun i => argT k (gD l i)) i)), (9, .sl 86 l), (10, .c (.int .i64 l.length)), (11, .c (.int .i64 i))] [(3, .tok 9 (strsJ (fun i => argT k (gD l i)) i).length)]
set_option maxHeartbeats 8000000 in
set_option maxRecDepth 100000 in
theorem argsP_ac (k : Nat) (l : List D) (h : ArgsOk k l) : AC EN Tryz.prog 117 [.sl 86 l] (.c (.string (bs (parT k l)))) := by
  have hlen := h.len
  have hds := argsT_len k l h.wide
  have hbk := h.bulk
  have hj := join_ac (strsJ (fun i => argT k (gD l i)) l.length) [44, 32] (by rw [strsR_len]; omega) (by rw [map_strsR]; exact Nat.le_trans hds (by omega))
  rw [map_strsR] at hj
  refine ac_enter 30 Tryz.func117 rfl rfl rfl rfl ?_
  intro s w he
  repeat' (first
 | refine aw_region ?_
 | refine awo_nil ?_
 | refine k_seq ?_
 | (apply aw_1
    conv => whnf
    refine ⟨?_, trivial⟩)
 | (apply s_1
    conv => whnf; arg 1; arg 4; arg 3; whnf
    refine ⟨?_, ?_⟩)
 | (refine aw_cond (by conv => lhs; whnf) ?_ ?_ <;> intro hb)
 | refine k_seq_ret ?_
 | refine k_end_ret ?_
 | (refine ⟨_, by conv => lhs; whnf; arg 2; whnf, ?_⟩; conv => rhs; whnf)
 | exact trivial)
  · have e : l.length = 0 := by have : ((l.length : Int)) = 0 := by simpa using hb
                                omega
    rw [parT, if_pos e]; rfl
  · have e : ¬ l.length = 0 := by have : ¬ ((l.length : Int)) = 0 := by simpa using hb
                                  omega
    refine aw_sub (Sub.own (t := 3) (e := 9) rfl rfl) ?_
    refine aw_loop (fun j st => ∃ i, i + j = l.length ∧ Sub (cx EN Tryz.prog s w he) st (HgP k l i)) l.length ⟨0, by omega, ?_⟩ ?_
    · exact Sub.live ⟨rfl, rfl, rfl, rfl, trivial⟩ ⟨rfl, trivial⟩
    · rintro j st ⟨i, hij, hs2⟩
      refine aw_sub hs2 ?_
      have htk := strsR_len (fun i => argT k (gD l i)) i
      have hj2 : decide ((i : Int) < (l.length : Int)) = false → AC EN Tryz.prog 59 [.sl 9 (strsJ (fun i => argT k (gD l i)) i), .c (.string (bs [44, 32]))] (.c (.string (bs (argsT k l)))) := fun hh => by
        have e : i = l.length := by have := at_ge hh; omega
        rw [e]; exact hj
      have hv : decide ((i : Int) < (l.length : Int)) = true → AC EN Tryz.prog 122 [.agg (cellsV Tryz.prog 12 84 ((gD l i).f 1))] (.c (.string (bs (valT k ((gD l i).f 1))))) := fun hh =>
        valueP_ac k _ (h.dp i (at_lt hh)) ((h.wide i).f 1) (h.good i (at_lt hh)) (h.val (at_lt hh))
      repeat' (first
 | refine aw_region ?_
 | refine awo_nil ?_
 | refine k_seq ?_
 | refine k_block ?_
 | (apply aw_1
    conv => whnf
    refine ⟨?_, trivial⟩)
 | (apply s_1
    conv => whnf; arg 1; arg 4; arg 3; whnf
    refine ⟨?_, ?_⟩)
 | (apply s_call rfl
    · conv => lhs; whnf
    · conv => lhs; whnf
    · first | exact hv (by assumption) | exact hj2 (by assumption))
 | (apply s_store rfl rfl rfl
    · conv => lhs; whnf
    · conv => lhs; whnf; arg 1; whnf
    · conv => lhs; whnf; arg 1; whnf
    · exact ⟨by kernel_rfl, by kernel_rfl⟩
    · rfl)
 | (apply aw_draw (by kernel_rfl) (by kernel_rfl))
 | apply y_nil
 | (apply y_val rfl
    · conv => lhs; whnf
    · conv => lhs; whnf; arg 2; whnf)
 | (apply y_call rfl
    · conv => lhs; whnf
    · conv => lhs; whnf
    · first | exact hv (by assumption) | exact hj2 (by assumption))
 | (apply y_app rfl rfl
    · conv => lhs; whnf
    · first | exact elemStr | (conv => lhs; whnf; arg 1; whnf)
    · first | exact fun _ => rfl | (intro _; kernel_rfl)
    · conv => lhs; whnf
    · rfl
    · rfl
    · conv => lhs; whnf; arg 1; whnf
    · conv => lhs; whnf)
 | (apply y_lit1 rfl rfl
    · conv => lhs; whnf
    · first | exact elemStr | (conv => lhs; whnf; arg 1; whnf)
    · conv => lhs; whnf; arg 1; whnf
    · rfl
    · rfl)
 | exact apartB_none
 | (show apartB _ _ = true; rfl)
 | (refine aw_cond (by conv => lhs; whnf) ?_ ?_ <;> intro hb)
 | refine k_seq_exit ?_
 | refine k_block_hit rfl ?_
 | refine k_loop_exit ?_
 | refine k_end_ret ?_
 | (refine ⟨_, by conv => lhs; whnf; arg 2; whnf, ?_⟩; conv => rhs; whnf)
 | exact trivial)
      · have hi := at_lt hb
        refine k_loop_next (j' := j - 1) (by omega) ⟨i + 1, by omega, Sub.live ⟨?_, rfl, rfl, rfl, trivial⟩ ⟨?_, trivial⟩⟩
        · show V.own 3 _ (strsJ _ i ++ [.str (((gD l i).f 0).s ++ ⟨#[58, 32]⟩ ++ bs _)]) = _
          rw [strsR_succ, argT, ← bs_append, ← bs_append, bs_tx]; rfl
        · show some (Res.tok _ ((strsJ _ i).length + 1)) = _
          rw [strsR_succ, List.length_append]; rfl
      · exact i64_ok (by have := at_lt hb; omega)
      · exact app_ok (by have := at_lt hb; omega) (by omega)
      · have h1 := h.name (at_lt hb)
        have h2 := h.text (at_lt hb)
        show (((gD l i).f 0).s ++ ⟨#[58, 32]⟩).size + (bs (valT k ((gD l i).f 1))).size ≤ maxLen
        (simp only [ByteArray.size_append, bs_size, lit_size, List.size_toArray, List.length_append, List.length_cons, List.length_nil, maxLen, Nat.reduceAdd, Int.toNat_natCast]; omega)
      · have h1 := h.name (at_lt hb)
        show (((gD l i).f 0).s).size + (⟨#[58, 32]⟩ : ByteArray).size ≤ maxLen
        (simp only [ByteArray.size_append, bs_size, lit_size, List.size_toArray, List.length_append, List.length_cons, List.length_nil, maxLen, Nat.reduceAdd, Int.toNat_natCast]; omega)
      · exact at_ok hb
      · rw [parT, if_neg e, ← bs_append, ← bs_append]; rfl
      · exact sz3 hds
      · exact sz2 hds
/-- the text of a type -/
def refB (n : List UInt8) : List D → List UInt8
  | [] => n
  | d :: ds => if d.n == 1 then refB n ds ++ [33] else [91] ++ refB n ds ++ [93]
set_option maxHeartbeats 8000000 in
set_option maxRecDepth 100000 in
theorem refB_length (n : List UInt8) : ∀ l, (refB n l).length ≤ n.length + 2 * l.length
  | [] => by simp [refB]
  | d :: ds => by
    have := refB_length n ds
    unfold refB
    split <;> simp <;> omega
end Go.Proofs.YthjiclhfhjdjpaaGreatDoor
namespace Go.Proofs.YthjiclhfhjdjpaaGreatDoor
open Go.RowKit
attribute [local irreducible] wpList Calls Code.wp
/-- at the head of a block of type T lies a builder -/
def LiesB (T : TypeId) : Prop := liesAt Tryz.prog Tryz.prog.depth T (2 / Tryz.prog.cellsOf T) 0 92 1 = true
set_option maxHeartbeats 1000000 in
set_option maxRecDepth 100000 in
theorem check_freshW {T : TypeId} (hT : LiesB T) (b : Nat) (w : World) (h0 : w.cell? ⟨b, 0, none⟩ = some (.pointer none)) (hsh : w.shape? b = some (T, 2)) (hfz : w.frozen? ⟨b, 0, none⟩ = false) :
    Calls Tryz.prog 94 #[.pointer (some ⟨b, 0, none⟩)] w fun e w' => e = .returned (.tuple #[]) ∧ w' = w.setCell ⟨b, 0, none⟩ (.pointer (some ⟨b, 0, none⟩)) := by
  obtain ⟨j, hj, hjs⟩ := Option.map_eq_some_iff.1 bSize
  go_enter Tryz.func94, Tryz.ntmps94
  go_wp2
  rw [Lib.run_to_unsafe w ⟨b, 0, none⟩ Tryz.underlying89 Tryz.underlying208 hj (by rw [hjs]; decide) hsh (Nat.zero_lt_succ 1)]
  simp only [Result.andThen]
  rw [Oper.upon_value]
  go_wp2
  rw [run_callFunc_extern Tryz.func173 (by kernel_rfl) (by kernel_rfl) (by kernel_rfl) (e := Extern.AbiNoEscape.same) (by kernel_rfl)]
  rw [Lib.run_noEscape]
  simp only [Result.andThen]
  rw [Oper.upon_value]
  go_wp2
  rw [Lib.run_from_unsafe w ⟨b, 0, none⟩ Tryz.underlying208 Tryz.underlying89 hj hsh hT]
  simp only [Result.andThen]
  rw [Oper.upon_value]
  go_wp2
  go_end0
  exact ⟨rfl, rfl⟩
/-- the builder at block b holds the bytes l -/
def BldAtW (T : TypeId) (b : Nat) (l : List UInt8) (v p : Value) (w : World) : Prop :=
  w.heap[b]? = some (.cells #[p, v] T (0, 0)) ∧ (p = .pointer none ∨ p = .pointer (some ⟨b, 0, none⟩)) ∧ w.ownsRowF 0 5 1 v l.length (Lib.byteCells l) ∧ v.ownBlock ≠ some b
def BPostW (T : TypeId) (b : Nat) (v : Value) (l : List UInt8) (w w' : World) : Prop :=
  ∃ v' p', BldAtW T b l v' p' w' ∧ Frm (fun k => k = b ∨ v.ownBlock = some k) w w' ∧ ∀ g, v'.ownBlock = some g → v.ownBlock = some g ∨ w.heap.size ≤ g
/-- what is said of blocks, said of values -/
theorem bld_acbVW {T : TypeId} {e : Ge} {f : FuncId} {cargs : List Value} {l l' : List UInt8} {r : Value} (rv : V) (hr : ∀ s w, rel Tryz.prog s w rv r) (h : ∀ b v p w, BldAtW T b l v p w → Calls Tryz.prog f (Value.pointer (some ⟨b, 0, none⟩) :: cargs).toArray w fun e w' => e = .returned r ∧ BPostW T b v l' w w') :
    ACB e Tryz.prog f (.bx (pn 0) 0 :: cargs.map .c) [.bld T 5 l] rv [.bld T 5 l'] := by
  intro pas s w us hus hmem _ _
  obtain ⟨b, v, p, h1, h2, h3, h4, h5, h6, h7, h8⟩ := hmem.ho (pn 0) _ (rsOf_pn _ 0)
  have hus2 : us = (Value.pointer (some ⟨b, 0, none⟩) :: cargs).toArray := by
    apply Array.ext'
    simp only [List.toList_toArray]
    cases hl : us.toList with
    | nil => rw [hl] at hus; simp [relL] at hus
    | cons x xs =>
      rw [hl, relL, rel] at hus
      obtain ⟨⟨b', hb', rfl⟩, hxs⟩ := hus
      rw [h1] at hb'; cases hb'
      rw [relL_consts hxs]
  rw [hus2]
  refine (h b v p w ⟨h2, h3, h4, h5⟩).mono ?_
  rintro e w' ⟨rfl, v', p', ⟨q1, q2, q3, q4⟩, hfr, hg⟩
  have hbl : b < w.heap.size := (Array.getElem?_eq_some_iff.1 h2).1
  have hpb : pas b := by
    rcases hmem.bs (pn 0) _ b (rsOf_pn _ 0) (.inl h1) with h9 | h9
    · omega
    · exact h9
  have hpg : ∀ g, v.ownBlock = some g → pas g := fun g hg' => by
    have := (h4.lt g hg').2
    rcases hmem.bs (pn 0) _ g (rsOf_pn _ 0) (.inr (h6.trans hg')) with h9 | h9
    · omega
    · exact h9
  have hfr2 : Frm pas w w' := ⟨hfr.os, hfr.tape, hfr.output, hfr.size, fun k hk hp => hfr.block k hk fun hh => hp (hh.elim (fun e => by rw [e]; exact hpb) (hpg k))⟩
  have hcell : ∀ k o, s.F k o → w'.cell? ⟨k, o, none⟩ = w.cell? ⟨k, o, none⟩ := fun k o hF => by
    obtain ⟨x, hx⟩ := Option.isSome_iff_exists.1 (hmem.fx k o hF)
    exact World.cell?_of_block (w := w) (hfr.block k (block_lt_of_cell hx) fun hh => hh.elim (fun e => by rw [e] at hF; exact h7 o hF) (fun e => h8 k o e hF))
  let s' : Sg := { s with tb := fun q => if q = pn 0 then v'.ownBlock else s.tb q }
  have htb : s'.tb (pn 0) = v'.ownBlock := by show (if pn 0 = pn 0 then v'.ownBlock else s.tb (pn 0)) = _; rw [if_pos rfl]
  refine ⟨r, s', rfl, hfr2, fun k o hF => ⟨hcell k o hF, hF⟩, fun _ _ _ _ h => h, ⟨fun k o hF => by rw [hcell k o hF]; exact hmem.fx k o hF, fun n ρ hn => ?_, fun n ρ k hn hk => ?_, fun n m ρ ρ' k hn hm _ _ => ?_⟩, PE.refl _, hr _ _⟩
  · obtain ⟨i, rfl, hi⟩ := rsOf_some hn
    cases i with
    | zero =>
      simp at hi; subst hi
      refine ⟨b, v', p', h1, q1, q2, q3, q4, htb, h7, fun g o hg' hF => ?_⟩
      rcases hg g hg' with h9 | h9
      · exact h8 g o h9 hF
      · obtain ⟨x, hx⟩ := Option.isSome_iff_exists.1 (hmem.fx g o hF)
        have := block_lt_of_cell hx
        simp at this; omega
    | succ i => simp at hi
  · obtain ⟨i, rfl, hi⟩ := rsOf_some hn
    cases i with
    | zero =>
      simp at hi; subst hi
      rcases hk with hk | hk
      · rw [show s'.bx (pn 0) = s.bx (pn 0) from rfl, h1] at hk; cases hk; exact .inr hpb
      · rw [htb] at hk
        rcases hg k hk with h9 | h9
        · exact .inr (hpg k h9)
        · exact .inl h9
    | succ i => simp at hi
  · obtain ⟨i, rfl, hi⟩ := rsOf_some hn
    obtain ⟨j, rfl, hj⟩ := rsOf_some hm
    cases i with
    | zero => cases j with
      | zero => rfl
      | succ j => simp at hj
    | succ i => simp at hi
theorem bld_acbW {T : TypeId} {e : Ge} {f : FuncId} {cargs : List Value} {l l' : List UInt8} {r : Value} (hr : okV r) (h : ∀ b v p w, BldAtW T b l v p w → Calls Tryz.prog f (Value.pointer (some ⟨b, 0, none⟩) :: cargs).toArray w fun e w' => e = .returned r ∧ BPostW T b v l' w w') :
    ACB e Tryz.prog f (.bx (pn 0) 0 :: cargs.map .c) [.bld T 5 l] (.c r) [.bld T 5 l'] :=
  bld_acbVW (.c r) (fun s w => by rw [rel]; exact ⟨rfl, hr⟩) h
/-- copyCheck: behind it the builder knows its own address -/
theorem check_bW {T : TypeId} (hT : LiesB T) (b : Nat) (l : List UInt8) (v p : Value) (w : World) (h : BldAtW T b l v p w) :
    Calls Tryz.prog 94 #[.pointer (some ⟨b, 0, none⟩)] w fun e w' => e = .returned (.tuple #[]) ∧ BldAtW T b l v (.pointer (some ⟨b, 0, none⟩)) w' ∧ Frm (fun k => k = b) w w' ∧ w'.heap.size = w.heap.size := by
  obtain ⟨q1, q2, q3, q4⟩ := h
  have c0 : w.cell? ⟨b, 0, none⟩ = some p := by rw [Lib.cell_of_heap q1]; rfl
  rcases q2 with rfl | rfl
  · refine (check_freshW hT b w c0 (by simp [World.shape?, q1]) (Lib.frozen_of_heap q1 0)).mono ?_
    rintro e w' ⟨rfl, rfl⟩
    have hb : (w.setCell ⟨b, 0, none⟩ (.pointer (some ⟨b, 0, none⟩))).heap[b]? = some (.cells #[.pointer (some ⟨b, 0, none⟩), v] T (0, 0)) := by
      simp [World.setCell, Array.getElem?_modify, q1]
    refine ⟨rfl, ⟨hb, .inr rfl, ownsRowF_other q3 fun g hg => Below.heap_setCell _ _ _ _ fun e => q4 (by rw [hg, e]), q4⟩, ⟨rfl, rfl, rfl, by simp [World.setCell], fun k _ hk => Below.heap_setCell _ _ _ _ hk⟩, by simp [World.setCell]⟩
  · refine (check_used b w c0).mono ?_
    rintro e w' ⟨rfl, rfl⟩
    exact ⟨rfl, ⟨q1, .inr rfl, q3, q4⟩, Frm.refl _ _, rfl⟩
/-- behind an append and the store of its result in the builder -/
theorem post_bW {T : TypeId} {w0 w1 w2 : World} {b : Nat} {v v' p : Value} {l l' : List UInt8} (hb : b < w1.heap.size) (hs : w0.heap.size ≤ w1.heap.size) (h1 : Frm (fun k => k = b) w0 w1) (hb1 : w1.heap[b]? = some (.cells #[.pointer (some ⟨b, 0, none⟩), v] T (0, 0))) (hne : v.ownBlock ≠ some b)
    (hown : w2.ownsRowF 0 5 1 v' l'.length (Lib.byteCells l')) (hg : w1.grownBy w2 v.ownBlock) (hl : ∀ g, v'.ownBlock = some g → v.ownBlock = some g ∨ w1.heap.size ≤ g) :
    w2.heap[b]? = some (.cells #[.pointer (some ⟨b, 0, none⟩), v] T (0, 0)) ∧ BPostW T b v l' w0 (w2.setCell ⟨b, 1, none⟩ v') := by
  have hb2 : w2.heap[b]? = some (.cells #[.pointer (some ⟨b, 0, none⟩), v] T (0, 0)) := by rw [hg.block b hb (fun e => hne e.symm)]; exact hb1
  have hne' : v'.ownBlock ≠ some b := fun e => by
    rcases hl b e with h | h
    · exact hne h
    · omega
  have hb3 : (w2.setCell ⟨b, 1, none⟩ v').heap[b]? = some (.cells #[.pointer (some ⟨b, 0, none⟩), v'] T (0, 0)) := by simp [World.setCell, Array.getElem?_modify, hb2]
  refine ⟨hb2, v', _, ⟨hb3, .inr rfl, ownsRowF_other hown fun g hg' => Below.heap_setCell _ _ _ _ fun e => hne' (by rw [hg', e]), hne'⟩, ⟨hg.os.trans h1.os, hg.tape.trans h1.tape, hg.output.trans h1.output, Nat.le_trans hs (Nat.le_trans hg.size (by simp [World.setCell])), fun k hk hnk => ?_⟩, fun g hg' => (hl g hg').imp id fun h => Nat.le_trans hs h⟩
  rw [Below.heap_setCell _ _ _ _ (fun e => hnk (.inl e)), hg.block k (by omega) (fun e => hnk (.inr e.symm)), h1.block k hk fun e => hnk (.inl e)]
set_option maxHeartbeats 2000000 in
set_option maxRecDepth 100000 in
theorem writeString_bW {T : TypeId} (hT : LiesB T) (b : Nat) (l : List UInt8) (v p : Value) (w : World) (h : BldAtW T b l v p w) (s : ByteArray) (hlen : l.length + s.size ≤ 140737488355328) :
    Calls Tryz.prog 46 #[.pointer (some ⟨b, 0, none⟩), .string s] w fun e w' => e = .returned (.tuple #[.int .i64 s.size, .nilIface]) ∧ BPostW T b v (l ++ s.data.toList) w w' := by
  have H := Lib.hid (check_bW hT b l v p w h)
  clear h
  go_enter Tryz.func46, Tryz.ntmps46
  go_wp2_with fail
  refine H.out.mono ?_
  rintro e w1 ⟨rfl, ⟨q1, -, q3, q4⟩, hf, hsz⟩
  have Hsz := Lib.hid (show w.heap.size ≤ w1.heap.size by omega); clear hsz
  have hlt : b < w1.heap.size := (Array.getElem?_eq_some_iff.1 q1).1
  have c1 : w1.cell? ⟨b, 1, none⟩ = some v := by rw [Lib.cell_of_heap q1]; rfl
  go_wp2_with (at_builtin; refine append_s rfl _ _ 90 9 5 rfl Tryz.underlying90 Tryz.underlying9 u8info v l.length (Lib.byteCells l) rfl q3 s rfl (by unfold maxLen; omega) hlen ?_)
  intro v' w2 hown' hgrow hl
  have hcell : Lib.byteCells (l ++ s.data.toList) = Lib.byteCells l ++ Lib.strCells s := by rw [Lib.byteCells_append, Lib.strCells_eq]
  have hll : l.length + s.size = (l ++ s.data.toList).length := by rw [List.length_append]; rfl
  rw [← hcell, hll] at hown'
  obtain ⟨hb2, hpost⟩ := post_bW (l' := l ++ s.data.toList) (l := l) (p := p) hlt Hsz.out hf q1 q4 hown' hgrow hl
  have d1 : w2.cell? ⟨b, 1, none⟩ = some v := by rw [Lib.cell_of_heap hb2]; rfl
  have f1 : w2.frozen? ⟨b, 1, none⟩ = false := Lib.frozen_of_heap hb2 1
  obtain ⟨ao, n', cap, rfl⟩ : ∃ ao n' cap, v' = .slice ao n' cap := by
    rcases hown'.2 with ⟨hv, _⟩ | ⟨g, cap, cur, fz, hv, _⟩
    · exact ⟨_, _, _, hv⟩
    · exact ⟨_, _, _, hv⟩
  have Hp := Lib.hid hpost
  clear hpost hown' hgrow hl q3 hll hcell
  go_wp2
  go_ret2
  exact ⟨rfl, Hp.out⟩
/-- behind a look at the builder -/
theorem post_sW {T : TypeId} {w w' : World} {b : Nat} {v p : Value} {l : List UInt8} (h : BldAtW T b l v p w) (hf : Frm (fun k => k = b ∨ v.ownBlock = some k) w w') (hb : w'.heap[b]? = w.heap[b]?) (hg : w'.ownsRowF 0 5 1 v l.length (Lib.byteCells l)) : BPostW T b v l w w' :=
  ⟨v, p, ⟨hb.trans h.1, h.2.1, hg, h.2.2.2⟩, hf, fun _ hg => .inl hg⟩
set_option maxHeartbeats 4000000 in
set_option maxRecDepth 100000 in
theorem string_bW {T : TypeId} (b : Nat) (l : List UInt8) (v p : Value) (w : World) (h : BldAtW T b l v p w) :
    Calls Tryz.prog 49 #[.pointer (some ⟨b, 0, none⟩)] w fun e w' => e = .returned (.string ⟨l.toArray⟩) ∧ BPostW T b v l w w' := by
  have h' := h
  obtain ⟨q1, q2, q3, q4⟩ := h
  have hUS0 : ∀ (W : World) (q : Option Addr), (Builtin.unsafeString_ #[154, 3] 9 #[.pointer q, .int .i64 0]).run Tryz.prog W = .ok (.string ByteArray.empty) W := Any.unsafeString_none Tryz.lays169 Tryz.Builder_Extra_169
  have mixed : Tryz.prog.follows .mixedOrders = true := by kernel_rfl
  have hbl : b < w.heap.size := (Array.getElem?_eq_some_iff.1 q1).1
  rcases q3.2 with ⟨rfl, h0⟩ | ⟨g, cap, cur, fz, rfl, hbg, hg, hfz, hnc, hcm, hcs, htake⟩
  · have hl : l = [] := List.eq_nil_of_length_eq_zero h0
    subst hl
    have c1 : w.drew.cell? ⟨b, 1, none⟩ = some (.slice none 0 0) := by
      have : w.drew.heap[b]? = some (.cells #[p, .slice none 0 0] T (0, 0)) := q1
      rw [Lib.cell_of_heap this]; rfl
    have hSD : (Builtin.unsafeSliceData_ #[90] 154 #[.slice none 0 0]).run Tryz.prog w.drew = .ok (.pointer none) w.drew := rfl
    have HP := Lib.hid (post_sW (w' := w.drew) h' ⟨rfl, rfl, rfl, Nat.le_refl _, fun _ _ _ => rfl⟩ rfl q3)
    clear h' q3 q4 q1 h0
    go_enter Tryz.func49, Tryz.ntmps49
    go_wp2
    go_region_o
    all_goals (go_wp2; go_ret; exact ⟨rfl, HP.out⟩)
  · have hbg' : b ≠ g := fun e => q4 (by rw [e]; rfl)
    by_cases hl0 : l = []
    · subst hl0
      by_cases hc0 : cap = 0
      · subst hc0
        have c1 : w.drew.cell? ⟨b, 1, none⟩ = some (.slice (some ⟨g, 0, none⟩) 0 0) := by
          have : w.drew.heap[b]? = some (.cells #[p, .slice (some ⟨g, 0, none⟩) 0 0] T (0, 0)) := q1
          rw [Lib.cell_of_heap this]; rfl
        have hSD : (Builtin.unsafeSliceData_ #[90] 154 #[.slice (some ⟨g, 0, none⟩) 0 0]).run Tryz.prog w.drew = .ok (.pointer (some ⟨w.drew.heap.size, 0, none⟩)) (w.drew.alloc (.view ⟨g, 0, none⟩ 5)) :=
          Lib.run_unsafeSliceData_zero w.drew _ _ 5 Tryz.underlying154 ⟨g, 0, none⟩ 0 (5, cur.size) (by have hg' : w.drew.heap[g]? = some (.cells cur 5 fz) := hg; simp [World.shape?, hg'])
        have c2 : (w.drew.alloc (.view ⟨g, 0, none⟩ 5)).cell? ⟨b, 1, none⟩ = some (.slice (some ⟨g, 0, none⟩) 0 0) := by
          have : (w.drew.alloc (.view ⟨g, 0, none⟩ 5)).heap[b]? = _ := (Lib.alloc_old w.drew _ b hbl).trans q1
          rw [Lib.cell_of_heap this]; rfl
        have c3 : (w.alloc (.view ⟨g, 0, none⟩ 5)).drew.cell? ⟨b, 1, none⟩ = some (.slice (some ⟨g, 0, none⟩) 0 0) := c2
        have c0 : w.cell? ⟨b, 1, none⟩ = some (.slice (some ⟨g, 0, none⟩) 0 0) := c1
        have HP := Lib.hid (post_sW (w' := w.drew.alloc (.view ⟨g, 0, none⟩ 5)) h' (frm_grow w _ _) (Below.heap_alloc w.drew _ b hbl) (ownsRowF_other q3 fun k hk => Below.heap_alloc w.drew _ k (q3.lt k hk).2))
        clear h' q3 q4 q1 hg htake hcs hbg hbg' hnc hcm hfz
        go_enter Tryz.func49, Tryz.ntmps49
        go_wp2
        go_region_o
        all_goals (go_wp2; go_ret; exact ⟨rfl, HP.out⟩)
      · have c1 : w.drew.cell? ⟨b, 1, none⟩ = some (.slice (some ⟨g, 0, none⟩) 0 cap) := by
          have : w.drew.heap[b]? = some (.cells #[p, .slice (some ⟨g, 0, none⟩) 0 cap] T (0, 0)) := q1
          rw [Lib.cell_of_heap this]; rfl
        have hSD : (Builtin.unsafeSliceData_ #[90] 154 #[.slice (some ⟨g, 0, none⟩) 0 cap]).run Tryz.prog w.drew = .ok (.pointer (some ⟨g, 0, none⟩)) w.drew :=
          Lib.run_unsafeSliceData_row _ _ _ _ _ _ hc0
        have HP := Lib.hid (post_sW (w' := w.drew) h' ⟨rfl, rfl, rfl, Nat.le_refl _, fun _ _ _ => rfl⟩ rfl q3)
        clear h' q3 q4 q1 hg htake hcs hbg hbg' hnc hcm hfz hc0
        go_enter Tryz.func49, Tryz.ntmps49
        go_wp2
        go_region_o
        all_goals (go_wp2; go_ret; exact ⟨rfl, HP.out⟩)
    · have hln : l.length ≠ 0 := by simpa using hl0
      have c1 : w.drew.cell? ⟨b, 1, none⟩ = some (.slice (some ⟨g, 0, none⟩) l.length cap) := by
        have : w.drew.heap[b]? = some (.cells #[p, .slice (some ⟨g, 0, none⟩) l.length cap] T (0, 0)) := q1
        rw [Lib.cell_of_heap this]; rfl
      have hSD : (Builtin.unsafeSliceData_ #[90] 154 #[.slice (some ⟨g, 0, none⟩) l.length cap]).run Tryz.prog w.drew = .ok (.pointer (some ⟨g, 0, none⟩)) w.drew :=
        Lib.run_unsafeSliceData_row _ _ _ _ _ _ (by omega)
      have hUS : (Builtin.unsafeString_ #[154, 3] 9 #[.pointer (some ⟨g, 0, none⟩), .int .i64 l.length]).run Tryz.prog w.drew = .ok (.string ⟨l.toArray⟩) (w.drew.freeze ⟨g, 0, none⟩ l.length) := by
        refine Lib.run_unsafeString_row w.drew 154 3 9 5 Tryz.underlying154 Tryz.Builder_Extra_169.cellsByte g cur.size (by have hg' : w.drew.heap[g]? = some (.cells cur 5 fz) := hg; simp [World.shape?, hg']) l hl0 (by omega) (by unfold maxLen at hcm; omega) ?_
        intro j x hx
        exact q3.cells (g := g) rfl j (.int .u8 x.toNat) (by simp [Lib.byteCells, hx])
      have hfro : (w.drew.freeze ⟨g, 0, none⟩ l.length).ownsRowF 0 5 1 (.slice (some ⟨g, 0, none⟩) l.length cap) l.length (Lib.byteCells l) := by
        obtain ⟨lo, hi⟩ := fz
        have hg' : w.drew.heap[g]? = some (.cells cur 5 (lo, hi)) := hg
        have hf2 : (w.drew.freeze ⟨g, 0, none⟩ l.length).heap[g]? = some (.cells cur 5 (if lo == hi then (0, 0 + l.length) else (min lo 0, max hi (0 + l.length)))) := by
          unfold World.freeze
          rw [if_neg hln]
          simp only [Array.getElem?_modify, if_true, hg']
          rfl
        refine ⟨q3.1, .inr ⟨g, cap, cur, _, rfl, Nat.zero_le _, hf2, ?_, hnc, hcm, hcs, htake⟩⟩
        simp only at hfz
        split <;> simp <;> omega
      have HP := Lib.hid (post_sW (w' := w.drew.freeze ⟨g, 0, none⟩ l.length) h' ⟨freeze_rest.1, freeze_rest.2.1, freeze_rest.2.2, by rw [freeze_size]; exact Nat.le_refl _, fun k _ hk => freeze_other fun e => hk (.inr (by rw [e]; rfl))⟩ (freeze_other hbg') hfro)
      clear h' q3 q4 q1 hg htake hcs hbg hbg' hnc hcm hfz hfro
      go_enter Tryz.func49, Tryz.ntmps49
      go_wp2
      go_region_o
      all_goals (go_wp2; go_ret; exact ⟨rfl, HP.out⟩)
end Go.Proofs.YthjiclhfhjdjpaaGreatDoor
namespace Go.Proofs.YthjiclhfhjdjpaaGreatDoor
open Go.RowKit
attribute [local irreducible] wpList Calls Code.wp AW AWo OpOk seqK blockK scopeK loopK endK AC absLex Yld Sub
attribute [local irreducible] ACB absLexG YldG
set_option maxHeartbeats 8000000 in
set_option maxRecDepth 100000 in
theorem writeString_acbW {e : Ge} {T : TypeId} (hT : LiesB T) (l : List UInt8) (s : ByteArray) (hlen : l.length + s.size ≤ 140737488355328) : ACB e Tryz.prog 46 [.bx (pn 0) 0, .c (.string s)] [.bld T 5 l] .any [.bld T 5 (l ++ tx s)] :=
  bld_acbVW (cargs := [.string s]) .any (fun _ _ => by simp [rel]) fun b v p w h => writeString_bW hT b l v p w h s hlen
set_option maxHeartbeats 8000000 in
set_option maxRecDepth 100000 in
theorem string_acbW {e : Ge} {T : TypeId} (l : List UInt8) (hlen : l.length ≤ maxLen) : ACB e Tryz.prog 49 [.bx (pn 0) 0] [.bld T 5 l] (.c (.string (bs l))) [.bld T 5 l] :=
  bld_acbW (cargs := []) (show l.toArray.size ≤ maxLen by simpa using hlen) fun b v p w h => string_bW b l v p w h
section
variable {X : Cx} {nn : Nat} {st : Vst nn} {o : Oper} {ops : Array Oper} {l : List Oper} {d : Option Tmp} {KK : Vst nn → Prop} {Q : Vst nn → Prop} {rd wr : Nat → List Nat} {k : Nat}
set_option maxHeartbeats 8000000 in
set_option maxRecDepth 100000 in
/-- a call that writes to a builder -/
theorem s_bcall {f : FuncId} {m : Nat} {vs az : List V} {tb tu : TypeId} {bl bl' : List UInt8} {r : V} (hg : o.guard = none) (hd : o.dst = d) (h : act1 X.P st.rs (ev st) o.op = .call f vs) (hv : vs = .bx m 0 :: az) (hr : st.rs m = some (.bld tb tu bl))
    (hc : ACB X.e X.P f (.bx (pn 0) 0 :: az) [.bld tb tu bl] r [.bld tb tu bl']) (haz : ∀ φ, renL φ az = az) (hrr : ∀ φ, renV φ r = r)
    (hK : AWo X ops l ((st.res m (.bld tb tu bl')).put d r) KK) : AWo X ops (o :: l) st KK := by
  subst hv
  refine s_callB [m] hg hd h hc (by simp) (by simp only [renL, renV, φin_one, haz]) (by simp [hr, renR]) ?_
  have e : ([Res.bld tb tu bl'].map (renR (φout [m]))) = [Res.bld tb tu bl'] := rfl
  rw [e, resN_one, hrr]
  exact hK
set_option maxHeartbeats 8000000 in
set_option maxRecDepth 100000 in
theorem g_bcall {f : FuncId} {m : Nat} {vs az : List V} {tb tu : TypeId} {bl bl' : List UInt8} {r : V} (hg : o.guard = none) (hd : o.dst = d) (h : act1 X.P st.rs (ev st) o.op = .call f vs) (hv : vs = .bx m 0 :: az) (hr : st.rs m = some (.bld tb tu bl))
    (hc : ACB X.e X.P f (.bx (pn 0) 0 :: az) [.bld tb tu bl] r [.bld tb tu bl']) (haz : ∀ φ, renL φ az = az) (hrr : ∀ φ, renV φ r = r) (hl : [m].all (fun n => (wr k).contains n) = true)
    (hK : absLexG X ops rd wr Q (k + 1) l ((st.res m (.bld tb tu bl')).put d r)) : absLexG X ops rd wr Q k (o :: l) st := by
  subst hv
  refine g_callB [m] hg hd h hc (by simp) (by simp only [renL, renV, φin_one, haz]) (by simp [hr, renR]) rfl hl ?_
  have e : ([Res.bld tb tu bl'].map (renR (φout [m]))) = [Res.bld tb tu bl'] := rfl
  rw [e, resN_one, hrr]
  exact hK
set_option maxHeartbeats 8000000 in
set_option maxRecDepth 100000 in
theorem res_res {m : Nat} {a b : Res} : (st.res m a).res m b = st.res m b := by
  unfold Vst.res
  congr 1
  funext q
  unfold updR
  by_cases h : q = m <;> simp [h]
set_option maxHeartbeats 8000000 in
set_option maxRecDepth 100000 in
/-- the first call that writes to a builder -/
theorem s_bcall0 {f : FuncId} {m : Nat} {vs az : List V} {tb tu : TypeId} {bl' : List UInt8} {r : V} (hg : o.guard = none) (hd : o.dst = d) (h0 : act1 X.P st.rs (ev st) o.op = .call f vs) (hv : vs = .bx m 0 :: az) (hr : st.rs m = some (.box tb [.c (.pointer none), .c (.slice none 0 0)]))
    (hc : ACB X.e X.P f (.bx (pn 0) 0 :: az) [.bld tb tu []] r [.bld tb tu bl']) (h : act1 X.P (st.res m (.bld tb tu [])).rs (ev (st.res m (.bld tb tu []))) o.op = .call f vs) (haz : ∀ φ, renL φ az = az) (hrr : ∀ φ, renV φ r = r)
    (hK : AWo X ops l ((st.res m (.bld tb tu bl')).put d r) KK) : AWo X ops (o :: l) st KK := by
  refine awo_sub (Sub.bld (e := tu) hr) ?_
  refine s_bcall hg hd h hv (by simp [Vst.res, updR]) hc haz hrr ?_
  rw [res_res]
  exact hK
set_option maxHeartbeats 8000000 in
set_option maxRecDepth 100000 in
/-- what a builder holds -/
theorem s_bs {m : Nat} {vs : List V} {tb tu : TypeId} {bl : List UInt8} (hg : o.guard = none) (hd : o.dst = d) (h : act1 X.P st.rs (ev st) o.op = .call 49 vs) (hv : vs = [.bx m 0]) (hr : st.rs m = some (.bld tb tu bl)) (ht : tb = tb ∧ tu = 5) (hP : X.P = Tryz.prog)
    (hK : AWo X ops l (st.put d (.c (.string (bs bl)))) KK) (hlen : bl.length ≤ maxLen) : AWo X ops (o :: l) st KK := by
  obtain ⟨-, rfl⟩ := ht
  have hc := string_acbW (e := X.e) (T := tb) bl hlen
  rw [← hP] at hc
  refine s_bcall hg hd h hv hr hc (fun _ => rfl) (fun _ => rfl) ?_
  rw [res_same hr]
  exact hK
end
set_option maxHeartbeats 8000000 in
set_option maxRecDepth 100000 in
theorem arr_size (l : List UInt8) : (⟨l.toArray⟩ : ByteArray).size = l.length := bs_size l
def opens : List D → List UInt8
  | [] => []
  | d :: ds => if d.n == 1 then opens ds else opens ds ++ [91]
def closes : List D → List UInt8
  | [] => []
  | d :: ds => if d.n == 1 then closes ds ++ [33] else closes ds ++ [93]
set_option maxHeartbeats 8000000 in
set_option maxRecDepth 100000 in
theorem opens_comm : ∀ l, [91] ++ opens l = opens l ++ [91]
  | [] => rfl
  | d :: ds => by
    have := opens_comm ds
    unfold opens
    split
    · exact this
    · rw [← List.append_assoc, this]
set_option maxHeartbeats 8000000 in
set_option maxRecDepth 100000 in
theorem refB_eq (n : List UInt8) : ∀ l, refB n l = opens l ++ n ++ closes l
  | [] => by simp [refB, opens, closes]
  | d :: ds => by
    unfold refB opens closes
    rw [refB_eq n ds]
    split
    · simp
    · rw [← opens_comm]; simp
set_option maxHeartbeats 8000000 in
set_option maxRecDepth 100000 in
theorem opens_length : ∀ l, (opens l).length ≤ l.length
  | [] => Nat.le_refl _
  | d :: ds => by
    have := opens_length ds
    unfold opens
    split <;> simp <;> omega
set_option maxHeartbeats 8000000 in
set_option maxRecDepth 100000 in
theorem closes_length : ∀ l, (closes l).length = l.length
  | [] => rfl
  | d :: ds => by
    have := closes_length ds
    unfold closes
    split <;> simp <;> omega
def H150 (n : List UInt8) (l : List D) (j : Nat) : Vst 29 :=
  stS 29 [(1, .bx 1 0), (3, .bx 3 0), (4, .bx 4 0), (5, .c (.int .i64 ((j : Int) - 1)))] [(1, .box 71 [.c (.string (bs n)), .sl 3 l]), (3, .bld 92 5 (opens (l.drop j))), (4, .bld 92 5 (closes (l.drop j)))]
set_option maxHeartbeats 8000000 in
set_option maxRecDepth 100000 in
theorem refP_ac (n : List UInt8) (l : List D) (hn : n.length ≤ 2000000) (hl : l.length ≤ 2000000) : AC EN Tryz.prog 121 [.agg [.c (.string (bs n)), .sl 3 l]] (.c (.string (bs (refB n l)))) := by
  have ho := opens_length
  have hc := closes_length
  refine ac_enter 29 Tryz.func121 rfl rfl rfl rfl ?_
  intro s w he
  repeat' (first
 | refine aw_region ?_
 | refine awo_nil ?_
 | refine k_seq ?_
 | (apply aw_1
    conv => whnf
    refine ⟨?_, trivial⟩)
 | (apply s_1
    conv => whnf; arg 1; arg 4; arg 3; whnf
    refine ⟨?_, ?_⟩)
 | (apply s_box rfl rfl rfl rfl
    · conv => lhs; whnf; arg 1; whnf
    · rfl)
 | exact trivial)
  · refine aw_sub ((Sub.bld (m := 3) (e := 5) rfl).trans (Sub.bld (m := 4) (e := 5) rfl)) ?_
    refine aw_loop (fun j st => j ≤ l.length ∧ Sub (cx EN Tryz.prog s w he) st (H150 n l j)) l.length ⟨Nat.le_refl _, ?_⟩ ?_
    · refine Sub.live ⟨rfl, rfl, rfl, rfl, trivial⟩ ⟨rfl, ?_, ?_, trivial⟩
      · rw [List.drop_length]; rfl
      · rw [List.drop_length]; rfl
    · rintro j st ⟨hj, hs⟩
      refine aw_sub hs ?_
      have h1 := ho (l.drop j)
      have h2 := hc (l.drop j)
      rw [List.length_drop] at h1 h2
      have hdrop : 0 < j → l.drop (j - 1) = gD l (j - 1) :: l.drop j := fun h => by
        have hlt : j - 1 < l.length := by omega
        rw [List.drop_eq_getElem_cons hlt, show j - 1 + 1 = j by omega]
        congr 1
        unfold gD; rw [List.getD_eq_getElem?_getD, List.getElem?_eq_getElem hlt]; rfl
      have hnat : ((j : Int) - 1).toNat = j - 1 := by omega
      repeat' (first
 | (apply s_wb rfl
    · conv => lhs; whnf
    · conv => lhs; whnf
    · rfl
    · conv => lhs; whnf; arg 1; whnf
    · rfl
    · rfl)
 | (apply y_bs rfl
    · conv => lhs; whnf
    · conv => lhs; whnf
    · rfl
    · conv => lhs; whnf; arg 1; whnf
    · rfl)
 | refine aw_region ?_
 | refine awo_nil ?_
 | refine k_seq ?_
 | refine k_block ?_
 | (apply aw_1
    conv => whnf
    refine ⟨?_, trivial⟩)
 | (apply s_1
    conv => whnf; arg 1; arg 4; arg 3; whnf
    refine ⟨?_, ?_⟩)
 | (apply aw_draw (by kernel_rfl) (by kernel_rfl))
 | apply y_nil
 | (apply y_val rfl
    · conv => lhs; whnf
    · conv => lhs; whnf; arg 2; whnf)
 | exact apartB_none
 | exact apartB_nil
 | exact all_nil
 | exact (1000000 : Nat)
 | (refine aw_cond (by conv => lhs; whnf) ?_ ?_ <;> intro hb)
 | refine k_seq_exit ?_
 | refine k_block_hit rfl ?_
 | refine k_loop_exit ?_
 | refine k_end_ret ?_
 | (refine ⟨_, by conv => lhs; whnf; arg 2; whnf, ?_⟩; conv => rhs; whnf)
 | exact trivial)
      · rename_i hb0
        have hj0 : 0 < j := by simp at hb0; omega
        refine k_loop_next (j' := j - 1) (by omega) ⟨by omega, Sub.live ⟨rfl, rfl, rfl, ?_, trivial⟩ ⟨rfl, ?_, ?_, trivial⟩⟩
        · show V.c (.int .i64 ((j : Int) - 1 - 1)) = _
          rw [show ((j - 1 : Nat) : Int) - 1 = (j : Int) - 1 - 1 by omega]
        · show some (Res.bld _ _ (opens (l.drop j))) = _
          rw [hdrop hj0, opens]
          rw [hnat] at hb
          rw [if_pos hb]
        · show some (Res.bld _ _ (closes (l.drop j) ++ [33])) = _
          rw [hdrop hj0, closes]
          rw [hnat] at hb
          rw [if_pos hb]
      · exact i64_ok (by omega)
      · omega
      · rename_i hb0
        have hj0 : 0 < j := by simp at hb0; omega
        refine k_loop_next (j' := j - 1) (by omega) ⟨by omega, Sub.live ⟨rfl, rfl, rfl, ?_, trivial⟩ ⟨rfl, ?_, ?_, trivial⟩⟩
        · show V.c (.int .i64 ((j : Int) - 1 - 1)) = _
          rw [show ((j - 1 : Nat) : Int) - 1 = (j : Int) - 1 - 1 by omega]
        · show some (Res.bld _ _ (opens (l.drop j) ++ [91])) = _
          rw [hdrop hj0, opens]
          rw [hnat] at hb
          rw [if_neg (by rw [hb]; simp)]
        · show some (Res.bld _ _ (closes (l.drop j) ++ [93])) = _
          rw [hdrop hj0, closes]
          rw [hnat] at hb
          rw [if_neg (by rw [hb]; simp)]
      · exact i64_ok (by omega)
      · omega
      · omega
      · simp at hb; omega
      · have hj0 : j = 0 := by simp at hb; omega
        subst hj0
        rw [List.drop_zero, refB_eq, ← bs_append, ← bs_append]
        rfl
      all_goals (simp only [ByteArray.size_append, bs_size, arr_size, maxLen]; omega)
  · exact i64_ok (by omega)
set_option maxHeartbeats 8000000 in
set_option maxRecDepth 100000 in
theorem repeat_len (l : List UInt8) : ∀ n, (Lib.repeatL l n).length = l.length * n
  | 0 => by simp [Lib.repeatL]
  | n + 1 => by rw [Lib.repeatL, List.length_append, repeat_len l n, Nat.mul_add]; omega
set_option maxHeartbeats 8000000 in
set_option maxRecDepth 100000 in
theorem repeat_ac (s : ByteArray) (c : Nat) (hc : c ≤ 1000000) (hs : s.size ≤ 1000) : AC EN Tryz.prog 197 [.c (.string s), .c (.int .i64 (c : Int))] (.c (.string (bs (Lib.repeatL (tx s) c)))) :=
  ac_of fun s1 w us hus he => by
    have hm : s.size * c ≤ 1000 * 1000000 := Nat.mul_le_mul hs hc
    refine ⟨bs_ok (by rw [repeat_len, tx_len]; omega), ?_⟩
    obtain ⟨u, u2, rfl, h, h2⟩ := rel_two hus
    rw [rel] at h h2
    obtain ⟨rfl, -⟩ := h
    obtain ⟨rfl, -⟩ := h2
    exact Tryz.strings_Repeat s c w (by omega) (by omega)
set_option maxRecDepth 100000 in
set_option maxHeartbeats 8000000 in
theorem lies_writer : LiesB 110 := by unfold LiesB; kernel_rfl
/-- what is written: levels and a text -/
def lineT (n : Nat) (t : List UInt8) : List UInt8 := Lib.repeatL [32, 32] n ++ t ++ [10]
set_option maxHeartbeats 8000000 in
set_option maxRecDepth 100000 in
theorem lineT_len (n : Nat) (t : List UInt8) : (lineT n t).length = 2 * n + t.length + 1 := by
  simp only [lineT, List.length_append, repeat_len, List.length_cons, List.length_nil]
set_option maxHeartbeats 8000000 in
set_option maxRecDepth 100000 in
theorem line_acb (l : List UInt8) (n : Nat) (t : ByteArray) (hn : n ≤ 1000000) (ht : t.size ≤ 1000000000) (hl : l.length ≤ 10000000000000) :
    ACB EN Tryz.prog 115 [.bx (pn 0) 0, .c (.int .i64 (n : Int)), .c (.string t)] [.bld 110 5 l] (.tup []) [.bld 110 5 (l ++ lineT n (tx t))] := by
  have hr := repeat_ac ⟨#[32, 32]⟩ n hn (by decide)
  have e0 : bs (lineT n (tx t)) = bs (Lib.repeatL [32, 32] n) ++ t ++ ⟨#[10]⟩ := by rw [lineT, ← bs_append, ← bs_append, bs_tx]; rfl
  have hw := writeString_acbW (e := EN) lies_writer l (bs (lineT n (tx t))) (by rw [bs_size, lineT_len, tx_len]; omega)
  rw [tx_bs, e0] at hw
  refine acb_enter 15 Tryz.func115 rfl rfl ?_
  intro pas s w he hp
  have e : (Lib.repeatL (tx ⟨#[32, 32]⟩) n).length = 2 * n := repeat_len _ n
  repeat' (first
 | (apply aw_drawGn 9 ([]) ([(8, [1000000])]) rfl (by kernel_rfl) (by kernel_rfl) (by kernel_rfl))
 | apply g_nil
 | (apply g_val rfl
    · conv => lhs; whnf
    · conv => lhs; whnf; arg 2; whnf)
 | (apply g_call rfl
    · conv => lhs; whnf
    · conv => lhs; whnf
    · first | exact hr)
 | (apply g_bcall rfl
    · conv => lhs; whnf
    · conv => lhs; whnf
    · rfl
    · conv => lhs; whnf; arg 1; whnf
    · first | exact hw
    · exact fun _ => rfl
    · exact fun _ => rfl
    · rfl)
 | (show inO _ _ = true; rfl)
 | refine k_endB ⟨?_, ?_⟩
 | exact (rfl : _ = V.tup [])
 | exact trivial)
  · exact ⟨rfl, trivial⟩
  · rw [ByteArray.size_append, bs_size, e]
    show 2 * n + t.size + 1 ≤ maxLen
    unfold maxLen; omega
  · rw [bs_size, e]
    unfold maxLen; omega
end Go.Proofs.YthjiclhfhjdjpaaGreatDoor
namespace Go.Proofs.YthjiclhfhjdjpaaGreatDoor
/-- the first line of a selection without indentation, brace and line feed -/
def headT (K : Nat) (s : D) : List UInt8 :=
  if (s.f 0).n = 2 then [46, 46, 46] ++ tx (s.f 2).s ++ tailT K (s.f 5).l
  else if (s.f 0).n = 3 then [46, 46, 46] ++ (if tx (s.f 3).s = [] then [] else [32, 111, 110, 32] ++ tx (s.f 3).s) ++ tailT K (s.f 5).l
  else (if tx (s.f 1).s = [] then [] else tx (s.f 1).s ++ [58, 32]) ++ (tx (s.f 2).s ++ parT K (s.f 4).l ++ tailT K (s.f 5).l)
/-- whether a selection has a block -/
def openB (s : D) : Bool := (s.f 0).n == 3 || ((s.f 0).n != 2 && (s.f 6).l.length != 0)
def selT (K : Nat) (inner : List D → List UInt8) (n : Nat) (s : D) : List UInt8 :=
  if openB s = true then lineT n (headT K s ++ [32, 123]) ++ inner (s.f 6).l ++ lineT n [125] else lineT n (headT K s)
def selsT (K : Nat) : Nat → Nat → List D → List UInt8
  | 0, _, _ => []
  | f + 1, n, l => (l.map (selT K (selsT K f (n + 1)) n)).flatten
structure SelOk (K : Nat) (inner : List D → Prop) (s : D) : Prop where
  args : ArgsOk K (s.f 4).l
  dirs : DirsOk K (s.f 5).l
  kind : (s.f 0).n = 1 ∨ ((s.f 0).n = 2 ∧ (s.f 6).l = []) ∨ ((s.f 0).n = 3 ∧ (s.f 6).l ≠ [])
  sub : inner (s.f 6).l
def SelsOk (K : Nat) : Nat → List D → Prop
  | 0, l => l = []
  | f + 1, l => ∀ i, i < l.length → SelOk K (SelsOk K f) (gD l i)
theorem headT_len (K : Nat) (s : D) (h : wideD s) : (headT K s).length + 60 * (wD (s.f 6)) ≤ 60 * wD s + 20 := by
  have hf := wD_fields s 7
  simp only [sumN] at hf
  have h1 := wD_str (s.f 1)
  have h2 := wD_str (s.f 2)
  have h3 := wD_str (s.f 3)
  have h4 := wD_list (s.f 4)
  have h5 := wD_list (s.f 5)
  have t1 := tx_len (s.f 1).s
  have t2 := tx_len (s.f 2).s
  have t3 := tx_len (s.f 3).s
  have p := parT_len K (s.f 4).l fun i => (h.f 4).l i
  have q := tailT_len K (s.f 5).l fun i => (h.f 5).l i
  unfold headT
  split
  · simp only [List.length_append, List.length_cons, List.length_nil]; omega
  split
  · split <;> simp only [List.length_append, List.length_cons, List.length_nil] <;> omega
  · split <;> simp only [List.length_append, List.length_cons, List.length_nil] <;> omega
theorem flat_le (l : List D) (f : D → List UInt8) (c : Nat) (h : ∀ i, i < l.length → (f (gD l i)).length ≤ c * bulkD (gD l i)) : (l.map f).flatten.length ≤ c * bulkL l := by
  induction l with
  | nil => simp
  | cons x r ih =>
    have h0 := h 0 (by simp)
    have h1 := ih fun i hi => h (i + 1) (by simpa using hi)
    simp only [List.map_cons, List.flatten_cons, List.length_append, bulkL, Nat.mul_add]
    have e : gD (x :: r) 0 = x := rfl
    rw [e] at h0
    omega
theorem selsT_len (K : Nat) : ∀ (f n : Nat) (l : List D), (∀ i, wideD (gD l i)) → (selsT K f n l).length ≤ (4 * (n + f) + 70) * bulkL l
  | 0, _, _, _ => by simp [selsT]
  | f + 1, n, l, hw => by
    unfold selsT
    refine flat_le l _ _ fun i hi => ?_
    have h := hw i
    have hh := headT_len K (gD l i) h
    have hb := bulkD_wD (gD l i)
    have h6 := wD_list ((gD l i).f 6)
    have hs := selsT_len K f (n + 1) ((gD l i).f 6).l fun j => (h.f 6).l j
    have hf6 := wD_f (gD l i) 6
    rw [show n + 1 + f = n + (f + 1) by omega] at hs
    generalize hc : 4 * (n + (f + 1)) + 70 = c at hs ⊢
    have hc60 : 60 ≤ c := by omega
    have e1 : c * bulkL ((gD l i).f 6).l ≤ c * wD ((gD l i).f 6) := Nat.mul_le_mul_left c h6
    obtain ⟨q, hq⟩ := Nat.exists_eq_add_of_le hf6
    have e2 : c * bulkD (gD l i) = c * wD ((gD l i).f 6) + c * q + c := by rw [hb, hq, Nat.mul_add, Nat.mul_add, Nat.mul_one]
    have e3 : 60 * q ≤ c * q := Nat.mul_le_mul_right q hc60
    unfold selT
    split
    · simp only [List.length_append, lineT_len, List.length_cons, List.length_nil]; omega
    · simp only [lineT_len]; omega
theorem selsT_take {K f n : Nat} {l : List D} {i : Nat} (h : i < l.length) : ((l.take (i + 1)).map (selT K (selsT K f (n + 1)) n)).flatten = ((l.take i).map (selT K (selsT K f (n + 1)) n)).flatten ++ selT K (selsT K f (n + 1)) n (gD l i) := by
  rw [List.take_succ_eq_append_getElem h, List.map_append, List.flatten_append, gD_get h]
  simp
theorem selsT_take_len {K f n : Nat} {l : List D} (i : Nat) : ((l.take i).map (selT K (selsT K f (n + 1)) n)).flatten.length ≤ (selsT K (f + 1) n l).length := by
  unfold selsT
  conv => rhs; rw [← List.take_append_drop i l, List.map_append, List.flatten_append, List.length_append]
  omega
end Go.Proofs.YthjiclhfhjdjpaaGreatDoor
namespace Go.Proofs.YthjiclhfhjdjpaaGreatDoor
open Go.RowKit
attribute [local irreducible] wpList Calls Code.wp AW AWo OpOk seqK blockK scopeK loopK endK AC absLex Yld Sub
attribute [local irreducible] ACB absLexG YldG
/-- the selections before i -/
def befT (K f n : Nat) (l : List D) (i : Nat) : List UInt8 := ((l.take i).map (selT K (selsT K f (n + 1)) n)).flatten
noncomputable def HsP (K f n : Nat) (l : List D) (bl : List UInt8) (i : Nat) : Vst 85 :=
  stS 85 [(0, .bx 1000000 0), (2, .c (.int .i64 n)), (9, .sl 76 l), (10, .c (.int .i64 l.length)), (11, .c (.int .i64 i))] [(1000000, .bld 110 5 (bl ++ befT K f n l i))]
set_option maxHeartbeats 8000000 in
set_option maxRecDepth 100000 in
theorem sels_step (K f n : Nat) (l : List D) (bl : List UInt8) (h : SelsOk K (f + 1) l) (hw : ∀ i, wideD (gD l i)) (hb : bulkL l ≤ 1048576) (hn : n + f ≤ 300) (hlen : bl.length + (selsT K (f + 1) n l).length ≤ 10000000000 + 1000000000 * n)
    (ih : ∀ i, i < l.length → ((gD l i).f 6).l ≠ [] → ∀ b2 : List UInt8, b2.length + (selsT K f (n + 1) ((gD l i).f 6).l).length ≤ 10000000000 + 1000000000 * (n + 1) → ACB EN Tryz.prog 55 [.bx (pn 0) 0, .sl 76 ((gD l i).f 6).l, .c (.int .i64 ((n : Int) + 1))] [.bld 110 5 b2] (.tup []) [.bld 110 5 (b2 ++ selsT K f (n + 1) ((gD l i).f 6).l)]) :
    ACB EN Tryz.prog 55 [.bx (pn 0) 0, .sl 76 l, .c (.int .i64 (n : Int))] [.bld 110 5 bl] (.tup []) [.bld 110 5 (bl ++ selsT K (f + 1) n l)] := by
  have hll := len_bulk l
  refine acb_enter 85 Tryz.func55 rfl rfl ?_
  intro pas s w he hp
  repeat' (first
 | refine aw_region ?_
 | refine awo_nil ?_
 | refine k_seq ?_
 | (apply aw_1
    conv => whnf
    refine ⟨?_, trivial⟩)
 | (apply s_1
    conv => whnf; arg 1; arg 4; arg 3; whnf
    refine ⟨?_, ?_⟩)
 | exact trivial)
  refine aw_loop (fun j st => ∃ i, i + j = l.length ∧ Sub ⟨Tryz.prog, pas, s, w, EN, he, hp, fun _ _ _ => False, []⟩ st (HsP K f n l bl i)) l.length ⟨0, by omega, ?_⟩ ?_
  · refine Sub.live ⟨rfl, rfl, rfl, rfl, rfl, trivial⟩ ⟨?_, trivial⟩
    show some (Res.bld _ _ bl) = some (Res.bld _ _ (bl ++ []))
    rw [List.append_nil]
  · rintro j st ⟨i, hij, hs2⟩
    refine aw_sub hs2 ?_
    by_cases hi : i < l.length
    · have hok := h i hi
      have hda := tail_ac K ((gD l i).f 5).l hok.dirs
      have haa := argsP_ac K ((gD l i).f 4).l hok.args
      have hbe : (befT K f n l i).length ≤ (selsT K (f + 1) n l).length := selsT_take_len i
      have hbe1 : (befT K f n l (i + 1)).length ≤ (selsT K (f + 1) n l).length := selsT_take_len (i + 1)
      have hnx : befT K f n l (i + 1) = befT K f n l i ++ selT K (selsT K f (n + 1)) n (gD l i) := selsT_take hi
      have hhl := headT_len K (gD l i) (hw i)
      have hbi := bulkL_get hi
      have hbw := bulkD_wD (gD l i)
      have hs1 : ((gD l i).f 1).s.size ≤ 1048576 := by have := wD_str ((gD l i).f 1); have := wD_f (gD l i) 1; omega
      have hs2 : ((gD l i).f 2).s.size ≤ 1048576 := by have := wD_str ((gD l i).f 2); have := wD_f (gD l i) 2; omega
      have hs3 : ((gD l i).f 3).s.size ≤ 1048576 := by have := wD_str ((gD l i).f 3); have := wD_f (gD l i) 3; omega
      have hpa : (parT K ((gD l i).f 4).l).length ≤ 40000000 := by have := parT_len K _ hok.args.wide; have := hok.args.bulk; omega
      have hta : (tailT K ((gD l i).f 5).l).length ≤ 40000000 := by have := tailT_len K _ hok.dirs.wide; have := hok.dirs.bulk; omega
      have ne3 : (((gD l i).f 0).n == 3) = true → ((gD l i).f 6).l ≠ [] := fun hk => by
        have hk : ((gD l i).f 0).n = 3 := by simpa using hk
        rcases hok.kind with h1 | ⟨h1, _⟩ | ⟨_, h2⟩
        · omega
        · omega
        · exact h2
      have neL : ((((gD l i).f 6).l.length : Int) == 0) = false → ((gD l i).f 6).l ≠ [] := fun hk e => by rw [e] at hk; simp at hk
      have hin : openB (gD l i) = true → (befT K f n l i).length + (selsT K f (n + 1) ((gD l i).f 6).l).length ≤ (selsT K (f + 1) n l).length := fun ho => by
        have e := congrArg List.length hnx
        rw [List.length_append, selT, if_pos ho] at e
        simp only [List.length_append] at e
        omega
      have hin3 : (((gD l i).f 0).n == 3) = true → (befT K f n l i).length + (selsT K f (n + 1) ((gD l i).f 6).l).length ≤ (selsT K (f + 1) n l).length := fun hk => hin (by unfold openB; rw [hk]; rfl)
      have op2 : (((gD l i).f 0).n == 2) = false → ((((gD l i).f 6).l.length : Int) == 0) = false → openB (gD l i) = true := fun h2 hk => by
        unfold openB
        have h0 : (((gD l i).f 6).l.length != 0) = true := by
          have : ¬ ((((gD l i).f 6).l.length : Int)) = 0 := by simpa using hk
          simp; exact fun e => this (by rw [e]; rfl)
        rw [h0, show (((gD l i).f 0).n != 2) = true by rw [bne, h2]; rfl]; simp
      have hinL : (((gD l i).f 0).n == 2) = false → ((((gD l i).f 6).l.length : Int) == 0) = false → (befT K f n l i).length + (selsT K f (n + 1) ((gD l i).f 6).l).length ≤ (selsT K (f + 1) n l).length := fun h2 hk => hin (op2 h2 hk)
      repeat' (first
 | (apply aw_drawGn 10 ([(3, [7]), (6, [7])]) ([(9, [1000000])]) rfl (by kernel_rfl) (by kernel_rfl) (by kernel_rfl))
 | apply g_nil
 | (apply g_val rfl
    · conv => lhs; whnf
    · conv => lhs; whnf; arg 2; whnf)
 | (apply g_call rfl
    · conv => lhs; whnf
    · conv => lhs; whnf
    · first | exact hda | exact haa)
 | (apply g_bcall rfl
    · conv => lhs; whnf
    · conv => lhs; whnf
    · rfl
    · conv => lhs; whnf; arg 1; whnf
    · first | exact line_acb _ n _ (by omega) (by simp only [ByteArray.size_append, bs_size, lit_size, List.size_toArray, List.length_append, List.length_cons, List.length_nil, lineT_len, tx_len, Nat.reduceAdd, Int.toNat_natCast]; omega) (by simp only [ByteArray.size_append, bs_size, lit_size, List.size_toArray, List.length_append, List.length_cons, List.length_nil, lineT_len, tx_len, Nat.reduceAdd, Int.toNat_natCast]; omega)
    · exact fun _ => rfl
    · exact fun _ => rfl
    · rfl)
 | (show inO _ _ = true; rfl)
 | (apply s_bcall rfl
    · conv => lhs; whnf
    · conv => lhs; whnf
    · rfl
    · conv => lhs; whnf; arg 1; whnf
    · first | exact line_acb _ n _ (by omega) (by simp only [ByteArray.size_append, bs_size, lit_size, List.size_toArray, List.length_append, List.length_cons, List.length_nil, lineT_len, tx_len, Nat.reduceAdd, Int.toNat_natCast]; omega) (by simp only [ByteArray.size_append, bs_size, lit_size, List.size_toArray, List.length_append, List.length_cons, List.length_nil, lineT_len, tx_len, Nat.reduceAdd, Int.toNat_natCast]; omega) | exact line_acb _ n _ (by omega) (by simp only [ByteArray.size_append, bs_size, lit_size, List.size_toArray, List.length_append, List.length_cons, List.length_nil, lineT_len, tx_len, Nat.reduceAdd, Int.toNat_natCast] ; omega) (by have := hin3 (by assumption) ; simp only [ByteArray.size_append, bs_size, lit_size, List.size_toArray, List.length_append, List.length_cons, List.length_nil, lineT_len, tx_len, Nat.reduceAdd, Int.toNat_natCast] ; omega) | exact line_acb _ n _ (by omega) (by simp only [ByteArray.size_append, bs_size, lit_size, List.size_toArray, List.length_append, List.length_cons, List.length_nil, lineT_len, tx_len, Nat.reduceAdd, Int.toNat_natCast] ; omega) (by have := hinL (by assumption) (by assumption) ; simp only [ByteArray.size_append, bs_size, lit_size, List.size_toArray, List.length_append, List.length_cons, List.length_nil, lineT_len, tx_len, Nat.reduceAdd, Int.toNat_natCast] ; omega) | exact ih i hi (ne3 (by assumption)) _ (by have := hin3 (by assumption) ; simp only [ByteArray.size_append, bs_size, lit_size, List.size_toArray, List.length_append, List.length_cons, List.length_nil, lineT_len, tx_len, Nat.reduceAdd, Int.toNat_natCast] ; omega) | exact ih i hi (neL (by assumption)) _ (by have := hinL (by assumption) (by assumption) ; simp only [ByteArray.size_append, bs_size, lit_size, List.size_toArray, List.length_append, List.length_cons, List.length_nil, lineT_len, tx_len, Nat.reduceAdd, Int.toNat_natCast] ; omega)
    · exact fun _ => rfl
    · exact fun _ => rfl)
 | refine aw_region ?_
 | refine awo_nil ?_
 | refine k_seq ?_
 | refine k_block ?_
 | (apply aw_1
    conv => whnf
    refine ⟨?_, trivial⟩)
 | (apply s_1
    conv => whnf; arg 1; arg 4; arg 3; whnf
    refine ⟨?_, ?_⟩)
 | (apply s_call rfl
    · conv => lhs; whnf
    · conv => lhs; whnf
    · first | exact hda | exact haa)
 | (apply s_store rfl rfl rfl
    · conv => lhs; whnf
    · conv => lhs; whnf; arg 1; whnf
    · conv => lhs; whnf; arg 1; whnf
    · exact ⟨by kernel_rfl, by kernel_rfl⟩
    · rfl)
 | (apply aw_draw (by kernel_rfl) (by kernel_rfl))
 | apply y_nil
 | (apply y_val rfl
    · conv => lhs; whnf
    · conv => lhs; whnf; arg 2; whnf)
 | (apply y_call rfl
    · conv => lhs; whnf
    · conv => lhs; whnf
    · first | exact hda | exact haa)
 | exact apartB_none
 | exact apartB_nil
 | exact (1000000 : Nat)
 | (refine aw_cond (by conv => lhs; whnf) ?_ ?_ <;> intro hb)
 | refine k_seq_exit ?_
 | refine k_block_hit rfl ?_
 | refine k_block_miss rfl ?_
 | refine k_loop_exit ?_
 | refine k_endB ⟨?_, ?_⟩
 | exact (rfl : _ = V.tup [])
 | exact trivial)
      all_goals first
        | exact i64_ok (by omega)
        | ((simp only [ByteArray.size_append, bs_size, lit_size, List.size_toArray, List.length_append, List.length_cons, List.length_nil, maxLen, Nat.reduceAdd, Int.toNat_natCast]; omega); done)
        | exact at_ok hb
        | skip
      · have hk : ((gD l i).f 0).n = 2 := by simpa using hb
        have ho : openB (gD l i) = false := by simp [openB, hk]
        refine k_loop_next (j' := j - 1) (by omega) ⟨i + 1, by omega, Sub.live ⟨rfl, rfl, rfl, rfl, rfl, trivial⟩ ⟨?_, trivial⟩⟩
        show some (Res.bld _ _ (bl ++ befT K f n l i ++ lineT n (tx (⟨#[46, 46, 46]⟩ ++ ((gD l i).f 2).s ++ bs (tailT K ((gD l i).f 5).l))))) = _
        rw [hnx, selT, if_neg (by rw [ho]; decide), headT, if_pos hk, tx_append, tx_append, tx_bs, List.append_assoc]; rfl
      · rename_i h2 h3
        have hk : ((gD l i).f 0).n = 3 := by simpa using h3
        have ho : openB (gD l i) = true := by simp [openB, hk]
        have he : tx ((gD l i).f 3).s ≠ [] := s_ne hb
        refine k_loop_next (j' := j - 1) (by omega) ⟨i + 1, by omega, Sub.live ⟨rfl, rfl, rfl, rfl, rfl, trivial⟩ ⟨?_, trivial⟩⟩
        show some (Res.bld _ _ (bl ++ befT K f n l i ++ lineT n (tx (⟨#[46, 46, 46]⟩ ++ (⟨#[32, 111, 110, 32]⟩ ++ ((gD l i).f 3).s) ++ bs (tailT K ((gD l i).f 5).l) ++ ⟨#[32, 123]⟩)) ++ selsT K f (n + 1) ((gD l i).f 6).l ++ lineT n (tx ⟨#[125]⟩))) = _
        rw [hnx, selT, if_pos ho, headT, if_neg (by omega), if_pos hk, if_neg he]
        simp only [tx_append, tx_bs, List.append_assoc]; rfl
      · rename_i h2 h3
        have hk : ((gD l i).f 0).n = 3 := by simpa using h3
        have ho : openB (gD l i) = true := by simp [openB, hk]
        have he : tx ((gD l i).f 3).s = [] := s_eq hb
        refine k_loop_next (j' := j - 1) (by omega) ⟨i + 1, by omega, Sub.live ⟨rfl, rfl, rfl, rfl, rfl, trivial⟩ ⟨?_, trivial⟩⟩
        show some (Res.bld _ _ (bl ++ befT K f n l i ++ lineT n (tx (⟨#[46, 46, 46]⟩ ++ bs (tailT K ((gD l i).f 5).l) ++ ⟨#[32, 123]⟩)) ++ selsT K f (n + 1) ((gD l i).f 6).l ++ lineT n (tx ⟨#[125]⟩))) = _
        rw [hnx, selT, if_pos ho, headT, if_neg (by omega), if_pos hk, if_pos he]
        simp only [tx_append, tx_bs, List.append_assoc]; rfl
      · rename_i h2 h3 ha
        have hk2 : ¬ ((gD l i).f 0).n = 2 := by simpa using h2
        have hk3 : ¬ ((gD l i).f 0).n = 3 := by simpa using h3
        have hl0 : ((gD l i).f 6).l.length = 0 := by have : ((((gD l i).f 6).l.length : Int)) = 0 := by simpa using hb
                                                     omega
        have ho : openB (gD l i) = false := by simp [openB, hk3, hl0]
        have he : tx ((gD l i).f 1).s ≠ [] := s_ne ha
        refine k_loop_next (j' := j - 1) (by omega) ⟨i + 1, by omega, Sub.live ⟨rfl, rfl, rfl, rfl, rfl, trivial⟩ ⟨?_, trivial⟩⟩
        show some (Res.bld _ _ (bl ++ befT K f n l i ++ lineT n (tx (((gD l i).f 1).s ++ ⟨#[58, 32]⟩ ++ (((gD l i).f 2).s ++ bs (parT K ((gD l i).f 4).l) ++ bs (tailT K ((gD l i).f 5).l)))))) = _
        rw [hnx, selT, if_neg (by rw [ho]; decide), headT, if_neg hk2, if_neg hk3, if_neg he]
        simp only [tx_append, tx_bs, List.append_assoc]; rfl
      · rename_i h2 h3 ha
        have hk2 : ¬ ((gD l i).f 0).n = 2 := by simpa using h2
        have hk3 : ¬ ((gD l i).f 0).n = 3 := by simpa using h3
        have ho : openB (gD l i) = true := op2 h2 hb
        have he : tx ((gD l i).f 1).s ≠ [] := s_ne ha
        refine k_loop_next (j' := j - 1) (by omega) ⟨i + 1, by omega, Sub.live ⟨rfl, rfl, rfl, rfl, rfl, trivial⟩ ⟨?_, trivial⟩⟩
        show some (Res.bld _ _ (bl ++ befT K f n l i ++ lineT n (tx (((gD l i).f 1).s ++ ⟨#[58, 32]⟩ ++ (((gD l i).f 2).s ++ bs (parT K ((gD l i).f 4).l) ++ bs (tailT K ((gD l i).f 5).l)) ++ ⟨#[32, 123]⟩)) ++ selsT K f (n + 1) ((gD l i).f 6).l ++ lineT n (tx ⟨#[125]⟩))) = _
        rw [hnx, selT, if_pos ho, headT, if_neg hk2, if_neg hk3, if_neg he]
        simp only [tx_append, tx_bs, List.append_assoc]; rfl
      · rename_i h2 h3 ha
        have hk2 : ¬ ((gD l i).f 0).n = 2 := by simpa using h2
        have hk3 : ¬ ((gD l i).f 0).n = 3 := by simpa using h3
        have hl0 : ((gD l i).f 6).l.length = 0 := by have : ((((gD l i).f 6).l.length : Int)) = 0 := by simpa using hb
                                                     omega
        have ho : openB (gD l i) = false := by simp [openB, hk3, hl0]
        have he : tx ((gD l i).f 1).s = [] := s_eq ha
        refine k_loop_next (j' := j - 1) (by omega) ⟨i + 1, by omega, Sub.live ⟨rfl, rfl, rfl, rfl, rfl, trivial⟩ ⟨?_, trivial⟩⟩
        show some (Res.bld _ _ (bl ++ befT K f n l i ++ lineT n (tx (⟨#[]⟩ ++ (((gD l i).f 2).s ++ bs (parT K ((gD l i).f 4).l) ++ bs (tailT K ((gD l i).f 5).l)))))) = _
        rw [hnx, selT, if_neg (by rw [ho]; decide), headT, if_neg hk2, if_neg hk3, if_pos he]
        simp only [tx_append, tx_bs, List.append_assoc]; rfl
      · rename_i h2 h3 ha
        have hk2 : ¬ ((gD l i).f 0).n = 2 := by simpa using h2
        have hk3 : ¬ ((gD l i).f 0).n = 3 := by simpa using h3
        have ho : openB (gD l i) = true := op2 h2 hb
        have he : tx ((gD l i).f 1).s = [] := s_eq ha
        refine k_loop_next (j' := j - 1) (by omega) ⟨i + 1, by omega, Sub.live ⟨rfl, rfl, rfl, rfl, rfl, trivial⟩ ⟨?_, trivial⟩⟩
        show some (Res.bld _ _ (bl ++ befT K f n l i ++ lineT n (tx (⟨#[]⟩ ++ (((gD l i).f 2).s ++ bs (parT K ((gD l i).f 4).l) ++ bs (tailT K ((gD l i).f 5).l)) ++ ⟨#[32, 123]⟩)) ++ selsT K f (n + 1) ((gD l i).f 6).l ++ lineT n (tx ⟨#[125]⟩))) = _
        rw [hnx, selT, if_pos ho, headT, if_neg hk2, if_neg hk3, if_pos he]
        simp only [tx_append, tx_bs, List.append_assoc]; rfl
      · have : l.length ≤ i := at_ge hb
        omega
    · have hno : decide ((i : Int) < (l.length : Int)) = true → False := fun h => hi (at_lt h)
      repeat' (first
 | exact (hno (by assumption)).elim
 | refine aw_region ?_
 | refine awo_nil ?_
 | refine k_seq ?_
 | (apply aw_1
    conv => whnf
    refine ⟨?_, trivial⟩)
 | (apply s_1
    conv => whnf; arg 1; arg 4; arg 3; whnf
    refine ⟨?_, ?_⟩)
 | (refine aw_cond (by conv => lhs; whnf) ?_ ?_ <;> intro hb)
 | refine k_seq_exit ?_
 | refine k_block_hit rfl ?_
 | refine k_loop_exit ?_
 | refine k_endB ⟨?_, ?_⟩
 | exact (rfl : _ = V.tup [])
 | exact trivial)
      refine ⟨?_, trivial⟩
      show some (Res.bld _ _ (bl ++ befT K f n l i)) = _
      have e : i = l.length := by omega
      rw [e, befT, List.take_length]; rfl
set_option maxHeartbeats 8000000 in
set_option maxRecDepth 100000 in
theorem sels_acb (K : Nat) : ∀ (f n : Nat) (l : List D) (bl : List UInt8), SelsOk K (f + 1) l → (∀ i, wideD (gD l i)) → bulkL l ≤ 1048576 → n + f ≤ 300 → bl.length + (selsT K (f + 1) n l).length ≤ 10000000000 + 1000000000 * n →
    ACB EN Tryz.prog 55 [.bx (pn 0) 0, .sl 76 l, .c (.int .i64 (n : Int))] [.bld 110 5 bl] (.tup []) [.bld 110 5 (bl ++ selsT K (f + 1) n l)] := by
  intro f
  induction f with
  | zero =>
    intro n l bl h hw hb hn hlen
    exact sels_step K 0 n l bl h hw hb hn hlen fun i hi hne => absurd (h i hi).sub hne
  | succ f ih =>
    intro n l bl h hw hb hn hlen
    refine sels_step K (f + 1) n l bl h hw hb hn hlen fun i hi hne b2 hb2 => ?_
    have hbi := bulkL_get hi
    have h6 := wD_list ((gD l i).f 6)
    have hf6 := wD_f (gD l i) 6
    have hbw := bulkD_wD (gD l i)
    exact ih (n + 1) ((gD l i).f 6).l b2 (h i hi).sub (fun j => ((hw i).f 6).l j) (by omega) (by omega) hb2
end Go.Proofs.YthjiclhfhjdjpaaGreatDoor
namespace Go.Proofs.YthjiclhfhjdjpaaGreatDoor
open Go.RowKit
attribute [local irreducible] wpList Calls Code.wp AW AWo OpOk seqK blockK scopeK loopK endK AC absLex Yld Sub
set_option maxHeartbeats 8000000 in
set_option maxRecDepth 100000 in
theorem str_eq {l : List UInt8} {e : ByteArray} (h : tx e = l) : V.c (.string (bs l)) = V.c (.string e) := by rw [← h, bs_tx]
end Go.Proofs.YthjiclhfhjdjpaaGreatDoor
