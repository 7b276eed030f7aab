/- Parts of a proof, merged by a program (shake.py). -/
import Derived.Test.YthjiclhfhjdjpaaGreatDoorQ28
set_option linter.unusedVariables false
set_option linter.unusedSimpArgs false
namespace Go.Proofs.YthjiclhfhjdjpaaGreatDoor
open Go.RowKit
set_option linter.unusedSectionVars false
attribute [local irreducible] wpList Calls Code.wp AW AWo OpOk seqK blockK scopeK loopK endK AC absLex Yld Sub
attribute [local irreducible] ACB ACX ACE absLexG YldG
section
variable {s : List UInt8} {i : Nat} (hi : i < s.length) (hs : s.length ≤ 70000)
include hi hs
set_option maxHeartbeats 8000000 in
set_option maxRecDepth 100000 in
theorem read_open (h : s[i] = 34) (hn : litN (s.drop (i + 1)) = none) : AC EN5 Tryz.prog 85 [.c (.string (bs s)), .c (.int .i64 (i : Int))] failR := by
  have hz := bs_size s
  have hbt := byte_at hi
  have hgd := at_bs hi
  have hdr : s.drop i = s[i] :: s.drop (i + 1) := List.drop_eq_getElem_cons hi
  have q : ∀ n : Nat, n < 256 → (byteAt (bs s) ((i : Int)).toNat == (n : Int)) = (s[i] == UInt8.ofNat n) := fun n hn => by rw [hbt]; exact u8_eq _ n hn
  have hsg := containsSign_ac ((bs s).data.toList.getD ((i : Int)).toNat 0)
  have f0 : signB ((bs s).data.toList.getD ((i : Int)).toNat 0) = false := by rw [Int.toNat_natCast, hgd, h]; rfl
  have f1 : (byteAt (bs s) ((i : Int)).toNat == 46) = false := (q 46 (by omega)).trans (by rw [h]; rfl)
  have f2 : (byteAt (bs s) ((i : Int)).toNat == 45) = false := (q 45 (by omega)).trans (by rw [h]; rfl)
  have f3 : decide (byteAt (bs s) ((i : Int)).toNat ≥ 48) = false := by rw [hbt, h]; rfl
  have k1 : ((byteAt (bs s) ((i : Int)).toNat == 45) == false) = false → False := fun h2 => by rw [f2] at h2; cases h2
  have k2 : (decide (byteAt (bs s) ((i : Int)).toNat ≥ 48) == true) = true → False := fun h2 => by rw [f3] at h2; cases h2
  have hlt := letter_ac ((bs s).data.toList.getD ((i : Int)).toNat 0)
  have f5 : wrdU ((bs s).data.toList.getD ((i : Int)).toNat 0) = false := by rw [Int.toNat_natCast, hgd, h]; rfl
  have f6 : (byteAt (bs s) ((i : Int)).toNat == 34) = true := (q 34 (by omega)).trans (by rw [h]; rfl)
  have hll := literal_ac s i hi (by omega)
  have hv : litV s i = -1 := by unfold litV; rw [hn]
  rw [hv] at hll
  refine ac_enter 116 Tryz.func85 rfl rfl rfl rfl ?_
  intro s0 w he
  repeat' (first
 | (apply s_wpick_f rfl rfl rfl
    · conv => lhs; whnf
    · first | rfl | assumption
    · conv => lhs; whnf
    · first | exact bF1 (by assumption) | exact bF2 (by assumption) | rfl)
 | (apply aw_cond_kt
    · conv => lhs; whnf
    · assumption)
 | (apply aw_cond_kf
    · conv => lhs; whnf
    · assumption)
 | exact (k1 (by assumption)).elim
 | exact (k2 (by assumption)).elim
 | refine aw_seq ?_
 | refine aw_region ?_
 | refine awo_nil ?_
 | refine k_seq ?_
 | refine aw_block ?_
 | (apply s_pick_f rfl rfl
    · conv => lhs; whnf
    · conv => lhs; whnf
    · first | exact bF1 (by assumption) | exact bF2 (by assumption))
 | (apply s_val rfl
    · conv => lhs; whnf
    · conv => lhs; whnf; arg 2; whnf)
 | (apply s_call rfl
    · conv => lhs; whnf
    · conv => lhs; whnf
    · first | exact hsg | exact hlt | exact hll)
 | (apply s_alloc rfl rfl rfl rfl
    · conv => lhs; whnf; arg 1; whnf
    · rfl)
 | (apply s_store rfl rfl rfl
    · conv => lhs; whnf
    · conv => lhs; whnf; arg 1; whnf
    · conv => lhs; whnf; arg 1; whnf
    · exact ⟨by kernel_rfl, by kernel_rfl⟩
    · rfl)
 | (apply s_wanted_val rfl
    · conv => lhs; whnf
    · conv => lhs; whnf
    · first | rfl | assumption
    · conv => lhs; whnf; arg 2; whnf)
 | (apply s_skipU rfl
    · conv => lhs; whnf
    · conv => lhs; whnf
    · first | rfl | assumption)
 | (apply s_guard_valU rfl
    · conv => lhs; whnf
    · conv => lhs; whnf
    · conv => lhs; whnf; arg 2; whnf)
 | (apply aw_cond_t
    · conv => lhs; whnf; arg 1; arg 1; whnf)
 | (apply aw_cond_f
    · conv => lhs; whnf; arg 1; arg 1; whnf)
 | refine aw_ret ?_
 | refine k_seq_ret ?_
 | refine k_block_ret ?_
 | refine k_end_ret ?_
 | exact trivial
 | intro hg)
  · exact ⟨_, _, _, rfl, rfl, rfl, rfl⟩
  all_goals first
    | exact i64_ok (by omega)
    | exact ⟨by kernel_rfl, by omega, by omega⟩
    | exact ⟨by kernel_rfl, by omega, by omega, by omega⟩
    | (rw [hbt]; exact byte_i32 _)
    | exact (show Tryz.prog.underlying _ = some TypeDesc.string by kernel_rfl)
    | skip
set_option maxHeartbeats 8000000 in
set_option maxRecDepth 100000 in
theorem read_text (h : s[i] = 34) (n : Nat) (hn : litN (s.drop (i + 1)) = some n) : AC EN5 Tryz.prog 85 [.c (.string (bs s)), .c (.int .i64 (i : Int))] (tupR ⟨4, (unquoteU (s[i] :: (s.drop (i + 1)).take n)).getD [], i⟩ (i + 1 + n) (uqE (unquoteU (s[i] :: (s.drop (i + 1)).take n)))) := by
  have hz := bs_size s
  have hbt := byte_at hi
  have hgd := at_bs hi
  have hdr : s.drop i = s[i] :: s.drop (i + 1) := List.drop_eq_getElem_cons hi
  have q : ∀ n : Nat, n < 256 → (byteAt (bs s) ((i : Int)).toNat == (n : Int)) = (s[i] == UInt8.ofNat n) := fun n hn => by rw [hbt]; exact u8_eq _ n hn
  have hsg := containsSign_ac ((bs s).data.toList.getD ((i : Int)).toNat 0)
  have f0 : signB ((bs s).data.toList.getD ((i : Int)).toNat 0) = false := by rw [Int.toNat_natCast, hgd, h]; rfl
  have f1 : (byteAt (bs s) ((i : Int)).toNat == 46) = false := (q 46 (by omega)).trans (by rw [h]; rfl)
  have f2 : (byteAt (bs s) ((i : Int)).toNat == 45) = false := (q 45 (by omega)).trans (by rw [h]; rfl)
  have f3 : decide (byteAt (bs s) ((i : Int)).toNat ≥ 48) = false := by rw [hbt, h]; rfl
  have k1 : ((byteAt (bs s) ((i : Int)).toNat == 45) == false) = false → False := fun h2 => by rw [f2] at h2; cases h2
  have k2 : (decide (byteAt (bs s) ((i : Int)).toNat ≥ 48) == true) = true → False := fun h2 => by rw [f3] at h2; cases h2
  have hlt := letter_ac ((bs s).data.toList.getD ((i : Int)).toNat 0)
  have f5 : wrdU ((bs s).data.toList.getD ((i : Int)).toNat 0) = false := by rw [Int.toNat_natCast, hgd, h]; rfl
  have f6 : (byteAt (bs s) ((i : Int)).toNat == 34) = true := (q 34 (by omega)).trans (by rw [h]; rfl)
  have hll := literal_ac s i hi (by omega)
  have hln := litN_le _ n hn
  rw [List.length_drop] at hln
  have hv : litV s i = ((i + 1 + n : Nat) : Int) := by unfold litV; rw [hn]
  rw [hv] at hll
  have f7 : decide (((i + 1 + n : Nat) : Int) < 0) = false := decide_eq_false (by omega)
  have hx : (bs s).extract ((i : Int)).toNat (((i + 1 + n : Nat) : Int)).toNat = bs (s[i] :: (s.drop (i + 1)).take n) := by
    rw [Int.toNat_natCast, Int.toNat_natCast, ext_bs s (by omega) (by omega), hdr, show i + 1 + n - i = n + 1 by omega, List.take_succ_cons]
  have hsz : ((bs s).extract ((i : Int)).toNat (((i + 1 + n : Nat) : Int)).toNat).size ≤ 100000 := by rw [ByteArray.size_extract]; omega
  have huq := unquoteP_ac _ hsz
  unfold uqVV at huq
  have htx : tx ((bs s).extract ((i : Int)).toNat (((i + 1 + n : Nat) : Int)).toNat) = s[i] :: (s.drop (i + 1)).take n := by rw [hx]; exact bs_data _
  rw [htx] at huq
  refine ac_enter 116 Tryz.func85 rfl rfl rfl rfl ?_
  intro s0 w he
  repeat' (first
 | (apply s_wpick_f rfl rfl rfl
    · conv => lhs; whnf
    · first | rfl | assumption
    · conv => lhs; whnf
    · first | exact bF1 (by assumption) | exact bF2 (by assumption) | rfl)
 | (apply aw_cond_kt
    · conv => lhs; whnf
    · assumption)
 | (apply aw_cond_kf
    · conv => lhs; whnf
    · assumption)
 | exact (k1 (by assumption)).elim
 | exact (k2 (by assumption)).elim
 | refine aw_seq ?_
 | refine aw_region ?_
 | refine awo_nil ?_
 | refine k_seq ?_
 | refine aw_block ?_
 | refine aw_skip ?_
 | (apply s_pick_f rfl rfl
    · conv => lhs; whnf
    · conv => lhs; whnf
    · first | exact bF1 (by assumption) | exact bF2 (by assumption))
 | (apply s_val rfl
    · conv => lhs; whnf
    · conv => lhs; whnf; arg 2; whnf)
 | (apply s_call rfl
    · conv => lhs; whnf
    · conv => lhs; whnf
    · first | exact hsg | exact hlt | exact hll | exact huq)
 | (apply s_alloc rfl rfl rfl rfl
    · conv => lhs; whnf; arg 1; whnf
    · rfl)
 | (apply s_store rfl rfl rfl
    · conv => lhs; whnf
    · conv => lhs; whnf; arg 1; whnf
    · conv => lhs; whnf; arg 1; whnf
    · exact ⟨by kernel_rfl, by kernel_rfl⟩
    · rfl)
 | (apply s_wanted_val rfl
    · conv => lhs; whnf
    · conv => lhs; whnf
    · first | rfl | assumption
    · conv => lhs; whnf; arg 2; whnf)
 | (apply s_skipU rfl
    · conv => lhs; whnf
    · conv => lhs; whnf
    · first | rfl | assumption)
 | (apply s_guard_valU rfl
    · conv => lhs; whnf
    · conv => lhs; whnf
    · conv => lhs; whnf; arg 2; whnf)
 | refine aw_ret ?_
 | refine k_seq_ret ?_
 | refine k_block_ret ?_
 | refine k_end_ret ?_
 | exact trivial
 | intro hg)
  · exact ⟨_, _, _, rfl, rfl, rfl, rfl⟩
  all_goals first
    | exact i64_ok (by omega)
    | exact ⟨by kernel_rfl, by omega, by omega⟩
    | exact ⟨by kernel_rfl, by omega, by omega, by omega⟩
    | (rw [hbt]; exact byte_i32 _)
    | exact (show Tryz.prog.underlying _ = some TypeDesc.string by kernel_rfl)
    | skip
set_option maxHeartbeats 8000000 in
set_option maxRecDepth 100000 in
/-- token.read at any place -/
theorem read_ac : AC EN5 Tryz.prog 85 [.c (.string (bs s)), .c (.int .i64 (i : Int))] (readV (s.drop i) i) := by
  have hdr : s.drop i = s[i] :: s.drop (i + 1) := List.drop_eq_getElem_cons hi
  rw [hdr]
  unfold readV
  simp only []
  by_cases h0 : signB s[i] = true
  · rw [if_pos h0]; exact read_sign hi hs h0
  rw [if_neg h0]
  have h0 : signB s[i] = false := by simpa using h0
  by_cases h46 : s[i] = 46
  · rw [if_pos (by simp [h46])]
    have hp : Lib.hasPrefix (s.drop i) [46, 46, 46] = decide ((s.drop (i + 1)).take 2 = [46, 46]) := by
      rw [hdr, h46]
      show List.isPrefixOf [46, 46] (s.drop (i + 1)) = _
      rw [Bool.eq_iff_iff]
      simp only [List.isPrefixOf_iff_prefix, decide_eq_true_eq, List.prefix_iff_eq_take]
      exact eq_comm
    have := read_dots hi hs h0 h46 _ hp (fun hd => by
      have := congrArg List.length (of_decide_eq_true hd)
      rw [List.length_take, List.length_drop] at this
      simp at this; omega)
    simpa using this
  rw [if_neg (by simpa using h46)]
  by_cases hd : (s[i] == 45 || digU s[i]) = true
  · rw [if_pos hd]
    refine read_num hi hs h0 h46 ?_
    by_cases h45 : s[i] = 45
    · exact .inl h45
    · exact .inr ⟨h45, by simpa [h45] using hd⟩
  rw [if_neg hd]
  have hd : (s[i] == 45 || digU s[i]) = false := by simpa using hd
  rw [Bool.or_eq_false_iff] at hd
  have h45 : s[i] ≠ 45 := by simpa using hd.1
  have hr : s[i].toNat < 48 ∨ 57 < s[i].toNat := by
    have := hd.2
    simp only [digU, decide_eq_false_iff_not] at this
    omega
  by_cases hw : wrdU s[i] = true
  · rw [if_pos hw]
    by_cases hl : spanN wrdU (s.drop (i + 1)) + 1 > 64
    · rw [if_pos hl]; exact read_long hi hs h0 h46 h45 hr hw (by omega)
    · rw [if_neg hl]; exact read_word hi hs h0 h46 h45 hr hw (by omega)
  rw [if_neg hw]
  have hw : wrdU s[i] = false := by simpa using hw
  by_cases h34 : s[i] = 34
  · rw [if_pos (by simp [h34])]
    cases hn : litN (s.drop (i + 1)) with
    | none => exact read_open hi hs h34 hn
    | some n => exact read_text hi hs h34 n hn
  · rw [if_neg (by simpa using h34)]
    exact read_none hi hs h0 h46 h45 hr hw h34
end
set_option maxHeartbeats 8000000 in
set_option maxRecDepth 100000 in
theorem rd_split (c : UInt8) (r : List UInt8) (i : Nat) :
    (∀ k t n, readU (c :: r) = .ok (k, t, n) → readV (c :: r) i = tupR ⟨k, t, i⟩ (i + n) 0) ∧ (∀ e, readU (c :: r) = .error e → e ≠ 0 ∧ ∃ t k, readV (c :: r) i = tupR t k e) := by
  unfold readU readV
  simp only []
  have f3 : ∀ e : Int, (3 : Int) = e → e ≠ 0 ∧ ∃ t k, failR = tupR t k e := fun e he => by subst he; exact ⟨by decide, _, _, rfl⟩
  by_cases h0 : signB c = true
  · rw [if_pos h0, if_pos h0]
    exact ⟨fun k t n h => by cases h; rfl, fun e h => by cases h⟩
  rw [if_neg h0, if_neg h0]
  by_cases h46 : (c == 46) = true
  · rw [if_pos h46, if_pos h46]
    by_cases hp : r.take 2 = [46, 46]
    · rw [if_pos hp, if_pos hp]
      exact ⟨fun k t n h => by cases h; rfl, fun e h => by cases h⟩
    · rw [if_neg hp, if_neg hp]
      exact ⟨fun k t n h => (by cases h), fun e h => by cases h; exact f3 _ rfl⟩
  rw [if_neg h46, if_neg h46]
  by_cases hd : (c == 45 || digU c) = true
  · rw [if_pos hd, if_pos hd]
    by_cases hn : nerU (numU (c :: r.take (spanN wrdU r))) = 0
    · rw [if_pos hn]
      refine ⟨fun k t n h => ?_, fun e h => by cases h⟩
      cases h
      rw [hn, show i + 1 + spanN wrdU r = i + (spanN wrdU r + 1) by omega]
    · rw [if_neg hn]
      exact ⟨fun k t n h => (by cases h), fun e h => by cases h; exact ⟨hn, _, _, rfl⟩⟩
  rw [if_neg hd, if_neg hd]
  have hd : (c == 45 || digU c) = false := by simpa using hd
  rw [Bool.or_eq_false_iff] at hd
  have hwl : wrdU c = letU c := by unfold wrdU; rw [hd.2, Bool.or_false]
  rw [hwl]
  by_cases hw : letU c = true
  · rw [if_pos hw, if_pos hw]
    by_cases hl : spanN wrdU r + 1 > 64
    · rw [if_pos hl, if_pos hl]
      exact ⟨fun k t n h => (by cases h), fun e h => by cases h; exact f3 _ rfl⟩
    · rw [if_neg hl, if_neg hl]
      refine ⟨fun k t n h => ?_, fun e h => by cases h⟩
      cases h
      rw [show i + 1 + spanN wrdU r = i + (spanN wrdU r + 1) by omega]
  rw [if_neg hw, if_neg hw]
  by_cases h34 : (c == 34) = true
  · rw [if_pos h34, if_pos h34]
    cases hn : litN r with
    | none => exact ⟨fun k t n h => (by cases h), fun e h => by cases h; exact f3 _ rfl⟩
    | some n =>
      dsimp only
      cases hu : unquoteU (c :: r.take n) with
      | none => exact ⟨fun k t n h => (by cases h), fun e h => by cases h; exact ⟨by decide, _, _, rfl⟩⟩
      | some t =>
        refine ⟨fun k t n h => ?_, fun e h => by cases h⟩
        cases h
        show tupR ⟨4, t, i⟩ (i + 1 + n) 0 = tupR ⟨4, t, i⟩ (i + (n + 1)) 0
        rw [show i + 1 + n = i + (n + 1) by omega]
  · rw [if_neg h34, if_neg h34]
    exact ⟨fun k t n h => (by cases h), fun e h => by cases h; exact f3 _ rfl⟩
set_option maxRecDepth 100000 in
set_option maxHeartbeats 8000000 in
theorem elemTok : elemOk Tryz.prog 61 = some (143, 32) := by kernel_rfl
/-- the scan from a place that no separator begins -/
def scanG (f : Nat) (l : List UInt8) (k : Nat) : Except (Nat × Int) (List Tok) :=
  match l with
  | [] => .ok [⟨5, [], k⟩]
  | c :: r => match readT (c :: r) k with
    | .error e => .error (k, e)
    | .ok (t, n) => match scanF f ((c :: r).drop n) (k + n) with
      | .error e => .error e
      | .ok ts => .ok (t :: ts)
set_option maxHeartbeats 8000000 in
set_option maxRecDepth 100000 in
theorem scan_G (f : Nat) (l : List UInt8) (i : Nat) : scanF (f + 1) l i = scanG f (l.drop (skipM false l)) (i + skipM false l) := by
  have hle := skipM_le false l
  rw [scanF]
  unfold scanG
  cases h : l.drop (skipM false l) with
  | nil =>
    have := congrArg List.length h
    rw [List.length_drop] at this
    have e : skipM false l = l.length := by simp at this; omega
    rw [e]
  | cons c r => rfl
/-- tokens ahead -/
def ahead (acc : List Tok) : Except (Nat × Int) (List Tok) → Except (Nat × Int) (List Tok)
  | .error e => .error e
  | .ok ts => .ok (acc ++ ts)
noncomputable def scanW : Except (Nat × Int) (List Tok) → V
  | .ok ts => .tup [.sl 143 (ts.map tokD), .c (.int .i64 0), .c (.int .i64 0)]
  | .error x => .tup [.c (.slice none 0 0), .c (.int .i64 (x.1 : Int)), .c (.int .i64 x.2)]
set_option maxHeartbeats 8000000 in
set_option maxRecDepth 100000 in
theorem scanW_pure (r : Except (Nat × Int) (List Tok)) : (scanW r).pure = true := by cases r <;> rfl
noncomputable def HSn (s : List UInt8) (k : Nat) (acc : List Tok) : Vst 44 :=
  stS 44 [(0, .c (.string (bs s))), (5, .own 5 143 (acc.map tokD)), (6, .c (.int .i64 (k : Int)))] [(5, .tok 143 (acc.map tokD).length)]
set_option maxHeartbeats 8000000 in
set_option maxRecDepth 100000 in
theorem scan_big (s : List UInt8) (hs : 65536 < s.length) (hs2 : s.length ≤ 4000000000) : AC EN5 Tryz.prog 37 [.c (.string (bs s))] (scanW (scanT s)) := by
  have hz := bs_size s
  have e : scanT s = .error (65536, 4) := by unfold scanT; rw [if_pos hs]
  have f0 : decide (((bs s).size : Int) > 65536) = true := decide_eq_true (by omega)
  rw [e]
  refine ac_enter 44 Tryz.func37 rfl rfl rfl (scanW_pure _) ?_
  intro s0 w he
  repeat' (first
 | (apply aw_cond_kt
    · conv => lhs; whnf
    · assumption)
 | refine aw_seq ?_
 | refine aw_region ?_
 | refine awo_nil ?_
 | refine k_seq ?_
 | (apply s_val rfl
    · conv => lhs; whnf
    · conv => lhs; whnf; arg 2; whnf)
 | refine aw_ret ?_
 | refine k_seq_ret ?_
 | refine k_end_ret ?_
 | exact trivial)
  · exact ⟨_, _, _, rfl, rfl, rfl, rfl⟩
  all_goals exact (show Tryz.prog.underlying _ = some TypeDesc.string by kernel_rfl)
set_option maxHeartbeats 8000000 in
set_option maxRecDepth 100000 in
theorem scan_ac (s : List UInt8) (hs : s.length ≤ 4000000000) : AC EN5 Tryz.prog 37 [.c (.string (bs s))] (scanW (scanT s)) := by
  by_cases hbig : 65536 < s.length
  · exact scan_big s hbig hs
  have hz := bs_size s
  have f0 : decide (((bs s).size : Int) > 65536) = false := decide_eq_false (by omega)
  have hsk0 := skip_ac s 0 (by omega) (by omega)
  rw [Nat.zero_add, List.drop_zero] at hsk0
  have hkl := skipM_le false s
  have e0 : scanT s = ahead [] (scanG s.length (s.drop (skipM false s)) (skipM false s)) := by
    unfold scanT
    rw [if_neg hbig, scan_G, Nat.zero_add]
    cases scanG s.length (s.drop (skipM false s)) (skipM false s) <;> rfl
  refine ac_enter 44 Tryz.func37 rfl rfl rfl (scanW_pure _) ?_
  intro s0 w he
  repeat' (first
 | (apply aw_cond_kf
    · conv => lhs; whnf
    · assumption)
 | refine aw_seq ?_
 | refine aw_region ?_
 | refine awo_nil ?_
 | refine k_seq ?_
 | refine aw_block ?_
 | refine aw_skip ?_
 | (apply s_val rfl
    · conv => lhs; whnf
    · conv => lhs; whnf; arg 2; whnf)
 | (apply s_call rfl
    · conv => lhs; whnf
    · conv => lhs; whnf
    · first | exact hsk0)
 | exact trivial)
  refine aw_sub (Sub.own (t := 5) (e := 143) rfl rfl) ?_
  refine aw_loop (fun j st => ∃ k acc f, k + j = s.length ∧ acc.length ≤ k ∧ s.length < f + k + 1 ∧ scanT s = ahead acc (scanG f (s.drop k) k) ∧ Sub (cx EN5 Tryz.prog s0 w he) st (HSn s k acc)) (s.length - skipM false s) ⟨skipM false s, [], s.length, by omega, by simp, by omega, e0, ?_⟩ ?_
  · exact Sub.live ⟨rfl, rfl, rfl, trivial⟩ ⟨rfl, trivial⟩
  rintro j st ⟨k, acc, f, hkj, hacc, hf, hI, hs2⟩
  refine aw_sub hs2 ?_
  clear hs2 hsk0
  rw [hI]
  clear hI e0
  by_cases hk : k < s.length
  · have f1 : decide ((k : Int) < ((bs s).size : Nat)) = true := decide_eq_true (by omega)
    have hrd := read_ac hk (by omega)
    have hdr : s.drop k = s[k] :: s.drop (k + 1) := List.drop_eq_getElem_cons hk
    obtain ⟨r1, r2⟩ := rd_split s[k] (s.drop (k + 1)) k
    rw [hdr] at hrd ⊢
    cases hr : readU (s[k] :: s.drop (k + 1)) with
    | error e =>
      obtain ⟨he0, t', k', ht⟩ := r2 e hr
      rw [ht] at hrd
      unfold tupR at hrd
      have hrt : readT (s[k] :: s.drop (k + 1)) k = .error e := by unfold readT; rw [hr]
      have eG : scanG f (s[k] :: s.drop (k + 1)) k = .error (k, e) := by unfold scanG; simp only [hrt]
      rw [eG]
      have f2 : (e != 0) = true := by simpa using he0
      repeat' (first
 | (apply aw_cond_kt
    · conv => lhs; whnf
    · assumption)
 | refine aw_seq ?_
 | refine aw_region ?_
 | refine awo_nil ?_
 | refine k_seq ?_
 | refine aw_block ?_
 | refine aw_skip ?_
 | (apply s_val rfl
    · conv => lhs; whnf
    · conv => lhs; whnf; arg 2; whnf)
 | (apply s_call rfl
    · conv => lhs; whnf
    · conv => lhs; whnf
    · first | exact hrd)
 | (apply s_alloc rfl rfl rfl rfl
    · conv => lhs; whnf; arg 1; whnf
    · rfl)
 | (apply s_store rfl rfl rfl
    · conv => lhs; whnf
    · conv => lhs; whnf; arg 1; whnf
    · conv => lhs; whnf; arg 1; whnf
    · exact ⟨by kernel_rfl, by kernel_rfl⟩
    · rfl)
 | refine aw_ret ?_
 | refine k_seq_ret ?_
 | refine k_block_ret ?_
 | refine k_loop_ret ?_
 | refine k_end_ret ?_
 | exact trivial)
      · exact ⟨_, _, _, rfl, rfl, rfl, rfl⟩
      all_goals exact (show Tryz.prog.underlying _ = some TypeDesc.string by kernel_rfl)
    | ok p =>
      obtain ⟨kk, t, n⟩ := p
      have hn := readU_le hr
      have hdl : (s[k] :: s.drop (k + 1)).length = s.length - k := by rw [← hdr, List.length_drop]
      rw [hdl] at hn
      rw [r1 kk t n hr] at hrd
      unfold tupR at hrd
      have hsk := skip_ac s (k + n) (by omega) (by omega)
      have hsl := skipM_le false (s.drop (k + n))
      rw [List.length_drop] at hsl
      have hrt : readT (s[k] :: s.drop (k + 1)) k = .ok (⟨kk, t, k⟩, n) := by unfold readT; rw [hr]
      obtain ⟨f', rfl⟩ : ∃ f', f = f' + 1 := ⟨f - 1, by omega⟩
      have hdn : (s[k] :: s.drop (k + 1)).drop n = s.drop (k + n) := by rw [← hdr, List.drop_drop]
      have eG : ahead acc (scanG (f' + 1) (s[k] :: s.drop (k + 1)) k) = ahead (acc ++ [⟨kk, t, k⟩]) (scanG f' (s.drop (k + n + skipM false (s.drop (k + n)))) (k + n + skipM false (s.drop (k + n)))) := by
        conv => lhs; unfold scanG
        simp only [hrt, hdn]
        rw [scan_G, List.drop_drop]
        cases scanG f' (s.drop (k + n + skipM false (s.drop (k + n)))) (k + n + skipM false (s.drop (k + n))) with
        | error x => rfl
        | ok ts => show Except.ok (acc ++ _ :: ts) = Except.ok ((acc ++ [_]) ++ ts); rw [List.append_assoc]; rfl
      rw [eG]
      repeat' (first
 | (apply s_lit [tokD ⟨kk, t, k⟩] rfl rfl
    · conv => lhs; whnf
    · first | exact elemTok | (conv => lhs; whnf; arg 1; whnf)
    · rfl
    · rfl
    · repeat' (first | exact trivial | apply And.intro | rfl))
 | (apply aw_cond_kt
    · conv => lhs; whnf
    · assumption)
 | refine aw_seq ?_
 | refine aw_region ?_
 | refine awo_nil ?_
 | refine k_seq ?_
 | refine k_block ?_
 | refine aw_block ?_
 | refine aw_skip ?_
 | (apply s_val rfl
    · conv => lhs; whnf
    · conv => lhs; whnf; arg 2; whnf)
 | (apply s_call rfl
    · conv => lhs; whnf
    · conv => lhs; whnf
    · first | exact hrd | exact hsk)
 | (apply s_alloc rfl rfl rfl rfl
    · conv => lhs; whnf; arg 1; whnf
    · rfl)
 | (apply s_store rfl rfl rfl
    · conv => lhs; whnf
    · conv => lhs; whnf; arg 1; whnf
    · conv => lhs; whnf; arg 1; whnf
    · exact ⟨by kernel_rfl, by kernel_rfl⟩
    · rfl)
 | (apply s_app rfl rfl
    · conv => lhs; whnf
    · first | exact elemTok | (conv => lhs; whnf; arg 1; whnf)
    · first | exact fun _ => rfl | (intro _; kernel_rfl)
    · conv => lhs; whnf
    · conv => lhs; whnf; arg 1; whnf
    · conv => lhs; whnf)
 | (apply aw_cond_f
    · conv => lhs; whnf; arg 1; arg 1; whnf)
 | exact trivial)
      · refine k_loop_next (j' := j - (n + skipM false (s.drop (k + n)))) (by omega) ⟨k + n + skipM false (s.drop (k + n)), acc ++ [⟨kk, t, k⟩], f', by omega, by rw [List.length_append]; simp only [List.length_cons, List.length_nil]; omega, by omega, rfl, Sub.live ⟨rfl, ?_, rfl, trivial⟩ ⟨?_, trivial⟩⟩
        · show V.own 5 _ (acc.map tokD ++ [tokD ⟨kk, t, k⟩]) = V.own 5 _ ((acc ++ [(⟨kk, t, k⟩ : Tok)]).map tokD)
          rw [List.map_append]; rfl
        · show some (Res.tok _ ((acc.map tokD).length + 1)) = some (Res.tok _ ((acc ++ [(⟨kk, t, k⟩ : Tok)]).map tokD).length)
          simp
      · refine ⟨by simp, ?_, ?_⟩ <;> simp only [List.length_cons, List.length_nil, List.length_map, maxLen] <;> omega
      · exact (show Tryz.prog.underlying _ = some TypeDesc.string by kernel_rfl)
  · have f1 : decide ((k : Int) < ((bs s).size : Nat)) = false := decide_eq_false (by omega)
    have hdr : s.drop k = [] := List.drop_of_length_le (by omega)
    rw [hdr]
    have ek : k = s.length := by omega
    repeat' (first
 | (apply s_lit [tokD ⟨5, [], (bs s).size⟩] rfl rfl
    · conv => lhs; whnf
    · first | exact elemTok | (conv => lhs; whnf; arg 1; whnf)
    · rfl
    · rfl
    · repeat' (first | exact trivial | apply And.intro | rfl))
 | (apply aw_cond_kf
    · conv => lhs; whnf
    · assumption)
 | refine aw_seq ?_
 | refine aw_region ?_
 | refine awo_nil ?_
 | refine k_seq ?_
 | (apply s_val rfl
    · conv => lhs; whnf
    · conv => lhs; whnf; arg 2; whnf)
 | (apply s_app rfl rfl
    · conv => lhs; whnf
    · first | exact elemTok | (conv => lhs; whnf; arg 1; whnf)
    · first | exact fun _ => rfl | (intro _; kernel_rfl)
    · conv => lhs; whnf
    · conv => lhs; whnf; arg 1; whnf
    · conv => lhs; whnf)
 | refine aw_ret ?_
 | refine aw_exit ?_
 | refine k_seq_exit ?_
 | refine k_block_hit rfl ?_
 | refine k_loop_exit ?_
 | refine k_end_ret ?_
 | exact trivial)
    · refine ⟨_, _, _, rfl, rfl, rfl, ?_⟩
      show V.tup [.sl 143 ((acc ++ [(⟨5, [], k⟩ : Tok)]).map tokD), .c (.int .i64 0), .c (.int .i64 0)] = V.tup [.sl 143 (acc.map tokD ++ [tokD ⟨5, [], (bs s).size⟩]), .c (.int .i64 0), .c (.int .i64 0)]
      rw [ek, hz, List.map_append]; rfl
    · refine ⟨by simp, ?_, ?_⟩ <;> simp only [List.length_cons, List.length_nil, List.length_map, maxLen] <;> omega
    all_goals exact (show Tryz.prog.underlying _ = some TypeDesc.string by kernel_rfl)
  exact (show Tryz.prog.underlying _ = some TypeDesc.string by kernel_rfl)
end Go.Proofs.YthjiclhfhjdjpaaGreatDoor
namespace Go.Proofs.YthjiclhfhjdjpaaGreatDoor
/-- x stops at the end e, behind a; x' goes on with r there -/
structure J (e : Tok) (r : List Tok) (a : List Tok) (x x' : PS) : Prop where
  l : x.ts = a ++ [e]
  r : x'.ts = a ++ r
  vr : x'.vr = x.vr
  nd : x'.nd = x.nd
/-- what the one yields the other yields, if it stops ahead of the end -/
def LO (e : Tok) (r : List Tok) {α : Type} (a : List Tok) (p p' : PR α) : Prop :=
  ∀ v y, p = .ok (v, y) → ∃ b, (∃ d, a = d ++ b) ∧ y.ts = b ++ [e] ∧ (b ≠ [] → ∃ y', p' = .ok (v, y') ∧ J e r b y y')
/-- likewise, wherever it stops -/
def LS (e : Tok) (r : List Tok) {α : Type} (a : List Tok) (p p' : PR α) : Prop :=
  ∀ v y, p = .ok (v, y) → ∃ b y', (∃ t d, a = t :: d ++ b) ∧ p' = .ok (v, y') ∧ J e r b y y'
structure Ends (e : Tok) (r : List Tok) : Prop where
  k : e.k = 5
  r : r ≠ []
section
variable {e : Tok} {r : List Tok} {α β : Type}
theorem LS.lo {a : List Tok} {p p' : PR α} (h : LS e r a p p') : LO e r a p p' := fun v y hp => by
  obtain ⟨b, y', ⟨t, d, hd⟩, h1, h2⟩ := h v y hp
  exact ⟨b, ⟨t :: d, hd⟩, h2.l, fun _ => ⟨y', h1, h2⟩⟩
theorem LO.zero {p p' p'' : PR α} (h : LO e r [] p p') : LO e r [] p p'' := fun v y hp => by
  obtain ⟨b, ⟨d, hd⟩, h1, h2⟩ := h v y hp
  have : b = [] := (List.append_eq_nil_iff.1 hd.symm).2
  subst this
  exact ⟨[], ⟨[], rfl⟩, h1, fun h => (h rfl).elim⟩
theorem LS.zero {p p' p'' : PR α} (h : LS e r [] p p') : LS e r [] p p'' := fun v y hp => by
  obtain ⟨b, y', ⟨t, d, hd⟩, -⟩ := h v y hp
  cases hd
theorem LO.err {a : List Tok} {q : Nat × Int} {p' : PR α} : LO e r a (.error q) p' := fun _ _ h => by cases h
theorem LS.err {a : List Tok} {q : Nat × Int} {p' : PR α} : LS e r a (.error q) p' := fun _ _ h => by cases h
theorem LO.okk {a : List Tok} {x x' : PS} (h : J e r a x x') (v : α) : LO e r a (.ok (v, x)) (.ok (v, x')) := fun w y hp => by
  cases hp
  exact ⟨a, ⟨[], rfl⟩, h.l, fun _ => ⟨x', rfl, h⟩⟩
theorem LO.mono {a b : List Tok} {p p' : PR α} (h : LO e r b p p') (hab : ∃ d, a = d ++ b) : LO e r a p p' := fun v y hp => by
  obtain ⟨c, ⟨d, hd⟩, h1⟩ := h v y hp
  obtain ⟨d2, hd2⟩ := hab
  exact ⟨c, ⟨d2 ++ d, by rw [hd2, hd, List.append_assoc]⟩, h1⟩
theorem LS.mono {a b : List Tok} {p p' : PR α} (h : LS e r b p p') (hab : ∃ d, a = d ++ b) : LS e r a p p' := fun v y hp => by
  obtain ⟨c, y', ⟨t, d, hd⟩, h1⟩ := h v y hp
  obtain ⟨d2, hd2⟩ := hab
  cases d2 with
  | nil => exact ⟨c, y', ⟨t, d, by rw [hd2, hd]; rfl⟩, h1⟩
  | cons t2 d2 => exact ⟨c, y', ⟨t2, d2 ++ t :: d, by rw [hd2, hd]; simp⟩, h1⟩
theorem LS.okn {t : Tok} {a : List Tok} {x x' : PS} (h : J e r a x x') (v : α) : LS e r (t :: a) (.ok (v, x)) (.ok (v, x')) := fun w y hp => by
  cases hp
  exact ⟨a, x', ⟨t, [], rfl⟩, rfl, h⟩
theorem LO.ite {a : List Tok} {c c' : Prop} [Decidable c] [Decidable c'] {A A' B B' : PR α} (hc : a ≠ [] → (c ↔ c')) (h1 : c → LO e r a A A') (h2 : ¬ c → LO e r a B B') : LO e r a (if c then A else B) (if c' then A' else B') := by
  by_cases ha : a = []
  · subst ha
    by_cases h : c
    · rw [if_pos h]; exact (h1 h).zero
    · rw [if_neg h]; exact (h2 h).zero
  · by_cases h : c
    · rw [if_pos h, if_pos ((hc ha).1 h)]; exact h1 h
    · rw [if_neg h, if_neg fun h' => h ((hc ha).2 h')]; exact h2 h
theorem LS.ite {a : List Tok} {c c' : Prop} [Decidable c] [Decidable c'] {A A' B B' : PR α} (hc : a ≠ [] → (c ↔ c')) (h1 : c → LS e r a A A') (h2 : ¬ c → LS e r a B B') : LS e r a (if c then A else B) (if c' then A' else B') := by
  by_cases ha : a = []
  · subst ha
    by_cases h : c
    · rw [if_pos h]; exact (h1 h).zero
    · rw [if_neg h]; exact (h2 h).zero
  · by_cases h : c
    · rw [if_pos h, if_pos ((hc ha).1 h)]; exact h1 h
    · rw [if_neg h, if_neg fun h' => h ((hc ha).2 h')]; exact h2 h
theorem LO.then {a : List Tok} {p p' : PR α} {f f' : α → PS → PR β} (h : LO e r a p p') (hf : ∀ v b y y', J e r b y y' → LO e r b (f v y) (f' v y')) : LO e r a (thenQ p f) (thenQ p' f') := fun w z hp => by
  cases hpp : p with
  | error q => rw [hpp] at hp; cases hp
  | ok q =>
    obtain ⟨v, y⟩ := q
    obtain ⟨b, hab, h1, h2⟩ := h v y hpp
    rw [hpp] at hp
    have hp : f v y = .ok (w, z) := hp
    by_cases hb : b = []
    · subst hb
      obtain ⟨c, ⟨d, hd⟩, h3, -⟩ := hf v [] y ⟨r, y.vr, y.nd⟩ ⟨h1, rfl, rfl, rfl⟩ w z hp
      have : c = [] := (List.append_eq_nil_iff.1 hd.symm).2
      subst this
      exact ⟨[], hab, h3, fun h => (h rfl).elim⟩
    · obtain ⟨y', h3, h4⟩ := h2 hb
      rw [h3]
      exact ((hf v b y y' h4).mono hab) w z hp
theorem LS.then {a : List Tok} {p p' : PR α} {f f' : α → PS → PR β} (h : LO e r a p p') (hf : ∀ v b y y', J e r b y y' → LS e r b (f v y) (f' v y')) : LS e r a (thenQ p f) (thenQ p' f') := fun w z hp => by
  cases hpp : p with
  | error q => rw [hpp] at hp; cases hp
  | ok q =>
    obtain ⟨v, y⟩ := q
    obtain ⟨b, hab, h1, h2⟩ := h v y hpp
    rw [hpp] at hp
    have hp : f v y = .ok (w, z) := hp
    by_cases hb : b = []
    · subst hb
      obtain ⟨c, y', ⟨t, d, hd⟩, -⟩ := hf v [] y ⟨r, y.vr, y.nd⟩ ⟨h1, rfl, rfl, rfl⟩ w z hp
      cases hd
    · obtain ⟨y', h3, h4⟩ := h2 hb
      rw [h3]
      exact ((hf v b y y' h4).mono hab) w z hp
/-- a strict one first, then whatever stays where it is -/
theorem LS.pure {a : List Tok} {p p' : PR α} {f f' : α → PS → PR β} (h : LS e r a p p') (hf : ∀ v b y y', J e r b y y' → ∃ w z z', f v y = .ok (w, z) ∧ f' v y' = .ok (w, z') ∧ J e r b z z') : LS e r a (thenQ p f) (thenQ p' f') := fun w z hp => by
  cases hpp : p with
  | error q => rw [hpp] at hp; cases hp
  | ok q =>
    obtain ⟨v, y⟩ := q
    obtain ⟨b, y', hab, h1, h2⟩ := h v y hpp
    rw [hpp] at hp
    have hp : f v y = .ok (w, z) := hp
    obtain ⟨w2, z2, z', h3, h4, h5⟩ := hf v b y y' h2
    rw [hp] at h3
    cases h3
    rw [h1]
    exact ⟨b, z', hab, h4, h5⟩
variable (hE : Ends e r)
theorem J.hd {a : List Tok} {x x' : PS} (h : J e r a x x') (ha : a ≠ []) : hdT x' = hdT x := by
  cases a with
  | nil => exact (ha rfl).elim
  | cons t a => unfold hdT; rw [h.l, h.r]; rfl
theorem J.sg {a : List Tok} {x x' : PS} (h : J e r a x x') (s : List UInt8) (ha : a ≠ []) : isS x s = true ↔ isS x' s = true := by
  unfold isS; rw [h.hd ha]
include hE
theorem J.k5 {x x' : PS} (h : J e r [] x x') : (hdT x).k = 5 := by unfold hdT; rw [h.l]; exact hE.k
theorem J.ne_of_k {a : List Tok} {x x' : PS} (h : J e r a x x') (hk : (hdT x).k ≠ 5) : ∃ t a', a = t :: a' ∧ J e r a' (nxT x) (nxT x') := by
  cases a with
  | nil => exact (hk (h.k5 hE)).elim
  | cons t a =>
    have h1 := h.hd (by simp)
    refine ⟨t, a, rfl, ?_⟩
    unfold nxT
    rw [h1, if_neg hk, if_neg hk]
    exact ⟨by show x.ts.drop 1 = _; rw [h.l]; rfl, by show x'.ts.drop 1 = _; rw [h.r]; rfl, h.vr, h.nd⟩
theorem J.ne_of_isS {a : List Tok} {x x' : PS} (h : J e r a x x') {s : List UInt8} (hs : isS x s = true) : ∃ t a', a = t :: a' ∧ J e r a' (nxT x) (nxT x') := by
  refine h.ne_of_k hE ?_
  unfold isS at hs
  simp only [Bool.and_eq_true, beq_iff_eq] at hs
  rw [hs.1]; decide
theorem J.len {a : List Tok} {x x' : PS} (h : J e r a x x') : x.ts.length ≤ x'.ts.length := by
  rw [h.l, h.r, List.length_append, List.length_append]
  have : 0 < r.length := List.length_pos_iff.2 hE.r
  simp; omega
theorem take_ls {a : List Tok} {x x' : PS} (h : J e r a x x') (s : List UInt8) : LS e r a (takeQ s x) (takeQ s x') := by
  unfold takeQ
  refine .ite (h.sg s) (fun hs => ?_) fun _ => .err
  obtain ⟨t, a', rfl, h'⟩ := h.ne_of_isS hE hs
  exact .okn h' _
theorem name_ls {a : List Tok} {x x' : PS} (h : J e r a x x') : LS e r a (nameQ x) (nameQ x') := by
  unfold nameQ
  refine .ite (fun ha => by rw [h.hd ha]) (fun hk => ?_) fun _ => .err
  obtain ⟨t, a', rfl, h'⟩ := h.ne_of_k hE (by rw [hk]; decide)
  rw [h.hd (by simp)]
  exact .okn h' _
theorem open_j : ∀ (f g : Nat) {a : List Tok} {x x' : PS}, J e r a x x' → x.ts.length ≤ f → x'.ts.length ≤ g → ∃ b, (∃ d, a = d ++ b) ∧ (openQ f x).2.ts = b ++ [e] ∧ (b ≠ [] → (openQ g x').1 = (openQ f x).1 ∧ J e r b (openQ f x).2 (openQ g x').2)
  | 0, g, a, x, x', h, hf, _ => by rw [h.l] at hf; simp at hf
  | f + 1, 0, a, x, x', h, _, hg => by have := h.len hE; rw [h.l] at this; simp at this; omega
  | f + 1, g + 1, a, x, x', h, hf, hg => by
    by_cases hs : isS x [91] = true
    · obtain ⟨t, a', rfl, h'⟩ := h.ne_of_isS hE hs
      have hs' := (h.sg [91] (by simp)).1 hs
      have e1 : openQ (f + 1) x = ((openQ f (nxT x)).1 + 1, (openQ f (nxT x)).2) := by rw [openQ, if_pos hs]
      have e2 : openQ (g + 1) x' = ((openQ g (nxT x')).1 + 1, (openQ g (nxT x')).2) := by rw [openQ, if_pos hs']
      rw [e1, e2]
      obtain ⟨b, ⟨d, hd⟩, h1, h2⟩ := open_j f g h' (by rw [h'.l]; rw [h.l] at hf; simpa using hf) (by rw [h'.r]; rw [h.r] at hg; simpa using hg)
      exact ⟨b, ⟨t :: d, by rw [hd]; rfl⟩, h1, fun hb => ⟨by rw [(h2 hb).1], (h2 hb).2⟩⟩
    · have e1 : openQ (f + 1) x = (0, x) := by rw [openQ, if_neg hs]
      rw [e1]
      refine ⟨a, ⟨[], rfl⟩, h.l, fun ha => ?_⟩
      have e2 : openQ (g + 1) x' = (0, x') := by rw [openQ, if_neg fun hq => hs ((h.sg [91] ha).2 hq)]
      rw [e2]
      exact ⟨rfl, h⟩
theorem close_lo : ∀ (n : Nat) (w : List Int) {a : List Tok} {x x' : PS}, J e r a x x' → LO e r a (closeQ n w x) (closeQ n w x')
  | 0, w, a, x, x', h => by
    have e1 : ∀ x, closeQ 0 w x = if isS x [33] = true then .ok (1 :: w, nxT x) else .ok (w, x) := fun x => by unfold closeQ; split <;> rfl
    rw [e1, e1]
    refine .ite (h.sg _) (fun hs => ?_) fun _ => .okk h _
    obtain ⟨t, a', rfl, h'⟩ := h.ne_of_isS hE hs
    exact (LS.okn h' _).lo
  | n + 1, w, a, x, x', h => by
    have e1 : ∀ x, closeQ (n + 1) w x = if isS x [33] = true then thenQ (takeQ [93] (nxT x)) fun _ y => closeQ n (2 :: 1 :: w) y else thenQ (takeQ [93] x) fun _ y => closeQ n (2 :: w) y := fun x => by
      rw [closeQ]; split <;> rfl
    rw [e1, e1]
    refine .ite (h.sg _) (fun hs => ?_) fun _ => .then (take_ls hE h _).lo fun _ _ _ _ hy => close_lo n _ hy
    obtain ⟨t, a', rfl, h'⟩ := h.ne_of_isS hE hs
    exact (LO.then (take_ls hE h' _).lo fun _ _ _ _ hy => close_lo n _ hy).mono ⟨[t], rfl⟩
theorem inner_lo {a : List Tok} {x x' : PS} (h : J e r a x x') : LO e r a (innerQ x) (innerQ x') := by
  obtain ⟨b, hab, h1, h2⟩ := open_j hE x.ts.length x'.ts.length h (Nat.le_refl _) (Nat.le_refl _)
  unfold innerQ
  by_cases hb : b = []
  · subst hb
    intro v y hp
    have hk : nameQ (openQ x.ts.length x).2 = .error ((hdT (openQ x.ts.length x).2).i, 3) := by
      unfold nameQ
      rw [if_neg]
      unfold hdT
      rw [h1]
      show ¬ e.k = 2
      rw [hE.k]; decide
    rw [hk] at hp
    cases hp
  · obtain ⟨h3, h4⟩ := h2 hb
    rw [h3]
    refine LO.mono (b := b) ?_ hab
    exact .then (name_ls hE h4).lo fun _ _ _ _ hy => .then (close_lo hE _ _ hy) fun _ _ _ _ hz => .okk hz _
theorem typ_lo {a : List Tok} {x x' : PS} (h : J e r a x x') : LO e r a (typQ x) (typQ x') :=
  .then (inner_lo hE h) fun _ _ _ _ hy => .ite (fun _ => Iff.rfl) (fun _ => .err) fun _ => .okk hy _
theorem items_ls {v v' : PS → PR D} (hv : ∀ {a : List Tok} {x x' : PS}, J e r a x x' → LO e r a (v x) (v' x')) : ∀ (f g : Nat) (acc : List D) {a : List Tok} {x x' : PS}, f ≤ g → J e r a x x' → LS e r a (itemsQ v f acc x) (itemsQ v' g acc x')
  | 0, _, _, _, _, _, _, _ => .err
  | f + 1, 0, _, _, _, _, hfg, _ => by omega
  | f + 1, g + 1, acc, a, x, x', hfg, h => by
    unfold itemsQ
    refine .ite (h.sg _) (fun hs => ?_) fun _ => .then (hv h) fun _ _ _ _ hy => items_ls hv f g _ (by omega) hy
    obtain ⟨t, a', rfl, h'⟩ := h.ne_of_isS hE hs
    exact .okn h' _
theorem fields_ls {v v' : PS → PR D} (hv : ∀ {a : List Tok} {x x' : PS}, J e r a x x' → LO e r a (v x) (v' x')) : ∀ (f g : Nat) (ks : List (List UInt8)) (acc : List D) {a : List Tok} {x x' : PS}, f ≤ g → J e r a x x' → LS e r a (fieldsQ v f ks acc x) (fieldsQ v' g ks acc x')
  | 0, _, _, _, _, _, _, _, _ => .err
  | f + 1, 0, _, _, _, _, _, hfg, _ => by omega
  | f + 1, g + 1, ks, acc, a, x, x', hfg, h => by
    unfold fieldsQ
    refine .ite (h.sg _) (fun hs => ?_) fun _ => .then (name_ls hE h).lo fun k _ _ _ hy => .ite (fun _ => Iff.rfl) (fun _ => .err) fun _ => .then (take_ls hE hy _).lo fun _ _ _ _ hz => .then (hv hz) fun _ _ _ _ hu => fields_ls hv f g _ _ (by omega) hu
    obtain ⟨t, a', rfl, h'⟩ := h.ne_of_isS hE hs
    exact .okn h' _
theorem value_lo : ∀ (f lv : Nat) {a : List Tok} {x x' : PS}, J e r a x x' → LO e r a (valueQ f lv x) (valueQ f lv x')
  | 0, _, _, _, _, _ => .err
  | f + 1, lv, a, x, x', h => by
    by_cases ha : a = []
    · intro v y hp
      subst ha
      have hk := h.k5 hE
      unfold valueQ at hp
      rw [if_pos (by unfold noVal; rw [hk]; rfl)] at hp
      cases hp
    · have hh := h.hd ha
      have hn : noVal x' = noVal x := by unfold noVal isS; rw [hh, h.vr]
      unfold valueQ
      rw [hn, hh, h.nd]
      refine .ite (fun _ => Iff.rfl) (fun _ => .err) fun hno => ?_
      obtain ⟨t, a', rfl, h'⟩ := h.ne_of_k hE (fun hk => hno (by unfold noVal; rw [hk]; rfl))
      have hy : J e r a' { nxT x with nd := x.nd + 1 } { nxT x' with nd := x.nd + 1 } := ⟨h'.l, h'.r, h'.vr, rfl⟩
      have hlen : (nxT x).ts.length ≤ (nxT x').ts.length := h'.len hE
      refine .ite (fun _ => Iff.rfl) (fun _ => .err) fun _ => .ite (fun _ => Iff.rfl) (fun _ => .err) fun _ => ?_
      dsimp only
      refine LO.mono (b := a') ?_ ⟨[t], rfl⟩
      refine .ite (fun _ => Iff.rfl) (fun _ => .okk hy _) fun _ => .ite (fun _ => Iff.rfl) (fun _ => .okk hy _) fun _ => .ite (fun _ => Iff.rfl) (fun _ => .okk hy _) fun _ => .ite (fun _ => Iff.rfl) (fun _ => .then (name_ls hE hy).lo fun _ _ _ _ hz => .okk hz _) fun _ => .ite (fun _ => Iff.rfl) (fun _ => ?_) fun _ => ?_
      · exact .then (items_ls hE (fun h => value_lo f (lv + 1) h) _ _ _ (by omega) hy).lo fun _ _ _ _ hz => .okk hz _
      · exact .then (fields_ls hE (fun h => value_lo f (lv + 1) h) _ _ _ _ (by omega) hy).lo fun _ _ _ _ hz => .okk hz _
theorem whole_lo {a : List Tok} {x x' : PS} (h : J e r a x x') : LO e r a (wholeQ x) (wholeQ x') := value_lo hE _ _ ⟨h.l, h.r, h.vr, rfl⟩
theorem argsF_ls : ∀ (f g : Nat) (acc : List D) {a : List Tok} {x x' : PS}, f ≤ g → J e r a x x' → LS e r a (argsF f acc x) (argsF g acc x')
  | 0, _, _, _, _, _, _, _ => .err
  | f + 1, 0, _, _, _, _, hfg, _ => by omega
  | f + 1, g + 1, acc, a, x, x', hfg, h => by
    unfold argsF
    refine .ite (fun ha => by rw [h.sg _ ha]) (fun hs => ?_) fun _ => .ite (fun ha => by rw [h.hd ha]) (fun _ => .err) fun _ => .then (name_ls hE h).lo fun _ _ _ _ hy => .then (take_ls hE hy _).lo fun _ _ _ _ hz => .then (whole_lo hE hz) fun _ _ _ _ hu => argsF_ls f g _ (by omega) hu
    obtain ⟨t, a', rfl, h'⟩ := h.ne_of_isS hE hs.2
    exact .okn h' _
theorem args_lo {a : List Tok} {x x' : PS} (h : J e r a x x') : LO e r a (argsQ x) (argsQ x') := by
  unfold argsQ
  refine .ite (h.sg _) (fun hs => ?_) fun _ => .okk h _
  obtain ⟨t, a', rfl, h'⟩ := h.ne_of_isS hE hs
  exact (argsF_ls hE _ _ _ (h.len hE) h').lo.mono ⟨[t], rfl⟩
theorem dirsF_lo : ∀ (f g : Nat) (acc : List D) {a : List Tok} {x x' : PS}, f ≤ g → J e r a x x' → LO e r a (dirsF f acc x) (dirsF g acc x')
  | 0, _, _, _, _, _, _, _ => .err
  | f + 1, 0, _, _, _, _, hfg, _ => by omega
  | f + 1, g + 1, acc, a, x, x', hfg, h => by
    unfold dirsF
    refine .ite (h.sg _) (fun hs => ?_) fun _ => .okk h _
    obtain ⟨t, a', rfl, h'⟩ := h.ne_of_isS hE hs
    exact LO.mono (b := a') (.ite (fun _ => Iff.rfl) (fun _ => .err) fun _ => .then (name_ls hE h').lo fun _ _ _ _ hy => .then (args_lo hE hy) fun _ _ _ _ hz => dirsF_lo f g _ (by omega) hz) ⟨[t], rfl⟩
theorem dirs_lo {a : List Tok} {x x' : PS} (h : J e r a x x') : LO e r a (dirsQ x) (dirsQ x') := dirsF_lo hE _ _ _ (by have := h.len hE; omega) h
theorem sel_lo {v v' : PS → PR (List D)} (hv : ∀ {a : List Tok} {x x' : PS}, J e r a x x' → LO e r a (v x) (v' x')) {a : List Tok} {x x' : PS} (h : J e r a x x') : LO e r a (selQ v x) (selQ v' x') := by
  unfold selQ
  refine .ite (h.sg _) (fun hs => ?_) fun _ => ?_
  · obtain ⟨t, a', rfl, h'⟩ := h.ne_of_isS hE hs
    refine LO.mono (b := a') ?_ ⟨[t], rfl⟩
    dsimp only
    refine .ite (fun ha => by rw [h'.hd ha]) (fun hk => ?_) fun _ => ?_
    · obtain ⟨t2, a2, rfl, h2⟩ := h'.ne_of_k hE (by rw [hk.1]; decide)
      rw [h'.hd (by simp)]
      exact LO.mono (b := a2) (.then (dirs_lo hE h2) fun _ _ _ _ hz => .okk hz _) ⟨[t2], rfl⟩
    · refine .then (.ite (fun ha => by rw [h'.hd ha]) (fun hk => ?_) fun _ => .okk h' _) fun _ _ _ _ hz => .then (dirs_lo hE hz) fun _ _ _ _ hu => .then (hv hu) fun _ _ _ _ ho => .okk ho _
      obtain ⟨t2, a2, rfl, h2⟩ := h'.ne_of_k hE (by rw [hk]; decide)
      exact (name_ls hE h2).lo.mono ⟨[t2], rfl⟩
  · refine .then (name_ls hE h).lo fun n _ y y' hy => .then (.ite (hy.sg _) (fun hs => ?_) fun _ => .okk hy _) fun _ _ _ _ hz => .then (args_lo hE hz) fun _ _ _ _ hu => .then (dirs_lo hE hu) fun _ _ _ _ hw => .then (.ite (hw.sg _) (fun _ => hv hw) fun _ => .okk hw _) fun _ _ _ _ ho => .okk ho _
    obtain ⟨t2, a2, rfl, h2⟩ := hy.ne_of_isS hE hs
    exact LO.mono (b := a2) (.then (name_ls hE h2).lo fun _ _ _ _ hz => .okk hz _) ⟨[t2], rfl⟩
theorem setF_ls {v v' : PS → PR D} (hv : ∀ {a : List Tok} {x x' : PS}, J e r a x x' → LO e r a (v x) (v' x')) : ∀ (f g : Nat) (acc : List D) {a : List Tok} {x x' : PS}, f ≤ g → J e r a x x' → LS e r a (setF v f acc x) (setF v' g acc x')
  | 0, _, _, _, _, _, _, _ => .err
  | f + 1, 0, _, _, _, _, hfg, _ => by omega
  | f + 1, g + 1, acc, a, x, x', hfg, h => by
    unfold setF
    refine .ite (fun ha => by rw [h.sg _ ha]) (fun hs => ?_) fun _ => .ite (fun ha => by rw [h.hd ha, h.sg _ ha]) (fun _ => .err) fun _ => .then (hv h) fun _ _ _ _ hy => setF_ls hv f g _ (by omega) hy
    obtain ⟨t, a', rfl, h'⟩ := h.ne_of_isS hE hs.2
    exact .okn h' _
theorem sels_ls : ∀ (f lv : Nat) {a : List Tok} {x x' : PS}, J e r a x x' → LS e r a (selsQ f lv x) (selsQ f lv x')
  | 0, _, _, _, _, _ => .err
  | f + 1, lv, a, x, x', h => by
    unfold selsQ
    refine .ite (fun ha => by rw [h.sg _ ha]) (fun _ => .err) fun _ => .then (take_ls hE h _).lo fun _ _ y y' hy => ?_
    exact setF_ls hE (fun h => sel_lo hE (fun h => (sels_ls f (lv + 1) h).lo) h) _ _ _ (by have := hy.len hE; omega) hy
theorem set_ls {a : List Tok} {x x' : PS} (h : J e r a x x') : LS e r a (setQ x) (setQ x') := sels_ls hE _ _ h
theorem varsF_ls : ∀ (f g : Nat) (acc : List D) {a : List Tok} {x x' : PS}, f ≤ g → J e r a x x' → LS e r a (varsF f acc x) (varsF g acc x')
  | 0, _, _, _, _, _, _, _ => .err
  | f + 1, 0, _, _, _, _, hfg, _ => by omega
  | f + 1, g + 1, acc, a, x, x', hfg, h => by
    unfold varsF
    refine .ite (fun ha => by rw [h.sg _ ha]) (fun hs => ?_) fun _ => .ite (fun ha => by rw [h.sg _ ha]) (fun _ => .err) fun _ => .then (take_ls hE h _).lo fun _ _ _ _ hy => .then (name_ls hE hy).lo fun _ _ _ _ hz => .then (take_ls hE hz _).lo fun _ _ _ _ hu => .then (typ_lo hE hu) fun _ _ v v' hv => .then (.ite (hv.sg _) (fun hs => ?_) fun _ => .okk hv _) fun _ _ _ _ ho => varsF_ls f g _ (by omega) ho
    · obtain ⟨t, a', rfl, h'⟩ := h.ne_of_isS hE hs.2
      exact .okn h' _
    · obtain ⟨t, a', rfl, h'⟩ := hv.ne_of_isS hE hs
      exact LO.mono (b := a') (.then (whole_lo hE (x := { nxT v with vr := false }) (x' := { nxT v' with vr := false }) ⟨h'.l, h'.r, rfl, h'.nd⟩) fun _ _ o o' ho => .okk (x := { o with vr := true }) (x' := { o' with vr := true }) ⟨ho.l, ho.r, rfl, ho.nd⟩ _) ⟨[t], rfl⟩
theorem op_ls (k : Int) {a : List Tok} {x x' : PS} (h : J e r a x x') : LS e r a (opQ k x) (opQ k x') := by
  unfold opQ
  refine .then (.ite (fun ha => by rw [h.hd ha]) (fun hk => ?_) fun _ => .okk h _) fun _ _ y y' hy => .then (.ite (hy.sg _) (fun hs => ?_) fun _ => .okk hy _) fun _ _ _ _ hz => .pure (set_ls hE hz) fun _ _ u u' hu => ⟨_, u, u', rfl, rfl, hu⟩
  · obtain ⟨t, a', rfl, h'⟩ := h.ne_of_k hE (by rw [hk]; decide)
    rw [h.hd (by simp)]
    exact (LS.okn h' _).lo
  · obtain ⟨t, a', rfl, h'⟩ := hy.ne_of_isS hE hs
    exact (varsF_ls hE _ _ _ (hy.len hE) h').lo.mono ⟨[t], rfl⟩
theorem frag_ls {a : List Tok} {x x' : PS} (h : J e r a x x') : LS e r a (fragQ x) (fragQ x') := by
  unfold fragQ
  refine .ite (fun ha => by rw [h.hd ha]) (fun _ => .err) fun _ => .then (name_ls hE h).lo fun _ _ y y' hy => .ite (fun ha => by rw [hy.hd ha]) (fun hk => ?_) fun _ => .err
  obtain ⟨t, a', rfl, h'⟩ := hy.ne_of_k hE (by rw [hk.1]; decide)
  refine LS.mono (b := a') ?_ ⟨[t], rfl⟩
  exact .then (name_ls hE h').lo fun _ _ _ _ hz => .pure (set_ls hE hz) fun _ _ u u' hu => ⟨_, u, u', rfl, rfl, hu⟩
end
end Go.Proofs.YthjiclhfhjdjpaaGreatDoor
namespace Go.Proofs.YthjiclhfhjdjpaaGreatDoor
/-- the tokens end with an end -/
def En (x : PS) : Prop := ∃ a e, x.ts = a ++ [e] ∧ e.k = 5 ∧ ∀ t ∈ x.ts, t.s.length ≤ 100000
theorem En.cons {x : PS} (h : En x) : ∃ t r, x.ts = t :: r := by
  obtain ⟨a, e, h1, -⟩ := h
  rw [h1]
  cases a with
  | nil => exact ⟨e, [], rfl⟩
  | cons t a => exact ⟨t, a ++ [e], rfl⟩
theorem En.lo {α : Type} {x y : PS} {v : α} (h : En x) {p : PS → PR α} (hp : ∀ {e : Tok} {a : List Tok} {x x' : PS}, Ends e [e] → J e [e] a x x' → LO e [e] a (p x) (p x')) (hq : p x = .ok (v, y)) : En y ∧ y.ts.length ≤ x.ts.length := by
  obtain ⟨a, e, h1, h2, h4⟩ := h
  obtain ⟨b, ⟨d, hd⟩, h3, -⟩ := hp (e := e) (a := a) (x := x) (x' := x) ⟨h2, by simp⟩ ⟨h1, h1, rfl, rfl⟩ v y hq
  exact ⟨⟨b, e, h3, h2, fun t ht => h4 t (by rw [h1, hd]; rw [h3] at ht; simp at ht ⊢; exact .inr ht)⟩, by rw [h3, h1, hd]; simp⟩
theorem En.ls {α : Type} {x y : PS} {v : α} (h : En x) {p : PS → PR α} (hp : ∀ {e : Tok} {a : List Tok} {x x' : PS}, Ends e [e] → J e [e] a x x' → LS e [e] a (p x) (p x')) (hq : p x = .ok (v, y)) : En y ∧ y.ts.length < x.ts.length := by
  obtain ⟨a, e, h1, h2, h4⟩ := h
  obtain ⟨b, y', ⟨t, d, hd⟩, -, h3⟩ := hp (e := e) (a := a) (x := x) (x' := x) ⟨h2, by simp⟩ ⟨h1, h1, rfl, rfl⟩ v y hq
  exact ⟨⟨b, e, h3.l, h2, fun t ht => h4 t (by rw [h1, hd]; rw [h3.l] at ht; simp at ht ⊢; exact .inr (.inr ht))⟩, by rw [h3.l, h1, hd]; simp; omega⟩
theorem En.name {x y : PS} {v : List UInt8} (h : En x) (hq : nameQ x = .ok (v, y)) : En y ∧ y.ts.length < x.ts.length := h.ls (p := nameQ) (fun hE h => name_ls hE h) hq
theorem En.take {x y : PS} {s : List UInt8} (h : En x) (hq : takeQ s x = .ok ((), y)) : En y ∧ y.ts.length < x.ts.length := h.ls (p := takeQ s) (fun hE h => take_ls hE h s) hq
theorem En.typ {x y : PS} {v : D} (h : En x) (hq : typQ x = .ok (v, y)) : En y ∧ y.ts.length ≤ x.ts.length := h.lo (p := typQ) (fun hE h => typ_lo hE h) hq
theorem En.value {f lv : Nat} {x y : PS} {v : D} (h : En x) (hq : valueQ f lv x = .ok (v, y)) : En y ∧ y.ts.length ≤ x.ts.length := h.lo (p := valueQ f lv) (fun hE h => value_lo hE f lv h) hq
theorem En.whole {x y : PS} {v : D} (h : En x) (hq : wholeQ x = .ok (v, y)) : En y ∧ y.ts.length ≤ x.ts.length := h.lo (p := wholeQ) (fun hE h => whole_lo hE h) hq
theorem En.args {x y : PS} {v : List D} (h : En x) (hq : argsQ x = .ok (v, y)) : En y ∧ y.ts.length ≤ x.ts.length := h.lo (p := argsQ) (fun hE h => args_lo hE h) hq
theorem En.dirs {x y : PS} {v : List D} (h : En x) (hq : dirsQ x = .ok (v, y)) : En y ∧ y.ts.length ≤ x.ts.length := h.lo (p := dirsQ) (fun hE h => dirs_lo hE h) hq
theorem En.sel {f lv : Nat} {x y : PS} {v : D} (h : En x) (hq : selQ (selsQ f lv) x = .ok (v, y)) : En y ∧ y.ts.length ≤ x.ts.length := h.lo (p := selQ (selsQ f lv)) (fun hE h => sel_lo hE (fun h => (sels_ls hE f lv h).lo) h) hq
theorem En.sels {f lv : Nat} {x y : PS} {v : List D} (h : En x) (hq : selsQ f lv x = .ok (v, y)) : En y ∧ y.ts.length < x.ts.length := h.ls (p := selsQ f lv) (fun hE h => sels_ls hE f lv h) hq
theorem En.op {k : Int} {x y : PS} {v : D} (h : En x) (hq : opQ k x = .ok (v, y)) : En y ∧ y.ts.length < x.ts.length := h.ls (p := opQ k) (fun hE h => op_ls hE k h) hq
theorem En.frag {x y : PS} {v : D} (h : En x) (hq : fragQ x = .ok (v, y)) : En y ∧ y.ts.length < x.ts.length := h.ls (p := fragQ) (fun hE h => frag_ls hE h) hq
theorem En.nx {x : PS} (h : En x) (hk : (hdT x).k ≠ 5) : En (nxT x) ∧ (nxT x).ts.length < x.ts.length := by
  obtain ⟨a, e, h1, h2, h4⟩ := h
  have hJ : J e [e] a x x := ⟨h1, h1, rfl, rfl⟩
  obtain ⟨t, a', rfl, h3⟩ := hJ.ne_of_k (e := e) (r := [e]) ⟨h2, by simp⟩ hk
  exact ⟨⟨a', e, h3.l, h2, fun t ht => h4 t (by rw [h1]; rw [h3.l] at ht; simp at ht ⊢; exact .inr ht)⟩, by rw [h3.l, h1]; simp⟩
theorem En.hd {x : PS} (h : En x) : (hdT x).s.length ≤ 100000 := by
  obtain ⟨t, r, ht⟩ := h.cons
  obtain ⟨a, e, -, -, h4⟩ := h
  have : hdT x = t := by unfold hdT; rw [ht]; rfl
  rw [this]
  exact h4 t (by rw [ht]; simp)
theorem En.sg {x : PS} {s : List UInt8} (h : En x) (hk : isS x s = true) : En (nxT x) ∧ (nxT x).ts.length < x.ts.length := by
  refine h.nx ?_
  unfold isS at hk
  simp only [Bool.and_eq_true, beq_iff_eq] at hk
  rw [hk.1]; decide
theorem En.nx0 {x : PS} (h : En x) : En (nxT x) := by
  by_cases hk : (hdT x).k = 5
  · have : nxT x = x := by unfold nxT; rw [if_pos hk]
    rw [this]; exact h
  · exact (h.nx hk).1
theorem En.valueL {f lv : Nat} {x y : PS} {v : D} (h : En x) (hq : valueQ f lv x = .ok (v, y)) : En y ∧ y.ts.length < x.ts.length := by
  refine ⟨(h.value hq).1, ?_⟩
  cases f with
  | zero => cases hq
  | succ f =>
    unfold valueQ at hq
    split at hq
    · cases hq
    · rename_i hno
      have hk : (hdT x).k ≠ 5 := fun hk => hno (by unfold noVal; rw [hk]; rfl)
      have h1 := h.nx hk
      have hy : En ({ nxT x with nd := x.nd + 1 } : PS) := h1.1
      split at hq
      · cases hq
      split at hq
      · cases hq
      dsimp only at hq
      split at hq
      · cases hq; exact h1.2
      split at hq
      · cases hq; exact h1.2
      split at hq
      · cases hq; exact h1.2
      split at hq
      · have := (hy.lo (p := fun x => thenQ (nameQ x) fun n z => .ok (valD 7 0 n [] [], z)) (fun hE h => .then (name_ls hE h).lo fun _ _ _ _ hz => .okk hz _) hq).2
        exact Nat.lt_of_le_of_lt this h1.2
      split at hq
      · have := (hy.lo (p := fun x => thenQ (itemsQ (valueQ f (lv + 1)) (x.ts.length + 1) [] x) fun l z => .ok (valD 5 0 [] l [], z)) (fun hE h => .then (items_ls hE (fun h => value_lo hE f (lv + 1) h) _ _ _ (by have := h.len hE; omega) h).lo fun _ _ _ _ hz => .okk hz _) hq).2
        exact Nat.lt_of_le_of_lt this h1.2
      · have := (hy.lo (p := fun x => thenQ (fieldsQ (valueQ f (lv + 1)) (x.ts.length + 1) [] [] x) fun l z => .ok (valD 6 0 [] l.2 l.1, z)) (fun hE h => .then (fields_ls hE (fun h => value_lo hE f (lv + 1) h) _ _ _ _ (by have := h.len hE; omega) h).lo fun _ _ _ _ hz => .okk hz _) hq).2
        exact Nat.lt_of_le_of_lt this h1.2
theorem hdT_cons {x : PS} {t : Tok} {r : List Tok} (h : x.ts = t :: r) : hdT x = t := by unfold hdT; rw [h]; rfl
end Go.Proofs.YthjiclhfhjdjpaaGreatDoor
