/- Parts of a proof, merged by a program (shake.py). -/
import Derived.Test.YthjiclhfhjdjpaaGreatDoorQ35
set_option linter.unusedVariables false
set_option linter.unusedSimpArgs false
namespace Go.Proofs.YthjiclhfhjdjpaaGreatDoor
open Go.RowKit
set_option linter.unusedSectionVars false
attribute [local irreducible] wpList Calls Code.wp AW AWo OpOk seqK blockK scopeK loopK endK AC absLex Yld Sub
attribute [local irreducible] ACB absLexG YldG
set_option maxHeartbeats 8000000 in
set_option maxRecDepth 100000 in
theorem selsP_ac (K f : Nat) (l : List D) (h : SelsOk K (f + 1) l) (hw : ∀ i, wideD (gD l i)) (hb : bulkL l ≤ 1048576) (hf : f ≤ 299) :
    AC EN Tryz.prog 26 [.sl 76 l] (.c (.string (bs (selsT K (f + 1) 1 l)))) := by
  have h1 := selsT_len K (f + 1) 1 l hw
  have h2 : (4 * (1 + (f + 1)) + 70) * bulkL l ≤ 1274 * 1048576 := Nat.mul_le_mul (by omega) hb
  have l1 : ACB EN Tryz.prog 55 [.bx (pn 0) 0, .sl 76 l, .c (.int .i64 1)] [.bld 110 5 []] (.tup []) [.bld 110 5 ([] ++ selsT K (f + 1) 1 l)] :=
    sels_acb K f 1 l [] h hw hb (by omega) (by simp only [List.length_nil]; omega)
  rw [List.nil_append] at l1
  refine ac_enter 8 Tryz.func26 rfl rfl rfl rfl ?_
  intro s w he
  repeat' (first
 | (apply s_bcall0 rfl
    · conv => lhs; whnf
    · conv => lhs; whnf
    · rfl
    · rfl
    · first | exact l1
    · rfl
    · exact fun _ => rfl
    · exact fun _ => rfl)
 | (apply s_bs rfl
    · conv => lhs; whnf
    · conv => lhs; whnf
    · rfl
    · conv => lhs; whnf; arg 1; whnf
    · exact ⟨rfl, rfl⟩
    · rfl)
 | refine aw_region ?_
 | refine awo_nil ?_
 | refine k_seq ?_
 | (apply aw_1
    conv => whnf
    refine ⟨?_, trivial⟩)
 | (apply s_1
    conv => whnf; arg 1; arg 4; arg 3; whnf
    refine ⟨?_, ?_⟩)
 | refine k_end_ret ?_
 | (refine ⟨_, by conv => lhs; whnf; arg 2; whnf, ?_⟩; conv => rhs; whnf)
 | exact trivial)
  all_goals (unfold maxLen; omega)
noncomputable def HpO (K f : Nat) (a b : List D) (i : Nat) : Vst 48 :=
  stS 48 [(1, .bx 1 0), (3, .own 3 9 (strsJ (fun i => opB K f (gD a i)) i)), (9, .sl 57 a), (10, .c (.int .i64 a.length)), (11, .c (.int .i64 i))] [(1, .box 41 [.sl 57 a, .sl 116 b]), (3, .tok 9 (strsJ (fun i => opB K f (gD a i)) i).length)]
noncomputable def HpF (K f : Nat) (a b : List D) (i : Nat) : Vst 48 :=
  stS 48 [(1, .bx 1 0), (3, .own 3 9 (strsJ (fun i => opB K f (gD a i)) a.length ++ strsJ (fun i => fragB K f (gD b i)) i)), (25, .sl 116 b), (26, .c (.int .i64 b.length)), (27, .c (.int .i64 i))] [(1, .box 41 [.sl 57 a, .sl 116 b]), (3, .tok 9 (strsJ (fun i => opB K f (gD a i)) a.length ++ strsJ (fun i => fragB K f (gD b i)) i).length)]
set_option maxHeartbeats 8000000 in
set_option maxRecDepth 100000 in
theorem DocOk.op {K f : Nat} {a b : List D} (h : DocOk K f (.obj [.list a, .list b])) {i : Nat} (hi : i < a.length) : VarsOk K ((gD a i).f 2).l ∧ SelsOk K (f + 1) ((gD a i).f 3).l ∧ wideD (gD a i) ∧ bulkD (gD a i) ≤ 1048576 :=
  ⟨h.vars i hi, h.sels i hi, (h.wide.f 0).l i, by
    have h1 := bulkL_get hi
    have h2 := h.bulk
    have : bulkD (.obj [.list a, .list b]) = bulkL a + bulkL b + 3 := by simp [bulkD, bulkL]; omega
    omega⟩
set_option maxHeartbeats 8000000 in
set_option maxRecDepth 100000 in
theorem DocOk.frg {K f : Nat} {a b : List D} (h : DocOk K f (.obj [.list a, .list b])) {i : Nat} (hi : i < b.length) : SelsOk K (f + 1) ((gD b i).f 2).l ∧ wideD (gD b i) ∧ bulkD (gD b i) ≤ 1048576 :=
  ⟨h.frag i hi, (h.wide.f 1).l i, by
    have h1 := bulkL_get hi
    have h2 := h.bulk
    have : bulkD (.obj [.list a, .list b]) = bulkL a + bulkL b + 3 := by simp [bulkD, bulkL]; omega
    omega⟩
set_option maxHeartbeats 8000000 in
set_option maxRecDepth 100000 in
theorem fragH_bs (fr : D) : ((⟨#[102, 114, 97, 103, 109, 101, 110, 116, 32]⟩ : ByteArray) ++ (fr.f 0).s ++ ⟨#[32, 111, 110, 32]⟩ ++ (fr.f 1).s ++ ⟨#[32, 123]⟩) = bs (fragH fr) := by
  unfold fragH
  rw [← bs_append, ← bs_append, ← bs_append, ← bs_append, bs_tx, bs_tx]
  rfl
set_option maxHeartbeats 8000000 in
set_option maxRecDepth 100000 in
theorem printP_ac (K f : Nat) (a b : List D) (h : DocOk K f (.obj [.list a, .list b])) : AC EN Tryz.prog 28 [.agg [.sl 57 a, .sl 116 b]] (.c (.string (bs (docT K (f + 1) (.obj [.list a, .list b]))))) := by
  have hbk : bulkD (.obj [.list a, .list b]) = bulkL a + bulkL b + 3 := by simp [bulkD, bulkL]; omega
  have hb0 := h.bulk
  have hdp := h.deep
  have hla := len_bulk a
  have hlb := len_bulk b
  have hdl := docT_len K f _ h.wide hdp
  have hj : AC EN Tryz.prog 59 [.sl 9 (strsJ (fun i => opB K (f + 1) (gD a i)) a.length ++ strsJ (fun i => fragB K (f + 1) (gD b i)) b.length), .c (.string ⟨#[10]⟩)] (.c (.string (bs (docT K (f + 1) (.obj [.list a, .list b]))))) := by
    have e : txs (strsJ (fun i => opB K (f + 1) (gD a i)) a.length ++ strsJ (fun i => fragB K (f + 1) (gD b i)) b.length) = a.map (opB K (f + 1)) ++ b.map (fragB K (f + 1)) := by
      have h1 := map_strsR (opB K (f + 1)) a
      have h2 := map_strsR (fragB K (f + 1)) b
      unfold txs at h1 h2 ⊢
      rw [List.map_append, h1, h2]
    have := join_ac (strsJ (fun i => opB K (f + 1) (gD a i)) a.length ++ strsJ (fun i => fragB K (f + 1) (gD b i)) b.length) [10] (by rw [List.length_append, strsR_len, strsR_len]; omega) (by rw [e]; exact Nat.le_trans hdl (by omega))
    rw [e] at this
    exact this
  refine ac_enter 48 Tryz.func28 rfl rfl rfl rfl ?_
  intro s w he
  repeat' (first
 | refine aw_region ?_
 | refine awo_nil ?_
 | refine k_seq ?_
 | (apply aw_1
    conv => whnf
    refine ⟨?_, trivial⟩)
 | (apply s_1
    conv => whnf; arg 1; arg 4; arg 3; whnf
    refine ⟨?_, ?_⟩)
 | (apply s_box rfl rfl rfl rfl
    · conv => lhs; whnf; arg 1; whnf
    · rfl)
 | exact trivial)
  refine aw_sub (Sub.own (t := 3) (e := 9) rfl rfl) ?_
  refine aw_loop (fun j st => ∃ i, i + j = a.length ∧ Sub (cx EN Tryz.prog s w he) st (HpO K (f + 1) a b i)) a.length ⟨0, by omega, Sub.live ⟨rfl, rfl, rfl, rfl, rfl, trivial⟩ ⟨rfl, rfl, trivial⟩⟩ ?_
  rintro j st ⟨i, hij, hs2⟩
  refine aw_sub hs2 ?_
  clear hs2
  have htk := strsR_len (fun i => opB K (f + 1) (gD a i)) i
  by_cases hi : i < a.length
  · have f0 : decide ((i : Int) < (a.length : Nat)) = true := decide_eq_true (by omega)
    obtain ⟨o1, o2, o3, o4⟩ := h.op hi
    have hn := wD_str ((gD a i).f 1)
    have hnn := wD_f (gD a i) 1
    have hn3 := wD_f (gD a i) 3
    have hl3 := wD_list ((gD a i).f 3)
    have hbd := bulkD_wD (gD a i)
    have hhd := opHead_ac K (gD a i) o1 (by omega)
    have hol := opT_len K (gD a i) o3
    have hv2 := wD_f (gD a i) 2
    have hl2 := wD_list ((gD a i).f 2)
    have hbl : AC EN Tryz.prog 57 [.c (.string (bs (opT K (gD a i)))), .sl 76 ((gD a i).f 3).l] (.c (.string (bs (opB K (f + 1) (gD a i))))) :=
      block_ac K f (opT K (gD a i)) ((gD a i).f 3).l o2 (fun q => (o3.f 3).l q) (by omega) hdp (by omega)
    repeat' (first
 | (apply aw_cond_kt
    · conv => lhs; whnf
    · assumption)
 | refine aw_region ?_
 | refine awo_nil ?_
 | refine k_seq ?_
 | refine k_block ?_
 | (apply aw_1
    conv => whnf
    refine ⟨?_, trivial⟩)
 | (apply s_1
    conv => whnf; arg 1; arg 4; arg 3; whnf
    refine ⟨?_, ?_⟩)
 | (apply s_store rfl rfl rfl
    · conv => lhs; whnf
    · conv => lhs; whnf; arg 1; whnf
    · conv => lhs; whnf; arg 1; whnf
    · exact ⟨by kernel_rfl, by kernel_rfl⟩
    · rfl)
 | (apply aw_draw (by kernel_rfl) (by kernel_rfl))
 | apply y_nil
 | (apply y_val rfl
    · conv => lhs; whnf
    · conv => lhs; whnf; arg 2; whnf)
 | (apply y_call rfl
    · conv => lhs; whnf
    · conv => lhs; whnf
    · first | exact hhd | exact hbl)
 | (apply y_app rfl rfl
    · conv => lhs; whnf
    · first | exact elemStr | (conv => lhs; whnf; arg 1; whnf)
    · first | exact fun _ => rfl | (intro _; kernel_rfl)
    · conv => lhs; whnf
    · rfl
    · rfl
    · conv => lhs; whnf; arg 1; whnf
    · conv => lhs; whnf)
 | (apply y_lit1 rfl rfl
    · conv => lhs; whnf
    · first | exact elemStr | (conv => lhs; whnf; arg 1; whnf)
    · conv => lhs; whnf; arg 1; whnf
    · rfl
    · rfl)
 | exact apartB_none
 | (show apartB _ _ = true; rfl)
 | exact trivial)
    all_goals first
      | exact i64_ok (by omega)
      | exact at_in hi
      | exact app_ok (by omega) (by omega)
      | skip
    refine k_loop_next (j' := j - 1) (by omega) ⟨i + 1, by omega, Sub.live ⟨rfl, ?_, rfl, rfl, rfl, trivial⟩ ⟨rfl, ?_, trivial⟩⟩
    · show V.own 3 _ (strsJ _ i ++ [.str (bs _)]) = _
      rw [strsR_succ]
    · show some (Res.tok _ ((strsJ _ i).length + 1)) = _
      rw [strsR_succ, List.length_append]; rfl
  · have f0 : decide ((i : Int) < (a.length : Nat)) = false := decide_eq_false (by omega)
    obtain rfl : i = a.length := by omega
    repeat' (first
 | (apply aw_cond_kf
    · conv => lhs; whnf
    · assumption)
 | refine aw_region ?_
 | refine awo_nil ?_
 | refine k_seq ?_
 | (apply aw_1
    conv => whnf
    refine ⟨?_, trivial⟩)
 | (apply s_1
    conv => whnf; arg 1; arg 4; arg 3; whnf
    refine ⟨?_, ?_⟩)
 | refine k_seq_exit ?_
 | refine k_block_hit rfl ?_
 | refine k_loop_exit ?_
 | exact trivial)
    refine aw_loop (fun j st => ∃ i, i + j = b.length ∧ Sub (cx EN Tryz.prog s w he) st (HpF K (f + 1) a b i)) b.length ⟨0, by omega, Sub.live ⟨rfl, ?_, rfl, rfl, rfl, trivial⟩ ⟨rfl, ?_, trivial⟩⟩ ?_
    · show V.own 3 _ (strsJ _ a.length) = V.own 3 _ (strsJ _ a.length ++ [])
      rw [List.append_nil]
    · show some (Res.tok _ (strsJ _ a.length).length) = some (Res.tok _ (strsJ _ a.length ++ []).length)
      rw [List.append_nil]
    rintro j2 st2 ⟨q, hqj, hs3⟩
    refine aw_sub hs3 ?_
    clear hs3
    have htk2 := strsR_len (fun i => fragB K (f + 1) (gD b i)) q
    have hap : (strsJ (fun i => opB K (f + 1) (gD a i)) a.length ++ strsJ (fun i => fragB K (f + 1) (gD b i)) q).length = a.length + q := by rw [List.length_append, htk, htk2]
    by_cases hq : q < b.length
    · have f2 : decide ((q : Int) < (b.length : Nat)) = true := decide_eq_true (by omega)
      obtain ⟨o2, o3, o4⟩ := h.frg hq
      have hn0 := wD_str ((gD b q).f 0)
      have hn1 := wD_str ((gD b q).f 1)
      have hf0 := wD_f (gD b q) 0
      have hf1 := wD_f (gD b q) 1
      have hf2 := wD_f (gD b q) 2
      have hl2 := wD_list ((gD b q).f 2)
      have hbd := bulkD_wD (gD b q)
      have t0 := tx_len ((gD b q).f 0).s
      have t1 := tx_len ((gD b q).f 1).s
      have hlen : (fragH (gD b q)).length = 15 + ((gD b q).f 0).s.size + ((gD b q).f 1).s.size := by simp only [fragH, List.length_append, List.length_cons, List.length_nil]; omega
      have hbl : AC EN Tryz.prog 57 [.c (.string ((⟨#[102, 114, 97, 103, 109, 101, 110, 116, 32]⟩ : ByteArray) ++ ((gD b q).f 0).s ++ ⟨#[32, 111, 110, 32]⟩ ++ ((gD b q).f 1).s ++ ⟨#[32, 123]⟩)), .sl 76 ((gD b q).f 2).l] (.c (.string (bs (fragB K (f + 1) (gD b q))))) := by
        rw [fragH_bs]
        exact block_ac K f (fragH (gD b q)) ((gD b q).f 2).l o2 (fun z => (o3.f 2).l z) (by omega) hdp (by omega)
      repeat' (first
 | (apply aw_cond_kt
    · conv => lhs; whnf
    · assumption)
 | refine aw_region ?_
 | refine awo_nil ?_
 | refine k_seq ?_
 | refine k_block ?_
 | (apply aw_1
    conv => whnf
    refine ⟨?_, trivial⟩)
 | (apply s_1
    conv => whnf; arg 1; arg 4; arg 3; whnf
    refine ⟨?_, ?_⟩)
 | (apply s_call rfl
    · conv => lhs; whnf
    · conv => lhs; whnf
    · first | exact hbl)
 | (apply s_store rfl rfl rfl
    · conv => lhs; whnf
    · conv => lhs; whnf; arg 1; whnf
    · conv => lhs; whnf; arg 1; whnf
    · exact ⟨by kernel_rfl, by kernel_rfl⟩
    · rfl)
 | (apply s_app rfl rfl
    · conv => lhs; whnf
    · first | exact elemStr | (conv => lhs; whnf; arg 1; whnf)
    · first | exact fun _ => rfl | (intro _; kernel_rfl)
    · conv => lhs; whnf
    · conv => lhs; whnf; arg 1; whnf
    · conv => lhs; whnf)
 | (apply s_lit1 rfl rfl
    · conv => lhs; whnf
    · first | exact elemStr | (conv => lhs; whnf; arg 1; whnf)
    · conv => lhs; whnf; arg 1; whnf
    · rfl
    · rfl)
 | exact trivial)
      all_goals first
        | exact i64_ok (by omega)
        | exact at_in hq
        | exact app_ok (by omega) (by omega)
        | ((simp only [ByteArray.size_append, bs_size, lit_size, List.size_toArray, List.length_append, List.length_cons, List.length_nil, maxLen, Nat.reduceAdd, Int.toNat_natCast]; omega); done)
        | skip
      refine k_loop_next (j' := j2 - 1) (by omega) ⟨q + 1, by omega, Sub.live ⟨rfl, ?_, rfl, rfl, rfl, trivial⟩ ⟨rfl, ?_, trivial⟩⟩
      · show V.own 3 _ (strsJ _ a.length ++ strsJ _ q ++ [.str (bs _)]) = V.own 3 _ (strsJ _ a.length ++ strsJ _ (q + 1))
        rw [strsR_succ, List.append_assoc]
      · show some (Res.tok _ ((strsJ _ a.length ++ strsJ _ q).length + 1)) = some (Res.tok _ (strsJ _ a.length ++ strsJ _ (q + 1)).length)
        rw [strsR_succ, ← List.append_assoc, List.length_append (bs := [_])]; rfl
    · have f2 : decide ((q : Int) < (b.length : Nat)) = false := decide_eq_false (by omega)
      obtain rfl : q = b.length := by omega
      repeat' (first
 | (apply aw_cond_kf
    · conv => lhs; whnf
    · assumption)
 | refine aw_region ?_
 | refine awo_nil ?_
 | refine k_seq ?_
 | (apply aw_1
    conv => whnf
    refine ⟨?_, trivial⟩)
 | (apply s_1
    conv => whnf; arg 1; arg 4; arg 3; whnf
    refine ⟨?_, ?_⟩)
 | (apply s_call rfl
    · conv => lhs; whnf
    · conv => lhs; whnf
    · first | exact hj)
 | refine k_seq_exit ?_
 | refine k_block_hit rfl ?_
 | refine k_loop_exit ?_
 | refine k_end_ret ?_
 | (refine ⟨_, by conv => lhs; whnf; arg 2; whnf, ?_⟩; conv => rhs; whnf)
 | exact trivial)
end Go.Proofs.YthjiclhfhjdjpaaGreatDoor
namespace Go.Proofs.YthjiclhfhjdjpaaGreatDoor
theorem good_of : ∀ (K m : Nat) (d : D), everyL m d = true → goodV K d
  | 0, _, _, _ => trivial
  | K + 1, 0, _, h => by cases h
  | K + 1, m + 1, d, h => by
    obtain ⟨hn, hi⟩ := every_node h
    exact ⟨hn.bool, fun i hl => good_of K m _ (hi i hl)⟩
theorem lit_good {K : Nat} {d : D} (h : litR d = true) : goodV K d := by
  unfold litR at h
  rw [Bool.and_eq_true] at h
  exact good_of K _ d h.2
theorem in_bulk {l : List D} {i : Nat} (h : i < l.length) (j : Nat) : bulkD ((gD l i).f j) ≤ bulkL l ∧ bulkL ((gD l i).f j).l ≤ bulkL l := by
  have h1 := bulkL_get h
  have h2 := wD_f (gD l i) j
  have h3 := bulkD_wD (gD l i)
  have h4 := bulkD_wD ((gD l i).f j)
  have h5 := wD_list ((gD l i).f j)
  omega
section
variable {K : Nat} (hK : 1048576 ≤ K)
include hK
theorem argsOk_of {l : List D} (h : argsR l = true) (hw : ∀ i, wideD (gD l i)) (hb : bulkL l ≤ 1048576) : ArgsOk K l :=
  ⟨hw, hb, fun i hi => dp_bulk K _ (by have := (in_bulk hi 1).1; omega), fun i hi => lit_good ((argsR_all h).2 i hi).2⟩
theorem dirsOk_of {l : List D} (h : dirsR l = true) (hw : ∀ i, wideD (gD l i)) (hb : bulkL l ≤ 1048576) : DirsOk K l :=
  ⟨hw, hb, fun i hi => argsOk_of hK ((dirsR_all h).2 i hi).2 (fun q => ((hw i).f 1).l q) (by have := (in_bulk hi 1).2; omega)⟩
theorem selsOk_of : ∀ (f k lv : Nat) (l : List D), (∀ i, i < l.length → selR k lv (gD l i) = true) → (l.length = 0 ∨ lv ≤ 24) → 25 ≤ f + lv → (∀ i, wideD (gD l i)) → bulkL l ≤ 1048576 → SelsOk K f l
  | 0, _, lv, l, _, h1, h2, _, _ => by
    show l = []
    rcases h1 with h1 | h1
    · exact List.length_eq_zero_iff.1 h1
    · omega
  | f + 1, k, lv, l, h, h1, h2, hw, hb => fun i hi => by
    have h3 := h i hi
    cases k with
    | zero => cases h3
    | succ k =>
      have hs := xsel h3
      refine ⟨argsOk_of hK hs.args (fun q => ((hw i).f 4).l q) (by have := (in_bulk hi 4).2; omega), dirsOk_of hK hs.dirs (fun q => ((hw i).f 5).l q) (by have := (in_bulk hi 5).2; omega), ?_, ?_⟩
      · rcases hs.kind with e | e | e
        · exact .inl e
        · exact .inr (.inl ⟨e, List.length_eq_zero_iff.1 (hs.spread e).2.2.2.1⟩)
        · refine .inr (.inr ⟨e, fun q => ?_⟩)
          have := (hs.inline e).2.2.2.2.1
          rw [q] at this
          simp at this
      · have hsub : (∀ j, j < ((gD l i).f 6).l.length → selR k (lv + 1) (gD ((gD l i).f 6).l j) = true) ∧ (((gD l i).f 6).l.length = 0 ∨ lv + 1 ≤ 24) := by
          rcases hs.kind with e | e | e
          · have := (hs.field e).2.2.2
            exact ⟨this.2.2.2, this.2.2.1⟩
          · have := (hs.spread e).2.2.2.1
            exact ⟨fun j hj => by omega, .inl this⟩
          · have := (hs.inline e).2.2.2.2
            exact ⟨this.2.2.2, this.2.2.1⟩
        exact selsOk_of f k (lv + 1) _ hsub.1 hsub.2 (by omega) (fun q => ((hw i).f 6).l q) (by have := (in_bulk hi 6).2; omega)
theorem varsOk_of {l : List D} (h : ∀ i, i < l.length → VarF (gD l i)) (hw : ∀ i, wideD (gD l i)) (hb : bulkL l ≤ 1048576) : VarsOk K l :=
  ⟨hw, hb, fun i hi => dp_bulk K _ (by have := (in_bulk hi 3).1; omega), fun i hi => by
    cases e : ((gD l i).f 2).b with
    | true => exact lit_good ((h i hi).has e).1
    | false =>
      obtain ⟨h1, -, -, h4, -⟩ := (h i hi).hasnt e
      cases K with
      | zero => trivial
      | succ K => exact ⟨fun q => by omega, fun j hj => by omega⟩⟩
end
/-- what the printing of a document asks, a right one has -/
theorem docOk_of {q : D} (h : queR q = true) (hw : wideD q) (hb : bulkD q ≤ 1048576) : DocOk 1048576 24 q := by
  have hq := xque h
  have h0 := wD_f q 0
  have h1 := wD_f q 1
  have h2 := wD_list (q.f 0)
  have h3 := wD_list (q.f 1)
  have h4 := bulkD_wD q
  refine ⟨hw, hb, by omega, fun i hi => ?_, fun i hi => ?_, fun i hi => ?_⟩
  · exact varsOk_of (Nat.le_refl _) (hq.ops i hi).vars (fun z => (((hw.f 0).l i).f 2).l z) (by have := (in_bulk hi 2).2; omega)
  · exact selsOk_of (Nat.le_refl _) 25 _ 1 _ (hq.ops i hi).sels.2.2.2 (.inr (by omega)) (by omega) (fun z => (((hw.f 0).l i).f 3).l z) (by have := (in_bulk hi 3).2; omega)
  · exact selsOk_of (Nat.le_refl _) 25 _ 1 _ (hq.frags i hi).sels.2.2.2 (.inr (by omega)) (by omega) (fun z => (((hw.f 1).l i).f 2).l z) (by have := (in_bulk hi 2).2; omega)
end Go.Proofs.YthjiclhfhjdjpaaGreatDoor
namespace Go.Proofs.YthjiclhfhjdjpaaGreatDoor
open Go.RowKit
set_option linter.unusedSectionVars false
attribute [local irreducible] wpList Calls Code.wp AW AWo OpOk seqK blockK scopeK loopK endK AC absLex Yld Sub
attribute [local irreducible] ACB ACX absLexG YldG absLexH
set_option maxHeartbeats 8000000 in
set_option maxRecDepth 100000 in
theorem q5_ok : DocOk 1048576 24 (.obj [.list [op5], .list []]) := docOk_of (by kernel_rfl) (by simp [wideD, wideL, op5, opD, se5, selD, ag5, argD, av5, valD, strD, i64D, nmT]) (by decide +kernel)
set_option maxHeartbeats 8000000 in
set_option maxRecDepth 100000 in
theorem q0_ok : DocOk 1048576 24 (.obj [.list [op0], .list []]) := docOk_of (by kernel_rfl) (by simp [wideD, wideL, op0, opD, se0, selD, ag0, argD, av0, valD, strD, i64D, nmT]) (by decide +kernel)
set_option maxHeartbeats 8000000 in
set_option maxRecDepth 100000 in
theorem t5_eq : docT 1048576 25 (.obj [.list [op5], .list []]) = [115, 117, 98, 115, 99, 114, 105, 112, 116, 105, 111, 110, 32, 123, 10, 32, 32, 97, 58, 32, 110, 97, 109, 101, 40, 110, 58, 32, 53, 41, 10, 125, 10] := by kernel_rfl
set_option maxHeartbeats 8000000 in
set_option maxRecDepth 100000 in
theorem t0_eq : docT 1048576 25 (.obj [.list [op0], .list []]) = [115, 117, 98, 115, 99, 114, 105, 112, 116, 105, 111, 110, 32, 123, 10, 32, 32, 110, 97, 109, 101, 40, 110, 58, 32, 48, 41, 10, 125, 10] := by kernel_rfl
set_option maxHeartbeats 8000000 in
set_option maxRecDepth 100000 in
theorem s5_eq : selsT 1048576 25 1 [se5] = [32, 32, 97, 58, 32, 110, 97, 109, 101, 40, 110, 58, 32, 53, 41, 10] := by kernel_rfl
set_option maxHeartbeats 8000000 in
set_option maxRecDepth 100000 in
theorem qe_same : queEq 100 [op5] [] [op5] [] = true := by kernel_rfl
set_option maxHeartbeats 8000000 in
set_option maxRecDepth 100000 in
theorem qe_diff : queEq 100 [op5] [] [op0] [] = false := by kernel_rfl
set_option maxHeartbeats 8000000 in
set_option maxRecDepth 100000 in
theorem nself (b : ByteArray) : (!(b.toList == b.toList)) = false := by simp
set_option maxHeartbeats 8000000 in
set_option maxRecDepth 100000 in
theorem self9 (b : ByteArray) : (b.toList == b.toList) = true := by simp
set_option maxHeartbeats 8000000 in
set_option maxRecDepth 100000 in
theorem gff {b : Bool} (h : b = false) : (b == false) = true := by rw [h]; rfl
set_option maxHeartbeats 8000000 in
set_option maxRecDepth 100000 in
theorem gtt {b : Bool} (h : b = true) : (b == true) = true := by rw [h]; rfl
set_option maxHeartbeats 8000000 in
set_option maxRecDepth 100000 in
theorem example9_ac : AC EN Tryz.prog 25 [] (.c (.bool true)) := by
  have h1 := sign_ac
  have h2 : AC EN Tryz.prog 28 [.agg [.sl 57 [op5], .sl 116 []]] (.c (.string (⟨#[115, 117, 98, 115, 99, 114, 105, 112, 116, 105, 111, 110, 32, 123, 10, 32, 32, 97, 58, 32, 110, 97, 109, 101, 40, 110, 58, 32, 53, 41, 10, 125, 10]⟩ : ByteArray))) := by
    have := printP_ac _ _ _ _ q5_ok
    rw [t5_eq] at this
    exact this
  have h3 : AC EN Tryz.prog 28 [.agg [.sl 57 [op0], .sl 116 []]] (.c (.string (⟨#[115, 117, 98, 115, 99, 114, 105, 112, 116, 105, 111, 110, 32, 123, 10, 32, 32, 110, 97, 109, 101, 40, 110, 58, 32, 48, 41, 10, 125, 10]⟩ : ByteArray))) := by
    have := printP_ac _ _ _ _ q0_ok
    rw [t0_eq] at this
    exact this
  have h4 : AC EN Tryz.prog 26 [.sl 76 [se5]] (.c (.string (⟨#[32, 32, 97, 58, 32, 110, 97, 109, 101, 40, 110, 58, 32, 53, 41, 10]⟩ : ByteArray))) := by
    have := selsP_ac 1048576 24 [se5] (q5_ok.sels 0 (by decide)) (fun i => ((q5_ok.wide.f 0).l 0 |>.f 3).l i) (by decide +kernel) (by decide)
    rw [s5_eq] at this
    exact this
  have h5 := sameQ_ac 100 [op5] [] [op5] [] (by decide +kernel) (by decide) (by decide +kernel) (by decide) (by decide +kernel) (by decide)
  have h6 := sameQ_ac 100 [op5] [] [op0] [] (by decide +kernel) (by decide) (by decide +kernel) (by decide) (by decide +kernel) (by decide)
  rw [qe_same] at h5
  rw [qe_diff] at h6
  have f1 := nself (⟨#[115, 117, 98, 115, 99, 114, 105, 112, 116, 105, 111, 110, 32, 123, 10, 32, 32, 97, 58, 32, 110, 97, 109, 101, 40, 110, 58, 32, 53, 41, 10, 125, 10]⟩ : ByteArray)
  have g1 := gff f1
  have f2 := nself (⟨#[32, 32, 97, 58, 32, 110, 97, 109, 101, 40, 110, 58, 32, 53, 41, 10]⟩ : ByteArray)
  have g2 := gff f2
  have f3 := self9 (⟨#[115, 117, 98, 115, 99, 114, 105, 112, 116, 105, 111, 110, 32, 123, 10, 32, 32, 110, 97, 109, 101, 40, 110, 58, 32, 48, 41, 10, 125, 10]⟩ : ByteArray)
  have g3 := gtt f3
  refine ac_enter 52 Tryz.func25 rfl rfl rfl rfl ?_
  intro s w he
  repeat' (first
 | (apply s_valW (WV av5) rfl rfl
    · conv => lhs; whnf; arg 2; whnf
    · repeat' (first | exact VLe.refl _ | exact VLe.nil _ | exact VLe.lit _ _ | exact VLe.own _ _ _ | apply VLe.agg | apply VLeL.cons | exact VLeL.nil))
 | (apply s_valW (WA ag5) rfl rfl
    · conv => lhs; whnf; arg 2; whnf
    · repeat' (first | exact VLe.refl _ | exact VLe.nil _ | exact VLe.lit _ _ | exact VLe.own _ _ _ | apply VLe.agg | apply VLeL.cons | exact VLeL.nil))
 | (apply s_valW (WS se5) rfl rfl
    · conv => lhs; whnf; arg 2; whnf
    · repeat' (first | exact VLe.refl _ | exact VLe.nil _ | exact VLe.lit _ _ | exact VLe.own _ _ _ | apply VLe.agg | apply VLeL.cons | exact VLeL.nil))
 | (apply s_valW (WO op5) rfl rfl
    · conv => lhs; whnf; arg 2; whnf
    · repeat' (first | exact VLe.refl _ | exact VLe.nil _ | exact VLe.lit _ _ | exact VLe.own _ _ _ | apply VLe.agg | apply VLeL.cons | exact VLeL.nil))
 | (apply s_valW (WQ [op5]) rfl rfl
    · conv => lhs; whnf; arg 2; whnf
    · repeat' (first | exact VLe.refl _ | exact VLe.nil _ | exact VLe.lit _ _ | exact VLe.own _ _ _ | apply VLe.agg | apply VLeL.cons | exact VLeL.nil))
 | (apply s_lit [ag5] rfl rfl
    · conv => lhs; whnf
    · first | exact elemA9 | exact elemS9 | exact elemO9 | (conv => lhs; whnf; arg 1; whnf)
    · rfl
    · rfl
    · repeat' (first | exact trivial | apply And.intro | rfl))
 | (apply s_lit [se5] rfl rfl
    · conv => lhs; whnf
    · first | exact elemA9 | exact elemS9 | exact elemO9 | (conv => lhs; whnf; arg 1; whnf)
    · rfl
    · rfl
    · repeat' (first | exact trivial | apply And.intro | rfl))
 | (apply s_lit [op5] rfl rfl
    · conv => lhs; whnf
    · first | exact elemA9 | exact elemS9 | exact elemO9 | (conv => lhs; whnf; arg 1; whnf)
    · rfl
    · rfl
    · repeat' (first | exact trivial | apply And.intro | rfl))
 | refine aw_region ?_
 | refine awo_nil ?_
 | refine k_seq ?_
 | (apply aw_1
    conv => whnf
    refine ⟨?_, trivial⟩)
 | (apply s_pick_t rfl rfl
    · conv => lhs; whnf
    · conv => lhs; whnf
    · first | exact bT1 (by assumption) | exact bT2 (by assumption))
 | (apply s_pick_f rfl rfl
    · conv => lhs; whnf
    · conv => lhs; whnf
    · first | exact bF1 (by assumption) | exact bF2 (by assumption))
 | (apply s_1
    conv => whnf; arg 1; arg 4; arg 3; whnf
    refine ⟨?_, ?_⟩)
 | (apply s_call rfl
    · conv => lhs; whnf
    · conv => lhs; whnf
    · first | exact h1 | exact h2 | exact h3 | exact h4 | exact h5 | exact h6)
 | (apply s_store rfl rfl rfl
    · conv => lhs; whnf
    · conv => lhs; whnf; arg 1; whnf
    · conv => lhs; whnf; arg 1; whnf
    · exact ⟨by kernel_rfl, by kernel_rfl⟩
    · rfl)
 | (apply s_wanted_val rfl
    · conv => lhs; whnf
    · conv => lhs; whnf
    · first | rfl | assumption
    · conv => lhs; whnf; arg 2; whnf)
 | (apply s_wanted_call rfl
    · conv => lhs; whnf
    · conv => lhs; whnf
    · first | rfl | assumption
    · conv => lhs; whnf
    · first | exact h1 | exact h2 | exact h3 | exact h4 | exact h5 | exact h6)
 | refine k_end_ret ?_
 | (refine ⟨_, by conv => lhs; whnf; arg 2; whnf, ?_⟩; conv => rhs; whnf)
 | exact trivial)
  all_goals first
    | rfl
    | decide
end Go.Proofs.YthjiclhfhjdjpaaGreatDoor
namespace Go.Proofs.YthjiclhfhjdjpaaGreatDoor
open Go.RowKit
attribute [local irreducible] wpList Calls Code.wp
def sg0 (W : World) : Sg := ⟨fun b o => (W.cell? ⟨b, o, none⟩).isSome, fun _ => none, fun _ => none, fun _ => (undef, 0)⟩
theorem relL2 {P : Program} {s : Sg} {w : World} {v v2 : V} {u u2 : Value} (h : rel P s w v u) (h2 : rel P s w v2 u2) : relL P s w [v, v2] (#[u, u2] : Array Value).toList := by
  show relL P s w [v, v2] [u, u2]
  rw [relL, relL]; exact ⟨h, h2, by simp [relL]⟩
end Go.Proofs.YthjiclhfhjdjpaaGreatDoor
namespace Go.Proofs.YthjiclhfhjdjpaaGreatDoor
open Go.ChangeShapes Go.WideShapes Go.ChangeAt Go.RowKit
attribute [local irreducible] wpList Calls Code.wp
/-- types whose parts are among them, with numbers of 64 bits only -/
def closedB (P : Program) (S : List TypeId) : Bool := S.all fun t => match P.underlying t with
  | some .bool => true
  | some .string => true
  | some (.int q) => match q with | .i64 => true | _ => false
  | some (.slice e) => S.contains e && Nat.blt 0 (P.cellsOf e)
  | some (.struct fs) => fs.toList.all fun f => S.contains f.type
  | _ => false
theorem wideL_of : ∀ {l : List D}, (∀ i, i < l.length → wideD (gD l i)) → wideL l
  | [], _ => trivial
  | d :: r, h => ⟨h 0 (by simp), wideL_of fun i hi => by
    have := h (i + 1) (by simpa using hi)
    simpa [gD] using this⟩
set_option maxRecDepth 100000 in
theorem wide_of {P : Program} {w : World} {I : Nat → Prop} {S : List TypeId} (hS : closedB P S = true) : ∀ {k : Nat} {t : TypeId} {cs : List Value} {d : D}, S.contains t = true → Rep P w I k t cs d → Fits P k t d → wideD d
  | 0, _, _, _, _, h, _ => h.elim
  | k + 1, t, cs, d, ht, hr, hf => by
    have hc := List.all_eq_true.1 hS t (List.contains_iff_mem.1 ht)
    unfold Rep at hr
    unfold Fits at hf
    split at hr
    · rename_i hu
      rw [hu] at hf
      obtain ⟨b, rfl⟩ := hf
      trivial
    · rename_i q hu
      rw [hu] at hf hc
      obtain ⟨n, rfl⟩ := hf
      obtain ⟨-, hw⟩ := hr
      cases q <;> simp at hc
      have hw : (Lit.int IntKind.i64 n).wf = true := hw
      show i64D n
      rw [wf_int] at hw
      simp [IntKind.min, IntKind.max, IntKind.signed, IntKind.bits] at hw
      unfold i64D
      omega
    · rename_i hu
      rw [hu] at hf
      obtain ⟨s, rfl⟩ := hf
      trivial
    · rename_i e hu
      rw [hu] at hf hc
      obtain ⟨l, rfl, hfl⟩ := hf
      simp only [Bool.and_eq_true] at hc
      obtain ⟨A, c, -, -, -, -, hi⟩ := hr
      show wideL l
      refine wideL_of fun i hl => ?_
      obtain ⟨b, off, -, -, hel⟩ := hi (by show 0 < l.length; omega) (Nat.le_of_ble_eq_true hc.2)
      obtain ⟨ys, -, -, hy⟩ := hel i hl
      exact wide_of hS hc.1 hy (hfl i hl)
    · rename_i fs hu
      rw [hu] at hf hc
      obtain ⟨l, rfl, hl, hfl⟩ := hf
      show wideL l
      refine wideL_of fun i hi => ?_
      have hfi : fs[i]? = some (fs[i]'(by omega)) := Array.getElem?_eq_getElem (by omega)
      have hmem := List.all_eq_true.1 hc (fs[i]'(by omega)) (by simp)
      exact wide_of hS hmem (hr.2 i _ hfi) (hfl i _ hfi)
    · rename_i h1 h2 h3 h4 h5
      exfalso
      split at hc
      · exact h1 ‹_›
      · exact h3 ‹_›
      · exact h2 _ ‹_›
      · exact h4 _ ‹_›
      · exact h5 _ ‹_›
      · cases hc
set_option maxRecDepth 100000 in
def querySet : List TypeId := [41, 38, 39, 57, 116, 54, 88, 55, 76, 69, 86, 74, 150, 82, 84, 22, 9, 71, 32, 3, 4]
set_option maxRecDepth 100000 in
theorem query_closed : closedB Tryz.prog querySet = true := by kernel_rfl
set_option maxRecDepth 100000 in
theorem arg_in {H : Type} {enc : TypeId × Value → H} {W : World} {v : Value} {base : Nat} {dw : DataW H} {ps : List MemPlace} {t : TypeId} {fs : Array Field} (ht : Tryz.prog.underlying t = some (.struct fs)) (hv : Value.okWide Tryz.prog W .any base t v)
    (hd : DataW.Trod enc Tryz.prog W 0 (fun _ => true) true t v dw ps) :
    ∃ (k : Nat) (cs : Array Value) (d : D), v = .agg cs ∧ Rep Tryz.prog W (fun b => b < W.heap.size) k t cs.toList d ∧ Fits Tryz.prog k t d ∧ bulkD d ≤ Rows.uptoBulk dw := by
  obtain ⟨cs, rfl, _⟩ := okWide_struct ht hv
  obtain ⟨k, hk⟩ := hd
  obtain ⟨d, h1, h2, h3⟩ := rep_of_trod2 hk
  exact ⟨k, cs, d, rfl, by simpa [Value.cells] using h1, h2, h3⟩
theorem rep_len {P : Program} {w : World} {I : Nat → Prop} {k : Nat} {t : TypeId} {cs : List Value} {d : D} {fs : Array Field} (ht : P.underlying t = some (.struct fs)) (h : Rep P w I k t cs d) : cs.length = P.cellsOf t := by
  cases k with
  | zero => exact h.elim
  | succ k => unfold Rep at h; rw [ht] at h; exact h.1
set_option maxRecDepth 100000 in
theorem cells0 {W : World} {k : Nat} {t : TypeId} {cs : Array Value} {d : D} {fs : Array Field} (ht : Tryz.prog.underlying t = some (.struct fs)) (hl : layB Tryz.prog 12 t = true) (hr : Rep Tryz.prog W (fun b => b < W.heap.size) k t cs.toList d) : rel Tryz.prog (sg0 W) W (.agg (cellsV Tryz.prog 12 t d)) (.agg cs) := by
  rw [rel]
  exact ⟨cs, rfl, cells_rel (s := sg0 W) 12 k t cs.toList d (RepF.of_rep hr fun b o _ h => h) (rep_len ht hr) hl⟩
set_option maxRecDepth 100000 in
theorem calls_of_ac {f : FuncId} {args : List V} {W : World} {us : Array Value} (h : AC EN Tryz.prog f args (.c (.bool true))) (hr : relL Tryz.prog (sg0 W) W args us.toList) (he : EnvT W) : Calls Tryz.prog f us W fun e W' => e = .returned (.bool true) ∧ Below W.heap.size W W' := by
  refine (h (sg0 W) W us hr (fun b o h => h) he).mono ?_
  rintro e W' ⟨v, F', rfl, hfr, -, -, -, hv⟩
  rw [rel] at hv
  obtain ⟨rfl, -⟩ := hv
  exact ⟨rfl, hfr.below⟩
set_option maxRecDepth 100000 in
def laidL9 : List (String × DataW Unit) := [("math/bits.deBruijn32tab", Rows.laid_math_bits_deBruijn32tab), ("math/bits.deBruijn64tab", Rows.laid_math_bits_deBruijn64tab), ("internal/strconv.uint64pow10", Rows.laid_internal_strconv_uint64pow10)]
set_option maxRecDepth 100000 in
theorem env9_of_laid {W : World} (h : laidMetH Tryz.prog laidL9 W) : EnvT W := by
  have h' : laidMet Tryz.prog laidL9 W := h
  obtain ⟨ps, ⟨_, _, _, _, _, _, _, _, _, _, ⟨_, _, _, _, _, _, _, _, _, _, ⟨g3, t3, c3, f3, p3, q3, a3, b3, e3, d3, _⟩, _⟩, _⟩, _⟩ := h'
  exact tab_of_row gPow gPowT Tryz.underlying324 Tryz.underlying273 (by kernel_rfl) (by kernel_rfl) ⟨g3, t3, c3, f3, p3, a3, b3, e3, d3⟩
set_option maxRecDepth 100000 in
/-- a document that is handed in, as data -/
theorem que_in {H : Type} {enc : TypeId × Value → H} {W : World} {v : Value} {base : Nat} {dw : DataW H} {ps : List MemPlace} (hv : Value.okWide Tryz.prog W .any base 41 v) (hd : DataW.Trod enc Tryz.prog W 0 (fun _ => true) true 41 v dw ps) (hb : Rows.uptoBulk dw ≤ 1048576) :
    ∃ (k : Nat) (cs : Array Value) (a b : List D), v = .agg cs ∧ rel Tryz.prog (sg0 W) W (.agg [.sl 57 a, .sl 116 b]) (.agg cs) ∧ Fits Tryz.prog k 41 (.obj [.list a, .list b]) ∧ wideD (.obj [.list a, .list b]) ∧ bulkD (.obj [.list a, .list b]) ≤ 1048576 := by
  obtain ⟨k, cs, d, rfl, hr, hf, hbk⟩ := arg_in Tryz.underlying41 hv hd
  have hw := wide_of query_closed (by decide) hr hf
  obtain ⟨j, l, rfl, hl, hfs⟩ := fits_o Tryz.underlying41 hf
  have hl : l.length = 2 := hl
  obtain ⟨j0, l0, e0, -⟩ := fits_l Tryz.underlying38 (hfs 0 _ rfl)
  obtain ⟨j1, l1, e1, -⟩ := fits_l Tryz.underlying39 (hfs 1 _ rfl)
  have el : l = [.list l0, .list l1] := by rw [len2 hl, e0, e1]
  subst el
  exact ⟨k, cs, l0, l1, rfl, cells0 Tryz.underlying41 (by kernel_rfl) hr, hf, hw, by omega⟩
end Go.Proofs.YthjiclhfhjdjpaaGreatDoor
namespace Go.Proofs.YthjiclhfhjdjpaaGreatDoor
open Go.ChangeShapes Go.WideShapes Go.ChangeAt Go.RowKit
set_option linter.unusedSectionVars false
attribute [local irreducible] wpList Calls Code.wp AW AWo OpOk seqK blockK scopeK loopK endK AC absLex Yld Sub
attribute [local irreducible] ACB ACX absLexG YldG absLexH
def qD (a b : List D) : D := .obj [.list a, .list b]
set_option maxHeartbeats 8000000 in
set_option maxRecDepth 100000 in
theorem qD_bulk {a b : List D} (h : bulkD (qD a b) ≤ 1048576) : bulkL a ≤ 1048576 ∧ bulkL b ≤ 1048576 := by
  have : bulkD (qD a b) = bulkL a + bulkL b + 3 := by simp [qD, bulkD, bulkL]; omega
  omega
end Go.Proofs.YthjiclhfhjdjpaaGreatDoor
namespace Go.Proofs.YthjiclhfhjdjpaaGreatDoor
open Go.RowKit
set_option linter.unusedSectionVars false
attribute [local irreducible] wpList Calls Code.wp AW AWo OpOk seqK blockK scopeK loopK endK AC absLex Yld Sub
attribute [local irreducible] ACB ACX absLexG YldG absLexH
set_option maxHeartbeats 8000000 in
set_option maxRecDepth 100000 in
theorem chain2 : ∀ a b : Bool, a = false ∨ (a = true ∧ b = false) ∨ (a = true ∧ b = true) := by decide
set_option maxHeartbeats 8000000 in
set_option maxRecDepth 100000 in
theorem chain3 : ∀ a b c : Bool, a = false ∨ (a = true ∧ b = false) ∨ (a = true ∧ b = true ∧ c = false) ∨ (a = true ∧ b = true ∧ c = true) := by decide
set_option maxHeartbeats 8000000 in
set_option maxRecDepth 100000 in
theorem chain4 : ∀ a b c d : Bool, a = false ∨ (a = true ∧ b = false) ∨ (a = true ∧ b = true ∧ c = false) ∨ (a = true ∧ b = true ∧ c = true ∧ d = false) ∨ (a = true ∧ b = true ∧ c = true ∧ d = true) := by decide
set_option maxHeartbeats 8000000 in
set_option maxRecDepth 100000 in
theorem s_t {a b : ByteArray} (h : (a.toList == b.toList) = true) : (!(a.toList == b.toList)) = false ∧ ((!(a.toList == b.toList)) == false) = true := by rw [h]; exact ⟨rfl, rfl⟩
set_option maxHeartbeats 8000000 in
set_option maxRecDepth 100000 in
theorem s_f {a b : ByteArray} (h : (a.toList == b.toList) = false) : (!(a.toList == b.toList)) = true ∧ ((!(a.toList == b.toList)) == false) = false := by rw [h]; exact ⟨rfl, rfl⟩
noncomputable def HAg (l m : List D) (i : Nat) : Vst 42 := stS 42 [(0, .sl 86 l), (1, .sl 86 m), (5, .c (.int .i64 (i : Int)))] []
set_option maxHeartbeats 8000000 in
set_option maxRecDepth 100000 in
theorem argsR2_ac (l m : List D) (hl : bulkL l ≤ 100000000) (hm : bulkL m ≤ 100000000) : AC EN Tryz.prog 138 [.sl 86 l, .sl 86 m] (.c (.bool (eqL argEq l m))) := by
  have hll := len_bulk l
  by_cases hlen : l.length = m.length
  · have f0 : ((l.length : Int) != (m.length : Int)) = false := by simp [hlen]
    refine ac_enter 42 Tryz.func138 rfl rfl rfl rfl ?_
    intro s w he
    repeat' (first
 | (apply aw_cond_kf
    · conv => lhs; whnf
    · assumption)
 | refine aw_seq ?_
 | refine aw_region ?_
 | refine awo_nil ?_
 | refine k_seq ?_
 | refine aw_block ?_
 | refine aw_skip ?_
 | (apply s_val rfl
    · conv => lhs; whnf
    · conv => lhs; whnf; arg 2; whnf)
 | exact trivial)
    refine aw_loop (fun j st => ∃ i, i + j = l.length ∧ (∀ q, q < i → argEq (gD l q) (gD m q) = true) ∧ Sub (cx EN Tryz.prog s w he) st (HAg l m i)) l.length ⟨0, by omega, fun q hq => by omega, Sub.live ⟨rfl, rfl, rfl, trivial⟩ trivial⟩ ?_
    rintro j st ⟨i, hij, hall, hs2⟩
    refine aw_sub hs2 ?_
    clear hs2
    by_cases hi : i < l.length
    · have f1 : decide ((i : Int) < (l.length : Nat)) = true := decide_eq_true (by omega)
      have hi2 : i < m.length := by omega
      have bx := itm_bulk hi hl
      have by_ := itm_bulk hi2 hm
      have h1 := valR_ac ((gD l i).f 1) ((gD m i).f 1) (by have := fld_bulk (gD l i) 1; omega) (by have := fld_bulk (gD m i) 1; omega)
      rcases chain2 (((gD l i).f 0).s.toList == ((gD m i).f 0).s.toList) (valEq ((gD l i).f 1) ((gD m i).f 1)) with e0 | ⟨e0, e1⟩ | ⟨e0, e1⟩
      · obtain ⟨f0a, f0b⟩ := s_f e0
        rw [eqL_bad (f := argEq) hi (by unfold argEq; try unfold sEq; simp only [e0, Bool.true_and, Bool.false_and, Bool.and_false])]
        repeat' (first
 | (apply aw_cond_kt
    · conv => lhs; whnf
    · assumption)
 | refine aw_seq ?_
 | refine aw_region ?_
 | refine awo_nil ?_
 | refine k_seq ?_
 | refine aw_block ?_
 | refine aw_skip ?_
 | (apply s_val rfl
    · conv => lhs; whnf
    · conv => lhs; whnf; arg 2; whnf)
 | (apply aw_draw (by kernel_rfl) (by kernel_rfl))
 | apply y_nil
 | (apply y_pick_t rfl rfl
    · conv => lhs; whnf
    · conv => lhs; whnf
    · first | exact bT1 (by assumption) | exact bT2 (by assumption))
 | (apply y_val rfl
    · conv => lhs; whnf
    · conv => lhs; whnf; arg 2; whnf)
 | (apply y_skip rfl
    · conv => lhs; whnf
    · conv => lhs; whnf
    · first | rfl | assumption)
 | exact apartB_none
 | exact ([] : List Nat)
 | exact (1000000 : Nat)
 | (apply aw_cond_t
    · conv => lhs; whnf; arg 1; arg 1; whnf)
 | refine aw_ret ?_
 | refine k_seq_ret ?_
 | refine k_block_ret ?_
 | refine k_loop_ret ?_
 | refine k_end_ret ?_
 | (refine ⟨_, by conv => lhs; whnf; arg 2; whnf, ?_⟩; conv => rhs; whnf)
 | exact trivial)
        all_goals first
          | exact i64_ok (by omega)
          | exact at_in hi
          | exact at_in hi2
          | exact (show Tryz.prog.underlying _ = some .bool by kernel_rfl)
          | rfl
          | skip
      · obtain ⟨f0a, f0b⟩ := s_t e0
        rw [e1] at h1
        rw [eqL_bad (f := argEq) hi (by unfold argEq; try unfold sEq; simp only [e0, e1, Bool.true_and, Bool.false_and, Bool.and_false])]
        repeat' (first
 | (apply aw_cond_kt
    · conv => lhs; whnf
    · assumption)
 | refine aw_seq ?_
 | refine aw_region ?_
 | refine awo_nil ?_
 | refine k_seq ?_
 | refine aw_block ?_
 | refine aw_skip ?_
 | (apply s_val rfl
    · conv => lhs; whnf
    · conv => lhs; whnf; arg 2; whnf)
 | (apply aw_draw (by kernel_rfl) (by kernel_rfl))
 | apply y_nil
 | (apply y_pick_f rfl rfl
    · conv => lhs; whnf
    · conv => lhs; whnf
    · first | exact bF1 (by assumption) | exact bF2 (by assumption))
 | (apply y_val rfl
    · conv => lhs; whnf
    · conv => lhs; whnf; arg 2; whnf)
 | (apply y_wanted_val rfl
    · conv => lhs; whnf
    · conv => lhs; whnf
    · first | rfl | assumption
    · conv => lhs; whnf; arg 2; whnf)
 | (apply y_wanted_call rfl
    · conv => lhs; whnf
    · conv => lhs; whnf
    · first | rfl | assumption
    · conv => lhs; whnf
    · first | exact h1)
 | exact apartB_none
 | exact ([] : List Nat)
 | exact (1000000 : Nat)
 | (apply aw_cond_t
    · conv => lhs; whnf; arg 1; arg 1; whnf)
 | refine aw_ret ?_
 | refine k_seq_ret ?_
 | refine k_block_ret ?_
 | refine k_loop_ret ?_
 | refine k_end_ret ?_
 | (refine ⟨_, by conv => lhs; whnf; arg 2; whnf, ?_⟩; conv => rhs; whnf)
 | exact trivial)
        all_goals first
          | exact i64_ok (by omega)
          | exact at_in hi
          | exact at_in hi2
          | exact (show Tryz.prog.underlying _ = some .bool by kernel_rfl)
          | rfl
          | skip
      · obtain ⟨f0a, f0b⟩ := s_t e0
        rw [e1] at h1
        have e : argEq (gD l i) (gD m i) = true := by unfold argEq; try unfold sEq; simp only [e0, e1, Bool.true_and]; try rfl
        repeat' (first
 | (apply aw_cond_kt
    · conv => lhs; whnf
    · assumption)
 | refine aw_seq ?_
 | refine aw_region ?_
 | refine awo_nil ?_
 | refine k_seq ?_
 | refine k_block ?_
 | refine aw_block ?_
 | refine aw_skip ?_
 | (apply s_val rfl
    · conv => lhs; whnf
    · conv => lhs; whnf; arg 2; whnf)
 | (apply aw_draw (by kernel_rfl) (by kernel_rfl))
 | apply y_nil
 | (apply y_pick_f rfl rfl
    · conv => lhs; whnf
    · conv => lhs; whnf
    · first | exact bF1 (by assumption) | exact bF2 (by assumption))
 | (apply y_val rfl
    · conv => lhs; whnf
    · conv => lhs; whnf; arg 2; whnf)
 | (apply y_wanted_val rfl
    · conv => lhs; whnf
    · conv => lhs; whnf
    · first | rfl | assumption
    · conv => lhs; whnf; arg 2; whnf)
 | (apply y_wanted_call rfl
    · conv => lhs; whnf
    · conv => lhs; whnf
    · first | rfl | assumption
    · conv => lhs; whnf
    · first | exact h1)
 | exact apartB_none
 | exact ([] : List Nat)
 | exact (1000000 : Nat)
 | (apply aw_cond_f
    · conv => lhs; whnf; arg 1; arg 1; whnf)
 | exact trivial)
        all_goals first
          | exact i64_ok (by omega)
          | exact at_in hi
          | exact at_in hi2
          | exact (show Tryz.prog.underlying _ = some .bool by kernel_rfl)
          | exact k_loop_next (j' := j - 1) (by omega) ⟨i + 1, by omega, all_next hall e, Sub.live ⟨rfl, rfl, rfl, trivial⟩ trivial⟩
          | skip
    · have f1 : decide ((i : Int) < (l.length : Nat)) = false := decide_eq_false (by omega)
      rw [eqL_all hlen fun q hq => hall q (by omega)]
      repeat' (first
 | (apply aw_cond_kf
    · conv => lhs; whnf
    · assumption)
 | refine aw_seq ?_
 | refine aw_region ?_
 | refine awo_nil ?_
 | refine k_seq ?_
 | (apply s_val rfl
    · conv => lhs; whnf
    · conv => lhs; whnf; arg 2; whnf)
 | refine aw_ret ?_
 | refine aw_exit ?_
 | refine k_seq_exit ?_
 | refine k_block_hit rfl ?_
 | refine k_loop_exit ?_
 | refine k_end_ret ?_
 | (refine ⟨_, by conv => lhs; whnf; arg 2; whnf, ?_⟩; conv => rhs; whnf)
 | exact trivial)
  · have f0 : ((l.length : Int) != (m.length : Int)) = true := by simp; omega
    rw [eqL_ne f0]
    refine ac_enter 42 Tryz.func138 rfl rfl rfl rfl ?_
    intro s w he
    repeat' (first
 | (apply aw_cond_kt
    · conv => lhs; whnf
    · assumption)
 | refine aw_seq ?_
 | refine aw_region ?_
 | refine awo_nil ?_
 | refine k_seq ?_
 | (apply s_val rfl
    · conv => lhs; whnf
    · conv => lhs; whnf; arg 2; whnf)
 | refine aw_ret ?_
 | refine k_seq_ret ?_
 | refine k_end_ret ?_
 | (refine ⟨_, by conv => lhs; whnf; arg 2; whnf, ?_⟩; conv => rhs; whnf)
 | exact trivial)
noncomputable def HDg (l m : List D) (i : Nat) : Vst 42 := stS 42 [(0, .sl 150 l), (1, .sl 150 m), (5, .c (.int .i64 (i : Int)))] []
set_option maxHeartbeats 8000000 in
set_option maxRecDepth 100000 in
theorem dirsR2_ac (l m : List D) (hl : bulkL l ≤ 100000000) (hm : bulkL m ≤ 100000000) : AC EN Tryz.prog 139 [.sl 150 l, .sl 150 m] (.c (.bool (eqL dirEq l m))) := by
  have hll := len_bulk l
  by_cases hlen : l.length = m.length
  · have f0 : ((l.length : Int) != (m.length : Int)) = false := by simp [hlen]
    refine ac_enter 42 Tryz.func139 rfl rfl rfl rfl ?_
    intro s w he
    repeat' (first
 | (apply aw_cond_kf
    · conv => lhs; whnf
    · assumption)
 | refine aw_seq ?_
 | refine aw_region ?_
 | refine awo_nil ?_
 | refine k_seq ?_
 | refine aw_block ?_
 | refine aw_skip ?_
 | (apply s_val rfl
    · conv => lhs; whnf
    · conv => lhs; whnf; arg 2; whnf)
 | exact trivial)
    refine aw_loop (fun j st => ∃ i, i + j = l.length ∧ (∀ q, q < i → dirEq (gD l q) (gD m q) = true) ∧ Sub (cx EN Tryz.prog s w he) st (HDg l m i)) l.length ⟨0, by omega, fun q hq => by omega, Sub.live ⟨rfl, rfl, rfl, trivial⟩ trivial⟩ ?_
    rintro j st ⟨i, hij, hall, hs2⟩
    refine aw_sub hs2 ?_
    clear hs2
    by_cases hi : i < l.length
    · have f1 : decide ((i : Int) < (l.length : Nat)) = true := decide_eq_true (by omega)
      have hi2 : i < m.length := by omega
      have bx := itm_bulk hi hl
      have by_ := itm_bulk hi2 hm
      have h1 := argsR2_ac ((gD l i).f 1).l ((gD m i).f 1).l (by have := fld_bulk (gD l i) 1; omega) (by have := fld_bulk (gD m i) 1; omega)
      rcases chain2 (((gD l i).f 0).s.toList == ((gD m i).f 0).s.toList) (eqL argEq ((gD l i).f 1).l ((gD m i).f 1).l) with e0 | ⟨e0, e1⟩ | ⟨e0, e1⟩
      · obtain ⟨f0a, f0b⟩ := s_f e0
        rw [eqL_bad (f := dirEq) hi (by unfold dirEq; try unfold sEq; simp only [e0, Bool.true_and, Bool.false_and, Bool.and_false])]
        repeat' (first
 | (apply aw_cond_kt
    · conv => lhs; whnf
    · assumption)
 | refine aw_seq ?_
 | refine aw_region ?_
 | refine awo_nil ?_
 | refine k_seq ?_
 | refine aw_block ?_
 | refine aw_skip ?_
 | (apply s_val rfl
    · conv => lhs; whnf
    · conv => lhs; whnf; arg 2; whnf)
 | (apply aw_draw (by kernel_rfl) (by kernel_rfl))
 | apply y_nil
 | (apply y_pick_t rfl rfl
    · conv => lhs; whnf
    · conv => lhs; whnf
    · first | exact bT1 (by assumption) | exact bT2 (by assumption))
 | (apply y_val rfl
    · conv => lhs; whnf
    · conv => lhs; whnf; arg 2; whnf)
 | (apply y_skip rfl
    · conv => lhs; whnf
    · conv => lhs; whnf
    · first | rfl | assumption)
 | exact apartB_none
 | exact ([] : List Nat)
 | exact (1000000 : Nat)
 | (apply aw_cond_t
    · conv => lhs; whnf; arg 1; arg 1; whnf)
 | refine aw_ret ?_
 | refine k_seq_ret ?_
 | refine k_block_ret ?_
 | refine k_loop_ret ?_
 | refine k_end_ret ?_
 | (refine ⟨_, by conv => lhs; whnf; arg 2; whnf, ?_⟩; conv => rhs; whnf)
 | exact trivial)
        all_goals first
          | exact i64_ok (by omega)
          | exact at_in hi
          | exact at_in hi2
          | exact (show Tryz.prog.underlying _ = some .bool by kernel_rfl)
          | rfl
          | skip
      · obtain ⟨f0a, f0b⟩ := s_t e0
        rw [e1] at h1
        rw [eqL_bad (f := dirEq) hi (by unfold dirEq; try unfold sEq; simp only [e0, e1, Bool.true_and, Bool.false_and, Bool.and_false])]
        repeat' (first
 | (apply aw_cond_kt
    · conv => lhs; whnf
    · assumption)
 | refine aw_seq ?_
 | refine aw_region ?_
 | refine awo_nil ?_
 | refine k_seq ?_
 | refine aw_block ?_
 | refine aw_skip ?_
 | (apply s_val rfl
    · conv => lhs; whnf
    · conv => lhs; whnf; arg 2; whnf)
 | (apply aw_draw (by kernel_rfl) (by kernel_rfl))
 | apply y_nil
 | (apply y_pick_f rfl rfl
    · conv => lhs; whnf
    · conv => lhs; whnf
    · first | exact bF1 (by assumption) | exact bF2 (by assumption))
 | (apply y_val rfl
    · conv => lhs; whnf
    · conv => lhs; whnf; arg 2; whnf)
 | (apply y_wanted_val rfl
    · conv => lhs; whnf
    · conv => lhs; whnf
    · first | rfl | assumption
    · conv => lhs; whnf; arg 2; whnf)
 | (apply y_wanted_call rfl
    · conv => lhs; whnf
    · conv => lhs; whnf
    · first | rfl | assumption
    · conv => lhs; whnf
    · first | exact h1)
 | exact apartB_none
 | exact ([] : List Nat)
 | exact (1000000 : Nat)
 | (apply aw_cond_t
    · conv => lhs; whnf; arg 1; arg 1; whnf)
 | refine aw_ret ?_
 | refine k_seq_ret ?_
 | refine k_block_ret ?_
 | refine k_loop_ret ?_
 | refine k_end_ret ?_
 | (refine ⟨_, by conv => lhs; whnf; arg 2; whnf, ?_⟩; conv => rhs; whnf)
 | exact trivial)
        all_goals first
          | exact i64_ok (by omega)
          | exact at_in hi
          | exact at_in hi2
          | exact (show Tryz.prog.underlying _ = some .bool by kernel_rfl)
          | rfl
          | skip
      · obtain ⟨f0a, f0b⟩ := s_t e0
        rw [e1] at h1
        have e : dirEq (gD l i) (gD m i) = true := by unfold dirEq; try unfold sEq; simp only [e0, e1, Bool.true_and]; try rfl
        repeat' (first
 | (apply aw_cond_kt
    · conv => lhs; whnf
    · assumption)
 | refine aw_seq ?_
 | refine aw_region ?_
 | refine awo_nil ?_
 | refine k_seq ?_
 | refine k_block ?_
 | refine aw_block ?_
 | refine aw_skip ?_
 | (apply s_val rfl
    · conv => lhs; whnf
    · conv => lhs; whnf; arg 2; whnf)
 | (apply aw_draw (by kernel_rfl) (by kernel_rfl))
 | apply y_nil
 | (apply y_pick_f rfl rfl
    · conv => lhs; whnf
    · conv => lhs; whnf
    · first | exact bF1 (by assumption) | exact bF2 (by assumption))
 | (apply y_val rfl
    · conv => lhs; whnf
    · conv => lhs; whnf; arg 2; whnf)
 | (apply y_wanted_val rfl
    · conv => lhs; whnf
    · conv => lhs; whnf
    · first | rfl | assumption
    · conv => lhs; whnf; arg 2; whnf)
 | (apply y_wanted_call rfl
    · conv => lhs; whnf
    · conv => lhs; whnf
    · first | rfl | assumption
    · conv => lhs; whnf
    · first | exact h1)
 | exact apartB_none
 | exact ([] : List Nat)
 | exact (1000000 : Nat)
 | (apply aw_cond_f
    · conv => lhs; whnf; arg 1; arg 1; whnf)
 | exact trivial)
        all_goals first
          | exact i64_ok (by omega)
          | exact at_in hi
          | exact at_in hi2
          | exact (show Tryz.prog.underlying _ = some .bool by kernel_rfl)
          | exact k_loop_next (j' := j - 1) (by omega) ⟨i + 1, by omega, all_next hall e, Sub.live ⟨rfl, rfl, rfl, trivial⟩ trivial⟩
          | skip
    · have f1 : decide ((i : Int) < (l.length : Nat)) = false := decide_eq_false (by omega)
      rw [eqL_all hlen fun q hq => hall q (by omega)]
      repeat' (first
 | (apply aw_cond_kf
    · conv => lhs; whnf
    · assumption)
 | refine aw_seq ?_
 | refine aw_region ?_
 | refine awo_nil ?_
 | refine k_seq ?_
 | (apply s_val rfl
    · conv => lhs; whnf
    · conv => lhs; whnf; arg 2; whnf)
 | refine aw_ret ?_
 | refine aw_exit ?_
 | refine k_seq_exit ?_
 | refine k_block_hit rfl ?_
 | refine k_loop_exit ?_
 | refine k_end_ret ?_
 | (refine ⟨_, by conv => lhs; whnf; arg 2; whnf, ?_⟩; conv => rhs; whnf)
 | exact trivial)
  · have f0 : ((l.length : Int) != (m.length : Int)) = true := by simp; omega
    rw [eqL_ne f0]
    refine ac_enter 42 Tryz.func139 rfl rfl rfl rfl ?_
    intro s w he
    repeat' (first
 | (apply aw_cond_kt
    · conv => lhs; whnf
    · assumption)
 | refine aw_seq ?_
 | refine aw_region ?_
 | refine awo_nil ?_
 | refine k_seq ?_
 | (apply s_val rfl
    · conv => lhs; whnf
    · conv => lhs; whnf; arg 2; whnf)
 | refine aw_ret ?_
 | refine k_seq_ret ?_
 | refine k_end_ret ?_
 | (refine ⟨_, by conv => lhs; whnf; arg 2; whnf, ?_⟩; conv => rhs; whnf)
 | exact trivial)
noncomputable def HVg (l m : List D) (i : Nat) : Vst 69 := stS 69 [(0, .sl 88 l), (1, .sl 88 m), (5, .c (.int .i64 (i : Int)))] []
set_option maxHeartbeats 8000000 in
set_option maxRecDepth 100000 in
theorem varsR2_ac (l m : List D) (hl : bulkL l ≤ 100000000) (hm : bulkL m ≤ 100000000) : AC EN Tryz.prog 70 [.sl 88 l, .sl 88 m] (.c (.bool (eqL varEq l m))) := by
  have hll := len_bulk l
  by_cases hlen : l.length = m.length
  · have f0 : ((l.length : Int) != (m.length : Int)) = false := by simp [hlen]
    refine ac_enter 69 Tryz.func70 rfl rfl rfl rfl ?_
    intro s w he
    repeat' (first
 | (apply aw_cond_kf
    · conv => lhs; whnf
    · assumption)
 | refine aw_seq ?_
 | refine aw_region ?_
 | refine awo_nil ?_
 | refine k_seq ?_
 | refine aw_block ?_
 | refine aw_skip ?_
 | (apply s_val rfl
    · conv => lhs; whnf
    · conv => lhs; whnf; arg 2; whnf)
 | exact trivial)
    refine aw_loop (fun j st => ∃ i, i + j = l.length ∧ (∀ q, q < i → varEq (gD l q) (gD m q) = true) ∧ Sub (cx EN Tryz.prog s w he) st (HVg l m i)) l.length ⟨0, by omega, fun q hq => by omega, Sub.live ⟨rfl, rfl, rfl, trivial⟩ trivial⟩ ?_
    rintro j st ⟨i, hij, hall, hs2⟩
    refine aw_sub hs2 ?_
    clear hs2
    by_cases hi : i < l.length
    · have f1 : decide ((i : Int) < (l.length : Nat)) = true := decide_eq_true (by omega)
      have hi2 : i < m.length := by omega
      have bx := itm_bulk hi hl
      have by_ := itm_bulk hi2 hm
      have h2 := refR2_ac ((gD l i).f 1) ((gD m i).f 1) (by have := fld_bulk (gD l i) 1; omega)
      have h3 := valR_ac ((gD l i).f 3) ((gD m i).f 3) (by have := fld_bulk (gD l i) 3; omega) (by have := fld_bulk (gD m i) 3; omega)
      rcases chain4 (((gD l i).f 0).s.toList == ((gD m i).f 0).s.toList) (((gD l i).f 2).b == ((gD m i).f 2).b) (refEq ((gD l i).f 1) ((gD m i).f 1)) (valEq ((gD l i).f 3) ((gD m i).f 3)) with e0 | ⟨e0, e1⟩ | ⟨e0, e1, e2⟩ | ⟨e0, e1, e2, e3⟩ | ⟨e0, e1, e2, e3⟩
      · obtain ⟨f0a, f0b⟩ := s_f e0
        rw [eqL_bad (f := varEq) hi (by unfold varEq; try unfold sEq; simp only [e0, Bool.true_and, Bool.false_and, Bool.and_false])]
        repeat' (first
 | (apply aw_cond_kt
    · conv => lhs; whnf
    · assumption)
 | refine aw_seq ?_
 | refine aw_region ?_
 | refine awo_nil ?_
 | refine k_seq ?_
 | refine aw_block ?_
 | refine aw_skip ?_
 | (apply s_val rfl
    · conv => lhs; whnf
    · conv => lhs; whnf; arg 2; whnf)
 | (apply aw_draw (by kernel_rfl) (by kernel_rfl))
 | apply y_nil
 | (apply y_pick_t rfl rfl
    · conv => lhs; whnf
    · conv => lhs; whnf
    · first | exact bT1 (by assumption) | exact bT2 (by assumption))
 | (apply y_val rfl
    · conv => lhs; whnf
    · conv => lhs; whnf; arg 2; whnf)
 | (apply y_skip rfl
    · conv => lhs; whnf
    · conv => lhs; whnf
    · first | rfl | assumption)
 | exact apartB_none
 | exact apartB_nil
 | exact (1000000 : Nat)
 | (apply aw_cond_t
    · conv => lhs; whnf; arg 1; arg 1; whnf)
 | refine aw_ret ?_
 | refine k_seq_ret ?_
 | refine k_block_ret ?_
 | refine k_loop_ret ?_
 | refine k_end_ret ?_
 | (refine ⟨_, by conv => lhs; whnf; arg 2; whnf, ?_⟩; conv => rhs; whnf)
 | exact trivial)
        all_goals first
          | exact i64_ok (by omega)
          | exact at_in hi
          | exact at_in hi2
          | exact (show Tryz.prog.underlying _ = some .bool by kernel_rfl)
          | rfl
          | skip
      · obtain ⟨f0a, f0b⟩ := s_t e0
        have f1a : (!(((gD l i).f 2).b == ((gD m i).f 2).b)) = true := by rw [e1]; rfl
        have f1b : ((!(((gD l i).f 2).b == ((gD m i).f 2).b)) == false) = false := by rw [e1]; rfl
        rw [eqL_bad (f := varEq) hi (by unfold varEq; try unfold sEq; simp only [e0, e1, Bool.true_and, Bool.false_and, Bool.and_false])]
        repeat' (first
 | (apply aw_cond_kt
    · conv => lhs; whnf
    · assumption)
 | refine aw_seq ?_
 | refine aw_region ?_
 | refine awo_nil ?_
 | refine k_seq ?_
 | refine aw_block ?_
 | refine aw_skip ?_
 | (apply s_val rfl
    · conv => lhs; whnf
    · conv => lhs; whnf; arg 2; whnf)
 | (apply aw_draw (by kernel_rfl) (by kernel_rfl))
 | apply y_nil
 | (apply y_pick_t rfl rfl
    · conv => lhs; whnf
    · conv => lhs; whnf
    · first | exact bT1 (by assumption) | exact bT2 (by assumption))
 | (apply y_pick_f rfl rfl
    · conv => lhs; whnf
    · conv => lhs; whnf
    · first | exact bF1 (by assumption) | exact bF2 (by assumption))
 | (apply y_val rfl
    · conv => lhs; whnf
    · conv => lhs; whnf; arg 2; whnf)
 | (apply y_wanted_val rfl
    · conv => lhs; whnf
    · conv => lhs; whnf
    · first | rfl | assumption
    · conv => lhs; whnf; arg 2; whnf)
 | (apply y_skip rfl
    · conv => lhs; whnf
    · conv => lhs; whnf
    · first | rfl | assumption)
 | exact apartB_none
 | exact apartB_nil
 | exact (1000000 : Nat)
 | (apply aw_cond_t
    · conv => lhs; whnf; arg 1; arg 1; whnf)
 | refine aw_ret ?_
 | refine k_seq_ret ?_
 | refine k_block_ret ?_
 | refine k_loop_ret ?_
 | refine k_end_ret ?_
 | (refine ⟨_, by conv => lhs; whnf; arg 2; whnf, ?_⟩; conv => rhs; whnf)
 | exact trivial)
        all_goals first
          | exact i64_ok (by omega)
          | exact at_in hi
          | exact at_in hi2
          | exact (show Tryz.prog.underlying _ = some .bool by kernel_rfl)
          | rfl
          | skip
      · obtain ⟨f0a, f0b⟩ := s_t e0
        have f1a : (!(((gD l i).f 2).b == ((gD m i).f 2).b)) = false := by rw [e1]; rfl
        have f1b : ((!(((gD l i).f 2).b == ((gD m i).f 2).b)) == false) = true := by rw [e1]; rfl
        rw [e2] at h2
        rw [eqL_bad (f := varEq) hi (by unfold varEq; try unfold sEq; simp only [e0, e1, e2, Bool.true_and, Bool.false_and, Bool.and_false])]
        repeat' (first
 | (apply aw_cond_kt
    · conv => lhs; whnf
    · assumption)
 | refine aw_seq ?_
 | refine aw_region ?_
 | refine awo_nil ?_
 | refine k_seq ?_
 | refine aw_block ?_
 | refine aw_skip ?_
 | (apply s_val rfl
    · conv => lhs; whnf
    · conv => lhs; whnf; arg 2; whnf)
 | (apply aw_draw (by kernel_rfl) (by kernel_rfl))
 | apply y_nil
 | (apply y_pick_f rfl rfl
    · conv => lhs; whnf
    · conv => lhs; whnf
    · first | exact bF1 (by assumption) | exact bF2 (by assumption))
 | (apply y_val rfl
    · conv => lhs; whnf
    · conv => lhs; whnf; arg 2; whnf)
 | (apply y_wanted_val rfl
    · conv => lhs; whnf
    · conv => lhs; whnf
    · first | rfl | assumption
    · conv => lhs; whnf; arg 2; whnf)
 | (apply y_wanted_call rfl
    · conv => lhs; whnf
    · conv => lhs; whnf
    · first | rfl | assumption
    · conv => lhs; whnf
    · first | exact h2)
 | (apply y_skip rfl
    · conv => lhs; whnf
    · conv => lhs; whnf
    · first | rfl | assumption)
 | exact apartB_none
 | exact apartB_nil
 | exact (1000000 : Nat)
 | (apply aw_cond_t
    · conv => lhs; whnf; arg 1; arg 1; whnf)
 | refine aw_ret ?_
 | refine k_seq_ret ?_
 | refine k_block_ret ?_
 | refine k_loop_ret ?_
 | refine k_end_ret ?_
 | (refine ⟨_, by conv => lhs; whnf; arg 2; whnf, ?_⟩; conv => rhs; whnf)
 | exact trivial)
        all_goals first
          | exact i64_ok (by omega)
          | exact at_in hi
          | exact at_in hi2
          | exact (show Tryz.prog.underlying _ = some .bool by kernel_rfl)
          | rfl
          | skip
      · obtain ⟨f0a, f0b⟩ := s_t e0
        have f1a : (!(((gD l i).f 2).b == ((gD m i).f 2).b)) = false := by rw [e1]; rfl
        have f1b : ((!(((gD l i).f 2).b == ((gD m i).f 2).b)) == false) = true := by rw [e1]; rfl
        rw [e2] at h2
        rw [e3] at h3
        rw [eqL_bad (f := varEq) hi (by unfold varEq; try unfold sEq; simp only [e0, e1, e2, e3, Bool.true_and, Bool.false_and, Bool.and_false])]
        repeat' (first
 | (apply aw_cond_kt
    · conv => lhs; whnf
    · assumption)
 | refine aw_seq ?_
 | refine aw_region ?_
 | refine awo_nil ?_
 | refine k_seq ?_
 | refine aw_block ?_
 | refine aw_skip ?_
 | (apply s_val rfl
    · conv => lhs; whnf
    · conv => lhs; whnf; arg 2; whnf)
 | (apply aw_draw (by kernel_rfl) (by kernel_rfl))
 | apply y_nil
 | (apply y_pick_f rfl rfl
    · conv => lhs; whnf
    · conv => lhs; whnf
    · first | exact bF1 (by assumption) | exact bF2 (by assumption))
 | (apply y_val rfl
    · conv => lhs; whnf
    · conv => lhs; whnf; arg 2; whnf)
 | (apply y_wanted_val rfl
    · conv => lhs; whnf
    · conv => lhs; whnf
    · first | rfl | assumption
    · conv => lhs; whnf; arg 2; whnf)
 | (apply y_wanted_call rfl
    · conv => lhs; whnf
    · conv => lhs; whnf
    · first | rfl | assumption
    · conv => lhs; whnf
    · first | exact h2 | exact h3)
 | exact apartB_none
 | exact apartB_nil
 | exact (1000000 : Nat)
 | (apply aw_cond_t
    · conv => lhs; whnf; arg 1; arg 1; whnf)
 | refine aw_ret ?_
 | refine k_seq_ret ?_
 | refine k_block_ret ?_
 | refine k_loop_ret ?_
 | refine k_end_ret ?_
 | (refine ⟨_, by conv => lhs; whnf; arg 2; whnf, ?_⟩; conv => rhs; whnf)
 | exact trivial)
        all_goals first
          | exact i64_ok (by omega)
          | exact at_in hi
          | exact at_in hi2
          | exact (show Tryz.prog.underlying _ = some .bool by kernel_rfl)
          | rfl
          | skip
      · obtain ⟨f0a, f0b⟩ := s_t e0
        have f1a : (!(((gD l i).f 2).b == ((gD m i).f 2).b)) = false := by rw [e1]; rfl
        have f1b : ((!(((gD l i).f 2).b == ((gD m i).f 2).b)) == false) = true := by rw [e1]; rfl
        rw [e2] at h2
        rw [e3] at h3
        have e : varEq (gD l i) (gD m i) = true := by unfold varEq; try unfold sEq; simp only [e0, e1, e2, e3, Bool.true_and]; try rfl
        repeat' (first
 | (apply aw_cond_kt
    · conv => lhs; whnf
    · assumption)
 | refine aw_seq ?_
 | refine aw_region ?_
 | refine awo_nil ?_
 | refine k_seq ?_
 | refine k_block ?_
 | refine aw_block ?_
 | refine aw_skip ?_
 | (apply s_val rfl
    · conv => lhs; whnf
    · conv => lhs; whnf; arg 2; whnf)
 | (apply aw_draw (by kernel_rfl) (by kernel_rfl))
 | apply y_nil
 | (apply y_pick_f rfl rfl
    · conv => lhs; whnf
    · conv => lhs; whnf
    · first | exact bF1 (by assumption) | exact bF2 (by assumption))
 | (apply y_val rfl
    · conv => lhs; whnf
    · conv => lhs; whnf; arg 2; whnf)
 | (apply y_wanted_val rfl
    · conv => lhs; whnf
    · conv => lhs; whnf
    · first | rfl | assumption
    · conv => lhs; whnf; arg 2; whnf)
 | (apply y_wanted_call rfl
    · conv => lhs; whnf
    · conv => lhs; whnf
    · first | rfl | assumption
    · conv => lhs; whnf
    · first | exact h2 | exact h3)
 | exact apartB_none
 | exact apartB_nil
 | exact (1000000 : Nat)
 | (apply aw_cond_f
    · conv => lhs; whnf; arg 1; arg 1; whnf)
 | exact trivial)
        all_goals first
          | exact i64_ok (by omega)
          | exact at_in hi
          | exact at_in hi2
          | exact (show Tryz.prog.underlying _ = some .bool by kernel_rfl)
          | exact k_loop_next (j' := j - 1) (by omega) ⟨i + 1, by omega, all_next hall e, Sub.live ⟨rfl, rfl, rfl, trivial⟩ trivial⟩
          | skip
    · have f1 : decide ((i : Int) < (l.length : Nat)) = false := decide_eq_false (by omega)
      rw [eqL_all hlen fun q hq => hall q (by omega)]
      repeat' (first
 | (apply aw_cond_kf
    · conv => lhs; whnf
    · assumption)
 | refine aw_seq ?_
 | refine aw_region ?_
 | refine awo_nil ?_
 | refine k_seq ?_
 | (apply s_val rfl
    · conv => lhs; whnf
    · conv => lhs; whnf; arg 2; whnf)
 | refine aw_ret ?_
 | refine aw_exit ?_
 | refine k_seq_exit ?_
 | refine k_block_hit rfl ?_
 | refine k_loop_exit ?_
 | refine k_end_ret ?_
 | (refine ⟨_, by conv => lhs; whnf; arg 2; whnf, ?_⟩; conv => rhs; whnf)
 | exact trivial)
  · have f0 : ((l.length : Int) != (m.length : Int)) = true := by simp; omega
    rw [eqL_ne f0]
    refine ac_enter 69 Tryz.func70 rfl rfl rfl rfl ?_
    intro s w he
    repeat' (first
 | (apply aw_cond_kt
    · conv => lhs; whnf
    · assumption)
 | refine aw_seq ?_
 | refine aw_region ?_
 | refine awo_nil ?_
 | refine k_seq ?_
 | (apply s_val rfl
    · conv => lhs; whnf
    · conv => lhs; whnf; arg 2; whnf)
 | refine aw_ret ?_
 | refine k_seq_ret ?_
 | refine k_end_ret ?_
 | (refine ⟨_, by conv => lhs; whnf; arg 2; whnf, ?_⟩; conv => rhs; whnf)
 | exact trivial)
end Go.Proofs.YthjiclhfhjdjpaaGreatDoor
