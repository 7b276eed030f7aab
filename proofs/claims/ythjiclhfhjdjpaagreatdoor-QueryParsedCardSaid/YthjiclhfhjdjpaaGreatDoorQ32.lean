/- Parts of a proof, merged by a program (shake.py). -/
import Derived.Test.YthjiclhfhjdjpaaGreatDoorQ31
set_option linter.unusedVariables false
set_option linter.unusedSimpArgs false
namespace Go.Proofs.YthjiclhfhjdjpaaGreatDoor
open Go.RowKit
attribute [local irreducible] wpList Calls Code.wp AW AWo OpOk seqK blockK scopeK loopK endK AC absLex Yld Sub
attribute [local irreducible] ACB ACX ACE absLexG YldG
section
variable {s : List UInt8}
set_option maxHeartbeats 8000000 in
set_option maxRecDepth 100000 in
theorem kq_1 (h : s = queryT) : kindQ s = 1 := if_pos h
set_option maxHeartbeats 8000000 in
set_option maxRecDepth 100000 in
theorem kq_2 (h1 : s ≠ queryT) (h : s = mutT) : kindQ s = 2 := (if_neg h1).trans (if_pos h)
set_option maxHeartbeats 8000000 in
set_option maxRecDepth 100000 in
theorem kq_3 (h1 : s ≠ queryT) (h2 : s ≠ mutT) (h : s = subT) : kindQ s = 3 := (if_neg h1).trans ((if_neg h2).trans (if_pos h))
set_option maxHeartbeats 8000000 in
set_option maxRecDepth 100000 in
theorem kq_4 (h1 : s ≠ queryT) (h2 : s ≠ mutT) (h : s ≠ subT) : kindQ s = 0 := (if_neg h1).trans ((if_neg h2).trans (if_neg h))
end
set_option maxHeartbeats 8000000 in
set_option maxRecDepth 100000 in
theorem kind_ac (s : List UInt8) : AC EN5 Tryz.prog 98 [.c (.string (bs s))] (.c (.int .i64 (kindQ s))) := by
  refine ac_enter 10 Tryz.func98 rfl rfl rfl rfl ?_
  intro s0 w he
  repeat' (first
 | refine aw_seq ?_
 | refine aw_region ?_
 | refine awo_nil ?_
 | refine k_seq ?_
 | refine k_block ?_
 | refine aw_block ?_
 | refine aw_skip ?_
 | (apply s_val rfl
    · conv => lhs; whnf
    · conv => lhs; whnf; arg 2; whnf)
 | (refine aw_cond (by conv => lhs; whnf) ?_ ?_ <;> intro hb)
 | refine aw_ret ?_
 | refine k_seq_ret ?_
 | refine k_block_ret ?_
 | refine k_end_ret ?_
 | (refine ⟨_, by conv => lhs; whnf; arg 2; whnf, ?_⟩; conv => rhs; whnf)
 | exact trivial)
  · rw [kq_1 (seq_t hb)]
  · rw [kq_2 (seq_f (by assumption)) (seq_t hb)]
  · rw [kq_3 (seq_f (by assumption)) (seq_f (by assumption)) (seq_t hb)]
  · rw [kq_4 (seq_f (by assumption)) (seq_f (by assumption)) (seq_f hb)]
set_option maxRecDepth 100000 in
set_option maxHeartbeats 8000000 in
theorem elemOp : elemOk Tryz.prog 38 = some (57, 72) := by kernel_rfl
set_option maxRecDepth 100000 in
set_option maxHeartbeats 8000000 in
theorem elemFrag : elemOk Tryz.prog 39 = some (116, 56) := by kernel_rfl
noncomputable def VQ (d : D) : V := .agg (cellsV Tryz.prog 12 41 d)
noncomputable def HdQ (n : Nat) (ops frs : List D) (z : PS) : Vst 89 :=
  stS 89 [(0, .bx (pn 0) 0), (2, .bx 2 0), (3, .bx 3 0), (4, .c (.int .i64 (n : Int)))] [(pn 0, boxP z), (2, .box 41 [.c (.slice none 0 0), .c (.slice none 0 0)]), (3, .box 41 [.own 903 57 ops, .own 904 116 frs]), (903, .tok 57 ops.length), (904, .tok 116 frs.length)]
section
variable {f n : Nat} {ops frs : List D} {x : PS}
def wordQ (x : PS) : Prop := (hdT x).k = 2 ∧ (0 < kindQ (hdT x).s ∨ (hdT x).s = fragT)
set_option maxHeartbeats 8000000 in
set_option maxRecDepth 100000 in
theorem dc_end (h : n ≠ 0 ∧ (hdT x).k = 5) : docF (f + 1) n ops frs x = .ok ((ops, frs), x) := by rw [docF, if_pos h]
set_option maxHeartbeats 8000000 in
set_option maxRecDepth 100000 in
theorem dc_un (h : ¬ (n ≠ 0 ∧ (hdT x).k = 5)) (hw : ¬ wordQ x) (hs : isS x [123] = false) : docF (f + 1) n ops frs x = .error ((hdT x).i, 3) := by
  rw [docF, if_neg h]; exact if_pos ⟨hw, by rw [hs]; decide⟩
set_option maxHeartbeats 8000000 in
set_option maxRecDepth 100000 in
theorem dc_lim (h : ¬ (n ≠ 0 ∧ (hdT x).k = 5)) (hw : wordQ x ∨ isS x [123] = true) (hn : 64 ≤ n) : docF (f + 1) n ops frs x = .error ((hdT x).i, 4) := by
  rw [docF, if_neg h]
  exact (if_neg (fun g => hw.elim g.1 g.2)).trans (if_pos hn)
set_option maxHeartbeats 8000000 in
set_option maxRecDepth 100000 in
theorem dc_set (h : ¬ (n ≠ 0 ∧ (hdT x).k = 5)) (hw : ¬ wordQ x) (hs : isS x [123] = true) (hn : n < 64) : docF (f + 1) n ops frs x = thenQ (setQ x) fun ss y => docF f (n + 1) (ops ++ [opD 1 [] [] ss]) frs y := by
  rw [docF, if_neg h]
  exact (if_neg (fun g => g.2 hs)).trans ((if_neg (by omega)).trans (if_pos hw))
set_option maxHeartbeats 8000000 in
set_option maxRecDepth 100000 in
theorem dc_op (h : ¬ (n ≠ 0 ∧ (hdT x).k = 5)) (hw : wordQ x) (hn : n < 64) (hk : 0 < kindQ (hdT x).s) : docF (f + 1) n ops frs x = thenQ (opQ (kindQ (hdT x).s) (nxT x)) fun o y => docF f (n + 1) (ops ++ [o]) frs y := by
  rw [docF, if_neg h]
  exact (if_neg (fun g => g.1 hw)).trans ((if_neg (by omega)).trans ((if_neg (fun g => g hw)).trans (if_pos hk)))
set_option maxHeartbeats 8000000 in
set_option maxRecDepth 100000 in
theorem dc_frag (h : ¬ (n ≠ 0 ∧ (hdT x).k = 5)) (hw : wordQ x) (hn : n < 64) (hk : ¬ 0 < kindQ (hdT x).s) : docF (f + 1) n ops frs x = thenQ (fragQ (nxT x)) fun o y => docF f (n + 1) ops (frs ++ [o]) y := by
  rw [docF, if_neg h]
  exact (if_neg (fun g => g.1 hw)).trans ((if_neg (by omega)).trans ((if_neg (fun g => g hw)).trans (if_neg hk)))
end
set_option maxHeartbeats 8000000 in
set_option maxRecDepth 100000 in
theorem doc_ace (x : PS) (h : En x) (hlen : x.ts.length ≤ 100000) : ACE EN5 Tryz.prog 53 [.bx (pn 0) 0] [boxP x] (outQ (fun p => VQ (queD p.1 p.2)) (docF (x.ts.length + 1) 0 [] [] x)) := by
  refine ace_enter (fn := Tryz.f53) 89 Tryz.func53 rfl rfl ?_
  intro pas w0 w he hp
  repeat' (first
 | refine aw_seq ?_
 | refine aw_region ?_
 | refine awo_nil ?_
 | refine k_seq ?_
 | refine aw_block ?_
 | (apply s_val rfl
    · conv => lhs; whnf
    · conv => lhs; whnf; arg 2; whnf)
 | (apply s_alloc rfl rfl rfl rfl
    · conv => lhs; whnf; arg 1; whnf
    · rfl)
 | exact trivial)
  refine aw_sub ((Sub.ownF (m := 3) (q := 903) (i := 0) (e := 57) rfl (by decide) rfl rfl rfl).trans (Sub.ownF (m := 3) (q := 904) (i := 1) (e := 116) rfl (by decide) rfl rfl rfl)) ?_
  refine aw_loop (fun j st => ∃ z n ops frs, En z ∧ z.ts.length < j ∧ z.ts.length ≤ x.ts.length ∧ ops.length + frs.length = n ∧ n ≤ 64 ∧ docF (x.ts.length + 1) 0 [] [] x = docF j n ops frs z ∧ Sub (cxE EN5 Tryz.prog pas w0 w he hp (outQ (fun p => VQ (queD p.1 p.2)) (docF (x.ts.length + 1) 0 [] [] x))) st (HdQ n ops frs z)) (x.ts.length + 1) ⟨x, 0, [], [], h, by omega, by omega, rfl, by omega, rfl, ?_⟩ ?_
  · exact Sub.live ⟨rfl, rfl, rfl, rfl, trivial⟩ ⟨rfl, rfl, rfl, rfl, rfl, trivial⟩
  rintro j st ⟨z, n, ops, frs, hz, hzj, hzl, hof, hn64, hI, hsub⟩
  refine aw_sub hsub ?_
  clear hsub
  rw [hI]
  clear hI
  cases j with
  | zero => omega
  | succ j =>
  have hs := sign_e hz [123]
  have hli := limit_e hz n 64
  have hf := fail_ace (hdT z) 3
  have hnx := next_e hz
  have hse := set_ace z hz (by omega)
  have hkd := kind_ac
  have hop : ∀ k, ACE EN5 Tryz.prog 104 [.bx (pn 0) 0, .c (.int .i64 k)] [boxP (nxT z)] (outQ VO (opQ k (nxT z))) := fun k => op_ace k (nxT z) hz.nx0 (by have := nx_len z; omega)
  have hfr := frag_ace (nxT z) hz.nx0 (by have := nx_len z; omega)
  obtain ⟨t, r, ht⟩ := hz.cons
  have hh := hdT_cons ht
  rw [hh] at hf
  by_cases hE : n ≠ 0 ∧ (hdT z).k = 5
  · rw [dc_end hE]
    rw [hh] at hE
    have K1 : (((n : Int) == 0) == false) = false → False := fun h => hE.1 (by simpa using h)
    have K2 : (t.k != 5) = true → False := fun h => by rw [hE.2] at h; cases h
    obtain ⟨zts, zvr, znd⟩ := z
    cases ht
    repeat' (first
 | (apply s_valW (VQ (queD ops frs)) rfl rfl
    · conv => lhs; whnf; arg 2; whnf
    · repeat' (first | exact VLe.refl _ | exact VLe.nil _ | exact VLe.lit _ _ | exact VLe.own _ _ _ | apply VLe.agg | apply VLeL.cons | exact VLeL.nil))
 | exact (K1 (by assumption)).elim
 | exact (K2 (by assumption)).elim
 | refine aw_seq ?_
 | refine aw_region ?_
 | refine awo_nil ?_
 | refine k_seq ?_
 | (apply s_pick_f rfl rfl
    · conv => lhs; whnf
    · conv => lhs; whnf
    · first | exact bF1 (by assumption) | exact bF2 (by assumption))
 | (apply s_val rfl
    · conv => lhs; whnf
    · conv => lhs; whnf; arg 2; whnf)
 | (apply s_store rfl rfl rfl
    · conv => lhs; whnf
    · conv => lhs; whnf; arg 1; whnf
    · conv => lhs; whnf; arg 1; whnf
    · exact ⟨by kernel_rfl, by kernel_rfl⟩
    · rfl)
 | (apply s_wanted_val rfl
    · conv => lhs; whnf
    · conv => lhs; whnf
    · first | rfl | assumption
    · conv => lhs; whnf; arg 2; whnf)
 | (apply s_guard_valU rfl
    · conv => lhs; whnf
    · conv => lhs; whnf
    · conv => lhs; whnf; arg 2; whnf)
 | (refine aw_cond (by conv => lhs; whnf) ?_ ?_ <;> intro hb)
 | refine aw_ret ?_
 | refine aw_exit ?_
 | refine k_seq_exit ?_
 | refine k_block_hit rfl ?_
 | refine k_loop_exit ?_
 | (apply k_endE_1 rfl
    · conv => lhs; whnf; arg 2; whnf
    · conv => lhs; whnf; arg 1; whnf)
 | exact trivial
 | intro hg)
    all_goals first
      | exact hd_in _ _
      | rfl
      | skip
  · have hE2 : ¬ (n ≠ 0 ∧ t.k = 5) := by rw [← hh]; exact hE
    have K0 : (((n : Int) == 0) == false) = true → (t.k != 5) = false → False := fun h1 h2 => hE2 ⟨fun h => (by rw [h] at h1; cases h1), by simpa using h2⟩
    have hop := hop (kindQ t.s)
    by_cases hW : wordQ z
    · by_cases hK : 0 < kindQ (hdT z).s
      · have e1 : n < 64 → docF (j + 1) n ops frs z = thenQ (opQ (kindQ (hdT z).s) (nxT z)) fun o y => docF j (n + 1) (ops ++ [o]) frs y := fun hn => dc_op hE hW hn hK
        have e2 : 64 ≤ n → docF (j + 1) n ops frs z = .error ((hdT z).i, 4) := fun hn => dc_lim hE (.inl hW) hn
        have hW1 := hW.1
        rw [hh] at hW1 hK e1 e2
        have K1 : ((t.k == 2) == true) = false → False := fun h => by rw [hW1] at h; cases h
        have K2 : decide (kindQ t.s > 0) = false → False := fun h => by simp at h; omega
        have K3 : (decide (kindQ t.s > 0) == false) = true → False := fun h => by simp at h; omega
        obtain ⟨zts, zvr, znd⟩ := z
        cases ht
        repeat' (first
 | (apply s_wpick_t rfl rfl rfl
    · conv => lhs; whnf
    · first | rfl | assumption
    · conv => lhs; whnf
    · first | exact bT1 (by assumption) | exact bT2 (by assumption) | rfl)
 | (apply aw_drawGD 9 ([(1,[3])]) ([(4,[1000000]),(6,[903]),(8,[3])]) rfl (by kernel_rfl) (by kernel_rfl) (by kernel_rfl))
 | apply g_nil
 | (apply g_val rfl
    · conv => lhs; whnf
    · conv => lhs; whnf; arg 2; whnf)
 | (apply g_app rfl rfl
    · conv => lhs; whnf
    · first | exact elemOp | (conv => lhs; whnf; arg 1; whnf)
    · first | exact fun _ => rfl | (intro _; kernel_rfl)
    · conv => lhs; whnf
    · rfl
    · conv => lhs; whnf; arg 1; whnf
    · conv => lhs; whnf)
 | (apply g_store rfl rfl rfl
    · conv => lhs; whnf
    · rfl
    · conv => lhs; whnf; arg 1; whnf
    · conv => lhs; whnf; arg 1; whnf
    · exact ⟨by kernel_rfl, by kernel_rfl⟩
    · rfl)
 | exact Or.inl ⟨pn 0, _, rfl⟩
 | refine Or.inr ?_
 | (apply g_pr cellsP cellsP_ren (default : D) rfl
    · conv => lhs; whnf
    · conv => lhs; whnf
    · rfl
    · conv => lhs; whnf; arg 1; whnf
    · first | exact etaP0 _
    · first | exact hop
    · exact fun _ => rfl
    · first | (intro _ _; simp only [renL, renV, ren_cells]; done) | exact fun _ _ => rfl
    · rfl
    refine fun ee hq tm rs => ?_
    change _ = Out.die _
    rotate_left 1
    refine fun aa xx hq => ?_
    rotate_left 1
    refine fun ee hq => ?_)
 | (show inO _ _ = true; rfl)
 | (apply g_lit [aa] rfl rfl
    · conv => lhs; whnf
    · first | exact elemOp | (conv => lhs; whnf; arg 1; whnf)
    · rfl
    · rfl
    · repeat' (first | exact trivial | apply And.intro | rfl))
 | (apply g_lit [default] rfl rfl
    · conv => lhs; whnf
    · first | exact elemOp | (conv => lhs; whnf; arg 1; whnf)
    · rfl
    · rfl
    · repeat' (first | exact trivial | apply And.intro | rfl))
 | (apply s_m cellsP cellsP_ren rfl
    · conv => lhs; whnf
    · conv => lhs; whnf
    · rfl
    · conv => lhs; whnf; arg 1; whnf
    · first | exact etaP0 _
    · first | exact hs | exact hnx
    · exact fun _ => rfl
    · exact fun _ => rfl)
 | (apply s_skipU rfl
    · conv => lhs; whnf
    · conv => lhs; whnf
    · first | rfl | assumption)
 | (apply s_dead rfl
    · conv => lhs; whnf
    · rfl
    · rfl)
 | (apply s_pr cellsP cellsP_ren rfl
    · conv => lhs; whnf
    · conv => lhs; whnf
    · rfl
    · conv => lhs; whnf; arg 1; whnf
    · first | exact etaP0 _
    · first | exact hli
    · exact fun _ => rfl
    · first | (intro _ _; simp only [renL, renV, ren_cells]; done) | exact fun _ _ => rfl
    refine fun ee hq => ?_
    change _ = Out.die _
    rotate_left 1
    refine fun aa xx hq => ?_
    first | (replace hq := lim_ok hq; obtain ⟨hq, rfl⟩ := hq) | (cases hq; have hq := True.intro) | skip)
 | exact (K0 (by assumption) (by assumption)).elim
 | exact (K1 (by assumption)).elim
 | exact (K2 (by assumption)).elim
 | exact (K3 (by assumption)).elim
 | refine aw_seq ?_
 | refine aw_region ?_
 | refine awo_nil ?_
 | refine k_seq ?_
 | refine k_block ?_
 | refine aw_block ?_
 | refine aw_skip ?_
 | (apply s_pick_t rfl rfl
    · conv => lhs; whnf
    · conv => lhs; whnf
    · first | exact bT1 (by assumption) | exact bT2 (by assumption))
 | (apply s_pick_f rfl rfl
    · conv => lhs; whnf
    · conv => lhs; whnf
    · first | exact bF1 (by assumption) | exact bF2 (by assumption))
 | (apply s_val rfl
    · conv => lhs; whnf
    · conv => lhs; whnf; arg 2; whnf)
 | (apply s_call rfl
    · conv => lhs; whnf
    · conv => lhs; whnf
    · first | exact hkd _)
 | (apply s_alloc rfl rfl rfl rfl
    · conv => lhs; whnf; arg 1; whnf
    · rfl)
 | (apply s_store rfl rfl rfl
    · conv => lhs; whnf
    · conv => lhs; whnf; arg 1; whnf
    · conv => lhs; whnf; arg 1; whnf
    · exact ⟨by kernel_rfl, by kernel_rfl⟩
    · rfl)
 | (apply s_wanted_val rfl
    · conv => lhs; whnf
    · conv => lhs; whnf
    · first | rfl | assumption
    · conv => lhs; whnf; arg 2; whnf)
 | (apply s_guard_valU rfl
    · conv => lhs; whnf
    · conv => lhs; whnf
    · conv => lhs; whnf; arg 2; whnf)
 | (apply aw_cond_t
    · conv => lhs; whnf; arg 1; arg 1; whnf)
 | (apply aw_cond_f
    · conv => lhs; whnf; arg 1; arg 1; whnf)
 | (refine aw_cond (by conv => lhs; whnf) ?_ ?_ <;> intro hb)
 | exact trivial
 | intro hg)
        all_goals first
          | exact hd_in _ _
          | exact i64_ok (by omega)
          | (refine ⟨by simp, ?_, ?_⟩ <;> simp only [List.length_cons, List.length_nil, maxLen] <;> omega)
          | (rw [e2 (lim_err hq).1, (lim_err hq).2]; rfl)
          | (rw [e1 (by assumption), then_err hq]; rfl)
          | (have hx := hz.nx0.op hq
             have hnl := nx_len ⟨t :: r, zvr, znd⟩
             refine k_loop_next (j' := j) (by omega) ⟨xx, n + 1, ops ++ [aa], frs, hx.1, by omega, by omega, by rw [List.length_append]; simp only [List.length_cons, List.length_nil]; omega, by omega, by rw [e1 (by assumption), then_ok hq], Sub.live ⟨rfl, rfl, rfl, rfl, trivial⟩ ⟨rfl, rfl, rfl, ?_, rfl, trivial⟩⟩
             show some (Res.tok _ (ops.length + 1)) = some (Res.tok _ (ops ++ [aa]).length)
             rw [List.length_append]; rfl)
          | skip
      · have e1 : n < 64 → docF (j + 1) n ops frs z = thenQ (fragQ (nxT z)) fun o y => docF j (n + 1) ops (frs ++ [o]) y := fun hn => dc_frag hE hW hn hK
        have e2 : 64 ≤ n → docF (j + 1) n ops frs z = .error ((hdT z).i, 4) := fun hn => dc_lim hE (.inl hW) hn
        have hW1 := hW.1
        have hW2 : (hdT z).s = fragT := hW.2.resolve_left hK
        rw [hh] at hW1 hW2 hK e2
        have K1 : ((t.k == 2) == true) = false → False := fun h => by rw [hW1] at h; cases h
        have K2 : decide (kindQ t.s > 0) = true → False := fun h => by simp at h; omega
        have K3 : (decide (kindQ t.s > 0) == false) = false → False := fun h => by simp at h; omega
        have K4 : ((bs t.s).toList == (⟨#[102, 114, 97, 103, 109, 101, 110, 116]⟩ : ByteArray).toList) = false → False := fun h => seq_f h hW2
        have K5 : (!((bs t.s).toList == (⟨#[102, 114, 97, 103, 109, 101, 110, 116]⟩ : ByteArray).toList)) = true → False := fun h => seq_nt h hW2
        have K6 : ((!((bs t.s).toList == (⟨#[102, 114, 97, 103, 109, 101, 110, 116]⟩ : ByteArray).toList)) == true) = true → False := fun h => seq_nt (by simpa using h) hW2
        obtain ⟨zts, zvr, znd⟩ := z
        cases ht
        repeat' (first
 | (apply s_wpick_t rfl rfl rfl
    · conv => lhs; whnf
    · first | rfl | assumption
    · conv => lhs; whnf
    · first | exact bT1 (by assumption) | exact bT2 (by assumption) | rfl)
 | (apply s_wpick_f rfl rfl rfl
    · conv => lhs; whnf
    · first | rfl | assumption
    · conv => lhs; whnf
    · first | exact bF1 (by assumption) | exact bF2 (by assumption) | rfl)
 | (apply aw_drawGD 8 ([(1,[3])]) ([(3,[1000000]),(5,[904]),(7,[3])]) rfl (by kernel_rfl) (by kernel_rfl) (by kernel_rfl))
 | apply g_nil
 | (apply g_val rfl
    · conv => lhs; whnf
    · conv => lhs; whnf; arg 2; whnf)
 | (apply g_app rfl rfl
    · conv => lhs; whnf
    · first | exact elemFrag | (conv => lhs; whnf; arg 1; whnf)
    · first | exact fun _ => rfl | (intro _; kernel_rfl)
    · conv => lhs; whnf
    · rfl
    · conv => lhs; whnf; arg 1; whnf
    · conv => lhs; whnf)
 | (apply g_store rfl rfl rfl
    · conv => lhs; whnf
    · rfl
    · conv => lhs; whnf; arg 1; whnf
    · conv => lhs; whnf; arg 1; whnf
    · exact ⟨by kernel_rfl, by kernel_rfl⟩
    · rfl)
 | exact Or.inl ⟨pn 0, _, rfl⟩
 | refine Or.inr ?_
 | (apply g_pr cellsP cellsP_ren (default : D) rfl
    · conv => lhs; whnf
    · conv => lhs; whnf
    · rfl
    · conv => lhs; whnf; arg 1; whnf
    · first | exact etaP0 _
    · first | exact hfr
    · exact fun _ => rfl
    · first | (intro _ _; simp only [renL, renV, ren_cells]; done) | exact fun _ _ => rfl
    · rfl
    refine fun ee hq tm rs => ?_
    change _ = Out.die _
    rotate_left 1
    refine fun aa xx hq => ?_
    rotate_left 1
    refine fun ee hq => ?_)
 | (show inO _ _ = true; rfl)
 | (apply g_lit [aa] rfl rfl
    · conv => lhs; whnf
    · first | exact elemFrag | (conv => lhs; whnf; arg 1; whnf)
    · rfl
    · rfl
    · repeat' (first | exact trivial | apply And.intro | rfl))
 | (apply g_lit [default] rfl rfl
    · conv => lhs; whnf
    · first | exact elemFrag | (conv => lhs; whnf; arg 1; whnf)
    · rfl
    · rfl
    · repeat' (first | exact trivial | apply And.intro | rfl))
 | (apply s_m cellsP cellsP_ren rfl
    · conv => lhs; whnf
    · conv => lhs; whnf
    · rfl
    · conv => lhs; whnf; arg 1; whnf
    · first | exact etaP0 _
    · first | exact hs | exact hnx
    · exact fun _ => rfl
    · exact fun _ => rfl)
 | (apply s_wanted_m cellsP cellsP_ren rfl
    · conv => lhs; whnf
    · conv => lhs; whnf
    · first | rfl | assumption
    · conv => lhs; whnf
    · rfl
    · conv => lhs; whnf; arg 1; whnf
    · first | exact etaP0 _
    · first | exact hs | exact hnx
    · exact fun _ => rfl
    · exact fun _ => rfl)
 | (apply s_skipU rfl
    · conv => lhs; whnf
    · conv => lhs; whnf
    · first | rfl | assumption)
 | (apply s_dead rfl
    · conv => lhs; whnf
    · rfl
    · rfl)
 | (apply s_pr cellsP cellsP_ren rfl
    · conv => lhs; whnf
    · conv => lhs; whnf
    · rfl
    · conv => lhs; whnf; arg 1; whnf
    · first | exact etaP0 _
    · first | exact hli
    · exact fun _ => rfl
    · first | (intro _ _; simp only [renL, renV, ren_cells]; done) | exact fun _ _ => rfl
    refine fun ee hq => ?_
    change _ = Out.die _
    rotate_left 1
    refine fun aa xx hq => ?_
    first | (replace hq := lim_ok hq; obtain ⟨hq, rfl⟩ := hq) | (cases hq; have hq := True.intro) | skip)
 | exact (K0 (by assumption) (by assumption)).elim
 | exact (K1 (by assumption)).elim
 | exact (K2 (by assumption)).elim
 | exact (K3 (by assumption)).elim
 | exact (K5 (by assumption)).elim
 | exact (K6 (by assumption)).elim
 | refine aw_seq ?_
 | refine aw_region ?_
 | refine awo_nil ?_
 | refine k_seq ?_
 | refine k_block ?_
 | refine aw_block ?_
 | refine aw_skip ?_
 | (apply s_pick_t rfl rfl
    · conv => lhs; whnf
    · conv => lhs; whnf
    · first | exact bT1 (by assumption) | exact bT2 (by assumption))
 | (apply s_pick_f rfl rfl
    · conv => lhs; whnf
    · conv => lhs; whnf
    · first | exact bF1 (by assumption) | exact bF2 (by assumption))
 | (apply s_val rfl
    · conv => lhs; whnf
    · conv => lhs; whnf; arg 2; whnf)
 | (apply s_call rfl
    · conv => lhs; whnf
    · conv => lhs; whnf
    · first | exact hkd _)
 | (apply s_alloc rfl rfl rfl rfl
    · conv => lhs; whnf; arg 1; whnf
    · rfl)
 | (apply s_store rfl rfl rfl
    · conv => lhs; whnf
    · conv => lhs; whnf; arg 1; whnf
    · conv => lhs; whnf; arg 1; whnf
    · exact ⟨by kernel_rfl, by kernel_rfl⟩
    · rfl)
 | (apply s_wanted_val rfl
    · conv => lhs; whnf
    · conv => lhs; whnf
    · first | rfl | assumption
    · conv => lhs; whnf; arg 2; whnf)
 | (apply s_guard_valU rfl
    · conv => lhs; whnf
    · conv => lhs; whnf
    · conv => lhs; whnf; arg 2; whnf)
 | (apply aw_cond_t
    · conv => lhs; whnf; arg 1; arg 1; whnf)
 | (apply aw_cond_f
    · conv => lhs; whnf; arg 1; arg 1; whnf)
 | (refine aw_cond (by conv => lhs; whnf) ?_ ?_ <;> intro hb)
 | exact trivial
 | intro hg)
        all_goals first
          | exact hd_in _ _
          | exact i64_ok (by omega)
          | (refine ⟨by simp, ?_, ?_⟩ <;> simp only [List.length_cons, List.length_nil, maxLen] <;> omega)
          | (rw [e2 (lim_err hq).1, (lim_err hq).2]; rfl)
          | (rw [e1 (by assumption), then_err hq]; rfl)
          | (have hx := hz.nx0.frag hq
             have hnl := nx_len ⟨t :: r, zvr, znd⟩
             refine k_loop_next (j' := j) (by omega) ⟨xx, n + 1, ops, frs ++ [aa], hx.1, by omega, by omega, by rw [List.length_append]; simp only [List.length_cons, List.length_nil]; omega, by omega, by rw [e1 (by assumption), then_ok hq], Sub.live ⟨rfl, rfl, rfl, rfl, trivial⟩ ⟨rfl, rfl, rfl, rfl, ?_, trivial⟩⟩
             show some (Res.tok _ (frs.length + 1)) = some (Res.tok _ (frs ++ [aa]).length)
             rw [List.length_append]; rfl)
          | skip
    · have hW2 : ¬ (t.k = 2 ∧ (0 < kindQ t.s ∨ t.s = fragT)) := by rw [← hh]; exact hW
      have K1 : ((t.k == 2) == true) = true → decide (kindQ t.s > 0) = true → False := fun h1 h2 => hW2 ⟨by simpa using h1, .inl (by simpa using h2)⟩
      have K2 : ((t.k == 2) == true) = true → (decide (kindQ t.s > 0) == false) = false → False := fun h1 h2 => hW2 ⟨by simpa using h1, .inl (by simpa using h2)⟩
      have K3 : ((t.k == 2) == true) = true → ((bs t.s).toList == (⟨#[102, 114, 97, 103, 109, 101, 110, 116]⟩ : ByteArray).toList) = true → False := fun h1 h2 => hW2 ⟨by simpa using h1, .inr (seq_t h2)⟩
      have K4 : ((t.k == 2) == true) = true → (!((bs t.s).toList == (⟨#[102, 114, 97, 103, 109, 101, 110, 116]⟩ : ByteArray).toList)) = false → False := fun h1 h2 => hW2 ⟨by simpa using h1, .inr (seq_nf h2)⟩
      have K5 : ((t.k == 2) == true) = true → ((!((bs t.s).toList == (⟨#[102, 114, 97, 103, 109, 101, 110, 116]⟩ : ByteArray).toList)) == true) = false → False := fun h1 h2 => hW2 ⟨by simpa using h1, .inr (seq_nf (by simpa using h2))⟩
      by_cases hS : isS z [123] = true
      · have e1 : n < 64 → docF (j + 1) n ops frs z = thenQ (setQ z) fun ss y => docF j (n + 1) (ops ++ [opD 1 [] [] ss]) frs y := fun hn => dc_set hE hW hS hn
        have e2 : 64 ≤ n → docF (j + 1) n ops frs z = .error ((hdT z).i, 4) := fun hn => dc_lim hE (.inr hS) hn
        have K6 : isS z [123] = false → False := fun h => by rw [hS] at h; cases h
        have K7 : (!isS z [123]) = true → False := fun h => by rw [hS] at h; cases h
        rw [hh] at e2
        obtain ⟨zts, zvr, znd⟩ := z
        cases ht
        repeat' (first
 | (apply s_wpick_t rfl rfl rfl
    · conv => lhs; whnf
    · first | rfl | assumption
    · conv => lhs; whnf
    · first | exact bT1 (by assumption) | exact bT2 (by assumption) | rfl)
 | (apply s_wpick_f rfl rfl rfl
    · conv => lhs; whnf
    · first | rfl | assumption
    · conv => lhs; whnf
    · first | exact bF1 (by assumption) | exact bF2 (by assumption) | rfl)
 | (apply g_valW (VO (opD 1 [] [] _)) rfl rfl
    · conv => lhs; whnf; arg 2; whnf
    · repeat' (first | exact VLe.refl _ | exact VLe.nil _ | exact VLe.lit _ _ | exact VLe.own _ _ _ | apply VLe.agg | apply VLeL.cons | exact VLeL.nil))
 | (apply aw_drawGD 9 ([(1,[3])]) ([(3,[1000000]),(6,[903]),(8,[3])]) rfl (by kernel_rfl) (by kernel_rfl) (by kernel_rfl))
 | apply g_nil
 | (apply g_val rfl
    · conv => lhs; whnf
    · conv => lhs; whnf; arg 2; whnf)
 | (apply g_app rfl rfl
    · conv => lhs; whnf
    · first | exact elemOp | (conv => lhs; whnf; arg 1; whnf)
    · first | exact fun _ => rfl | (intro _; kernel_rfl)
    · conv => lhs; whnf
    · rfl
    · conv => lhs; whnf; arg 1; whnf
    · conv => lhs; whnf)
 | (apply g_store rfl rfl rfl
    · conv => lhs; whnf
    · rfl
    · conv => lhs; whnf; arg 1; whnf
    · conv => lhs; whnf; arg 1; whnf
    · exact ⟨by kernel_rfl, by kernel_rfl⟩
    · rfl)
 | exact Or.inl ⟨pn 0, _, rfl⟩
 | refine Or.inr ?_
 | (apply g_pr cellsP cellsP_ren ([] : List D) rfl
    · conv => lhs; whnf
    · conv => lhs; whnf
    · rfl
    · conv => lhs; whnf; arg 1; whnf
    · first | exact etaP0 _
    · first | exact hse
    · exact fun _ => rfl
    · first | (intro _ _; simp only [renL, renV, ren_cells]; done) | exact fun _ _ => rfl
    · rfl
    refine fun ee hq tm rs => ?_
    change _ = Out.die _
    rotate_left 1
    refine fun aa xx hq => ?_
    rotate_left 1
    refine fun ee hq => ?_)
 | (show inO _ _ = true; rfl)
 | (apply g_lit [opD 1 [] [] _] rfl rfl
    · conv => lhs; whnf
    · first | exact elemOp | (conv => lhs; whnf; arg 1; whnf)
    · rfl
    · rfl
    · repeat' (first | exact trivial | apply And.intro | rfl))
 | (apply s_wanted_m cellsP cellsP_ren rfl
    · conv => lhs; whnf
    · conv => lhs; whnf
    · first | rfl | assumption
    · conv => lhs; whnf
    · rfl
    · conv => lhs; whnf; arg 1; whnf
    · first | exact etaP0 _
    · first | exact hs | exact hnx
    · exact fun _ => rfl
    · exact fun _ => rfl)
 | (apply s_skipU rfl
    · conv => lhs; whnf
    · conv => lhs; whnf
    · first | rfl | assumption)
 | (apply s_dead rfl
    · conv => lhs; whnf
    · rfl
    · rfl)
 | (apply s_pr cellsP cellsP_ren rfl
    · conv => lhs; whnf
    · conv => lhs; whnf
    · rfl
    · conv => lhs; whnf; arg 1; whnf
    · first | exact etaP0 _
    · first | exact hli
    · exact fun _ => rfl
    · first | (intro _ _; simp only [renL, renV, ren_cells]; done) | exact fun _ _ => rfl
    refine fun ee hq => ?_
    change _ = Out.die _
    rotate_left 1
    refine fun aa xx hq => ?_
    first | (replace hq := lim_ok hq; obtain ⟨hq, rfl⟩ := hq) | (cases hq; have hq := True.intro) | skip)
 | exact (K0 (by assumption) (by assumption)).elim
 | exact (K2 (by assumption) (by assumption)).elim
 | exact (K4 (by assumption) (by assumption)).elim
 | exact (K5 (by assumption) (by assumption)).elim
 | exact (K7 (by assumption)).elim
 | refine aw_seq ?_
 | refine aw_region ?_
 | refine awo_nil ?_
 | refine k_seq ?_
 | refine k_block ?_
 | refine aw_block ?_
 | refine aw_skip ?_
 | (apply s_pick_t rfl rfl
    · conv => lhs; whnf
    · conv => lhs; whnf
    · first | exact bT1 (by assumption) | exact bT2 (by assumption))
 | (apply s_pick_f rfl rfl
    · conv => lhs; whnf
    · conv => lhs; whnf
    · first | exact bF1 (by assumption) | exact bF2 (by assumption))
 | (apply s_val rfl
    · conv => lhs; whnf
    · conv => lhs; whnf; arg 2; whnf)
 | (apply s_call rfl
    · conv => lhs; whnf
    · conv => lhs; whnf
    · first | exact hkd _)
 | (apply s_alloc rfl rfl rfl rfl
    · conv => lhs; whnf; arg 1; whnf
    · rfl)
 | (apply s_store rfl rfl rfl
    · conv => lhs; whnf
    · conv => lhs; whnf; arg 1; whnf
    · conv => lhs; whnf; arg 1; whnf
    · exact ⟨by kernel_rfl, by kernel_rfl⟩
    · rfl)
 | (apply s_wanted_val rfl
    · conv => lhs; whnf
    · conv => lhs; whnf
    · first | rfl | assumption
    · conv => lhs; whnf; arg 2; whnf)
 | (apply s_guard_valU rfl
    · conv => lhs; whnf
    · conv => lhs; whnf
    · conv => lhs; whnf; arg 2; whnf)
 | (apply aw_cond_t
    · conv => lhs; whnf; arg 1; arg 1; whnf)
 | (refine aw_cond (by conv => lhs; whnf) ?_ ?_ <;> intro hb)
 | exact trivial
 | intro hg)
        all_goals first
          | exact hd_in _ _
          | exact i64_ok (by omega)
          | (refine ⟨by simp, ?_, ?_⟩ <;> simp only [List.length_cons, List.length_nil, maxLen] <;> omega)
          | (rw [e2 (lim_err hq).1, (lim_err hq).2]; rfl)
          | (rw [e1 (by assumption), then_err hq]; rfl)
          | (have hx := hz.sels hq
             have hnl := nx_len ⟨t :: r, zvr, znd⟩
             refine k_loop_next (j' := j) (by omega) ⟨xx, n + 1, ops ++ [opD 1 [] [] aa], frs, hx.1, by omega, by omega, by rw [List.length_append]; simp only [List.length_cons, List.length_nil]; omega, by omega, by rw [e1 (by assumption), then_ok hq], Sub.live ⟨rfl, rfl, rfl, rfl, trivial⟩ ⟨rfl, rfl, rfl, ?_, rfl, trivial⟩⟩
             show some (Res.tok _ (ops.length + 1)) = some (Res.tok _ (ops ++ [opD 1 [] [] aa]).length)
             rw [List.length_append]; rfl)
          | skip
      · have hS : isS z [123] = false := by simpa using hS
        have e1 := dc_un (f := j) (n := n) (ops := ops) (frs := frs) hE hW hS
        have K6 : isS z [123] = true → False := fun h => by rw [hS] at h; cases h
        have K7 : (!isS z [123]) = false → False := fun h => by rw [hS] at h; cases h
        rw [e1, hh]
        obtain ⟨zts, zvr, znd⟩ := z
        cases ht
        repeat' (first
 | (apply s_wpick_t rfl rfl rfl
    · conv => lhs; whnf
    · first | rfl | assumption
    · conv => lhs; whnf
    · first | exact bT1 (by assumption) | exact bT2 (by assumption) | rfl)
 | (apply s_wpick_f rfl rfl rfl
    · conv => lhs; whnf
    · first | rfl | assumption
    · conv => lhs; whnf
    · first | exact bF1 (by assumption) | exact bF2 (by assumption) | rfl)
 | (apply s_wanted_m cellsP cellsP_ren rfl
    · conv => lhs; whnf
    · conv => lhs; whnf
    · first | rfl | assumption
    · conv => lhs; whnf
    · rfl
    · conv => lhs; whnf; arg 1; whnf
    · first | exact etaP0 _
    · first | exact hs | exact hnx
    · exact fun _ => rfl
    · exact fun _ => rfl)
 | (apply s_skipU rfl
    · conv => lhs; whnf
    · conv => lhs; whnf
    · first | rfl | assumption)
 | (apply s_dead rfl
    · conv => lhs; whnf
    · rfl
    · rfl)
 | (apply s_dieC rfl
    · conv => lhs; whnf
    · first | exact hf
    · first | exact fun _ => rfl | (intro _; simp only [renL, renV, ren_cells])
    change _ = Out.die _)
 | exact (K0 (by assumption) (by assumption)).elim
 | exact (K2 (by assumption) (by assumption)).elim
 | exact (K5 (by assumption) (by assumption)).elim
 | exact (K7 (by assumption)).elim
 | refine aw_seq ?_
 | refine aw_region ?_
 | refine awo_nil ?_
 | refine k_seq ?_
 | refine aw_block ?_
 | refine aw_skip ?_
 | (apply s_pick_t rfl rfl
    · conv => lhs; whnf
    · conv => lhs; whnf
    · first | exact bT1 (by assumption) | exact bT2 (by assumption))
 | (apply s_pick_f rfl rfl
    · conv => lhs; whnf
    · conv => lhs; whnf
    · first | exact bF1 (by assumption) | exact bF2 (by assumption))
 | (apply s_val rfl
    · conv => lhs; whnf
    · conv => lhs; whnf; arg 2; whnf)
 | (apply s_call rfl
    · conv => lhs; whnf
    · conv => lhs; whnf
    · first | exact hkd _)
 | (apply s_alloc rfl rfl rfl rfl
    · conv => lhs; whnf; arg 1; whnf
    · rfl)
 | (apply s_store rfl rfl rfl
    · conv => lhs; whnf
    · conv => lhs; whnf; arg 1; whnf
    · conv => lhs; whnf; arg 1; whnf
    · exact ⟨by kernel_rfl, by kernel_rfl⟩
    · rfl)
 | (apply s_wanted_val rfl
    · conv => lhs; whnf
    · conv => lhs; whnf
    · first | rfl | assumption
    · conv => lhs; whnf; arg 2; whnf)
 | (apply s_guard_valU rfl
    · conv => lhs; whnf
    · conv => lhs; whnf
    · conv => lhs; whnf; arg 2; whnf)
 | (apply aw_cond_t
    · conv => lhs; whnf; arg 1; arg 1; whnf)
 | (refine aw_cond (by conv => lhs; whnf) ?_ ?_ <;> intro hb)
 | exact trivial
 | intro hg)
        all_goals first
          | exact hd_in _ _
          | rfl
          | skip
end Go.Proofs.YthjiclhfhjdjpaaGreatDoor
