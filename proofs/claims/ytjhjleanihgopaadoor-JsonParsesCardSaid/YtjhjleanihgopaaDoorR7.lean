/- Parts of a proof, merged by a program (shake.py). -/
import Derived.Test.YtjhjleanihgopaaDoorR6
set_option linter.unusedVariables false
set_option linter.unusedSimpArgs false
namespace Go.Proofs.YtjhjleanihgopaaDoor
open Go.RowKit
attribute [local irreducible] wpList Calls Code.wp AW AWo OpOk seqK blockK scopeK loopK endK endKB AC ACB absLex absLexG Yld YldG Sub
noncomputable def HoQ (s : ByteArray) (lv : Nat) (y : JS) (ks : List (List UInt8)) (l : List D) : Vst 106 :=
  stS 106 [(0, .bx (pn 0) 0), (1, .c (.int .i64 lv)), (4, .bx 4 0), (5, .bx 5 0)]
    [(pn 0, boxQ s y), (4, .box 39 zeroCv), (5, .box 39 [.c (.int .i64 6), .c (.int .i64 0), .c (.string { data := #[] }), .own 81 39 l, .own 75 9 (keysD ks)]), (81, .tok 39 l.length), (75, .tok 9 (keysD ks).length)]
noncomputable def obV (S : List UInt8) (f : JS → D × JS) (x : JS) : V :=
  if atS S (spaceS S (goS x)) = 125 then .agg (leafV (vD 6 0 [] [] [])) else fdV S f (S.length + 2) (spaceS S (goS x)) [] []
set_option maxRecDepth 100000 in
theorem obV_le (S : List UInt8) (f : JS → D × JS) (x : JS) : VLe (obV S f x) (.agg (cellsV Tryd.prog 12 39 (objR S f x).1)) := by
  unfold obV objR
  dsimp only
  split
  · exact leafV_le 6 0 []
  · exact fdV_le _ _ _ _ _ _
set_option maxHeartbeats 4000000 in
set_option maxRecDepth 100000 in
theorem objQ_raw (s : ByteArray) (f : JS → D × JS) (lv : Nat) (x : JS) (hlv : lv ≤ 1000) (hs : s.size ≤ 100000) (hp : x.p < s.size) (hm : x.m ≤ 4096) (hf : FOk s.data.toList f)
    (hc : ∀ y, y.p ≤ s.size → y.m ≤ 4096 → y.e = 0 → ACB EN5 Tryd.prog 41 [.bx (pn 0) 0, .c (.int .i64 ((lv : Int) + 1))] [boxQ s y] (.agg (cellsV Tryd.prog 12 39 (f y).1)) [boxQ s (f y).2]) :
    ACB EN5 Tryd.prog 73 [.bx (pn 0) 0, .c (.int .i64 (lv : Int))] [boxQ s x] (obV s.data.toList f x) [boxQ s (objR s.data.toList f x).2] := by
  have hlen : s.data.toList.length = s.size := rfl
  have g1 := mv_go (S := s.data.toList) hp
  have g2 := g1.trans (mv_space g1.hi)
  have h1 := skipQ_acb s (goS x) (by omega) g1.hi
  have hpk := nextQ_acb s (spaceS s.data.toList (goS x)) (by omega)
  have hO := (g2.mc hm).oc
  have hlt : atS s.data.toList (spaceS s.data.toList (goS x)) = 125 → (spaceS s.data.toList (goS x)).p < s.size := fun h => at_lt (S := s.data.toList) (by decide) h
  unfold obV objR
  dsimp only
  generalize spaceS s.data.toList (goS x) = y0 at h1 hpk hO hlt
  refine acb_enter (fn := Tryd.f73) 106 Tryd.func73 rfl rfl ?_
  intro pas w0 w he hpp
  repeat' (first
    | (apply s_meth (cellsQ s) (fun _ _ => rfl) rfl
       · conv => lhs; whnf
       · conv => lhs; whnf
       · rfl
       · conv => lhs; whnf; arg 1; whnf
       · first | exact eta0 _ _ | exact eta1 _ _ | exact eta2 _ _ | exact eta3 _ _ | exact eta6 _ | exact etaQ0 _ _ | exact etaQ1 _ _ | exact etaQ2 _ _ | exact etaQ3 _ _ | exact etaQ6 _
       · first | exact h1 | exact hpk
       · exact fun _ => rfl
       · exact fun _ => rfl)
    | (apply s_wanted_meth (cellsQ s) (fun _ _ => rfl) rfl
       · conv => lhs; whnf
       · conv => lhs; whnf
       · first | rfl | assumption
       · conv => lhs; whnf
       · rfl
       · conv => lhs; whnf; arg 1; whnf
       · first | exact eta0 _ _ | exact eta1 _ _ | exact eta2 _ _ | exact eta3 _ _ | exact eta6 _ | exact etaQ0 _ _ | exact etaQ1 _ _ | exact etaQ2 _ _ | exact etaQ3 _ _ | exact etaQ6 _
       · first | exact h1 | exact hpk
       · exact fun _ => rfl
       · exact fun _ => rfl)
    | (apply s_skip rfl
       · conv => lhs; whnf
       · conv => lhs; whnf
       · first | rfl | assumption)
    | (apply s_guard_meth (cellsQ s) (fun _ _ => rfl) rfl
       · conv => lhs; whnf
       · conv => lhs; whnf
       · conv => lhs; whnf
       · rfl
       · conv => lhs; whnf; arg 1; whnf
       · first | exact eta0 _ _ | exact eta1 _ _ | exact eta2 _ _ | exact eta3 _ _ | exact eta6 _ | exact etaQ0 _ _ | exact etaQ1 _ _ | exact etaQ2 _ _ | exact etaQ3 _ _ | exact etaQ6 _
       · first | exact h1 | exact hpk
       · exact fun _ => rfl
       · exact fun _ => rfl)
    | refine aw_seq ?_
    | refine aw_region ?_
    | refine awo_nil ?_
    | refine k_seq ?_
    | refine k_block ?_
    | refine k_scope ?_
    | refine aw_block ?_
    | refine aw_skip ?_
    | refine aw_label ?_
    | refine aw_scope ?_
    | (apply s_pick_t rfl rfl
       · conv => lhs; whnf
       · conv => lhs; whnf
       · first | exact bT1 (by assumption) | exact bT2 (by assumption))
    | (apply s_pick_f rfl rfl
       · conv => lhs; whnf
       · conv => lhs; whnf
       · first | exact bF1 (by assumption) | exact bF2 (by assumption))
    | (apply s_val rfl
       · conv => lhs; whnf
       · conv => lhs; whnf; arg 2; whnf)
    | (apply s_call rfl
       · conv => lhs; whnf
       · conv => lhs; whnf
       · first | fail)
    | (apply s_alloc rfl rfl rfl rfl
       · conv => lhs; whnf; arg 1; whnf
       · rfl)
    | (apply s_store rfl rfl rfl
       · conv => lhs; whnf
       · conv => lhs; whnf; arg 1; whnf
       · conv => lhs; whnf; arg 1; whnf
       · exact ⟨by kernel_rfl, by kernel_rfl⟩
       · rfl)
    | (apply s_app rfl rfl
       · conv => lhs; whnf
       · first | (conv => lhs; whnf; arg 1; whnf)
       · first | exact fun _ => rfl | (intro _; kernel_rfl)
       · conv => lhs; whnf
       · conv => lhs; whnf; arg 1; whnf
       · conv => lhs; whnf)
    | (apply s_app_nil rfl rfl rfl rfl
       · first | (conv => lhs; whnf; arg 1; whnf)
       · first | exact fun _ => rfl | (intro _; kernel_rfl)
       · conv => lhs; whnf
       · conv => lhs; whnf)
    | (apply s_lit0 rfl rfl
       · conv => lhs; whnf
       · first | (conv => lhs; whnf; arg 1; whnf))
    | (apply s_lit1 rfl rfl
       · conv => lhs; whnf
       · first | (conv => lhs; whnf; arg 1; whnf)
       · conv => lhs; whnf; arg 1; whnf
       · rfl
       · rfl)
    | (apply s_onlit rfl rfl
       · conv => lhs; whnf
       · first | (conv => lhs; whnf; arg 1; whnf)
       · first | exact fun _ => rfl | (intro _; kernel_rfl)
       · conv => lhs; whnf
       · conv => lhs; whnf)
    | (apply s_wanted_val rfl
       · conv => lhs; whnf
       · conv => lhs; whnf
       · first | rfl | assumption
       · conv => lhs; whnf; arg 2; whnf)
    | (apply s_wanted_call rfl
       · conv => lhs; whnf
       · conv => lhs; whnf
       · first | rfl | assumption
       · conv => lhs; whnf
       · first | fail)
    | (apply s_skip rfl
       · conv => lhs; whnf
       · conv => lhs; whnf
       · first | rfl | assumption)
    | (apply s_guard_val rfl
       · conv => lhs; whnf
       · conv => lhs; whnf
       · conv => lhs; whnf; arg 2; whnf)
    | (apply s_guard_call rfl
       · conv => lhs; whnf
       · conv => lhs; whnf
       · conv => lhs; whnf
       · first | fail)
    | (apply aw_cond_t
       · conv => lhs; whnf; arg 1; arg 1; whnf)
    | (apply aw_cond_f
       · conv => lhs; whnf; arg 1; arg 1; whnf)
    | (refine aw_cond (by conv => lhs; whnf) ?_ ?_ <;> intro hb)
    | refine aw_ret ?_
    | refine aw_exit ?_
    | refine k_seq_exit ?_
    | refine k_seq_ret ?_
    | refine k_block_ret ?_
    | refine k_block_hit rfl ?_
    | refine k_block_miss rfl ?_
    | refine k_scope_exit ?_
    | refine k_scope_ret ?_
    | refine k_loop_exit ?_
    | refine k_loop_ret ?_
    | refine k_endB ⟨?_, ?_⟩
    | refine k_endB_ret ⟨?_, ?_⟩
    | exact (rfl : _ = V.tup [])
    | (refine ⟨_, by conv => lhs; whnf; arg 2; whnf, ?_⟩; conv => rhs; whnf)
    | exact trivial
    | intro hg)
  · have h : atS s.data.toList y0 = 125 := u8_eq (n := 125) (by assumption) (by decide)
    rw [if_pos h]; rfl
  · have h : atS s.data.toList y0 = 125 := u8_eq (n := 125) (by assumption) (by decide)
    rw [if_pos h]; exact ⟨rfl, trivial⟩
  · have h : atS s.data.toList y0 = 125 := u8_eq (n := 125) (by assumption) (by decide)
    have := hlt h
    exact i64_in2 (by omega)
  · have hn : ¬ atS s.data.toList y0 = 125 := u8_ne2 (n := 125) (by assumption) (by decide)
    rw [if_neg hn, if_neg hn]
    generalize hR : fdV s.data.toList f (s.data.toList.length + 2) y0 [] [] = R
    generalize hR2 : (fieldsR s.data.toList f (s.data.toList.length + 2) y0 [] []).2 = R2
    refine aw_sub (Sub.ownF (m := 5) (q := 81) (i := 3) (e := 39) rfl (by decide) rfl rfl rfl) ?_
    refine aw_sub (Sub.ownF (m := 5) (q := 75) (i := 4) (e := 9) rfl (by decide) rfl rfl rfl) ?_
    refine aw_loop (fun j st => ∃ y ks l, fdV s.data.toList f j y ks l = R ∧ (fieldsR s.data.toList f j y ks l).2 = R2 ∧ Oc s.data.toList y ∧ (y.e = 0 → s.size - y.p + 1 ≤ j) ∧ l.length + j ≤ s.size + 2 ∧ ks.length = l.length ∧ Sub ⟨Tryd.prog, pas, w0, w, EN5, he, hpp⟩ st (HoQ s lv y ks l)) (s.data.toList.length + 2) ⟨y0, [], [], hR, hR2, hO, fun _ => by omega, by simp [hlen], rfl, ?_⟩ ?_
    · exact Sub.live ⟨rfl, rfl, rfl, rfl, trivial⟩ ⟨rfl, rfl, rfl, rfl, rfl, trivial⟩
    · rintro j st ⟨y, ks, l, hR, hR2, hO, hj, hl, hkl, hs2⟩
      refine aw_sub hs2 ?_
      clear hs2
      by_cases g0 : y.e = 0
      rotate_left 1
      · have f1 := b_ne g0
        obtain ⟨e1, e2⟩ := fdQ_e (S := s.data.toList) (f := f) (j := j) (ks := ks) (l := l) g0
        rw [e1] at hR
        rw [e2] at hR2
        subst hR hR2
        repeat' (first
    | (apply s_meth (cellsQ s) (fun _ _ => rfl) rfl
       · conv => lhs; whnf
       · conv => lhs; whnf
       · rfl
       · conv => lhs; whnf; arg 1; whnf
       · first | exact eta0 _ _ | exact eta1 _ _ | exact eta2 _ _ | exact eta3 _ _ | exact eta6 _ | exact etaQ0 _ _ | exact etaQ1 _ _ | exact etaQ2 _ _ | exact etaQ3 _ _ | exact etaQ6 _
       · first | 
       · exact fun _ => rfl
       · exact fun _ => rfl)
    | (apply s_wanted_meth (cellsQ s) (fun _ _ => rfl) rfl
       · conv => lhs; whnf
       · conv => lhs; whnf
       · first | rfl | assumption
       · conv => lhs; whnf
       · rfl
       · conv => lhs; whnf; arg 1; whnf
       · first | exact eta0 _ _ | exact eta1 _ _ | exact eta2 _ _ | exact eta3 _ _ | exact eta6 _ | exact etaQ0 _ _ | exact etaQ1 _ _ | exact etaQ2 _ _ | exact etaQ3 _ _ | exact etaQ6 _
       · first | 
       · exact fun _ => rfl
       · exact fun _ => rfl)
    | (apply s_skip rfl
       · conv => lhs; whnf
       · conv => lhs; whnf
       · first | rfl | assumption)
    | (apply s_guard_meth (cellsQ s) (fun _ _ => rfl) rfl
       · conv => lhs; whnf
       · conv => lhs; whnf
       · conv => lhs; whnf
       · rfl
       · conv => lhs; whnf; arg 1; whnf
       · first | exact eta0 _ _ | exact eta1 _ _ | exact eta2 _ _ | exact eta3 _ _ | exact eta6 _ | exact etaQ0 _ _ | exact etaQ1 _ _ | exact etaQ2 _ _ | exact etaQ3 _ _ | exact etaQ6 _
       · first | 
       · exact fun _ => rfl
       · exact fun _ => rfl)
    | (apply aw_cond_kt
       · conv => lhs; whnf
       · assumption)
    | (apply aw_cond_kf
       · conv => lhs; whnf
       · assumption)
    | refine k_cut_ret ?_
    | refine k_cut_exit ?_
    | refine k_cut ?_
    | refine aw_seq ?_
    | refine aw_region ?_
    | refine awo_nil ?_
    | refine k_seq ?_
    | refine k_block ?_
    | refine k_scope ?_
    | refine aw_block ?_
    | refine aw_skip ?_
    | refine aw_label ?_
    | refine aw_scope ?_
    | (apply s_pick_t rfl rfl
       · conv => lhs; whnf
       · conv => lhs; whnf
       · first | exact bT1 (by assumption) | exact bT2 (by assumption))
    | (apply s_pick_f rfl rfl
       · conv => lhs; whnf
       · conv => lhs; whnf
       · first | exact bF1 (by assumption) | exact bF2 (by assumption))
    | (apply s_val rfl
       · conv => lhs; whnf
       · conv => lhs; whnf; arg 2; whnf)
    | (apply s_call rfl
       · conv => lhs; whnf
       · conv => lhs; whnf
       · first | fail)
    | (apply s_alloc rfl rfl rfl rfl
       · conv => lhs; whnf; arg 1; whnf
       · rfl)
    | (apply s_store rfl rfl rfl
       · conv => lhs; whnf
       · conv => lhs; whnf; arg 1; whnf
       · conv => lhs; whnf; arg 1; whnf
       · exact ⟨by kernel_rfl, by kernel_rfl⟩
       · rfl)
    | (apply s_app rfl rfl
       · conv => lhs; whnf
       · first | (conv => lhs; whnf; arg 1; whnf)
       · first | exact fun _ => rfl | (intro _; kernel_rfl)
       · conv => lhs; whnf
       · conv => lhs; whnf; arg 1; whnf
       · conv => lhs; whnf)
    | (apply s_app_nil rfl rfl rfl rfl
       · first | (conv => lhs; whnf; arg 1; whnf)
       · first | exact fun _ => rfl | (intro _; kernel_rfl)
       · conv => lhs; whnf
       · conv => lhs; whnf)
    | (apply s_lit0 rfl rfl
       · conv => lhs; whnf
       · first | (conv => lhs; whnf; arg 1; whnf))
    | (apply s_lit1 rfl rfl
       · conv => lhs; whnf
       · first | (conv => lhs; whnf; arg 1; whnf)
       · conv => lhs; whnf; arg 1; whnf
       · rfl
       · rfl)
    | (apply s_onlit rfl rfl
       · conv => lhs; whnf
       · first | (conv => lhs; whnf; arg 1; whnf)
       · first | exact fun _ => rfl | (intro _; kernel_rfl)
       · conv => lhs; whnf
       · conv => lhs; whnf)
    | (apply s_wanted_val rfl
       · conv => lhs; whnf
       · conv => lhs; whnf
       · first | rfl | assumption
       · conv => lhs; whnf; arg 2; whnf)
    | (apply s_wanted_call rfl
       · conv => lhs; whnf
       · conv => lhs; whnf
       · first | rfl | assumption
       · conv => lhs; whnf
       · first | fail)
    | (apply s_skip rfl
       · conv => lhs; whnf
       · conv => lhs; whnf
       · first | rfl | assumption)
    | (apply s_guard_val rfl
       · conv => lhs; whnf
       · conv => lhs; whnf
       · conv => lhs; whnf; arg 2; whnf)
    | (apply s_guard_call rfl
       · conv => lhs; whnf
       · conv => lhs; whnf
       · conv => lhs; whnf
       · first | fail)
    | (apply aw_cond_t
       · conv => lhs; whnf; arg 1; arg 1; whnf)
    | (apply aw_cond_f
       · conv => lhs; whnf; arg 1; arg 1; whnf)
    | (refine aw_cond (by conv => lhs; whnf) ?_ ?_ <;> intro hb)
    | refine aw_ret ?_
    | refine aw_exit ?_
    | refine k_seq_exit ?_
    | refine k_seq_ret ?_
    | refine k_block_ret ?_
    | refine k_block_hit rfl ?_
    | refine k_block_miss rfl ?_
    | refine k_scope_exit ?_
    | refine k_scope_ret ?_
    | refine k_loop_exit ?_
    | refine k_loop_ret ?_
    | refine k_endB ⟨?_, ?_⟩
    | refine k_endB_ret ⟨?_, ?_⟩
    | exact (rfl : _ = V.tup [])
    | (refine ⟨_, by conv => lhs; whnf; arg 2; whnf, ?_⟩; conv => rhs; whnf)
    | exact trivial
    | intro hg)
        all_goals first | rfl | exact ⟨rfl, trivial⟩
      · have f1 := b_eq g0
        have hj1 := hj g0
        obtain ⟨j, rfl⟩ : ∃ i, j = i + 1 := ⟨j - 1, by omega⟩
        have m1 := mv_space hO.hi
        have m2 := m1.trans (mv_str m1.hi)
        have m3 : Mv s.data.toList y (preF s.data.toList ks y) := m2.trans (mv_twice m2.hi ks (keyF s.data.toList y) (spaceS s.data.toList y).p)
        have m4 := m3.trans (mv_space m3.hi)
        have m5 : Mv s.data.toList y (vF s.data.toList ks y) := m4.trans (mv_word [58] m4.hi)
        have hvm : (vF s.data.toList ks y).m ≤ 4096 := by rw [m5.m]; exact hO.e g0
        have c6 := m5.then (hf _ m5.hi hvm)
        have c7 : Mc s.data.toList y (eF s.data.toList f ks y) := c6.mv (mv_space c6.hi)
        have c8 := c7.mv (mv_word (S := s.data.toList) [44] c7.hi)
        have k1 := skipQ_acb s y (by omega) hO.hi
        have k2 := textQ_acb s (spaceS s.data.toList y) hs m1.hi (show (spaceS s.data.toList y).e = 0 from g0)
        have k3 := hasQ_ac (keysD ks) (bs (keyF s.data.toList y)) (by unfold keysD; rw [List.length_map]; omega)
        have k4 := failQ_acb s (strS s.data.toList (spaceS s.data.toList y)).2 (spaceS s.data.toList y).p 7
        have k5 := skipQ_acb s (preF s.data.toList ks y) (by omega) m3.hi
        have k6 := wordQ_acb s (spaceS s.data.toList (preF s.data.toList ks y)) ⟨#[58]⟩ (by omega) (by decide) (by decide) m4.hi
        have k7 := fun (h : ((vF s.data.toList ks y).e != 0) = false) => hc (vF s.data.toList ks y) m5.hi hvm (eq_b h)
        have k8 := skipQ_acb s (f (vF s.data.toList ks y)).2 (by omega) c6.hi
        have k9 := nextQ_acb s (eF s.data.toList f ks y) (by omega)
        have k10 := wordQ_acb s (eF s.data.toList f ks y) ⟨#[44]⟩ (by omega) (by decide) (by decide) c7.hi
        have hkd : keysD ks ++ [D.str (bs (keyF s.data.toList y))] = keysD (ks ++ [keyF s.data.toList y]) := by unfold keysD; rw [List.map_append]; rfl
        have hkn : (keysD ks).length = l.length := by unfold keysD; rw [List.length_map]; exact hkl
        repeat' (first
    | (apply s_meth (cellsQ s) (fun _ _ => rfl) rfl
       · conv => lhs; whnf
       · conv => lhs; whnf
       · rfl
       · conv => lhs; whnf; arg 1; whnf
       · first | exact eta0 _ _ | exact eta1 _ _ | exact eta2 _ _ | exact eta3 _ _ | exact eta6 _ | exact etaQ0 _ _ | exact etaQ1 _ _ | exact etaQ2 _ _ | exact etaQ3 _ _ | exact etaQ6 _
       · first | exact k1 | exact k2 | exact k4 | exact k5 | exact k6 | exact k7 (by assumption) | exact k8 | exact k9 | exact k10
       · exact fun _ => rfl
       · exact fun _ => rfl)
    | (apply s_wanted_meth (cellsQ s) (fun _ _ => rfl) rfl
       · conv => lhs; whnf
       · conv => lhs; whnf
       · first | rfl | assumption
       · conv => lhs; whnf
       · rfl
       · conv => lhs; whnf; arg 1; whnf
       · first | exact eta0 _ _ | exact eta1 _ _ | exact eta2 _ _ | exact eta3 _ _ | exact eta6 _ | exact etaQ0 _ _ | exact etaQ1 _ _ | exact etaQ2 _ _ | exact etaQ3 _ _ | exact etaQ6 _
       · first | exact k1 | exact k2 | exact k4 | exact k5 | exact k6 | exact k7 (by assumption) | exact k8 | exact k9 | exact k10
       · exact fun _ => rfl
       · exact fun _ => rfl)
    | (apply s_skipU rfl
       · conv => lhs; whnf
       · conv => lhs; whnf
       · first | rfl | assumption)
    | (apply s_dead rfl
       · conv => lhs; whnf
       · rfl
       · rfl)
    | (apply s_guard_meth (cellsQ s) (fun _ _ => rfl) rfl
       · conv => lhs; whnf
       · conv => lhs; whnf
       · conv => lhs; whnf
       · rfl
       · conv => lhs; whnf; arg 1; whnf
       · first | exact eta0 _ _ | exact eta1 _ _ | exact eta2 _ _ | exact eta3 _ _ | exact eta6 _ | exact etaQ0 _ _ | exact etaQ1 _ _ | exact etaQ2 _ _ | exact etaQ3 _ _ | exact etaQ6 _
       · first | exact k1 | exact k2 | exact k4 | exact k5 | exact k6 | exact k7 (by assumption) | exact k8 | exact k9 | exact k10
       · exact fun _ => rfl
       · exact fun _ => rfl)
    | (apply s_lit [(f (vF s.data.toList ks y)).1] rfl rfl
       · conv => lhs; whnf
       · first | (conv => lhs; whnf; arg 1; whnf)
       · rfl
       · rfl
       · repeat' (first | exact trivial | apply And.intro | rfl))
    | (apply aw_cond_kt
       · conv => lhs; whnf
       · assumption)
    | (apply aw_cond_kf
       · conv => lhs; whnf
       · assumption)
    | apply aw_cutAt 13 (stS 106 [(0, .bx (pn 0) 0), (1, .c (.int .i64 lv)), (4, .bx 4 0), (5, .bx 5 0), (7, .c (.string (bs (keyF s.data.toList y))))] [(pn 0, boxQ s (preF s.data.toList ks y)), (4, .box 39 zeroCv), (5, .box 39 [.c (.int .i64 6), .c (.int .i64 0), .c (.string { data := #[] }), .own 81 39 l, .own 75 9 (keysD ks)]), (81, .tok 39 l.length), (75, .tok 9 (keysD ks).length)]) rfl
    | refine k_cut_ret ?_
    | refine k_cut_exit ?_
    | refine k_cut ?_
    | refine aw_seq ?_
    | refine aw_region ?_
    | refine awo_nil ?_
    | refine k_seq ?_
    | refine k_block ?_
    | refine k_scope ?_
    | refine aw_block ?_
    | refine aw_skip ?_
    | refine aw_label ?_
    | refine aw_scope ?_
    | (apply s_pick_t rfl rfl
       · conv => lhs; whnf
       · conv => lhs; whnf
       · first | exact bT1 (by assumption) | exact bT2 (by assumption))
    | (apply s_pick_f rfl rfl
       · conv => lhs; whnf
       · conv => lhs; whnf
       · first | exact bF1 (by assumption) | exact bF2 (by assumption))
    | (apply s_val rfl
       · conv => lhs; whnf
       · conv => lhs; whnf; arg 2; whnf)
    | (apply s_call rfl
       · conv => lhs; whnf
       · conv => lhs; whnf
       · first | exact k3)
    | (apply s_alloc rfl rfl rfl rfl
       · conv => lhs; whnf; arg 1; whnf
       · rfl)
    | (apply s_store rfl rfl rfl
       · conv => lhs; whnf
       · conv => lhs; whnf; arg 1; whnf
       · conv => lhs; whnf; arg 1; whnf
       · exact ⟨by kernel_rfl, by kernel_rfl⟩
       · rfl)
    | (apply s_app rfl rfl
       · conv => lhs; whnf
       · first | (conv => lhs; whnf; arg 1; whnf)
       · first | exact fun _ => rfl | (intro _; kernel_rfl)
       · conv => lhs; whnf
       · conv => lhs; whnf; arg 1; whnf
       · conv => lhs; whnf)
    | (apply s_app_nil rfl rfl rfl rfl
       · first | (conv => lhs; whnf; arg 1; whnf)
       · first | exact fun _ => rfl | (intro _; kernel_rfl)
       · conv => lhs; whnf
       · conv => lhs; whnf)
    | (apply s_lit0 rfl rfl
       · conv => lhs; whnf
       · first | (conv => lhs; whnf; arg 1; whnf))
    | (apply s_lit1 rfl rfl
       · conv => lhs; whnf
       · first | (conv => lhs; whnf; arg 1; whnf)
       · conv => lhs; whnf; arg 1; whnf
       · rfl
       · rfl)
    | (apply s_onlit rfl rfl
       · conv => lhs; whnf
       · first | (conv => lhs; whnf; arg 1; whnf)
       · first | exact fun _ => rfl | (intro _; kernel_rfl)
       · conv => lhs; whnf
       · conv => lhs; whnf)
    | (apply s_wanted_val rfl
       · conv => lhs; whnf
       · conv => lhs; whnf
       · first | rfl | assumption
       · conv => lhs; whnf; arg 2; whnf)
    | (apply s_wanted_call rfl
       · conv => lhs; whnf
       · conv => lhs; whnf
       · first | rfl | assumption
       · conv => lhs; whnf
       · first | exact k3)
    | (apply s_skipU rfl
       · conv => lhs; whnf
       · conv => lhs; whnf
       · first | rfl | assumption)
    | (apply s_dead rfl
       · conv => lhs; whnf
       · rfl
       · rfl)
    | (apply s_guard_valU rfl
       · conv => lhs; whnf
       · conv => lhs; whnf
       · conv => lhs; whnf; arg 2; whnf)
    | (apply s_guard_callU rfl
       · conv => lhs; whnf
       · conv => lhs; whnf
       · conv => lhs; whnf
       · first | exact k3)
    | (apply s_guard_val rfl
       · conv => lhs; whnf
       · conv => lhs; whnf
       · conv => lhs; whnf; arg 2; whnf)
    | (apply s_guard_call rfl
       · conv => lhs; whnf
       · conv => lhs; whnf
       · conv => lhs; whnf
       · first | exact k3)
    | (apply aw_cond_t
       · conv => lhs; whnf; arg 1; arg 1; whnf)
    | (apply aw_cond_f
       · conv => lhs; whnf; arg 1; arg 1; whnf)
    | (refine aw_cond (by conv => lhs; whnf) ?_ ?_ <;> intro hb)
    | refine aw_ret ?_
    | refine aw_exit ?_
    | refine k_seq_exit ?_
    | refine k_seq_ret ?_
    | refine k_block_ret ?_
    | refine k_block_hit rfl ?_
    | refine k_block_miss rfl ?_
    | refine k_scope_exit ?_
    | refine k_scope_ret ?_
    | refine k_loop_exit ?_
    | refine k_loop_ret ?_
    | refine k_endB ⟨?_, ?_⟩
    | refine k_endB_ret ⟨?_, ?_⟩
    | exact (rfl : _ = V.tup [])
    | (refine ⟨_, by conv => lhs; whnf; arg 2; whnf, ?_⟩; conv => rhs; whnf)
    | exact trivial
    | intro hg)
        all_goals
          have hlo2 := c7.lo
          have hhi2 : (eF s.data.toList f ks y).p ≤ s.size := c7.hi
          have hhi3 : (wordS s.data.toList [44] (eF s.data.toList f ks y)).p ≤ s.size := c8.hi
          have go : (vF s.data.toList ks y).e = 0 → ¬ ((eF s.data.toList f ks y).e = 0 ∧ atS s.data.toList (eF s.data.toList f ks y) = 125) → fdV s.data.toList f j (wordS s.data.toList [44] (eF s.data.toList f ks y)) (ks ++ [keyF s.data.toList y]) (l ++ [(f (vF s.data.toList ks y)).1]) = R ∧ (fieldsR s.data.toList f j (wordS s.data.toList [44] (eF s.data.toList f ks y)) (ks ++ [keyF s.data.toList y]) (l ++ [(f (vF s.data.toList ks y)).1])).2 = R2 ∧ Oc s.data.toList (wordS s.data.toList [44] (eF s.data.toList f ks y)) ∧ ((wordS s.data.toList [44] (eF s.data.toList f ks y)).e = 0 → s.size - (wordS s.data.toList [44] (eF s.data.toList f ks y)).p + 1 ≤ j) ∧ (l ++ [(f (vF s.data.toList ks y)).1]).length + j ≤ s.size + 2 ∧ (ks ++ [keyF s.data.toList y]).length = (l ++ [(f (vF s.data.toList ks y)).1]).length := fun hv hn => by
            obtain ⟨e1, e2⟩ := fdQ_go (j := j) (ks := ks) (l := l) g0 hv hn
            refine ⟨by rw [← e1]; exact hR, by rw [← e2]; exact hR2, c8.oc, fun h => ?_, by rw [List.length_append]; simp only [List.length_cons, List.length_nil]; omega, by rw [List.length_append, List.length_append, hkl]; rfl⟩
            have := take_go (S := s.data.toList) (x := eF s.data.toList f ks y) [44] h
            have e : (wordS s.data.toList [44] (eF s.data.toList f ks y)) = (takeS s.data.toList [44] (eF s.data.toList f ks y)).2 := rfl
            rw [e] at hhi3 ⊢
            omega
        all_goals
          first
            | exact i64_in2 (by omega)
            | (refine ⟨by simp, by simp only [List.length_cons, List.length_nil, maxLen]; omega, ?_⟩
               show (l.length + 1) * 80 ≤ 140737488355328
               omega)
            | (refine ⟨by simp, by rw [hkn]; simp only [List.length_cons, List.length_nil, maxLen]; omega, ?_⟩
               rw [hkn]
               show (l.length + 1) * 16 ≤ 140737488355328
               omega)
            | (have q0 : ((vF s.data.toList ks y).e != 0) = true := by assumption
               have q0 := ne_b q0
               obtain ⟨e1, e2⟩ := fdQ_v (f := f) (j := j) (ks := ks) (l := l) g0 q0
               first
                 | (rw [← hR, e1]; rfl)
                 | (rw [← hR2, e2] <;> first | rfl | exact ⟨rfl, trivial⟩))
            | (have q0 : ((vF s.data.toList ks y).e != 0) = false := by assumption
               have q0 := eq_b q0
               first
                 | (have q1 : (((eF s.data.toList f ks y).e == 0) == true) = false := by assumption
                    have q1 : ¬ (eF s.data.toList f ks y).e = 0 := by simpa using q1
                    obtain ⟨b1, b2, b3, b4, b5, b6⟩ := go q0 (fun h => q1 h.1)
                    exact k_loop_next (Nat.lt_succ_self j) ⟨_, (ks ++ [keyF s.data.toList y]), (l ++ [(f (vF s.data.toList ks y)).1]), b1, b2, b3, b4, b5, b6, Sub.live ⟨rfl, rfl, rfl, rfl, trivial⟩ ⟨rfl, rfl, by rw [← hkd]; rfl, by rw [List.length_append]; rfl, by rw [← hkd, List.length_append]; rfl, trivial⟩⟩)
                 | (have q1 : (((eF s.data.toList f ks y).e == 0) == true) = true := by assumption
                    have q1 : (eF s.data.toList f ks y).e = 0 := by simpa using q1
                    first
                      | (have q2 : (((atS s.data.toList (eF s.data.toList f ks y)).toNat : Int) == 125) = true := by assumption
                         have q2 := u8_eq (n := 125) q2 (by decide)
                         have hl2 : (eF s.data.toList f ks y).p < s.size := at_lt (S := s.data.toList) (b := 125) (by decide) q2
                         obtain ⟨e1, e2⟩ := fdQ_end (j := j) (l := l) g0 q0 ⟨q1, q2⟩
                         first
                           | exact i64_in2 (by omega)
                           | (rw [← hR, e1, ← hkd]; rfl)
                           | (rw [← hR2, e2] <;> first | rfl | exact ⟨rfl, trivial⟩))
                      | (have q2 : (((atS s.data.toList (eF s.data.toList f ks y)).toNat : Int) == 125) = false := by assumption
                         have q2 := u8_ne2 (n := 125) q2 (by decide)
                         obtain ⟨b1, b2, b3, b4, b5, b6⟩ := go q0 (fun h => q2 h.2)
                         exact k_loop_next (Nat.lt_succ_self j) ⟨_, (ks ++ [keyF s.data.toList y]), (l ++ [(f (vF s.data.toList ks y)).1]), b1, b2, b3, b4, b5, b6, Sub.live ⟨rfl, rfl, rfl, rfl, trivial⟩ ⟨rfl, rfl, by rw [← hkd]; rfl, by rw [List.length_append]; rfl, by rw [← hkd, List.length_append]; rfl, trivial⟩⟩)))
            | (have q1 : (((strS s.data.toList (spaceS s.data.toList y)).2.e == 0) == true) = false := by assumption
               have q1 : ¬ (strS s.data.toList (spaceS s.data.toList y)).2.e = 0 := by simpa using q1
               have e : preF s.data.toList ks y = (strS s.data.toList (spaceS s.data.toList y)).2 := by
                 unfold preF twiceS; rw [if_neg fun h => q1 h.1]
               rw [e]
               exact Sub.live ⟨rfl, rfl, rfl, rfl, rfl, trivial⟩ ⟨rfl, rfl, rfl, rfl, rfl, trivial⟩)
            | (have q1 : (((strS s.data.toList (spaceS s.data.toList y)).2.e == 0) == true) = true := by assumption
               have q1 : (strS s.data.toList (spaceS s.data.toList y)).2.e = 0 := by simpa using q1
               first
                 | (have q2 : hasL (keysD ks) (bs (keyF s.data.toList y)) = true := by assumption
                    have q2 := (hasL_keys ks _).1 q2
                    have e : preF s.data.toList ks y = failS (strS s.data.toList (spaceS s.data.toList y)).2 (spaceS s.data.toList y).p 7 := by
                      unfold preF twiceS; rw [if_pos ⟨q1, q2⟩]
                    rw [e]
                    exact Sub.live ⟨rfl, rfl, rfl, rfl, rfl, trivial⟩ ⟨rfl, rfl, rfl, rfl, rfl, trivial⟩)
                 | (have q2 : hasL (keysD ks) (bs (keyF s.data.toList y)) = false := by assumption
                    have e : preF s.data.toList ks y = (strS s.data.toList (spaceS s.data.toList y)).2 := by
                      unfold preF twiceS; rw [if_neg fun h => by rw [(hasL_keys ks _).2 h.2] at q2; cases q2]
                    rw [e]
                    exact Sub.live ⟨rfl, rfl, rfl, rfl, rfl, trivial⟩ ⟨rfl, rfl, rfl, rfl, rfl, trivial⟩))
  · exact i64_in2 (by omega)
set_option maxRecDepth 100000 in
theorem objQ_acb (s : ByteArray) (f : JS → D × JS) (lv : Nat) (x : JS) (hlv : lv ≤ 1000) (hs : s.size ≤ 100000) (hp : x.p < s.size) (hm : x.m ≤ 4096) (hf : FOk s.data.toList f)
    (hc : ∀ y, y.p ≤ s.size → y.m ≤ 4096 → y.e = 0 → ACB EN5 Tryd.prog 41 [.bx (pn 0) 0, .c (.int .i64 ((lv : Int) + 1))] [boxQ s y] (.agg (cellsV Tryd.prog 12 39 (f y).1)) [boxQ s (f y).2]) :
    ACB EN5 Tryd.prog 73 [.bx (pn 0) 0, .c (.int .i64 (lv : Int))] [boxQ s x] (.agg (cellsV Tryd.prog 12 39 (objR s.data.toList f x).1)) [boxQ s (objR s.data.toList f x).2] :=
  (objQ_raw s f lv x hlv hs hp hm hf hc).res (obV_le _ _ _)
end Go.Proofs.YtjhjleanihgopaaDoor
namespace Go.Proofs.YtjhjleanihgopaaDoor
open Go.RowKit
attribute [local irreducible] wpList Calls Code.wp AW AWo OpOk seqK blockK scopeK loopK endK endKB AC ACB absLex absLexG Yld YldG Sub
/-- a value as the reference builds it, behind its head -/
noncomputable def swV (S : List UInt8) (f : JS → D × JS) (y : JS) : V :=
  if atS S y = 34 then .agg (leafV (vD 3 0 (strS S y).1 [] []))
  else if atS S y = 91 then .agg (cellsV Tryd.prog 12 39 (listR S f y).1)
  else if atS S y = 123 then .agg (cellsV Tryd.prog 12 39 (objR S f y).1)
  else if atS S y = 110 then .agg (leafV (vD 0 0 [] [] []))
  else if atS S y = 116 then .agg (leafV (vD 1 1 [] [] []))
  else if atS S y = 102 then .agg (leafV (vD 1 0 [] [] []))
  else .agg (leafV (vD 2 (numbR S y).1 [] [] []))
def swT (S : List UInt8) (f : JS → D × JS) (y : JS) : D × JS :=
  if atS S y = 34 then (vD 3 0 (strS S y).1 [] [], (strS S y).2)
  else if atS S y = 91 then listR S f y
  else if atS S y = 123 then objR S f y
  else if atS S y = 110 then (vD 0 0 [] [] [], wordS S [110, 117, 108, 108] y)
  else if atS S y = 116 then (vD 1 1 [] [] [], wordS S [116, 114, 117, 101] y)
  else if atS S y = 102 then (vD 1 0 [] [] [], wordS S [102, 97, 108, 115, 101] y)
  else (vD 2 (numbR S y).1 [] [] [], (numbR S y).2)
set_option maxRecDepth 100000 in
theorem swV_le (S : List UInt8) (f : JS → D × JS) (y : JS) : VLe (swV S f y) (.agg (cellsV Tryd.prog 12 39 (swT S f y).1)) := by
  unfold swV swT
  split
  · exact leafV_le _ _ _
  split
  · exact .refl _
  split
  · exact .refl _
  split
  · exact leafV_le _ _ _
  split
  · exact leafV_le _ _ _
  split
  · exact leafV_le _ _ _
  · exact leafV_le _ _ _
/-- a node counted -/
def cntS (x : JS) : JS := ⟨x.p, x.m + 1, x.bad, x.e⟩
noncomputable def stV (S : List UInt8) (f : JS → D × JS) (deep : Bool) (x : JS) : V :=
  if beginsJ (atS S (spaceS S x)) = false then .agg (leafV (vD 0 0 [] [] []))
  else if deep = true then .agg (leafV (vD 0 0 [] [] []))
  else if 4096 < (cntS (spaceS S x)).m then .agg (leafV (vD 0 0 [] [] []))
  else swV S f (cntS (spaceS S x))
def stT (S : List UInt8) (f : JS → D × JS) (deep : Bool) (x : JS) : D × JS :=
  if beginsJ (atS S (spaceS S x)) = false then (vD 0 0 [] [] [], failS (spaceS S x) (spaceS S x).p 3)
  else if deep = true then (vD 0 0 [] [] [], failS (spaceS S x) (spaceS S x).p 5)
  else if 4096 < (cntS (spaceS S x)).m then (vD 0 0 [] [] [], failS (cntS (spaceS S x)) (cntS (spaceS S x)).p 4)
  else swT S f (cntS (spaceS S x))
set_option maxRecDepth 100000 in
theorem stepR_T (S : List UInt8) (f : JS → D × JS) (deep : Bool) (x : JS) : stepR S f deep x = stT S f deep x := rfl
set_option maxRecDepth 100000 in
theorem stV_le (S : List UInt8) (f : JS → D × JS) (deep : Bool) (x : JS) : VLe (stV S f deep x) (.agg (cellsV Tryd.prog 12 39 (stT S f deep x).1)) := by
  unfold stV stT
  split
  · exact leafV_le 0 0 []
  split
  · exact leafV_le 0 0 []
  split
  · exact leafV_le 0 0 []
  · exact swV_le _ _ _
set_option maxHeartbeats 4000000 in
set_option maxRecDepth 100000 in
theorem stepQ_raw (s : ByteArray) (f : JS → D × JS) (lv : Nat) (deep : Bool) (x : JS) (hlv : lv ≤ 1000) (hdeep : deep = decide (24 < lv)) (hs : s.size ≤ 100000) (hp : x.p ≤ s.size) (hm : x.m ≤ 4096) (he0 : x.e = 0)
    (hL : deep = false → ∀ y, y.p < s.size → y.m ≤ 4096 → ACB EN5 Tryd.prog 72 [.bx (pn 0) 0, .c (.int .i64 (lv : Int))] [boxQ s y] (.agg (cellsV Tryd.prog 12 39 (listR s.data.toList f y).1)) [boxQ s (listR s.data.toList f y).2])
    (hO : deep = false → ∀ y, y.p < s.size → y.m ≤ 4096 → ACB EN5 Tryd.prog 73 [.bx (pn 0) 0, .c (.int .i64 (lv : Int))] [boxQ s y] (.agg (cellsV Tryd.prog 12 39 (objR s.data.toList f y).1)) [boxQ s (objR s.data.toList f y).2]) :
    ACB EN5 Tryd.prog 41 [.bx (pn 0) 0, .c (.int .i64 (lv : Int))] [boxQ s x] (stV s.data.toList f deep x) [boxQ s (stT s.data.toList f deep x).2] := by
  have hlen : s.data.toList.length = s.size := rfl
  have m1 := mv_space (S := s.data.toList) hp
  have h1 := skipQ_acb s x (by omega) hp
  have hz : (spaceS s.data.toList x).e = 0 := he0
  have hzm : (spaceS s.data.toList x).m ≤ 4096 := hm
  have hzp : (spaceS s.data.toList x).p ≤ s.size := m1.hi
  unfold stV stT
  generalize spaceS s.data.toList x = z at h1 hz hzm hzp ⊢
  have hnx := nextQ_acb s z (by omega)
  have hbg := beginsQ_ac (atS s.data.toList z)
  have hat : atS s.data.toList (cntS z) = atS s.data.toList z := rfl
  have hYe : (cntS z).e = 0 := hz
  have hYp : (cntS z).p ≤ s.size := hzp
  have hYm : (cntS z).m = z.m + 1 := rfl
  have hw1 := wordQ_acb s (cntS z) ⟨#[110, 117, 108, 108]⟩ (by omega) (by decide) (by decide) hYp
  have hw2 := wordQ_acb s (cntS z) ⟨#[116, 114, 117, 101]⟩ (by omega) (by decide) (by decide) hYp
  have hw3 := wordQ_acb s (cntS z) ⟨#[102, 97, 108, 115, 101]⟩ (by omega) (by decide) (by decide) hYp
  have hst := textQ_acb s (cntS z) hs hYp hYe
  have hnum := numberQ_acb s (cntS z) (by omega) hYp hYe
  have hd : decide ((lv : Int) > 24) = false → deep = false := fun h => by
    have h := of_decide_eq_false h
    rw [hdeep]; exact decide_eq_false (by omega)
  have hmm : decide ((z.m : Int) + 1 > 4096) = false → (cntS z).m ≤ 4096 := fun h => by
    have h := of_decide_eq_false h
    rw [hYm]; omega
  have hL2 := fun (h : decide ((lv : Int) > 24) = false) (h1 : decide ((z.m : Int) + 1 > 4096) = false) (h2 : (((atS s.data.toList z).toNat : Int) == 91) = true) => hL (hd h) (cntS z) (at_lt (S := s.data.toList) (b := 91) (by decide) (u8_eq (n := 91) h2 (by decide))) (hmm h1)
  have hO2 := fun (h : decide ((lv : Int) > 24) = false) (h1 : decide ((z.m : Int) + 1 > 4096) = false) (h2 : (((atS s.data.toList z).toNat : Int) == 123) = true) => hO (hd h) (cntS z) (at_lt (S := s.data.toList) (b := 123) (by decide) (u8_eq (n := 123) h2 (by decide))) (hmm h1)
  refine acb_enter (fn := Tryd.f41) 82 Tryd.func41 rfl rfl ?_
  intro pas w0 w he hpp
  repeat' (first
    | (apply s_meth (cellsQ s) (fun _ _ => rfl) rfl
       · conv => lhs; whnf
       · conv => lhs; whnf
       · rfl
       · conv => lhs; whnf; arg 1; whnf
       · first | exact eta0 _ _ | exact eta1 _ _ | exact eta2 _ _ | exact eta3 _ _ | exact eta6 _ | exact etaQ0 _ _ | exact etaQ1 _ _ | exact etaQ2 _ _ | exact etaQ3 _ _ | exact etaQ6 _
       · first | exact h1 | exact hnx | exact failQ_acb _ _ _ _ | exact hw1 | exact hw2 | exact hw3 | exact hst | exact hL2 (by assumption) (by assumption) (by assumption) | exact hO2 (by assumption) (by assumption) (by assumption) | exact hnum
       · exact fun _ => rfl
       · exact fun _ => rfl)
    | refine aw_seq ?_
    | refine aw_region ?_
    | refine awo_nil ?_
    | refine k_seq ?_
    | refine k_block ?_
    | refine k_scope ?_
    | refine aw_block ?_
    | refine aw_skip ?_
    | refine aw_label ?_
    | refine aw_scope ?_
    | (apply s_val rfl
       · conv => lhs; whnf
       · conv => lhs; whnf; arg 2; whnf)
    | (apply s_call rfl
       · conv => lhs; whnf
       · conv => lhs; whnf
       · first | exact hbg)
    | (apply s_alloc rfl rfl rfl rfl
       · conv => lhs; whnf; arg 1; whnf
       · rfl)
    | (apply s_store rfl rfl rfl
       · conv => lhs; whnf
       · conv => lhs; whnf; arg 1; whnf
       · conv => lhs; whnf; arg 1; whnf
       · exact ⟨by kernel_rfl, by kernel_rfl⟩
       · rfl)
    | (apply aw_cond_t
       · conv => lhs; whnf; arg 1; arg 1; whnf)
    | (apply aw_cond_f
       · conv => lhs; whnf; arg 1; arg 1; whnf)
    | (refine aw_cond (by conv => lhs; whnf) ?_ ?_ <;> intro hb)
    | refine aw_ret ?_
    | refine aw_exit ?_
    | refine k_seq_exit ?_
    | refine k_seq_ret ?_
    | refine k_block_ret ?_
    | refine k_block_hit rfl ?_
    | refine k_block_miss rfl ?_
    | refine k_scope_exit ?_
    | refine k_scope_ret ?_
    | refine k_loop_exit ?_
    | refine k_loop_ret ?_
    | refine k_endB ⟨?_, ?_⟩
    | refine k_endB_ret ⟨?_, ?_⟩
    | exact (rfl : _ = V.tup [])
    | (refine ⟨_, by conv => lhs; whnf; arg 2; whnf, ?_⟩; conv => rhs; whnf)
    | exact trivial
    | intro hg)
  all_goals
    first
      | exact i64_in2 (by omega)
      | (have b0 : (!beginsJ (atS s.data.toList z)) = true := by assumption
         have b0 : beginsJ (atS s.data.toList z) = false := by simpa using b0
         rw [if_pos b0] <;> first | rfl | exact ⟨rfl, trivial⟩)
      | (have b0 : (!beginsJ (atS s.data.toList z)) = false := by assumption
         have b0 : beginsJ (atS s.data.toList z) = true := by simpa using b0
         have n0 : ¬ beginsJ (atS s.data.toList z) = false := by rw [b0]; decide
         first
           | (have b1 : decide ((lv : Int) > 24) = true := by assumption
              have b1 := of_decide_eq_true b1
              rw [if_neg n0, if_pos (show deep = true from by rw [hdeep]; exact decide_eq_true (by omega))] <;> first | rfl | exact ⟨rfl, trivial⟩)
           | (have b1 : decide ((lv : Int) > 24) = false := by assumption
              have n1 : ¬ deep = true := by rw [hd b1]; decide
              first
                | (have b2 : decide ((z.m : Int) + 1 > 4096) = true := by assumption
                   have b2 := of_decide_eq_true b2
                   rw [if_neg n0, if_neg n1, if_pos (show 4096 < (cntS z).m from by rw [hYm]; omega)] <;> first | rfl | exact ⟨rfl, trivial⟩)
                | (have b2 : decide ((z.m : Int) + 1 > 4096) = false := by assumption
                   have b2 := of_decide_eq_false b2
                   have n2 : ¬ 4096 < (cntS z).m := by rw [hYm]; omega
                   first
                     | (have c0 : (((atS s.data.toList z).toNat : Int) == 34) = true := by assumption
                        have c0 : atS s.data.toList (cntS z) = 34 := u8_eq (n := 34) c0 (by decide)
                        rw [if_neg n0, if_neg n1, if_neg n2]
                        (first | unfold swV | unfold swT)
                        rw [if_pos c0] <;> first | rfl | exact ⟨rfl, trivial⟩)
                     | (have c0 : (((atS s.data.toList z).toNat : Int) == 34) = false := by assumption
                        have c0 : ¬ atS s.data.toList (cntS z) = 34 := u8_ne2 (n := 34) c0 (by decide)
                        first
                          | (have c1 : (((atS s.data.toList z).toNat : Int) == 91) = true := by assumption
                             have c1 : atS s.data.toList (cntS z) = 91 := u8_eq (n := 91) c1 (by decide)
                             rw [if_neg n0, if_neg n1, if_neg n2]
                             (first | unfold swV | unfold swT)
                             rw [if_neg c0, if_pos c1] <;> first | rfl | exact ⟨rfl, trivial⟩)
                          | (have c1 : (((atS s.data.toList z).toNat : Int) == 91) = false := by assumption
                             have c1 : ¬ atS s.data.toList (cntS z) = 91 := u8_ne2 (n := 91) c1 (by decide)
                             first
                               | (have c2 : (((atS s.data.toList z).toNat : Int) == 123) = true := by assumption
                                  have c2 : atS s.data.toList (cntS z) = 123 := u8_eq (n := 123) c2 (by decide)
                                  rw [if_neg n0, if_neg n1, if_neg n2]
                                  (first | unfold swV | unfold swT)
                                  rw [if_neg c0, if_neg c1, if_pos c2] <;> first | rfl | exact ⟨rfl, trivial⟩)
                               | (have c2 : (((atS s.data.toList z).toNat : Int) == 123) = false := by assumption
                                  have c2 : ¬ atS s.data.toList (cntS z) = 123 := u8_ne2 (n := 123) c2 (by decide)
                                  first
                                    | (have c3 : (((atS s.data.toList z).toNat : Int) == 110) = true := by assumption
                                       have c3 : atS s.data.toList (cntS z) = 110 := u8_eq (n := 110) c3 (by decide)
                                       rw [if_neg n0, if_neg n1, if_neg n2]
                                       (first | unfold swV | unfold swT)
                                       rw [if_neg c0, if_neg c1, if_neg c2, if_pos c3] <;> first | rfl | exact ⟨rfl, trivial⟩)
                                    | (have c3 : (((atS s.data.toList z).toNat : Int) == 110) = false := by assumption
                                       have c3 : ¬ atS s.data.toList (cntS z) = 110 := u8_ne2 (n := 110) c3 (by decide)
                                       first
                                         | (have c4 : (((atS s.data.toList z).toNat : Int) == 116) = true := by assumption
                                            have c4 : atS s.data.toList (cntS z) = 116 := u8_eq (n := 116) c4 (by decide)
                                            rw [if_neg n0, if_neg n1, if_neg n2]
                                            (first | unfold swV | unfold swT)
                                            rw [if_neg c0, if_neg c1, if_neg c2, if_neg c3, if_pos c4] <;> first | rfl | exact ⟨rfl, trivial⟩)
                                         | (have c4 : (((atS s.data.toList z).toNat : Int) == 116) = false := by assumption
                                            have c4 : ¬ atS s.data.toList (cntS z) = 116 := u8_ne2 (n := 116) c4 (by decide)
                                            first
                                              | (have c5 : (((atS s.data.toList z).toNat : Int) == 102) = true := by assumption
                                                 have c5 : atS s.data.toList (cntS z) = 102 := u8_eq (n := 102) c5 (by decide)
                                                 rw [if_neg n0, if_neg n1, if_neg n2]
                                                 (first | unfold swV | unfold swT)
                                                 rw [if_neg c0, if_neg c1, if_neg c2, if_neg c3, if_neg c4, if_pos c5] <;> first | rfl | exact ⟨rfl, trivial⟩)
                                              | (have c5 : (((atS s.data.toList z).toNat : Int) == 102) = false := by assumption
                                                 have c5 : ¬ atS s.data.toList (cntS z) = 102 := u8_ne2 (n := 102) c5 (by decide)
                                                 (rw [if_neg n0, if_neg n1, if_neg n2]
                                                  (first | unfold swV | unfold swT)
                                                  rw [if_neg c0, if_neg c1, if_neg c2, if_neg c3, if_neg c4, if_neg c5] <;> first | rfl | exact ⟨rfl, trivial⟩))))))))))
set_option maxRecDepth 100000 in
theorem stepQ_acb (s : ByteArray) (f : JS → D × JS) (lv : Nat) (deep : Bool) (x : JS) (hlv : lv ≤ 1000) (hdeep : deep = decide (24 < lv)) (hs : s.size ≤ 100000) (hp : x.p ≤ s.size) (hm : x.m ≤ 4096) (he0 : x.e = 0) (hf : deep = false → FOk s.data.toList f)
    (hc : deep = false → ∀ y, y.p ≤ s.size → y.m ≤ 4096 → y.e = 0 → ACB EN5 Tryd.prog 41 [.bx (pn 0) 0, .c (.int .i64 ((lv : Int) + 1))] [boxQ s y] (.agg (cellsV Tryd.prog 12 39 (f y).1)) [boxQ s (f y).2]) :
    ACB EN5 Tryd.prog 41 [.bx (pn 0) 0, .c (.int .i64 (lv : Int))] [boxQ s x] (.agg (cellsV Tryd.prog 12 39 (stepR s.data.toList f deep x).1)) [boxQ s (stepR s.data.toList f deep x).2] := by
  rw [stepR_T]
  exact (stepQ_raw s f lv deep x hlv hdeep hs hp hm he0 (fun h y h1 h2 => listQ_acb s f lv y hlv hs h1 h2 (hf h) (hc h)) (fun h y h1 h2 => objQ_acb s f lv y hlv hs h1 h2 (hf h) (hc h))).res (stV_le _ _ _ _)
set_option maxRecDepth 100000 in
theorem valueQ_acb (s : ByteArray) (hs : s.size ≤ 100000) : ∀ (k : Nat) (x : JS), k ≤ 24 → x.p ≤ s.size → x.m ≤ 4096 → x.e = 0 →
    ACB EN5 Tryd.prog 41 [.bx (pn 0) 0, .c (.int .i64 ((25 - k : Nat) : Int))] [boxQ s x] (.agg (cellsV Tryd.prog 12 39 (valueRf s.data.toList k x).1)) [boxQ s (valueRf s.data.toList k x).2]
  | 0, x, _, hp, hm, h0 => stepQ_acb s _ 25 true x (by omega) (by decide) hs hp hm h0 (fun h => by cases h) (fun h => by cases h)
  | k + 1, x, hk, hp, hm, h0 => by
    refine stepQ_acb s (valueRf s.data.toList k) (25 - (k + 1)) false x (by omega) (by rw [eq_comm]; exact decide_eq_false (by omega)) hs hp hm h0 (fun _ => valueR_ok k) (fun _ y h1 h2 h3 => ?_)
    have := valueQ_acb s hs k y (by omega) h1 h2 h3
    rw [show (25 - k : Nat) = 25 - (k + 1) + 1 by omega] at this
    exact this
end Go.Proofs.YtjhjleanihgopaaDoor
namespace Go.Proofs.YtjhjleanihgopaaDoor
open Go.RowKit
attribute [local irreducible] wpList Calls Code.wp AW AWo OpOk seqK blockK scopeK loopK endK endKB AC ACB absLex absLexG Yld YldG Sub
def qEnd (S : List UInt8) : JS :=
  if (spaceS S (valueRf S 24 ⟨0, 0, 0, 0⟩).2).p < S.length then failS (spaceS S (valueRf S 24 ⟨0, 0, 0, 0⟩).2) (spaceS S (valueRf S 24 ⟨0, 0, 0, 0⟩).2).p 3 else spaceS S (valueRf S 24 ⟨0, 0, 0, 0⟩).2
noncomputable def parseRV (S : List UInt8) : V :=
  if (qEnd S).e ≠ 0 then .tup [.agg (leafV (vD 0 0 [] [] [])), .c (.int .i64 (qEnd S).bad), .c (.int .i64 (qEnd S).e)] else .tup [.agg (cellsV Tryd.prog 12 39 (valueRf S 24 ⟨0, 0, 0, 0⟩).1), .c (.int .i64 0), .c (.int .i64 0)]
set_option maxRecDepth 100000 in
theorem parseRV_le (S : List UInt8) : VLe (parseRV S) (.tup [.agg (cellsV Tryd.prog 12 39 (parseRf S).1), .c (.int .i64 (parseRf S).2.1), .c (.int .i64 (parseRf S).2.2)]) := by
  have e : parseRf S = if (qEnd S).e ≠ 0 then (vD 0 0 [] [] [], (qEnd S).bad, (qEnd S).e) else ((valueRf S 24 ⟨0, 0, 0, 0⟩).1, 0, 0) := rfl
  rw [e]
  unfold parseRV
  split
  · exact .tup (.cons (leafV_le 0 0 []) (.cons (.refl _) (.cons (.refl _) .nil)))
  · exact .refl _
set_option maxHeartbeats 4000000 in
set_option maxRecDepth 100000 in
theorem parseQ_raw (s : ByteArray) (hs : s.size ≤ 100000) : AC EN5 Tryd.prog 21 [.c (.string s)] (parseRV s.data.toList) := by
  have hlen : s.data.toList.length = s.size := rfl
  have h0 := valueQ_acb s hs 24 ⟨0, 0, 0, 0⟩ (by omega) (Nat.zero_le _) (Nat.zero_le _) rfl
  have hv := valueR_ok (S := s.data.toList) 24 ⟨0, 0, 0, 0⟩ (Nat.zero_le _) (Nat.zero_le _)
  have h1 := skipQ_acb s (valueRf s.data.toList 24 ⟨0, 0, 0, 0⟩).2 (by omega) hv.hi
  have hE : qEnd s.data.toList = if (spaceS s.data.toList (valueRf s.data.toList 24 ⟨0, 0, 0, 0⟩).2).p < s.size then failS (spaceS s.data.toList (valueRf s.data.toList 24 ⟨0, 0, 0, 0⟩).2) (spaceS s.data.toList (valueRf s.data.toList 24 ⟨0, 0, 0, 0⟩).2).p 3 else spaceS s.data.toList (valueRf s.data.toList 24 ⟨0, 0, 0, 0⟩).2 := rfl
  unfold parseRV
  generalize qEnd s.data.toList = Y at hE ⊢
  refine ac_enter 42 Tryd.func21 rfl rfl rfl (by split <;> rfl) ?_
  intro w0 w he
  repeat' (first
    | (apply s_meth (cellsQ s) (fun _ _ => rfl) rfl
       · conv => lhs; whnf
       · conv => lhs; whnf
       · rfl
       · conv => lhs; whnf; arg 1; whnf
       · first | exact eta0 _ _ | exact eta1 _ _ | exact eta2 _ _ | exact eta3 _ _ | exact eta6 _ | exact etaQ0 _ _ | exact etaQ1 _ _ | exact etaQ2 _ _ | exact etaQ3 _ _ | exact etaQ6 _
       · first | exact h0 | exact h1 | exact failQ_acb _ _ _ _
       · exact fun _ => rfl
       · exact fun _ => rfl)
    | apply aw_cutAt 6 (stS 42 [(0, .c (.string s)), (2, .bx 2 0), (5, .bx 9 0), (6, .bx 6 0)] [(9, boxQ s Y), (2, .box 39 zeroCv), (6, .box 39 (cellsV Tryd.prog 12 39 (valueRf s.data.toList 24 ⟨0, 0, 0, 0⟩).1))]) rfl
    | refine k_cut_ret ?_
    | refine k_cut_exit ?_
    | refine k_cut ?_
    | refine aw_seq ?_
    | refine aw_region ?_
    | refine awo_nil ?_
    | refine k_seq ?_
    | refine k_block ?_
    | refine k_scope ?_
    | refine aw_block ?_
    | refine aw_skip ?_
    | refine aw_label ?_
    | refine aw_scope ?_
    | (apply s_val rfl
       · conv => lhs; whnf
       · conv => lhs; whnf; arg 2; whnf)
    | (apply s_call rfl
       · conv => lhs; whnf
       · conv => lhs; whnf
       · first | fail)
    | (apply s_box rfl rfl rfl rfl
       · conv => lhs; whnf; arg 1; whnf
       · rfl)
    | (apply s_alloc rfl rfl rfl rfl
       · conv => lhs; whnf; arg 1; whnf
       · rfl)
    | (apply s_store rfl rfl rfl
       · conv => lhs; whnf
       · conv => lhs; whnf; arg 1; whnf
       · conv => lhs; whnf; arg 1; whnf
       · exact ⟨by kernel_rfl, by kernel_rfl⟩
       · rfl)
    | (apply aw_draw (by kernel_rfl) (by kernel_rfl))
    | apply y_nil
    | (apply y_val rfl
       · conv => lhs; whnf
       · conv => lhs; whnf; arg 2; whnf)
    | (apply y_call rfl
       · conv => lhs; whnf
       · conv => lhs; whnf
       · first | fail)
    | (apply y_store rfl rfl rfl
       · conv => lhs; whnf
       · rfl
       · rfl
       · conv => lhs; whnf; arg 1; whnf
       · conv => lhs; whnf; arg 1; whnf
       · exact ⟨by kernel_rfl, by kernel_rfl⟩
       · rfl)
    | exact apartB_none
    | exact apartB_nil
    | exact all_nil
    | (show List.all _ _ = true; rfl)
    | (show apartB _ _ = true; rfl)
    | exact ([] : List Nat)
    | exact (1000000 : Nat)
    | (apply aw_cond_t
       · conv => lhs; whnf; arg 1; arg 1; whnf)
    | (apply aw_cond_f
       · conv => lhs; whnf; arg 1; arg 1; whnf)
    | (refine aw_cond (by conv => lhs; whnf) ?_ ?_ <;> intro hb)
    | refine aw_ret ?_
    | refine aw_exit ?_
    | refine k_seq_exit ?_
    | refine k_seq_ret ?_
    | refine k_block_ret ?_
    | refine k_block_hit rfl ?_
    | refine k_block_miss rfl ?_
    | refine k_scope_exit ?_
    | refine k_scope_ret ?_
    | refine k_loop_exit ?_
    | refine k_loop_ret ?_
    | refine k_end ?_
    | refine k_end_ret ?_
    | (refine ⟨_, by conv => lhs; whnf; arg 2; whnf, ?_⟩; conv => rhs; whnf)
    | exact trivial
    | intro hg)
  all_goals try (show Tryd.prog.underlying 9 = _; kernel_rfl)
  all_goals
    first
      | (have g := ne_b (n := Y.e) (by assumption)
         rw [if_pos g]
         exact ⟨_, _, _, rfl, rfl, rfl, rfl⟩)
      | (have g := eq_b (n := Y.e) (by assumption)
         rw [if_neg (fun h => h g)]
         exact ⟨_, _, _, rfl, rfl, rfl, rfl⟩)
      | (have g : decide (((spaceS s.data.toList (valueRf s.data.toList 24 ⟨0, 0, 0, 0⟩).2).p : Int) < (s.size : Int)) = true := by assumption
         have g := of_decide_eq_true g
         rw [hE, if_pos (by omega)]
         exact Sub.live ⟨rfl, rfl, rfl, rfl, trivial⟩ ⟨rfl, rfl, rfl, trivial⟩)
      | (have g : decide (((spaceS s.data.toList (valueRf s.data.toList 24 ⟨0, 0, 0, 0⟩).2).p : Int) < (s.size : Int)) = false := by assumption
         have g := of_decide_eq_false g
         rw [hE, if_neg (by omega)]
         exact Sub.live ⟨rfl, rfl, rfl, rfl, trivial⟩ ⟨rfl, rfl, rfl, trivial⟩)
set_option maxRecDepth 100000 in
theorem parseQ_ac (s : ByteArray) (hs : s.size ≤ 100000) : AC EN5 Tryd.prog 21 [.c (.string s)] (parsedV (parseJ s.data.toList) s.size) := by
  have h := (parseQ_raw s hs).res (parseRV_le _)
  rw [parseR_spec] at h
  cases hx : parseJ s.data.toList with
  | ok d => rw [hx] at h; exact h
  | error ke => rw [hx] at h; exact h
end Go.Proofs.YtjhjleanihgopaaDoor
namespace Go.Proofs.YtjhjleanihgopaaDoor
theorem unqF_len : ∀ (k : Nat) (l : List UInt8), ((unqF k l).getD []).length ≤ l.length := by
  intro k
  induction k with
  | zero => intro l; cases l <;> simp [unqF]
  | succ k ih =>
    intro l
    cases l with
    | nil => simp [unqF]
    | cons c r =>
      show ((stpU (unqF k) c r).getD []).length ≤ _
      have hm : ∀ (q : List UInt8) (x : UInt8), q.length ≤ r.length → (((unqF k q).map (x :: ·)).getD []).length ≤ (c :: r).length := fun q x hq => by
        have := ih q
        cases hx : unqF k q with
        | none => simp
        | some u => rw [hx] at this; simp at this ⊢; omega
      unfold stpU
      by_cases h1 : c.toNat < 32 ∨ 126 < c.toNat ∨ c = 34
      · rw [if_pos h1]; simp
      rw [if_neg h1]
      by_cases h2 : c ≠ 92
      · rw [if_pos h2]; exact hm r c (Nat.le_refl _)
      rw [if_neg h2]
      cases r with
      | nil => simp
      | cons d q =>
        dsimp only
        cases simU d with
        | some x => exact hm q x (by simp)
        | none =>
          dsimp only
          by_cases h3 : d ≠ 117 ∨ q.length < 4
          · rw [if_pos h3]; simp
          rw [if_neg h3]
          cases codeFrom 0 (q.take 4) with
          | none => simp
          | some n =>
            dsimp only
            by_cases h4 : n ≤ 255
            · rw [if_pos h4]; exact hm (q.drop 4) _ (by simp; omega)
            · rw [if_neg h4]; simp
theorem unquote_len (l : List UInt8) (h : 2 ≤ l.length) : ((unquoteU l).getD []).length + 2 ≤ l.length := by
  unfold unquoteU
  split
  · have := unqF_len ((l.drop 1).take (l.length - 2)).length ((l.drop 1).take (l.length - 2))
    have h2 : ((l.drop 1).take (l.length - 2)).length ≤ l.length - 2 := by rw [List.length_take]; omega
    have h3 : ((unqU ((l.drop 1).take (l.length - 2))).getD []).length ≤ ((l.drop 1).take (l.length - 2)).length := this
    omega
  · simpa using h
theorem readJ_len {r q : List UInt8} : (readJ r q).length = r.length - q.length := by unfold readJ; rw [List.length_take]; omega
theorem str_len {r : List UInt8} {y : List UInt8 × List UInt8} (h : strJ r = .ok y) : y.1.length + y.2.length + 2 ≤ r.length := by
  unfold strJ at h
  obtain ⟨a, h1, h⟩ := bind_ok h
  obtain ⟨q, h2, h⟩ := bind_ok h
  have e1 := (takeJ_suffix h1).2
  have e2 := (bodyJ_suffix h2).2
  cases h
  have h3 : 2 ≤ (readJ r q).length := by rw [readJ_len]; omega
  have h4 := unquote_len (readJ r q) h3
  rw [readJ_len] at h4 h3
  show ((unquoteU (readJ r q)).getD []).length + q.length + 2 ≤ r.length
  omega
theorem word_len' : ∀ (w r q : List UInt8), wordJ w r = .ok q → q.length + w.length = r.length
  | [], r, q, h => by cases h; rfl
  | c :: w, r, q, h => by
    obtain ⟨a, h1, h2⟩ := bind_ok h
    obtain ⟨c', rfl, _⟩ := takeJ_ok h1
    have := word_len' w a q h2
    simp only [List.length_cons]; omega
theorem word_len {w r q : List UInt8} (h : wordJ w r = .ok q) : q.length + w.length = r.length := word_len' w r q h
theorem num_in {r : List UInt8} {y : Int × List UInt8} (h : numJ r = .ok y) : -9223372036854775808 ≤ y.1 ∧ y.1 ≤ 9223372036854775807 := by
  unfold numJ at h
  obtain ⟨a, h1, h⟩ := bind_ok h
  dsimp only at h
  generalize hq : (if (if r.head? = some 45 then r.tail else r).head? = some 48 then a else a.dropWhile digU) = q at h
  cases hn : numU (readJ r q) with
  | ok n => rw [hn] at h; cases h; exact (itoa_num hn).2
  | _ => rw [hn] at h; cases h
theorem range_gD2 (g : D → D) (l : List D) (h : ∀ d ∈ l, g d = d) : (List.range l.length).map (fun i => g (gD l i)) = l := by
  apply List.ext_getElem
  · simp
  · intro i h1 h2
    have : i < l.length := h2
    simp only [List.getElem_map, List.getElem_range]
    rw [h _ (gD_mem this), gD_get this]
def kwU (us : List (List UInt8)) : Nat := (us.map fun u => 1 + u.length).sum
theorem strs_keys (kd n : Int) (t : List UInt8) (its : List D) (us : List (List UInt8)) : strsL (vD kd n t its (keysD us)) = us := by
  show (us.map fun s => D.str ⟨s.toArray⟩).map (fun x => x.s.data.toList) = us
  rw [List.map_map]
  exact List.map_id' us
theorem kw_keys (us : List (List UInt8)) : ((keysD us).map fun x => 1 + x.s.size).sum = kwU us := by
  unfold keysD kwU
  rw [List.map_map]; rfl
theorem node_got {k : Nat} {kd n : Int} {t : List UInt8} {its : List D} {us : List (List UInt8)} (hits : ∀ d ∈ its, Gd k d) (hk : kd ≠ 4) (hn : -9223372036854775808 ≤ n ∧ n ≤ 9223372036854775807) (hb : nodeB (vD kd n t its (keysD us)) = true) :
    Gd (k + 1) (vD kd n t its (keysD us)) ∧ sizeJ (k + 1) (vD kd n t its (keysD us)) = 1 + (its.map (sizeJ k)).sum ∧ wtJ (k + 1) (vD kd n t its (keysD us)) = 1 + t.length + kwU us + (its.map (wtJ k)).sum := by
  refine ⟨⟨?_, ?_, hn, fun i hi => (hits _ (gD_mem hi)).ints⟩, ?_, ?_⟩
  · unfold everyB
    rw [hb, Bool.true_and, List.all_eq_true]
    intro i hi
    have : i < its.length := List.mem_range.1 hi
    exact (hits _ (gD_mem this)).every
  · show vD (if kd = 4 then 3 else kd) n t ((List.range its.length).map fun i => strsJ k (gD its i)) (keysD (strsL (vD kd n t its (keysD us)))) = _
    rw [if_neg hk, strs_keys, range_gD2 (strsJ k) its fun d hd => (hits d hd).strs]
  · show 1 + sumN (fun i => sizeJ k (gD its i)) its.length = _
    rw [sum_gD]
  · show 1 + t.length + ((keysD us).map fun x => 1 + x.s.size).sum + (its.map fun x => wtJ k x).sum = _
    rw [kw_keys]
def Vg (k m : Nat) (r : List UInt8) (y : D × Nat × List UInt8) : Prop := Gd k y.1 ∧ y.2.1 = m + sizeJ k y.1 ∧ wtJ k y.1 + y.2.2.length ≤ r.length
theorem items_got {k : Nat} {f : Nat → List UInt8 → Except JE (D × Nat × List UInt8)} (hf : ∀ m r y, f m r = .ok y → Vg k m r y) : ∀ (j m : Nat) (r : List UInt8) (l : List D) (y : List D × Nat × List UInt8), itemsJ f j m r l = .ok y → (∀ d ∈ l, Gd k d) →
    (∀ d ∈ y.1, Gd k d) ∧ y.2.1 + (l.map (sizeJ k)).sum = m + (y.1.map (sizeJ k)).sum ∧ (y.1.map (wtJ k)).sum + y.2.2.length + 1 ≤ r.length + (l.map (wtJ k)).sum
  | 0, m, r, l, y, h, _ => by cases h
  | j + 1, m, r, l, y, h, hl => by
    unfold itemsJ at h
    obtain ⟨a, h1, h⟩ := bind_ok h
    obtain ⟨g1, g2, g3⟩ := hf m r a h1
    have hl' : ∀ d ∈ l ++ [a.1], Gd k d := fun d hd => by
      rcases List.mem_append.1 hd with hd | hd
      · exact hl d hd
      · rw [List.mem_singleton.1 hd]; exact g1
    have hsp := (spc_suffix a.2.2).length_le
    cases hs : spc a.2.2 with
    | nil => rw [hs] at h; cases h
    | cons c q =>
      rw [hs] at h hsp
      dsimp only at h
      simp only [List.length_cons] at hsp
      by_cases c1 : c = 44
      · rw [if_pos c1] at h
        obtain ⟨i1, i2, i3⟩ := items_got hf j a.2.1 q (l ++ [a.1]) y h hl'
        simp only [List.map_append, List.sum_append, List.map_cons, List.map_nil, List.sum_cons, List.sum_nil] at i2 i3
        exact ⟨i1, by omega, by omega⟩
      rw [if_neg c1] at h
      by_cases c2 : c = 93
      · rw [if_pos c2] at h
        cases h
        refine ⟨hl', ?_, ?_⟩
        · simp only [List.map_append, List.sum_append, List.map_cons, List.map_nil, List.sum_cons, List.sum_nil]; omega
        · simp only [List.map_append, List.sum_append, List.map_cons, List.map_nil, List.sum_cons, List.sum_nil]; omega
      · rw [if_neg c2] at h; cases h
theorem fields_got {k : Nat} {f : Nat → List UInt8 → Except JE (D × Nat × List UInt8)} (hf : ∀ m r y, f m r = .ok y → Vg k m r y) : ∀ (j m : Nat) (r : List UInt8) (ks : List (List UInt8)) (l : List D) (y : List (List UInt8) × List D × Nat × List UInt8), fieldsJ f j m r ks l = .ok y → (∀ d ∈ l, Gd k d) → ks.Nodup → ks.length = l.length →
    (∀ d ∈ y.2.1, Gd k d) ∧ y.1.Nodup ∧ y.1.length = y.2.1.length ∧ y.2.2.1 + (l.map (sizeJ k)).sum = m + (y.2.1.map (sizeJ k)).sum ∧ kwU y.1 + (y.2.1.map (wtJ k)).sum + y.2.2.2.length + 1 ≤ r.length + kwU ks + (l.map (wtJ k)).sum
  | 0, m, r, ks, l, y, h, _, _, _ => by cases h
  | j + 1, m, r, ks, l, y, h, hl, hd, hkl => by
    unfold fieldsJ at h
    obtain ⟨b, h0, h⟩ := bind_ok h
    have hb := str_len h0
    have hsp0 := (spc_suffix r).length_le
    by_cases hk : b.1 ∈ ks
    · rw [if_pos hk] at h; cases h
    rw [if_neg hk] at h
    obtain ⟨r2, h1, h⟩ := bind_ok h
    have ht := (takeJ_suffix h1).2
    have hsp1 := (spc_suffix b.2).length_le
    obtain ⟨a, h2, h⟩ := bind_ok h
    obtain ⟨g1, g2, g3⟩ := hf m r2 a h2
    have hl' : ∀ d ∈ l ++ [a.1], Gd k d := fun d hd => by
      rcases List.mem_append.1 hd with hd | hd
      · exact hl d hd
      · rw [List.mem_singleton.1 hd]; exact g1
    have hd' : (ks ++ [b.1]).Nodup := by
      rw [List.nodup_append]
      refine ⟨hd, by simp, ?_⟩
      intro x hx y hy e
      rw [List.mem_singleton.1 hy] at e
      rw [e] at hx
      exact hk hx
    have hkw : kwU (ks ++ [b.1]) = kwU ks + (1 + b.1.length) := by simp [kwU]
    have hsp := (spc_suffix a.2.2).length_le
    cases hs : spc a.2.2 with
    | nil => rw [hs] at h; cases h
    | cons c q =>
      rw [hs] at h hsp
      dsimp only at h
      simp only [List.length_cons] at hsp
      by_cases c1 : c = 44
      · rw [if_pos c1] at h
        obtain ⟨i1, i2, i3, i4, i5⟩ := fields_got hf j a.2.1 q (ks ++ [b.1]) (l ++ [a.1]) y h hl' hd' (by simp [hkl])
        simp only [List.map_append, List.sum_append, List.map_cons, List.map_nil, List.sum_cons, List.sum_nil] at i4 i5
        rw [hkw] at i5
        exact ⟨i1, i2, i3, by omega, by omega⟩
      rw [if_neg c1] at h
      by_cases c2 : c = 125
      · rw [if_pos c2] at h
        cases h
        refine ⟨hl', hd', by simp [hkl], ?_, ?_⟩
        · simp only [List.map_append, List.sum_append, List.map_cons, List.map_nil, List.sum_cons, List.sum_nil]; omega
        · simp only [List.map_append, List.sum_append, List.map_cons, List.map_nil, List.sum_cons, List.sum_nil]
          rw [hkw]; omega
      · rw [if_neg c2] at h; cases h
theorem node_simple (t : List UInt8) (kd n : Int) (h : (kd = 0 ∧ n = 0 ∧ t = []) ∨ (kd = 1 ∧ (n = 0 ∨ n = 1) ∧ t = []) ∨ (kd = 2 ∧ t = []) ∨ (kd = 3 ∧ n = 0)) : nodeB (vD kd n t [] (keysD [])) = true := by
  show (((kd == 1 || kd == 2 || n == 0) && (kd == 3 || kd == 4 || t == []) && (kd == 6 || (0 : Nat) == 0) && (kd == 6 || kd == 5 || (0 : Nat) == 0) && decide (0 ≤ kd ∧ kd ≤ 6) && (!(kd == 1) || n == 0 || n == 1) && (!(kd == 4) || _) && (!(kd == 6) || _)) = true)
  rcases h with ⟨rfl, rfl, rfl⟩ | ⟨rfl, h, rfl⟩ | ⟨rfl, rfl⟩ | ⟨rfl, rfl⟩
  · rfl
  · rcases h with rfl | rfl <;> rfl
  · simp
  · simp
theorem node_list (its : List D) : nodeB (vD 5 0 [] its (keysD [])) = true := by
  show (((5 : Int) == 1 || (5 : Int) == 2 || (0 : Int) == 0) && ((5 : Int) == 3 || (5 : Int) == 4 || ([] : List UInt8) == []) && ((5 : Int) == 6 || (0 : Nat) == 0) && ((5 : Int) == 6 || (5 : Int) == 5 || its.length == 0) && decide (0 ≤ (5 : Int) ∧ (5 : Int) ≤ 6) && (!((5 : Int) == 1) || (0 : Int) == 0 || (0 : Int) == 1) && (!((5 : Int) == 4) || _) && (!((5 : Int) == 6) || _)) = true
  simp
theorem node_obj (its : List D) (us : List (List UInt8)) (hn : us.Nodup) (hl : us.length = its.length) : nodeB (vD 6 0 [] its (keysD us)) = true := by
  show (((6 : Int) == 1 || (6 : Int) == 2 || (0 : Int) == 0) && ((6 : Int) == 3 || (6 : Int) == 4 || ([] : List UInt8) == []) && ((6 : Int) == 6 || (keysD us).length == 0) && ((6 : Int) == 6 || (6 : Int) == 5 || its.length == 0) && decide (0 ≤ (6 : Int) ∧ (6 : Int) ≤ 6) && (!((6 : Int) == 1) || (0 : Int) == 0 || (0 : Int) == 1) && (!((6 : Int) == 4) || _) && (!((6 : Int) == 6) || ((keysD us).length == its.length && decide (strsL (vD 6 0 [] its (keysD us))).Nodup))) = true
  rw [strs_keys]
  have : (keysD us).length = its.length := by unfold keysD; rw [List.length_map]; exact hl
  rw [this]
  simp [hn]
theorem value_got : ∀ (k m : Nat) (r : List UInt8) (y : D × Nat × List UInt8), valueJ k m r = .ok y → Vg k m r y
  | 0, m, r, y, h => by
    unfold valueJ at h
    split at h
    · cases h
    · split at h <;> cases h
  | k + 1, m, r, y, h => by
    unfold valueJ at h
    have hsp := (spc_suffix r).length_le
    have leaf : ∀ (kd n : Int) (t q : List UInt8), ((kd = 0 ∧ n = 0 ∧ t = []) ∨ (kd = 1 ∧ (n = 0 ∨ n = 1) ∧ t = []) ∨ (kd = 2 ∧ t = []) ∨ (kd = 3 ∧ n = 0)) → (-9223372036854775808 ≤ n ∧ n ≤ 9223372036854775807) → 1 + t.length + q.length ≤ r.length → Vg (k + 1) m r (vD kd n t [] [], m + 1, q) := fun kd n t q hk hn hl => by
      obtain ⟨g1, g2, g3⟩ := node_got (k := k) (kd := kd) (n := n) (t := t) (its := []) (us := []) (fun d hd => by cases hd) (by omega) hn (node_simple t kd n hk)
      refine ⟨g1, ?_, ?_⟩
      · show m + 1 = m + sizeJ (k + 1) (vD kd n t [] (keysD []))
        rw [g2]; rfl
      · show wtJ (k + 1) (vD kd n t [] (keysD [])) + q.length ≤ r.length
        rw [g3]
        show 1 + t.length + 0 + 0 + q.length ≤ r.length
        omega
    cases hs : spc r with
    | nil => rw [hs] at h; cases h
    | cons c q =>
      rw [hs] at h hsp
      dsimp only at h
      simp only [List.length_cons] at hsp
      by_cases h1 : beginsJ c = false
      · rw [if_pos h1] at h; cases h
      rw [if_neg h1] at h
      by_cases h2 : 4096 < m + 1
      · rw [if_pos h2] at h; cases h
      rw [if_neg h2] at h
      by_cases h3 : c = 110
      · rw [if_pos h3] at h
        obtain ⟨a, ha, h⟩ := bind_ok h
        cases h
        have := word_len ha
        simp only [List.length_cons, List.length_nil] at this
        exact leaf 0 0 [] a (.inl ⟨rfl, rfl, rfl⟩) r_zero (by simp; omega)
      rw [if_neg h3] at h
      by_cases h4 : c = 116
      · rw [if_pos h4] at h
        obtain ⟨a, ha, h⟩ := bind_ok h
        cases h
        have := word_len ha
        simp only [List.length_cons, List.length_nil] at this
        exact leaf 1 1 [] a (.inr (.inl ⟨rfl, .inr rfl, rfl⟩)) (by decide) (by simp; omega)
      rw [if_neg h4] at h
      by_cases h5 : c = 102
      · rw [if_pos h5] at h
        obtain ⟨a, ha, h⟩ := bind_ok h
        cases h
        have := word_len ha
        simp only [List.length_cons, List.length_nil] at this
        exact leaf 1 0 [] a (.inr (.inl ⟨rfl, .inl rfl, rfl⟩)) r_zero (by simp; omega)
      rw [if_neg h5] at h
      by_cases h6 : c = 34
      · rw [if_pos h6] at h
        obtain ⟨a, ha, h⟩ := bind_ok h
        cases h
        have := str_len ha
        simp only [List.length_cons] at this
        exact leaf 3 0 a.1 a.2 (.inr (.inr (.inr ⟨rfl, rfl⟩))) r_zero (by omega)
      rw [if_neg h6] at h
      have hsq : (spc q).length ≤ q.length := (spc_suffix q).length_le
      have rest : ∀ (kd : Int) (its : List D) (us : List (List UInt8)) (n2 : Nat) (q2 : List UInt8), kd ≠ 4 → (∀ d ∈ its, Gd k d) → nodeB (vD kd 0 [] its (keysD us)) = true → n2 = m + 1 + (its.map (sizeJ k)).sum → kwU us + (its.map (wtJ k)).sum + q2.length ≤ q.length → Vg (k + 1) m r (vD kd 0 [] its (keysD us), n2, q2) := fun kd its us n2 q2 h4 hi hb hn hl => by
        obtain ⟨g1, g2, g3⟩ := node_got (k := k) (kd := kd) (n := 0) (t := []) (its := its) (us := us) hi h4 r_zero hb
        refine ⟨g1, ?_, ?_⟩
        · show n2 = m + sizeJ (k + 1) (vD kd 0 [] its (keysD us))
          rw [g2]; omega
        · show wtJ (k + 1) (vD kd 0 [] its (keysD us)) + q2.length ≤ r.length
          rw [g3]
          show 1 + 0 + kwU us + (its.map (wtJ k)).sum + q2.length ≤ r.length
          omega
      by_cases h7 : c = 91
      · rw [if_pos h7] at h
        by_cases hh : (spc q).head? = some 93
        · rw [if_pos hh] at h
          cases h
          exact rest 5 [] [] (m + 1) _ (by decide) (fun d hd => by cases hd) (node_list []) rfl (by
            show 0 + 0 + (spc q).tail.length ≤ q.length
            rw [List.length_tail]; omega)
        · rw [if_neg hh] at h
          obtain ⟨a, ha, h⟩ := bind_ok h
          cases h
          obtain ⟨i1, i2, i3⟩ := items_got (value_got k) _ _ _ _ _ ha (fun d hd => by cases hd)
          simp only [List.map_nil, List.sum_nil] at i2 i3
          exact rest 5 a.1 [] a.2.1 _ (by decide) i1 (node_list a.1) (by omega) (by
            show 0 + _ + _ ≤ _
            omega)
      rw [if_neg h7] at h
      by_cases h8 : c = 123
      · rw [if_pos h8] at h
        by_cases hh : (spc q).head? = some 125
        · rw [if_pos hh] at h
          cases h
          exact rest 6 [] [] (m + 1) _ (by decide) (fun d hd => by cases hd) (node_obj [] [] List.nodup_nil rfl) rfl (by
            show 0 + 0 + (spc q).tail.length ≤ q.length
            rw [List.length_tail]; omega)
        · rw [if_neg hh] at h
          obtain ⟨a, ha, h⟩ := bind_ok h
          cases h
          obtain ⟨i1, i2, i3, i4, i5⟩ := fields_got (value_got k) _ _ _ _ _ _ ha (fun d hd => by cases hd) List.nodup_nil rfl
          simp only [List.map_nil, List.sum_nil, kwU] at i4 i5
          exact rest 6 a.2.1 a.1 a.2.2.1 _ (by decide) i1 (node_obj a.2.1 a.1 i2 i3) (by omega) (by unfold kwU; omega)
      rw [if_neg h8] at h
      obtain ⟨a, ha, h⟩ := bind_ok h
      cases h
      have hq := (numJ_suffix ha).2
      simp only [List.length_cons] at hq
      exact leaf 2 a.1 [] a.2 (.inr (.inr (.inl ⟨rfl, rfl⟩))) (num_in ha) (by simp; omega)
theorem parse_got {s : List UInt8} {d : D} (h : parseJ s = .ok d) : Gd 24 d ∧ sizeJ 24 d ≤ 4096 ∧ wtJ 24 d ≤ s.length := by
  unfold parseJ at h
  obtain ⟨a, ha, h⟩ := bind_ok h
  obtain ⟨g1, g2, g3⟩ := value_got 24 0 s a ha
  have g4 := (value_part 24 0 s a ha).2.2.2
  cases hs : spc a.2.2 with
  | nil => rw [hs] at h; cases h; exact ⟨g1, by omega, by omega⟩
  | cons c q => rw [hs] at h; cases h
end Go.Proofs.YtjhjleanihgopaaDoor
namespace Go.Proofs.YtjhjleanihgopaaDoor
open Go.RowKit
attribute [local irreducible] wpList Calls Code.wp
attribute [local irreducible] AW AWo OpOk seqK blockK scopeK loopK endK endKB AC ACB absLex absLexG Yld YldG Sub
set_option maxRecDepth 100000 in
theorem every_dp : ∀ {k : Nat} {d : D}, everyB k d = true → Dp k d
  | 0, _, h => by cases h
  | k + 1, d, h => by
    unfold everyB at h
    rw [Bool.and_eq_true, List.all_eq_true] at h
    exact fun i hi => every_dp (h.2 i (List.mem_range.2 hi))
end Go.Proofs.YtjhjleanihgopaaDoor
namespace Go.Proofs.YtjhjleanihgopaaDoor
open Go.ChangeShapes Go.WideShapes Go.ChangeAt Go.RowKit
attribute [local irreducible] wpList Calls Code.wp
set_option maxRecDepth 100000 in
theorem relL1 {P : Program} {s : Sg} {w : World} {v : V} {u : Value} (h : rel P s w v u) : relL P s w [v] (#[u] : Array Value).toList := by
  show relL P s w [v] [u]
  rw [relL]; exact ⟨h, by simp [relL]⟩
end Go.Proofs.YtjhjleanihgopaaDoor
namespace Go.Proofs.YtjhjleanihgopaaDoor
open Go.RowKit
attribute [local irreducible] wpList Calls Code.wp AW AWo OpOk seqK blockK scopeK loopK endK endKB AC ACB absLex absLexG Yld YldG Sub
set_option maxRecDepth 100000 in
theorem parsesBig (s : ByteArray) (hs : 9000 < s.size) : AC EN5 Tryd.prog 6 [.c (.string s)] (.c (.bool true)) := by
  have h1 := exam3_ac
  refine ac_enter 41 Tryd.func6 rfl rfl rfl rfl ?_
  intro w0 w he
  repeat' (first
    | refine aw_seq ?_
    | refine aw_region ?_
    | refine awo_nil ?_
    | refine k_seq ?_
    | refine k_block ?_
    | refine k_scope ?_
    | refine aw_block ?_
    | refine aw_skip ?_
    | refine aw_label ?_
    | refine aw_scope ?_
    | (apply s_pick_t rfl rfl
       · conv => lhs; whnf
       · conv => lhs; whnf
       · first | exact bT1 (by assumption) | exact bT2 (by assumption))
    | (apply s_pick_f rfl rfl
       · conv => lhs; whnf
       · conv => lhs; whnf
       · first | exact bF1 (by assumption) | exact bF2 (by assumption))
    | (apply s_val rfl
       · conv => lhs; whnf
       · conv => lhs; whnf; arg 2; whnf)
    | (apply s_call rfl
       · conv => lhs; whnf
       · conv => lhs; whnf
       · first | exact h1)
    | (apply s_alloc rfl rfl rfl rfl
       · conv => lhs; whnf; arg 1; whnf
       · rfl)
    | (apply s_store rfl rfl rfl
       · conv => lhs; whnf
       · conv => lhs; whnf; arg 1; whnf
       · conv => lhs; whnf; arg 1; whnf
       · exact ⟨by kernel_rfl, by kernel_rfl⟩
       · rfl)
    | (apply s_wanted_val rfl
       · conv => lhs; whnf
       · conv => lhs; whnf
       · first | rfl | assumption
       · conv => lhs; whnf; arg 2; whnf)
    | (apply s_wanted_call rfl
       · conv => lhs; whnf
       · conv => lhs; whnf
       · first | rfl | assumption
       · conv => lhs; whnf
       · first | exact h1)
    | (apply s_skip rfl
       · conv => lhs; whnf
       · conv => lhs; whnf
       · first | rfl | assumption)
    | (apply s_guard_val rfl
       · conv => lhs; whnf
       · conv => lhs; whnf
       · conv => lhs; whnf; arg 2; whnf)
    | (apply s_guard_call rfl
       · conv => lhs; whnf
       · conv => lhs; whnf
       · conv => lhs; whnf
       · first | exact h1)
    | (apply aw_cond_t
       · conv => lhs; whnf; arg 1; arg 1; whnf)
    | (apply aw_cond_f
       · conv => lhs; whnf; arg 1; arg 1; whnf)
    | (refine aw_cond (by conv => lhs; whnf) ?_ ?_ <;> intro hb)
    | refine aw_ret ?_
    | refine aw_exit ?_
    | refine k_seq_exit ?_
    | refine k_seq_ret ?_
    | refine k_block_ret ?_
    | refine k_block_hit rfl ?_
    | refine k_block_miss rfl ?_
    | refine k_scope_exit ?_
    | refine k_scope_ret ?_
    | refine k_loop_exit ?_
    | refine k_loop_ret ?_
    | refine k_end ?_
    | refine k_end_ret ?_
    | (refine ⟨_, by conv => lhs; whnf; arg 2; whnf, ?_⟩; conv => rhs; whnf)
    | exact trivial
    | intro hg)
  · have g : decide ((s.size : Int) > 9000) = false := by assumption
    exact absurd (of_decide_eq_false g) (fun h => h (by omega))
  all_goals exact (show Tryd.prog.underlying 9 = some TypeDesc.string by kernel_rfl)
set_option maxRecDepth 100000 in
theorem parsesOk (s : ByteArray) (d : D) (hs : s.size ≤ 9000) (hp : parseJ s.data.toList = .ok d) : AC EN5 Tryd.prog 6 [.c (.string s)] (.c (.bool true)) := by
  have h1 := exam3_ac
  obtain ⟨g, gs, gw⟩ := parse_got hp
  have gw : wtJ 24 d ≤ s.size := gw
  have hdp := every_dp g.every
  have h2 := parseP_ac s (by omega)
  have h3 := parseQ_ac s (by omega)
  rw [hp] at h2 h3
  have h4 := equal_ac 24 d hdp (by omega)
  refine ac_enter 41 Tryd.func6 rfl rfl rfl rfl ?_
  intro w0 w he
  repeat' (first
    | (apply s_wanted_pick_t rfl rfl rfl
       · conv => lhs; whnf
       · first | rfl | assumption
       · conv => lhs; whnf
       · first | exact bT1 (by assumption) | exact bT2 (by assumption) | rfl)
    | (apply s_wpick_t rfl rfl rfl
       · conv => lhs; whnf
       · first | rfl | assumption
       · conv => lhs; whnf
       · first | exact bT1 (by assumption) | exact bT2 (by assumption) | rfl)
    | (apply s_wanted_pick_f rfl rfl rfl
       · conv => lhs; whnf
       · first | rfl | assumption
       · conv => lhs; whnf
       · first | exact bF1 (by assumption) | exact bF2 (by assumption) | rfl)
    | (apply s_wpick_f rfl rfl rfl
       · conv => lhs; whnf
       · first | rfl | assumption
       · conv => lhs; whnf
       · first | exact bF1 (by assumption) | exact bF2 (by assumption) | rfl)
    | refine aw_seq ?_
    | refine aw_region ?_
    | refine awo_nil ?_
    | refine k_seq ?_
    | refine k_block ?_
    | refine k_scope ?_
    | refine aw_block ?_
    | refine aw_skip ?_
    | refine aw_label ?_
    | refine aw_scope ?_
    | (apply s_pick_t rfl rfl
       · conv => lhs; whnf
       · conv => lhs; whnf
       · first | exact bT1 (by assumption) | exact bT2 (by assumption))
    | (apply s_pick_f rfl rfl
       · conv => lhs; whnf
       · conv => lhs; whnf
       · first | exact bF1 (by assumption) | exact bF2 (by assumption))
    | (apply s_val rfl
       · conv => lhs; whnf
       · conv => lhs; whnf; arg 2; whnf)
    | (apply s_call rfl
       · conv => lhs; whnf
       · conv => lhs; whnf
       · first | exact h1 | exact h2 | exact h3 | exact h4)
    | (apply s_alloc rfl rfl rfl rfl
       · conv => lhs; whnf; arg 1; whnf
       · rfl)
    | (apply s_store rfl rfl rfl
       · conv => lhs; whnf
       · conv => lhs; whnf; arg 1; whnf
       · conv => lhs; whnf; arg 1; whnf
       · exact ⟨by kernel_rfl, by kernel_rfl⟩
       · rfl)
    | (apply s_wanted_val rfl
       · conv => lhs; whnf
       · conv => lhs; whnf
       · first | rfl | assumption
       · conv => lhs; whnf; arg 2; whnf)
    | (apply s_wanted_call rfl
       · conv => lhs; whnf
       · conv => lhs; whnf
       · first | rfl | assumption
       · conv => lhs; whnf
       · first | exact h1 | exact h2 | exact h3 | exact h4)
    | (apply s_skipU rfl
       · conv => lhs; whnf
       · conv => lhs; whnf
       · first | rfl | assumption)
    | (apply s_dead rfl
       · conv => lhs; whnf
       · rfl
       · rfl)
    | (apply s_guard_valU rfl
       · conv => lhs; whnf
       · conv => lhs; whnf
       · conv => lhs; whnf; arg 2; whnf)
    | (apply s_guard_callU rfl
       · conv => lhs; whnf
       · conv => lhs; whnf
       · conv => lhs; whnf
       · first | exact h1 | exact h2 | exact h3 | exact h4)
    | (apply s_guard_val rfl
       · conv => lhs; whnf
       · conv => lhs; whnf
       · conv => lhs; whnf; arg 2; whnf)
    | (apply s_guard_call rfl
       · conv => lhs; whnf
       · conv => lhs; whnf
       · conv => lhs; whnf
       · first | exact h1 | exact h2 | exact h3 | exact h4)
    | (apply aw_cond_t
       · conv => lhs; whnf; arg 1; arg 1; whnf)
    | (apply aw_cond_f
       · conv => lhs; whnf; arg 1; arg 1; whnf)
    | (refine aw_cond (by conv => lhs; whnf) ?_ ?_ <;> intro hb)
    | refine aw_ret ?_
    | refine aw_exit ?_
    | refine k_seq_exit ?_
    | refine k_seq_ret ?_
    | refine k_block_ret ?_
    | refine k_block_hit rfl ?_
    | refine k_block_miss rfl ?_
    | refine k_scope_exit ?_
    | refine k_scope_ret ?_
    | refine k_loop_exit ?_
    | refine k_loop_ret ?_
    | refine k_end ?_
    | refine k_end_ret ?_
    | (refine ⟨_, by conv => lhs; whnf; arg 2; whnf, ?_⟩; conv => rhs; whnf)
    | exact trivial
    | intro hg)
  · rfl
  · exact (show Tryd.prog.underlying 9 = some TypeDesc.string by kernel_rfl)
set_option maxRecDepth 100000 in
theorem parsesBad (s : ByteArray) (ke : JE) (hs : s.size ≤ 9000) (hp : parseJ s.data.toList = .error ke) : AC EN5 Tryd.prog 6 [.c (.string s)] (.c (.bool true)) := by
  have h1 := exam3_ac
  have h2 := parseP_ac s (by omega)
  have h3 := parseQ_ac s (by omega)
  rw [hp] at h2 h3
  have h4 := zV_eq
  refine ac_enter 41 Tryd.func6 rfl rfl rfl rfl ?_
  intro w0 w he
  repeat' (first
    | (apply s_wanted_pick_t rfl rfl rfl
       · conv => lhs; whnf
       · first | rfl | assumption
       · conv => lhs; whnf
       · first | exact bT1 (by assumption) | exact bT2 (by assumption) | rfl)
    | (apply s_wpick_t rfl rfl rfl
       · conv => lhs; whnf
       · first | rfl | assumption
       · conv => lhs; whnf
       · first | exact bT1 (by assumption) | exact bT2 (by assumption) | rfl)
    | (apply s_wanted_pick_f rfl rfl rfl
       · conv => lhs; whnf
       · first | rfl | assumption
       · conv => lhs; whnf
       · first | exact bF1 (by assumption) | exact bF2 (by assumption) | rfl)
    | (apply s_wpick_f rfl rfl rfl
       · conv => lhs; whnf
       · first | rfl | assumption
       · conv => lhs; whnf
       · first | exact bF1 (by assumption) | exact bF2 (by assumption) | rfl)
    | refine aw_seq ?_
    | refine aw_region ?_
    | refine awo_nil ?_
    | refine k_seq ?_
    | refine k_block ?_
    | refine k_scope ?_
    | refine aw_block ?_
    | refine aw_skip ?_
    | refine aw_label ?_
    | refine aw_scope ?_
    | (apply s_pick_t rfl rfl
       · conv => lhs; whnf
       · conv => lhs; whnf
       · first | exact bT1 (by assumption) | exact bT2 (by assumption))
    | (apply s_pick_f rfl rfl
       · conv => lhs; whnf
       · conv => lhs; whnf
       · first | exact bF1 (by assumption) | exact bF2 (by assumption))
    | (apply s_val rfl
       · conv => lhs; whnf
       · conv => lhs; whnf; arg 2; whnf)
    | (apply s_call rfl
       · conv => lhs; whnf
       · conv => lhs; whnf
       · first | exact h1 | exact h2 | exact h3 | exact h4)
    | (apply s_alloc rfl rfl rfl rfl
       · conv => lhs; whnf; arg 1; whnf
       · rfl)
    | (apply s_store rfl rfl rfl
       · conv => lhs; whnf
       · conv => lhs; whnf; arg 1; whnf
       · conv => lhs; whnf; arg 1; whnf
       · exact ⟨by kernel_rfl, by kernel_rfl⟩
       · rfl)
    | (apply s_wanted_val rfl
       · conv => lhs; whnf
       · conv => lhs; whnf
       · first | rfl | assumption
       · conv => lhs; whnf; arg 2; whnf)
    | (apply s_wanted_call rfl
       · conv => lhs; whnf
       · conv => lhs; whnf
       · first | rfl | assumption
       · conv => lhs; whnf
       · first | exact h1 | exact h2 | exact h3 | exact h4)
    | (apply s_skipU rfl
       · conv => lhs; whnf
       · conv => lhs; whnf
       · first | rfl | assumption)
    | (apply s_dead rfl
       · conv => lhs; whnf
       · rfl
       · rfl)
    | (apply s_guard_valU rfl
       · conv => lhs; whnf
       · conv => lhs; whnf
       · conv => lhs; whnf; arg 2; whnf)
    | (apply s_guard_callU rfl
       · conv => lhs; whnf
       · conv => lhs; whnf
       · conv => lhs; whnf
       · first | exact h1 | exact h2 | exact h3 | exact h4)
    | (apply s_guard_val rfl
       · conv => lhs; whnf
       · conv => lhs; whnf
       · conv => lhs; whnf; arg 2; whnf)
    | (apply s_guard_call rfl
       · conv => lhs; whnf
       · conv => lhs; whnf
       · conv => lhs; whnf
       · first | exact h1 | exact h2 | exact h3 | exact h4)
    | (apply aw_cond_t
       · conv => lhs; whnf; arg 1; arg 1; whnf)
    | (apply aw_cond_f
       · conv => lhs; whnf; arg 1; arg 1; whnf)
    | (refine aw_cond (by conv => lhs; whnf) ?_ ?_ <;> intro hb)
    | refine aw_ret ?_
    | refine aw_exit ?_
    | refine k_seq_exit ?_
    | refine k_seq_ret ?_
    | refine k_block_ret ?_
    | refine k_block_hit rfl ?_
    | refine k_block_miss rfl ?_
    | refine k_scope_exit ?_
    | refine k_scope_ret ?_
    | refine k_loop_exit ?_
    | refine k_loop_ret ?_
    | refine k_end ?_
    | refine k_end_ret ?_
    | (refine ⟨_, by conv => lhs; whnf; arg 2; whnf, ?_⟩; conv => rhs; whnf)
    | exact trivial
    | intro hg)
  all_goals first
    | exact (show Tryd.prog.underlying 9 = some TypeDesc.string by kernel_rfl)
    | (exfalso; have g : ((ke.snd == ke.snd) == true) = false := by assumption
       simp at g; done)
    | (exfalso; have g : ((bif true then (s.size : Int) - (ke.fst : Int) == (s.size : Int) - (ke.fst : Int) else false) == true) = false := by assumption
       simp at g; done)
    | rfl
set_option maxRecDepth 100000 in
theorem law3Parses (s : ByteArray) : AC EN5 Tryd.prog 6 [.c (.string s)] (.c (.bool true)) := by
  by_cases hs : s.size ≤ 9000
  · cases hp : parseJ s.data.toList with
    | ok d => exact parsesOk s d hs hp
    | error ke => exact parsesBad s ke hs hp
  · exact parsesBig s (by omega)
set_option maxRecDepth 100000 in
theorem row3Parses {W : World} (s : ByteArray) (hs : s.size ≤ 140737488351232) (he : Env W) : Calls Tryd.prog 6 #[.string s] W fun e W' => e = .returned (.bool true) ∧ Below W.heap.size W W' :=
  calls_of_ac5 (law3Parses s) (relL1 (rel_str (by unfold maxLen; omega))) he
end Go.Proofs.YtjhjleanihgopaaDoor
