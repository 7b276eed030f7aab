/- Parts of a proof, merged by a program (shake.py). -/
import Derived.Test.YtjhjleanihgopaaDoorQ32
set_option linter.unusedVariables false
set_option linter.unusedSimpArgs false
namespace Go.Proofs.YtjhjleanihgopaaDoor
open Go.RowKit
attribute [local irreducible] wpList Calls Code.wp AW AWo OpOk seqK blockK scopeK loopK endK endKB AC ACB absLex absLexG Yld YldG Sub
set_option maxRecDepth 100000 in
theorem fieldsS_e {S : List UInt8} {f : JS → D × JS} {j : Nat} {x : JS} {ks : List (List UInt8)} {l : List D} (h : x.e ≠ 0) : fieldsS S f j x ks l = (ks, l, x) := by
  cases j with
  | zero => rfl
  | succ j => unfold fieldsS; rw [if_pos h]
/-- the key, and where the reader is when a field's value comes -/
def keyF (S : List UInt8) (x : JS) : List UInt8 := (strS S (spaceS S x)).1
def preF (S : List UInt8) (ks : List (List UInt8)) (x : JS) : JS := twiceS ks (keyF S x) (spaceS S x).p (strS S (spaceS S x)).2
def valF3 (S : List UInt8) (ks : List (List UInt8)) (x : JS) : JS := (takeS S [58] (spaceS S (preF S ks x))).2
def endF (S : List UInt8) (f : JS → D × JS) (ks : List (List UInt8)) (x : JS) : UInt8 × JS := takeS S [44, 125] (spaceS S (f (valF3 S ks x)).2)
set_option maxRecDepth 100000 in
theorem fields_end {S : List UInt8} {f : JS → D × JS} {j : Nat} {x : JS} {ks : List (List UInt8)} {l : List D} (h : x.e = 0) (h2 : (endF S f ks x).1 = 125) : fieldsS S f (j + 1) x ks l = (ks ++ [keyF S x], l ++ [(f (valF3 S ks x)).1], (endF S f ks x).2) := by
  rw [fieldsS, if_neg (fun hh => hh h)]; dsimp only; exact if_pos h2
set_option maxRecDepth 100000 in
theorem fields_go {S : List UInt8} {f : JS → D × JS} {j : Nat} {x : JS} {ks : List (List UInt8)} {l : List D} (h : x.e = 0) (h2 : ¬ (endF S f ks x).1 = 125) : fieldsS S f (j + 1) x ks l = fieldsS S f j (endF S f ks x).2 (ks ++ [keyF S x]) (l ++ [(f (valF3 S ks x)).1]) := by
  rw [fieldsS, if_neg (fun hh => hh h)]; dsimp only; exact if_neg h2
noncomputable def HoP (s : ByteArray) (lv : Nat) (y : JS) (ks : List (List UInt8)) (l : List D) : Vst 81 :=
  stS 81 [(0, .bx (pn 0) 0), (1, .c (.int .i64 lv)), (4, .bx 4 0), (5, .bx 5 0)]
    [(pn 0, boxP s y), (4, .box 39 zeroCv), (5, .box 39 [.c (.int .i64 6), .c (.int .i64 0), .c (.string { data := #[] }), .own 73 39 l, .own 64 9 (keysD ks)]), (73, .tok 39 l.length), (64, .tok 9 (keysD ks).length)]
/-- an object as it is built -/
def objV (S : List UInt8) (f : JS → D × JS) (x : JS) : V :=
  if atS S (spaceS S (goS x)) = 125 then .agg (leafV (vD 6 0 [] [] [])) else .agg [.c (.int .i64 6), .c (.int .i64 0), .c (.string { data := #[] }), .sl 39 (fieldsS S f (S.length + 2) (spaceS S (goS x)) [] []).2.1, .sl 9 (keysD (fieldsS S f (S.length + 2) (spaceS S (goS x)) [] []).1)]
set_option maxRecDepth 100000 in
theorem objV_le (S : List UInt8) (f : JS → D × JS) (x : JS) : VLe (objV S f x) (.agg (cellsV Tryd.prog 12 39 (objS S f x).1)) := by
  unfold objV objS
  dsimp only
  split
  · exact leafV_le 6 0 []
  · exact .agg (.cons (.refl _) (.cons (.refl _) (.cons (.refl _) (.cons (.refl _) (.cons (.refl _) .nil)))))
set_option maxHeartbeats 4000000 in
set_option maxRecDepth 100000 in
theorem objP_raw (s : ByteArray) (f : JS → D × JS) (lv : Nat) (x : JS) (hlv : lv ≤ 1000) (hs : s.size ≤ 100000) (hp : x.p < s.size) (hm : x.m ≤ 4096) (hf : FOk s.data.toList f)
    (hc : ∀ y, y.p ≤ s.size → y.m ≤ 4096 → ACB EN5 Tryd.prog 38 [.bx (pn 0) 0, .c (.int .i64 ((lv : Int) + 1))] [boxP s y] (.agg (cellsV Tryd.prog 12 39 (f y).1)) [boxP s (f y).2]) :
    ACB EN5 Tryd.prog 67 [.bx (pn 0) 0, .c (.int .i64 (lv : Int))] [boxP s x] (objV s.data.toList f x) [boxP s (objS s.data.toList f x).2] := by
  have hlen : s.data.toList.length = s.size := rfl
  have g1 := mv_go (S := s.data.toList) hp
  have g2 := g1.trans (mv_space g1.hi)
  have h1 := spaceP_acb s (goS x) (by omega) g1.hi
  have hpk := peekP_acb s (spaceS s.data.toList (goS x)) (by omega)
  have hO := (g2.mc hm).oc
  have hlt : atS s.data.toList (spaceS s.data.toList (goS x)) = 125 → (spaceS s.data.toList (goS x)).p < s.size := fun h => at_lt (S := s.data.toList) (by decide) h
  unfold objV objS
  dsimp only
  generalize spaceS s.data.toList (goS x) = y0 at h1 hpk hO hlt
  refine acb_enter (fn := Tryd.f67) 81 Tryd.func67 rfl rfl ?_
  intro pas w0 w he hpp
  repeat' (first
    | (apply s_meth (cellsP s) (fun _ _ => rfl) rfl
       · conv => lhs; whnf
       · conv => lhs; whnf
       · rfl
       · conv => lhs; whnf; arg 1; whnf
       · first | exact eta0 _ _ | exact eta1 _ _ | exact eta2 _ _ | exact eta3 _ _ | exact eta6 _ | exact etaQ0 _ _ | exact etaQ1 _ _ | exact etaQ2 _ _ | exact etaQ3 _ _ | exact etaQ6 _
       · first | exact h1 | exact hpk
       · exact fun _ => rfl
       · exact fun _ => rfl)
    | (apply s_wanted_meth (cellsP s) (fun _ _ => rfl) rfl
       · conv => lhs; whnf
       · conv => lhs; whnf
       · first | rfl | assumption
       · conv => lhs; whnf
       · rfl
       · conv => lhs; whnf; arg 1; whnf
       · first | exact eta0 _ _ | exact eta1 _ _ | exact eta2 _ _ | exact eta3 _ _ | exact eta6 _ | exact etaQ0 _ _ | exact etaQ1 _ _ | exact etaQ2 _ _ | exact etaQ3 _ _ | exact etaQ6 _
       · first | exact h1 | exact hpk
       · exact fun _ => rfl
       · exact fun _ => rfl)
    | (apply s_skip rfl
       · conv => lhs; whnf
       · conv => lhs; whnf
       · first | rfl | assumption)
    | (apply s_guard_meth (cellsP s) (fun _ _ => rfl) rfl
       · conv => lhs; whnf
       · conv => lhs; whnf
       · conv => lhs; whnf
       · rfl
       · conv => lhs; whnf; arg 1; whnf
       · first | exact eta0 _ _ | exact eta1 _ _ | exact eta2 _ _ | exact eta3 _ _ | exact eta6 _ | exact etaQ0 _ _ | exact etaQ1 _ _ | exact etaQ2 _ _ | exact etaQ3 _ _ | exact etaQ6 _
       · first | exact h1 | exact hpk
       · exact fun _ => rfl
       · exact fun _ => rfl)
    | refine aw_seq ?_
    | refine aw_region ?_
    | refine awo_nil ?_
    | refine k_seq ?_
    | refine k_block ?_
    | refine k_scope ?_
    | refine aw_block ?_
    | refine aw_skip ?_
    | refine aw_label ?_
    | refine aw_scope ?_
    | (apply s_pick_t rfl rfl
       · conv => lhs; whnf
       · conv => lhs; whnf
       · first | exact bT1 (by assumption) | exact bT2 (by assumption))
    | (apply s_pick_f rfl rfl
       · conv => lhs; whnf
       · conv => lhs; whnf
       · first | exact bF1 (by assumption) | exact bF2 (by assumption))
    | (apply s_val rfl
       · conv => lhs; whnf
       · conv => lhs; whnf; arg 2; whnf)
    | (apply s_call rfl
       · conv => lhs; whnf
       · conv => lhs; whnf
       · first | fail)
    | (apply s_alloc rfl rfl rfl rfl
       · conv => lhs; whnf; arg 1; whnf
       · rfl)
    | (apply s_store rfl rfl rfl
       · conv => lhs; whnf
       · conv => lhs; whnf; arg 1; whnf
       · conv => lhs; whnf; arg 1; whnf
       · exact ⟨by kernel_rfl, by kernel_rfl⟩
       · rfl)
    | (apply s_app rfl rfl
       · conv => lhs; whnf
       · first | (conv => lhs; whnf; arg 1; whnf)
       · first | exact fun _ => rfl | (intro _; kernel_rfl)
       · conv => lhs; whnf
       · conv => lhs; whnf; arg 1; whnf
       · conv => lhs; whnf)
    | (apply s_app_nil rfl rfl rfl rfl
       · first | (conv => lhs; whnf; arg 1; whnf)
       · first | exact fun _ => rfl | (intro _; kernel_rfl)
       · conv => lhs; whnf
       · conv => lhs; whnf)
    | (apply s_lit0 rfl rfl
       · conv => lhs; whnf
       · first | (conv => lhs; whnf; arg 1; whnf))
    | (apply s_lit1 rfl rfl
       · conv => lhs; whnf
       · first | (conv => lhs; whnf; arg 1; whnf)
       · conv => lhs; whnf; arg 1; whnf
       · rfl
       · rfl)
    | (apply s_onlit rfl rfl
       · conv => lhs; whnf
       · first | (conv => lhs; whnf; arg 1; whnf)
       · first | exact fun _ => rfl | (intro _; kernel_rfl)
       · conv => lhs; whnf
       · conv => lhs; whnf)
    | (apply s_wanted_val rfl
       · conv => lhs; whnf
       · conv => lhs; whnf
       · first | rfl | assumption
       · conv => lhs; whnf; arg 2; whnf)
    | (apply s_wanted_call rfl
       · conv => lhs; whnf
       · conv => lhs; whnf
       · first | rfl | assumption
       · conv => lhs; whnf
       · first | fail)
    | (apply s_skip rfl
       · conv => lhs; whnf
       · conv => lhs; whnf
       · first | rfl | assumption)
    | (apply s_guard_val rfl
       · conv => lhs; whnf
       · conv => lhs; whnf
       · conv => lhs; whnf; arg 2; whnf)
    | (apply s_guard_call rfl
       · conv => lhs; whnf
       · conv => lhs; whnf
       · conv => lhs; whnf
       · first | fail)
    | (apply aw_draw (by kernel_rfl) (by kernel_rfl))
    | apply y_nil
    | (apply y_pick_t rfl rfl
       · conv => lhs; whnf
       · conv => lhs; whnf
       · first | exact bT1 (by assumption) | exact bT2 (by assumption))
    | (apply y_pick_f rfl rfl
       · conv => lhs; whnf
       · conv => lhs; whnf
       · first | exact bF1 (by assumption) | exact bF2 (by assumption))
    | (apply y_val rfl
       · conv => lhs; whnf
       · conv => lhs; whnf; arg 2; whnf)
    | (apply y_call rfl
       · conv => lhs; whnf
       · conv => lhs; whnf
       · first | fail)
    | (apply y_store rfl rfl rfl
       · conv => lhs; whnf
       · rfl
       · rfl
       · conv => lhs; whnf; arg 1; whnf
       · conv => lhs; whnf; arg 1; whnf
       · exact ⟨by kernel_rfl, by kernel_rfl⟩
       · rfl)
    | (apply y_app rfl rfl
       · conv => lhs; whnf
       · first | (conv => lhs; whnf; arg 1; whnf)
       · first | exact fun _ => rfl | (intro _; kernel_rfl)
       · conv => lhs; whnf
       · rfl
       · rfl
       · conv => lhs; whnf; arg 1; whnf
       · conv => lhs; whnf)
    | (apply y_lit0 rfl rfl
       · conv => lhs; whnf
       · first | (conv => lhs; whnf; arg 1; whnf))
    | (apply y_lit1 rfl rfl
       · conv => lhs; whnf
       · first | (conv => lhs; whnf; arg 1; whnf)
       · conv => lhs; whnf; arg 1; whnf
       · rfl
       · rfl)
    | (apply y_onlit rfl rfl
       · conv => lhs; whnf
       · first | (conv => lhs; whnf; arg 1; whnf)
       · first | exact fun _ => rfl | (intro _; kernel_rfl)
       · conv => lhs; whnf
       · conv => lhs; whnf)
    | (apply y_wanted_val rfl
       · conv => lhs; whnf
       · conv => lhs; whnf
       · first | rfl | assumption
       · conv => lhs; whnf; arg 2; whnf)
    | (apply y_wanted_call rfl
       · conv => lhs; whnf
       · conv => lhs; whnf
       · first | rfl | assumption
       · conv => lhs; whnf
       · first | fail)
    | (apply y_skip rfl
       · conv => lhs; whnf
       · conv => lhs; whnf
       · first | rfl | assumption)
    | (apply y_guard_val rfl
       · conv => lhs; whnf
       · conv => lhs; whnf
       · conv => lhs; whnf; arg 2; whnf)
    | (apply y_guard_call rfl
       · conv => lhs; whnf
       · conv => lhs; whnf
       · conv => lhs; whnf
       · first | fail)
    | exact apartB_none
    | exact apartB_nil
    | exact all_nil
    | (show List.all _ _ = true; rfl)
    | (show apartB _ _ = true; rfl)
    | exact ([] : List Nat)
    | exact (1000000 : Nat)
    | (apply aw_cond_t
       · conv => lhs; whnf; arg 1; arg 1; whnf)
    | (apply aw_cond_f
       · conv => lhs; whnf; arg 1; arg 1; whnf)
    | (refine aw_cond (by conv => lhs; whnf) ?_ ?_ <;> intro hb)
    | refine aw_ret ?_
    | refine aw_exit ?_
    | refine k_seq_exit ?_
    | refine k_seq_ret ?_
    | refine k_block_ret ?_
    | refine k_block_hit rfl ?_
    | refine k_block_miss rfl ?_
    | refine k_scope_exit ?_
    | refine k_scope_ret ?_
    | refine k_loop_exit ?_
    | refine k_loop_ret ?_
    | refine k_endB ⟨?_, ?_⟩
    | refine k_endB_ret ⟨?_, ?_⟩
    | exact (rfl : _ = V.tup [])
    | (refine ⟨_, by conv => lhs; whnf; arg 2; whnf, ?_⟩; conv => rhs; whnf)
    | exact trivial
    | intro hg)
  · have h : atS s.data.toList y0 = 125 := u8_eq (n := 125) (by assumption) (by decide)
    rw [if_pos h]; rfl
  · have h : atS s.data.toList y0 = 125 := u8_eq (n := 125) (by assumption) (by decide)
    rw [if_pos h]; exact ⟨rfl, trivial⟩
  · have h : atS s.data.toList y0 = 125 := u8_eq (n := 125) (by assumption) (by decide)
    have := hlt h
    exact i64_in2 (by omega)
  · have hn : ¬ atS s.data.toList y0 = 125 := u8_ne2 (n := 125) (by assumption) (by decide)
    rw [if_neg hn, if_neg hn]
    have hR0 : fieldsS s.data.toList f (s.data.toList.length + 2) y0 [] [] = fieldsS s.data.toList f (s.data.toList.length + 2) y0 [] [] := rfl
    generalize hR : fieldsS s.data.toList f (s.data.toList.length + 2) y0 [] [] = R at hR0 ⊢
    clear hR0
    refine aw_sub (Sub.ownF (m := 5) (q := 73) (i := 3) (e := 39) rfl (by decide) rfl rfl rfl) ?_
    refine aw_sub (Sub.ownF (m := 5) (q := 64) (i := 4) (e := 9) rfl (by decide) rfl rfl rfl) ?_
    refine aw_loop (fun j st => ∃ y ks l, fieldsS s.data.toList f j y ks l = R ∧ Oc s.data.toList y ∧ (y.e = 0 → s.size - y.p + 1 ≤ j) ∧ l.length + j ≤ s.size + 2 ∧ ks.length = l.length ∧ Sub ⟨Tryd.prog, pas, w0, w, EN5, he, hpp⟩ st (HoP s lv y ks l)) (s.data.toList.length + 2) ⟨y0, [], [], hR, hO, fun _ => by omega, by simp [hlen], rfl, ?_⟩ ?_
    · exact Sub.live ⟨rfl, rfl, rfl, rfl, trivial⟩ ⟨rfl, rfl, rfl, rfl, rfl, trivial⟩
    · rintro j st ⟨y, ks, l, hR, hO, hj, hl, hkl, hs2⟩
      refine aw_sub hs2 ?_
      clear hs2
      have m1 := mv_space hO.hi
      have m2 := m1.trans (mv_str m1.hi)
      have m3 : Mv s.data.toList y (preF s.data.toList ks y) := m2.trans (mv_twice m2.hi ks (keyF s.data.toList y) (spaceS s.data.toList y).p)
      have m4 := m3.trans (mv_space m3.hi)
      have m5 : Mv s.data.toList y (valF3 s.data.toList ks y) := m4.trans (mv_take m4.hi [58])
      have c6 := fun (h : (y.e == 0) = true) => m5.then (hf _ m5.hi (by rw [m5.m]; exact hO.e (by simpa using h)))
      have c7 := fun h => (c6 h).mv (mv_space (c6 h).hi)
      have c8 := fun h => (c7 h).mv (mv_take (c7 h).hi [44, 125])
      have k1 := spaceP_acb s y (by omega) hO.hi
      have k2 := strP_acb s (spaceS s.data.toList y) hs m1.hi
      have k3 := containsS_ac (keysD ks) (bs (keyF s.data.toList y)) (by unfold keysD; rw [List.length_map]; omega)
      have k4 := failP_acb s (strS s.data.toList (spaceS s.data.toList y)).2 (spaceS s.data.toList y).p 7
      have k5 := spaceP_acb s (preF s.data.toList ks y) (by omega) m3.hi
      have k6 := takeP_q s (spaceS s.data.toList (preF s.data.toList ks y)) ⟨#[58]⟩ [58] rfl (by omega) (by decide) m4.hi
      have k7 := fun (h : (y.e == 0) = true) => hc (valF3 s.data.toList ks y) m5.hi (by rw [m5.m]; exact hO.e (by simpa using h))
      have k8 := fun h => spaceP_acb s (f (valF3 s.data.toList ks y)).2 (by omega) (c6 h).hi
      have k9 := fun h => takeP_q s (spaceS s.data.toList (f (valF3 s.data.toList ks y)).2) ⟨#[44, 125]⟩ [44, 125] rfl (by omega) (by decide) (c7 h).hi
      have hkey : (decide (keyF s.data.toList y ∈ ks)) = hasL (keysD ks) (bs (keyF s.data.toList y)) := by
        cases hq : hasL (keysD ks) (bs (keyF s.data.toList y)) with
        | true => exact decide_eq_true ((hasL_keys ks _).1 hq)
        | false => exact decide_eq_false fun h => by rw [(hasL_keys ks _).2 h] at hq; cases hq
      have hkd : keysD ks ++ [D.str (bs (keyF s.data.toList y))] = keysD (ks ++ [keyF s.data.toList y]) := by unfold keysD; rw [List.map_append]; rfl
      have hkn : (keysD ks).length = l.length := by unfold keysD; rw [List.length_map]; exact hkl
      repeat' (first
    | (apply s_meth (cellsP s) (fun _ _ => rfl) rfl
       · conv => lhs; whnf
       · conv => lhs; whnf
       · rfl
       · conv => lhs; whnf; arg 1; whnf
       · first | exact eta0 _ _ | exact eta1 _ _ | exact eta2 _ _ | exact eta3 _ _ | exact eta6 _ | exact etaQ0 _ _ | exact etaQ1 _ _ | exact etaQ2 _ _ | exact etaQ3 _ _ | exact etaQ6 _
       · first | exact k1 | exact k2 | exact k4 | exact k5 | exact k6 | exact k7 (by assumption) | exact k8 (by assumption) | exact k9 (by assumption)
       · exact fun _ => rfl
       · exact fun _ => rfl)
    | (apply g_meth (cellsP s) (fun _ _ => rfl) rfl
       · conv => lhs; whnf
       · conv => lhs; whnf
       · rfl
       · conv => lhs; whnf; arg 1; whnf
       · first | exact eta0 _ _ | exact eta1 _ _ | exact eta2 _ _ | exact eta3 _ _ | exact eta6 _ | exact etaQ0 _ _ | exact etaQ1 _ _ | exact etaQ2 _ _ | exact etaQ3 _ _ | exact etaQ6 _
       · first | exact k1 | exact k2 | exact k4 | exact k5 | exact k6 | exact k7 (by assumption) | exact k8 (by assumption) | exact k9 (by assumption)
       · exact fun _ => rfl
       · exact fun _ => rfl
       · rfl)
    | (apply s_wanted_meth (cellsP s) (fun _ _ => rfl) rfl
       · conv => lhs; whnf
       · conv => lhs; whnf
       · first | rfl | assumption
       · conv => lhs; whnf
       · rfl
       · conv => lhs; whnf; arg 1; whnf
       · first | exact eta0 _ _ | exact eta1 _ _ | exact eta2 _ _ | exact eta3 _ _ | exact eta6 _ | exact etaQ0 _ _ | exact etaQ1 _ _ | exact etaQ2 _ _ | exact etaQ3 _ _ | exact etaQ6 _
       · first | exact k1 | exact k2 | exact k4 | exact k5 | exact k6 | exact k7 (by assumption) | exact k8 (by assumption) | exact k9 (by assumption)
       · exact fun _ => rfl
       · exact fun _ => rfl)
    | (apply s_skip rfl
       · conv => lhs; whnf
       · conv => lhs; whnf
       · first | rfl | assumption)
    | (apply s_guard_meth (cellsP s) (fun _ _ => rfl) rfl
       · conv => lhs; whnf
       · conv => lhs; whnf
       · conv => lhs; whnf
       · rfl
       · conv => lhs; whnf; arg 1; whnf
       · first | exact eta0 _ _ | exact eta1 _ _ | exact eta2 _ _ | exact eta3 _ _ | exact eta6 _ | exact etaQ0 _ _ | exact etaQ1 _ _ | exact etaQ2 _ _ | exact etaQ3 _ _ | exact etaQ6 _
       · first | exact k1 | exact k2 | exact k4 | exact k5 | exact k6 | exact k7 (by assumption) | exact k8 (by assumption) | exact k9 (by assumption)
       · exact fun _ => rfl
       · exact fun _ => rfl)
    | (apply aw_drawGn 10 ([(1, [5])]) ([(5, [1000000]), (7, [73]), (9, [5])]) rfl (by kernel_rfl) (by kernel_rfl) (by kernel_rfl))
    | apply g_nil
    | (apply g_val rfl
       · conv => lhs; whnf
       · conv => lhs; whnf; arg 2; whnf)
    | (apply g_call rfl
       · conv => lhs; whnf
       · conv => lhs; whnf
       · first | exact k3)
    | (apply g_app rfl rfl
       · conv => lhs; whnf
       · first | (conv => lhs; whnf; arg 1; whnf)
       · first | exact fun _ => rfl | (intro _; kernel_rfl)
       · conv => lhs; whnf
       · rfl
       · conv => lhs; whnf; arg 1; whnf
       · conv => lhs; whnf)
    | (apply g_store rfl rfl rfl
       · conv => lhs; whnf
       · rfl
       · conv => lhs; whnf; arg 1; whnf
       · conv => lhs; whnf; arg 1; whnf
       · exact ⟨by kernel_rfl, by kernel_rfl⟩
       · rfl)
    | (show inO _ _ = true; rfl)
    | (apply g_lit [(f (valF3 s.data.toList ks y)).1] rfl rfl
       · conv => lhs; whnf
       · first | (conv => lhs; whnf; arg 1; whnf)
       · rfl
       · rfl
       · repeat' (first | exact trivial | apply And.intro | rfl))
    | apply aw_cutAt 13 (stS 81 [(0, .bx (pn 0) 0), (1, .c (.int .i64 lv)), (4, .bx 4 0), (5, .bx 5 0), (7, .c (.string (bs (keyF s.data.toList y))))] [(pn 0, boxP s (preF s.data.toList ks y)), (4, .box 39 zeroCv), (5, .box 39 [.c (.int .i64 6), .c (.int .i64 0), .c (.string { data := #[] }), .own 73 39 l, .own 64 9 (keysD ks)]), (73, .tok 39 l.length), (64, .tok 9 (keysD ks).length)]) rfl
    | refine k_cut_ret ?_
    | refine k_cut_exit ?_
    | refine k_cut ?_
    | refine aw_seq ?_
    | refine aw_region ?_
    | refine awo_nil ?_
    | refine k_seq ?_
    | refine k_block ?_
    | refine k_scope ?_
    | refine aw_block ?_
    | refine aw_skip ?_
    | refine aw_label ?_
    | refine aw_scope ?_
    | (apply s_pick_t rfl rfl
       · conv => lhs; whnf
       · conv => lhs; whnf
       · first | exact bT1 (by assumption) | exact bT2 (by assumption))
    | (apply s_pick_f rfl rfl
       · conv => lhs; whnf
       · conv => lhs; whnf
       · first | exact bF1 (by assumption) | exact bF2 (by assumption))
    | (apply s_val rfl
       · conv => lhs; whnf
       · conv => lhs; whnf; arg 2; whnf)
    | (apply s_call rfl
       · conv => lhs; whnf
       · conv => lhs; whnf
       · first | exact k3)
    | (apply s_alloc rfl rfl rfl rfl
       · conv => lhs; whnf; arg 1; whnf
       · rfl)
    | (apply s_store rfl rfl rfl
       · conv => lhs; whnf
       · conv => lhs; whnf; arg 1; whnf
       · conv => lhs; whnf; arg 1; whnf
       · exact ⟨by kernel_rfl, by kernel_rfl⟩
       · rfl)
    | (apply s_app rfl rfl
       · conv => lhs; whnf
       · first | (conv => lhs; whnf; arg 1; whnf)
       · first | exact fun _ => rfl | (intro _; kernel_rfl)
       · conv => lhs; whnf
       · conv => lhs; whnf; arg 1; whnf
       · conv => lhs; whnf)
    | (apply s_app_nil rfl rfl rfl rfl
       · first | (conv => lhs; whnf; arg 1; whnf)
       · first | exact fun _ => rfl | (intro _; kernel_rfl)
       · conv => lhs; whnf
       · conv => lhs; whnf)
    | (apply s_lit0 rfl rfl
       · conv => lhs; whnf
       · first | (conv => lhs; whnf; arg 1; whnf))
    | (apply s_lit1 rfl rfl
       · conv => lhs; whnf
       · first | (conv => lhs; whnf; arg 1; whnf)
       · conv => lhs; whnf; arg 1; whnf
       · rfl
       · rfl)
    | (apply s_onlit rfl rfl
       · conv => lhs; whnf
       · first | (conv => lhs; whnf; arg 1; whnf)
       · first | exact fun _ => rfl | (intro _; kernel_rfl)
       · conv => lhs; whnf
       · conv => lhs; whnf)
    | (apply s_wanted_val rfl
       · conv => lhs; whnf
       · conv => lhs; whnf
       · first | rfl | assumption
       · conv => lhs; whnf; arg 2; whnf)
    | (apply s_wanted_call rfl
       · conv => lhs; whnf
       · conv => lhs; whnf
       · first | rfl | assumption
       · conv => lhs; whnf
       · first | exact k3)
    | (apply s_skip rfl
       · conv => lhs; whnf
       · conv => lhs; whnf
       · first | rfl | assumption)
    | (apply s_guard_val rfl
       · conv => lhs; whnf
       · conv => lhs; whnf
       · conv => lhs; whnf; arg 2; whnf)
    | (apply s_guard_call rfl
       · conv => lhs; whnf
       · conv => lhs; whnf
       · conv => lhs; whnf
       · first | exact k3)
    | (apply aw_draw (by kernel_rfl) (by kernel_rfl))
    | apply y_nil
    | (apply y_pick_t rfl rfl
       · conv => lhs; whnf
       · conv => lhs; whnf
       · first | exact bT1 (by assumption) | exact bT2 (by assumption))
    | (apply y_pick_f rfl rfl
       · conv => lhs; whnf
       · conv => lhs; whnf
       · first | exact bF1 (by assumption) | exact bF2 (by assumption))
    | (apply y_val rfl
       · conv => lhs; whnf
       · conv => lhs; whnf; arg 2; whnf)
    | (apply y_call rfl
       · conv => lhs; whnf
       · conv => lhs; whnf
       · first | exact k3)
    | (apply y_store rfl rfl rfl
       · conv => lhs; whnf
       · rfl
       · rfl
       · conv => lhs; whnf; arg 1; whnf
       · conv => lhs; whnf; arg 1; whnf
       · exact ⟨by kernel_rfl, by kernel_rfl⟩
       · rfl)
    | (apply y_app rfl rfl
       · conv => lhs; whnf
       · first | (conv => lhs; whnf; arg 1; whnf)
       · first | exact fun _ => rfl | (intro _; kernel_rfl)
       · conv => lhs; whnf
       · rfl
       · rfl
       · conv => lhs; whnf; arg 1; whnf
       · conv => lhs; whnf)
    | (apply y_lit0 rfl rfl
       · conv => lhs; whnf
       · first | (conv => lhs; whnf; arg 1; whnf))
    | (apply y_lit1 rfl rfl
       · conv => lhs; whnf
       · first | (conv => lhs; whnf; arg 1; whnf)
       · conv => lhs; whnf; arg 1; whnf
       · rfl
       · rfl)
    | (apply y_onlit rfl rfl
       · conv => lhs; whnf
       · first | (conv => lhs; whnf; arg 1; whnf)
       · first | exact fun _ => rfl | (intro _; kernel_rfl)
       · conv => lhs; whnf
       · conv => lhs; whnf)
    | (apply y_wanted_val rfl
       · conv => lhs; whnf
       · conv => lhs; whnf
       · first | rfl | assumption
       · conv => lhs; whnf; arg 2; whnf)
    | (apply y_wanted_call rfl
       · conv => lhs; whnf
       · conv => lhs; whnf
       · first | rfl | assumption
       · conv => lhs; whnf
       · first | exact k3)
    | (apply y_skip rfl
       · conv => lhs; whnf
       · conv => lhs; whnf
       · first | rfl | assumption)
    | (apply y_guard_val rfl
       · conv => lhs; whnf
       · conv => lhs; whnf
       · conv => lhs; whnf; arg 2; whnf)
    | (apply y_guard_call rfl
       · conv => lhs; whnf
       · conv => lhs; whnf
       · conv => lhs; whnf
       · first | exact k3)
    | exact apartB_none
    | exact apartB_nil
    | exact all_nil
    | (show List.all _ _ = true; rfl)
    | (show apartB _ _ = true; rfl)
    | exact ([] : List Nat)
    | exact (1000000 : Nat)
    | (apply aw_cond_t
       · conv => lhs; whnf; arg 1; arg 1; whnf)
    | (apply aw_cond_f
       · conv => lhs; whnf; arg 1; arg 1; whnf)
    | (refine aw_cond (by conv => lhs; whnf) ?_ ?_ <;> intro hb)
    | refine aw_ret ?_
    | refine aw_exit ?_
    | refine k_seq_exit ?_
    | refine k_seq_ret ?_
    | refine k_block_ret ?_
    | refine k_block_hit rfl ?_
    | refine k_block_miss rfl ?_
    | refine k_scope_exit ?_
    | refine k_scope_ret ?_
    | refine k_loop_exit ?_
    | refine k_loop_ret ?_
    | refine k_endB ⟨?_, ?_⟩
    | refine k_endB_ret ⟨?_, ?_⟩
    | exact (rfl : _ = V.tup [])
    | (refine ⟨_, by conv => lhs; whnf; arg 2; whnf, ?_⟩; conv => rhs; whnf)
    | exact trivial
    | intro hg)
      all_goals
        first
          | exact i64_in2 (by omega)
          | (have g0 : (y.e == 0) = false := by assumption
             have g0 : y.e ≠ 0 := by simpa using g0
             rw [← hR, fieldsS_e g0] <;> first | rfl | exact ⟨rfl, trivial⟩)
          | (have g0 : (y.e == 0) = true := by assumption
             have c8 := c8 g0
             have hhi8 : (endF s.data.toList f ks y).2.p ≤ s.size := c8.hi
             have hlo7 : y.p ≤ (spaceS s.data.toList (f (valF3 s.data.toList ks y)).2).p := (c7 g0).lo
             have g0 : y.e = 0 := by simpa using g0
             have hj1 := hj g0
             obtain ⟨j, rfl⟩ : ∃ i, j = i + 1 := ⟨j - 1, by omega⟩
             first
               | (have g1 : (((endF s.data.toList f ks y).1.toNat : Int) == 125) = true := by assumption
                  have g1 := u8_eq (n := 125) g1 (by decide)
                  rw [← hR, fields_end g0 g1]
                  dsimp only
                  rw [← hkd]
                  rfl)
               | (have g1 : (((endF s.data.toList f ks y).1.toNat : Int) == 125) = true := by assumption
                  have g1 := u8_eq (n := 125) g1 (by decide)
                  rw [← hR, fields_end g0 g1] <;> first | rfl | exact ⟨rfl, trivial⟩)
               | (have g1 : (((endF s.data.toList f ks y).1.toNat : Int) == 125) = false := by assumption
                  have g1 := u8_ne2 (n := 125) g1 (by decide)
                  refine k_loop_next (Nat.lt_succ_self j) ⟨(endF s.data.toList f ks y).2, ks ++ [keyF s.data.toList y], l ++ [(f (valF3 s.data.toList ks y)).1], by rw [← fields_go g0 g1]; exact hR, c8.oc, fun h => ?_, by rw [List.length_append]; simp only [List.length_cons, List.length_nil]; omega, by rw [List.length_append, List.length_append, hkl]; rfl, Sub.live ⟨rfl, rfl, rfl, rfl, trivial⟩ ⟨rfl, rfl, ?_, ?_, ?_, trivial⟩⟩
                  · have e : (endF s.data.toList f ks y).2 = (takeS s.data.toList [44, 125] (spaceS s.data.toList (f (valF3 s.data.toList ks y)).2)).2 := rfl
                    rw [e] at hhi8 h ⊢
                    have := take_go (S := s.data.toList) [44, 125] h
                    omega
                  · rw [← hkd]; rfl
                  · rw [List.length_append]; rfl
                  · rw [← hkd, List.length_append]; rfl)
               | (refine ⟨by simp, by simp only [List.length_cons, List.length_nil, maxLen]; omega, ?_⟩
                  show (l.length + 1) * 80 ≤ 140737488355328
                  omega)
               | (refine ⟨by simp, by rw [hkn]; simp only [List.length_cons, List.length_nil, maxLen]; omega, ?_⟩
                  rw [hkn]
                  show (l.length + 1) * 16 ≤ 140737488355328
                  omega)
               | (have g1 : (((strS s.data.toList (spaceS s.data.toList y)).2.e == 0) == true) = false := by assumption
                  have g1 : ¬ (strS s.data.toList (spaceS s.data.toList y)).2.e = 0 := by simpa using g1
                  have e : preF s.data.toList ks y = (strS s.data.toList (spaceS s.data.toList y)).2 := by
                    unfold preF twiceS; rw [if_neg fun h => g1 h.1]
                  rw [e]
                  exact Sub.live ⟨rfl, rfl, rfl, rfl, rfl, trivial⟩ ⟨rfl, rfl, rfl, rfl, rfl, trivial⟩)
               | (have g1 : (((strS s.data.toList (spaceS s.data.toList y)).2.e == 0) == true) = true := by assumption
                  have g1 : (strS s.data.toList (spaceS s.data.toList y)).2.e = 0 := by simpa using g1
                  first
                    | (have g2 : hasL (keysD ks) (bs (keyF s.data.toList y)) = true := by assumption
                       have g2 := (hasL_keys ks _).1 g2
                       have e : preF s.data.toList ks y = failS (strS s.data.toList (spaceS s.data.toList y)).2 (spaceS s.data.toList y).p 7 := by
                         unfold preF twiceS; rw [if_pos ⟨g1, g2⟩]
                       rw [e]
                       exact Sub.live ⟨rfl, rfl, rfl, rfl, rfl, trivial⟩ ⟨rfl, rfl, rfl, rfl, rfl, trivial⟩)
                    | (have g2 : hasL (keysD ks) (bs (keyF s.data.toList y)) = false := by assumption
                       have e : preF s.data.toList ks y = (strS s.data.toList (spaceS s.data.toList y)).2 := by
                         unfold preF twiceS; rw [if_neg fun h => by rw [(hasL_keys ks _).2 h.2] at g2; cases g2]
                       rw [e]
                       exact Sub.live ⟨rfl, rfl, rfl, rfl, rfl, trivial⟩ ⟨rfl, rfl, rfl, rfl, rfl, trivial⟩)))
  · exact i64_in2 (by omega)
set_option maxRecDepth 100000 in
theorem objP_acb (s : ByteArray) (f : JS → D × JS) (lv : Nat) (x : JS) (hlv : lv ≤ 1000) (hs : s.size ≤ 100000) (hp : x.p < s.size) (hm : x.m ≤ 4096) (hf : FOk s.data.toList f)
    (hc : ∀ y, y.p ≤ s.size → y.m ≤ 4096 → ACB EN5 Tryd.prog 38 [.bx (pn 0) 0, .c (.int .i64 ((lv : Int) + 1))] [boxP s y] (.agg (cellsV Tryd.prog 12 39 (f y).1)) [boxP s (f y).2]) :
    ACB EN5 Tryd.prog 67 [.bx (pn 0) 0, .c (.int .i64 (lv : Int))] [boxP s x] (.agg (cellsV Tryd.prog 12 39 (objS s.data.toList f x).1)) [boxP s (objS s.data.toList f x).2] :=
  (objP_raw s f lv x hlv hs hp hm hf hc).res (objV_le _ _ _)
end Go.Proofs.YtjhjleanihgopaaDoor
namespace Go.Proofs.YtjhjleanihgopaaDoor
open Go.RowKit
attribute [local irreducible] wpList Calls Code.wp AW AWo OpOk seqK blockK scopeK loopK endK endKB AC ACB absLex absLexG Yld YldG Sub
/-- a value as it is built, behind its head -/
noncomputable def stepV (S : List UInt8) (f : JS → D × JS) (y : JS) : V :=
  if y.e ≠ 0 then .agg (leafV (vD 0 0 [] [] []))
  else if atS S y = 110 then .agg (leafV (vD 0 0 [] [] []))
  else if atS S y = 116 then .agg (leafV (vD 1 1 [] [] []))
  else if atS S y = 102 then .agg (leafV (vD 1 0 [] [] []))
  else if atS S y = 34 then .agg (leafV (vD 3 0 (strS S y).1 [] []))
  else if atS S y = 91 then .agg (cellsV Tryd.prog 12 39 (listS S f y).1)
  else if atS S y = 123 then .agg (cellsV Tryd.prog 12 39 (objS S f y).1)
  else .agg (leafV (numberS S y).1)
def stepT (S : List UInt8) (f : JS → D × JS) (y : JS) : D × JS :=
  if y.e ≠ 0 then (vD 0 0 [] [] [], y)
  else if atS S y = 110 then (vD 0 0 [] [] [], wordS S [110, 117, 108, 108] y)
  else if atS S y = 116 then (vD 1 1 [] [] [], wordS S [116, 114, 117, 101] y)
  else if atS S y = 102 then (vD 1 0 [] [] [], wordS S [102, 97, 108, 115, 101] y)
  else if atS S y = 34 then (vD 3 0 (strS S y).1 [] [], (strS S y).2)
  else if atS S y = 91 then listS S f y
  else if atS S y = 123 then objS S f y
  else numberS S y
set_option maxRecDepth 100000 in
theorem leaf_le {d : D} (h : ∃ k n u, d = vD k n u [] []) : VLe (.agg (leafV d)) (.agg (cellsV Tryd.prog 12 39 d)) := by
  obtain ⟨k, n, u, rfl⟩ := h; exact leafV_le k n u
set_option maxRecDepth 100000 in
theorem stepV_le (S : List UInt8) (f : JS → D × JS) (y : JS) : VLe (stepV S f y) (.agg (cellsV Tryd.prog 12 39 (stepT S f y).1)) := by
  unfold stepV stepT
  split
  · exact leafV_le _ _ _
  split
  · exact leafV_le _ _ _
  split
  · exact leafV_le _ _ _
  split
  · exact leafV_le _ _ _
  split
  · exact leafV_le _ _ _
  split
  · exact .refl _
  split
  · exact .refl _
  · obtain ⟨k, n, h⟩ := number_leaf S y
    exact leaf_le ⟨k, n, [], h⟩
def head1 (S : List UInt8) (x : JS) : JS := if (spaceS S x).p = S.length ∨ dBeg.contains (atS S (spaceS S x)) = false then failS (spaceS S x) (spaceS S x).p 3 else spaceS S x
def head2 (S : List UInt8) (deep : Bool) (x : JS) : JS := if deep = true then failS (head1 S x) (head1 S x).p 5 else head1 S x
set_option maxRecDepth 100000 in
theorem head_3 (S : List UInt8) (deep : Bool) (x : JS) : headS S deep x = (if 4096 < (head2 S deep x).m + 1 then failS ⟨(head2 S deep x).p, (head2 S deep x).m + 1, (head2 S deep x).bad, (head2 S deep x).e⟩ (head2 S deep x).p 4 else ⟨(head2 S deep x).p, (head2 S deep x).m + 1, (head2 S deep x).bad, (head2 S deep x).e⟩) := rfl
set_option maxHeartbeats 4000000 in
set_option maxRecDepth 100000 in
theorem stepP_raw (s : ByteArray) (f : JS → D × JS) (lv : Nat) (deep : Bool) (x : JS) (hlv : lv ≤ 1000) (hdeep : deep = decide (24 < lv)) (hs : s.size ≤ 100000) (hp : x.p ≤ s.size) (hm : x.m ≤ 4096)
    (hL : deep = false → ∀ y, y.p < s.size → y.m ≤ 4096 → ACB EN5 Tryd.prog 66 [.bx (pn 0) 0, .c (.int .i64 (lv : Int))] [boxP s y] (.agg (cellsV Tryd.prog 12 39 (listS s.data.toList f y).1)) [boxP s (listS s.data.toList f y).2])
    (hO : deep = false → ∀ y, y.p < s.size → y.m ≤ 4096 → ACB EN5 Tryd.prog 67 [.bx (pn 0) 0, .c (.int .i64 (lv : Int))] [boxP s y] (.agg (cellsV Tryd.prog 12 39 (objS s.data.toList f y).1)) [boxP s (objS s.data.toList f y).2]) :
    ACB EN5 Tryd.prog 38 [.bx (pn 0) 0, .c (.int .i64 (lv : Int))] [boxP s x] (stepV s.data.toList f (headS s.data.toList deep x)) [boxP s (stepT s.data.toList f (headS s.data.toList deep x)).2] := by
  have hlen : s.data.toList.length = s.size := rfl
  have m1 := mv_space (S := s.data.toList) hp
  have h1 := spaceP_acb s x (by omega) hp
  have hix := fun n => indexByte_ac ⟨#[110, 116, 102, 34, 45, 91, 123, 48, 49, 50, 51, 52, 53, 54, 55, 56, 57]⟩ n (by decide)
  have m2 : Mv s.data.toList x (head1 s.data.toList x) := by
    unfold head1
    split
    · exact m1.trans (mv_fail m1.hi _ (by decide))
    · exact m1
  have m3 : Mv s.data.toList x (head2 s.data.toList deep x) := by
    unfold head2
    split
    · exact m2.trans (mv_fail m2.hi _ (by decide))
    · exact m2
  have hm3 := m3.m
  have hcH := mc_head (S := s.data.toList) deep hp hm
  have hne : ∀ (z : JS) (q : Nat) (c : Int), c ≠ 0 → (failS z q c).e ≠ 0 := fun z q c hc hh => by
    unfold failS at hh
    split at hh
    · exact hc hh
    · rename_i h9; exact h9 hh
  have hdE : deep = true → (headS s.data.toList deep x).e ≠ 0 := fun hd h => by
    subst hd
    have h2 : (head2 s.data.toList true x).e ≠ 0 := by unfold head2; rw [if_pos rfl]; exact hne _ _ 5 (by decide)
    rw [head_3] at h
    by_cases hc : 4096 < (head2 s.data.toList true x).m + 1
    · rw [if_pos hc] at h; exact hne _ _ 4 (by decide) h
    · rw [if_neg hc] at h; exact h2 h
  have hHhi : (headS s.data.toList deep x).p ≤ s.size := hcH.hi
  have hcHm := hcH.e
  have hh3 := head_3 s.data.toList deep x
  generalize hY : headS s.data.toList deep x = Y at hcH hdE hHhi hcHm hh3 ⊢
  have hmY := fun (h : (Y.e != 0) = false) => (hcHm (eq_b h)).2
  have hpk := peekP_acb s Y (by omega)
  have hw1 := wordP_acb s Y ⟨#[110, 117, 108, 108]⟩ (by omega) (by decide) hHhi
  have hw2 := wordP_acb s Y ⟨#[116, 114, 117, 101]⟩ (by omega) (by decide) hHhi
  have hw3 := wordP_acb s Y ⟨#[102, 97, 108, 115, 101]⟩ (by omega) (by decide) hHhi
  have hst := strP_acb s Y hs hHhi
  have hnum := numberP_acb s Y (by omega) hHhi
  have hdf : (Y.e != 0) = false → deep = false := fun h => by
    cases hq : deep with
    | false => rfl
    | true => exact (hdE hq (eq_b h)).elim
  have hL2 := fun (h : (Y.e != 0) = false) (h2 : (((atS s.data.toList Y).toNat : Int) == 91) = true) => hL (hdf h) Y (at_lt (S := s.data.toList) (b := 91) (by decide) (u8_eq (n := 91) h2 (by decide))) (hmY h)
  have hO2 := fun (h : (Y.e != 0) = false) (h2 : (((atS s.data.toList Y).toNat : Int) == 123) = true) => hO (hdf h) Y (at_lt (S := s.data.toList) (b := 123) (by decide) (u8_eq (n := 123) h2 (by decide))) (hmY h)
  refine acb_enter (fn := Tryd.f38) 102 Tryd.func38 rfl rfl ?_
  intro pas w0 w he hpp
  repeat' (first
    | (apply s_meth (cellsP s) (fun _ _ => rfl) rfl
       · conv => lhs; whnf
       · conv => lhs; whnf
       · rfl
       · conv => lhs; whnf; arg 1; whnf
       · first | exact eta0 _ _ | exact eta1 _ _ | exact eta2 _ _ | exact eta3 _ _ | exact eta6 _ | exact etaQ0 _ _ | exact etaQ1 _ _ | exact etaQ2 _ _ | exact etaQ3 _ _ | exact etaQ6 _
       · first | exact h1 | exact failP_acb _ _ _ _ | exact hpk | exact hw1 | exact hw2 | exact hw3 | exact hst | exact hL2 (by assumption) (by assumption) | exact hO2 (by assumption) (by assumption) | exact hnum
       · exact fun _ => rfl
       · exact fun _ => rfl)
    | (apply s_wanted_meth (cellsP s) (fun _ _ => rfl) rfl
       · conv => lhs; whnf
       · conv => lhs; whnf
       · first | rfl | assumption
       · conv => lhs; whnf
       · rfl
       · conv => lhs; whnf; arg 1; whnf
       · first | exact eta0 _ _ | exact eta1 _ _ | exact eta2 _ _ | exact eta3 _ _ | exact eta6 _ | exact etaQ0 _ _ | exact etaQ1 _ _ | exact etaQ2 _ _ | exact etaQ3 _ _ | exact etaQ6 _
       · first | exact h1 | exact failP_acb _ _ _ _ | exact hpk | exact hw1 | exact hw2 | exact hw3 | exact hst | exact hL2 (by assumption) (by assumption) | exact hO2 (by assumption) (by assumption) | exact hnum
       · exact fun _ => rfl
       · exact fun _ => rfl)
    | (apply s_skip rfl
       · conv => lhs; whnf
       · conv => lhs; whnf
       · first | rfl | assumption)
    | (apply s_guard_meth (cellsP s) (fun _ _ => rfl) rfl
       · conv => lhs; whnf
       · conv => lhs; whnf
       · conv => lhs; whnf
       · rfl
       · conv => lhs; whnf; arg 1; whnf
       · first | exact eta0 _ _ | exact eta1 _ _ | exact eta2 _ _ | exact eta3 _ _ | exact eta6 _ | exact etaQ0 _ _ | exact etaQ1 _ _ | exact etaQ2 _ _ | exact etaQ3 _ _ | exact etaQ6 _
       · first | exact h1 | exact failP_acb _ _ _ _ | exact hpk | exact hw1 | exact hw2 | exact hw3 | exact hst | exact hL2 (by assumption) (by assumption) | exact hO2 (by assumption) (by assumption) | exact hnum
       · exact fun _ => rfl
       · exact fun _ => rfl)
    | apply aw_cutAt 4 (stS 102 [(0, .bx (pn 0) 0), (1, .c (.int .i64 lv)), (4, .bx 4 0)] [(pn 0, boxP s (head1 s.data.toList x)), (4, .box 39 zeroCv)]) rfl
    | apply aw_cutAt 6 (stS 102 [(0, .bx (pn 0) 0), (1, .c (.int .i64 lv)), (4, .bx 4 0)] [(pn 0, boxP s (head2 s.data.toList deep x)), (4, .box 39 zeroCv)]) rfl
    | apply aw_cutAt 9 (stS 102 [(0, .bx (pn 0) 0), (1, .c (.int .i64 lv)), (4, .bx 4 0)] [(pn 0, boxP s Y), (4, .box 39 zeroCv)]) rfl
    | refine k_cut_ret ?_
    | refine k_cut_exit ?_
    | refine k_cut ?_
    | refine aw_seq ?_
    | refine aw_region ?_
    | refine awo_nil ?_
    | refine k_seq ?_
    | refine k_block ?_
    | refine k_scope ?_
    | refine aw_block ?_
    | refine aw_skip ?_
    | refine aw_label ?_
    | refine aw_scope ?_
    | (apply s_pick_t rfl rfl
       · conv => lhs; whnf
       · conv => lhs; whnf
       · first | exact bT1 (by assumption) | exact bT2 (by assumption))
    | (apply s_pick_f rfl rfl
       · conv => lhs; whnf
       · conv => lhs; whnf
       · first | exact bF1 (by assumption) | exact bF2 (by assumption))
    | (apply s_val rfl
       · conv => lhs; whnf
       · conv => lhs; whnf; arg 2; whnf)
    | (apply s_call rfl
       · conv => lhs; whnf
       · conv => lhs; whnf
       · first | exact hix _)
    | (apply s_alloc rfl rfl rfl rfl
       · conv => lhs; whnf; arg 1; whnf
       · rfl)
    | (apply s_store rfl rfl rfl
       · conv => lhs; whnf
       · conv => lhs; whnf; arg 1; whnf
       · conv => lhs; whnf; arg 1; whnf
       · exact ⟨by kernel_rfl, by kernel_rfl⟩
       · rfl)
    | (apply s_wanted_val rfl
       · conv => lhs; whnf
       · conv => lhs; whnf
       · first | rfl | assumption
       · conv => lhs; whnf; arg 2; whnf)
    | (apply s_wanted_call rfl
       · conv => lhs; whnf
       · conv => lhs; whnf
       · first | rfl | assumption
       · conv => lhs; whnf
       · first | exact hix _)
    | (apply s_skip rfl
       · conv => lhs; whnf
       · conv => lhs; whnf
       · first | rfl | assumption)
    | (apply s_guard_val rfl
       · conv => lhs; whnf
       · conv => lhs; whnf
       · conv => lhs; whnf; arg 2; whnf)
    | (apply s_guard_call rfl
       · conv => lhs; whnf
       · conv => lhs; whnf
       · conv => lhs; whnf
       · first | exact hix _)
    | (apply aw_draw (by kernel_rfl) (by kernel_rfl))
    | apply y_nil
    | (apply y_pick_t rfl rfl
       · conv => lhs; whnf
       · conv => lhs; whnf
       · first | exact bT1 (by assumption) | exact bT2 (by assumption))
    | (apply y_pick_f rfl rfl
       · conv => lhs; whnf
       · conv => lhs; whnf
       · first | exact bF1 (by assumption) | exact bF2 (by assumption))
    | (apply y_val rfl
       · conv => lhs; whnf
       · conv => lhs; whnf; arg 2; whnf)
    | (apply y_call rfl
       · conv => lhs; whnf
       · conv => lhs; whnf
       · first | exact hix _)
    | (apply y_store rfl rfl rfl
       · conv => lhs; whnf
       · rfl
       · rfl
       · conv => lhs; whnf; arg 1; whnf
       · conv => lhs; whnf; arg 1; whnf
       · exact ⟨by kernel_rfl, by kernel_rfl⟩
       · rfl)
    | (apply y_wanted_val rfl
       · conv => lhs; whnf
       · conv => lhs; whnf
       · first | rfl | assumption
       · conv => lhs; whnf; arg 2; whnf)
    | (apply y_wanted_call rfl
       · conv => lhs; whnf
       · conv => lhs; whnf
       · first | rfl | assumption
       · conv => lhs; whnf
       · first | exact hix _)
    | (apply y_skip rfl
       · conv => lhs; whnf
       · conv => lhs; whnf
       · first | rfl | assumption)
    | (apply y_guard_val rfl
       · conv => lhs; whnf
       · conv => lhs; whnf
       · conv => lhs; whnf; arg 2; whnf)
    | (apply y_guard_call rfl
       · conv => lhs; whnf
       · conv => lhs; whnf
       · conv => lhs; whnf
       · first | exact hix _)
    | exact apartB_none
    | exact apartB_nil
    | exact all_nil
    | (show List.all _ _ = true; rfl)
    | (show apartB _ _ = true; rfl)
    | exact ([] : List Nat)
    | exact (1000000 : Nat)
    | (apply aw_cond_t
       · conv => lhs; whnf; arg 1; arg 1; whnf)
    | (apply aw_cond_f
       · conv => lhs; whnf; arg 1; arg 1; whnf)
    | (refine aw_cond (by conv => lhs; whnf) ?_ ?_ <;> intro hb)
    | refine aw_ret ?_
    | refine aw_exit ?_
    | refine k_seq_exit ?_
    | refine k_seq_ret ?_
    | refine k_block_ret ?_
    | refine k_block_hit rfl ?_
    | refine k_block_miss rfl ?_
    | refine k_scope_exit ?_
    | refine k_scope_ret ?_
    | refine k_loop_exit ?_
    | refine k_loop_ret ?_
    | refine k_endB ⟨?_, ?_⟩
    | refine k_endB_ret ⟨?_, ?_⟩
    | exact (rfl : _ = V.tup [])
    | (refine ⟨_, by conv => lhs; whnf; arg 2; whnf, ?_⟩; conv => rhs; whnf)
    | exact trivial
    | intro hg)
  all_goals try (show Tryd.prog.underlying 9 = _; kernel_rfl)
  all_goals
    first
      | exact i64_in2 (by omega)
      | (have g := ne_b (n := Y.e) (by assumption)
         (first | unfold stepV | unfold stepT)
         rw [if_pos g] <;> first | rfl | exact ⟨rfl, trivial⟩)
      | (have g := eq_b (n := Y.e) (by assumption)
         have n0 : ¬ Y.e ≠ 0 := fun h => h g
         first
           | (have c0 : (((atS s.data.toList Y).toNat : Int) == 110) = true := by assumption
              have c0 : atS s.data.toList Y = 110 := u8_eq (n := 110) c0 (by decide)
              (first | unfold stepV | unfold stepT)
              rw [if_neg n0, if_pos c0] <;> first | rfl | exact ⟨rfl, trivial⟩)
           | (have c0 : (((atS s.data.toList Y).toNat : Int) == 110) = false := by assumption
              have c0 : ¬ atS s.data.toList Y = 110 := u8_ne2 (n := 110) c0 (by decide)
              first
                | (have c1 : (((atS s.data.toList Y).toNat : Int) == 116) = true := by assumption
                   have c1 : atS s.data.toList Y = 116 := u8_eq (n := 116) c1 (by decide)
                   (first | unfold stepV | unfold stepT)
                   rw [if_neg n0, if_neg c0, if_pos c1] <;> first | rfl | exact ⟨rfl, trivial⟩)
                | (have c1 : (((atS s.data.toList Y).toNat : Int) == 116) = false := by assumption
                   have c1 : ¬ atS s.data.toList Y = 116 := u8_ne2 (n := 116) c1 (by decide)
                   first
                     | (have c2 : (((atS s.data.toList Y).toNat : Int) == 102) = true := by assumption
                        have c2 : atS s.data.toList Y = 102 := u8_eq (n := 102) c2 (by decide)
                        (first | unfold stepV | unfold stepT)
                        rw [if_neg n0, if_neg c0, if_neg c1, if_pos c2] <;> first | rfl | exact ⟨rfl, trivial⟩)
                     | (have c2 : (((atS s.data.toList Y).toNat : Int) == 102) = false := by assumption
                        have c2 : ¬ atS s.data.toList Y = 102 := u8_ne2 (n := 102) c2 (by decide)
                        first
                          | (have c3 : (((atS s.data.toList Y).toNat : Int) == 34) = true := by assumption
                             have c3 : atS s.data.toList Y = 34 := u8_eq (n := 34) c3 (by decide)
                             (first | unfold stepV | unfold stepT)
                             rw [if_neg n0, if_neg c0, if_neg c1, if_neg c2, if_pos c3] <;> first | rfl | exact ⟨rfl, trivial⟩)
                          | (have c3 : (((atS s.data.toList Y).toNat : Int) == 34) = false := by assumption
                             have c3 : ¬ atS s.data.toList Y = 34 := u8_ne2 (n := 34) c3 (by decide)
                             first
                               | (have c4 : (((atS s.data.toList Y).toNat : Int) == 91) = true := by assumption
                                  have c4 : atS s.data.toList Y = 91 := u8_eq (n := 91) c4 (by decide)
                                  (first | unfold stepV | unfold stepT)
                                  rw [if_neg n0, if_neg c0, if_neg c1, if_neg c2, if_neg c3, if_pos c4] <;> first | rfl | exact ⟨rfl, trivial⟩)
                               | (have c4 : (((atS s.data.toList Y).toNat : Int) == 91) = false := by assumption
                                  have c4 : ¬ atS s.data.toList Y = 91 := u8_ne2 (n := 91) c4 (by decide)
                                  first
                                    | (have c5 : (((atS s.data.toList Y).toNat : Int) == 123) = true := by assumption
                                       have c5 : atS s.data.toList Y = 123 := u8_eq (n := 123) c5 (by decide)
                                       (first | unfold stepV | unfold stepT)
                                       rw [if_neg n0, if_neg c0, if_neg c1, if_neg c2, if_neg c3, if_neg c4, if_pos c5] <;> first | rfl | exact ⟨rfl, trivial⟩)
                                    | (have c5 : (((atS s.data.toList Y).toNat : Int) == 123) = false := by assumption
                                       have c5 : ¬ atS s.data.toList Y = 123 := u8_ne2 (n := 123) c5 (by decide)
                                       ((first | unfold stepV | unfold stepT)
                                        rw [if_neg n0, if_neg c0, if_neg c1, if_neg c2, if_neg c3, if_neg c4, if_neg c5] <;> first | rfl | exact ⟨rfl, trivial⟩))))))))
      | (have g : decide ((lv : Int) > 24) = true := by assumption
         have g := of_decide_eq_true g
         have e : head2 s.data.toList deep x = failS (head1 s.data.toList x) (head1 s.data.toList x).p 5 := by
           unfold head2; rw [if_pos (by rw [hdeep]; exact decide_eq_true (by omega))]
         rw [e]
         exact Sub.live ⟨rfl, rfl, rfl, trivial⟩ ⟨rfl, rfl, trivial⟩)
      | (have g : decide ((lv : Int) > 24) = false := by assumption
         have g := of_decide_eq_false g
         have e : head2 s.data.toList deep x = head1 s.data.toList x := by
           unfold head2; rw [if_neg (by rw [hdeep]; simp; omega)]
         rw [e]
         exact Sub.live ⟨rfl, rfl, rfl, trivial⟩ ⟨rfl, rfl, trivial⟩)
      | (have g : decide (((head2 s.data.toList deep x).m : Int) + 1 > 4096) = true := by assumption
         have g := of_decide_eq_true g
         rw [hh3, if_pos (by omega)]
         exact Sub.live ⟨rfl, rfl, rfl, trivial⟩ ⟨rfl, rfl, trivial⟩)
      | (have g : decide (((head2 s.data.toList deep x).m : Int) + 1 > 4096) = false := by assumption
         have g := of_decide_eq_false g
         rw [hh3, if_neg (by omega)]
         exact Sub.live ⟨rfl, rfl, rfl, trivial⟩ ⟨rfl, rfl, trivial⟩)
      | (have g := ne_of_p2 (p := (spaceS s.data.toList x).p) (q := s.size) (by assumption)
         have e : head1 s.data.toList x = failS (spaceS s.data.toList x) (spaceS s.data.toList x).p 3 := by
           unfold head1; rw [if_pos (.inl g)]
         rw [e]
         exact Sub.live ⟨rfl, rfl, rfl, trivial⟩ ⟨rfl, rfl, trivial⟩)
      | (have g := ne_of_p (p := (spaceS s.data.toList x).p) (q := s.size) (by assumption)
         have hi1 : (spaceS s.data.toList x).p ≤ s.size := m1.hi
         first
           | exact ⟨by kernel_rfl, by omega, by omega⟩
           | (have g1 : decide (ixU dBeg (byteAt s ((spaceS s.data.toList x).p : Int).toNat) < 0) = true := by assumption
              have g1 := (ix_at ⟨#[110, 116, 102, 34, 45, 91, 123, 48, 49, 50, 51, 52, 53, 54, 55, 56, 57]⟩ s (spaceS s.data.toList x)).1 (of_decide_eq_true g1)
              have e : head1 s.data.toList x = failS (spaceS s.data.toList x) (spaceS s.data.toList x).p 3 := by
                unfold head1; rw [if_pos (.inr g1)]
              rw [e]
              exact Sub.live ⟨rfl, rfl, rfl, trivial⟩ ⟨rfl, rfl, trivial⟩)
           | (have g1 : decide (ixU dBeg (byteAt s ((spaceS s.data.toList x).p : Int).toNat) < 0) = false := by assumption
              have e : head1 s.data.toList x = spaceS s.data.toList x := by
                unfold head1
                rw [if_neg fun h => h.elim (fun h => g h) fun h => of_decide_eq_false g1 ((ix_at ⟨#[110, 116, 102, 34, 45, 91, 123, 48, 49, 50, 51, 52, 53, 54, 55, 56, 57]⟩ s (spaceS s.data.toList x)).2 h)]
              rw [e]
              exact Sub.live ⟨rfl, rfl, rfl, trivial⟩ ⟨rfl, rfl, trivial⟩))
set_option maxRecDepth 100000 in
/-- a value, k levels below the deepest -/
theorem valueP_acb (s : ByteArray) (hs : s.size ≤ 100000) : ∀ (k : Nat) (x : JS), k ≤ 24 → x.p ≤ s.size → x.m ≤ 4096 → ACB EN5 Tryd.prog 38 [.bx (pn 0) 0, .c (.int .i64 ((25 - k : Nat) : Int))] [boxP s x] (.agg (cellsV Tryd.prog 12 39 (valueS s.data.toList k x).1)) [boxP s (valueS s.data.toList k x).2]
  | 0, x, hk, hp, hm => by
    have h := stepP_raw s (fun x => (vD 0 0 [] [] [], x)) 25 true x (by omega) rfl hs hp hm (fun h => by cases h) (fun h => by cases h)
    exact h.res (stepV_le _ _ _)
  | k + 1, x, hk, hp, hm => by
    have hf := value_ok (S := s.data.toList) k
    have hc : ∀ y, y.p ≤ s.size → y.m ≤ 4096 → ACB EN5 Tryd.prog 38 [.bx (pn 0) 0, .c (.int .i64 (((25 - (k + 1) : Nat) : Int) + 1))] [boxP s y] (.agg (cellsV Tryd.prog 12 39 (valueS s.data.toList k y).1)) [boxP s (valueS s.data.toList k y).2] := fun y hy hym => by
      have := valueP_acb s hs k y (by omega) hy hym
      rw [show ((25 - (k + 1) : Nat) : Int) + 1 = ((25 - k : Nat) : Int) by omega]
      exact this
    have h := stepP_raw s (valueS s.data.toList k) (25 - (k + 1)) false x (by omega) (by symm; exact decide_eq_false (by omega)) hs hp hm
      (fun _ y hy hym => listP_acb s (valueS s.data.toList k) _ y (by omega) hs hy hym hf hc) (fun _ y hy hym => objP_acb s (valueS s.data.toList k) _ y (by omega) hs hy hym hf hc)
    exact h.res (stepV_le _ _ _)
end Go.Proofs.YtjhjleanihgopaaDoor
namespace Go.Proofs.YtjhjleanihgopaaDoor
open Go.RowKit
attribute [local irreducible] wpList Calls Code.wp AW AWo OpOk seqK blockK scopeK loopK endK endKB AC ACB absLex absLexG Yld YldG Sub
set_option maxRecDepth 100000 in
theorem eta6 (s : ByteArray) : V.c (.string s) :: List.map V.c [.int .i64 0, .int .i64 0, .int .i64 0, .int .i64 0] = cellsP s ⟨0, 0, 0, 0⟩ := rfl
def pEnd (S : List UInt8) : JS :=
  if (spaceS S (valueS S 24 ⟨0, 0, 0, 0⟩).2).p < S.length then failS (spaceS S (valueS S 24 ⟨0, 0, 0, 0⟩).2) (spaceS S (valueS S 24 ⟨0, 0, 0, 0⟩).2).p 3 else spaceS S (valueS S 24 ⟨0, 0, 0, 0⟩).2
noncomputable def parseV (S : List UInt8) : V :=
  if (pEnd S).e ≠ 0 then .tup [.agg (leafV (vD 0 0 [] [] [])), .c (.int .i64 (pEnd S).bad), .c (.int .i64 (pEnd S).e)] else .tup [.agg (cellsV Tryd.prog 12 39 (valueS S 24 ⟨0, 0, 0, 0⟩).1), .c (.int .i64 0), .c (.int .i64 0)]
set_option maxRecDepth 100000 in
theorem parseV_le (S : List UInt8) : VLe (parseV S) (.tup [.agg (cellsV Tryd.prog 12 39 (parseS S).1), .c (.int .i64 (parseS S).2.1), .c (.int .i64 (parseS S).2.2)]) := by
  have e : parseS S = if (pEnd S).e ≠ 0 then (vD 0 0 [] [] [], (pEnd S).bad, (pEnd S).e) else ((valueS S 24 ⟨0, 0, 0, 0⟩).1, 0, 0) := rfl
  rw [e]
  unfold parseV
  split
  · exact .tup (.cons (leafV_le 0 0 []) (.cons (.refl _) (.cons (.refl _) .nil)))
  · exact .refl _
set_option maxHeartbeats 4000000 in
set_option maxRecDepth 100000 in
theorem parseP_raw (s : ByteArray) (hs : s.size ≤ 100000) : AC EN5 Tryd.prog 20 [.c (.string s)] (parseV s.data.toList) := by
  have hlen : s.data.toList.length = s.size := rfl
  have h0 := valueP_acb s hs 24 ⟨0, 0, 0, 0⟩ (by omega) (Nat.zero_le _) (Nat.zero_le _)
  have hv := value_ok (S := s.data.toList) 24 ⟨0, 0, 0, 0⟩ (Nat.zero_le _) (Nat.zero_le _)
  have h1 := spaceP_acb s (valueS s.data.toList 24 ⟨0, 0, 0, 0⟩).2 (by omega) hv.hi
  have hE : pEnd s.data.toList = if (spaceS s.data.toList (valueS s.data.toList 24 ⟨0, 0, 0, 0⟩).2).p < s.size then failS (spaceS s.data.toList (valueS s.data.toList 24 ⟨0, 0, 0, 0⟩).2) (spaceS s.data.toList (valueS s.data.toList 24 ⟨0, 0, 0, 0⟩).2).p 3 else spaceS s.data.toList (valueS s.data.toList 24 ⟨0, 0, 0, 0⟩).2 := rfl
  unfold parseV
  generalize pEnd s.data.toList = Y at hE ⊢
  refine ac_enter 42 Tryd.func20 rfl rfl rfl (by split <;> rfl) ?_
  intro w0 w he
  repeat' (first
    | (apply s_meth (cellsP s) (fun _ _ => rfl) rfl
       · conv => lhs; whnf
       · conv => lhs; whnf
       · rfl
       · conv => lhs; whnf; arg 1; whnf
       · first | exact eta0 _ _ | exact eta1 _ _ | exact eta2 _ _ | exact eta3 _ _ | exact eta6 _ | exact etaQ0 _ _ | exact etaQ1 _ _ | exact etaQ2 _ _ | exact etaQ3 _ _ | exact etaQ6 _
       · first | exact h0 | exact h1 | exact failP_acb _ _ _ _
       · exact fun _ => rfl
       · exact fun _ => rfl)
    | apply aw_cutAt 6 (stS 42 [(0, .c (.string s)), (2, .bx 2 0), (5, .bx 9 0), (6, .bx 6 0)] [(9, boxP s Y), (2, .box 39 zeroCv), (6, .box 39 (cellsV Tryd.prog 12 39 (valueS s.data.toList 24 ⟨0, 0, 0, 0⟩).1))]) rfl
    | refine k_cut_ret ?_
    | refine k_cut_exit ?_
    | refine k_cut ?_
    | refine aw_seq ?_
    | refine aw_region ?_
    | refine awo_nil ?_
    | refine k_seq ?_
    | refine k_block ?_
    | refine k_scope ?_
    | refine aw_block ?_
    | refine aw_skip ?_
    | refine aw_label ?_
    | refine aw_scope ?_
    | (apply s_val rfl
       · conv => lhs; whnf
       · conv => lhs; whnf; arg 2; whnf)
    | (apply s_call rfl
       · conv => lhs; whnf
       · conv => lhs; whnf
       · first | fail)
    | (apply s_box rfl rfl rfl rfl
       · conv => lhs; whnf; arg 1; whnf
       · rfl)
    | (apply s_alloc rfl rfl rfl rfl
       · conv => lhs; whnf; arg 1; whnf
       · rfl)
    | (apply s_store rfl rfl rfl
       · conv => lhs; whnf
       · conv => lhs; whnf; arg 1; whnf
       · conv => lhs; whnf; arg 1; whnf
       · exact ⟨by kernel_rfl, by kernel_rfl⟩
       · rfl)
    | (apply aw_draw (by kernel_rfl) (by kernel_rfl))
    | apply y_nil
    | (apply y_val rfl
       · conv => lhs; whnf
       · conv => lhs; whnf; arg 2; whnf)
    | (apply y_call rfl
       · conv => lhs; whnf
       · conv => lhs; whnf
       · first | fail)
    | (apply y_store rfl rfl rfl
       · conv => lhs; whnf
       · rfl
       · rfl
       · conv => lhs; whnf; arg 1; whnf
       · conv => lhs; whnf; arg 1; whnf
       · exact ⟨by kernel_rfl, by kernel_rfl⟩
       · rfl)
    | exact apartB_none
    | exact apartB_nil
    | exact all_nil
    | (show List.all _ _ = true; rfl)
    | (show apartB _ _ = true; rfl)
    | exact ([] : List Nat)
    | exact (1000000 : Nat)
    | (apply aw_cond_t
       · conv => lhs; whnf; arg 1; arg 1; whnf)
    | (apply aw_cond_f
       · conv => lhs; whnf; arg 1; arg 1; whnf)
    | (refine aw_cond (by conv => lhs; whnf) ?_ ?_ <;> intro hb)
    | refine aw_ret ?_
    | refine aw_exit ?_
    | refine k_seq_exit ?_
    | refine k_seq_ret ?_
    | refine k_block_ret ?_
    | refine k_block_hit rfl ?_
    | refine k_block_miss rfl ?_
    | refine k_scope_exit ?_
    | refine k_scope_ret ?_
    | refine k_loop_exit ?_
    | refine k_loop_ret ?_
    | refine k_end ?_
    | refine k_end_ret ?_
    | (refine ⟨_, by conv => lhs; whnf; arg 2; whnf, ?_⟩; conv => rhs; whnf)
    | exact trivial
    | intro hg)
  all_goals try (show Tryd.prog.underlying 9 = _; kernel_rfl)
  all_goals
    first
      | (have g := ne_b (n := Y.e) (by assumption)
         rw [if_pos g]
         exact ⟨_, _, _, rfl, rfl, rfl, rfl⟩)
      | (have g := eq_b (n := Y.e) (by assumption)
         rw [if_neg (fun h => h g)]
         exact ⟨_, _, _, rfl, rfl, rfl, rfl⟩)
      | (have g : decide (((spaceS s.data.toList (valueS s.data.toList 24 ⟨0, 0, 0, 0⟩).2).p : Int) < (s.size : Int)) = true := by assumption
         have g := of_decide_eq_true g
         rw [hE, if_pos (by omega)]
         exact Sub.live ⟨rfl, rfl, rfl, rfl, trivial⟩ ⟨rfl, rfl, rfl, trivial⟩)
      | (have g : decide (((spaceS s.data.toList (valueS s.data.toList 24 ⟨0, 0, 0, 0⟩).2).p : Int) < (s.size : Int)) = false := by assumption
         have g := of_decide_eq_false g
         rw [hE, if_neg (by omega)]
         exact Sub.live ⟨rfl, rfl, rfl, rfl, trivial⟩ ⟨rfl, rfl, rfl, trivial⟩)
/-- what Parse hands back -/
noncomputable def parsedV (r : Except JE D) (n : Nat) : V :=
  match r with
  | .ok d => .tup [.agg (cellsV Tryd.prog 12 39 d), .c (.int .i64 0), .c (.int .i64 0)]
  | .error ke => .tup [.agg (cellsV Tryd.prog 12 39 (vD 0 0 [] [] [])), .c (.int .i64 ((n : Int) - ke.1)), .c (.int .i64 ke.2)]
set_option maxRecDepth 100000 in
theorem parseP_ac (s : ByteArray) (hs : s.size ≤ 100000) : AC EN5 Tryd.prog 20 [.c (.string s)] (parsedV (parseJ s.data.toList) s.size) := by
  have h := (parseP_raw s hs).res (parseV_le _)
  rw [parse_spec] at h
  cases hx : parseJ s.data.toList with
  | ok d => rw [hx] at h; exact h
  | error ke => rw [hx] at h; exact h
end Go.Proofs.YtjhjleanihgopaaDoor
namespace Go.Proofs.YtjhjleanihgopaaDoor
open Go.RowKit
attribute [local irreducible] wpList Calls Code.wp
section
variable {X : Cx} {nn : Nat} {st : Vst nn} {o : Oper} {ops : Array Oper} {l : List Oper} {d : Option Tmp} {KK : Vst nn → Prop}
theorem s_skipU {j : Nat} {want b : Bool} (hg : o.guard = some (j, want)) (hd : o.dst = d) (hb : gval ops st j = some b) (hne : (b == want) = false) (hK : AWo X ops l (st.put d (.tup [])) KK) : AWo X ops (o :: l) st KK := fun s w a hI Q hQ => by
  have hy := gval_ok hb hI
  refine wpList_step fun K' hK' => ?_
  have hwt : Region.wanted o (yielded ops a.tmps) = (b == want) := by simp [Region.wanted, hg, hy]
  rw [hwt, if_neg (by rw [hne]; decide)]
  exact hK' _ _ (hK s w (a.put o.dst undef) (by rw [hd]; exact hI.put d (by rw [rel]; exact ⟨#[], rfl, by simp [relL]⟩)) Q hQ)
/-- a guard that looks at what was not done -/
theorem s_dead {j : Nat} {want : Bool} {t : Tmp} (hg : o.guard = some (j, want)) (hd : o.dst = d) (ht : (ops[j]?).bind (·.dst) = some t) (hu : ev st (.tmp t) = .tup []) (hK : AWo X ops l (st.put d (.tup [])) KK) : AWo X ops (o :: l) st KK := fun s w a hI Q hQ => by
  have hr := hI.ev (.tmp t)
  rw [hu, rel] at hr
  have he : a.tmps.getD t undef = undef := by
    obtain ⟨cs, h1, h2⟩ := hr
    have : cs = #[] := by
      apply Array.ext'
      cases hc : cs.toList with
      | nil => rfl
      | cons x xs => rw [hc] at h2; simp [relL] at h2
    have h3 : a.tmps.getD t undef = .tuple cs := h1
    rw [h3, this]; rfl
  have hy : yielded ops a.tmps j = none := by
    unfold yielded
    rw [ht]
    simp only [Option.bind_some]
    rw [Array.getD_eq_getD_getElem?] at he
    cases hq : a.tmps[t]? with
    | none => simp
    | some u => rw [hq] at he; simp at he; rw [he]; rfl
  refine wpList_step fun K' hK' => ?_
  have hwt : Region.wanted o (yielded ops a.tmps) = false := by simp [Region.wanted, hg, hy]
  rw [hwt, if_neg (by decide)]
  exact hK' _ _ (hK s w (a.put o.dst undef) (by rw [hd]; exact hI.put d (by rw [rel]; exact ⟨#[], rfl, by simp [relL]⟩)) Q hQ)
theorem s_guard_valU {j : Nat} {want b : Bool} {p : Prop} {v : V} (hg : o.guard = some (j, want)) (hd : o.dst = d) (hb : gval ops st j = some b) (h : act1 X.P st.rs (ev st) o.op = .val p v) (hK : (b == want) = true → AWo X ops l (st.put d v) KK) (hp : (b == want) = true → p)
    (hN : (b == want) = false → AWo X ops l (st.put d (.tup [])) KK) : AWo X ops (o :: l) st KK := by
  cases e : b == want
  · exact s_skipU hg hd hb e (hN e)
  · exact s_wanted_val hg hd hb e h (hK e) (hp e)
theorem s_guard_callU {j : Nat} {want b : Bool} {f : FuncId} {args : List V} {r : V} (hg : o.guard = some (j, want)) (hd : o.dst = d) (hb : gval ops st j = some b) (h : act1 X.P st.rs (ev st) o.op = .call f args) (hc : AC X.e X.P f (outL args) r) (hK : (b == want) = true → AWo X ops l (st.put d r) KK)
    (hN : (b == want) = false → AWo X ops l (st.put d (.tup [])) KK) : AWo X ops (o :: l) st KK := by
  cases e : b == want
  · exact s_skipU hg hd hb e (hN e)
  · exact s_wanted_call hg hd hb e h hc (hK e)
end
section
variable {X : Cx} {nn : Nat} {st : Vst nn} {o : Oper} {ops : Array Oper} {l : List Oper} {dst : Option Tmp} {KK : Vst nn → Prop}
theorem s_wpick_t {j : Nat} {want b b' : Bool} {c x y : Operand} (hg : o.guard = some (j, want)) (ho : o.op = .pick c x y) (hd : o.dst = dst) (hb : gval ops st j = some b) (hne : (b == want) = true) (hc : ev st c = .c (.bool b')) (hb' : b' = true) (hK : AWo X ops l (st.put dst (ev st x)) KK) : AWo X ops (o :: l) st KK :=
  awo_guard hg hb (fun _ => opOk_pick ho hc (by rw [hd, hb']; exact hK)) fun e => (e (by simpa using hne)).elim
theorem s_wpick_f {j : Nat} {want b b' : Bool} {c x y : Operand} (hg : o.guard = some (j, want)) (ho : o.op = .pick c x y) (hd : o.dst = dst) (hb : gval ops st j = some b) (hne : (b == want) = true) (hc : ev st c = .c (.bool b')) (hb' : b' = false) (hK : AWo X ops l (st.put dst (ev st y)) KK) : AWo X ops (o :: l) st KK :=
  awo_guard hg hb (fun _ => opOk_pick ho hc (by rw [hd, hb']; exact hK)) fun e => (e (by simpa using hne)).elim
end
end Go.Proofs.YtjhjleanihgopaaDoor
