/- Parts of a proof, merged by a program (shake.py). -/
import Derived.Test.YtjhjleanihgopaaDoorQ25
namespace Go.Proofs.YtjhjleanihgopaaDoor
open Go.ChangeShapes Go.WideShapes Go.ChangeAt Go.RowKit
attribute [local irreducible] wpList Calls Code.wp
set_option maxRecDepth 100000 in
theorem plain_fits {k : Nat} {x : D} (h : Fits Tryd.prog k 27 x) : (∀ i, i < (x.f 1).l.length → Fits Tryd.prog k 63 (gD (x.f 1).l i)) ∧ bulkL (x.f 1).l ≤ bulkD x := by
  cases k with
  | zero => exact h.elim
  | succ k =>
  unfold Fits at h
  rw [Tryd.underlying27] at h
  obtain ⟨l, rfl, hl, hf⟩ := h
  have h7 : Fits Tryd.prog k 25 (gD l 1) := hf 1 _ rfl
  have hl7 : 1 < l.length := by rw [hl]; decide
  have hb := bulk_at hl7
  cases k with
  | zero => exact h7.elim
  | succ k =>
    unfold Fits at h7
    obtain ⟨l2, e, h8⟩ : ∃ l2, gD l 1 = .list l2 ∧ ∀ i, i < l2.length → Fits Tryd.prog k 63 (gD l2 i) := by
      rw [Tryd.underlying25] at h7
      exact h7
    have e2 : ((D.obj l).f 1).l = l2 := by show (gD l 1).l = l2; rw [e]; rfl
    rw [e2]
    refine ⟨fun i hi => (h8 i hi).up.up, ?_⟩
    rw [e] at hb
    have e3 : bulkD (D.list l2) = bulkL l2 + 1 := by simp [bulkD]
    have e4 : bulkD (D.obj l) = bulkL l + 1 := by simp [bulkD]
    omega
set_option maxRecDepth 100000 in
/-- what an argument holds -/
theorem arg_in {H : Type} {enc : TypeId × Value → H} {W : World} {v : Value} {base : Nat} {dw : DataW H} {ps : List MemPlace} {t : TypeId} {fs : Array Field} (ht : Tryd.prog.underlying t = some (.struct fs)) (hv : Value.okWide Tryd.prog W .any base t v)
    (hd : DataW.Trod enc Tryd.prog W 0 (fun _ => true) true t v dw ps) :
    ∃ (k : Nat) (cs : Array Value) (d : D), v = .agg cs ∧ Rep Tryd.prog W (fun b => b < W.heap.size) k t cs.toList d ∧ Fits Tryd.prog k t d ∧ bulkD d ≤ Rows.uptoBulk dw := by
  obtain ⟨cs, rfl, _⟩ := okWide_struct ht hv
  obtain ⟨k, hk⟩ := hd
  obtain ⟨d, h1, h2, h3⟩ := rep_of_trod2 hk
  exact ⟨k, cs, d, rfl, by simpa [Value.cells] using h1, h2, h3⟩
set_option maxRecDepth 100000 in
theorem rep_len {P : Program} {w : World} {I : Nat → Prop} {k : Nat} {t : TypeId} {cs : List Value} {d : D} {fs : Array Field} (ht : P.underlying t = some (.struct fs)) (h : Rep P w I k t cs d) : cs.length = P.cellsOf t := by
  cases k with
  | zero => exact h.elim
  | succ k => unfold Rep at h; rw [ht] at h; exact h.1
/-- the reading at the call -/
def sg0 (W : World) : Sg := ⟨fun b o => (W.cell? ⟨b, o, none⟩).isSome, fun _ => none, fun _ => none, fun _ => (undef, 0)⟩
set_option maxRecDepth 100000 in
theorem cells0 {W : World} {k : Nat} {t : TypeId} {cs : Array Value} {d : D} {fs : Array Field} (ht : Tryd.prog.underlying t = some (.struct fs)) (hl : layB Tryd.prog 12 t = true) (hr : Rep Tryd.prog W (fun b => b < W.heap.size) k t cs.toList d) : rel Tryd.prog (sg0 W) W (.agg (cellsV Tryd.prog 12 t d)) (.agg cs) := by
  rw [rel]
  exact ⟨cs, rfl, cells_rel (s := sg0 W) 12 k t cs.toList d (RepF.of_rep hr fun b o _ h => h) (rep_len ht hr) hl⟩
set_option maxRecDepth 100000 in
theorem calls_of_ac5 {f : FuncId} {args : List V} {W : World} {us : Array Value} (h : AC EN5 Tryd.prog f args (.c (.bool true))) (hr : relL Tryd.prog (sg0 W) W args us.toList) (he : Env W) : Calls Tryd.prog f us W fun e W' => e = .returned (.bool true) ∧ Below W.heap.size W W' := by
  refine (h (sg0 W) W us hr (fun b o h => h) he).mono ?_
  rintro e W' ⟨v, F', rfl, hfr, -, -, -, hv⟩
  rw [rel] at hv
  obtain ⟨rfl, -⟩ := hv
  exact ⟨rfl, hfr.below⟩
set_option maxRecDepth 100000 in
theorem relL2 {P : Program} {s : Sg} {w : World} {v v2 : V} {u u2 : Value} (h : rel P s w v u) (h2 : rel P s w v2 u2) : relL P s w [v, v2] (#[u, u2] : Array Value).toList := by
  show relL P s w [v, v2] [u, u2]
  rw [relL, relL]; exact ⟨h, h2, by simp [relL]⟩
set_option maxRecDepth 100000 in
theorem upto_two {H : Type} {d d2 : DataW H} {gs : List (DataW H)} (h : Rows.uptoSmall H (d :: d2 :: gs) = true) : Rows.uptoBulk d ≤ 1048576 ∧ Rows.uptoBulk d2 ≤ 1048576 := by
  have h1 : Rows.uptoBulkAll (d :: d2 :: gs) ≤ 1048576 := of_decide_eq_true h
  rw [Rows.uptoBulkAll, Rows.uptoBulkAll] at h1
  omega
end Go.Proofs.YtjhjleanihgopaaDoor
namespace Go.Proofs.YtjhjleanihgopaaDoor
open Go.RowKit
attribute [local irreducible] wpList Calls Code.wp
section
variable {X : Cx} {nn : Nat} {st : Vst nn} {o : Oper} {ops : Array Oper} {l : List Oper} {dst : Option Tmp} {KK : Vst nn → Prop}
set_option maxRecDepth 100000 in
theorem s_wanted_pick_t {j : Nat} {want b b' : Bool} {c x y : Operand} (hg : o.guard = some (j, want)) (ho : o.op = .pick c x y) (hd : o.dst = dst) (hb : gval ops st j = some b) (hne : (b == want) = true) (hc : ev st c = .c (.bool b')) (hb' : b' = true) (hK : AWo X ops l (st.put dst (ev st x)) KK) : AWo X ops (o :: l) st KK :=
  awo_guard hg hb (fun _ => opOk_pick ho hc (by rw [hd, hb']; exact hK)) fun e => (e (by simpa using hne)).elim
set_option maxRecDepth 100000 in
theorem s_wanted_pick_f {j : Nat} {want b b' : Bool} {c x y : Operand} (hg : o.guard = some (j, want)) (ho : o.op = .pick c x y) (hd : o.dst = dst) (hb : gval ops st j = some b) (hne : (b == want) = true) (hc : ev st c = .c (.bool b')) (hb' : b' = false) (hK : AWo X ops l (st.put dst (ev st y)) KK) : AWo X ops (o :: l) st KK :=
  awo_guard hg hb (fun _ => opOk_pick ho hc (by rw [hd, hb']; exact hK)) fun e => (e (by simpa using hne)).elim
end
end Go.Proofs.YtjhjleanihgopaaDoor
namespace Go.Proofs.YtjhjleanihgopaaDoor
open Go.RowKit
attribute [local irreducible] wpList Calls Code.wp AW AWo OpOk seqK blockK scopeK loopK endK endKB AC ACB Yld Sub
def fld (dl : List D) (x : D) : Int × Bool := fieldV dl (x.f 1).s (x.f 2).s
def Bnd (dl : List D) (wn : Int) (wp : Bool) : Nat → List D → Bool → Prop
  | 0, _, _ => True
  | k + 1, l, root => ∀ i, i < l.length → isTn ((gD l i).f 2).s = false → ((fld dl (gD l i)).2 = true → wp = true) ∧ ((root = true ∨ 0 < ((gD l i).f 7).l.length) → wn ≤ (fld dl (gD l i)).1) ∧ Bnd dl wn wp k ((gD l i).f 7).l false
noncomputable def HBd (d : D) (wn : Int) (wp : Bool) (l : List D) (root : Bool) (i : Nat) : Vst 60 :=
  stS 60 [(2, .sl 63 l), (3, .c (.bool root)), (4, .bx 4 0), (5, .bx 5 0), (9, .c (.int .i64 i))]
    [(4, .box 24 (cellsV Tryd.prog 12 24 d)), (5, .box 32 [.c (.int .i64 wn), .c (.bool wp)])]
set_option maxHeartbeats 4000000 in
set_option maxRecDepth 100000 in
theorem bounded_core (d : D) (wn : Int) (wp : Bool) (l : List D) (root : Bool) (hn : l.length ≤ 100000000)
    (h : ∀ i, i < l.length → isTn ((gD l i).f 2).s = false → ((fld (d.f 0).l (gD l i)).2 = true → wp = true) ∧ ((root = true ∨ 0 < ((gD l i).f 7).l.length) → wn ≤ (fld (d.f 0).l (gD l i)).1))
    (ih : ∀ i, i < l.length → isTn ((gD l i).f 2).s = false → AC EN5 Tryd.prog 15 [.agg (cellsV Tryd.prog 12 24 d), .agg [.c (.int .i64 wn), .c (.bool wp)], .sl 63 ((gD l i).f 7).l, .c (.bool false)] (.c (.bool true))) :
    AC EN5 Tryd.prog 15 [.agg (cellsV Tryd.prog 12 24 d), .agg [.c (.int .i64 wn), .c (.bool wp)], .sl 63 l, .c (.bool root)] (.c (.bool true)) := by
  have hF := field_ac d
  refine ac_enter 60 Tryd.func15 rfl rfl rfl rfl ?_
  intro s w he
  repeat' (first
    | refine aw_seq ?_
    | refine aw_region ?_
    | refine awo_nil ?_
    | refine k_seq ?_
    | refine k_block ?_
    | refine k_scope ?_
    | refine aw_block ?_
    | refine aw_skip ?_
    | refine aw_label ?_
    | refine aw_scope ?_
    | (apply s_pick_t rfl rfl
       · conv => lhs; whnf
       · conv => lhs; whnf
       · first | exact bT1 (by assumption) | exact bT2 (by assumption))
    | (apply s_pick_f rfl rfl
       · conv => lhs; whnf
       · conv => lhs; whnf
       · first | exact bF1 (by assumption) | exact bF2 (by assumption))
    | (apply s_val rfl
       · conv => lhs; whnf
       · conv => lhs; whnf; arg 2; whnf)
    | (apply s_call rfl
       · conv => lhs; whnf
       · conv => lhs; whnf
       · first | fail)
    | (apply s_box rfl rfl rfl rfl
       · conv => lhs; whnf; arg 1; whnf
       · rfl)
    | (apply s_alloc rfl rfl rfl rfl
       · conv => lhs; whnf; arg 1; whnf
       · rfl)
    | (apply s_store rfl rfl rfl
       · conv => lhs; whnf
       · conv => lhs; whnf; arg 1; whnf
       · conv => lhs; whnf; arg 1; whnf
       · exact ⟨by kernel_rfl, by kernel_rfl⟩
       · rfl)
    | (apply s_wanted_val rfl
       · conv => lhs; whnf
       · conv => lhs; whnf
       · first | rfl | assumption
       · conv => lhs; whnf; arg 2; whnf)
    | (apply s_wanted_call rfl
       · conv => lhs; whnf
       · conv => lhs; whnf
       · first | rfl | assumption
       · conv => lhs; whnf
       · first | fail)
    | (apply s_skip rfl
       · conv => lhs; whnf
       · conv => lhs; whnf
       · first | rfl | assumption)
    | (apply s_guard_val rfl
       · conv => lhs; whnf
       · conv => lhs; whnf
       · conv => lhs; whnf; arg 2; whnf)
    | (apply s_guard_call rfl
       · conv => lhs; whnf
       · conv => lhs; whnf
       · conv => lhs; whnf
       · first | fail)
    | (apply aw_cond_t
       · conv => lhs; whnf; arg 1; arg 1; whnf)
    | (apply aw_cond_f
       · conv => lhs; whnf; arg 1; arg 1; whnf)
    | (refine aw_cond (by conv => lhs; whnf) ?_ ?_ <;> intro hb)
    | refine aw_ret ?_
    | refine aw_exit ?_
    | refine k_seq_exit ?_
    | refine k_seq_ret ?_
    | refine k_block_ret ?_
    | refine k_block_hit rfl ?_
    | refine k_block_miss rfl ?_
    | refine k_scope_exit ?_
    | refine k_scope_ret ?_
    | refine k_loop_exit ?_
    | refine k_loop_ret ?_
    | refine k_end ?_
    | refine k_end_ret ?_
    | (refine ⟨_, by conv => lhs; whnf; arg 2; whnf, ?_⟩; conv => rhs; whnf)
    | exact trivial
    | intro hg)
  refine aw_loop (fun j st => ∃ i, i + j = l.length ∧ Sub (cx EN5 Tryd.prog s w he) st (HBd d wn wp l root i)) l.length ⟨0, by omega, ?_⟩ ?_
  · exact Sub.live ⟨rfl, rfl, rfl, rfl, rfl, trivial⟩ ⟨rfl, rfl, trivial⟩
  · rintro j st ⟨i, hij, hs2⟩
    refine aw_sub hs2 ?_
    clear hs2
    have ih2 := fun (h : decide ((i : Int) < (l.length : Int)) = true) (ht : isTn ((gD l i).f 2).s = false) => ih i (by simpa using h) ht
    repeat' (first
    | (apply s_wanted_pick_t rfl rfl rfl
       · conv => lhs; whnf
       · first | rfl | assumption
       · conv => lhs; whnf
       · first | exact bT1 (by assumption) | exact bT2 (by assumption) | rfl)
    | (apply s_wanted_pick_f rfl rfl rfl
       · conv => lhs; whnf
       · first | rfl | assumption
       · conv => lhs; whnf
       · first | exact bF1 (by assumption) | exact bF2 (by assumption) | rfl)
    | refine aw_seq ?_
    | refine aw_region ?_
    | refine awo_nil ?_
    | refine k_seq ?_
    | refine k_block ?_
    | refine k_scope ?_
    | refine aw_block ?_
    | refine aw_skip ?_
    | refine aw_label ?_
    | refine aw_scope ?_
    | (apply s_pick_t rfl rfl
       · conv => lhs; whnf
       · conv => lhs; whnf
       · first | exact bT1 (by assumption) | exact bT2 (by assumption))
    | (apply s_pick_f rfl rfl
       · conv => lhs; whnf
       · conv => lhs; whnf
       · first | exact bF1 (by assumption) | exact bF2 (by assumption))
    | (apply s_val rfl
       · conv => lhs; whnf
       · conv => lhs; whnf; arg 2; whnf)
    | (apply s_call rfl
       · conv => lhs; whnf
       · conv => lhs; whnf
       · first | exact hF _ _ | exact ih2 (by assumption) (by assumption))
    | (apply s_box rfl rfl rfl rfl
       · conv => lhs; whnf; arg 1; whnf
       · rfl)
    | (apply s_alloc rfl rfl rfl rfl
       · conv => lhs; whnf; arg 1; whnf
       · rfl)
    | (apply s_store rfl rfl rfl
       · conv => lhs; whnf
       · conv => lhs; whnf; arg 1; whnf
       · conv => lhs; whnf; arg 1; whnf
       · exact ⟨by kernel_rfl, by kernel_rfl⟩
       · rfl)
    | (apply s_wanted_val rfl
       · conv => lhs; whnf
       · conv => lhs; whnf
       · first | rfl | assumption
       · conv => lhs; whnf; arg 2; whnf)
    | (apply s_wanted_call rfl
       · conv => lhs; whnf
       · conv => lhs; whnf
       · first | rfl | assumption
       · conv => lhs; whnf
       · first | exact hF _ _ | exact ih2 (by assumption) (by assumption))
    | (apply s_skip rfl
       · conv => lhs; whnf
       · conv => lhs; whnf
       · first | rfl | assumption)
    | (apply s_guard_val rfl
       · conv => lhs; whnf
       · conv => lhs; whnf
       · conv => lhs; whnf; arg 2; whnf)
    | (apply s_guard_call rfl
       · conv => lhs; whnf
       · conv => lhs; whnf
       · conv => lhs; whnf
       · first | exact hF _ _ | exact ih2 (by assumption) (by assumption))
    | (apply aw_cond_t
       · conv => lhs; whnf; arg 1; arg 1; whnf)
    | (apply aw_cond_f
       · conv => lhs; whnf; arg 1; arg 1; whnf)
    | (refine aw_cond (by conv => lhs; whnf) ?_ ?_ <;> intro hb)
    | refine aw_ret ?_
    | refine aw_exit ?_
    | refine k_seq_exit ?_
    | refine k_seq_ret ?_
    | refine k_block_ret ?_
    | refine k_block_hit rfl ?_
    | refine k_block_miss rfl ?_
    | refine k_scope_exit ?_
    | refine k_scope_ret ?_
    | refine k_loop_exit ?_
    | refine k_loop_ret ?_
    | refine k_end ?_
    | refine k_end_ret ?_
    | (refine ⟨_, by conv => lhs; whnf; arg 2; whnf, ?_⟩; conv => rhs; whnf)
    | exact trivial
    | intro hg)
    all_goals try (exact i64_in (by omega))
    all_goals try (exact (⟨by omega, by have h : decide ((i : Int) < (l.length : Int)) = true := by assumption
                                        simp at h; omega⟩ : 0 ≤ (i : Int) ∧ (i : Int) < (l.length : Int)))
    all_goals try (refine k_loop_next (j' := j - 1) (by have hlt : decide ((i : Int) < (l.length : Int)) = true := by assumption
                                                        simp at hlt; omega) ⟨i + 1, by have hlt : decide ((i : Int) < (l.length : Int)) = true := by assumption
                                                                                       simp at hlt; omega, Sub.live ⟨rfl, rfl, rfl, rfl, rfl, trivial⟩ ⟨rfl, rfl, trivial⟩⟩; done)
    all_goals
      exfalso
      have hlt : i < l.length := by have h : decide ((i : Int) < (l.length : Int)) = true := by assumption
                                    simpa using h
      have ht : isTn ((gD l i).f 2).s = false := by assumption
      obtain ⟨k1, k2⟩ := h i hlt ht
      first
        | (have h1 : ((!wp) == false) = false := by assumption
           have h2 : ((fld (d.f 0).l (gD l i)).2 == true) = true := by assumption
           have h3 := k1 (by simpa using h2)
           rw [h3] at h1; cases h1; done)
        | (have h1 : decide (wn > (fld (d.f 0).l (gD l i)).1) = true := by assumption
           have h2 : wn > (fld (d.f 0).l (gD l i)).1 := by simpa using h1
           have h3 : root = true ∨ 0 < ((gD l i).f 7).l.length := by
             first
               | (left
                  have h : (root == false) = false := by assumption
                  simpa using h)
               | (right
                  have h : (decide ((((gD l i).f 7).l.length : Int) > 0) == true) = true := by assumption
                  simpa using h)
           have := k2 h3
           omega)
end Go.Proofs.YtjhjleanihgopaaDoor
namespace Go.Proofs.YtjhjleanihgopaaDoor
open Go.RowKit
attribute [local irreducible] wpList Calls Code.wp AW AWo OpOk seqK blockK scopeK loopK endK endKB AC ACB Yld Sub
set_option maxRecDepth 100000 in
theorem stepW_le1 (st : Bool × Bool × Int) (h : Int × Bool) : (stepW st h).2.2 ≤ h.1 := by
  unfold stepW
  show (if (!st.2.1 || decide (h.1 < st.2.2)) = true then h.1 else st.2.2) ≤ h.1
  split
  · exact Int.le_refl _
  · rename_i hc
    simp only [Bool.or_eq_true, decide_eq_true_eq, not_or] at hc
    omega
set_option maxRecDepth 100000 in
theorem stepW_le2 (st : Bool × Bool × Int) (h : Int × Bool) (hs : st.2.1 = true) : (stepW st h).2.2 ≤ st.2.2 := by
  unfold stepW
  show (if (!st.2.1 || decide (h.1 < st.2.2)) = true then h.1 else st.2.2) ≤ st.2.2
  split
  · rename_i hc
    simp only [hs, Bool.not_true, Bool.false_or, decide_eq_true_eq] at hc
    omega
  · exact Int.le_refl _
set_option maxRecDepth 100000 in
theorem fold_le : ∀ (hs : List (Int × Bool)) (st : Bool × Bool × Int), st.2.1 = true → (foldW st hs).2.2 ≤ st.2.2
  | [], _, _ => Int.le_refl _
  | h :: t, st, e => Int.le_trans (fold_le t (stepW st h) rfl) (stepW_le2 st h e)
set_option maxRecDepth 100000 in
theorem fold_mem : ∀ (hs : List (Int × Bool)) (st : Bool × Bool × Int) (h : Int × Bool), h ∈ hs → (foldW st hs).2.2 ≤ h.1
  | x :: t, st, h, hm => by
    rcases List.mem_cons.1 hm with rfl | hm
    · exact Int.le_trans (fold_le t (stepW st h) rfl) (stepW_le1 st h)
    · exact fold_mem t (stepW st x) h hm
set_option maxRecDepth 100000 in
theorem fold_priv0 : ∀ (hs : List (Int × Bool)) (st : Bool × Bool × Int), st.1 = true → (foldW st hs).1 = true
  | [], _, e => e
  | h :: t, st, e => fold_priv0 t (stepW st h) (by show (st.1 || h.2) = true; rw [e]; rfl)
set_option maxRecDepth 100000 in
theorem fold_priv : ∀ (hs : List (Int × Bool)) (st : Bool × Bool × Int) (h : Int × Bool), h ∈ hs → h.2 = true → (foldW st hs).1 = true
  | x :: t, st, h, hm, e => by
    rcases List.mem_cons.1 hm with rfl | hm
    · exact fold_priv0 t (stepW st h) (by show (st.1 || h.2) = true; rw [e, Bool.or_true])
    · exact fold_priv t (stepW st x) h hm e
set_option maxRecDepth 100000 in
theorem age_unsaid (l : List D) (h : (ageV l).2 = false) : (ageV l).1 = 0 := by
  unfold ageV at h ⊢
  split
  · rename_i v hv
    rw [hv] at h
    split
    · rename_i hc; simp [hc] at h
    · rfl
  · rfl
set_option maxRecDepth 100000 in
theorem own_unsaid (dl : List D) (x : D) (h : (own3 dl x).2.1 = false) : (own3 dl x).1 = 0 := by
  unfold own3 ownV at h ⊢
  split
  · rfl
  · rename_i a b hp
    rw [hp] at h
    dsimp only at h
    split
    · rename_i hc; rw [if_pos hc] at h; cases h
    · rename_i hc; rw [if_neg hc] at h; exact age_unsaid b h
set_option maxRecDepth 100000 in
theorem bnd_of (dl : List D) (wn : Int) (wp : Bool) : ∀ (k : Nat) (l : List D) (outer : Int) (root : Bool), (root = true → outer = 0) → (∀ h ∈ hintsL dl k l outer, (h.2 = true → wp = true) ∧ wn ≤ h.1) → Bnd dl wn wp k l root
  | 0, _, _, _, _, _ => trivial
  | k + 1, l, outer, root, hr, hh => by
    intro i hi ht
    have hmem : ∀ h, h ∈ hintsX (hintsL dl k) dl outer (gD l i) → h ∈ hintsL dl (k + 1) l outer := fun h hm => List.mem_flatMap.2 ⟨i, List.mem_range.2 hi, hm⟩
    rw [hintsX_no ht] at hmem
    obtain ⟨h1, h2⟩ := hh _ (hmem _ List.mem_cons_self)
    refine ⟨fun e => h1 ((own_sec dl (gD l i)).trans e), fun hc => ?_, bnd_of dl wn wp k _ (pickN dl outer (gD l i)) false (fun e => by cases e) fun h hm => hh h (hmem h (List.mem_cons_of_mem _ hm))⟩
    have e : pickN dl outer (gD l i) = (fld dl (gD l i)).1 := by
      unfold pickN
      split
      · rename_i hq
        simp only [Bool.and_eq_true, Bool.not_eq_true', decide_eq_true_eq] at hq
        rcases hc with hc | hc
        · rw [hr hc, ← own_unsaid dl (gD l i) hq.1]; exact own_fst _ _
        · omega
      · exact own_fst _ _
    rw [← e]; exact h2
set_option maxRecDepth 100000 in
theorem bounded_ac (d : D) (wn : Int) (wp : Bool) : ∀ (k : Nat) (l : List D) (root : Bool), (∀ i, i < l.length → Fits Tryd.prog k 63 (gD l i)) → bulkL l ≤ 100000000 → Bnd (d.f 0).l wn wp k l root →
    AC EN5 Tryd.prog 15 [.agg (cellsV Tryd.prog 12 24 d), .agg [.c (.int .i64 wn), .c (.bool wp)], .sl 63 l, .c (.bool root)] (.c (.bool true))
  | 0, l, root, hf, _, _ => by
    have e : l = [] := by
      cases l with
      | nil => rfl
      | cons x r => exact (hf 0 (Nat.succ_pos _)).elim
    subst e
    exact bounded_core d wn wp [] root (by simp) (fun i hi => absurd hi (Nat.not_lt_zero _)) fun i hi => absurd hi (Nat.not_lt_zero _)
  | k + 1, l, root, hf, hb, h => by
    have hl := bulkL_len l
    exact bounded_core d wn wp l root (by omega) (fun i hi ht => ⟨(h i hi ht).1, (h i hi ht).2.1⟩) fun i hi ht =>
      bounded_ac d wn wp k _ false (pick_fits (hf i hi)) (by have := bulk_at hi; have := pick_bulk (hf i hi); omega) (h i hi ht).2.2
set_option maxHeartbeats 4000000 in
set_option maxRecDepth 100000 in
theorem law44Bounds (d p : D) (K : Nat) (hf : ∀ i, i < (p.f 1).l.length → Fits Tryd.prog K 63 (gD (p.f 1).l i)) (hb0 : bulkL (p.f 1).l ≤ 100000000) :
    AC EN5 Tryd.prog 4 [.agg (cellsV Tryd.prog 12 24 d), .agg (cellsV Tryd.prog 12 27 p)] (.c (.bool true)) := by
  have h1 := of_ac d p K hf hb0
  have h3 := large_ac K (p.f 1).l 8 (by unfold R64; decide) hf
  have h4 := exam_ac
  have hv : (((p.f 0).n != 1) = true → ofV (d.f 0).l K p = (0, false)) ∧ (((p.f 0).n != 1) = false → Bnd (d.f 0).l (ofV (d.f 0).l K p).1 (ofV (d.f 0).l K p).2 K (p.f 1).l true) := by
    refine ⟨fun h => by unfold ofV; rw [if_pos h], fun h => ?_⟩
    have e : ofV (d.f 0).l K p = ((foldW (false, false, 0) (hintsL (d.f 0).l K (p.f 1).l 0)).2.2, (foldW (false, false, 0) (hintsL (d.f 0).l K (p.f 1).l 0)).1) := by unfold ofV; rw [if_neg (by rw [h]; decide)]
    rw [e]
    exact bnd_of _ _ _ K _ 0 true (fun _ => rfl) fun h hm => ⟨fun e => fold_priv _ _ h hm e, fold_mem _ _ h hm⟩
  generalize ofV (d.f 0).l K p = r at h1 hv
  have h5 := fun (h : ((p.f 0).n != 1) = false) => bounded_ac d r.1 r.2 K (p.f 1).l true hf hb0 (hv.2 h)
  refine ac_enter 34 Tryd.func4 rfl rfl rfl rfl ?_
  intro s w he
  repeat' (first
    | (apply s_callP rfl rfl
       · conv => lhs; whnf
       · exact large10_acp d
       rintro _ ⟨_, rfl, hq⟩)
    | (apply s_guard_callP rfl
       · conv => lhs; whnf
       · conv => lhs; whnf
       · conv => lhs; whnf
       · exact large10_acp d
       intro hg
       rintro _ ⟨_, rfl, hq⟩)
    | refine aw_seq ?_
    | refine aw_region ?_
    | refine awo_nil ?_
    | refine k_seq ?_
    | refine k_block ?_
    | refine k_scope ?_
    | refine aw_block ?_
    | refine aw_skip ?_
    | refine aw_label ?_
    | refine aw_scope ?_
    | (apply s_pick_t rfl rfl
       · conv => lhs; whnf
       · conv => lhs; whnf
       · first | exact bT1 (by assumption) | exact bT2 (by assumption))
    | (apply s_pick_f rfl rfl
       · conv => lhs; whnf
       · conv => lhs; whnf
       · first | exact bF1 (by assumption) | exact bF2 (by assumption))
    | (apply s_val rfl
       · conv => lhs; whnf
       · conv => lhs; whnf; arg 2; whnf)
    | (apply s_call rfl
       · conv => lhs; whnf
       · conv => lhs; whnf
       · first | exact h1 | exact h3 | exact h4 | exact h5 (by assumption))
    | (apply s_box rfl rfl rfl rfl
       · conv => lhs; whnf; arg 1; whnf
       · rfl)
    | (apply s_alloc rfl rfl rfl rfl
       · conv => lhs; whnf; arg 1; whnf
       · rfl)
    | (apply s_store rfl rfl rfl
       · conv => lhs; whnf
       · conv => lhs; whnf; arg 1; whnf
       · conv => lhs; whnf; arg 1; whnf
       · exact ⟨by kernel_rfl, by kernel_rfl⟩
       · rfl)
    | (apply s_wanted_val rfl
       · conv => lhs; whnf
       · conv => lhs; whnf
       · first | rfl | assumption
       · conv => lhs; whnf; arg 2; whnf)
    | (apply s_wanted_call rfl
       · conv => lhs; whnf
       · conv => lhs; whnf
       · first | rfl | assumption
       · conv => lhs; whnf
       · first | exact h1 | exact h3 | exact h4 | exact h5 (by assumption))
    | (apply s_skip rfl
       · conv => lhs; whnf
       · conv => lhs; whnf
       · first | rfl | assumption)
    | (apply s_guard_val rfl
       · conv => lhs; whnf
       · conv => lhs; whnf
       · conv => lhs; whnf; arg 2; whnf)
    | (apply s_guard_call rfl
       · conv => lhs; whnf
       · conv => lhs; whnf
       · conv => lhs; whnf
       · first | exact h1 | exact h3 | exact h4 | exact h5 (by assumption))
    | (apply aw_cond_t
       · conv => lhs; whnf; arg 1; arg 1; whnf)
    | (apply aw_cond_f
       · conv => lhs; whnf; arg 1; arg 1; whnf)
    | (refine aw_cond (by conv => lhs; whnf) ?_ ?_ <;> intro hb)
    | refine aw_ret ?_
    | refine aw_exit ?_
    | refine k_seq_exit ?_
    | refine k_seq_ret ?_
    | refine k_block_ret ?_
    | refine k_block_hit rfl ?_
    | refine k_block_miss rfl ?_
    | refine k_scope_exit ?_
    | refine k_scope_ret ?_
    | refine k_loop_exit ?_
    | refine k_loop_ret ?_
    | refine k_end ?_
    | refine k_end_ret ?_
    | (refine ⟨_, by conv => lhs; whnf; arg 2; whnf, ?_⟩; conv => rhs; whnf)
    | exact trivial
    | intro hg)
  · exfalso
    have e : r = (0, false) := hv.1 (by assumption)
    subst e
    have hg : ((fun x => (0 : Int) == 0 && x) ((fun x => false == false && x) true) == true) = false := by assumption
    exact absurd hg (by decide)
  · exact ⟨by kernel_rfl, by kernel_rfl, by kernel_rfl⟩
  · rfl
end Go.Proofs.YtjhjleanihgopaaDoor
namespace Go.Proofs.YtjhjleanihgopaaDoor
open Go.ChangeShapes Go.WideShapes Go.ChangeAt Go.RowKit
attribute [local irreducible] wpList Calls Code.wp
section
variable {H : Type} {enc : TypeId × Value → H} {W : World} {v v2 : Value} {base : Nat} {dw dw2 : DataW H} {ps ps2 : List MemPlace}
set_option maxRecDepth 100000 in
theorem row44Bounds (hv : Value.okWide Tryd.prog W .any base 24 v) (hd : DataW.Trod enc Tryd.prog W 0 (fun _ => true) true 24 v dw ps)
    (hv2 : Value.okWide Tryd.prog W .any base 27 v2) (hd2 : DataW.Trod enc Tryd.prog W 0 (fun _ => true) true 27 v2 dw2 ps2) (hb : Rows.uptoBulk dw ≤ 1048576 ∧ Rows.uptoBulk dw2 ≤ 1048576) (he : Env W) :
    Calls Tryd.prog 4 #[v, v2] W fun e W' => e = .returned (.bool true) ∧ Below W.heap.size W W' := by
  obtain ⟨k, cs, d, rfl, hr, hf, hbk⟩ := arg_in Tryd.underlying24 hv hd
  obtain ⟨k2, cs2, d2, rfl, hr2, hf2, hbk2⟩ := arg_in Tryd.underlying27 hv2 hd2
  obtain ⟨h1, h2⟩ := plain_fits hf2
  exact calls_of_ac5 (law44Bounds d d2 k2 h1 (by omega)) (relL2 (cells0 Tryd.underlying24 (by kernel_rfl) hr) (cells0 Tryd.underlying27 (by kernel_rfl) hr2)) he
end
end Go.Proofs.YtjhjleanihgopaaDoor
