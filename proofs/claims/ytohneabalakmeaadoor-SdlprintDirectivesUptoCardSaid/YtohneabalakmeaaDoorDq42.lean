/- Parts of a proof, merged by a program (shake.py). -/
import GoSem.Extern.BytealgCompare
import Derived.Lib.Bytealg
import Derived.Test.YtohneabalakmeaaDoorDq41
namespace Go.Proofs.YtohneabalakmeaaDoor
open Go.RowKit
attribute [local irreducible] wpList Calls Code.wp AW AWo OpOk seqK blockK scopeK loopK endK AC absLex Yld Sub
def ordI (a b : Int) : Int := if a < b then -1 else if b < a then 1 else 0
set_option maxRecDepth 100000 in
theorem cmpB_range : ∀ (a b : List UInt8), -1 ≤ Lib.compareBytes a b ∧ Lib.compareBytes a b ≤ 1
  | [], [] => by simp [Lib.compareBytes]
  | [], _ :: _ => by simp [Lib.compareBytes]
  | _ :: _, [] => by simp [Lib.compareBytes]
  | a :: ar, b :: br => by
    have := cmpB_range ar br
    unfold Lib.compareBytes
    split
    · omega
    · split
      · omega
      · exact this
set_option maxRecDepth 100000 in
theorem i64_small {n : Int} (h : -1 ≤ n ∧ n ≤ 1) : okV (.int .i64 n) := by
  show (Lit.int .i64 n).wf = true
  rw [wf_int]
  simp [IntKind.min, IntKind.max, IntKind.signed, IntKind.bits]; omega
set_option maxRecDepth 100000 in
theorem cmpStrC (a b : ByteArray) (w : World) : Calls Tryd.prog 181 #[.string a, .string b] w fun e w' => e = .returned (.int .i64 (Lib.compareBytes (tx a) (tx b))) ∧ w' = w := by
  go_enter Tryd.func181, Tryd.ntmps181
  go_wp2
  rw [run_callFunc_extern Tryd.func187 (by kernel_rfl) (by kernel_rfl) (by kernel_rfl) (e := Extern.BytealgCompare.compare) (by kernel_rfl), Lib.run_compareString]
  simp only [Result.andThen]
  rw [Oper.upon_value]
  go_wp2
  go_ret
  exact ⟨rfl, rfl⟩
set_option maxRecDepth 100000 in
theorem cmpStr1 (a b : ByteArray) : AC EN Tryd.prog 181 [.c (.string a), .c (.string b)] (.c (.int .i64 (Lib.compareBytes (tx a) (tx b)))) :=
  ac_of fun s w us hus _ => by
    obtain ⟨u, u2, rfl, h1, h2⟩ := rel_two hus
    rw [rel] at h1 h2
    obtain ⟨rfl, -⟩ := h1
    obtain ⟨rfl, -⟩ := h2
    exact ⟨i64_small (cmpB_range _ _), (cmpStrC a b w).mono fun e w' h => ⟨h.1, by rw [h.2]; exact Below.refl _ _⟩⟩
set_option maxRecDepth 100000 in
theorem cmpStr_ac (a b : ByteArray) : AC EN Tryd.prog 168 [.c (.string a), .c (.string b)] (.c (.int .i64 (Lib.compareBytes (tx a) (tx b)))) := by
  have h1 := cmpStr1 a b
  refine ac_enter 8 Tryd.func168 rfl rfl rfl rfl ?_
  intro s w he
  repeat' (first
    | refine aw_seq ?_
    | refine aw_region ?_
    | refine awo_nil ?_
    | refine k_seq ?_
    | refine k_block ?_
    | refine k_scope ?_
    | refine aw_block ?_
    | refine aw_skip ?_
    | refine aw_label ?_
    | refine aw_scope ?_
    | (apply s_val rfl
       · conv => lhs; whnf
       · conv => lhs; whnf; arg 2; whnf)
    | (apply s_call rfl
       · conv => lhs; whnf
       · conv => lhs; whnf
       · first | exact h1)
    | (apply aw_cond_t
       · conv => lhs; whnf; arg 1; arg 1; whnf)
    | (apply aw_cond_f
       · conv => lhs; whnf; arg 1; arg 1; whnf)
    | (refine aw_cond (by conv => lhs; whnf) ?_ ?_ <;> intro hb)
    | refine aw_ret ?_
    | refine aw_exit ?_
    | refine k_seq_exit ?_
    | refine k_seq_ret ?_
    | refine k_block_ret ?_
    | refine k_block_hit rfl ?_
    | refine k_block_miss rfl ?_
    | refine k_scope_exit ?_
    | refine k_scope_ret ?_
    | refine k_loop_exit ?_
    | refine k_loop_ret ?_
    | refine k_end ?_
    | refine k_end_ret ?_
    | (refine ⟨_, by conv => lhs; whnf; arg 2; whnf, ?_⟩; conv => rhs; whnf)
    | exact trivial
    | intro hg)
set_option maxRecDepth 100000 in
theorem nan_ac (a : Int) : AC EN Tryd.prog 180 [.c (.int .i64 a)] (.c (.bool false)) := by
  refine ac_enter 6 Tryd.func180 rfl rfl rfl rfl ?_
  intro s w he
  repeat' (first
    | refine aw_seq ?_
    | refine aw_region ?_
    | refine awo_nil ?_
    | refine k_seq ?_
    | refine k_block ?_
    | refine k_scope ?_
    | refine aw_block ?_
    | refine aw_skip ?_
    | refine aw_label ?_
    | refine aw_scope ?_
    | (apply s_val rfl
       · conv => lhs; whnf
       · conv => lhs; whnf; arg 2; whnf)
    | (apply aw_cond_t
       · conv => lhs; whnf; arg 1; arg 1; whnf)
    | (apply aw_cond_f
       · conv => lhs; whnf; arg 1; arg 1; whnf)
    | (refine aw_cond (by conv => lhs; whnf) ?_ ?_ <;> intro hb)
    | refine aw_ret ?_
    | refine aw_exit ?_
    | refine k_seq_exit ?_
    | refine k_seq_ret ?_
    | refine k_block_ret ?_
    | refine k_block_hit rfl ?_
    | refine k_block_miss rfl ?_
    | refine k_scope_exit ?_
    | refine k_scope_ret ?_
    | refine k_loop_exit ?_
    | refine k_loop_ret ?_
    | refine k_end ?_
    | refine k_end_ret ?_
    | (refine ⟨_, by conv => lhs; whnf; arg 2; whnf, ?_⟩; conv => rhs; whnf)
    | exact trivial
    | intro hg)
  simp
set_option maxRecDepth 100000 in
theorem cmpInt_ac (a b : Int) : AC EN Tryd.prog 167 [.c (.int .i64 a), .c (.int .i64 b)] (.c (.int .i64 (ordI a b))) := by
  have h1 := nan_ac a
  have h2 := nan_ac b
  refine ac_enter 20 Tryd.func167 rfl rfl rfl rfl ?_
  intro s w he
  repeat' (first
    | refine aw_seq ?_
    | refine aw_region ?_
    | refine awo_nil ?_
    | refine k_seq ?_
    | refine k_block ?_
    | refine k_scope ?_
    | refine aw_block ?_
    | refine aw_skip ?_
    | refine aw_label ?_
    | refine aw_scope ?_
    | (apply s_val rfl
       · conv => lhs; whnf
       · conv => lhs; whnf; arg 2; whnf)
    | (apply s_call rfl
       · conv => lhs; whnf
       · conv => lhs; whnf
       · first | exact h1 | exact h2)
    | (apply aw_cond_t
       · conv => lhs; whnf; arg 1; arg 1; whnf)
    | (apply aw_cond_f
       · conv => lhs; whnf; arg 1; arg 1; whnf)
    | (refine aw_cond (by conv => lhs; whnf) ?_ ?_ <;> intro hb)
    | refine aw_ret ?_
    | refine aw_exit ?_
    | refine k_seq_exit ?_
    | refine k_seq_ret ?_
    | refine k_block_ret ?_
    | refine k_block_hit rfl ?_
    | refine k_block_miss rfl ?_
    | refine k_scope_exit ?_
    | refine k_scope_ret ?_
    | refine k_loop_exit ?_
    | refine k_loop_ret ?_
    | refine k_end ?_
    | refine k_end_ret ?_
    | (refine ⟨_, by conv => lhs; whnf; arg 2; whnf, ?_⟩; conv => rhs; whnf)
    | exact trivial
    | intro hg)
  all_goals (simp only [decide_eq_true_eq, decide_eq_false_iff_not] at *; unfold ordI)
  · rw [if_pos (by omega)]
  · rw [if_neg (by omega), if_pos (by omega)]
  · rw [if_neg (by omega), if_neg (by omega)]
def keyD (x : D) (i : Nat) : ByteArray := if i < (x.f 4).l.length then (gD (x.f 4).l i).s else ⟨#[]⟩
set_option maxRecDepth 100000 in
theorem key_ac (x : D) (i : Nat) : AC EN Tryd.prog 169 [.agg (cellsV Tryd.prog 12 49 x), .c (.int .i64 i)] (.c (.string (keyD x i))) := by
  refine ac_enter 15 Tryd.func169 rfl rfl rfl rfl ?_
  intro s w he
  repeat' (first
    | refine aw_seq ?_
    | refine aw_region ?_
    | refine awo_nil ?_
    | refine k_seq ?_
    | refine k_block ?_
    | refine k_scope ?_
    | refine aw_block ?_
    | refine aw_skip ?_
    | refine aw_label ?_
    | refine aw_scope ?_
    | (apply s_val rfl
       · conv => lhs; whnf
       · conv => lhs; whnf; arg 2; whnf)
    | (apply s_box rfl rfl rfl rfl
       · conv => lhs; whnf; arg 1; whnf
       · rfl)
    | (apply aw_cond_t
       · conv => lhs; whnf; arg 1; arg 1; whnf)
    | (apply aw_cond_f
       · conv => lhs; whnf; arg 1; arg 1; whnf)
    | (refine aw_cond (by conv => lhs; whnf) ?_ ?_ <;> intro hb)
    | refine aw_ret ?_
    | refine aw_exit ?_
    | refine k_seq_exit ?_
    | refine k_seq_ret ?_
    | refine k_block_ret ?_
    | refine k_block_hit rfl ?_
    | refine k_block_miss rfl ?_
    | refine k_scope_exit ?_
    | refine k_scope_ret ?_
    | refine k_loop_exit ?_
    | refine k_loop_ret ?_
    | refine k_end ?_
    | refine k_end_ret ?_
    | (refine ⟨_, by conv => lhs; whnf; arg 2; whnf, ?_⟩; conv => rhs; whnf)
    | exact trivial
    | intro hg)
  · have hb : decide ((i : Int) < (x.f 4).l.length) = true := hb
    unfold keyD
    rw [if_pos (by simpa using hb)]
    rfl
  · have hb : decide ((i : Int) < (x.f 4).l.length) = true := hb
    show 0 ≤ (i : Int) ∧ (i : Int) < (x.f 4).l.length
    simp at hb; omega
  · have hb : decide ((i : Int) < (x.f 4).l.length) = false := hb
    unfold keyD
    rw [if_neg (by simpa using hb)]
def cmpIt (f : D → D → Int) (a b : D) : Nat → Nat → Int
  | 0, _ => ordI (a.f 3).l.length (b.f 3).l.length
  | j + 1, i =>
    if Lib.compareBytes (tx (keyD a i)) (tx (keyD b i)) != 0 then Lib.compareBytes (tx (keyD a i)) (tx (keyD b i))
    else if f (gD (a.f 3).l i) (gD (b.f 3).l i) != 0 then f (gD (a.f 3).l i) (gD (b.f 3).l i)
    else cmpIt f a b j (i + 1)
def cmpV : Nat → D → D → Int
  | 0, _, _ => 0
  | k + 1, a, b =>
    if (a.f 0).n != (b.f 0).n then ordI (a.f 0).n (b.f 0).n
    else if (a.f 1).n != (b.f 1).n then ordI (a.f 1).n (b.f 1).n
    else if !((a.f 2).s.toList == (b.f 2).s.toList) then Lib.compareBytes (tx (a.f 2).s) (tx (b.f 2).s)
    else cmpIt (cmpV k) a b (min (a.f 3).l.length (b.f 3).l.length) 0
noncomputable def HV0 (a b : D) : Vst 84 :=
  stS 84 [(2, .bx 2 0), (3, .bx 3 0), (7, .c (.int .i64 0))] [(2, .box 49 (cellsV Tryd.prog 12 49 a)), (3, .box 49 (cellsV Tryd.prog 12 49 b))]
noncomputable def HV1 (r : Int) : Vst 84 := stS 84 [(5, .c (.int .i64 r)), (7, .c (.int .i64 1))] []
noncomputable def HVI (a b : D) (i : Nat) : Vst 84 :=
  stS 84 [(2, .bx 2 0), (3, .bx 3 0), (7, .c (.int .i64 0)), (48, .c (.int .i64 (min (a.f 3).l.length (b.f 3).l.length : Nat))), (49, .c (.int .i64 i))] [(2, .box 49 (cellsV Tryd.prog 12 49 a)), (3, .box 49 (cellsV Tryd.prog 12 49 b))]
set_option maxRecDepth 100000 in
theorem min_int {x y : Nat} : (if (y : Int) < x then (y : Int) else (x : Int)) = ((min x y : Nat) : Int) := by
  split <;> omega
set_option maxRecDepth 100000 in
theorem cmpP_ac : ∀ (k : Nat) (a b : D), Fits Tryd.prog k 49 a → Fits Tryd.prog k 49 b → bulkD a ≤ 1048576 → bulkD b ≤ 1048576 → AC EN Tryd.prog 153 [.agg (cellsV Tryd.prog 12 49 a), .agg (cellsV Tryd.prog 12 49 b)] (.c (.int .i64 (cmpV k a b)))
  | 0, a, b, h, _, _, _ => h.elim
  | k + 1, a, b, h1, h2, hb1, hb2 => by
    obtain ⟨f1, g1, -⟩ := val_items h1
    obtain ⟨f2, g2, -⟩ := val_items h2
    have l1 := bulkL_len (a.f 3).l
    have l2 := bulkL_len (b.f 3).l
    have ih := fun i (hi : i < (a.f 3).l.length) (hj : i < (b.f 3).l.length) => cmpP_ac k _ _ (f1 i hi) (f2 i hj) (by have := bulk_mem hi; omega) (by have := bulk_mem hj; omega)
    have c1 := fun i => key_ac a i
    have c2 := fun i => key_ac b i
    have c3 := fun x y => cmpStr_ac x y
    have c4 := fun x y => cmpInt_ac x y
    refine ac_enter 84 Tryd.func153 rfl rfl rfl rfl ?_
    intro s w he
    repeat' (first
    | refine aw_seq ?_
    | refine aw_region ?_
    | refine awo_nil ?_
    | refine k_seq ?_
    | refine k_block ?_
    | refine k_scope ?_
    | refine aw_block ?_
    | refine aw_skip ?_
    | refine aw_label ?_
    | refine aw_scope ?_
    | (apply s_val rfl
       · conv => lhs; whnf
       · conv => lhs; whnf; arg 2; whnf)
    | (apply s_call rfl
       · conv => lhs; whnf
       · conv => lhs; whnf
       · first | fail)
    | (apply s_box rfl rfl rfl rfl
       · conv => lhs; whnf; arg 1; whnf
       · rfl)
    | (apply aw_draw (by kernel_rfl) (by kernel_rfl))
    | apply y_nil
    | (apply y_val rfl
       · conv => lhs; whnf
       · conv => lhs; whnf; arg 2; whnf)
    | (apply y_call rfl
       · conv => lhs; whnf
       · conv => lhs; whnf
       · first | fail)
    | exact apartB_none
    | exact apartB_nil
    | exact all_nil
    | (show List.all _ _ = true; rfl)
    | (show apartB _ _ = true; rfl)
    | exact ([] : List Nat)
    | exact (1000000 : Nat)
    | (apply aw_cond_t
       · conv => lhs; whnf; arg 1; arg 1; whnf)
    | (apply aw_cond_f
       · conv => lhs; whnf; arg 1; arg 1; whnf)
    | (refine aw_cond (by conv => lhs; whnf) ?_ ?_ <;> intro hb)
    | refine aw_ret ?_
    | refine aw_exit ?_
    | refine k_seq_exit ?_
    | refine k_seq_ret ?_
    | refine k_block_ret ?_
    | refine k_block_hit rfl ?_
    | refine k_block_miss rfl ?_
    | refine k_scope_exit ?_
    | refine k_scope_ret ?_
    | refine k_loop_exit ?_
    | refine k_loop_ret ?_
    | refine k_end ?_
    | refine k_end_ret ?_
    | (refine ⟨_, by conv => lhs; whnf; arg 2; whnf, ?_⟩; conv => rhs; whnf)
    | exact trivial
    | intro hg)
    refine aw_loop (fun j st => (j = 1 ∧ Sub (cx EN Tryd.prog s w he) st (HV0 a b)) ∨ (j = 0 ∧ Sub (cx EN Tryd.prog s w he) st (HV1 (cmpV (k + 1) a b)))) 1 (.inl ⟨rfl, ?_⟩) ?_
    · exact Sub.live ⟨rfl, rfl, rfl, trivial⟩ ⟨rfl, rfl, trivial⟩
    · rintro j st (⟨rfl, hs2⟩ | ⟨rfl, hs2⟩)
      · refine aw_sub hs2 ?_
        have hC : cmpV (k + 1) a b = if (a.f 0).n != (b.f 0).n then ordI (a.f 0).n (b.f 0).n
          else if (a.f 1).n != (b.f 1).n then ordI (a.f 1).n (b.f 1).n
          else if !((a.f 2).s.toList == (b.f 2).s.toList) then Lib.compareBytes (tx (a.f 2).s) (tx (b.f 2).s)
          else cmpIt (cmpV k) a b (min (a.f 3).l.length (b.f 3).l.length) 0 := rfl
        generalize cmpV (k + 1) a b = R at hC ⊢
        repeat' (first
    | refine aw_seq ?_
    | refine aw_region ?_
    | refine awo_nil ?_
    | refine k_seq ?_
    | refine k_block ?_
    | refine k_scope ?_
    | refine aw_block ?_
    | refine aw_skip ?_
    | refine aw_label ?_
    | refine aw_scope ?_
    | (apply s_val rfl
       · conv => lhs; whnf
       · conv => lhs; whnf; arg 2; whnf)
    | (apply s_call rfl
       · conv => lhs; whnf
       · conv => lhs; whnf
       · first | exact c1 _ | exact c2 _ | exact c3 _ _ | exact c4 _ _)
    | (apply s_box rfl rfl rfl rfl
       · conv => lhs; whnf; arg 1; whnf
       · rfl)
    | (apply aw_draw (by kernel_rfl) (by kernel_rfl))
    | apply y_nil
    | (apply y_val rfl
       · conv => lhs; whnf
       · conv => lhs; whnf; arg 2; whnf)
    | (apply y_call rfl
       · conv => lhs; whnf
       · conv => lhs; whnf
       · first | exact c1 _ | exact c2 _ | exact c3 _ _ | exact c4 _ _)
    | exact apartB_none
    | exact apartB_nil
    | exact all_nil
    | (show List.all _ _ = true; rfl)
    | (show apartB _ _ = true; rfl)
    | exact ([] : List Nat)
    | exact (1000000 : Nat)
    | (apply aw_cond_t
       · conv => lhs; whnf; arg 1; arg 1; whnf)
    | (apply aw_cond_f
       · conv => lhs; whnf; arg 1; arg 1; whnf)
    | (refine aw_cond (by conv => lhs; whnf) ?_ ?_ <;> intro hb)
    | refine aw_ret ?_
    | refine aw_exit ?_
    | refine k_seq_exit ?_
    | refine k_seq_ret ?_
    | refine k_block_ret ?_
    | refine k_block_hit rfl ?_
    | refine k_block_miss rfl ?_
    | refine k_scope_exit ?_
    | refine k_scope_ret ?_
    | refine k_loop_exit ?_
    | refine k_loop_ret ?_
    | refine k_end ?_
    | refine k_end_ret ?_
    | (refine ⟨_, by conv => lhs; whnf; arg 2; whnf, ?_⟩; conv => rhs; whnf)
    | exact trivial
    | intro hg)
        · have e1 : ((a.f 0).n != (b.f 0).n) = true := by assumption
          rw [hC, if_pos e1]
        · have e1 : ((a.f 0).n != (b.f 0).n) = false := by assumption
          have e2 : ((a.f 1).n != (b.f 1).n) = true := by assumption
          rw [hC, if_neg (by rw [e1]; decide), if_pos e2]
        · have e1 : ((a.f 0).n != (b.f 0).n) = false := by assumption
          have e2 : ((a.f 1).n != (b.f 1).n) = false := by assumption
          have e3 : (!((a.f 2).s.toList == (b.f 2).s.toList)) = true := by assumption
          rw [hC, if_neg (by rw [e1]; decide), if_neg (by rw [e2]; decide), if_pos e3]
        · have e1 : ((a.f 0).n != (b.f 0).n) = false := by assumption
          have e2 : ((a.f 1).n != (b.f 1).n) = false := by assumption
          have e3 : (!((a.f 2).s.toList == (b.f 2).s.toList)) = false := by assumption
          rw [if_neg (by rw [e1]; decide), if_neg (by rw [e2]; decide), if_neg (by rw [e3]; decide)] at hC
          refine aw_loop (fun j st => ∃ i, i + j = min (a.f 3).l.length (b.f 3).l.length ∧ R = cmpIt (cmpV k) a b j i ∧ Sub (cx EN Tryd.prog s w he) st (HVI a b i)) (min (a.f 3).l.length (b.f 3).l.length) ⟨0, by omega, hC, ?_⟩ ?_
          · refine Sub.live ⟨rfl, rfl, rfl, ?_, rfl, trivial⟩ ⟨rfl, rfl, trivial⟩
            show V.c (.int .i64 (if ((b.f 3).l.length : Int) < (a.f 3).l.length then ((b.f 3).l.length : Int) else ((a.f 3).l.length : Int))) = _
            rw [min_int]
          · clear e1 e2 e3
            rintro j st ⟨i, hij, hR, hs2⟩
            refine aw_sub hs2 ?_
            have ih2 := fun (h : decide ((i : Int) < ((min (a.f 3).l.length (b.f 3).l.length : Nat) : Int)) = true) => ih i (by simp at h; omega) (by simp at h; omega)
            repeat' (first
    | refine aw_seq ?_
    | refine aw_region ?_
    | refine awo_nil ?_
    | refine k_seq ?_
    | refine k_block ?_
    | refine k_scope ?_
    | refine aw_block ?_
    | refine aw_skip ?_
    | refine aw_label ?_
    | refine aw_scope ?_
    | (apply s_val rfl
       · conv => lhs; whnf
       · conv => lhs; whnf; arg 2; whnf)
    | (apply s_call rfl
       · conv => lhs; whnf
       · conv => lhs; whnf
       · first | exact c1 i | exact c2 i | exact c3 _ _ | exact ih2 (by assumption) | exact c4 _ _)
    | (apply s_box rfl rfl rfl rfl
       · conv => lhs; whnf; arg 1; whnf
       · rfl)
    | (apply aw_draw (by kernel_rfl) (by kernel_rfl))
    | apply y_nil
    | (apply y_val rfl
       · conv => lhs; whnf
       · conv => lhs; whnf; arg 2; whnf)
    | (apply y_call rfl
       · conv => lhs; whnf
       · conv => lhs; whnf
       · first | exact c1 i | exact c2 i | exact c3 _ _ | exact ih2 (by assumption) | exact c4 _ _)
    | exact apartB_none
    | exact apartB_nil
    | exact all_nil
    | (show List.all _ _ = true; rfl)
    | (show apartB _ _ = true; rfl)
    | exact ([] : List Nat)
    | exact (1000000 : Nat)
    | (apply aw_cond_t
       · conv => lhs; whnf; arg 1; arg 1; whnf)
    | (apply aw_cond_f
       · conv => lhs; whnf; arg 1; arg 1; whnf)
    | (refine aw_cond (by conv => lhs; whnf) ?_ ?_ <;> intro hb)
    | refine aw_ret ?_
    | refine aw_exit ?_
    | refine k_seq_exit ?_
    | refine k_seq_ret ?_
    | refine k_block_ret ?_
    | refine k_block_hit rfl ?_
    | refine k_block_miss rfl ?_
    | refine k_scope_exit ?_
    | refine k_scope_ret ?_
    | refine k_loop_exit ?_
    | refine k_loop_ret ?_
    | refine k_end ?_
    | refine k_end_ret ?_
    | (refine ⟨_, by conv => lhs; whnf; arg 2; whnf, ?_⟩; conv => rhs; whnf)
    | exact trivial
    | intro hg)
            · have h0 : decide ((i : Int) < ((min (a.f 3).l.length (b.f 3).l.length : Nat) : Int)) = true := by assumption
              have h1 : (Lib.compareBytes (tx (keyD a i)) (tx (keyD b i)) != 0) = true := by assumption
              obtain ⟨j, rfl⟩ : ∃ q, j = q + 1 := ⟨j - 1, by simp at h0; omega⟩
              rw [hR, cmpIt, if_pos h1]
            · have h0 : decide ((i : Int) < ((min (a.f 3).l.length (b.f 3).l.length : Nat) : Int)) = true := by assumption
              have h1 : (Lib.compareBytes (tx (keyD a i)) (tx (keyD b i)) != 0) = false := by assumption
              have h2 : (cmpV k (gD (a.f 3).l i) (gD (b.f 3).l i) != 0) = true := by assumption
              obtain ⟨j, rfl⟩ : ∃ q, j = q + 1 := ⟨j - 1, by simp at h0; omega⟩
              rw [hR, cmpIt, if_neg (by rw [h1]; decide), if_pos h2]
            · have h0 : decide ((i : Int) < ((min (a.f 3).l.length (b.f 3).l.length : Nat) : Int)) = true := by assumption
              have h1 : (Lib.compareBytes (tx (keyD a i)) (tx (keyD b i)) != 0) = false := by assumption
              have h2 : (cmpV k (gD (a.f 3).l i) (gD (b.f 3).l i) != 0) = false := by assumption
              obtain ⟨j, rfl⟩ : ∃ q, j = q + 1 := ⟨j - 1, by simp at h0; omega⟩
              rw [cmpIt, if_neg (by rw [h1]; decide), if_neg (by rw [h2]; decide)] at hR
              exact k_loop_next (j' := j) (by omega) ⟨i + 1, by omega, hR, Sub.live ⟨rfl, rfl, rfl, rfl, rfl, trivial⟩ ⟨rfl, rfl, trivial⟩⟩
            · exact i64_ok (by omega)
            · have h0 : decide ((i : Int) < ((min (a.f 3).l.length (b.f 3).l.length : Nat) : Int)) = true := by assumption
              show 0 ≤ (i : Int) ∧ (i : Int) < (b.f 3).l.length
              simp at h0; omega
            · have h0 : decide ((i : Int) < ((min (a.f 3).l.length (b.f 3).l.length : Nat) : Int)) = true := by assumption
              show 0 ≤ (i : Int) ∧ (i : Int) < (a.f 3).l.length
              simp at h0; omega
            · have h0 : decide ((i : Int) < ((min (a.f 3).l.length (b.f 3).l.length : Nat) : Int)) = false := by assumption
              obtain rfl : j = 0 := by simp at h0; omega
              refine k_loop_next (j' := 0) (by omega) (.inr ⟨rfl, Sub.live ⟨?_, rfl, trivial⟩ trivial⟩)
              rw [hR]; rfl
            · exact i64_ok (by omega)
      · refine aw_sub hs2 ?_
        repeat' (first
    | refine aw_seq ?_
    | refine aw_region ?_
    | refine awo_nil ?_
    | refine k_seq ?_
    | refine k_block ?_
    | refine k_scope ?_
    | refine aw_block ?_
    | refine aw_skip ?_
    | refine aw_label ?_
    | refine aw_scope ?_
    | (apply s_val rfl
       · conv => lhs; whnf
       · conv => lhs; whnf; arg 2; whnf)
    | (apply s_call rfl
       · conv => lhs; whnf
       · conv => lhs; whnf
       · first | fail)
    | (apply s_box rfl rfl rfl rfl
       · conv => lhs; whnf; arg 1; whnf
       · rfl)
    | (apply aw_draw (by kernel_rfl) (by kernel_rfl))
    | apply y_nil
    | (apply y_val rfl
       · conv => lhs; whnf
       · conv => lhs; whnf; arg 2; whnf)
    | (apply y_call rfl
       · conv => lhs; whnf
       · conv => lhs; whnf
       · first | fail)
    | exact apartB_none
    | exact apartB_nil
    | exact all_nil
    | (show List.all _ _ = true; rfl)
    | (show apartB _ _ = true; rfl)
    | exact ([] : List Nat)
    | exact (1000000 : Nat)
    | (apply aw_cond_t
       · conv => lhs; whnf; arg 1; arg 1; whnf)
    | (apply aw_cond_f
       · conv => lhs; whnf; arg 1; arg 1; whnf)
    | (refine aw_cond (by conv => lhs; whnf) ?_ ?_ <;> intro hb)
    | refine aw_ret ?_
    | refine aw_exit ?_
    | refine k_seq_exit ?_
    | refine k_seq_ret ?_
    | refine k_block_ret ?_
    | refine k_block_hit rfl ?_
    | refine k_block_miss rfl ?_
    | refine k_scope_exit ?_
    | refine k_scope_ret ?_
    | refine k_loop_exit ?_
    | refine k_loop_ret ?_
    | refine k_end ?_
    | refine k_end_ret ?_
    | (refine ⟨_, by conv => lhs; whnf; arg 2; whnf, ?_⟩; conv => rhs; whnf)
    | exact trivial
    | intro hg)
set_option maxRecDepth 100000 in
theorem same_val (k : Nat) (a b : D) (h1 : Fits Tryd.prog k 49 a) (h2 : Fits Tryd.prog k 49 b) (hb1 : bulkD a ≤ 1048576) (hb2 : bulkD b ≤ 1048576) : AC EN Tryd.prog 124 [.agg (cellsV Tryd.prog 12 49 a), .agg (cellsV Tryd.prog 12 49 b)] (.c (.bool (cmpV k a b == 0))) := by
  have hc := cmpP_ac k a b h1 h2 hb1 hb2
  refine ac_enter 9 Tryd.func124 rfl rfl rfl rfl ?_
  intro s w he
  repeat' (first
    | refine aw_seq ?_
    | refine aw_region ?_
    | refine awo_nil ?_
    | refine k_seq ?_
    | refine k_block ?_
    | refine k_scope ?_
    | refine aw_block ?_
    | refine aw_skip ?_
    | refine aw_label ?_
    | refine aw_scope ?_
    | (apply s_val rfl
       · conv => lhs; whnf
       · conv => lhs; whnf; arg 2; whnf)
    | (apply s_call rfl
       · conv => lhs; whnf
       · conv => lhs; whnf
       · first | exact hc)
    | (apply s_box rfl rfl rfl rfl
       · conv => lhs; whnf; arg 1; whnf
       · rfl)
    | (apply aw_cond_t
       · conv => lhs; whnf; arg 1; arg 1; whnf)
    | (apply aw_cond_f
       · conv => lhs; whnf; arg 1; arg 1; whnf)
    | (refine aw_cond (by conv => lhs; whnf) ?_ ?_ <;> intro hb)
    | refine aw_ret ?_
    | refine aw_exit ?_
    | refine k_seq_exit ?_
    | refine k_seq_ret ?_
    | refine k_block_ret ?_
    | refine k_block_hit rfl ?_
    | refine k_block_miss rfl ?_
    | refine k_scope_exit ?_
    | refine k_scope_ret ?_
    | refine k_loop_exit ?_
    | refine k_loop_ret ?_
    | refine k_end ?_
    | refine k_end_ret ?_
    | (refine ⟨_, by conv => lhs; whnf; arg 2; whnf, ?_⟩; conv => rhs; whnf)
    | exact trivial
    | intro hg)
end Go.Proofs.YtohneabalakmeaaDoor
