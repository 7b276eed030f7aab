/- Parts of a proof, merged by a program (shake.py). -/
import Derived.Test.YtjhjleanihgopaaDoorR5
set_option linter.unusedVariables false
set_option linter.unusedSimpArgs false
namespace Go.Proofs.YtjhjleanihgopaaDoor
open Go.RowKit
attribute [local irreducible] wpList Calls Code.wp AW AWo OpOk seqK blockK scopeK loopK endK endKB AC ACB absLex absLexG Yld YldG Sub
section
variable {X : Cx} {nn : Nat} {st : Vst nn} {K : Exit → Vst nn → Prop}
set_option maxRecDepth 100000 in
/-- a test whose answer is known -/
theorem aw_cond_kt {c : Operand} {x y : Code} {b : Bool} (hc : ev st c = .c (.bool b)) (hb : b = true) (ht : AW X x st K) : AW X (.cond c x y) st K := aw_cond hc (fun _ => ht) (fun e => by rw [hb] at e; cases e)
set_option maxRecDepth 100000 in
theorem aw_cond_kf {c : Operand} {x y : Code} {b : Bool} (hc : ev st c = .c (.bool b)) (hb : b = false) (ht : AW X y st K) : AW X (.cond c x y) st K := aw_cond hc (fun e => by rw [hb] at e; cases e) (fun _ => ht)
end
set_option maxRecDepth 100000 in
theorem ne48 {c : UInt8} (h : ((c.toNat : Int) != 48) = true) : (c == 48) = false := by
  have h : (c.toNat : Int) ≠ 48 := by simpa using h
  cases e : (c == 48) with
  | false => rfl
  | true =>
    have e : c = 48 := by simpa using e
    rw [e] at h; exact absurd rfl h
set_option maxRecDepth 100000 in
theorem eq48 {c : UInt8} (h : ((c.toNat : Int) != 48) = false) : (c == 48) = true := by
  have h : (c.toNat : Int) = 48 := by simpa using h
  have h : c.toNat = 48 := by omega
  have e : c = 48 := UInt8.toNat_inj.mp (by rw [h]; rfl)
  rw [e]; rfl
def zQ (i : Nat) : List UInt8 := if i < 2 then [48] else dHex
def zE (S : List UInt8) (z : JS) : Nat → JS
  | 0 => z
  | i + 1 => (takeS S (zQ i) (zE S z i)).2
set_option maxRecDepth 100000 in
theorem take_e {S q : List UInt8} {y : JS} (h : y.e ≠ 0) : (takeS S q y).2 = y := by
  rw [take_not (fun hh => h hh.1)]
  unfold failS; rw [if_neg h]
set_option maxRecDepth 100000 in
theorem zE_e {S : List UInt8} {z : JS} {i : Nat} (h : (zE S z i).e ≠ 0) : ∀ j, zE S z (i + j) = zE S z i
  | 0 => rfl
  | j + 1 => by
    show (takeS S (zQ (i + j)) (zE S z (i + j))).2 = _
    rw [zE_e h j, take_e h]
set_option maxRecDepth 100000 in
theorem esc_sim {S : List UInt8} {z : JS} (h0 : z.e = 0) (h : simJ (atS S z) = true) : escS S z = goS z := by
  have hne : atS S z ≠ 0 := fun e => by rw [e] at h; exact absurd h (by decide)
  have hc : dEsc.contains (atS S z) = true := by rw [dEsc_esc, h]; rfl
  have h117 : ¬ atS S z = 117 := fun e => by rw [e] at h; exact absurd h (by decide)
  unfold escS
  rw [take_is ⟨h0, at_lt hne rfl, hc⟩]
  dsimp only
  rw [if_neg h117]
set_option maxRecDepth 100000 in
theorem esc_u {S : List UInt8} {z : JS} (h0 : z.e = 0) (h : atS S z = 117) : escS S z = zE S (goS z) 4 := by
  have hc : dEsc.contains (atS S z) = true := by rw [h]; decide
  unfold escS
  rw [take_is ⟨h0, at_lt (b := 117) (by decide) h, hc⟩]
  dsimp only
  rw [if_pos h]
  rfl
set_option maxRecDepth 100000 in
theorem esc_no {S : List UInt8} {z : JS} (h : simJ (atS S z) = false) (h1 : ¬ atS S z = 117) : escS S z = failS z z.p 3 := by
  have hc : dEsc.contains (atS S z) = false := by rw [dEsc_esc, h]; simpa using h1
  unfold escS
  rw [take_not (fun hh => by rw [hc] at hh; exact absurd hh.2.2 (by decide))]
  dsimp only
  rw [if_neg (by decide)]
set_option maxRecDepth 100000 in
theorem simJ_i (c : UInt8) : simJ c = (((c.toNat : Int) == 34) || ((c.toNat : Int) == 92) || ((c.toNat : Int) == 47) || ((c.toNat : Int) == 98) || ((c.toNat : Int) == 102) || ((c.toNat : Int) == 110) || ((c.toNat : Int) == 114) || ((c.toNat : Int) == 116)) := by
  unfold simJ
  rw [show (c == 34) = ((c.toNat : Int) == 34) from beq_u8 c 34 (by decide), show (c == 92) = ((c.toNat : Int) == 92) from beq_u8 c 92 (by decide), show (c == 47) = ((c.toNat : Int) == 47) from beq_u8 c 47 (by decide), show (c == 98) = ((c.toNat : Int) == 98) from beq_u8 c 98 (by decide), show (c == 102) = ((c.toNat : Int) == 102) from beq_u8 c 102 (by decide), show (c == 110) = ((c.toNat : Int) == 110) from beq_u8 c 110 (by decide), show (c == 114) = ((c.toNat : Int) == 114) from beq_u8 c 114 (by decide), show (c == 116) = ((c.toNat : Int) == 116) from beq_u8 c 116 (by decide)]
noncomputable def HeQ (s : ByteArray) (z : JS) (i : Nat) : Vst 73 := stS 73 [(0, .bx (pn 0) 0), (2, .c (.int .i64 (i : Int)))] [(pn 0, boxQ s (zE s.data.toList z i))]
set_option maxHeartbeats 4000000 in
set_option maxRecDepth 100000 in
theorem escQ_acb (s : ByteArray) (y : JS) (hs : s.size ≤ 1000000000) (hlt : y.p < s.size) (he0 : y.e = 0) : ACB EN5 Tryd.prog 96 [.bx (pn 0) 0] [boxQ s y] (.tup []) [boxQ s (escS s.data.toList (goS y))] := by
  have hls : s.data.toList.length = s.size := rfl
  have hze : (goS y).e = 0 := he0
  have hzp : (goS y).p ≤ s.size := hlt
  have hyp : (goS y).p = y.p + 1 := rfl
  have hn := nextQ_acb s (goS y) hs
  have h1 := esc_sim (S := s.data.toList) hze
  have h2 := esc_u (S := s.data.toList) hze
  have h3 := esc_no (S := s.data.toList) (z := goS y)
  have hat := fun (b : UInt8) (hb : b ≠ 0) (h : atS s.data.toList (goS y) = b) => at_lt (S := s.data.toList) (x := goS y) hb h
  have hi := simJ_i (atS s.data.toList (goS y))
  refine acb_enter (fn := Tryd.f96) 73 Tryd.func96 rfl rfl ?_
  intro pas w0 w he hpp
  repeat' (first
    | (apply s_meth (cellsQ s) (fun _ _ => rfl) rfl
       · conv => lhs; whnf
       · conv => lhs; whnf
       · rfl
       · conv => lhs; whnf; arg 1; whnf
       · first | exact eta0 _ _ | exact eta1 _ _ | exact eta2 _ _ | exact eta3 _ _ | exact eta6 _ | exact etaQ0 _ _ | exact etaQ1 _ _ | exact etaQ2 _ _ | exact etaQ3 _ _ | exact etaQ6 _
       · first | exact hn | exact failQ_acb _ _ _ _
       · exact fun _ => rfl
       · exact fun _ => rfl)
    | (apply s_wanted_meth (cellsQ s) (fun _ _ => rfl) rfl
       · conv => lhs; whnf
       · conv => lhs; whnf
       · first | rfl | assumption
       · conv => lhs; whnf
       · rfl
       · conv => lhs; whnf; arg 1; whnf
       · first | exact eta0 _ _ | exact eta1 _ _ | exact eta2 _ _ | exact eta3 _ _ | exact eta6 _ | exact etaQ0 _ _ | exact etaQ1 _ _ | exact etaQ2 _ _ | exact etaQ3 _ _ | exact etaQ6 _
       · first | exact hn | exact failQ_acb _ _ _ _
       · exact fun _ => rfl
       · exact fun _ => rfl)
    | (apply s_skipU rfl
       · conv => lhs; whnf
       · conv => lhs; whnf
       · first | rfl | assumption)
    | (apply s_dead rfl
       · conv => lhs; whnf
       · rfl
       · rfl)
    | (apply s_guard_meth (cellsQ s) (fun _ _ => rfl) rfl
       · conv => lhs; whnf
       · conv => lhs; whnf
       · conv => lhs; whnf
       · rfl
       · conv => lhs; whnf; arg 1; whnf
       · first | exact eta0 _ _ | exact eta1 _ _ | exact eta2 _ _ | exact eta3 _ _ | exact eta6 _ | exact etaQ0 _ _ | exact etaQ1 _ _ | exact etaQ2 _ _ | exact etaQ3 _ _ | exact etaQ6 _
       · first | exact hn | exact failQ_acb _ _ _ _
       · exact fun _ => rfl
       · exact fun _ => rfl)
    | (apply s_wanted_pick_t rfl rfl rfl
       · conv => lhs; whnf
       · first | rfl | assumption
       · conv => lhs; whnf
       · first | exact bT1 (by assumption) | exact bT2 (by assumption) | rfl)
    | (apply s_wpick_t rfl rfl rfl
       · conv => lhs; whnf
       · first | rfl | assumption
       · conv => lhs; whnf
       · first | exact bT1 (by assumption) | exact bT2 (by assumption) | rfl)
    | (apply s_wanted_pick_f rfl rfl rfl
       · conv => lhs; whnf
       · first | rfl | assumption
       · conv => lhs; whnf
       · first | exact bF1 (by assumption) | exact bF2 (by assumption) | rfl)
    | (apply s_wpick_f rfl rfl rfl
       · conv => lhs; whnf
       · first | rfl | assumption
       · conv => lhs; whnf
       · first | exact bF1 (by assumption) | exact bF2 (by assumption) | rfl)
    | (apply aw_cond_kt
       · conv => lhs; whnf
       · assumption)
    | (apply aw_cond_kf
       · conv => lhs; whnf
       · assumption)
    | refine k_cut_ret ?_
    | refine k_cut_exit ?_
    | refine k_cut ?_
    | refine aw_seq ?_
    | refine aw_region ?_
    | refine awo_nil ?_
    | refine k_seq ?_
    | refine k_block ?_
    | refine k_scope ?_
    | refine aw_block ?_
    | refine aw_skip ?_
    | refine aw_label ?_
    | refine aw_scope ?_
    | (apply s_pick_t rfl rfl
       · conv => lhs; whnf
       · conv => lhs; whnf
       · first | exact bT1 (by assumption) | exact bT2 (by assumption))
    | (apply s_pick_f rfl rfl
       · conv => lhs; whnf
       · conv => lhs; whnf
       · first | exact bF1 (by assumption) | exact bF2 (by assumption))
    | (apply s_val rfl
       · conv => lhs; whnf
       · conv => lhs; whnf; arg 2; whnf)
    | (apply s_call rfl
       · conv => lhs; whnf
       · conv => lhs; whnf
       · first | fail)
    | (apply s_store rfl rfl rfl
       · conv => lhs; whnf
       · conv => lhs; whnf; arg 1; whnf
       · conv => lhs; whnf; arg 1; whnf
       · exact ⟨by kernel_rfl, by kernel_rfl⟩
       · rfl)
    | (apply s_wanted_val rfl
       · conv => lhs; whnf
       · conv => lhs; whnf
       · first | rfl | assumption
       · conv => lhs; whnf; arg 2; whnf)
    | (apply s_wanted_call rfl
       · conv => lhs; whnf
       · conv => lhs; whnf
       · first | rfl | assumption
       · conv => lhs; whnf
       · first | fail)
    | (apply s_skipU rfl
       · conv => lhs; whnf
       · conv => lhs; whnf
       · first | rfl | assumption)
    | (apply s_dead rfl
       · conv => lhs; whnf
       · rfl
       · rfl)
    | (apply s_guard_valU rfl
       · conv => lhs; whnf
       · conv => lhs; whnf
       · conv => lhs; whnf; arg 2; whnf)
    | (apply s_guard_callU rfl
       · conv => lhs; whnf
       · conv => lhs; whnf
       · conv => lhs; whnf
       · first | fail)
    | (apply s_guard_val rfl
       · conv => lhs; whnf
       · conv => lhs; whnf
       · conv => lhs; whnf; arg 2; whnf)
    | (apply s_guard_call rfl
       · conv => lhs; whnf
       · conv => lhs; whnf
       · conv => lhs; whnf
       · first | fail)
    | (apply aw_cond_t
       · conv => lhs; whnf; arg 1; arg 1; whnf)
    | (apply aw_cond_f
       · conv => lhs; whnf; arg 1; arg 1; whnf)
    | (refine aw_cond (by conv => lhs; whnf) ?_ ?_ <;> intro hb)
    | refine aw_ret ?_
    | refine aw_exit ?_
    | refine k_seq_exit ?_
    | refine k_seq_ret ?_
    | refine k_block_ret ?_
    | refine k_block_hit rfl ?_
    | refine k_block_miss rfl ?_
    | refine k_scope_exit ?_
    | refine k_scope_ret ?_
    | refine k_loop_exit ?_
    | refine k_loop_ret ?_
    | refine k_endB ⟨?_, ?_⟩
    | refine k_endB_ret ⟨?_, ?_⟩
    | exact (rfl : _ = V.tup [])
    | (refine ⟨_, by conv => lhs; whnf; arg 2; whnf, ?_⟩; conv => rhs; whnf)
    | exact trivial
    | intro hg)
  all_goals try (exact i64_in2 (by omega))
  all_goals try
    (have hS : simJ (atS s.data.toList (goS y)) = true := by
       rw [hi]
       simp only [Bool.or_eq_true]
       repeat (first | assumption | exact Or.inr (by assumption) | apply Or.inl)
     rw [h1 hS]; exact ⟨rfl, trivial⟩)
  all_goals
    have hS : simJ (atS s.data.toList (goS y)) = false := by
      rw [hi]
      simp only [Bool.or_eq_false_iff]
      repeat' (first | assumption | apply And.intro)
  rotate_left 1
  · have g : (((atS s.data.toList (goS y)).toNat : Int) == 117) = false := by assumption
    have g : ¬ atS s.data.toList (goS y) = 117 := u8_ne2 (n := 117) g (by decide)
    rw [h3 hS g]; exact ⟨rfl, trivial⟩
  have g : (((atS s.data.toList (goS y)).toNat : Int) == 117) = true := by assumption
  have g : atS s.data.toList (goS y) = 117 := u8_eq (n := 117) g (by decide)
  have hl := hat 117 (by decide) g
  rw [h2 g]
  clear h1 h2 h3 hi
  have hz2 : (goS (goS y)).p ≤ s.size := hl
  have hz2e : (goS (goS y)).e = 0 := he0
  refine aw_sub (Sub.live (cs := [(0, .bx (pn 0) 0), (2, .c (.int .i64 0))]) (R := [(pn 0, boxQ s (goS (goS y)))]) ⟨rfl, rfl, trivial⟩ ⟨rfl, trivial⟩) ?_
  generalize goS (goS y) = z at hz2 hz2e ⊢
  refine aw_loop (fun j st => ∃ i, i + j = 4 ∧ (zE s.data.toList z i).e = 0 ∧ (zE s.data.toList z i).p ≤ s.size ∧ Sub ⟨Tryd.prog, pas, w0, w, EN5, he, hpp⟩ st (HeQ s z i)) 4 ⟨0, by omega, hz2e, hz2, ?_⟩ ?_
  · exact Sub.live ⟨rfl, rfl, trivial⟩ ⟨rfl, trivial⟩
  · rintro j st ⟨i, hij, hYe, hYp, hs2⟩
    refine aw_sub hs2 ?_
    clear hs2
    have hnext : zE s.data.toList z (i + 1) = (takeS s.data.toList (zQ i) (zE s.data.toList z i)).2 := rfl
    have hend := zE_e (S := s.data.toList) (z := z) (i := i + 1)
    have h4 : zE s.data.toList z 4 = zE s.data.toList z (i + j) := by rw [hij]
    unfold HeQ
    generalize hY : zE s.data.toList z i = Y at hYe hYp hnext ⊢
    have hn2 := nextQ_acb s Y hs
    have hx2 := hexQ_ac (atS s.data.toList Y)
    have hlt2 := fun (h : atS s.data.toList Y ≠ 0) => at_lt (S := s.data.toList) (x := Y) h rfl
    have hfail := fun (hq : (zQ i).contains (atS s.data.toList Y) = false) (h : i < 4) => by
      have e1 : zE s.data.toList z (i + 1) = failS Y Y.p 3 := by
        rw [hnext, take_not (fun hh => by rw [hq] at hh; exact absurd hh.2.2 (by decide))]
      have e2 : zE s.data.toList z 4 = failS Y Y.p 3 := by
        have := hend (by rw [e1]; exact fail_e (by decide)) (3 - i)
        rw [show i + 1 + (3 - i) = 4 by omega, e1] at this
        exact this
      exact e2
    have hgood := fun (hq : (zQ i).contains (atS s.data.toList Y) = true) (hne : atS s.data.toList Y ≠ 0) => by
      have e1 : zE s.data.toList z (i + 1) = goS Y := by
        rw [hnext, take_is ⟨hYe, hlt2 hne, hq⟩]
      exact e1
    have q1 : i < 2 → (zQ i).contains (atS s.data.toList Y) = (atS s.data.toList Y == 48) := fun h => by unfold zQ; rw [if_pos h, has_one]
    have q2 : ¬ i < 2 → (zQ i).contains (atS s.data.toList Y) = hexJ (atS s.data.toList Y) := fun h => by unfold zQ; rw [if_neg h, dHex_hex]
    repeat' (first
    | (apply s_meth (cellsQ s) (fun _ _ => rfl) rfl
       · conv => lhs; whnf
       · conv => lhs; whnf
       · rfl
       · conv => lhs; whnf; arg 1; whnf
       · first | exact eta0 _ _ | exact eta1 _ _ | exact eta2 _ _ | exact eta3 _ _ | exact eta6 _ | exact etaQ0 _ _ | exact etaQ1 _ _ | exact etaQ2 _ _ | exact etaQ3 _ _ | exact etaQ6 _
       · first | exact hn2 | exact failQ_acb _ _ _ _
       · exact fun _ => rfl
       · exact fun _ => rfl)
    | (apply s_wanted_meth (cellsQ s) (fun _ _ => rfl) rfl
       · conv => lhs; whnf
       · conv => lhs; whnf
       · first | rfl | assumption
       · conv => lhs; whnf
       · rfl
       · conv => lhs; whnf; arg 1; whnf
       · first | exact eta0 _ _ | exact eta1 _ _ | exact eta2 _ _ | exact eta3 _ _ | exact eta6 _ | exact etaQ0 _ _ | exact etaQ1 _ _ | exact etaQ2 _ _ | exact etaQ3 _ _ | exact etaQ6 _
       · first | exact hn2 | exact failQ_acb _ _ _ _
       · exact fun _ => rfl
       · exact fun _ => rfl)
    | (apply s_skipU rfl
       · conv => lhs; whnf
       · conv => lhs; whnf
       · first | rfl | assumption)
    | (apply s_dead rfl
       · conv => lhs; whnf
       · rfl
       · rfl)
    | (apply s_guard_meth (cellsQ s) (fun _ _ => rfl) rfl
       · conv => lhs; whnf
       · conv => lhs; whnf
       · conv => lhs; whnf
       · rfl
       · conv => lhs; whnf; arg 1; whnf
       · first | exact eta0 _ _ | exact eta1 _ _ | exact eta2 _ _ | exact eta3 _ _ | exact eta6 _ | exact etaQ0 _ _ | exact etaQ1 _ _ | exact etaQ2 _ _ | exact etaQ3 _ _ | exact etaQ6 _
       · first | exact hn2 | exact failQ_acb _ _ _ _
       · exact fun _ => rfl
       · exact fun _ => rfl)
    | (apply s_wanted_pick_t rfl rfl rfl
       · conv => lhs; whnf
       · first | rfl | assumption
       · conv => lhs; whnf
       · first | exact bT1 (by assumption) | exact bT2 (by assumption) | rfl)
    | (apply s_wpick_t rfl rfl rfl
       · conv => lhs; whnf
       · first | rfl | assumption
       · conv => lhs; whnf
       · first | exact bT1 (by assumption) | exact bT2 (by assumption) | rfl)
    | (apply s_wanted_pick_f rfl rfl rfl
       · conv => lhs; whnf
       · first | rfl | assumption
       · conv => lhs; whnf
       · first | exact bF1 (by assumption) | exact bF2 (by assumption) | rfl)
    | (apply s_wpick_f rfl rfl rfl
       · conv => lhs; whnf
       · first | rfl | assumption
       · conv => lhs; whnf
       · first | exact bF1 (by assumption) | exact bF2 (by assumption) | rfl)
    | (apply aw_cond_kt
       · conv => lhs; whnf
       · assumption)
    | (apply aw_cond_kf
       · conv => lhs; whnf
       · assumption)
    | refine k_cut_ret ?_
    | refine k_cut_exit ?_
    | refine k_cut ?_
    | refine aw_seq ?_
    | refine aw_region ?_
    | refine awo_nil ?_
    | refine k_seq ?_
    | refine k_block ?_
    | refine k_scope ?_
    | refine aw_block ?_
    | refine aw_skip ?_
    | refine aw_label ?_
    | refine aw_scope ?_
    | (apply s_pick_t rfl rfl
       · conv => lhs; whnf
       · conv => lhs; whnf
       · first | exact bT1 (by assumption) | exact bT2 (by assumption))
    | (apply s_pick_f rfl rfl
       · conv => lhs; whnf
       · conv => lhs; whnf
       · first | exact bF1 (by assumption) | exact bF2 (by assumption))
    | (apply s_val rfl
       · conv => lhs; whnf
       · conv => lhs; whnf; arg 2; whnf)
    | (apply s_call rfl
       · conv => lhs; whnf
       · conv => lhs; whnf
       · first | exact hx2)
    | (apply s_store rfl rfl rfl
       · conv => lhs; whnf
       · conv => lhs; whnf; arg 1; whnf
       · conv => lhs; whnf; arg 1; whnf
       · exact ⟨by kernel_rfl, by kernel_rfl⟩
       · rfl)
    | (apply s_wanted_val rfl
       · conv => lhs; whnf
       · conv => lhs; whnf
       · first | rfl | assumption
       · conv => lhs; whnf; arg 2; whnf)
    | (apply s_wanted_call rfl
       · conv => lhs; whnf
       · conv => lhs; whnf
       · first | rfl | assumption
       · conv => lhs; whnf
       · first | exact hx2)
    | (apply s_skipU rfl
       · conv => lhs; whnf
       · conv => lhs; whnf
       · first | rfl | assumption)
    | (apply s_dead rfl
       · conv => lhs; whnf
       · rfl
       · rfl)
    | (apply s_guard_valU rfl
       · conv => lhs; whnf
       · conv => lhs; whnf
       · conv => lhs; whnf; arg 2; whnf)
    | (apply s_guard_callU rfl
       · conv => lhs; whnf
       · conv => lhs; whnf
       · conv => lhs; whnf
       · first | exact hx2)
    | (apply s_guard_val rfl
       · conv => lhs; whnf
       · conv => lhs; whnf
       · conv => lhs; whnf; arg 2; whnf)
    | (apply s_guard_call rfl
       · conv => lhs; whnf
       · conv => lhs; whnf
       · conv => lhs; whnf
       · first | exact hx2)
    | (apply aw_cond_t
       · conv => lhs; whnf; arg 1; arg 1; whnf)
    | (apply aw_cond_f
       · conv => lhs; whnf; arg 1; arg 1; whnf)
    | (refine aw_cond (by conv => lhs; whnf) ?_ ?_ <;> intro hb)
    | refine aw_ret ?_
    | refine aw_exit ?_
    | refine k_seq_exit ?_
    | refine k_seq_ret ?_
    | refine k_block_ret ?_
    | refine k_block_hit rfl ?_
    | refine k_block_miss rfl ?_
    | refine k_scope_exit ?_
    | refine k_scope_ret ?_
    | refine k_loop_exit ?_
    | refine k_loop_ret ?_
    | refine k_endB ⟨?_, ?_⟩
    | refine k_endB_ret ⟨?_, ?_⟩
    | exact (rfl : _ = V.tup [])
    | (refine ⟨_, by conv => lhs; whnf; arg 2; whnf, ?_⟩; conv => rhs; whnf)
    | exact trivial
    | intro hg)
    all_goals
      first
        | (have g : decide ((i : Int) < 4) = false := by assumption
           have g := of_decide_eq_false g
           rw [show i = 4 by omega] at hY
           rw [hY]
           exact ⟨rfl, trivial⟩)
        | (have g : decide ((i : Int) < 4) = true := by assumption
           have g := of_decide_eq_true g
           have g4 : i < 4 := by omega
           first
             | (have gh : ((!hexJ (atS s.data.toList Y)) == false) = false := by assumption
                have gh : hexJ (atS s.data.toList Y) = false := by simpa using gh
                have hq : (zQ i).contains (atS s.data.toList Y) = false := by
                  by_cases h2 : i < 2
                  · rw [q1 h2]
                    cases e : (atS s.data.toList Y == 48) with
                    | false => rfl
                    | true =>
                      have e : atS s.data.toList Y = 48 := by simpa using e
                      rw [e] at gh; exact absurd gh (by decide)
                  · rw [q2 h2]; exact gh
                rw [hfail hq g4]
                exact ⟨rfl, trivial⟩)
             | (have gh : ((!hexJ (atS s.data.toList Y)) == false) = true := by assumption
                have gh : hexJ (atS s.data.toList Y) = true := by simpa using gh
                have hne : atS s.data.toList Y ≠ 0 := fun e => by rw [e] at gh; exact absurd gh (by decide)
                have hlt3 := hlt2 hne
                first
                  | exact i64_in2 (by omega)
                  | (have g2 : (decide ((i : Int) < 2) == true) = true := by assumption
                     have g2 := of_decide_eq_true (bq_t g2)
                     have g2 : i < 2 := by omega
                     first
                       | (have g3 : (((atS s.data.toList Y).toNat : Int) != 48) = true := by assumption
                          have hq : (zQ i).contains (atS s.data.toList Y) = false := by
                            rw [q1 g2]
                            exact ne48 g3
                          rw [hfail hq g4]
                          exact ⟨rfl, trivial⟩)
                       | (have g3 : (((atS s.data.toList Y).toNat : Int) != 48) = false := by assumption
                          have hq : (zQ i).contains (atS s.data.toList Y) = true := by
                            rw [q1 g2]
                            exact eq48 g3
                          have e := hgood hq hne
                          exact k_loop_next (j' := j - 1) (by omega) ⟨i + 1, by omega, by rw [e]; exact hYe, by rw [e]; exact hlt3, Sub.live ⟨rfl, rfl, trivial⟩ ⟨by rw [e]; rfl, trivial⟩⟩))
                  | (have g2 : (decide ((i : Int) < 2) == true) = false := by assumption
                     have g2 := of_decide_eq_false (bq_f g2)
                     have g2 : ¬ i < 2 := by omega
                     have hq : (zQ i).contains (atS s.data.toList Y) = true := by rw [q2 g2]; exact gh
                     have e := hgood hq hne
                     exact k_loop_next (j' := j - 1) (by omega) ⟨i + 1, by omega, by rw [e]; exact hYe, by rw [e]; exact hlt3, Sub.live ⟨rfl, rfl, trivial⟩ ⟨by rw [e]; rfl, trivial⟩⟩)))
end Go.Proofs.YtjhjleanihgopaaDoor
namespace Go.Proofs.YtjhjleanihgopaaDoor
open Go.RowKit
attribute [local irreducible] wpList Calls Code.wp AW AWo OpOk seqK blockK scopeK loopK endK endKB AC ACB absLex absLexG Yld YldG Sub
set_option maxRecDepth 100000 in
theorem uqR_ac (s : ByteArray) (a b : Nat) (hs : s.size ≤ 100000) : AC EN5 Tryd.prog 97 [.c (.string (s.extract a b))] (.tup [.c (.string (bs ((unquoteU (midS s.data.toList a b)).getD []))), .c (.int .i64 (uqE (unquoteU (midS s.data.toList a b))))]) := by
  have := unquoteR_ac (s.extract a b) (by rw [ByteArray.size_extract]; omega)
  unfold uqVV at this
  rw [ext_mid] at this
  exact this
noncomputable def HtQ (s : ByteArray) (a : Nat) (y : JS) : Vst 79 :=
  stS 79 [(0, .bx (pn 0) 0), (2, .c (.string ⟨#[]⟩)), (3, .c (.int .i64 a))] [(pn 0, boxQ s y)]
set_option maxRecDepth 100000 in
theorem b_ne {n : Int} (h : n ≠ 0) : (n == 0) = false := by simpa using h
set_option maxRecDepth 100000 in
theorem b_eq {n : Int} (h : n = 0) : (n == 0) = true := by simpa using h
set_option maxRecDepth 100000 in
theorem b_ne' {n : Int} (h : n ≠ 0) : (n != 0) = true := by simpa using h
set_option maxRecDepth 100000 in
theorem b_eq' {n : Int} (h : n = 0) : (n != 0) = false := by simpa using h
set_option maxRecDepth 100000 in
theorem u8_nne {c : UInt8} {n : Nat} (h : (((c.toNat : Int)) != (n : Int)) = true) (hn : n < 256) : c ≠ UInt8.ofNat n := u8_ne2 (by simpa using h) hn
set_option maxRecDepth 100000 in
theorem u8_nne2 {c : UInt8} {n : Nat} (h : (((c.toNat : Int)) != (n : Int)) = false) (hn : n < 256) : c = UInt8.ofNat n := u8_eq (by simpa using h) hn
set_option maxHeartbeats 4000000 in
set_option maxRecDepth 100000 in
theorem textQ_acb (s : ByteArray) (x : JS) (hs : s.size ≤ 100000) (hp : x.p ≤ s.size) (he0 : x.e = 0) : ACB EN5 Tryd.prog 71 [.bx (pn 0) 0] [boxQ s x] (.c (.string (bs (strS s.data.toList x).1))) [boxQ s (strS s.data.toList x).2] := by
  have hls : s.data.toList.length = s.size := rfl
  have hnx := fun x => nextQ_acb s x (by omega)
  have hxx := hnx x
  have ht1 := fun (h : ¬ atS s.data.toList x = 34) => show strS s.data.toList x = ([], failS x x.p 3) from by
    unfold strS
    rw [take_not (fun hh => by rw [has_one] at hh; exact h (by simpa using hh.2.2))]
    exact bodyS_e (fail_e (by decide))
  have ht2 := fun (h : atS s.data.toList x = 34) => show x.p < s.size ∧ strS s.data.toList x = bodyS s.data.toList x.p (s.data.toList.length + 3) (goS x) from by
    have hl : x.p < s.data.toList.length := at_lt (b := 34) (by decide) h
    refine ⟨hl, ?_⟩
    unfold strS
    rw [take_is ⟨he0, hl, by rw [h]; rfl⟩]
  refine acb_enter (fn := Tryd.f71) 79 Tryd.func71 rfl rfl ?_
  intro pas w0 w he hpp
  repeat' (first
    | (apply s_meth (cellsQ s) (fun _ _ => rfl) rfl
       · conv => lhs; whnf
       · conv => lhs; whnf
       · rfl
       · conv => lhs; whnf; arg 1; whnf
       · first | exact eta0 _ _ | exact eta1 _ _ | exact eta2 _ _ | exact eta3 _ _ | exact eta6 _ | exact etaQ0 _ _ | exact etaQ1 _ _ | exact etaQ2 _ _ | exact etaQ3 _ _ | exact etaQ6 _
       · first | exact hxx | exact failQ_acb _ _ _ _
       · exact fun _ => rfl
       · exact fun _ => rfl)
    | (apply s_wanted_meth (cellsQ s) (fun _ _ => rfl) rfl
       · conv => lhs; whnf
       · conv => lhs; whnf
       · first | rfl | assumption
       · conv => lhs; whnf
       · rfl
       · conv => lhs; whnf; arg 1; whnf
       · first | exact eta0 _ _ | exact eta1 _ _ | exact eta2 _ _ | exact eta3 _ _ | exact eta6 _ | exact etaQ0 _ _ | exact etaQ1 _ _ | exact etaQ2 _ _ | exact etaQ3 _ _ | exact etaQ6 _
       · first | exact hxx | exact failQ_acb _ _ _ _
       · exact fun _ => rfl
       · exact fun _ => rfl)
    | (apply s_skip rfl
       · conv => lhs; whnf
       · conv => lhs; whnf
       · first | rfl | assumption)
    | (apply s_guard_meth (cellsQ s) (fun _ _ => rfl) rfl
       · conv => lhs; whnf
       · conv => lhs; whnf
       · conv => lhs; whnf
       · rfl
       · conv => lhs; whnf; arg 1; whnf
       · first | exact eta0 _ _ | exact eta1 _ _ | exact eta2 _ _ | exact eta3 _ _ | exact eta6 _ | exact etaQ0 _ _ | exact etaQ1 _ _ | exact etaQ2 _ _ | exact etaQ3 _ _ | exact etaQ6 _
       · first | exact hxx | exact failQ_acb _ _ _ _
       · exact fun _ => rfl
       · exact fun _ => rfl)
    | refine aw_seq ?_
    | refine aw_region ?_
    | refine awo_nil ?_
    | refine k_seq ?_
    | refine k_block ?_
    | refine k_scope ?_
    | refine aw_block ?_
    | refine aw_skip ?_
    | refine aw_label ?_
    | refine aw_scope ?_
    | (apply s_pick_t rfl rfl
       · conv => lhs; whnf
       · conv => lhs; whnf
       · first | exact bT1 (by assumption) | exact bT2 (by assumption))
    | (apply s_pick_f rfl rfl
       · conv => lhs; whnf
       · conv => lhs; whnf
       · first | exact bF1 (by assumption) | exact bF2 (by assumption))
    | (apply s_val rfl
       · conv => lhs; whnf
       · conv => lhs; whnf; arg 2; whnf)
    | (apply s_call rfl
       · conv => lhs; whnf
       · conv => lhs; whnf
       · first | fail)
    | (apply s_store rfl rfl rfl
       · conv => lhs; whnf
       · conv => lhs; whnf; arg 1; whnf
       · conv => lhs; whnf; arg 1; whnf
       · exact ⟨by kernel_rfl, by kernel_rfl⟩
       · rfl)
    | (apply s_wanted_val rfl
       · conv => lhs; whnf
       · conv => lhs; whnf
       · first | rfl | assumption
       · conv => lhs; whnf; arg 2; whnf)
    | (apply s_wanted_call rfl
       · conv => lhs; whnf
       · conv => lhs; whnf
       · first | rfl | assumption
       · conv => lhs; whnf
       · first | fail)
    | (apply s_skip rfl
       · conv => lhs; whnf
       · conv => lhs; whnf
       · first | rfl | assumption)
    | (apply s_guard_val rfl
       · conv => lhs; whnf
       · conv => lhs; whnf
       · conv => lhs; whnf; arg 2; whnf)
    | (apply s_guard_call rfl
       · conv => lhs; whnf
       · conv => lhs; whnf
       · conv => lhs; whnf
       · first | fail)
    | (apply aw_draw (by kernel_rfl) (by kernel_rfl))
    | apply y_nil
    | (apply y_pick_t rfl rfl
       · conv => lhs; whnf
       · conv => lhs; whnf
       · first | exact bT1 (by assumption) | exact bT2 (by assumption))
    | (apply y_pick_f rfl rfl
       · conv => lhs; whnf
       · conv => lhs; whnf
       · first | exact bF1 (by assumption) | exact bF2 (by assumption))
    | (apply y_val rfl
       · conv => lhs; whnf
       · conv => lhs; whnf; arg 2; whnf)
    | (apply y_call rfl
       · conv => lhs; whnf
       · conv => lhs; whnf
       · first | fail)
    | (apply y_store rfl rfl rfl
       · conv => lhs; whnf
       · rfl
       · rfl
       · conv => lhs; whnf; arg 1; whnf
       · conv => lhs; whnf; arg 1; whnf
       · exact ⟨by kernel_rfl, by kernel_rfl⟩
       · rfl)
    | (apply y_wanted_val rfl
       · conv => lhs; whnf
       · conv => lhs; whnf
       · first | rfl | assumption
       · conv => lhs; whnf; arg 2; whnf)
    | (apply y_wanted_call rfl
       · conv => lhs; whnf
       · conv => lhs; whnf
       · first | rfl | assumption
       · conv => lhs; whnf
       · first | fail)
    | (apply y_skip rfl
       · conv => lhs; whnf
       · conv => lhs; whnf
       · first | rfl | assumption)
    | (apply y_guard_val rfl
       · conv => lhs; whnf
       · conv => lhs; whnf
       · conv => lhs; whnf; arg 2; whnf)
    | (apply y_guard_call rfl
       · conv => lhs; whnf
       · conv => lhs; whnf
       · conv => lhs; whnf
       · first | fail)
    | exact apartB_none
    | exact apartB_nil
    | exact all_nil
    | (show List.all _ _ = true; rfl)
    | (show apartB _ _ = true; rfl)
    | exact ([] : List Nat)
    | exact (1000000 : Nat)
    | (apply aw_cond_t
       · conv => lhs; whnf; arg 1; arg 1; whnf)
    | (apply aw_cond_f
       · conv => lhs; whnf; arg 1; arg 1; whnf)
    | (refine aw_cond (by conv => lhs; whnf) ?_ ?_ <;> intro hb)
    | refine aw_ret ?_
    | refine aw_exit ?_
    | refine k_seq_exit ?_
    | refine k_seq_ret ?_
    | refine k_block_ret ?_
    | refine k_block_hit rfl ?_
    | refine k_block_miss rfl ?_
    | refine k_scope_exit ?_
    | refine k_scope_ret ?_
    | refine k_loop_exit ?_
    | refine k_loop_ret ?_
    | refine k_endB ⟨?_, ?_⟩
    | refine k_endB_ret ⟨?_, ?_⟩
    | exact (rfl : _ = V.tup [])
    | (refine ⟨_, by conv => lhs; whnf; arg 2; whnf, ?_⟩; conv => rhs; whnf)
    | exact trivial
    | intro hg)
  · have g := u8_nne (n := 34) (by assumption) (by decide)
    rw [ht1 g]; rfl
  · have g := u8_nne (n := 34) (by assumption) (by decide)
    rw [ht1 g]; exact ⟨rfl, trivial⟩
  rotate_left 1
  · have g := u8_nne2 (n := 34) (by assumption) (by decide)
    have hl := (ht2 g).1
    exact i64_in2 (by omega)
  have g := u8_nne2 (n := 34) (by assumption) (by decide)
  obtain ⟨hl, hS⟩ := ht2 g
  rw [hS]
  clear ht1 ht2 hS hxx
  refine aw_loop (fun j st => ∃ y, bodyS s.data.toList x.p j y = bodyS s.data.toList x.p (s.data.toList.length + 3) (goS x) ∧ (y.e = 0 → s.size - y.p + 1 ≤ j) ∧ x.p ≤ y.p ∧ y.p ≤ s.size ∧ Sub ⟨Tryd.prog, pas, w0, w, EN5, he, hpp⟩ st (HtQ s x.p y)) (s.data.toList.length + 3) ⟨goS x, rfl, fun _ => by show s.size - _ + 1 ≤ s.size + 3; omega, by show x.p ≤ x.p + 1; omega, hl, ?_⟩ ?_
  · exact Sub.live ⟨rfl, rfl, rfl, trivial⟩ ⟨rfl, trivial⟩
  · generalize bodyS s.data.toList x.p (s.data.toList.length + 3) (goS x) = RR
    rintro j st ⟨y, hR, hj, hlo, hhi, hs2⟩
    refine aw_sub hs2 ?_
    clear hs2
    by_cases g0 : y.e = 0
    rotate_left 1
    · have f1 := b_ne g0
      have f2 := b_ne' g0
      rw [bodyS_e g0] at hR
      subst hR
      repeat' (first
    | (apply s_meth (cellsQ s) (fun _ _ => rfl) rfl
       · conv => lhs; whnf
       · conv => lhs; whnf
       · rfl
       · conv => lhs; whnf; arg 1; whnf
       · first | exact eta0 _ _ | exact eta1 _ _ | exact eta2 _ _ | exact eta3 _ _ | exact eta6 _ | exact etaQ0 _ _ | exact etaQ1 _ _ | exact etaQ2 _ _ | exact etaQ3 _ _ | exact etaQ6 _
       · first | 
       · exact fun _ => rfl
       · exact fun _ => rfl)
    | (apply s_wanted_meth (cellsQ s) (fun _ _ => rfl) rfl
       · conv => lhs; whnf
       · conv => lhs; whnf
       · first | rfl | assumption
       · conv => lhs; whnf
       · rfl
       · conv => lhs; whnf; arg 1; whnf
       · first | exact eta0 _ _ | exact eta1 _ _ | exact eta2 _ _ | exact eta3 _ _ | exact eta6 _ | exact etaQ0 _ _ | exact etaQ1 _ _ | exact etaQ2 _ _ | exact etaQ3 _ _ | exact etaQ6 _
       · first | 
       · exact fun _ => rfl
       · exact fun _ => rfl)
    | (apply s_skip rfl
       · conv => lhs; whnf
       · conv => lhs; whnf
       · first | rfl | assumption)
    | (apply s_guard_meth (cellsQ s) (fun _ _ => rfl) rfl
       · conv => lhs; whnf
       · conv => lhs; whnf
       · conv => lhs; whnf
       · rfl
       · conv => lhs; whnf; arg 1; whnf
       · first | exact eta0 _ _ | exact eta1 _ _ | exact eta2 _ _ | exact eta3 _ _ | exact eta6 _ | exact etaQ0 _ _ | exact etaQ1 _ _ | exact etaQ2 _ _ | exact etaQ3 _ _ | exact etaQ6 _
       · first | 
       · exact fun _ => rfl
       · exact fun _ => rfl)
    | (apply aw_cond_kt
       · conv => lhs; whnf
       · assumption)
    | (apply aw_cond_kf
       · conv => lhs; whnf
       · assumption)
    | refine k_cut_ret ?_
    | refine k_cut_exit ?_
    | refine k_cut ?_
    | refine aw_seq ?_
    | refine aw_region ?_
    | refine awo_nil ?_
    | refine k_seq ?_
    | refine k_block ?_
    | refine k_scope ?_
    | refine aw_block ?_
    | refine aw_skip ?_
    | refine aw_label ?_
    | refine aw_scope ?_
    | (apply s_pick_t rfl rfl
       · conv => lhs; whnf
       · conv => lhs; whnf
       · first | exact bT1 (by assumption) | exact bT2 (by assumption))
    | (apply s_pick_f rfl rfl
       · conv => lhs; whnf
       · conv => lhs; whnf
       · first | exact bF1 (by assumption) | exact bF2 (by assumption))
    | (apply s_val rfl
       · conv => lhs; whnf
       · conv => lhs; whnf; arg 2; whnf)
    | (apply s_call rfl
       · conv => lhs; whnf
       · conv => lhs; whnf
       · first | fail)
    | (apply s_store rfl rfl rfl
       · conv => lhs; whnf
       · conv => lhs; whnf; arg 1; whnf
       · conv => lhs; whnf; arg 1; whnf
       · exact ⟨by kernel_rfl, by kernel_rfl⟩
       · rfl)
    | (apply s_wanted_val rfl
       · conv => lhs; whnf
       · conv => lhs; whnf
       · first | rfl | assumption
       · conv => lhs; whnf; arg 2; whnf)
    | (apply s_wanted_call rfl
       · conv => lhs; whnf
       · conv => lhs; whnf
       · first | rfl | assumption
       · conv => lhs; whnf
       · first | fail)
    | (apply s_skip rfl
       · conv => lhs; whnf
       · conv => lhs; whnf
       · first | rfl | assumption)
    | (apply s_guard_val rfl
       · conv => lhs; whnf
       · conv => lhs; whnf
       · conv => lhs; whnf; arg 2; whnf)
    | (apply s_guard_call rfl
       · conv => lhs; whnf
       · conv => lhs; whnf
       · conv => lhs; whnf
       · first | fail)
    | (apply aw_draw (by kernel_rfl) (by kernel_rfl))
    | apply y_nil
    | (apply y_pick_t rfl rfl
       · conv => lhs; whnf
       · conv => lhs; whnf
       · first | exact bT1 (by assumption) | exact bT2 (by assumption))
    | (apply y_pick_f rfl rfl
       · conv => lhs; whnf
       · conv => lhs; whnf
       · first | exact bF1 (by assumption) | exact bF2 (by assumption))
    | (apply y_val rfl
       · conv => lhs; whnf
       · conv => lhs; whnf; arg 2; whnf)
    | (apply y_call rfl
       · conv => lhs; whnf
       · conv => lhs; whnf
       · first | fail)
    | (apply y_store rfl rfl rfl
       · conv => lhs; whnf
       · rfl
       · rfl
       · conv => lhs; whnf; arg 1; whnf
       · conv => lhs; whnf; arg 1; whnf
       · exact ⟨by kernel_rfl, by kernel_rfl⟩
       · rfl)
    | (apply y_wanted_val rfl
       · conv => lhs; whnf
       · conv => lhs; whnf
       · first | rfl | assumption
       · conv => lhs; whnf; arg 2; whnf)
    | (apply y_wanted_call rfl
       · conv => lhs; whnf
       · conv => lhs; whnf
       · first | rfl | assumption
       · conv => lhs; whnf
       · first | fail)
    | (apply y_skip rfl
       · conv => lhs; whnf
       · conv => lhs; whnf
       · first | rfl | assumption)
    | (apply y_guard_val rfl
       · conv => lhs; whnf
       · conv => lhs; whnf
       · conv => lhs; whnf; arg 2; whnf)
    | (apply y_guard_call rfl
       · conv => lhs; whnf
       · conv => lhs; whnf
       · conv => lhs; whnf
       · first | fail)
    | exact apartB_none
    | exact apartB_nil
    | exact all_nil
    | (show List.all _ _ = true; rfl)
    | (show apartB _ _ = true; rfl)
    | exact ([] : List Nat)
    | exact (1000000 : Nat)
    | (apply aw_cond_t
       · conv => lhs; whnf; arg 1; arg 1; whnf)
    | (apply aw_cond_f
       · conv => lhs; whnf; arg 1; arg 1; whnf)
    | (refine aw_cond (by conv => lhs; whnf) ?_ ?_ <;> intro hb)
    | refine aw_ret ?_
    | refine aw_exit ?_
    | refine k_seq_exit ?_
    | refine k_seq_ret ?_
    | refine k_block_ret ?_
    | refine k_block_hit rfl ?_
    | refine k_block_miss rfl ?_
    | refine k_scope_exit ?_
    | refine k_scope_ret ?_
    | refine k_loop_exit ?_
    | refine k_loop_ret ?_
    | refine k_endB ⟨?_, ?_⟩
    | refine k_endB_ret ⟨?_, ?_⟩
    | exact (rfl : _ = V.tup [])
    | (refine ⟨_, by conv => lhs; whnf; arg 2; whnf, ?_⟩; conv => rhs; whnf)
    | exact trivial
    | intro hg)
      all_goals first | rfl | exact ⟨rfl, trivial⟩
    · have f1 := b_eq g0
      have f2 := b_eq' g0
      have hj1 := hj g0
      obtain ⟨j, rfl⟩ : ∃ i, j = i + 1 := ⟨j - 1, by omega⟩
      have hy := hnx y
      have hes := fun (h : (((atS s.data.toList y).toNat : Int) == 92) = true) => escQ_acb s y (by omega) (at_lt (S := s.data.toList) (b := 92) (by decide) (u8_eq (n := 92) h (by decide))) g0
      have huq := uqR_ac s x.p (y.p + 1) hs
      repeat' (first
    | (apply s_meth (cellsQ s) (fun _ _ => rfl) rfl
       · conv => lhs; whnf
       · conv => lhs; whnf
       · rfl
       · conv => lhs; whnf; arg 1; whnf
       · first | exact eta0 _ _ | exact eta1 _ _ | exact eta2 _ _ | exact eta3 _ _ | exact eta6 _ | exact etaQ0 _ _ | exact etaQ1 _ _ | exact etaQ2 _ _ | exact etaQ3 _ _ | exact etaQ6 _
       · first | exact hy | exact failQ_acb _ _ _ _ | exact hes (by assumption)
       · exact fun _ => rfl
       · exact fun _ => rfl)
    | (apply s_wanted_meth (cellsQ s) (fun _ _ => rfl) rfl
       · conv => lhs; whnf
       · conv => lhs; whnf
       · first | rfl | assumption
       · conv => lhs; whnf
       · rfl
       · conv => lhs; whnf; arg 1; whnf
       · first | exact eta0 _ _ | exact eta1 _ _ | exact eta2 _ _ | exact eta3 _ _ | exact eta6 _ | exact etaQ0 _ _ | exact etaQ1 _ _ | exact etaQ2 _ _ | exact etaQ3 _ _ | exact etaQ6 _
       · first | exact hy | exact failQ_acb _ _ _ _ | exact hes (by assumption)
       · exact fun _ => rfl
       · exact fun _ => rfl)
    | (apply s_skipU rfl
       · conv => lhs; whnf
       · conv => lhs; whnf
       · first | rfl | assumption)
    | (apply s_dead rfl
       · conv => lhs; whnf
       · rfl
       · rfl)
    | (apply s_guard_meth (cellsQ s) (fun _ _ => rfl) rfl
       · conv => lhs; whnf
       · conv => lhs; whnf
       · conv => lhs; whnf
       · rfl
       · conv => lhs; whnf; arg 1; whnf
       · first | exact eta0 _ _ | exact eta1 _ _ | exact eta2 _ _ | exact eta3 _ _ | exact eta6 _ | exact etaQ0 _ _ | exact etaQ1 _ _ | exact etaQ2 _ _ | exact etaQ3 _ _ | exact etaQ6 _
       · first | exact hy | exact failQ_acb _ _ _ _ | exact hes (by assumption)
       · exact fun _ => rfl
       · exact fun _ => rfl)
    | (apply aw_cond_kt
       · conv => lhs; whnf
       · assumption)
    | (apply aw_cond_kf
       · conv => lhs; whnf
       · assumption)
    | refine k_cut_ret ?_
    | refine k_cut_exit ?_
    | refine k_cut ?_
    | refine aw_seq ?_
    | refine aw_region ?_
    | refine awo_nil ?_
    | refine k_seq ?_
    | refine k_block ?_
    | refine k_scope ?_
    | refine aw_block ?_
    | refine aw_skip ?_
    | refine aw_label ?_
    | refine aw_scope ?_
    | (apply s_pick_t rfl rfl
       · conv => lhs; whnf
       · conv => lhs; whnf
       · first | exact bT1 (by assumption) | exact bT2 (by assumption))
    | (apply s_pick_f rfl rfl
       · conv => lhs; whnf
       · conv => lhs; whnf
       · first | exact bF1 (by assumption) | exact bF2 (by assumption))
    | (apply s_val rfl
       · conv => lhs; whnf
       · conv => lhs; whnf; arg 2; whnf)
    | (apply s_call rfl
       · conv => lhs; whnf
       · conv => lhs; whnf
       · first | exact huq)
    | (apply s_store rfl rfl rfl
       · conv => lhs; whnf
       · conv => lhs; whnf; arg 1; whnf
       · conv => lhs; whnf; arg 1; whnf
       · exact ⟨by kernel_rfl, by kernel_rfl⟩
       · rfl)
    | (apply s_wanted_val rfl
       · conv => lhs; whnf
       · conv => lhs; whnf
       · first | rfl | assumption
       · conv => lhs; whnf; arg 2; whnf)
    | (apply s_wanted_call rfl
       · conv => lhs; whnf
       · conv => lhs; whnf
       · first | rfl | assumption
       · conv => lhs; whnf
       · first | exact huq)
    | (apply s_skipU rfl
       · conv => lhs; whnf
       · conv => lhs; whnf
       · first | rfl | assumption)
    | (apply s_dead rfl
       · conv => lhs; whnf
       · rfl
       · rfl)
    | (apply s_guard_valU rfl
       · conv => lhs; whnf
       · conv => lhs; whnf
       · conv => lhs; whnf; arg 2; whnf)
    | (apply s_guard_callU rfl
       · conv => lhs; whnf
       · conv => lhs; whnf
       · conv => lhs; whnf
       · first | exact huq)
    | (apply s_guard_val rfl
       · conv => lhs; whnf
       · conv => lhs; whnf
       · conv => lhs; whnf; arg 2; whnf)
    | (apply s_guard_call rfl
       · conv => lhs; whnf
       · conv => lhs; whnf
       · conv => lhs; whnf
       · first | exact huq)
    | (apply aw_draw (by kernel_rfl) (by kernel_rfl))
    | apply y_nil
    | (apply y_pick_t rfl rfl
       · conv => lhs; whnf
       · conv => lhs; whnf
       · first | exact bT1 (by assumption) | exact bT2 (by assumption))
    | (apply y_pick_f rfl rfl
       · conv => lhs; whnf
       · conv => lhs; whnf
       · first | exact bF1 (by assumption) | exact bF2 (by assumption))
    | (apply y_val rfl
       · conv => lhs; whnf
       · conv => lhs; whnf; arg 2; whnf)
    | (apply y_call rfl
       · conv => lhs; whnf
       · conv => lhs; whnf
       · first | exact huq)
    | (apply y_store rfl rfl rfl
       · conv => lhs; whnf
       · rfl
       · rfl
       · conv => lhs; whnf; arg 1; whnf
       · conv => lhs; whnf; arg 1; whnf
       · exact ⟨by kernel_rfl, by kernel_rfl⟩
       · rfl)
    | (apply y_wanted_val rfl
       · conv => lhs; whnf
       · conv => lhs; whnf
       · first | rfl | assumption
       · conv => lhs; whnf; arg 2; whnf)
    | (apply y_wanted_call rfl
       · conv => lhs; whnf
       · conv => lhs; whnf
       · first | rfl | assumption
       · conv => lhs; whnf
       · first | exact huq)
    | (apply y_skip rfl
       · conv => lhs; whnf
       · conv => lhs; whnf
       · first | rfl | assumption)
    | (apply y_guard_val rfl
       · conv => lhs; whnf
       · conv => lhs; whnf
       · conv => lhs; whnf; arg 2; whnf)
    | (apply y_guard_call rfl
       · conv => lhs; whnf
       · conv => lhs; whnf
       · conv => lhs; whnf
       · first | exact huq)
    | exact apartB_none
    | exact apartB_nil
    | exact all_nil
    | (show List.all _ _ = true; rfl)
    | (show apartB _ _ = true; rfl)
    | exact ([] : List Nat)
    | exact (1000000 : Nat)
    | (apply aw_cond_t
       · conv => lhs; whnf; arg 1; arg 1; whnf)
    | (apply aw_cond_f
       · conv => lhs; whnf; arg 1; arg 1; whnf)
    | (refine aw_cond (by conv => lhs; whnf) ?_ ?_ <;> intro hb)
    | refine aw_ret ?_
    | refine aw_exit ?_
    | refine k_seq_exit ?_
    | refine k_seq_ret ?_
    | refine k_block_ret ?_
    | refine k_block_hit rfl ?_
    | refine k_block_miss rfl ?_
    | refine k_scope_exit ?_
    | refine k_scope_ret ?_
    | refine k_loop_exit ?_
    | refine k_loop_ret ?_
    | refine k_endB ⟨?_, ?_⟩
    | refine k_endB_ret ⟨?_, ?_⟩
    | exact (rfl : _ = V.tup [])
    | (refine ⟨_, by conv => lhs; whnf; arg 2; whnf, ?_⟩; conv => rhs; whnf)
    | exact trivial
    | intro hg)
      all_goals try (show Tryd.prog.underlying 9 = _; kernel_rfl)
      all_goals
        have bad : (y.p = s.data.toList.length ∨ (atS s.data.toList y).toNat < 32 ∨ 126 < (atS s.data.toList y).toNat) → RR = ([], failS y y.p 3) := fun hb => by
          rw [← hR, body_bad g0 hb]; exact bodyS_e (fail_e (by decide))
      all_goals
        first
          | (have g2 : (decide (((atS s.data.toList y).toNat : Int) < 32) == false) = false := by assumption
             have g2 : ((atS s.data.toList y).toNat : Int) < 32 := by simpa using g2
             rw [bad (.inr (.inl (by omega)))] <;> first | rfl | exact ⟨rfl, trivial⟩)
          | (have g2 : (decide (((atS s.data.toList y).toNat : Int) < 32) == false) = true := by assumption
             have g2 : ¬ ((atS s.data.toList y).toNat : Int) < 32 := by simpa using g2
             first
               | (have g3 : decide (((atS s.data.toList y).toNat : Int) > 126) = true := by assumption
                  have g3 := of_decide_eq_true g3
                  rw [bad (.inr (.inr (by omega)))] <;> first | rfl | exact ⟨rfl, trivial⟩)
               | (have g3 : decide (((atS s.data.toList y).toNat : Int) > 126) = false := by assumption
                  have g3 := of_decide_eq_false g3
                  have hlt : y.p < s.data.toList.length := at_lt (b := atS s.data.toList y) (fun e => by rw [e] at g2; exact g2 (by decide)) rfl
                  have nb : ¬ (y.p = s.data.toList.length ∨ (atS s.data.toList y).toNat < 32 ∨ 126 < (atS s.data.toList y).toNat) := fun hh => by
                    rcases hh with hh | hh | hh
                    · omega
                    · omega
                    · omega
                  have hg : Mv s.data.toList y (goS y) := mv_go hlt
                  have go : ∀ z : JS, Mv s.data.toList (goS y) z → bodyS s.data.toList x.p j z = RR → bodyS s.data.toList x.p j z = RR ∧ (z.e = 0 → s.size - z.p + 1 ≤ j) ∧ x.p ≤ z.p ∧ z.p ≤ s.size := fun z hz e => by
                    have h1 : y.p + 1 ≤ z.p := hz.lo
                    have h2 : z.p ≤ s.size := hz.hi
                    exact ⟨e, fun _ => by omega, by omega, h2⟩
                  first
                    | exact i64_in2 (by omega)
                    | exact ⟨by kernel_rfl, by omega, by omega, by omega⟩
                    | (have g5 : (((atS s.data.toList y).toNat : Int) == 92) = true := by assumption
                       have g5 := u8_eq (n := 92) g5 (by decide)
                       have g4 : ¬ atS s.data.toList y = 34 := fun e => by rw [e] at g5; exact absurd g5 (by decide)
                       obtain ⟨b1, b2, b3, b4⟩ := go (escS s.data.toList (goS y)) (mv_esc hg.hi) (by rw [← body_back g0 nb g4 g5]; exact hR)
                       exact k_loop_next (Nat.lt_succ_self j) ⟨_, b1, b2, b3, b4, Sub.live ⟨rfl, rfl, rfl, trivial⟩ ⟨rfl, trivial⟩⟩)
                    | (have g5 : (((atS s.data.toList y).toNat : Int) == 92) = false := by assumption
                       have g5 := u8_ne2 (n := 92) g5 (by decide)
                       first
                         | (have g4 : (((atS s.data.toList y).toNat : Int) == 34) = true := by assumption
                            have g4 := u8_eq (n := 34) g4 (by decide)
                            rw [← hR, body_end g0 nb g4] <;> first | rfl | exact ⟨rfl, trivial⟩)
                         | (have g4 : (((atS s.data.toList y).toNat : Int) == 34) = false := by assumption
                            have g4 := u8_ne2 (n := 34) g4 (by decide)
                            obtain ⟨b1, b2, b3, b4⟩ := go (goS y) (Mv.refl hg.hi) (by rw [← body_go g0 nb g4 g5]; exact hR)
                            exact k_loop_next (Nat.lt_succ_self j) ⟨_, b1, b2, b3, b4, Sub.live ⟨rfl, rfl, rfl, trivial⟩ ⟨rfl, trivial⟩⟩))))
end Go.Proofs.YtjhjleanihgopaaDoor
namespace Go.Proofs.YtjhjleanihgopaaDoor
open Go.RowKit
attribute [local irreducible] wpList Calls Code.wp AW AWo OpOk seqK blockK scopeK loopK endK endKB AC ACB absLex absLexG Yld YldG Sub
/-- a list as the reference builds it -/
noncomputable def itV (S : List UInt8) (f : JS → D × JS) : Nat → JS → List D → V
  | 0, _, _ => .agg (leafV (vD 0 0 [] [] []))
  | j + 1, x, l =>
    if x.e ≠ 0 then .agg (leafV (vD 0 0 [] [] [])) else
    if (spaceS S (f x).2).e = 0 ∧ atS S (spaceS S (f x).2) = 93 then .agg [.c (.int .i64 5), .c (.int .i64 0), .c (.string { data := #[] }), .sl 39 (l ++ [(f x).1]), nilV] else itV S f j (wordS S [44] (spaceS S (f x).2)) (l ++ [(f x).1])
set_option maxRecDepth 100000 in
theorem itV_le (S : List UInt8) (f : JS → D × JS) : ∀ (j : Nat) (x : JS) (l : List D), VLe (itV S f j x l) (.agg (cellsV Tryd.prog 12 39 (itemsR S f j x l).1))
  | 0, _, _ => leafV_le 0 0 []
  | j + 1, x, l => by
    unfold itV itemsR
    dsimp only
    split
    · exact leafV_le 0 0 []
    split
    · exact .agg (.cons (.refl _) (.cons (.refl _) (.cons (.refl _) (.cons (.refl _) (.cons (.nil _) .nil)))))
    · exact itV_le S f j _ _
set_option maxRecDepth 100000 in
theorem itQ_e {S : List UInt8} {f : JS → D × JS} {j : Nat} {x : JS} {l : List D} (h : x.e ≠ 0) : itV S f j x l = .agg (leafV (vD 0 0 [] [] [])) ∧ (itemsR S f j x l).2 = x := by
  cases j with
  | zero => exact ⟨rfl, rfl⟩
  | succ j => unfold itV itemsR; rw [if_pos h, if_pos h]; exact ⟨rfl, rfl⟩
set_option maxRecDepth 100000 in
theorem itQ_end {S : List UInt8} {f : JS → D × JS} {j : Nat} {x : JS} {l : List D} (h : x.e = 0) (h2 : (spaceS S (f x).2).e = 0 ∧ atS S (spaceS S (f x).2) = 93) : itV S f (j + 1) x l = .agg [.c (.int .i64 5), .c (.int .i64 0), .c (.string { data := #[] }), .sl 39 (l ++ [(f x).1]), nilV] ∧ (itemsR S f (j + 1) x l).2 = goS (spaceS S (f x).2) := by
  have n0 : ¬ x.e ≠ 0 := fun hh => hh h
  rw [itV, itemsR, if_neg n0, if_neg n0]; dsimp only; rw [if_pos h2, if_pos h2]; exact ⟨rfl, rfl⟩
set_option maxRecDepth 100000 in
theorem itQ_go {S : List UInt8} {f : JS → D × JS} {j : Nat} {x : JS} {l : List D} (h : x.e = 0) (h2 : ¬ ((spaceS S (f x).2).e = 0 ∧ atS S (spaceS S (f x).2) = 93)) : itV S f (j + 1) x l = itV S f j (wordS S [44] (spaceS S (f x).2)) (l ++ [(f x).1]) ∧ (itemsR S f (j + 1) x l).2 = (itemsR S f j (wordS S [44] (spaceS S (f x).2)) (l ++ [(f x).1])).2 := by
  have n0 : ¬ x.e ≠ 0 := fun hh => hh h
  rw [itV, itemsR, if_neg n0, if_neg n0]; dsimp only; rw [if_neg h2, if_neg h2]; exact ⟨rfl, rfl⟩
noncomputable def HlQ (s : ByteArray) (lv : Nat) (y : JS) (l : List D) : Vst 66 :=
  stS 66 [(0, .bx (pn 0) 0), (1, .c (.int .i64 lv)), (4, .bx 4 0), (5, .bx 5 0)]
    [(pn 0, boxQ s y), (4, .box 39 zeroCv), (5, .box 39 [.c (.int .i64 5), .c (.int .i64 0), .c (.string { data := #[] }), .own 41 39 l, nilV]), (41, .tok 39 l.length)]
noncomputable def lisV (S : List UInt8) (f : JS → D × JS) (x : JS) : V :=
  if atS S (spaceS S (goS x)) = 93 then .agg (leafV (vD 5 0 [] [] [])) else itV S f (S.length + 2) (spaceS S (goS x)) []
set_option maxRecDepth 100000 in
theorem lisV_le (S : List UInt8) (f : JS → D × JS) (x : JS) : VLe (lisV S f x) (.agg (cellsV Tryd.prog 12 39 (listR S f x).1)) := by
  unfold lisV listR
  dsimp only
  split
  · exact leafV_le 5 0 []
  · exact itV_le _ _ _ _ _
set_option maxHeartbeats 4000000 in
set_option maxRecDepth 100000 in
theorem listQ_raw (s : ByteArray) (f : JS → D × JS) (lv : Nat) (x : JS) (hlv : lv ≤ 1000) (hs : s.size ≤ 100000) (hp : x.p < s.size) (hm : x.m ≤ 4096) (hf : FOk s.data.toList f)
    (hc : ∀ y, y.p ≤ s.size → y.m ≤ 4096 → y.e = 0 → ACB EN5 Tryd.prog 41 [.bx (pn 0) 0, .c (.int .i64 ((lv : Int) + 1))] [boxQ s y] (.agg (cellsV Tryd.prog 12 39 (f y).1)) [boxQ s (f y).2]) :
    ACB EN5 Tryd.prog 72 [.bx (pn 0) 0, .c (.int .i64 (lv : Int))] [boxQ s x] (lisV s.data.toList f x) [boxQ s (listR s.data.toList f x).2] := by
  have hlen : s.data.toList.length = s.size := rfl
  have g1 := mv_go (S := s.data.toList) hp
  have g2 := g1.trans (mv_space g1.hi)
  have h1 := skipQ_acb s (goS x) (by omega) g1.hi
  have hpk := nextQ_acb s (spaceS s.data.toList (goS x)) (by omega)
  have hO := (g2.mc hm).oc
  have hlt : atS s.data.toList (spaceS s.data.toList (goS x)) = 93 → (spaceS s.data.toList (goS x)).p < s.size := fun h => at_lt (S := s.data.toList) (by decide) h
  unfold lisV listR
  dsimp only
  generalize spaceS s.data.toList (goS x) = y0 at h1 hpk hO hlt
  refine acb_enter (fn := Tryd.f72) 66 Tryd.func72 rfl rfl ?_
  intro pas w0 w he hpp
  repeat' (first
    | (apply s_meth (cellsQ s) (fun _ _ => rfl) rfl
       · conv => lhs; whnf
       · conv => lhs; whnf
       · rfl
       · conv => lhs; whnf; arg 1; whnf
       · first | exact eta0 _ _ | exact eta1 _ _ | exact eta2 _ _ | exact eta3 _ _ | exact eta6 _ | exact etaQ0 _ _ | exact etaQ1 _ _ | exact etaQ2 _ _ | exact etaQ3 _ _ | exact etaQ6 _
       · first | exact h1 | exact hpk
       · exact fun _ => rfl
       · exact fun _ => rfl)
    | (apply s_wanted_meth (cellsQ s) (fun _ _ => rfl) rfl
       · conv => lhs; whnf
       · conv => lhs; whnf
       · first | rfl | assumption
       · conv => lhs; whnf
       · rfl
       · conv => lhs; whnf; arg 1; whnf
       · first | exact eta0 _ _ | exact eta1 _ _ | exact eta2 _ _ | exact eta3 _ _ | exact eta6 _ | exact etaQ0 _ _ | exact etaQ1 _ _ | exact etaQ2 _ _ | exact etaQ3 _ _ | exact etaQ6 _
       · first | exact h1 | exact hpk
       · exact fun _ => rfl
       · exact fun _ => rfl)
    | (apply s_skip rfl
       · conv => lhs; whnf
       · conv => lhs; whnf
       · first | rfl | assumption)
    | (apply s_guard_meth (cellsQ s) (fun _ _ => rfl) rfl
       · conv => lhs; whnf
       · conv => lhs; whnf
       · conv => lhs; whnf
       · rfl
       · conv => lhs; whnf; arg 1; whnf
       · first | exact eta0 _ _ | exact eta1 _ _ | exact eta2 _ _ | exact eta3 _ _ | exact eta6 _ | exact etaQ0 _ _ | exact etaQ1 _ _ | exact etaQ2 _ _ | exact etaQ3 _ _ | exact etaQ6 _
       · first | exact h1 | exact hpk
       · exact fun _ => rfl
       · exact fun _ => rfl)
    | refine aw_seq ?_
    | refine aw_region ?_
    | refine awo_nil ?_
    | refine k_seq ?_
    | refine k_block ?_
    | refine k_scope ?_
    | refine aw_block ?_
    | refine aw_skip ?_
    | refine aw_label ?_
    | refine aw_scope ?_
    | (apply s_pick_t rfl rfl
       · conv => lhs; whnf
       · conv => lhs; whnf
       · first | exact bT1 (by assumption) | exact bT2 (by assumption))
    | (apply s_pick_f rfl rfl
       · conv => lhs; whnf
       · conv => lhs; whnf
       · first | exact bF1 (by assumption) | exact bF2 (by assumption))
    | (apply s_val rfl
       · conv => lhs; whnf
       · conv => lhs; whnf; arg 2; whnf)
    | (apply s_call rfl
       · conv => lhs; whnf
       · conv => lhs; whnf
       · first | fail)
    | (apply s_alloc rfl rfl rfl rfl
       · conv => lhs; whnf; arg 1; whnf
       · rfl)
    | (apply s_store rfl rfl rfl
       · conv => lhs; whnf
       · conv => lhs; whnf; arg 1; whnf
       · conv => lhs; whnf; arg 1; whnf
       · exact ⟨by kernel_rfl, by kernel_rfl⟩
       · rfl)
    | (apply s_app rfl rfl
       · conv => lhs; whnf
       · first | (conv => lhs; whnf; arg 1; whnf)
       · first | exact fun _ => rfl | (intro _; kernel_rfl)
       · conv => lhs; whnf
       · conv => lhs; whnf; arg 1; whnf
       · conv => lhs; whnf)
    | (apply s_app_nil rfl rfl rfl rfl
       · first | (conv => lhs; whnf; arg 1; whnf)
       · first | exact fun _ => rfl | (intro _; kernel_rfl)
       · conv => lhs; whnf
       · conv => lhs; whnf)
    | (apply s_lit0 rfl rfl
       · conv => lhs; whnf
       · first | (conv => lhs; whnf; arg 1; whnf))
    | (apply s_lit1 rfl rfl
       · conv => lhs; whnf
       · first | (conv => lhs; whnf; arg 1; whnf)
       · conv => lhs; whnf; arg 1; whnf
       · rfl
       · rfl)
    | (apply s_onlit rfl rfl
       · conv => lhs; whnf
       · first | (conv => lhs; whnf; arg 1; whnf)
       · first | exact fun _ => rfl | (intro _; kernel_rfl)
       · conv => lhs; whnf
       · conv => lhs; whnf)
    | (apply s_wanted_val rfl
       · conv => lhs; whnf
       · conv => lhs; whnf
       · first | rfl | assumption
       · conv => lhs; whnf; arg 2; whnf)
    | (apply s_wanted_call rfl
       · conv => lhs; whnf
       · conv => lhs; whnf
       · first | rfl | assumption
       · conv => lhs; whnf
       · first | fail)
    | (apply s_skip rfl
       · conv => lhs; whnf
       · conv => lhs; whnf
       · first | rfl | assumption)
    | (apply s_guard_val rfl
       · conv => lhs; whnf
       · conv => lhs; whnf
       · conv => lhs; whnf; arg 2; whnf)
    | (apply s_guard_call rfl
       · conv => lhs; whnf
       · conv => lhs; whnf
       · conv => lhs; whnf
       · first | fail)
    | (apply aw_cond_t
       · conv => lhs; whnf; arg 1; arg 1; whnf)
    | (apply aw_cond_f
       · conv => lhs; whnf; arg 1; arg 1; whnf)
    | (refine aw_cond (by conv => lhs; whnf) ?_ ?_ <;> intro hb)
    | refine aw_ret ?_
    | refine aw_exit ?_
    | refine k_seq_exit ?_
    | refine k_seq_ret ?_
    | refine k_block_ret ?_
    | refine k_block_hit rfl ?_
    | refine k_block_miss rfl ?_
    | refine k_scope_exit ?_
    | refine k_scope_ret ?_
    | refine k_loop_exit ?_
    | refine k_loop_ret ?_
    | refine k_endB ⟨?_, ?_⟩
    | refine k_endB_ret ⟨?_, ?_⟩
    | exact (rfl : _ = V.tup [])
    | (refine ⟨_, by conv => lhs; whnf; arg 2; whnf, ?_⟩; conv => rhs; whnf)
    | exact trivial
    | intro hg)
  · have h : atS s.data.toList y0 = 93 := u8_eq (n := 93) (by assumption) (by decide)
    rw [if_pos h]; rfl
  · have h : atS s.data.toList y0 = 93 := u8_eq (n := 93) (by assumption) (by decide)
    rw [if_pos h]; exact ⟨rfl, trivial⟩
  · have h : atS s.data.toList y0 = 93 := u8_eq (n := 93) (by assumption) (by decide)
    have := hlt h
    exact i64_in2 (by omega)
  · have hn : ¬ atS s.data.toList y0 = 93 := u8_ne2 (n := 93) (by assumption) (by decide)
    rw [if_neg hn, if_neg hn]
    generalize hR : itV s.data.toList f (s.data.toList.length + 2) y0 [] = R
    generalize hR2 : (itemsR s.data.toList f (s.data.toList.length + 2) y0 []).2 = R2
    refine aw_sub (Sub.ownF (m := 5) (q := 41) (i := 3) (e := 39) rfl (by decide) rfl rfl rfl) ?_
    refine aw_loop (fun j st => ∃ y l, itV s.data.toList f j y l = R ∧ (itemsR s.data.toList f j y l).2 = R2 ∧ Oc s.data.toList y ∧ (y.e = 0 → s.size - y.p + 1 ≤ j) ∧ l.length + j ≤ s.size + 2 ∧ Sub ⟨Tryd.prog, pas, w0, w, EN5, he, hpp⟩ st (HlQ s lv y l)) (s.data.toList.length + 2) ⟨y0, [], hR, hR2, hO, fun _ => by omega, by simp [hlen], ?_⟩ ?_
    · exact Sub.live ⟨rfl, rfl, rfl, rfl, trivial⟩ ⟨rfl, rfl, rfl, rfl, trivial⟩
    · rintro j st ⟨y, l, hR, hR2, hO, hj, hl, hs2⟩
      refine aw_sub hs2 ?_
      clear hs2
      by_cases g0 : y.e = 0
      rotate_left 1
      · have f1 := b_ne g0
        obtain ⟨e1, e2⟩ := itQ_e (S := s.data.toList) (f := f) (j := j) (l := l) g0
        rw [e1] at hR
        rw [e2] at hR2
        subst hR hR2
        repeat' (first
    | (apply s_meth (cellsQ s) (fun _ _ => rfl) rfl
       · conv => lhs; whnf
       · conv => lhs; whnf
       · rfl
       · conv => lhs; whnf; arg 1; whnf
       · first | exact eta0 _ _ | exact eta1 _ _ | exact eta2 _ _ | exact eta3 _ _ | exact eta6 _ | exact etaQ0 _ _ | exact etaQ1 _ _ | exact etaQ2 _ _ | exact etaQ3 _ _ | exact etaQ6 _
       · first | 
       · exact fun _ => rfl
       · exact fun _ => rfl)
    | (apply s_wanted_meth (cellsQ s) (fun _ _ => rfl) rfl
       · conv => lhs; whnf
       · conv => lhs; whnf
       · first | rfl | assumption
       · conv => lhs; whnf
       · rfl
       · conv => lhs; whnf; arg 1; whnf
       · first | exact eta0 _ _ | exact eta1 _ _ | exact eta2 _ _ | exact eta3 _ _ | exact eta6 _ | exact etaQ0 _ _ | exact etaQ1 _ _ | exact etaQ2 _ _ | exact etaQ3 _ _ | exact etaQ6 _
       · first | 
       · exact fun _ => rfl
       · exact fun _ => rfl)
    | (apply s_skip rfl
       · conv => lhs; whnf
       · conv => lhs; whnf
       · first | rfl | assumption)
    | (apply s_guard_meth (cellsQ s) (fun _ _ => rfl) rfl
       · conv => lhs; whnf
       · conv => lhs; whnf
       · conv => lhs; whnf
       · rfl
       · conv => lhs; whnf; arg 1; whnf
       · first | exact eta0 _ _ | exact eta1 _ _ | exact eta2 _ _ | exact eta3 _ _ | exact eta6 _ | exact etaQ0 _ _ | exact etaQ1 _ _ | exact etaQ2 _ _ | exact etaQ3 _ _ | exact etaQ6 _
       · first | 
       · exact fun _ => rfl
       · exact fun _ => rfl)
    | (apply aw_cond_kt
       · conv => lhs; whnf
       · assumption)
    | (apply aw_cond_kf
       · conv => lhs; whnf
       · assumption)
    | refine k_cut_ret ?_
    | refine k_cut_exit ?_
    | refine k_cut ?_
    | refine aw_seq ?_
    | refine aw_region ?_
    | refine awo_nil ?_
    | refine k_seq ?_
    | refine k_block ?_
    | refine k_scope ?_
    | refine aw_block ?_
    | refine aw_skip ?_
    | refine aw_label ?_
    | refine aw_scope ?_
    | (apply s_pick_t rfl rfl
       · conv => lhs; whnf
       · conv => lhs; whnf
       · first | exact bT1 (by assumption) | exact bT2 (by assumption))
    | (apply s_pick_f rfl rfl
       · conv => lhs; whnf
       · conv => lhs; whnf
       · first | exact bF1 (by assumption) | exact bF2 (by assumption))
    | (apply s_val rfl
       · conv => lhs; whnf
       · conv => lhs; whnf; arg 2; whnf)
    | (apply s_call rfl
       · conv => lhs; whnf
       · conv => lhs; whnf
       · first | fail)
    | (apply s_alloc rfl rfl rfl rfl
       · conv => lhs; whnf; arg 1; whnf
       · rfl)
    | (apply s_store rfl rfl rfl
       · conv => lhs; whnf
       · conv => lhs; whnf; arg 1; whnf
       · conv => lhs; whnf; arg 1; whnf
       · exact ⟨by kernel_rfl, by kernel_rfl⟩
       · rfl)
    | (apply s_app rfl rfl
       · conv => lhs; whnf
       · first | (conv => lhs; whnf; arg 1; whnf)
       · first | exact fun _ => rfl | (intro _; kernel_rfl)
       · conv => lhs; whnf
       · conv => lhs; whnf; arg 1; whnf
       · conv => lhs; whnf)
    | (apply s_app_nil rfl rfl rfl rfl
       · first | (conv => lhs; whnf; arg 1; whnf)
       · first | exact fun _ => rfl | (intro _; kernel_rfl)
       · conv => lhs; whnf
       · conv => lhs; whnf)
    | (apply s_lit0 rfl rfl
       · conv => lhs; whnf
       · first | (conv => lhs; whnf; arg 1; whnf))
    | (apply s_lit1 rfl rfl
       · conv => lhs; whnf
       · first | (conv => lhs; whnf; arg 1; whnf)
       · conv => lhs; whnf; arg 1; whnf
       · rfl
       · rfl)
    | (apply s_onlit rfl rfl
       · conv => lhs; whnf
       · first | (conv => lhs; whnf; arg 1; whnf)
       · first | exact fun _ => rfl | (intro _; kernel_rfl)
       · conv => lhs; whnf
       · conv => lhs; whnf)
    | (apply s_wanted_val rfl
       · conv => lhs; whnf
       · conv => lhs; whnf
       · first | rfl | assumption
       · conv => lhs; whnf; arg 2; whnf)
    | (apply s_wanted_call rfl
       · conv => lhs; whnf
       · conv => lhs; whnf
       · first | rfl | assumption
       · conv => lhs; whnf
       · first | fail)
    | (apply s_skip rfl
       · conv => lhs; whnf
       · conv => lhs; whnf
       · first | rfl | assumption)
    | (apply s_guard_val rfl
       · conv => lhs; whnf
       · conv => lhs; whnf
       · conv => lhs; whnf; arg 2; whnf)
    | (apply s_guard_call rfl
       · conv => lhs; whnf
       · conv => lhs; whnf
       · conv => lhs; whnf
       · first | fail)
    | (apply aw_cond_t
       · conv => lhs; whnf; arg 1; arg 1; whnf)
    | (apply aw_cond_f
       · conv => lhs; whnf; arg 1; arg 1; whnf)
    | (refine aw_cond (by conv => lhs; whnf) ?_ ?_ <;> intro hb)
    | refine aw_ret ?_
    | refine aw_exit ?_
    | refine k_seq_exit ?_
    | refine k_seq_ret ?_
    | refine k_block_ret ?_
    | refine k_block_hit rfl ?_
    | refine k_block_miss rfl ?_
    | refine k_scope_exit ?_
    | refine k_scope_ret ?_
    | refine k_loop_exit ?_
    | refine k_loop_ret ?_
    | refine k_endB ⟨?_, ?_⟩
    | refine k_endB_ret ⟨?_, ?_⟩
    | exact (rfl : _ = V.tup [])
    | (refine ⟨_, by conv => lhs; whnf; arg 2; whnf, ?_⟩; conv => rhs; whnf)
    | exact trivial
    | intro hg)
        all_goals first | rfl | exact ⟨rfl, trivial⟩
      · have f1 := b_eq g0
        have hj1 := hj g0
        obtain ⟨j, rfl⟩ : ∃ i, j = i + 1 := ⟨j - 1, by omega⟩
        have hfy := hc y hO.hi (hO.e g0) g0
        have hm1 := hf y hO.hi (hO.e g0)
        have hm2 := hm1.mv (mv_space hm1.hi)
        have hm3 := hm2.mv (mv_word (S := s.data.toList) [44] hm2.hi)
        have hsp := skipQ_acb s (f y).2 (by omega) hm1.hi
        have hnx := nextQ_acb s (spaceS s.data.toList (f y).2) (by omega)
        have hwd := wordQ_acb s (spaceS s.data.toList (f y).2) ⟨#[44]⟩ (by omega) (by decide) (by decide) hm2.hi
        repeat' (first
    | (apply s_meth (cellsQ s) (fun _ _ => rfl) rfl
       · conv => lhs; whnf
       · conv => lhs; whnf
       · rfl
       · conv => lhs; whnf; arg 1; whnf
       · first | exact eta0 _ _ | exact eta1 _ _ | exact eta2 _ _ | exact eta3 _ _ | exact eta6 _ | exact etaQ0 _ _ | exact etaQ1 _ _ | exact etaQ2 _ _ | exact etaQ3 _ _ | exact etaQ6 _
       · first | exact hfy | exact hsp | exact hnx | exact hwd
       · exact fun _ => rfl
       · exact fun _ => rfl)
    | (apply s_wanted_meth (cellsQ s) (fun _ _ => rfl) rfl
       · conv => lhs; whnf
       · conv => lhs; whnf
       · first | rfl | assumption
       · conv => lhs; whnf
       · rfl
       · conv => lhs; whnf; arg 1; whnf
       · first | exact eta0 _ _ | exact eta1 _ _ | exact eta2 _ _ | exact eta3 _ _ | exact eta6 _ | exact etaQ0 _ _ | exact etaQ1 _ _ | exact etaQ2 _ _ | exact etaQ3 _ _ | exact etaQ6 _
       · first | exact hfy | exact hsp | exact hnx | exact hwd
       · exact fun _ => rfl
       · exact fun _ => rfl)
    | (apply s_skipU rfl
       · conv => lhs; whnf
       · conv => lhs; whnf
       · first | rfl | assumption)
    | (apply s_dead rfl
       · conv => lhs; whnf
       · rfl
       · rfl)
    | (apply s_guard_meth (cellsQ s) (fun _ _ => rfl) rfl
       · conv => lhs; whnf
       · conv => lhs; whnf
       · conv => lhs; whnf
       · rfl
       · conv => lhs; whnf; arg 1; whnf
       · first | exact eta0 _ _ | exact eta1 _ _ | exact eta2 _ _ | exact eta3 _ _ | exact eta6 _ | exact etaQ0 _ _ | exact etaQ1 _ _ | exact etaQ2 _ _ | exact etaQ3 _ _ | exact etaQ6 _
       · first | exact hfy | exact hsp | exact hnx | exact hwd
       · exact fun _ => rfl
       · exact fun _ => rfl)
    | (apply s_lit [(f y).1] rfl rfl
       · conv => lhs; whnf
       · first | (conv => lhs; whnf; arg 1; whnf)
       · rfl
       · rfl
       · repeat' (first | exact trivial | apply And.intro | rfl))
    | (apply aw_cond_kt
       · conv => lhs; whnf
       · assumption)
    | (apply aw_cond_kf
       · conv => lhs; whnf
       · assumption)
    | refine k_cut_ret ?_
    | refine k_cut_exit ?_
    | refine k_cut ?_
    | refine aw_seq ?_
    | refine aw_region ?_
    | refine awo_nil ?_
    | refine k_seq ?_
    | refine k_block ?_
    | refine k_scope ?_
    | refine aw_block ?_
    | refine aw_skip ?_
    | refine aw_label ?_
    | refine aw_scope ?_
    | (apply s_pick_t rfl rfl
       · conv => lhs; whnf
       · conv => lhs; whnf
       · first | exact bT1 (by assumption) | exact bT2 (by assumption))
    | (apply s_pick_f rfl rfl
       · conv => lhs; whnf
       · conv => lhs; whnf
       · first | exact bF1 (by assumption) | exact bF2 (by assumption))
    | (apply s_val rfl
       · conv => lhs; whnf
       · conv => lhs; whnf; arg 2; whnf)
    | (apply s_call rfl
       · conv => lhs; whnf
       · conv => lhs; whnf
       · first | fail)
    | (apply s_alloc rfl rfl rfl rfl
       · conv => lhs; whnf; arg 1; whnf
       · rfl)
    | (apply s_store rfl rfl rfl
       · conv => lhs; whnf
       · conv => lhs; whnf; arg 1; whnf
       · conv => lhs; whnf; arg 1; whnf
       · exact ⟨by kernel_rfl, by kernel_rfl⟩
       · rfl)
    | (apply s_app rfl rfl
       · conv => lhs; whnf
       · first | (conv => lhs; whnf; arg 1; whnf)
       · first | exact fun _ => rfl | (intro _; kernel_rfl)
       · conv => lhs; whnf
       · conv => lhs; whnf; arg 1; whnf
       · conv => lhs; whnf)
    | (apply s_app_nil rfl rfl rfl rfl
       · first | (conv => lhs; whnf; arg 1; whnf)
       · first | exact fun _ => rfl | (intro _; kernel_rfl)
       · conv => lhs; whnf
       · conv => lhs; whnf)
    | (apply s_lit0 rfl rfl
       · conv => lhs; whnf
       · first | (conv => lhs; whnf; arg 1; whnf))
    | (apply s_lit1 rfl rfl
       · conv => lhs; whnf
       · first | (conv => lhs; whnf; arg 1; whnf)
       · conv => lhs; whnf; arg 1; whnf
       · rfl
       · rfl)
    | (apply s_onlit rfl rfl
       · conv => lhs; whnf
       · first | (conv => lhs; whnf; arg 1; whnf)
       · first | exact fun _ => rfl | (intro _; kernel_rfl)
       · conv => lhs; whnf
       · conv => lhs; whnf)
    | (apply s_wanted_val rfl
       · conv => lhs; whnf
       · conv => lhs; whnf
       · first | rfl | assumption
       · conv => lhs; whnf; arg 2; whnf)
    | (apply s_wanted_call rfl
       · conv => lhs; whnf
       · conv => lhs; whnf
       · first | rfl | assumption
       · conv => lhs; whnf
       · first | fail)
    | (apply s_skipU rfl
       · conv => lhs; whnf
       · conv => lhs; whnf
       · first | rfl | assumption)
    | (apply s_dead rfl
       · conv => lhs; whnf
       · rfl
       · rfl)
    | (apply s_guard_valU rfl
       · conv => lhs; whnf
       · conv => lhs; whnf
       · conv => lhs; whnf; arg 2; whnf)
    | (apply s_guard_callU rfl
       · conv => lhs; whnf
       · conv => lhs; whnf
       · conv => lhs; whnf
       · first | fail)
    | (apply s_guard_val rfl
       · conv => lhs; whnf
       · conv => lhs; whnf
       · conv => lhs; whnf; arg 2; whnf)
    | (apply s_guard_call rfl
       · conv => lhs; whnf
       · conv => lhs; whnf
       · conv => lhs; whnf
       · first | fail)
    | (apply aw_cond_t
       · conv => lhs; whnf; arg 1; arg 1; whnf)
    | (apply aw_cond_f
       · conv => lhs; whnf; arg 1; arg 1; whnf)
    | (refine aw_cond (by conv => lhs; whnf) ?_ ?_ <;> intro hb)
    | refine aw_ret ?_
    | refine aw_exit ?_
    | refine k_seq_exit ?_
    | refine k_seq_ret ?_
    | refine k_block_ret ?_
    | refine k_block_hit rfl ?_
    | refine k_block_miss rfl ?_
    | refine k_scope_exit ?_
    | refine k_scope_ret ?_
    | refine k_loop_exit ?_
    | refine k_loop_ret ?_
    | refine k_endB ⟨?_, ?_⟩
    | refine k_endB_ret ⟨?_, ?_⟩
    | exact (rfl : _ = V.tup [])
    | (refine ⟨_, by conv => lhs; whnf; arg 2; whnf, ?_⟩; conv => rhs; whnf)
    | exact trivial
    | intro hg)
        all_goals
          have hlo2 := hm2.lo
          have hhi2 : (spaceS s.data.toList (f y).2).p ≤ s.size := hm2.hi
          have hhi3 : (wordS s.data.toList [44] (spaceS s.data.toList (f y).2)).p ≤ s.size := hm3.hi
          have go : ¬ ((spaceS s.data.toList (f y).2).e = 0 ∧ atS s.data.toList (spaceS s.data.toList (f y).2) = 93) → itV s.data.toList f j (wordS s.data.toList [44] (spaceS s.data.toList (f y).2)) (l ++ [(f y).1]) = R ∧ (itemsR s.data.toList f j (wordS s.data.toList [44] (spaceS s.data.toList (f y).2)) (l ++ [(f y).1])).2 = R2 ∧ Oc s.data.toList (wordS s.data.toList [44] (spaceS s.data.toList (f y).2)) ∧ ((wordS s.data.toList [44] (spaceS s.data.toList (f y).2)).e = 0 → s.size - (wordS s.data.toList [44] (spaceS s.data.toList (f y).2)).p + 1 ≤ j) ∧ (l ++ [(f y).1]).length + j ≤ s.size + 2 := fun hn => by
            obtain ⟨e1, e2⟩ := itQ_go (j := j) (l := l) g0 hn
            refine ⟨by rw [← e1]; exact hR, by rw [← e2]; exact hR2, hm3.oc, fun h => ?_, by rw [List.length_append]; simp only [List.length_cons, List.length_nil]; omega⟩
            have := take_go (S := s.data.toList) (x := spaceS s.data.toList (f y).2) [44] h
            have e : (wordS s.data.toList [44] (spaceS s.data.toList (f y).2)) = (takeS s.data.toList [44] (spaceS s.data.toList (f y).2)).2 := rfl
            rw [e] at hhi3 ⊢
            omega
        all_goals
          first
            | exact i64_in2 (by omega)
            | (have q1 : (((spaceS s.data.toList (f y).2).e == 0) == true) = false := by assumption
               have q1 : ¬ (spaceS s.data.toList (f y).2).e = 0 := by simpa using q1
               obtain ⟨b1, b2, b3, b4, b5⟩ := go (fun h => q1 h.1)
               exact k_loop_next (Nat.lt_succ_self j) ⟨_, l ++ [(f y).1], b1, b2, b3, b4, b5, Sub.live ⟨rfl, rfl, rfl, rfl, trivial⟩ ⟨rfl, rfl, rfl, by rw [List.length_append]; rfl, trivial⟩⟩)
            | (have q1 : (((spaceS s.data.toList (f y).2).e == 0) == true) = true := by assumption
               have q1 : (spaceS s.data.toList (f y).2).e = 0 := by simpa using q1
               first
                 | (have q2 : (((atS s.data.toList (spaceS s.data.toList (f y).2)).toNat : Int) == 93) = true := by assumption
                    have q2 := u8_eq (n := 93) q2 (by decide)
                    have hl2 : (spaceS s.data.toList (f y).2).p < s.size := at_lt (S := s.data.toList) (b := 93) (by decide) q2
                    obtain ⟨e1, e2⟩ := itQ_end (j := j) (l := l) g0 ⟨q1, q2⟩
                    first
                      | exact i64_in2 (by omega)
                      | (rw [← hR, e1]; rfl)
                      | (rw [← hR2, e2] <;> first | rfl | exact ⟨rfl, trivial⟩))
                 | (have q2 : (((atS s.data.toList (spaceS s.data.toList (f y).2)).toNat : Int) == 93) = false := by assumption
                    have q2 := u8_ne2 (n := 93) q2 (by decide)
                    obtain ⟨b1, b2, b3, b4, b5⟩ := go (fun h => q2 h.2)
                    exact k_loop_next (Nat.lt_succ_self j) ⟨_, l ++ [(f y).1], b1, b2, b3, b4, b5, Sub.live ⟨rfl, rfl, rfl, rfl, trivial⟩ ⟨rfl, rfl, rfl, by rw [List.length_append]; rfl, trivial⟩⟩))
            | (refine ⟨by simp, by simp only [List.length_cons, List.length_nil, maxLen]; omega, ?_⟩
               show (l.length + 1) * 80 ≤ 140737488355328
               omega)
  · exact i64_in2 (by omega)
set_option maxRecDepth 100000 in
theorem listQ_acb (s : ByteArray) (f : JS → D × JS) (lv : Nat) (x : JS) (hlv : lv ≤ 1000) (hs : s.size ≤ 100000) (hp : x.p < s.size) (hm : x.m ≤ 4096) (hf : FOk s.data.toList f)
    (hc : ∀ y, y.p ≤ s.size → y.m ≤ 4096 → y.e = 0 → ACB EN5 Tryd.prog 41 [.bx (pn 0) 0, .c (.int .i64 ((lv : Int) + 1))] [boxQ s y] (.agg (cellsV Tryd.prog 12 39 (f y).1)) [boxQ s (f y).2]) :
    ACB EN5 Tryd.prog 72 [.bx (pn 0) 0, .c (.int .i64 (lv : Int))] [boxQ s x] (.agg (cellsV Tryd.prog 12 39 (listR s.data.toList f x).1)) [boxQ s (listR s.data.toList f x).2] :=
  (listQ_raw s f lv x hlv hs hp hm hf hc).res (lisV_le _ _ _)
end Go.Proofs.YtjhjleanihgopaaDoor
namespace Go.Proofs.YtjhjleanihgopaaDoor
open Go.RowKit
attribute [local irreducible] wpList Calls Code.wp AW AWo OpOk seqK blockK scopeK loopK endK endKB AC ACB absLex absLexG Yld YldG Sub
noncomputable def HhQ (l : List D) (k : ByteArray) (i : Nat) : Vst 18 :=
  stS 18 [(0, .sl 9 l), (1, .c (.string k)), (5, .c (.int .i64 i))] []
set_option maxRecDepth 100000 in
theorem hasL_no {l : List D} {k : ByteArray} (h : ∀ m, m < l.length → eqS k (gD l m) = false) : hasL l k = false := by
  rw [← idxL_has, idxL_no h]; rfl
set_option maxRecDepth 100000 in
theorem hasL_at {l : List D} {k : ByteArray} {i : Nat} (hi : i < l.length) (he : eqS k (gD l i) = true) : hasL l k = true := by
  unfold hasL
  rw [List.any_eq_true]
  exact ⟨l[i], List.getElem_mem hi, by rw [← gD_get hi]; exact he⟩
set_option maxRecDepth 100000 in
theorem eqS_sym (l : List D) (k : ByteArray) (i : Nat) : eqS k (gD l i) = ((gD l i).s.toList == k.toList) := by
  unfold eqS
  rw [Bool.eq_iff_iff]; simp only [beq_iff_eq]; exact eq_comm
set_option maxHeartbeats 1000000 in
set_option maxRecDepth 100000 in
theorem hasQ_ac (l : List D) (k : ByteArray) (hn : l.length ≤ 1000000000) : AC EN5 Tryd.prog 98 [.sl 9 l, .c (.string k)] (.c (.bool (hasL l k))) := by
  refine ac_enter 18 Tryd.func98 rfl rfl rfl rfl ?_
  intro s w he
  repeat' (first
    | refine aw_seq ?_
    | refine aw_region ?_
    | refine awo_nil ?_
    | refine k_seq ?_
    | refine k_block ?_
    | refine k_scope ?_
    | refine aw_block ?_
    | refine aw_skip ?_
    | refine aw_label ?_
    | refine aw_scope ?_
    | (apply s_val rfl
       · conv => lhs; whnf
       · conv => lhs; whnf; arg 2; whnf)
    | (apply aw_cond_t
       · conv => lhs; whnf; arg 1; arg 1; whnf)
    | (apply aw_cond_f
       · conv => lhs; whnf; arg 1; arg 1; whnf)
    | (refine aw_cond (by conv => lhs; whnf) ?_ ?_ <;> intro hb)
    | refine aw_ret ?_
    | refine aw_exit ?_
    | refine k_seq_exit ?_
    | refine k_seq_ret ?_
    | refine k_block_ret ?_
    | refine k_block_hit rfl ?_
    | refine k_block_miss rfl ?_
    | refine k_scope_exit ?_
    | refine k_scope_ret ?_
    | refine k_loop_exit ?_
    | refine k_loop_ret ?_
    | refine k_end ?_
    | refine k_end_ret ?_
    | (refine ⟨_, by conv => lhs; whnf; arg 2; whnf, ?_⟩; conv => rhs; whnf)
    | exact trivial
    | intro hg)
  refine aw_loop (fun j st => ∃ i, i + j = l.length ∧ (∀ m, m < i → eqS k (gD l m) = false) ∧ Sub (cx EN5 Tryd.prog s w he) st (HhQ l k i)) l.length ⟨0, by omega, fun m hm => absurd hm (Nat.not_lt_zero m), ?_⟩ ?_
  · exact Sub.live ⟨rfl, rfl, rfl, trivial⟩ trivial
  · rintro j st ⟨i, hij, hno, hs2⟩
    refine aw_sub hs2 ?_
    clear hs2
    repeat' (first
    | refine aw_seq ?_
    | refine aw_region ?_
    | refine awo_nil ?_
    | refine k_seq ?_
    | refine k_block ?_
    | refine k_scope ?_
    | refine aw_block ?_
    | refine aw_skip ?_
    | refine aw_label ?_
    | refine aw_scope ?_
    | (apply s_val rfl
       · conv => lhs; whnf
       · conv => lhs; whnf; arg 2; whnf)
    | (apply aw_cond_t
       · conv => lhs; whnf; arg 1; arg 1; whnf)
    | (apply aw_cond_f
       · conv => lhs; whnf; arg 1; arg 1; whnf)
    | (refine aw_cond (by conv => lhs; whnf) ?_ ?_ <;> intro hb)
    | refine aw_ret ?_
    | refine aw_exit ?_
    | refine k_seq_exit ?_
    | refine k_seq_ret ?_
    | refine k_block_ret ?_
    | refine k_block_hit rfl ?_
    | refine k_block_miss rfl ?_
    | refine k_scope_exit ?_
    | refine k_scope_ret ?_
    | refine k_loop_exit ?_
    | refine k_loop_ret ?_
    | refine k_end ?_
    | refine k_end_ret ?_
    | (refine ⟨_, by conv => lhs; whnf; arg 2; whnf, ?_⟩; conv => rhs; whnf)
    | exact trivial
    | intro hg)
    all_goals
      first
        | exact i64_in2 (by omega)
        | (have g0 : decide ((i : Int) < (l.length : Int)) = true := by assumption
           have g0 : i < l.length := by simpa using g0
           first
             | exact (⟨by omega, by omega⟩ : 0 ≤ (i : Int) ∧ (i : Int) < (l.length : Int))
             | (have g1 : ((gD l i).s.toList == k.toList) = true := by assumption
                rw [hasL_at g0 (by rw [eqS_sym]; exact g1)]; done)
             | (have g1 : ((gD l i).s.toList == k.toList) = false := by assumption
                refine k_loop_next (j' := j - 1) (by omega) ⟨i + 1, by omega, fun m hm => ?_, Sub.live ⟨rfl, rfl, rfl, trivial⟩ trivial⟩
                by_cases e : m = i
                · subst e; rw [eqS_sym]; exact g1
                · exact hno m (by omega)))
        | (have g0 : decide ((i : Int) < (l.length : Int)) = false := by assumption
           have g0 : ¬ (i : Int) < (l.length : Int) := of_decide_eq_false g0
           rw [hasL_no fun m hm => hno m (by omega)]; done)
/-- where the reference's reader is when a field's value comes, and when it is read -/
def vF (S : List UInt8) (ks : List (List UInt8)) (x : JS) : JS := wordS S [58] (spaceS S (preF S ks x))
def eF (S : List UInt8) (f : JS → D × JS) (ks : List (List UInt8)) (x : JS) : JS := spaceS S (f (vF S ks x)).2
/-- an object as the reference builds it -/
noncomputable def fdV (S : List UInt8) (f : JS → D × JS) : Nat → JS → List (List UInt8) → List D → V
  | 0, _, _, _ => .agg (leafV (vD 0 0 [] [] []))
  | j + 1, x, ks, l =>
    if x.e ≠ 0 then .agg (leafV (vD 0 0 [] [] [])) else
    if (vF S ks x).e ≠ 0 then .agg (leafV (vD 0 0 [] [] [])) else
    if (eF S f ks x).e = 0 ∧ atS S (eF S f ks x) = 125 then .agg [.c (.int .i64 6), .c (.int .i64 0), .c (.string { data := #[] }), .sl 39 (l ++ [(f (vF S ks x)).1]), .sl 9 (keysD (ks ++ [keyF S x]))] else fdV S f j (wordS S [44] (eF S f ks x)) (ks ++ [keyF S x]) (l ++ [(f (vF S ks x)).1])
set_option maxRecDepth 100000 in
theorem fieldsR_s (S : List UInt8) (f : JS → D × JS) (j : Nat) (x : JS) (ks : List (List UInt8)) (l : List D) : fieldsR S f (j + 1) x ks l =
    if x.e ≠ 0 then (vD 0 0 [] [] [], x) else
    if (vF S ks x).e ≠ 0 then (vD 0 0 [] [] [], vF S ks x) else
    if (eF S f ks x).e = 0 ∧ atS S (eF S f ks x) = 125 then (vD 6 0 [] (l ++ [(f (vF S ks x)).1]) (keysD (ks ++ [keyF S x])), goS (eF S f ks x)) else fieldsR S f j (wordS S [44] (eF S f ks x)) (ks ++ [keyF S x]) (l ++ [(f (vF S ks x)).1]) := rfl
set_option maxRecDepth 100000 in
theorem fdV_le (S : List UInt8) (f : JS → D × JS) : ∀ (j : Nat) (x : JS) (ks : List (List UInt8)) (l : List D), VLe (fdV S f j x ks l) (.agg (cellsV Tryd.prog 12 39 (fieldsR S f j x ks l).1))
  | 0, _, _, _ => leafV_le 0 0 []
  | j + 1, x, ks, l => by
    rw [fieldsR_s]
    unfold fdV
    split
    · exact leafV_le 0 0 []
    split
    · exact leafV_le 0 0 []
    split
    · exact .agg (.cons (.refl _) (.cons (.refl _) (.cons (.refl _) (.cons (.refl _) (.cons (.refl _) .nil)))))
    · exact fdV_le S f j _ _ _
section
variable {S : List UInt8} {f : JS → D × JS} {j : Nat} {x : JS} {ks : List (List UInt8)} {l : List D}
set_option maxRecDepth 100000 in
theorem fdQ_e (h : x.e ≠ 0) : fdV S f j x ks l = .agg (leafV (vD 0 0 [] [] [])) ∧ (fieldsR S f j x ks l).2 = x := by
  cases j with
  | zero => exact ⟨rfl, rfl⟩
  | succ j => rw [fieldsR_s, fdV, if_pos h, if_pos h]; exact ⟨rfl, rfl⟩
set_option maxRecDepth 100000 in
theorem fdQ_v (h : x.e = 0) (h2 : (vF S ks x).e ≠ 0) : fdV S f (j + 1) x ks l = .agg (leafV (vD 0 0 [] [] [])) ∧ (fieldsR S f (j + 1) x ks l).2 = vF S ks x := by
  have n0 : ¬ x.e ≠ 0 := fun hh => hh h
  rw [fieldsR_s, fdV, if_neg n0, if_neg n0, if_pos h2, if_pos h2]; exact ⟨rfl, rfl⟩
set_option maxRecDepth 100000 in
theorem fdQ_end (h : x.e = 0) (h1 : (vF S ks x).e = 0) (h2 : (eF S f ks x).e = 0 ∧ atS S (eF S f ks x) = 125) : fdV S f (j + 1) x ks l = .agg [.c (.int .i64 6), .c (.int .i64 0), .c (.string { data := #[] }), .sl 39 (l ++ [(f (vF S ks x)).1]), .sl 9 (keysD (ks ++ [keyF S x]))] ∧ (fieldsR S f (j + 1) x ks l).2 = goS (eF S f ks x) := by
  have n0 : ¬ x.e ≠ 0 := fun hh => hh h
  have n1 : ¬ (vF S ks x).e ≠ 0 := fun hh => hh h1
  rw [fieldsR_s, fdV, if_neg n0, if_neg n0, if_neg n1, if_neg n1, if_pos h2, if_pos h2]; exact ⟨rfl, rfl⟩
set_option maxRecDepth 100000 in
theorem fdQ_go (h : x.e = 0) (h1 : (vF S ks x).e = 0) (h2 : ¬ ((eF S f ks x).e = 0 ∧ atS S (eF S f ks x) = 125)) : fdV S f (j + 1) x ks l = fdV S f j (wordS S [44] (eF S f ks x)) (ks ++ [keyF S x]) (l ++ [(f (vF S ks x)).1]) ∧ (fieldsR S f (j + 1) x ks l).2 = (fieldsR S f j (wordS S [44] (eF S f ks x)) (ks ++ [keyF S x]) (l ++ [(f (vF S ks x)).1])).2 := by
  have n0 : ¬ x.e ≠ 0 := fun hh => hh h
  have n1 : ¬ (vF S ks x).e ≠ 0 := fun hh => hh h1
  rw [fieldsR_s, fdV, if_neg n0, if_neg n0, if_neg n1, if_neg n1, if_neg h2, if_neg h2]; exact ⟨rfl, rfl⟩
end
end Go.Proofs.YtjhjleanihgopaaDoor
