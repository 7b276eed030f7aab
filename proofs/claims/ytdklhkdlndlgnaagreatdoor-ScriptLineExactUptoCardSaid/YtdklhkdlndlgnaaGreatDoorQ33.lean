/- Parts of a proof, merged by a program (shake.py). -/
import Derived.Lay
import Derived.Test.YtdklhkdlndlgnaaGreatDoorQ32
set_option linter.unusedVariables false
set_option linter.unusedSimpArgs false
namespace Go.Proofs.YtdklhkdlndlgnaaGreatDoor
open Go.ChangeShapes Go.WideShapes Go.ChangeAt Go.RowKit
attribute [local irreducible] wpList Calls Code.wp
set_option maxRecDepth 100000 in
theorem bulk_list (l : List D) : bulkL l = (l.map bulkD).sum := by
  induction l with
  | nil => simp [bulkL]
  | cons d r ih => simp [bulkL, ih]
set_option maxRecDepth 100000 in
/-- a value's shape: how deep it is, how much it holds -/
theorem val_in : ∀ {k : Nat} {x : D}, Fits Tryz.prog k 26 x → Dp k x ∧ wtJ k x ≤ bulkD x
  | 0, _, h => h.elim
  | k + 1, x, h => by
    unfold Fits at h
    rw [Tryz.underlying26] at h
    obtain ⟨l, rfl, hl, hf⟩ := h
    have h2 : Fits Tryz.prog k 9 (gD l 2) := hf 2 _ rfl
    have h3 : Fits Tryz.prog k 23 (gD l 3) := hf 3 _ rfl
    have h4 : Fits Tryz.prog k 24 (gD l 4) := hf 4 _ rfl
    have hl5 : l.length = 5 := hl
    cases k with
    | zero => exact h3.elim
    | succ k =>
      unfold Fits at h2 h3 h4
      obtain ⟨s, e2⟩ : ∃ s, gD l 2 = .str s := by rw [Tryz.underlying9] at h2; exact h2
      obtain ⟨l3, e3, h5⟩ : ∃ l3, gD l 3 = .list l3 ∧ ∀ i, i < l3.length → Fits Tryz.prog k 26 (gD l3 i) := by rw [Tryz.underlying23] at h3; exact h3
      obtain ⟨l4, e4, h6⟩ : ∃ l4, gD l 4 = .list l4 ∧ ∀ i, i < l4.length → Fits Tryz.prog k 9 (gD l4 i) := by rw [Tryz.underlying24] at h4; exact h4
      have i3 : ((D.obj l).f 3).l = l3 := by show (gD l 3).l = l3; rw [e3]; rfl
      have i4 : ((D.obj l).f 4).l = l4 := by show (gD l 4).l = l4; rw [e4]; rfl
      have i2 : ((D.obj l).f 2).s = s := by show (gD l 2).s = s; rw [e2]; rfl
      have hit : ∀ i, i < l3.length → Dp (k + 1) (gD l3 i) ∧ wtJ (k + 1) (gD l3 i) ≤ bulkD (gD l3 i) := fun i hi => val_in (h5 i hi).up
      refine ⟨fun i hi => ?_, ?_⟩
      · rw [i3] at hi ⊢; exact (hit i hi).1
      · rw [wt_eq, i2, i3, i4, sum_gD (fun x => wtJ (k + 1) x)]
        have a1 : (l3.map fun x => wtJ (k + 1) x).sum ≤ (l3.map bulkD).sum := map_le fun i hi => (hit i hi).2
        have a2 : kwD l4 ≤ (l4.map bulkD).sum := map_le fun i hi => by
          have h7 := h6 i hi
          cases k with
          | zero => exact h7.elim
          | succ k =>
            unfold Fits at h7
            obtain ⟨u, e⟩ : ∃ u, gD l4 i = .str u := by rw [Tryz.underlying9] at h7; exact h7
            rw [e]
            show 1 + u.size ≤ bulkD (.str u)
            simp only [bulkD]; omega
        have b : bulkD (.obj l) = sumN (fun i => bulkD (gD l i)) 5 + 1 := by
          rw [← hl5, sum_gD]
          simp only [bulkD, bulk_list]
        rw [b]
        simp only [sumN_succ]
        rw [e2, e3, e4]
        simp only [bulkD, bulk_list]
        omega
set_option maxRecDepth 100000 in
/-- a value that is read -/
theorem val_rep {w : World} {F : Nat → Nat → Prop} : ∀ {k : Nat} {cs : List Value} {d : D}, RepF Tryz.prog w F k 26 cs d → VK k d
  | 0, _, _, h => h.elim
  | k + 1, cs, d, h => by
    unfold RepF at h
    rw [Tryz.underlying26] at h
    have h1 : RepF Tryz.prog w F k 3 _ (d.f 1) := h.2 1 _ rfl
    have h3 : RepF Tryz.prog w F k 23 _ (d.f 3) := h.2 3 _ rfl
    cases k with
    | zero => exact h1.elim
    | succ k =>
      unfold RepF at h1 h3
      rw [Tryz.underlying3] at h1
      rw [Tryz.underlying23] at h3
      obtain ⟨-, hw⟩ := h1
      have hw : (Lit.int .i64 (d.f 1).n).wf = true := hw
      rw [wf_int] at hw
      obtain ⟨A, c, -, -, -, -, h5⟩ := h3
      have hit : ∀ i, i < (d.f 3).l.length → VK (k + 1) (gD (d.f 3).l i) := fun i hi => by
        obtain ⟨b, off, -, hat⟩ := h5 (by omega) (of_decide_eq_true (by kernel_rfl))
        obtain ⟨ys, -, -, y3⟩ := hat i hi
        exact (val_rep y3).up
      exact ⟨fun i hi => (hit i hi).1, hw, fun i hi => (hit i hi).2⟩
set_option maxRecDepth 100000 in
/-- a problem that is read -/
theorem prob_rep {w : World} {F : Nat → Nat → Prop} {k : Nat} {cs : List Value} {p : D} (h : RepF Tryz.prog w F k 35 cs p) : ∀ j, j < (p.f 0).l.length → VK k (gD (p.f 0).l j) := fun j hj => by
  cases k with
  | zero => exact h.elim
  | succ k =>
    unfold RepF at h
    rw [Tryz.underlying35] at h
    have h3 : RepF Tryz.prog w F k 23 _ (p.f 0) := h.2 0 _ rfl
    cases k with
    | zero => exact h3.elim
    | succ k =>
      unfold RepF at h3
      rw [Tryz.underlying23] at h3
      obtain ⟨A, c, -, -, -, -, h5⟩ := h3
      obtain ⟨b, off, -, hat⟩ := h5 (by omega) (of_decide_eq_true (by kernel_rfl))
      obtain ⟨ys, -, -, y3⟩ := hat j hj
      exact (val_rep y3).up.up
set_option maxRecDepth 100000 in
theorem prob_in {k : Nat} {p : D} (h : Fits Tryz.prog k 35 p) : probW k p ≤ 6 * bulkD p := by
  cases k with
  | zero => exact h.elim
  | succ k =>
    unfold Fits at h
    rw [Tryz.underlying35] at h
    obtain ⟨l, rfl, hl, hf⟩ := h
    have h0 : Fits Tryz.prog k 23 (gD l 0) := hf 0 _ rfl
    have h1 : Fits Tryz.prog k 9 (gD l 1) := hf 1 _ rfl
    have hl2 : l.length = 2 := hl
    cases k with
    | zero => exact h0.elim
    | succ k =>
      unfold Fits at h0 h1
      obtain ⟨s, e1⟩ : ∃ s, gD l 1 = .str s := by rw [Tryz.underlying9] at h1; exact h1
      obtain ⟨l0, e0, h5⟩ : ∃ l0, gD l 0 = .list l0 ∧ ∀ i, i < l0.length → Fits Tryz.prog k 26 (gD l0 i) := by rw [Tryz.underlying23] at h0; exact h0
      have i0 : ((D.obj l).f 0).l = l0 := by show (gD l 0).l = l0; rw [e0]; rfl
      have i1 : ((D.obj l).f 1).s = s := by show (gD l 1).s = s; rw [e1]; rfl
      have a1 : (l0.map fun x => wtJ (k + 1 + 1) x).sum ≤ (l0.map bulkD).sum := map_le fun i hi => (val_in (h5 i hi).up.up).2
      have b : bulkD (.obj l) = sumN (fun i => bulkD (gD l i)) 2 + 1 := by
        rw [← hl2, sum_gD]
        simp only [bulkD, bulk_list]
      have z : sumN (fun i => bulkD (gD l i)) 0 = 0 := rfl
      unfold probW
      rw [i0, i1, b]
      simp only [sumN_succ, z]
      rw [e0, e1]
      simp only [bulkD, bulk_list]
      omega
set_option maxRecDepth 100000 in
/-- a reply that is read -/
theorem reply_k {w : World} {F : Nat → Nat → Prop} {k : Nat} {cs : List Value} {d : D} (hr : RepF Tryz.prog w F k 31 cs d) (hf : Fits Tryz.prog k 31 d) (hb : bulkD d ≤ 1048576) : RepK k d := by
  cases k with
  | zero => exact hf.elim
  | succ k =>
    unfold RepF at hr
    rw [Tryz.underlying31] at hr
    have r0 : RepF Tryz.prog w F k 22 _ (d.f 0) := hr.2 0 _ rfl
    have r1 : RepF Tryz.prog w F k 26 _ (d.f 1) := hr.2 1 _ rfl
    have r2 : RepF Tryz.prog w F k 27 _ (d.f 2) := hr.2 2 _ rfl
    have r3 : RepF Tryz.prog w F k 29 _ (d.f 3) := hr.2 3 _ rfl
    unfold Fits at hf
    rw [Tryz.underlying31] at hf
    obtain ⟨l, rfl, hl, hf⟩ := hf
    have f1 : Fits Tryz.prog k 26 (gD l 1) := hf 1 _ rfl
    have f2 : Fits Tryz.prog k 27 (gD l 2) := hf 2 _ rfl
    have hl7 : l.length = 7 := hl
    cases k with
    | zero => exact f1.elim
    | succ k =>
      have hv := val_rep r1
      refine ⟨hv.up, ?_, ?_, ?_, ?_⟩
      · intro i hi j hj
        unfold RepF at r2
        rw [Tryz.underlying27] at r2
        obtain ⟨A, c, -, -, -, -, h5⟩ := r2
        obtain ⟨b, off, -, hat⟩ := h5 (by omega) (of_decide_eq_true (by kernel_rfl))
        obtain ⟨ys, -, -, y3⟩ := hat i hi
        exact (prob_rep y3 j hj).up.up
      · unfold Fits at f2
        obtain ⟨l2, e2, h5⟩ : ∃ l2, gD l 2 = .list l2 ∧ ∀ i, i < l2.length → Fits Tryz.prog k 35 (gD l2 i) := by rw [Tryz.underlying27] at f2; exact f2
        have i2 : ((D.obj l).f 2).l = l2 := by show (gD l 2).l = l2; rw [e2]; rfl
        have a1 : wtJ (k + 1 + 1) ((D.obj l).f 1) ≤ bulkD (gD l 1) := (val_in f1.up).2
        have a2 : (l2.map (probW (k + 1 + 1))).sum ≤ (l2.map fun x => 6 * bulkD x).sum := map_le fun i hi => prob_in (h5 i hi).up.up
        have a3 : (l2.map fun x => 6 * bulkD x).sum = 6 * (l2.map bulkD).sum := by
          clear a2 e2 i2 h5
          induction l2 with
          | nil => rfl
          | cons x r ih => simp only [List.map_cons, List.sum_cons, ih, Nat.mul_add]
        have b : bulkD (.obj l) = sumN (fun i => bulkD (gD l i)) 7 + 1 := by
          rw [← hl7, sum_gD]
          simp only [bulkD, bulk_list]
        rw [i2]
        rw [b] at hb
        simp only [sumN_succ] at hb
        rw [e2] at hb
        simp only [bulkD, bulk_list] at hb
        omega
      · unfold RepF at r0
        rw [Tryz.underlying22] at r0
        obtain ⟨-, hw⟩ := r0
        have hw : (Lit.int .i64 ((D.obj l).f 0).n).wf = true := hw
        rw [wf_int] at hw
        exact hw
      · unfold RepF at r3
        rw [Tryz.underlying29] at r3
        have r4 : RepF Tryz.prog w F k 3 _ (((D.obj l).f 3).f 0) := r3.2 0 _ rfl
        cases k with
        | zero => exact r4.elim
        | succ k =>
          unfold RepF at r4
          rw [Tryz.underlying3] at r4
          obtain ⟨-, hw⟩ := r4
          have hw : (Lit.int .i64 (((D.obj l).f 3).f 0).n).wf = true := hw
          rw [wf_int] at hw
          exact hw
def sg0 (W : World) : Sg := ⟨fun b o => (W.cell? ⟨b, o, none⟩).isSome, fun _ => none, fun _ => none, fun _ => (undef, 0)⟩
set_option maxRecDepth 100000 in
theorem var_size {P : Program} {w : World} {n : String} {g : Nat} {cs : Array Value} (hg : P.globalNamed n = some g) (h : w.var? P n = some cs) : g + 1 ≤ w.heap.size := by
  unfold World.var? at h
  rw [hg] at h
  simp only [Option.bind_some] at h
  rcases Nat.lt_or_ge g w.heap.size with h' | h'
  · exact h'
  · rw [Array.getElem?_eq_none h'] at h; cases h
set_option maxRecDepth 100000 in
theorem en5_of {W : World} (h : Env W) : EN5.E W := by
  obtain ⟨h1, ⟨tp, p, h2⟩, ⟨tp', p', h3⟩⟩ := id h
  have a1 := var_size gPow h1
  have a2 := var_size gErrR h2
  have a3 := var_size gErrS h3
  exact ⟨h, Nat.max_le.2 ⟨a1, Nat.max_le.2 ⟨a2, a3⟩⟩⟩
set_option maxRecDepth 100000 in
theorem calls_of_ac5 {f : FuncId} {args : List V} {W : World} {us : Array Value} (h : AC EN5 Tryz.prog f args (.c (.bool true))) (hr : relL Tryz.prog (sg0 W) W args us.toList) (he : Env W) : Calls Tryz.prog f us W fun e W' => e = .returned (.bool true) ∧ Below W.heap.size W W' := by
  refine (h (sg0 W) W us hr (fun b o h => h) (en5_of he)).mono ?_
  rintro e W' ⟨v, F', rfl, hfr, -, -, -, hv⟩
  rw [rel] at hv
  obtain ⟨rfl, -⟩ := hv
  exact ⟨rfl, hfr.below⟩
set_option maxRecDepth 100000 in
theorem relL1 {P : Program} {s : Sg} {w : World} {v : V} {u : Value} (h : rel P s w v u) : relL P s w [v] (#[u] : Array Value).toList := by
  show relL P s w [v] [u]
  rw [relL]; exact ⟨h, by simp [relL]⟩
set_option maxRecDepth 100000 in
theorem upto_one {H : Type} {d : DataW H} {gs : List (DataW H)} (h : Rows.uptoSmall H (d :: gs) = true) : Rows.uptoBulk d ≤ 1048576 := by
  have h1 : Rows.uptoBulkAll (d :: gs) ≤ 1048576 := of_decide_eq_true h
  rw [Rows.uptoBulkAll] at h1
  omega
set_option maxRecDepth 100000 in
theorem rep_len {P : Program} {w : World} {I : Nat → Prop} {k : Nat} {t : TypeId} {cs : List Value} {d : D} {fs : Array Field} (ht : P.underlying t = some (.struct fs)) (h : Rep P w I k t cs d) : cs.length = P.cellsOf t := by
  cases k with
  | zero => exact h.elim
  | succ k => unfold Rep at h; rw [ht] at h; exact h.1
set_option maxRecDepth 100000 in
theorem rowLine {H : Type} {enc : TypeId × Value → H} {W : World} {v : Value} {base : Nat} {dw : DataW H} {ps : List MemPlace} (hv : Value.okWide Tryz.prog W .any base 31 v) (hd : DataW.Trod enc Tryz.prog W 0 (fun _ => true) true 31 v dw ps) (hb : Rows.uptoBulk dw ≤ 1048576) (he : Env W) :
    Calls Tryz.prog 3 #[v] W fun e W' => e = .returned (.bool true) ∧ Below W.heap.size W W' := by
  obtain ⟨cs, rfl, -⟩ := okWide_struct Tryz.underlying31 hv
  obtain ⟨k, hk⟩ := hd
  obtain ⟨d, h1, h2, h3⟩ := rep_of_trod2 hk
  have h3 : bulkD d ≤ Rows.uptoBulk dw := h3
  have h1 : Rep Tryz.prog W (fun b => b < W.heap.size) k 31 cs.toList d := by simpa [Value.cells] using h1
  have hrf : RepF Tryz.prog W (sg0 W).F k 31 cs.toList d := RepF.of_rep h1 fun b o _ h => h
  refine calls_of_ac5 (law5_ac k d (reply_k hrf h2 (by omega))) (relL1 ?_) he
  rw [rel]
  exact ⟨cs, rfl, cells_rel (s := sg0 W) 12 k 31 cs.toList d hrf (rep_len Tryz.underlying31 h1) (by kernel_rfl)⟩
def laidL5 : List (String × DataW Unit) := [("math/bits.deBruijn32tab", Rows.laid_math_bits_deBruijn32tab), ("math/bits.deBruijn64tab", Rows.laid_math_bits_deBruijn64tab), ("internal/strconv.uint64pow10", Rows.laid_internal_strconv_uint64pow10), ("unicode/utf8.acceptRanges", Rows.laid_unicode_utf8_acceptRanges), ("strconv.ErrRange", Rows.laid_strconv_ErrRange), ("strconv.ErrSyntax", Rows.laid_strconv_ErrSyntax), ("unicode/utf8.first", Rows.laid_unicode_utf8_first)]
set_option maxRecDepth 100000 in
theorem env5_of_laid {W : World} (h : laidMetH Tryz.prog laidL5 W) : Env W := by
  have h' : laidMet Tryz.prog laidL5 W := h
  obtain ⟨ps, ⟨_, _, _, _, _, _, _, _, _, _, ⟨_, _, _, _, _, _, _, _, _, _, ⟨g3, t3, c3, f3, p3, q3, a3, b3, e3, d3, ⟨_, _, _, _, _, _, _, _, _, _, ⟨g4, t4, c4, f4, p4, q4, a4, b4, e4, d4, ⟨g5, t5, c5, f5, p5, q5, a5, b5, e5, d5, _⟩, _⟩, _⟩, _⟩, _⟩, _⟩, _⟩ := h'
  exact ⟨tab_of_row gPow gPowT Tryz.underlying154 Tryz.underlying118 (by kernel_rfl) (by kernel_rfl) ⟨g3, t3, c3, f3, p3, a3, b3, e3, d3⟩,
    err_of_row gErrR gErrRT Tryz.underlying78 ⟨g4, t4, c4, f4, p4, a4, b4, e4, d4⟩,
    err_of_row gErrS gErrST Tryz.underlying78 ⟨g5, t5, c5, f5, p5, a5, b5, e5, d5⟩⟩
noncomputable def laidWorld5 (os : Os) : World := World.laidAll Tryz.prog os laidL5
set_option maxRecDepth 100000 in
theorem laidW5_met (os : Os) (args : Array Value) : laidMet Tryz.prog laidL5 ((laidWorld5 os).forCall (fun _ _ => 0) ⟨#[], args, []⟩).memory :=
  laidMet_laidAll args (by as_aux_lemma => kernel_rfl) (by as_aux_lemma => kernel_rfl)
set_option maxRecDepth 100000 in
theorem laidW5_shaped (os : Os) (args : Array Value) : ((laidWorld5 os).forCall (fun _ _ => 0) ⟨#[], args, []⟩).Shaped Tryz.prog :=
  World.shaped_of_ZipB (by as_aux_lemma => kernel_rfl) (by as_aux_lemma => kernel_rfl)
set_option maxRecDepth 100000 in
/-- a witness whose world's shape is known -/
theorem witness_row_sh {H : Type} {enc : TypeId × Value → H} {C : Checked} {os : Os} {f : FuncId} {fn : Func} {s : OpenSpec} {conds : List PathCond} {apart : Bool} {laid : List (String × DataW Unit)} (modest : Bool) (w0 : World) (args : Array Value) (hos : w0.os = os)
    (hsh : (w0.forCall (fun _ _ => 0) ⟨#[], args, []⟩).Shaped C.prog)
    (hok : Input.okWideB C.prog (w0.forCall (fun _ _ => 0) ⟨#[], args, []⟩) f ⟨#[], args, []⟩ = true)
    (hrow : s.preRow enc C.prog fn conds apart laid (w0.forCall (fun _ _ => 0) ⟨#[], args, []⟩).memory args) :
    ∃ (w : World) (tape : Tape) (i : Input), w.os = os ∧ (w.forCall tape i).Shaped C.prog ∧ i.vars = [] ∧ Input.okWide C.prog (w.forCall tape i) .any w.heap.size f i ∧
      s.preRow enc C.prog fn conds apart laid (w.forCall tape i).memory i.args ∧ ({ modest := modest } : Assume).holds C.prog (lone (Frame.enter C.prog f i.args .normal) [] (w.forCall tape i)) :=
  ⟨w0, fun _ _ => 0, ⟨#[], args, []⟩, hos, hsh, (Input.okWide_of_okWideB (base := 0) hok).1, (Input.okWide_of_okWideB hok).2, hrow, by
    simp only [Assume.holds]
    exact ⟨by simp, by simp, fun _ => Modest.zero, by simp, by simp⟩⟩
end Go.Proofs.YtdklhkdlndlgnaaGreatDoor
namespace Go.Proofs.YtdklhkdlndlgnaaGreatDoor
open Go.ChangeShapes Go.WideShapes Go.ChangeAt Go.RowKit
attribute [local irreducible] wpList Calls Code.wp
set_option maxRecDepth 100000 in
theorem contractScriptLineExact (H : Type) (enc : TypeId × Value → H) (W : World) (base : Nat) (args : Array Value) (ds gs : List (DataW H)) (before : List MemPlace)
    (hval : ∀ (j : Nat) t v, Tryz.f3.params[j]? = some t → args[j]? = some v → Value.okWide Tryz.prog W .any base t v)
    (hW : DataW.Whole enc Tryz.prog Tryz.f3.params.toList Rows.scriptLineExactSpec.vars false W args.toList ds gs before) (hL : laidMetH Tryz.prog Rows.scriptLineExactUptoRow.laid W)
    (hcond : ∀ k, (Rows.OpenSpec.upto Rows.scriptLineExactSpec).cond = some k → k H (ds ++ gs) = true)
    (hR : (DataW.weightsEach Tryz.prog (Tryz.f3.params.toList ++ (Rows.OpenSpec.upto Rows.scriptLineExactSpec).bare.plain.varTypes Tryz.prog) (ds ++ gs)).all (· ≤ reachBytes) = true) :
    Calls Tryz.prog 3 args W fun e W' => ∃ v, e = .returned v ∧ Rows.scriptLineExactSpec.post enc Tryz.prog Tryz.f3 false true false false W args v W' := by
  have hW' := hW
  obtain ⟨p, q, hA0, hV, rfl, hfz, hnd⟩ := hW
  have hA : DataW.TrodAll enc Tryz.prog W 0 (fun _ => true) true Tryz.f3.params.toList args.toList ds p := hA0
  rw [Tryz.params3] at hA hval hR
  obtain ⟨v0, vs0, d0, ds0, p0, q0, hargs, rfl, rfl, h0, r0⟩ := trodAll_cons hA
  obtain ⟨rfl, rfl, rfl⟩ := trodAll_nil r0
  obtain rfl : args = #[v0] := by cases args; simp_all
  refine (rowLine (hval 0 31 v0 rfl rfl) h0 (upto_one (hcond _ rfl)) (env5_of_laid hL)).mono fun e W' ⟨he, hbel⟩ => ?_
  subst he
  exact ⟨_, rfl, post_true laidOut' (types_ok _ (by kernel_rfl)) Tryz.underlying4 rfl rfl hW' hbel (fun gs h => by subst h; rfl)⟩
theorem laid_metScriptLineExact (os : Os) : laidMet Tryz.prog Rows.scriptLineExactUptoRow.laid ((laidWorld5 os).forCall (fun _ _ => 0) ⟨#[], #[.agg #[.int .i64 0, .int .i64 0, .int .i64 0, .string ⟨#[]⟩, .slice none 0 0, .slice none 0 0, .slice none 0 0, .int .i64 0, .bool false, .int .i64 0, .int .i64 0, .bool false]], []⟩).memory :=
  laidW5_met os _
theorem readsScriptLineExact (os : Os) {H : Type} (enc : TypeId × Value → H) : ∃ places, DataW.whole enc Tryz.prog ((laidWorld5 os).forCall (fun _ _ => 0) ⟨#[], #[.agg #[.int .i64 0, .int .i64 0, .int .i64 0, .string ⟨#[]⟩, .slice none 0 0, .slice none 0 0, .slice none 0 0, .int .i64 0, .bool false, .int .i64 0, .int .i64 0, .bool false]], []⟩).memory Tryz.f3.params.toList Rows.scriptLineExactSpec.vars false (#[.agg #[.int .i64 0, .int .i64 0, .int .i64 0, .string ⟨#[]⟩, .slice none 0 0, .slice none 0 0, .slice none 0 0, .int .i64 0, .bool false, .int .i64 0, .int .i64 0, .bool false]] : Array Value).toList 8 = some ([.agg [.lit (.int .i64 0), .agg [.lit (.int .i64 0), .lit (.int .i64 0), .lit (.string []), .nil, .nil], .nil, .agg [.lit (.int .i64 0), .lit (.bool false)], .lit (.int .i64 0), .lit (.int .i64 0), .lit (.bool false)]], [], places) :=
  ⟨[], by kernel_rfl⟩
set_option maxRecDepth 100000 in
theorem liftedScriptLineExact (os : Os) (started : os.Started) (H : Type) (enc : TypeId × Value → H) (F : Stop.Interp) :
    ReturnsInHanded {} Tryz.checked os 3 .any ((Rows.OpenSpec.upto Rows.scriptLineExactSpec).preRow enc Tryz.prog Tryz.f3 Rows.scriptLineExactUptoRow.domain false Rows.scriptLineExactUptoRow.laid) (((Rows.OpenSpec.upto Rows.scriptLineExactSpec).at F).post enc Tryz.prog Tryz.f3 false true false false) := by
  obtain ⟨places, hx⟩ := readsScriptLineExact os enc
  refine returnsInHanded_of_row (C := Tryz.checked) (s := Rows.OpenSpec.upto Rows.scriptLineExactSpec) own started (by kernel_rfl) Tryz.func3
    (witness_row_sh (enc := enc) (C := Tryz.checked) false (laidWorld5 os) #[.agg #[.int .i64 0, .int .i64 0, .int .i64 0, .string ⟨#[]⟩, .slice none 0 0, .slice none 0 0, .slice none 0 0, .int .i64 0, .bool false, .int .i64 0, .int .i64 0, .bool false]] (World.laidAll_os _ _ _) (laidW5_shaped os _) (by as_aux_lemma => kernel_rfl)
      (OpenSpec.preRow_of_cond 8 hx (by kernel_rfl) (fun k hk => by cases hk; kernel_rfl) (by kernel_rfl) (laid_metScriptLineExact os))) ?_
  intro W base args ds gs before hval hW _ hcond hR hL _ _
  exact contractScriptLineExact H enc W base args ds gs before hval hW hL hcond hR
theorem and_tScriptLineExact {a b : Bool} (h1 : a = true) (h2 : b = true) : (a && b) = true := by rw [h1, h2]; rfl
set_option maxRecDepth 100000 in
set_option maxHeartbeats 20000000 in
theorem joinedScriptLineExact : joinedFacts Tryz.prog 3 Tryz.f3 (Rows.OpenSpec.upto Rows.scriptLineExactSpec).bare Rows.scriptLineExactUptoRow = true := by
  unfold joinedFacts
  repeat' (with_reducible apply and_tScriptLineExact)
  all_goals as_aux_lemma => kernel_rfl
theorem saidScriptLineExact : Rows.ScriptLineExactUptoSaid :=
  OpenClaim.holds_of_cond 3 Tryz.f3 rfl rfl rfl rfl rfl rfl rfl ⟨rfl, rfl, rfl, rfl, rfl⟩ rfl rfl rfl rfl rfl (by kernel_rfl) Tryz.func3 joinedScriptLineExact
    (of_decide_eq_true (by kernel_rfl)) (by unfold Func.isWrapper; first | (rw [if_pos (by decide +kernel)]; kernel_rfl) | (rw [if_neg (by decide +kernel)]; exact ⟨rfl, rfl⟩))
    (fun os started H enc _ F => by rw [OpenClaim.pre_eq_preRow]; exact liftedScriptLineExact os started H enc F)
theorem plainScriptLineExact (f : FuncId) (fn : Func) (hf : Tryz.pinned.checked.prog.funcNamed "supergraph/supergraphlaw55.ScriptLineExact" = some f) (hfn : Tryz.pinned.checked.prog.funcs[f]? = some fn) :
    true = Tryz.pinned.checked.prog.looks [] ∧ ∀ (j : Nat) t, fn.params[j]? = some t → Tryz.pinned.checked.prog.wantsStandIn t = false := by
  obtain rfl : f = 3 := Option.some.inj ((show Tryz.prog.funcNamed "supergraph/supergraphlaw55.ScriptLineExact" = some 3 by kernel_rfl).symm.trans hf) |>.symm
  obtain rfl : fn = Tryz.f3 := (Option.some.inj (Tryz.func3.symm.trans hfn)).symm
  refine ⟨by kernel_rfl, fun j t ht => ?_⟩
  rw [Tryz.params3] at ht
  have hm := Array.mem_of_getElem? ht
  simp only [List.mem_toArray, List.mem_cons, List.not_mem_nil, or_false] at hm
  rcases hm with rfl
  · exact (show Tryz.prog.wantsStandIn 31 = false by kernel_rfl)
end Go.Proofs.YtdklhkdlndlgnaaGreatDoor
