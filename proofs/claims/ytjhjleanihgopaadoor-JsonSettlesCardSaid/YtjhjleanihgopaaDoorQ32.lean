/- Parts of a proof, merged by a program (shake.py). -/
import Derived.Test.YtjhjleanihgopaaDoorQ31
namespace Go.Proofs.YtjhjleanihgopaaDoor
open Go.RowKit
attribute [local irreducible] wpList Calls Code.wp
set_option maxRecDepth 100000 in
theorem awo_sub {X : Cx} {nn : Nat} {st st' : Vst nn} {ops : Array Oper} {l : List Oper} {KK : Vst nn → Prop} (hs : Sub X st st') (h : AWo X ops l st' KK) : AWo X ops l st KK := fun s w a hI => by
  obtain ⟨s', hI'⟩ := hs s w a hI
  exact h s' w a hI'
attribute [local irreducible] AW AWo OpOk seqK blockK scopeK loopK endK endKB AC ACB absLex absLexG Yld YldG Sub
section
variable {X : Cx} {nn : Nat} {st : Vst nn} {o : Oper} {ops : Array Oper} {l : List Oper} {d : Option Tmp} {KK : Vst nn → Prop}
set_option maxRecDepth 100000 in
/-- a call that writes to a builder -/
theorem s_bcall {f : FuncId} {m : Nat} {vs az : List V} {tb tu : TypeId} {bl bl' : List UInt8} {r : V} (hg : o.guard = none) (hd : o.dst = d) (h : act1 X.P st.rs (ev st) o.op = .call f vs) (hv : vs = .bx m 0 :: az) (hr : st.rs m = some (.bld tb tu bl))
    (hc : ACB X.e X.P f (.bx (pn 0) 0 :: az) [.bld tb tu bl] r [.bld tb tu bl']) (haz : ∀ φ, renL φ az = az) (hrr : ∀ φ, renV φ r = r)
    (hK : AWo X ops l ((st.res m (.bld tb tu bl')).put d r) KK) : AWo X ops (o :: l) st KK := by
  subst hv
  refine s_callB [m] hg hd h hc (by simp) (by simp only [renL, renV, φin_one, haz]) (by simp [hr, renR]) ?_
  have e : ([Res.bld tb tu bl'].map (renR (φout [m]))) = [Res.bld tb tu bl'] := rfl
  rw [e, resN_one, hrr]
  exact hK
set_option maxRecDepth 100000 in
theorem res_res {m : Nat} {a b : Res} : (st.res m a).res m b = st.res m b := by
  unfold Vst.res
  congr 1
  funext q
  unfold updR
  by_cases h : q = m <;> simp [h]
set_option maxRecDepth 100000 in
/-- the first call that writes to a builder -/
theorem s_bcall0 {f : FuncId} {m : Nat} {vs az : List V} {tb tu : TypeId} {bl' : List UInt8} {r : V} (hg : o.guard = none) (hd : o.dst = d) (h0 : act1 X.P st.rs (ev st) o.op = .call f vs) (hv : vs = .bx m 0 :: az) (hr : st.rs m = some (.box tb [.c (.pointer none), .c (.slice none 0 0)]))
    (hc : ACB X.e X.P f (.bx (pn 0) 0 :: az) [.bld tb tu []] r [.bld tb tu bl']) (h : act1 X.P (st.res m (.bld tb tu [])).rs (ev (st.res m (.bld tb tu []))) o.op = .call f vs) (haz : ∀ φ, renL φ az = az) (hrr : ∀ φ, renV φ r = r)
    (hK : AWo X ops l ((st.res m (.bld tb tu bl')).put d r) KK) : AWo X ops (o :: l) st KK := by
  refine awo_sub (Sub.bld (e := tu) hr) ?_
  refine s_bcall hg hd h hv (by simp [Vst.res, updR]) hc haz hrr ?_
  rw [res_res]
  exact hK
set_option maxRecDepth 100000 in
/-- what a builder holds -/
theorem s_bs {m : Nat} {vs : List V} {tb tu : TypeId} {bl : List UInt8} (hg : o.guard = none) (hd : o.dst = d) (h : act1 X.P st.rs (ev st) o.op = .call 35 vs) (hv : vs = [.bx m 0]) (hr : st.rs m = some (.bld tb tu bl)) (ht : tb = 78 ∧ tu = 5) (hP : X.P = Tryd.prog)
    (hK : AWo X ops l (st.put d (.c (.string ⟨bl.toArray⟩))) KK) (hlen : bl.length ≤ maxLen) : AWo X ops (o :: l) st KK := by
  obtain ⟨rfl, rfl⟩ := ht
  have hc := string_acb (e := X.e) bl hlen
  rw [← hP] at hc
  refine s_bcall hg hd h hv hr hc (fun _ => rfl) (fun _ => rfl) ?_
  rw [res_same hr]
  exact hK
end
set_option maxRecDepth 100000 in
theorem seqP_len {h : Nat → List UInt8} {f : Nat → Bool × List UInt8} {g : Nat → Nat} : ∀ {n : Nat}, (∀ i, i < n → (h i).length + (f i).2.length ≤ g i) → (seqP h f n).2.length ≤ sumN g n
  | 0, _ => Nat.le_refl _
  | n + 1, hh => by
    have h1 := seqP_len (h := h) (f := f) (n := n) fun i hi => hh i (by omega)
    have h2 := hh n (by omega)
    rw [sumN_succ]
    by_cases e : (seqP h f n).1 = true
    · rw [seqP_go e, List.length_append, List.length_append]; omega
    · rw [seqP, if_neg e]; omega
set_option maxRecDepth 100000 in
theorem quoteU_length (l : List UInt8) : (quoteU l).length ≤ 6 * l.length + 2 := by
  have := escL_length l
  simp only [quoteU, List.length_append, List.length_cons, List.length_nil]; omega
set_option maxRecDepth 100000 in
theorem itoa_length {n : Int} (h0 : -9223372036854775808 ≤ n) (h1 : n ≤ 9223372036854775807) : (Lib.itoa n).length ≤ 21 := by
  unfold Lib.itoa
  split
  · have := dec_len (u := n.natAbs) (by omega)
    simp only [List.length_cons]; omega
  · have := dec_len (u := n.toNat) (by omega)
    omega
set_option maxRecDepth 100000 in
theorem leafU_len (d : D) (hi : -9223372036854775808 ≤ (d.f 1).n ∧ (d.f 1).n ≤ 9223372036854775807) : (leafU d).length + 1 ≤ 32 * (1 + (d.f 2).s.size) := by
  unfold leafU
  split
  · simp; omega
  split
  · split <;> simp <;> omega
  split
  · have := itoa_length hi.1 hi.2
    omega
  · have := quoteU_length (d.f 2).s.data.toList
    have e : (d.f 2).s.data.toList.length = (d.f 2).s.size := rfl
    omega
set_option maxRecDepth 100000 in
theorem sepU_len (d : D) (i : Nat) : (sepU d i).length ≤ 1 + (if (d.f 0).n = 6 then 6 * (keyU d i).length + 3 else 0) := by
  unfold sepU
  rw [List.length_append]
  have h1 : (if 0 < i then [(44 : UInt8)] else []).length ≤ 1 := by split <;> simp
  have := quoteU_length (keyU d i)
  by_cases h6 : (d.f 0).n = 6
  · rw [if_pos h6, if_pos h6, List.length_append]; simp only [List.length_cons, List.length_nil]; omega
  · rw [if_neg h6, if_neg h6]; simp only [List.length_nil]; omega
set_option maxRecDepth 100000 in
theorem kw_sum (l : List D) : kwD l = sumN (fun i => 1 + (gD l i).s.size) l.length := by
  unfold kwD; rw [← sum_gD]
set_option maxRecDepth 100000 in
theorem sumN_add (g g' : Nat → Nat) : ∀ n, sumN (fun i => g i + g' i) n = sumN g n + sumN g' n
  | 0 => rfl
  | n + 1 => by rw [sumN_succ, sumN_succ, sumN_succ, sumN_add g g' n]; omega
set_option maxRecDepth 100000 in
theorem sumN_mul (c : Nat) (g : Nat → Nat) : ∀ n, sumN (fun i => c * g i) n = c * sumN g n
  | 0 => rfl
  | n + 1 => by rw [sumN_succ, sumN_succ, sumN_mul c g n, Nat.mul_add]
set_option maxRecDepth 100000 in
theorem keyU_len (d : D) (i : Nat) : (keyU d i).length = (gD (d.f 4).l i).s.size := rfl
/-- room for element i -/
def gW (k : Nat) (d : D) (i : Nat) : Nat := 32 * wtJ k (gD (d.f 3).l i) + (if (d.f 0).n = 6 then 32 * (1 + (gD (d.f 4).l i).s.size) else 0)
set_option maxRecDepth 100000 in
theorem gW_sum {k : Nat} {d : D} (h6 : (d.f 0).n = 6 → (d.f 4).l.length = (d.f 3).l.length) : sumN (gW k d) (d.f 3).l.length ≤ 32 * (kwD (d.f 4).l + sumN (fun i => wtJ k (gD (d.f 3).l i)) (d.f 3).l.length) := by
  by_cases e6 : (d.f 0).n = 6
  · have : gW k d = fun i => 32 * wtJ k (gD (d.f 3).l i) + 32 * (1 + (gD (d.f 4).l i).s.size) := by funext i; unfold gW; rw [if_pos e6]
    rw [this, sumN_add, sumN_mul, sumN_mul, kw_sum, h6 e6]
    omega
  · have : gW k d = fun i => 32 * wtJ k (gD (d.f 3).l i) := by funext i; unfold gW; rw [if_neg e6]; rfl
    rw [this, sumN_mul]
    omega
set_option maxRecDepth 100000 in
theorem sep_gW (k : Nat) (d : D) (i : Nat) : (sepU d i).length + 32 * wtJ k (gD (d.f 3).l i) ≤ gW k d i + 1 := by
  have h1 := sepU_len d i
  rw [keyU_len] at h1
  unfold gW
  by_cases e6 : (d.f 0).n = 6
  · rw [if_pos e6] at h1 ⊢; omega
  · rw [if_neg e6] at h1 ⊢; omega
set_option maxRecDepth 100000 in
/-- what is written is short -/
theorem prP_len : ∀ {k : Nat} {d : D}, Dp k d → intsJ k d → (prP k d).2.length + 1 ≤ 32 * wtJ k d
  | 0, _, h, _ => h.elim
  | k + 1, d, h, hi => by
    rw [wt_eq]
    have hlen : ∀ i, i < (d.f 3).l.length → (prP k (gD (d.f 3).l i)).2.length + 1 ≤ 32 * wtJ k (gD (d.f 3).l i) := fun i hil => prP_len (h i hil) (hi.2 i hil)
    unfold prP
    split
    · simp only [List.length_nil]; omega
    split
    · have := leafU_len d hi.1
      dsimp only
      omega
    split
    · simp only [List.length_nil]; omega
    rename_i h0 h4 h6
    have hy : (seqP (sepU d) (fun i => prP k (gD (d.f 3).l i)) (d.f 3).l.length).2.length ≤ 32 * (kwD (d.f 4).l + sumN (fun i => wtJ k (gD (d.f 3).l i)) (d.f 3).l.length) := by
      refine Nat.le_trans (seqP_len (g := gW k d) fun i hil => ?_) (gW_sum fun e6 => ?_)
      · have h1 := sep_gW k d i
        have h2 := hlen i hil
        omega
      · by_cases hh : (d.f 4).l.length = (d.f 3).l.length
        · exact hh
        · exact (h6 ⟨e6, hh⟩).elim
    dsimp only
    have e1 : (if (d.f 0).n = 6 then [(123 : UInt8)] else [91]).length = 1 := by split <;> rfl
    have e2 : (if (d.f 0).n = 6 then [(125 : UInt8)] else [93]).length = 1 := by split <;> rfl
    split
    · dsimp only
      rw [List.length_append, List.length_append, e1, e2]; omega
    · dsimp only
      rw [List.length_append, e1]; omega
def pq (k : Nat) (d : D) (i : Nat) : Bool × List UInt8 := seqP (sepU d) (fun i => prP k (gD (d.f 3).l i)) i
set_option maxRecDepth 100000 in
theorem pr_list {k : Nat} {d : D} (h : (d.f 0).n = 5) : prP (k + 1) d = if (pq k d (d.f 3).l.length).1 = true then (true, [91] ++ (pq k d (d.f 3).l.length).2 ++ [93]) else (false, [91] ++ (pq k d (d.f 3).l.length).2) := by
  unfold prP
  rw [if_neg (by omega), if_neg (by omega), if_neg (by omega)]
  dsimp only
  rw [if_neg (show ¬ (d.f 0).n = 6 by omega), if_neg (show ¬ (d.f 0).n = 6 by omega)]
  rfl
set_option maxRecDepth 100000 in
theorem pr_obj {k : Nat} {d : D} (h : (d.f 0).n = 6) (hl : (d.f 4).l.length = (d.f 3).l.length) : prP (k + 1) d = if (pq k d (d.f 3).l.length).1 = true then (true, [123] ++ (pq k d (d.f 3).l.length).2 ++ [125]) else (false, [123] ++ (pq k d (d.f 3).l.length).2) := by
  unfold prP
  rw [if_neg (by omega), if_neg (by omega), if_neg (fun h => h.2 hl)]
  dsimp only
  rw [if_pos h, if_pos h]
  rfl
set_option maxRecDepth 100000 in
theorem pr_bad {k : Nat} {d : D} (h : (d.f 0).n = 6) (hl : ¬ (d.f 4).l.length = (d.f 3).l.length) : prP (k + 1) d = (false, []) := by
  unfold prP
  rw [if_neg (by omega), if_neg (by omega), if_pos ⟨h, hl⟩]
set_option maxRecDepth 100000 in
theorem pr_leaf {k : Nat} {d : D} (h : 0 ≤ (d.f 0).n ∧ (d.f 0).n ≤ 4) : prP (k + 1) d = (true, leafU d) := by
  unfold prP
  rw [if_neg (by omega), if_pos h.2]
set_option maxRecDepth 100000 in
theorem pr_none {k : Nat} {d : D} (h : (d.f 0).n < 0 ∨ 6 < (d.f 0).n) : prP (k + 1) d = (false, []) := by
  unfold prP
  rw [if_pos h]
set_option maxRecDepth 100000 in
theorem leaf0 {d : D} (h : (d.f 0).n = 0) : leafU d = [110, 117, 108, 108] := by unfold leafU; rw [if_pos h]
set_option maxRecDepth 100000 in
theorem leaf1f {d : D} (h : (d.f 0).n = 1) (h1 : (d.f 1).n = 0) : leafU d = [102, 97, 108, 115, 101] := by unfold leafU; rw [if_neg (by omega), if_pos h, if_pos h1]
set_option maxRecDepth 100000 in
theorem leaf1t {d : D} (h : (d.f 0).n = 1) (h1 : ¬ (d.f 1).n = 0) : leafU d = [116, 114, 117, 101] := by unfold leafU; rw [if_neg (by omega), if_pos h, if_neg h1]
set_option maxRecDepth 100000 in
theorem leaf2 {d : D} (h : (d.f 0).n = 2) : leafU d = Lib.itoa (d.f 1).n := by unfold leafU; rw [if_neg (by omega), if_neg (by omega), if_pos h]
set_option maxRecDepth 100000 in
theorem leaf34 {d : D} (h : ¬ (d.f 0).n = 0) (h1 : ¬ (d.f 0).n = 1) (h2 : ¬ (d.f 0).n = 2) : leafU d = quoteU (d.f 2).s.data.toList := by unfold leafU; rw [if_neg h, if_neg h1, if_neg h2]
noncomputable def HpL (d : D) (bl : List UInt8) (i : Nat) : Vst 101 := stS 101 [(0, .bx (pn 0) 0), (44, .sl 39 (d.f 3).l), (45, .c (.int .i64 ((d.f 3).l.length : Int))), (46, .c (.int .i64 (i : Int)))] [(pn 0, .bld 78 5 bl)]
noncomputable def HpO (d : D) (bl : List UInt8) (i : Nat) : Vst 101 := stS 101 [(0, .bx (pn 0) 0), (3, .bx 3 0), (74, .sl 39 (d.f 3).l), (75, .c (.int .i64 ((d.f 3).l.length : Int))), (76, .c (.int .i64 (i : Int)))] [(pn 0, .bld 78 5 bl), (3, .box 39 (cellsV Tryd.prog 12 39 d))]
set_option maxRecDepth 100000 in
theorem pq_go {k : Nat} {d : D} {i : Nat} (h : (pq k d i).1 = true) : pq k d (i + 1) = ((prP k (gD (d.f 3).l i)).1, (pq k d i).2 ++ sepU d i ++ (prP k (gD (d.f 3).l i)).2) := seqP_go h
set_option maxRecDepth 100000 in
theorem pq_stop {k : Nat} {d : D} {i n : Nat} (h : (pq k d i).1 = false) (hn : i ≤ n) : pq k d n = pq k d i := by
  rw [show n = i + (n - i) by omega]; exact seqP_stop h _
set_option maxRecDepth 100000 in
theorem sep5 {d : D} (h : (d.f 0).n = 5) (i : Nat) : sepU d i = if 0 < i then [44] else [] := by
  unfold sepU; rw [if_neg (show ¬ (d.f 0).n = 6 by omega), List.append_nil]
set_option maxRecDepth 100000 in
theorem pq_len {k : Nat} {d : D} (h : Dp (k + 1) d) (hi : intsJ (k + 1) d) {i : Nat} (hn : i ≤ (d.f 3).l.length) : (pq k d i).2.length ≤ sumN (gW k d) i :=
  seqP_len fun q hq => by
    have h1 := sep_gW k d q
    have h2 := prP_len (h q (by omega)) (hi.2 q (by omega))
    omega
set_option maxRecDepth 100000 in
theorem pq_room {k : Nat} {d : D} (h : Dp (k + 1) d) (hi : intsJ (k + 1) d) (h6 : (d.f 0).n = 6 → (d.f 4).l.length = (d.f 3).l.length) {i : Nat} (hn : i < (d.f 3).l.length) : (pq k d i).2.length + (sepU d i).length + 32 * wtJ k (gD (d.f 3).l i) + 31 ≤ 32 * wtJ (k + 1) d := by
  have h1 := pq_len h hi (Nat.le_of_lt hn)
  have h2 := sep_gW k d i
  have h3 := sumN_le (g := gW k d) (show i + 1 ≤ (d.f 3).l.length from hn)
  rw [sumN_succ] at h3
  have h4 := gW_sum (k := k) h6
  rw [wt_eq]
  omega
set_option maxRecDepth 100000 in
theorem pq_end {k : Nat} {d : D} (h : Dp (k + 1) d) (hi : intsJ (k + 1) d) (h6 : (d.f 0).n = 6 → (d.f 4).l.length = (d.f 3).l.length) {i : Nat} (hn : i ≤ (d.f 3).l.length) : (pq k d i).2.length + 32 ≤ 32 * wtJ (k + 1) d := by
  have h1 := pq_len h hi hn
  have h3 := sumN_le (g := gW k d) hn
  have h4 := gW_sum (k := k) h6
  rw [wt_eq]
  omega
set_option maxRecDepth 100000 in
theorem pr_go {k : Nat} {d : D} {i : Nat} (hn : i < (d.f 3).l.length) (h : (pq k d i).1 = true) (hf : (!(prP k (gD (d.f 3).l i)).1) = true) (h6 : (d.f 0).n = 5 ∨ ((d.f 0).n = 6 ∧ (d.f 4).l.length = (d.f 3).l.length)) :
    prP (k + 1) d = (false, (if (d.f 0).n = 6 then [123] else [91]) ++ ((pq k d i).2 ++ sepU d i ++ (prP k (gD (d.f 3).l i)).2)) := by
  have e := pq_go h
  have hf : (prP k (gD (d.f 3).l i)).1 = false := by simpa using hf
  have e1 : (pq k d (i + 1)).1 = false := by rw [e]; exact hf
  have e2 := pq_stop e1 (show i + 1 ≤ (d.f 3).l.length from hn)
  rcases h6 with h5 | ⟨h6, hl⟩
  · rw [pr_list h5, e2, e1, e, if_neg (by decide), if_neg (by omega)]
  · rw [pr_obj h6 hl, e2, e1, e, if_neg (by decide), if_pos h6]
set_option maxRecDepth 100000 in
theorem pr_end {k : Nat} {d : D} (h : (pq k d (d.f 3).l.length).1 = true) (h6 : (d.f 0).n = 5 ∨ ((d.f 0).n = 6 ∧ (d.f 4).l.length = (d.f 3).l.length)) :
    prP (k + 1) d = (true, (if (d.f 0).n = 6 then [123] else [91]) ++ (pq k d (d.f 3).l.length).2 ++ (if (d.f 0).n = 6 then [125] else [93])) := by
  rcases h6 with h5 | ⟨h6, hl⟩
  · rw [pr_list h5, if_pos h, if_neg (by omega), if_neg (by omega)]
  · rw [pr_obj h6 hl, if_pos h, if_pos h6, if_pos h6]
set_option maxRecDepth 100000 in
theorem sep6 {d : D} (h : (d.f 0).n = 6) (i : Nat) : sepU d i = (if 0 < i then [44] else []) ++ (quoteU (keyU d i) ++ [58]) := by
  unfold sepU; rw [if_pos h]
set_option maxHeartbeats 4000000 in
set_option maxRecDepth 100000 in
theorem printP_core (k : Nat) (d : D) (bl : List UInt8) (h : Dp (k + 1) d) (hi : intsJ (k + 1) d) (hw : wtJ (k + 1) d ≤ 1000000) (hb : bl.length + 32 * wtJ (k + 1) d ≤ 100000000)
    (ih : ∀ i bl, i < (d.f 3).l.length → bl.length + 32 * wtJ k (gD (d.f 3).l i) ≤ 100000000 → ACB EN5 Tryd.prog 34 [.bx (pn 0) 0, .agg (cellsV Tryd.prog 12 39 (gD (d.f 3).l i))] [.bld 78 5 bl] (.c (.bool (prP k (gD (d.f 3).l i)).1)) [.bld 78 5 (bl ++ (prP k (gD (d.f 3).l i)).2)]) :
    ACB EN5 Tryd.prog 34 [.bx (pn 0) 0, .agg (cellsV Tryd.prog 12 39 d)] [.bld 78 5 bl] (.c (.bool (prP (k + 1) d).1)) [.bld 78 5 (bl ++ (prP (k + 1) d).2)] := by
  have hin := wt_in h hw
  have htx := hin.text
  have hitl := hin.items
  have hq := quoteP_ac (d.f 2).s (by omega)
  have hdc := decimalP_ac (d.f 1).n
  have hi1 := itoa_length hi.1.1 hi.1.2
  have hq1 := quoteU_length (d.f 2).s.data.toList
  have hq2 : (d.f 2).s.data.toList.length = (d.f 2).s.size := rfl
  refine acb_enter (fn := Tryd.f34) 101 Tryd.func34 rfl rfl ?_
  intro pas w0 w he hpp
  repeat' (first
    | (apply s_ws rfl
       · conv => lhs; whnf
       · conv => lhs; whnf
       · rfl
       · conv => lhs; whnf; arg 1; whnf
       · rfl)
    | (apply s_wb rfl
       · conv => lhs; whnf
       · conv => lhs; whnf
       · rfl
       · conv => lhs; whnf; arg 1; whnf
       · rfl
       · rfl)
    | refine aw_seq ?_
    | refine aw_region ?_
    | refine awo_nil ?_
    | refine k_seq ?_
    | refine k_block ?_
    | refine k_scope ?_
    | refine aw_block ?_
    | refine aw_skip ?_
    | refine aw_label ?_
    | refine aw_scope ?_
    | (apply s_val rfl
       · conv => lhs; whnf
       · conv => lhs; whnf; arg 2; whnf)
    | (apply s_call rfl
       · conv => lhs; whnf
       · conv => lhs; whnf
       · first | exact hq | exact hdc)
    | (apply s_box rfl rfl rfl rfl
       · conv => lhs; whnf; arg 1; whnf
       · rfl)
    | (apply s_alloc rfl rfl rfl rfl
       · conv => lhs; whnf; arg 1; whnf
       · rfl)
    | (apply s_store rfl rfl rfl
       · conv => lhs; whnf
       · conv => lhs; whnf; arg 1; whnf
       · conv => lhs; whnf; arg 1; whnf
       · exact ⟨by kernel_rfl, by kernel_rfl⟩
       · rfl)
    | (apply aw_cond_t
       · conv => lhs; whnf; arg 1; arg 1; whnf)
    | (apply aw_cond_f
       · conv => lhs; whnf; arg 1; arg 1; whnf)
    | (refine aw_cond (by conv => lhs; whnf) ?_ ?_ <;> intro hb)
    | refine aw_ret ?_
    | refine aw_exit ?_
    | refine k_seq_exit ?_
    | refine k_seq_ret ?_
    | refine k_block_ret ?_
    | refine k_block_hit rfl ?_
    | refine k_block_miss rfl ?_
    | refine k_scope_exit ?_
    | refine k_scope_ret ?_
    | refine k_loop_exit ?_
    | refine k_loop_ret ?_
    | refine k_endB ⟨?_, ?_⟩
    | refine k_endB_ret ⟨?_, ?_⟩
    | exact (rfl : _ = V.tup [])
    | (refine ⟨_, by conv => lhs; whnf; arg 2; whnf, ?_⟩; conv => rhs; whnf)
    | exact trivial
    | intro hg)
  all_goals try (simp only [beq_iff_eq, beq_eq_false_iff_ne, ne_eq, bne_iff_ne, Bool.not_eq_true', Nat.zero_add, Nat.reduceAdd] at *)
  all_goals try
    first
      | omega
      | (show V.c _ = V.c _; rw [pr_leaf (by omega)])
      | (show V.c _ = V.c _; rw [pr_none (by omega)])
      | (show V.c _ = V.c _; rw [pr_bad (by omega) (by omega)])
      | (rw [pr_leaf (by omega), leaf0 (by omega)]; exact ⟨rfl, trivial⟩)
      | (rw [pr_leaf (by omega), leaf1f (by omega) (by omega)]; exact ⟨rfl, trivial⟩)
      | (rw [pr_leaf (by omega), leaf1t (by omega) (by omega)]; exact ⟨rfl, trivial⟩)
      | (rw [pr_leaf (by omega), leaf2 (by omega)]; exact ⟨rfl, trivial⟩)
      | (rw [pr_leaf (by omega), leaf34 (by omega) (by omega) (by omega)]; exact ⟨rfl, trivial⟩)
      | (rw [pr_none (by omega)]; exact ⟨by rw [List.append_nil]; rfl, trivial⟩)
      | (rw [pr_bad (by omega) (by omega)]; exact ⟨by rw [List.append_nil]; rfl, trivial⟩)
      | exact Nat.le_trans (Nat.add_le_add_left (show ByteArray.size _ ≤ 5 by decide) _) (by omega)
      | (rw [bs_size]; omega)
  · have h5 : (d.f 0).n = 5 := by omega
    refine aw_loop (fun j st => ∃ i, i + j = (d.f 3).l.length ∧ (pq k d i).1 = true ∧ Sub ⟨Tryd.prog, pas, w0, w, EN5, he, hpp⟩ st (HpL d (bl ++ [91] ++ (pq k d i).2) i)) (d.f 3).l.length ⟨0, by omega, rfl, ?_⟩ ?_
    · exact Sub.live ⟨rfl, rfl, rfl, rfl, trivial⟩ ⟨by rw [show (pq k d 0).2 = [] from rfl, List.append_nil]; rfl, trivial⟩
    · rintro j st ⟨i, hij, hpi, hs2⟩
      refine aw_sub hs2 ?_
      clear hs2
      have hend := pq_end (i := i) h hi (fun e6 => by omega) (by omega)
      have hl0 : (bl ++ [91] ++ (pq k d i).2).length = bl.length + 1 + (pq k d i).2.length := by simp; omega
      have ihA := fun (g : decide ((i : Int) < ((d.f 3).l.length : Int)) = true) (g0 : decide ((i : Int) > 0) = true) => ih i (bl ++ [91] ++ (pq k d i).2 ++ [44]) (lt_b g) (by
        have hro := pq_room h hi (fun e6 => by omega) (lt_b g)
        have g0 : 0 < i := by have := of_decide_eq_true g0; omega
        rw [sep5 h5, if_pos g0] at hro
        rw [List.length_append, hl0]
        simp only [List.length_cons, List.length_nil] at hro ⊢
        omega)
      have ihB := fun (g : decide ((i : Int) < ((d.f 3).l.length : Int)) = true) (_ : decide ((i : Int) > 0) = false) => ih i (bl ++ [91] ++ (pq k d i).2) (lt_b g) (by
        have hro := pq_room h hi (fun e6 => by omega) (lt_b g)
        rw [hl0]
        omega)
      repeat' (first
    | (apply s_wb rfl
       · conv => lhs; whnf
       · conv => lhs; whnf
       · rfl
       · conv => lhs; whnf; arg 1; whnf
       · rfl
       · rfl)
    | (apply s_bcall rfl
       · conv => lhs; whnf
       · conv => lhs; whnf
       · rfl
       · conv => lhs; whnf; arg 1; whnf
       · first | exact ihA (by assumption) (by assumption) | exact ihB (by assumption) (by assumption)
       · exact fun _ => rfl
       · exact fun _ => rfl)
    | refine aw_seq ?_
    | refine aw_region ?_
    | refine awo_nil ?_
    | refine k_seq ?_
    | refine k_block ?_
    | refine k_scope ?_
    | refine aw_block ?_
    | refine aw_skip ?_
    | refine aw_label ?_
    | refine aw_scope ?_
    | (apply s_val rfl
       · conv => lhs; whnf
       · conv => lhs; whnf; arg 2; whnf)
    | (apply s_call rfl
       · conv => lhs; whnf
       · conv => lhs; whnf
       · first | fail)
    | (apply s_box rfl rfl rfl rfl
       · conv => lhs; whnf; arg 1; whnf
       · rfl)
    | (apply s_alloc rfl rfl rfl rfl
       · conv => lhs; whnf; arg 1; whnf
       · rfl)
    | (apply s_store rfl rfl rfl
       · conv => lhs; whnf
       · conv => lhs; whnf; arg 1; whnf
       · conv => lhs; whnf; arg 1; whnf
       · exact ⟨by kernel_rfl, by kernel_rfl⟩
       · rfl)
    | (apply aw_cond_t
       · conv => lhs; whnf; arg 1; arg 1; whnf)
    | (apply aw_cond_f
       · conv => lhs; whnf; arg 1; arg 1; whnf)
    | (refine aw_cond (by conv => lhs; whnf) ?_ ?_ <;> intro hb)
    | refine aw_ret ?_
    | refine aw_exit ?_
    | refine k_seq_exit ?_
    | refine k_seq_ret ?_
    | refine k_block_ret ?_
    | refine k_block_hit rfl ?_
    | refine k_block_miss rfl ?_
    | refine k_scope_exit ?_
    | refine k_scope_ret ?_
    | refine k_loop_exit ?_
    | refine k_loop_ret ?_
    | refine k_endB ⟨?_, ?_⟩
    | refine k_endB_ret ⟨?_, ?_⟩
    | exact (rfl : _ = V.tup [])
    | (refine ⟨_, by conv => lhs; whnf; arg 2; whnf, ?_⟩; conv => rhs; whnf)
    | exact trivial
    | intro hg)
      all_goals try (simp only [Nat.zero_add, Nat.reduceAdd] at *)
      all_goals
        first
          | (have g : i < (d.f 3).l.length := lt_b (by assumption)
             have hi0 : (if 0 < i then [(44 : UInt8)] else []) = [44] ∨ (if 0 < i then [(44 : UInt8)] else []) = [] := by split <;> simp
             first
               | (have hf : (!(prP k (gD (d.f 3).l i)).1) = true := by assumption
                  have hP := pr_go g hpi hf (.inl h5)
                  rw [sep5 h5, if_neg (show ¬ (d.f 0).n = 6 by omega)] at hP
                  first
                    | (have g0 : decide ((i : Int) > 0) = true := by assumption
                       have g0 : 0 < i := by have := of_decide_eq_true g0; omega
                       rw [if_pos g0] at hP
                       first
                         | (show V.c _ = V.c _; rw [hP])
                         | (rw [hP]; exact ⟨by simp only [List.append_assoc]; rfl, trivial⟩))
                    | (have g0 : decide ((i : Int) > 0) = false := by assumption
                       have g0 : ¬ 0 < i := by have := of_decide_eq_false g0; omega
                       rw [if_neg g0] at hP
                       first
                         | (show V.c _ = V.c _; rw [hP])
                         | (rw [hP]; exact ⟨by simp only [List.append_assoc, List.nil_append, List.append_nil]; rfl, trivial⟩)))
               | (have hf : (!(prP k (gD (d.f 3).l i)).1) = false := by assumption
                  have hf2 : (prP k (gD (d.f 3).l i)).1 = true := by simpa using hf
                  have e := pq_go hpi
                  rw [sep5 h5] at e
                  first
                    | exact i64_in2 (by omega)
                    | (have g0 : decide ((i : Int) > 0) = true := by assumption
                       have g0 : 0 < i := by have := of_decide_eq_true g0; omega
                       rw [if_pos g0] at e
                       refine k_loop_next (j' := j - 1) (by omega) ⟨i + 1, by omega, by rw [e]; exact hf2, Sub.live ⟨rfl, rfl, rfl, rfl, trivial⟩ ⟨?_, trivial⟩⟩
                       rw [e]
                       simp only [List.append_assoc]; rfl)
                    | (have g0 : decide ((i : Int) > 0) = false := by assumption
                       have g0 : ¬ 0 < i := by have := of_decide_eq_false g0; omega
                       rw [if_neg g0] at e
                       refine k_loop_next (j' := j - 1) (by omega) ⟨i + 1, by omega, by rw [e]; exact hf2, Sub.live ⟨rfl, rfl, rfl, rfl, trivial⟩ ⟨?_, trivial⟩⟩
                       rw [e]
                       simp only [List.append_assoc, List.nil_append, List.append_nil]; rfl))
               | (rw [hl0]; omega)
               | exact ixn_ok g)
          | (have g : (d.f 3).l.length ≤ i := ge_b (by assumption)
             have e : i = (d.f 3).l.length := by omega
             subst e
             have hP := pr_end hpi (.inl h5)
             rw [if_neg (show ¬ (d.f 0).n = 6 by omega), if_neg (show ¬ (d.f 0).n = 6 by omega)] at hP
             first
               | (rw [hl0]; omega)
               | (show V.c _ = V.c _; rw [hP])
               | (rw [hP]; exact ⟨by simp only [List.append_assoc]; rfl, trivial⟩))
  · have h6 : (d.f 0).n = 6 := by omega
    have hll : (d.f 4).l.length = (d.f 3).l.length := by
      have g : (((d.f 4).l.length : Int) != ((d.f 3).l.length : Int)) = false := by assumption
      have g : ((d.f 4).l.length : Int) = ((d.f 3).l.length : Int) := by simpa using g
      omega
    refine aw_loop (fun j st => ∃ i, i + j = (d.f 3).l.length ∧ (pq k d i).1 = true ∧ Sub ⟨Tryd.prog, pas, w0, w, EN5, he, hpp⟩ st (HpO d (bl ++ [123] ++ (pq k d i).2) i)) (d.f 3).l.length ⟨0, by omega, rfl, ?_⟩ ?_
    · exact Sub.live ⟨rfl, rfl, rfl, rfl, rfl, trivial⟩ ⟨by rw [show (pq k d 0).2 = [] from rfl, List.append_nil]; rfl, rfl, trivial⟩
    · rintro j st ⟨i, hij, hpi, hs2⟩
      refine aw_sub hs2 ?_
      clear hs2
      have hend := pq_end (i := i) h hi (fun _ => hll) (by omega)
      have hl0 : (bl ++ [123] ++ (pq k d i).2).length = bl.length + 1 + (pq k d i).2.length := by simp; omega
      have ihA := fun (g : decide ((i : Int) < ((d.f 3).l.length : Int)) = true) (g0 : decide ((i : Int) > 0) = true) => ih i (bl ++ [123] ++ (pq k d i).2 ++ [44] ++ (quoteU (keyU d i) ++ [58])) (lt_b g) (by
        have hro := pq_room h hi (fun _ => hll) (lt_b g)
        have g0 : 0 < i := by have := of_decide_eq_true g0; omega
        rw [sep6 h6, if_pos g0] at hro
        rw [List.length_append, List.length_append, hl0]
        simp only [List.length_cons, List.length_nil, List.length_append] at hro ⊢
        omega)
      have ihB := fun (g : decide ((i : Int) < ((d.f 3).l.length : Int)) = true) (_ : decide ((i : Int) > 0) = false) => ih i (bl ++ [123] ++ (pq k d i).2 ++ (quoteU (keyU d i) ++ [58])) (lt_b g) (by
        have hro := pq_room h hi (fun _ => hll) (lt_b g)
        rw [sep6 h6] at hro
        rw [List.length_append, hl0]
        simp only [List.length_cons, List.length_nil, List.length_append] at hro ⊢
        omega)
      have hkq := fun (g : decide ((i : Int) < ((d.f 3).l.length : Int)) = true) => quoteP_ac (gD (d.f 4).l i).s (by
        have h1 := hin.key i (by have := lt_b g; omega)
        omega)
      repeat' (first
    | (apply s_wb rfl
       · conv => lhs; whnf
       · conv => lhs; whnf
       · rfl
       · conv => lhs; whnf; arg 1; whnf
       · rfl
       · rfl)
    | (apply s_ws rfl
       · conv => lhs; whnf
       · conv => lhs; whnf
       · rfl
       · conv => lhs; whnf; arg 1; whnf
       · rfl)
    | (apply s_bcall rfl
       · conv => lhs; whnf
       · conv => lhs; whnf
       · rfl
       · conv => lhs; whnf; arg 1; whnf
       · first | exact ihA (by assumption) (by assumption) | exact ihB (by assumption) (by assumption)
       · exact fun _ => rfl
       · exact fun _ => rfl)
    | refine aw_seq ?_
    | refine aw_region ?_
    | refine awo_nil ?_
    | refine k_seq ?_
    | refine k_block ?_
    | refine k_scope ?_
    | refine aw_block ?_
    | refine aw_skip ?_
    | refine aw_label ?_
    | refine aw_scope ?_
    | (apply s_val rfl
       · conv => lhs; whnf
       · conv => lhs; whnf; arg 2; whnf)
    | (apply s_call rfl
       · conv => lhs; whnf
       · conv => lhs; whnf
       · first | exact hkq (by assumption))
    | (apply s_box rfl rfl rfl rfl
       · conv => lhs; whnf; arg 1; whnf
       · rfl)
    | (apply s_alloc rfl rfl rfl rfl
       · conv => lhs; whnf; arg 1; whnf
       · rfl)
    | (apply s_store rfl rfl rfl
       · conv => lhs; whnf
       · conv => lhs; whnf; arg 1; whnf
       · conv => lhs; whnf; arg 1; whnf
       · exact ⟨by kernel_rfl, by kernel_rfl⟩
       · rfl)
    | (apply aw_cond_t
       · conv => lhs; whnf; arg 1; arg 1; whnf)
    | (apply aw_cond_f
       · conv => lhs; whnf; arg 1; arg 1; whnf)
    | (refine aw_cond (by conv => lhs; whnf) ?_ ?_ <;> intro hb)
    | refine aw_ret ?_
    | refine aw_exit ?_
    | refine k_seq_exit ?_
    | refine k_seq_ret ?_
    | refine k_block_ret ?_
    | refine k_block_hit rfl ?_
    | refine k_block_miss rfl ?_
    | refine k_scope_exit ?_
    | refine k_scope_ret ?_
    | refine k_loop_exit ?_
    | refine k_loop_ret ?_
    | refine k_endB ⟨?_, ?_⟩
    | refine k_endB_ret ⟨?_, ?_⟩
    | exact (rfl : _ = V.tup [])
    | (refine ⟨_, by conv => lhs; whnf; arg 2; whnf, ?_⟩; conv => rhs; whnf)
    | exact trivial
    | intro hg)
      all_goals try (simp only [Nat.zero_add, Nat.reduceAdd] at *)
      all_goals
        first
          | (have g : i < (d.f 3).l.length := lt_b (by assumption)
             have hi0 : (if 0 < i then [(44 : UInt8)] else []) = [44] ∨ (if 0 < i then [(44 : UInt8)] else []) = [] := by split <;> simp
             first
               | (have hf : (!(prP k (gD (d.f 3).l i)).1) = true := by assumption
                  have hP := pr_go g hpi hf (.inr ⟨h6, hll⟩)
                  rw [sep6 h6, if_pos h6] at hP
                  first
                    | (have g0 : decide ((i : Int) > 0) = true := by assumption
                       have g0 : 0 < i := by have := of_decide_eq_true g0; omega
                       rw [if_pos g0] at hP
                       first
                         | (show V.c _ = V.c _; rw [hP])
                         | (rw [hP]; exact ⟨by simp only [List.append_assoc]; rfl, trivial⟩))
                    | (have g0 : decide ((i : Int) > 0) = false := by assumption
                       have g0 : ¬ 0 < i := by have := of_decide_eq_false g0; omega
                       rw [if_neg g0] at hP
                       first
                         | (show V.c _ = V.c _; rw [hP])
                         | (rw [hP]; exact ⟨by simp only [List.append_assoc, List.nil_append, List.append_nil]; rfl, trivial⟩)))
               | (have hf : (!(prP k (gD (d.f 3).l i)).1) = false := by assumption
                  have hf2 : (prP k (gD (d.f 3).l i)).1 = true := by simpa using hf
                  have e := pq_go hpi
                  rw [sep6 h6] at e
                  first
                    | exact i64_in2 (by omega)
                    | (have g0 : decide ((i : Int) > 0) = true := by assumption
                       have g0 : 0 < i := by have := of_decide_eq_true g0; omega
                       rw [if_pos g0] at e
                       refine k_loop_next (j' := j - 1) (by omega) ⟨i + 1, by omega, by rw [e]; exact hf2, Sub.live ⟨rfl, rfl, rfl, rfl, rfl, trivial⟩ ⟨?_, rfl, trivial⟩⟩
                       rw [e]
                       simp only [List.append_assoc]; rfl)
                    | (have g0 : decide ((i : Int) > 0) = false := by assumption
                       have g0 : ¬ 0 < i := by have := of_decide_eq_false g0; omega
                       rw [if_neg g0] at e
                       refine k_loop_next (j' := j - 1) (by omega) ⟨i + 1, by omega, by rw [e]; exact hf2, Sub.live ⟨rfl, rfl, rfl, rfl, rfl, trivial⟩ ⟨?_, rfl, trivial⟩⟩
                       rw [e]
                       simp only [List.append_assoc, List.nil_append, List.append_nil]; rfl))
               | (rw [hl0]; omega)
               | exact ⟨by omega, by omega⟩
               | (have hqk := quoteU_length (gD (d.f 4).l i).s.data.toList
                  have hqs : (gD (d.f 4).l i).s.data.toList.length = (gD (d.f 4).l i).s.size := rfl
                  have hqb := hin.key i (by omega)
                  have h58 : ({ data := #[58] } : ByteArray).size = 1 := rfl
                  simp only [ByteArray.size_append, bs_size, List.length_append, List.length_cons, List.length_nil, h58, maxLen]
                  omega))
          | (have g : (d.f 3).l.length ≤ i := ge_b (by assumption)
             have e : i = (d.f 3).l.length := by omega
             subst e
             have hP := pr_end hpi (.inr ⟨h6, hll⟩)
             rw [if_pos h6, if_pos h6] at hP
             first
               | (rw [hl0]; omega)
               | (show V.c _ = V.c _; rw [hP])
               | (rw [hP]; exact ⟨by simp only [List.append_assoc]; rfl, trivial⟩))
set_option maxRecDepth 100000 in
theorem printP_acb : ∀ (k : Nat) (d : D) (bl : List UInt8), Dp k d → intsJ k d → wtJ k d ≤ 1000000 → bl.length + 32 * wtJ k d ≤ 100000000 →
    ACB EN5 Tryd.prog 34 [.bx (pn 0) 0, .agg (cellsV Tryd.prog 12 39 d)] [.bld 78 5 bl] (.c (.bool (prP k d).1)) [.bld 78 5 (bl ++ (prP k d).2)]
  | 0, _, _, h, _, _, _ => h.elim
  | k + 1, d, bl, h, hi, hw, hb => printP_core k d bl h hi hw hb fun i bl hil hbl => printP_acb k (gD (d.f 3).l i) bl (h i hil) (hi.2 i hil) ((wt_in h hw).at_ i hil) hbl
/-- the program's Print -/
def printV (k : Nat) (d : D) : V := if okJ k d = true then .tup [.c (.string (bs (wrJ k d))), .c (.int .i64 0)] else .tup [.c (.string (bs [])), .c (.int .i64 9)]
set_option maxRecDepth 100000 in
theorem print_ac (k : Nat) (d : D) (h : Dp k d) (hi : intsJ k d) (hw : wtJ k d ≤ 1000000) : AC EN5 Tryd.prog 18 [.agg (cellsV Tryd.prog 12 39 d)] (printV k d) := by
  have hp := printP_acb k d [] h hi hw (by simp; omega)
  rw [List.nil_append] at hp
  have hl := prP_len h hi
  have hok := prP_ok k d
  by_cases ho : okJ k d = true
  · have e : printV k d = .tup [.c (.string (bs (wrJ k d))), .c (.int .i64 0)] := by unfold printV; rw [if_pos ho]
    rw [hok.1, ho, hok.2 ho] at hp
    rw [hok.2 ho] at hl
    rw [e]
    refine ac_enter 9 Tryd.func18 rfl rfl rfl rfl ?_
    intro s w he
    repeat' (first
    | (apply s_bcall0 rfl
       · conv => lhs; whnf
       · conv => lhs; whnf
       · rfl
       · rfl
       · first | exact hp
       · rfl
       · exact fun _ => rfl
       · exact fun _ => rfl)
    | (apply s_bs rfl
       · conv => lhs; whnf
       · conv => lhs; whnf
       · rfl
       · conv => lhs; whnf; arg 1; whnf
       · exact ⟨rfl, rfl⟩
       · rfl)
    | refine aw_seq ?_
    | refine aw_region ?_
    | refine awo_nil ?_
    | refine k_seq ?_
    | refine k_block ?_
    | refine k_scope ?_
    | refine aw_block ?_
    | refine aw_skip ?_
    | refine aw_label ?_
    | refine aw_scope ?_
    | (apply s_val rfl
       · conv => lhs; whnf
       · conv => lhs; whnf; arg 2; whnf)
    | (apply s_call rfl
       · conv => lhs; whnf
       · conv => lhs; whnf
       · first | fail)
    | (apply s_box rfl rfl rfl rfl
       · conv => lhs; whnf; arg 1; whnf
       · rfl)
    | (apply s_alloc rfl rfl rfl rfl
       · conv => lhs; whnf; arg 1; whnf
       · rfl)
    | (apply aw_cond_t
       · conv => lhs; whnf; arg 1; arg 1; whnf)
    | (apply aw_cond_f
       · conv => lhs; whnf; arg 1; arg 1; whnf)
    | (refine aw_cond (by conv => lhs; whnf) ?_ ?_ <;> intro hb)
    | refine aw_ret ?_
    | refine aw_exit ?_
    | refine k_seq_exit ?_
    | refine k_seq_ret ?_
    | refine k_block_ret ?_
    | refine k_block_hit rfl ?_
    | refine k_block_miss rfl ?_
    | refine k_scope_exit ?_
    | refine k_scope_ret ?_
    | refine k_loop_exit ?_
    | refine k_loop_ret ?_
    | refine k_end ?_
    | refine k_end_ret ?_
    | (refine ⟨_, by conv => lhs; whnf; arg 2; whnf, ?_⟩; conv => rhs; whnf)
    | exact trivial
    | intro hg)
    · exact ⟨_, _, rfl, rfl, rfl⟩
    · unfold maxLen; omega
  · have e : printV k d = .tup [.c (.string (bs [])), .c (.int .i64 9)] := by unfold printV; rw [if_neg ho]
    have ho : okJ k d = false := by simpa using ho
    rw [hok.1, ho] at hp
    rw [e]
    refine ac_enter 9 Tryd.func18 rfl rfl rfl rfl ?_
    intro s w he
    repeat' (first
    | (apply s_bcall0 rfl
       · conv => lhs; whnf
       · conv => lhs; whnf
       · rfl
       · rfl
       · first | exact hp
       · rfl
       · exact fun _ => rfl
       · exact fun _ => rfl)
    | (apply s_bs rfl
       · conv => lhs; whnf
       · conv => lhs; whnf
       · rfl
       · conv => lhs; whnf; arg 1; whnf
       · exact ⟨rfl, rfl⟩
       · rfl)
    | refine aw_seq ?_
    | refine aw_region ?_
    | refine awo_nil ?_
    | refine k_seq ?_
    | refine k_block ?_
    | refine k_scope ?_
    | refine aw_block ?_
    | refine aw_skip ?_
    | refine aw_label ?_
    | refine aw_scope ?_
    | (apply s_val rfl
       · conv => lhs; whnf
       · conv => lhs; whnf; arg 2; whnf)
    | (apply s_call rfl
       · conv => lhs; whnf
       · conv => lhs; whnf
       · first | fail)
    | (apply s_box rfl rfl rfl rfl
       · conv => lhs; whnf; arg 1; whnf
       · rfl)
    | (apply s_alloc rfl rfl rfl rfl
       · conv => lhs; whnf; arg 1; whnf
       · rfl)
    | (apply aw_cond_t
       · conv => lhs; whnf; arg 1; arg 1; whnf)
    | (apply aw_cond_f
       · conv => lhs; whnf; arg 1; arg 1; whnf)
    | (refine aw_cond (by conv => lhs; whnf) ?_ ?_ <;> intro hb)
    | refine aw_ret ?_
    | refine aw_exit ?_
    | refine k_seq_exit ?_
    | refine k_seq_ret ?_
    | refine k_block_ret ?_
    | refine k_block_hit rfl ?_
    | refine k_block_miss rfl ?_
    | refine k_scope_exit ?_
    | refine k_scope_ret ?_
    | refine k_loop_exit ?_
    | refine k_loop_ret ?_
    | refine k_end ?_
    | refine k_end_ret ?_
    | (refine ⟨_, by conv => lhs; whnf; arg 2; whnf, ?_⟩; conv => rhs; whnf)
    | exact trivial
    | intro hg)
    exact ⟨_, _, rfl, rfl, rfl⟩
end Go.Proofs.YtjhjleanihgopaaDoor
