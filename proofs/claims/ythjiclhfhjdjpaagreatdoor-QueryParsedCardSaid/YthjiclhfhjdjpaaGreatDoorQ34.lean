/- Parts of a proof, merged by a program (shake.py). -/
import Derived.Test.YthjiclhfhjdjpaaGreatDoorRows
import Derived.Test.YthjiclhfhjdjpaaGreatDoorQ33
set_option linter.unusedVariables false
set_option linter.unusedSimpArgs false
namespace Go.Proofs.YthjiclhfhjdjpaaGreatDoor
open Go.RowKit
attribute [local irreducible] wpList Calls Code.wp
mutual
/-- how many values and letters a datum holds -/
def bulkD : D → Nat
  | .int _ => 1
  | .bool _ => 1
  | .str s => s.size + 1
  | .list l => bulkL l + 1
  | .obj l => bulkL l + 1
def bulkL : List D → Nat
  | [] => 0
  | d :: r => bulkD d + bulkL r
 end
end Go.Proofs.YthjiclhfhjdjpaaGreatDoor
namespace Go.Proofs.YthjiclhfhjdjpaaGreatDoor
/-- the numbers within are 64 bits wide -/
def i64D (n : Int) : Prop := -9223372036854775808 ≤ n ∧ n ≤ 9223372036854775807
/-- how deep a value is, at most -/
def Dp : Nat → D → Prop
  | 0, _ => False
  | k + 1, d => ∀ i, i < (d.f 3).l.length → Dp k (gD (d.f 3).l i)
mutual
/-- all numbers within a datum are 64 bits wide -/
def wideD : D → Prop
  | .int n => i64D n
  | .bool _ => True
  | .str _ => True
  | .list l => wideL l
  | .obj l => wideL l
def wideL : List D → Prop
  | [] => True
  | d :: r => wideD d ∧ wideL r
end
theorem wideL_get : ∀ {l : List D}, wideL l → ∀ i, wideD (gD l i)
  | [], _, i => by show wideD (.obj []); simp [wideD, wideL]
  | d :: r, h, i => by
    rw [wideL] at h
    cases i with
    | zero => exact h.1
    | succ i => exact wideL_get h.2 i
theorem wideD.f {d : D} (h : wideD d) (i : Nat) : wideD (d.f i) := by
  cases d with
  | obj l => rw [wideD] at h; exact wideL_get h i
  | _ => show wideD (.obj []); simp [wideD, wideL]
theorem wideD.l {d : D} (h : wideD d) (i : Nat) : wideD (gD d.l i) := by
  cases d with
  | list l => rw [wideD] at h; exact wideL_get h i
  | _ => show wideD (.obj []); simp [wideD, wideL]
theorem wideD.n {d : D} (h : wideD d) : i64D d.n := by
  cases d with
  | int n => rw [wideD] at h; exact h
  | _ => show i64D 0; unfold i64D; omega
def sumN (f : Nat → Nat) : Nat → Nat
  | 0 => 0
  | n + 1 => sumN f n + f n
theorem sumN_le {f g : Nat → Nat} : ∀ {n : Nat}, (∀ i, i < n → f i ≤ g i) → sumN f n ≤ sumN g n
  | 0, _ => Nat.le_refl _
  | n + 1, h => by
    have := sumN_le (n := n) fun i hi => h i (by omega)
    have := h n (by omega)
    simp only [sumN]; omega
theorem sumN_mono (f : Nat → Nat) {n m : Nat} (h : n ≤ m) : sumN f n ≤ sumN f m := by
  induction m with
  | zero => have : n = 0 := by omega
            subst this; exact Nat.le_refl _
  | succ m ih =>
    rcases Nat.lt_or_ge n (m + 1) with h' | h'
    · have := ih (by omega); simp only [sumN]; omega
    · have : n = m + 1 := by omega
      subst this; exact Nat.le_refl _
theorem sumN_head (f : Nat → Nat) : ∀ n, sumN f (n + 1) = f 0 + sumN (fun i => f (i + 1)) n
  | 0 => by simp [sumN]
  | n + 1 => by rw [sumN, sumN_head f n, sumN]; omega
/-- how much lies within a datum -/
def wD (d : D) : Nat := bulkD d - 1
theorem bulkD_pos (d : D) : 1 ≤ bulkD d := by cases d <;> simp [bulkD]
theorem bulkD_wD (d : D) : bulkD d = wD d + 1 := by unfold wD; have := bulkD_pos d; omega
theorem wD_str (d : D) : d.s.size ≤ wD d := by
  cases d with
  | str s => simp [wD, bulkD, D.s]
  | _ => exact Nat.zero_le _
theorem wD_list (d : D) : bulkL d.l ≤ wD d := by cases d <;> simp [wD, bulkD, D.l, bulkL]
theorem bulkL_sum : ∀ (l : List D), bulkL l = sumN (fun i => bulkD (gD l i)) l.length
  | [] => rfl
  | d :: r => by
    rw [bulkL, bulkL_sum r, List.length_cons, sumN_head]; rfl
theorem bulkL_out (l : List D) : ∀ n, sumN (fun i => wD (gD l i)) n ≤ bulkL l := by
  intro n
  have hout : ∀ i, l.length ≤ i → wD (gD l i) = 0 := fun i hi => by
    unfold gD
    rw [List.getD_eq_getElem?_getD, List.getElem?_eq_none hi]; rfl
  have hin : ∀ m, m ≤ l.length → sumN (fun i => wD (gD l i)) m ≤ bulkL l := fun m hm => by
    rw [bulkL_sum]
    refine Nat.le_trans (sumN_mono _ hm) (sumN_le fun i hi => ?_)
    have := bulkD_wD (gD l i); omega
  rcases Nat.le_total n l.length with h | h
  · exact hin n h
  · obtain ⟨m, rfl⟩ := Nat.exists_eq_add_of_le h
    clear h
    induction m with
    | zero => exact hin _ (Nat.le_refl _)
    | succ m ih =>
      rw [← Nat.add_assoc, sumN, hout (l.length + m) (by omega)]
      omega
theorem wD_fields (d : D) (n : Nat) : sumN (fun i => wD (d.f i)) n ≤ wD d := by
  cases d with
  | obj l => exact bulkL_out l n
  | _ =>
    refine Nat.le_trans (sumN_le (g := fun _ => 0) fun i _ => ?_) (Nat.le_trans (Nat.le_of_eq ?_) (Nat.zero_le _))
    · show wD (.obj []) ≤ 0
      simp [wD, bulkD, bulkL]
    · induction n with
      | zero => rfl
      | succ n ih => simp only [sumN, ih]
theorem wD_f (d : D) (i : Nat) : wD (d.f i) ≤ wD d := by
  have := wD_fields d (i + 1)
  simp only [sumN] at this; omega
theorem bulkL_get {l : List D} {i : Nat} (h : i < l.length) : bulkD (gD l i) ≤ bulkL l := by
  rw [bulkL_sum]
  have := sumN_mono (fun i => bulkD (gD l i)) (show i + 1 ≤ l.length by omega)
  simp only [sumN] at this; omega
theorem bulk_item {d : D} {j i : Nat} (h : i < (d.f j).l.length) : bulkD (gD (d.f j).l i) ≤ wD d := by
  have h1 := bulkL_get h
  have h2 := wD_list (d.f j)
  have h3 := wD_f d j
  omega
/-- a value is at most as deep as it is large -/
theorem dp_bulk : ∀ (k : Nat) (d : D), bulkD d ≤ k → Dp k d
  | 0, d, h => by have := bulkD_pos d; omega
  | k + 1, d, h => fun i hi => dp_bulk k _ (by have := bulk_item hi; have := bulkD_wD d; omega)
end Go.Proofs.YthjiclhfhjdjpaaGreatDoor
namespace Go.Proofs.YthjiclhfhjdjpaaGreatDoor
def maxN (f : Nat → Nat) : Nat → Nat
  | 0 => 0
  | n + 1 => max (maxN f n) (f n)
def sizeR : Nat → D → Nat
  | 0, _ => 1
  | k + 1, d => 1 + sumN (fun i => sizeR k (gD (d.f 3).l i)) (d.f 3).l.length
def depthR : Nat → D → Nat
  | 0, _ => 1
  | k + 1, d => maxN (fun i => depthR k (gD (d.f 3).l i)) (d.f 3).l.length + 1
def strsR (d : D) : List (List UInt8) := (d.f 4).l.map fun x => x.s.data.toList
def enumR (s : ByteArray) : Bool := nameB s && !(s.data.toList == [116, 114, 117, 101]) && !(s.data.toList == [102, 97, 108, 115, 101]) && !(s.data.toList == [110, 117, 108, 108])
/-- nodes in plain terms: kind, number, whether the text is empty, keys, items, whether the text is an enumeration's, a name, keys are names, differ -/
def nodeK (n i : Int) (t : Bool) (a b : Nat) (x v ks y : Bool) : Bool :=
  (n == 1 || n == 2 || i == 0) && (n == 3 || n == 4 || n == 7 || t) && (n == 6 || a == 0) && (n == 6 || n == 5 || b == 0) && decide (0 ≤ n ∧ n ≤ 7) && (!(n == 1) || i == 0 || i == 1) && (!(n == 4) || x) && (!(n == 7) || v) && (!(n == 6) || (ks && a == b && y))
/-- a node of a literal is valid -/
def nodeL (d : D) : Bool :=
  nodeK (d.f 0).n (d.f 1).n ((d.f 2).s.data.toList == []) (d.f 4).l.length (d.f 3).l.length (enumR (d.f 2).s) (nameB (d.f 2).s) (!((d.f 4).l.any fun x => !nameB x.s)) (decide (strsR d).Nodup)
def everyL : Nat → D → Bool
  | 0, _ => false
  | k + 1, d => nodeL d && !((d.f 3).l.any fun x => !everyL k x)
def litR (d : D) : Bool := decide (sizeR (bulkD d) d ≤ 4096) && decide (depthR (bulkD d) d ≤ 24) && everyL (bulkD d) d
def bareR : Nat → D → Bool
  | 0, _ => false
  | k + 1, d => !((d.f 0).n == 7) && !((d.f 3).l.any fun x => !bareR k x)
def argR (d : D) : Bool := nameB (d.f 0).s && litR (d.f 1)
def argsR (l : List D) : Bool := decide (l.length ≤ 16) && !(l.any fun x => !argR x)
def dirR (d : D) : Bool := nameB (d.f 0).s && argsR (d.f 1).l
def dirsR (l : List D) : Bool := decide (l.length ≤ 16) && !(l.any fun x => !dirR x)
def titleR (s : ByteArray) : Bool := nameB s && !(s.data.toList == [111, 110])
def noneS (s : ByteArray) : Bool := s.data.toList == []
def selsR (sel : D → Bool) (l : List D) (least lv : Nat) : Bool := decide (least ≤ l.length) && decide (l.length ≤ 64) && (decide (l.length = 0) || decide (lv ≤ 24)) && !(l.any fun x => !sel x)
/-- the fuel is more than the selections' depth -/
def selR : Nat → Nat → D → Bool
  | 0, _, _ => false
  | k + 1, lv, d => argsR (d.f 4).l && dirsR (d.f 5).l &&
    (if (d.f 0).n = 1 then noneS (d.f 3).s && nameB (d.f 2).s && (noneS (d.f 1).s || nameB (d.f 1).s) && selsR (selR k (lv + 1)) (d.f 6).l 0 (lv + 1)
    else if (d.f 0).n = 2 then noneS (d.f 3).s && noneS (d.f 1).s && decide ((d.f 4).l.length = 0) && decide ((d.f 6).l.length = 0) && titleR (d.f 2).s
    else if (d.f 0).n = 3 then noneS (d.f 1).s && noneS (d.f 2).s && decide ((d.f 4).l.length = 0) && (noneS (d.f 3).s || nameB (d.f 3).s) && selsR (selR k (lv + 1)) (d.f 6).l 1 (lv + 1)
    else false)
def setR (l : List D) : Bool := selsR (selR (bulkL l) 1) l 1 1
/-- wrappers of a type -/
def wrapsR : List Int → Bool
  | [] => true
  | [w] => w == 1 || w == 2
  | w :: v :: r => (w == 1 || w == 2) && !(w == 1 && v == 1) && wrapsR (v :: r)
def refR (d : D) : Bool := nameB (d.f 0).s && decide ((d.f 1).l.length ≤ 24) && wrapsR ((d.f 1).l.map D.n)
def varR (d : D) : Bool := nameB (d.f 0).s && refR (d.f 1) &&
  (if (d.f 2).b = true then litR (d.f 3) && bareR (bulkD (d.f 3)) (d.f 3)
  else (((d.f 3).f 0).n == 0 && ((d.f 3).f 1).n == 0 && noneS ((d.f 3).f 2).s && decide (((d.f 3).f 3).l.length = 0)) && decide (((d.f 3).f 4).l.length = 0))
def opR (d : D) : Bool := decide (1 ≤ (d.f 0).n ∧ (d.f 0).n ≤ 3) && (noneS (d.f 1).s || nameB (d.f 1).s) && decide ((d.f 2).l.length ≤ 16) && !((d.f 2).l.any fun x => !varR x) && setR (d.f 3).l
def fragR (d : D) : Bool := titleR (d.f 0).s && nameB (d.f 1).s && setR (d.f 2).l
def queR (d : D) : Bool := decide (1 ≤ (d.f 0).l.length + (d.f 1).l.length ∧ (d.f 0).l.length + (d.f 1).l.length ≤ 64) && (d.f 0).l.all opR && !((d.f 1).l.any fun x => !fragR x)
end Go.Proofs.YthjiclhfhjdjpaaGreatDoor
namespace Go.Proofs.YthjiclhfhjdjpaaGreatDoor
open Go.RowKit
set_option linter.unusedSectionVars false
attribute [local irreducible] wpList Calls Code.wp AW AWo OpOk seqK blockK scopeK loopK endK AC absLex Yld Sub
attribute [local irreducible] ACB ACX ACE absLexG YldG
def idxF (l : List D) (p : D → Bool) : Int := match l.findIdx? p with | some i => (i : Int) | none => -1
set_option maxHeartbeats 8000000 in
set_option maxRecDepth 100000 in
theorem idxF_at {l : List D} {p : D → Bool} {i : Nat} (hi : i < l.length) (h : ∀ m, m < i → p (gD l m) = false) (he : p (gD l i) = true) : idxF l p = i := by
  unfold idxF
  have : l.findIdx? p = some i := by
    rw [List.findIdx?_eq_some_iff_getElem]
    exact ⟨hi, by rw [← gD_get hi]; exact he, fun j hj => by rw [← gD_get (by omega), h j hj]; decide⟩
  rw [this]
set_option maxHeartbeats 8000000 in
set_option maxRecDepth 100000 in
theorem idxF_no {l : List D} {p : D → Bool} (h : ∀ m, m < l.length → p (gD l m) = false) : idxF l p = -1 := by
  unfold idxF
  have : l.findIdx? p = none := by
    rw [List.findIdx?_eq_none_iff]
    intro x hx
    obtain ⟨i, hi, e⟩ := List.getElem_of_mem hx
    rw [← e, ← gD_get hi]; exact h i hi
  rw [this]
set_option maxHeartbeats 8000000 in
set_option maxRecDepth 100000 in
theorem idxF_any (l : List D) (p : D → Bool) : decide (idxF l p ≥ 0) = l.any p := by
  unfold idxF
  cases h : l.findIdx? p with
  | none =>
    rw [List.findIdx?_eq_none_iff] at h
    have : l.any p = false := by rw [List.any_eq_false]; intro x hx; rw [h x hx]; decide
    rw [this]; rfl
  | some i =>
    rw [List.findIdx?_eq_some_iff_getElem] at h
    obtain ⟨hi, he, _⟩ := h
    have : l.any p = true := List.any_eq_true.2 ⟨_, List.getElem_mem hi, he⟩
    rw [this]
    exact decide_eq_true (Int.natCast_nonneg i)
noncomputable def HiVar (l : List D) (i : Nat) : Vst 19 := stS 19 [(0, .sl 88 l), (1, .c (.func (.func 78) #[] #[])), (7, .c (.int .i64 (l.length : Nat))), (8, .c (.int .i64 (i : Int)))] []
set_option maxHeartbeats 8000000 in
set_option maxRecDepth 100000 in
theorem indexVar_ac (l : List D) (p : D → Bool) (hn : l.length ≤ 1000000000) (hc : ∀ i, i < l.length → AC EN5 Tryz.prog 78 [.agg (cellsV Tryz.prog 12 88 (gD l i))] (.c (.bool (p (gD l i))))) : AC EN5 Tryz.prog 152 [.sl 88 l, .c (.func (.func 78) #[] #[])] (.c (.int .i64 (idxF l p))) := by
  refine ac_enter 19 Tryz.func152 rfl rfl rfl rfl ?_
  intro s w he
  repeat' (first
 | refine aw_seq ?_
 | refine aw_region ?_
 | refine awo_nil ?_
 | refine k_seq ?_
 | refine aw_block ?_
 | (apply s_val rfl
    · conv => lhs; whnf
    · conv => lhs; whnf; arg 2; whnf)
 | exact trivial)
  refine aw_loop (fun j st => ∃ i, i + j = l.length ∧ (∀ m, m < i → p (gD l m) = false) ∧ Sub (cx EN5 Tryz.prog s w he) st (HiVar l i)) l.length ⟨0, by omega, fun m hm => absurd hm (Nat.not_lt_zero m), Sub.live ⟨rfl, rfl, rfl, rfl, trivial⟩ trivial⟩ ?_
  rintro j st ⟨i, hij, hno, hs2⟩
  refine aw_sub hs2 ?_
  clear hs2
  by_cases hi : i < l.length
  · have f0 : decide ((i : Int) < (l.length : Nat)) = true := decide_eq_true (by omega)
    have hc2 := hc i hi
    repeat' (first
 | (apply aw_cond_kt
    · conv => lhs; whnf
    · assumption)
 | refine aw_seq ?_
 | refine aw_region ?_
 | refine awo_nil ?_
 | refine k_seq ?_
 | refine k_block ?_
 | refine aw_block ?_
 | refine aw_skip ?_
 | (apply s_val rfl
    · conv => lhs; whnf
    · conv => lhs; whnf; arg 2; whnf)
 | (apply s_call rfl
    · conv => lhs; whnf
    · conv => lhs; whnf
    · first | exact hc2)
 | (refine aw_cond (by conv => lhs; whnf) ?_ ?_ <;> intro hb)
 | refine aw_ret ?_
 | refine k_seq_ret ?_
 | refine k_block_ret ?_
 | refine k_loop_ret ?_
 | refine k_end_ret ?_
 | (refine ⟨_, by conv => lhs; whnf; arg 2; whnf, ?_⟩; conv => rhs; whnf)
 | exact trivial)
    · show V.c _ = V.c _
      rw [idxF_at hi hno hb]
    · refine k_loop_next (j' := j - 1) (by omega) ⟨i + 1, by omega, fun m hm => ?_, Sub.live ⟨rfl, rfl, rfl, rfl, trivial⟩ trivial⟩
      by_cases e : m = i
      · subst e; exact hb
      · exact hno m (by omega)
    all_goals first
      | exact i64_ok (by omega)
      | exact ⟨by omega, by omega⟩
  · have f0 : decide ((i : Int) < (l.length : Nat)) = false := decide_eq_false (by omega)
    repeat' (first
 | (apply aw_cond_kf
    · conv => lhs; whnf
    · assumption)
 | refine aw_seq ?_
 | refine aw_region ?_
 | refine awo_nil ?_
 | refine k_seq ?_
 | (apply s_val rfl
    · conv => lhs; whnf
    · conv => lhs; whnf; arg 2; whnf)
 | refine aw_ret ?_
 | refine aw_exit ?_
 | refine k_seq_exit ?_
 | refine k_block_hit rfl ?_
 | refine k_loop_exit ?_
 | refine k_end_ret ?_
 | (refine ⟨_, by conv => lhs; whnf; arg 2; whnf, ?_⟩; conv => rhs; whnf)
 | exact trivial)
    show V.c _ = V.c _
    rw [idxF_no fun m hm => hno m (by omega)]
set_option maxHeartbeats 8000000 in
set_option maxRecDepth 100000 in
theorem containsVar_ac (l : List D) (p : D → Bool) (hn : l.length ≤ 1000000000) (hc : ∀ i, i < l.length → AC EN5 Tryz.prog 78 [.agg (cellsV Tryz.prog 12 88 (gD l i))] (.c (.bool (p (gD l i))))) : AC EN5 Tryz.prog 77 [.sl 88 l, .c (.func (.func 78) #[] #[])] (.c (.bool (l.any p))) := by
  have h1 := indexVar_ac l p hn hc
  rw [← idxF_any]
  refine ac_enter 9 Tryz.func77 rfl rfl rfl rfl ?_
  intro s w he
  repeat' (first
 | refine aw_seq ?_
 | refine aw_region ?_
 | refine awo_nil ?_
 | refine k_seq ?_
 | (apply s_val rfl
    · conv => lhs; whnf
    · conv => lhs; whnf; arg 2; whnf)
 | (apply s_call rfl
    · conv => lhs; whnf
    · conv => lhs; whnf
    · first | exact h1)
 | refine aw_ret ?_
 | refine k_end_ret ?_
 | (refine ⟨_, by conv => lhs; whnf; arg 2; whnf, ?_⟩; conv => rhs; whnf)
 | exact trivial)
noncomputable def HiFrag (l : List D) (i : Nat) : Vst 19 := stS 19 [(0, .sl 116 l), (1, .c (.func (.func 82) #[] #[])), (7, .c (.int .i64 (l.length : Nat))), (8, .c (.int .i64 (i : Int)))] []
set_option maxHeartbeats 8000000 in
set_option maxRecDepth 100000 in
theorem indexFrag_ac (l : List D) (p : D → Bool) (hn : l.length ≤ 1000000000) (hc : ∀ i, i < l.length → AC EN5 Tryz.prog 82 [.agg (cellsV Tryz.prog 12 116 (gD l i))] (.c (.bool (p (gD l i))))) : AC EN5 Tryz.prog 113 [.sl 116 l, .c (.func (.func 82) #[] #[])] (.c (.int .i64 (idxF l p))) := by
  refine ac_enter 19 Tryz.func113 rfl rfl rfl rfl ?_
  intro s w he
  repeat' (first
 | refine aw_seq ?_
 | refine aw_region ?_
 | refine awo_nil ?_
 | refine k_seq ?_
 | refine aw_block ?_
 | (apply s_val rfl
    · conv => lhs; whnf
    · conv => lhs; whnf; arg 2; whnf)
 | exact trivial)
  refine aw_loop (fun j st => ∃ i, i + j = l.length ∧ (∀ m, m < i → p (gD l m) = false) ∧ Sub (cx EN5 Tryz.prog s w he) st (HiFrag l i)) l.length ⟨0, by omega, fun m hm => absurd hm (Nat.not_lt_zero m), Sub.live ⟨rfl, rfl, rfl, rfl, trivial⟩ trivial⟩ ?_
  rintro j st ⟨i, hij, hno, hs2⟩
  refine aw_sub hs2 ?_
  clear hs2
  by_cases hi : i < l.length
  · have f0 : decide ((i : Int) < (l.length : Nat)) = true := decide_eq_true (by omega)
    have hc2 := hc i hi
    repeat' (first
 | (apply aw_cond_kt
    · conv => lhs; whnf
    · assumption)
 | refine aw_seq ?_
 | refine aw_region ?_
 | refine awo_nil ?_
 | refine k_seq ?_
 | refine k_block ?_
 | refine aw_block ?_
 | refine aw_skip ?_
 | (apply s_val rfl
    · conv => lhs; whnf
    · conv => lhs; whnf; arg 2; whnf)
 | (apply s_call rfl
    · conv => lhs; whnf
    · conv => lhs; whnf
    · first | exact hc2)
 | (refine aw_cond (by conv => lhs; whnf) ?_ ?_ <;> intro hb)
 | refine aw_ret ?_
 | refine k_seq_ret ?_
 | refine k_block_ret ?_
 | refine k_loop_ret ?_
 | refine k_end_ret ?_
 | (refine ⟨_, by conv => lhs; whnf; arg 2; whnf, ?_⟩; conv => rhs; whnf)
 | exact trivial)
    · show V.c _ = V.c _
      rw [idxF_at hi hno hb]
    · refine k_loop_next (j' := j - 1) (by omega) ⟨i + 1, by omega, fun m hm => ?_, Sub.live ⟨rfl, rfl, rfl, rfl, trivial⟩ trivial⟩
      by_cases e : m = i
      · subst e; exact hb
      · exact hno m (by omega)
    all_goals first
      | exact i64_ok (by omega)
      | exact ⟨by omega, by omega⟩
  · have f0 : decide ((i : Int) < (l.length : Nat)) = false := decide_eq_false (by omega)
    repeat' (first
 | (apply aw_cond_kf
    · conv => lhs; whnf
    · assumption)
 | refine aw_seq ?_
 | refine aw_region ?_
 | refine awo_nil ?_
 | refine k_seq ?_
 | (apply s_val rfl
    · conv => lhs; whnf
    · conv => lhs; whnf; arg 2; whnf)
 | refine aw_ret ?_
 | refine aw_exit ?_
 | refine k_seq_exit ?_
 | refine k_block_hit rfl ?_
 | refine k_loop_exit ?_
 | refine k_end_ret ?_
 | (refine ⟨_, by conv => lhs; whnf; arg 2; whnf, ?_⟩; conv => rhs; whnf)
 | exact trivial)
    show V.c _ = V.c _
    rw [idxF_no fun m hm => hno m (by omega)]
set_option maxHeartbeats 8000000 in
set_option maxRecDepth 100000 in
theorem containsFrag_ac (l : List D) (p : D → Bool) (hn : l.length ≤ 1000000000) (hc : ∀ i, i < l.length → AC EN5 Tryz.prog 82 [.agg (cellsV Tryz.prog 12 116 (gD l i))] (.c (.bool (p (gD l i))))) : AC EN5 Tryz.prog 81 [.sl 116 l, .c (.func (.func 82) #[] #[])] (.c (.bool (l.any p))) := by
  have h1 := indexFrag_ac l p hn hc
  rw [← idxF_any]
  refine ac_enter 9 Tryz.func81 rfl rfl rfl rfl ?_
  intro s w he
  repeat' (first
 | refine aw_seq ?_
 | refine aw_region ?_
 | refine awo_nil ?_
 | refine k_seq ?_
 | (apply s_val rfl
    · conv => lhs; whnf
    · conv => lhs; whnf; arg 2; whnf)
 | (apply s_call rfl
    · conv => lhs; whnf
    · conv => lhs; whnf
    · first | exact h1)
 | refine aw_ret ?_
 | refine k_end_ret ?_
 | (refine ⟨_, by conv => lhs; whnf; arg 2; whnf, ?_⟩; conv => rhs; whnf)
 | exact trivial)
noncomputable def HiArg (l : List D) (i : Nat) : Vst 19 := stS 19 [(0, .sl 86 l), (1, .c (.func (.func 300) #[] #[])), (7, .c (.int .i64 (l.length : Nat))), (8, .c (.int .i64 (i : Int)))] []
set_option maxHeartbeats 8000000 in
set_option maxRecDepth 100000 in
theorem indexArg_ac (l : List D) (p : D → Bool) (hn : l.length ≤ 1000000000) (hc : ∀ i, i < l.length → AC EN5 Tryz.prog 300 [.agg (cellsV Tryz.prog 12 86 (gD l i))] (.c (.bool (p (gD l i))))) : AC EN5 Tryz.prog 339 [.sl 86 l, .c (.func (.func 300) #[] #[])] (.c (.int .i64 (idxF l p))) := by
  refine ac_enter 19 Tryz.func339 rfl rfl rfl rfl ?_
  intro s w he
  repeat' (first
 | refine aw_seq ?_
 | refine aw_region ?_
 | refine awo_nil ?_
 | refine k_seq ?_
 | refine aw_block ?_
 | (apply s_val rfl
    · conv => lhs; whnf
    · conv => lhs; whnf; arg 2; whnf)
 | exact trivial)
  refine aw_loop (fun j st => ∃ i, i + j = l.length ∧ (∀ m, m < i → p (gD l m) = false) ∧ Sub (cx EN5 Tryz.prog s w he) st (HiArg l i)) l.length ⟨0, by omega, fun m hm => absurd hm (Nat.not_lt_zero m), Sub.live ⟨rfl, rfl, rfl, rfl, trivial⟩ trivial⟩ ?_
  rintro j st ⟨i, hij, hno, hs2⟩
  refine aw_sub hs2 ?_
  clear hs2
  by_cases hi : i < l.length
  · have f0 : decide ((i : Int) < (l.length : Nat)) = true := decide_eq_true (by omega)
    have hc2 := hc i hi
    repeat' (first
 | (apply aw_cond_kt
    · conv => lhs; whnf
    · assumption)
 | refine aw_seq ?_
 | refine aw_region ?_
 | refine awo_nil ?_
 | refine k_seq ?_
 | refine k_block ?_
 | refine aw_block ?_
 | refine aw_skip ?_
 | (apply s_val rfl
    · conv => lhs; whnf
    · conv => lhs; whnf; arg 2; whnf)
 | (apply s_call rfl
    · conv => lhs; whnf
    · conv => lhs; whnf
    · first | exact hc2)
 | (refine aw_cond (by conv => lhs; whnf) ?_ ?_ <;> intro hb)
 | refine aw_ret ?_
 | refine k_seq_ret ?_
 | refine k_block_ret ?_
 | refine k_loop_ret ?_
 | refine k_end_ret ?_
 | (refine ⟨_, by conv => lhs; whnf; arg 2; whnf, ?_⟩; conv => rhs; whnf)
 | exact trivial)
    · show V.c _ = V.c _
      rw [idxF_at hi hno hb]
    · refine k_loop_next (j' := j - 1) (by omega) ⟨i + 1, by omega, fun m hm => ?_, Sub.live ⟨rfl, rfl, rfl, rfl, trivial⟩ trivial⟩
      by_cases e : m = i
      · subst e; exact hb
      · exact hno m (by omega)
    all_goals first
      | exact i64_ok (by omega)
      | exact ⟨by omega, by omega⟩
  · have f0 : decide ((i : Int) < (l.length : Nat)) = false := decide_eq_false (by omega)
    repeat' (first
 | (apply aw_cond_kf
    · conv => lhs; whnf
    · assumption)
 | refine aw_seq ?_
 | refine aw_region ?_
 | refine awo_nil ?_
 | refine k_seq ?_
 | (apply s_val rfl
    · conv => lhs; whnf
    · conv => lhs; whnf; arg 2; whnf)
 | refine aw_ret ?_
 | refine aw_exit ?_
 | refine k_seq_exit ?_
 | refine k_block_hit rfl ?_
 | refine k_loop_exit ?_
 | refine k_end_ret ?_
 | (refine ⟨_, by conv => lhs; whnf; arg 2; whnf, ?_⟩; conv => rhs; whnf)
 | exact trivial)
    show V.c _ = V.c _
    rw [idxF_no fun m hm => hno m (by omega)]
set_option maxHeartbeats 8000000 in
set_option maxRecDepth 100000 in
theorem containsArg_ac (l : List D) (p : D → Bool) (hn : l.length ≤ 1000000000) (hc : ∀ i, i < l.length → AC EN5 Tryz.prog 300 [.agg (cellsV Tryz.prog 12 86 (gD l i))] (.c (.bool (p (gD l i))))) : AC EN5 Tryz.prog 299 [.sl 86 l, .c (.func (.func 300) #[] #[])] (.c (.bool (l.any p))) := by
  have h1 := indexArg_ac l p hn hc
  rw [← idxF_any]
  refine ac_enter 9 Tryz.func299 rfl rfl rfl rfl ?_
  intro s w he
  repeat' (first
 | refine aw_seq ?_
 | refine aw_region ?_
 | refine awo_nil ?_
 | refine k_seq ?_
 | (apply s_val rfl
    · conv => lhs; whnf
    · conv => lhs; whnf; arg 2; whnf)
 | (apply s_call rfl
    · conv => lhs; whnf
    · conv => lhs; whnf
    · first | exact h1)
 | refine aw_ret ?_
 | refine k_end_ret ?_
 | (refine ⟨_, by conv => lhs; whnf; arg 2; whnf, ?_⟩; conv => rhs; whnf)
 | exact trivial)
noncomputable def HiDir (l : List D) (i : Nat) : Vst 19 := stS 19 [(0, .sl 150 l), (1, .c (.func (.func 302) #[] #[])), (7, .c (.int .i64 (l.length : Nat))), (8, .c (.int .i64 (i : Int)))] []
set_option maxHeartbeats 8000000 in
set_option maxRecDepth 100000 in
theorem indexDir_ac (l : List D) (p : D → Bool) (hn : l.length ≤ 1000000000) (hc : ∀ i, i < l.length → AC EN5 Tryz.prog 302 [.agg (cellsV Tryz.prog 12 150 (gD l i))] (.c (.bool (p (gD l i))))) : AC EN5 Tryz.prog 340 [.sl 150 l, .c (.func (.func 302) #[] #[])] (.c (.int .i64 (idxF l p))) := by
  refine ac_enter 19 Tryz.func340 rfl rfl rfl rfl ?_
  intro s w he
  repeat' (first
 | refine aw_seq ?_
 | refine aw_region ?_
 | refine awo_nil ?_
 | refine k_seq ?_
 | refine aw_block ?_
 | (apply s_val rfl
    · conv => lhs; whnf
    · conv => lhs; whnf; arg 2; whnf)
 | exact trivial)
  refine aw_loop (fun j st => ∃ i, i + j = l.length ∧ (∀ m, m < i → p (gD l m) = false) ∧ Sub (cx EN5 Tryz.prog s w he) st (HiDir l i)) l.length ⟨0, by omega, fun m hm => absurd hm (Nat.not_lt_zero m), Sub.live ⟨rfl, rfl, rfl, rfl, trivial⟩ trivial⟩ ?_
  rintro j st ⟨i, hij, hno, hs2⟩
  refine aw_sub hs2 ?_
  clear hs2
  by_cases hi : i < l.length
  · have f0 : decide ((i : Int) < (l.length : Nat)) = true := decide_eq_true (by omega)
    have hc2 := hc i hi
    repeat' (first
 | (apply aw_cond_kt
    · conv => lhs; whnf
    · assumption)
 | refine aw_seq ?_
 | refine aw_region ?_
 | refine awo_nil ?_
 | refine k_seq ?_
 | refine k_block ?_
 | refine aw_block ?_
 | refine aw_skip ?_
 | (apply s_val rfl
    · conv => lhs; whnf
    · conv => lhs; whnf; arg 2; whnf)
 | (apply s_call rfl
    · conv => lhs; whnf
    · conv => lhs; whnf
    · first | exact hc2)
 | (refine aw_cond (by conv => lhs; whnf) ?_ ?_ <;> intro hb)
 | refine aw_ret ?_
 | refine k_seq_ret ?_
 | refine k_block_ret ?_
 | refine k_loop_ret ?_
 | refine k_end_ret ?_
 | (refine ⟨_, by conv => lhs; whnf; arg 2; whnf, ?_⟩; conv => rhs; whnf)
 | exact trivial)
    · show V.c _ = V.c _
      rw [idxF_at hi hno hb]
    · refine k_loop_next (j' := j - 1) (by omega) ⟨i + 1, by omega, fun m hm => ?_, Sub.live ⟨rfl, rfl, rfl, rfl, trivial⟩ trivial⟩
      by_cases e : m = i
      · subst e; exact hb
      · exact hno m (by omega)
    all_goals first
      | exact i64_ok (by omega)
      | exact ⟨by omega, by omega⟩
  · have f0 : decide ((i : Int) < (l.length : Nat)) = false := decide_eq_false (by omega)
    repeat' (first
 | (apply aw_cond_kf
    · conv => lhs; whnf
    · assumption)
 | refine aw_seq ?_
 | refine aw_region ?_
 | refine awo_nil ?_
 | refine k_seq ?_
 | (apply s_val rfl
    · conv => lhs; whnf
    · conv => lhs; whnf; arg 2; whnf)
 | refine aw_ret ?_
 | refine aw_exit ?_
 | refine k_seq_exit ?_
 | refine k_block_hit rfl ?_
 | refine k_loop_exit ?_
 | refine k_end_ret ?_
 | (refine ⟨_, by conv => lhs; whnf; arg 2; whnf, ?_⟩; conv => rhs; whnf)
 | exact trivial)
    show V.c _ = V.c _
    rw [idxF_no fun m hm => hno m (by omega)]
set_option maxHeartbeats 8000000 in
set_option maxRecDepth 100000 in
theorem containsDir_ac (l : List D) (p : D → Bool) (hn : l.length ≤ 1000000000) (hc : ∀ i, i < l.length → AC EN5 Tryz.prog 302 [.agg (cellsV Tryz.prog 12 150 (gD l i))] (.c (.bool (p (gD l i))))) : AC EN5 Tryz.prog 301 [.sl 150 l, .c (.func (.func 302) #[] #[])] (.c (.bool (l.any p))) := by
  have h1 := indexDir_ac l p hn hc
  rw [← idxF_any]
  refine ac_enter 9 Tryz.func301 rfl rfl rfl rfl ?_
  intro s w he
  repeat' (first
 | refine aw_seq ?_
 | refine aw_region ?_
 | refine awo_nil ?_
 | refine k_seq ?_
 | (apply s_val rfl
    · conv => lhs; whnf
    · conv => lhs; whnf; arg 2; whnf)
 | (apply s_call rfl
    · conv => lhs; whnf
    · conv => lhs; whnf
    · first | exact h1)
 | refine aw_ret ?_
 | refine k_end_ret ?_
 | (refine ⟨_, by conv => lhs; whnf; arg 2; whnf, ?_⟩; conv => rhs; whnf)
 | exact trivial)
noncomputable def HiBare (l : List D) (i : Nat) : Vst 19 := stS 19 [(0, .sl 84 l), (1, .c (.func (.func 234) #[] #[])), (7, .c (.int .i64 (l.length : Nat))), (8, .c (.int .i64 (i : Int)))] []
set_option maxHeartbeats 8000000 in
set_option maxRecDepth 100000 in
theorem indexBare_ac (l : List D) (p : D → Bool) (hn : l.length ≤ 1000000000) (hc : ∀ i, i < l.length → AC EN5 Tryz.prog 234 [.agg (cellsV Tryz.prog 12 84 (gD l i))] (.c (.bool (p (gD l i))))) : AC EN5 Tryz.prog 298 [.sl 84 l, .c (.func (.func 234) #[] #[])] (.c (.int .i64 (idxF l p))) := by
  refine ac_enter 19 Tryz.func298 rfl rfl rfl rfl ?_
  intro s w he
  repeat' (first
 | refine aw_seq ?_
 | refine aw_region ?_
 | refine awo_nil ?_
 | refine k_seq ?_
 | refine aw_block ?_
 | (apply s_val rfl
    · conv => lhs; whnf
    · conv => lhs; whnf; arg 2; whnf)
 | exact trivial)
  refine aw_loop (fun j st => ∃ i, i + j = l.length ∧ (∀ m, m < i → p (gD l m) = false) ∧ Sub (cx EN5 Tryz.prog s w he) st (HiBare l i)) l.length ⟨0, by omega, fun m hm => absurd hm (Nat.not_lt_zero m), Sub.live ⟨rfl, rfl, rfl, rfl, trivial⟩ trivial⟩ ?_
  rintro j st ⟨i, hij, hno, hs2⟩
  refine aw_sub hs2 ?_
  clear hs2
  by_cases hi : i < l.length
  · have f0 : decide ((i : Int) < (l.length : Nat)) = true := decide_eq_true (by omega)
    have hc2 := hc i hi
    repeat' (first
 | (apply aw_cond_kt
    · conv => lhs; whnf
    · assumption)
 | refine aw_seq ?_
 | refine aw_region ?_
 | refine awo_nil ?_
 | refine k_seq ?_
 | refine k_block ?_
 | refine aw_block ?_
 | refine aw_skip ?_
 | (apply s_val rfl
    · conv => lhs; whnf
    · conv => lhs; whnf; arg 2; whnf)
 | (apply s_call rfl
    · conv => lhs; whnf
    · conv => lhs; whnf
    · first | exact hc2)
 | (refine aw_cond (by conv => lhs; whnf) ?_ ?_ <;> intro hb)
 | refine aw_ret ?_
 | refine k_seq_ret ?_
 | refine k_block_ret ?_
 | refine k_loop_ret ?_
 | refine k_end_ret ?_
 | (refine ⟨_, by conv => lhs; whnf; arg 2; whnf, ?_⟩; conv => rhs; whnf)
 | exact trivial)
    · show V.c _ = V.c _
      rw [idxF_at hi hno hb]
    · refine k_loop_next (j' := j - 1) (by omega) ⟨i + 1, by omega, fun m hm => ?_, Sub.live ⟨rfl, rfl, rfl, rfl, trivial⟩ trivial⟩
      by_cases e : m = i
      · subst e; exact hb
      · exact hno m (by omega)
    all_goals first
      | exact i64_ok (by omega)
      | exact ⟨by omega, by omega⟩
  · have f0 : decide ((i : Int) < (l.length : Nat)) = false := decide_eq_false (by omega)
    repeat' (first
 | (apply aw_cond_kf
    · conv => lhs; whnf
    · assumption)
 | refine aw_seq ?_
 | refine aw_region ?_
 | refine awo_nil ?_
 | refine k_seq ?_
 | (apply s_val rfl
    · conv => lhs; whnf
    · conv => lhs; whnf; arg 2; whnf)
 | refine aw_ret ?_
 | refine aw_exit ?_
 | refine k_seq_exit ?_
 | refine k_block_hit rfl ?_
 | refine k_loop_exit ?_
 | refine k_end_ret ?_
 | (refine ⟨_, by conv => lhs; whnf; arg 2; whnf, ?_⟩; conv => rhs; whnf)
 | exact trivial)
    show V.c _ = V.c _
    rw [idxF_no fun m hm => hno m (by omega)]
set_option maxHeartbeats 8000000 in
set_option maxRecDepth 100000 in
theorem containsBare_ac (l : List D) (p : D → Bool) (hn : l.length ≤ 1000000000) (hc : ∀ i, i < l.length → AC EN5 Tryz.prog 234 [.agg (cellsV Tryz.prog 12 84 (gD l i))] (.c (.bool (p (gD l i))))) : AC EN5 Tryz.prog 233 [.sl 84 l, .c (.func (.func 234) #[] #[])] (.c (.bool (l.any p))) := by
  have h1 := indexBare_ac l p hn hc
  rw [← idxF_any]
  refine ac_enter 9 Tryz.func233 rfl rfl rfl rfl ?_
  intro s w he
  repeat' (first
 | refine aw_seq ?_
 | refine aw_region ?_
 | refine awo_nil ?_
 | refine k_seq ?_
 | (apply s_val rfl
    · conv => lhs; whnf
    · conv => lhs; whnf; arg 2; whnf)
 | (apply s_call rfl
    · conv => lhs; whnf
    · conv => lhs; whnf
    · first | exact h1)
 | refine aw_ret ?_
 | refine k_end_ret ?_
 | (refine ⟨_, by conv => lhs; whnf; arg 2; whnf, ?_⟩; conv => rhs; whnf)
 | exact trivial)
noncomputable def HiKey (l : List D) (i : Nat) : Vst 19 := stS 19 [(0, .sl 9 l), (1, .c (.func (.func 337) #[] #[])), (7, .c (.int .i64 (l.length : Nat))), (8, .c (.int .i64 (i : Int)))] []
set_option maxHeartbeats 8000000 in
set_option maxRecDepth 100000 in
theorem indexKey_ac (l : List D) (p : D → Bool) (hn : l.length ≤ 1000000000) (hc : ∀ i, i < l.length → AC EN5 Tryz.prog 337 [.c (.string (gD l i).s)] (.c (.bool (p (gD l i))))) : AC EN5 Tryz.prog 363 [.sl 9 l, .c (.func (.func 337) #[] #[])] (.c (.int .i64 (idxF l p))) := by
  refine ac_enter 19 Tryz.func363 rfl rfl rfl rfl ?_
  intro s w he
  repeat' (first
 | refine aw_seq ?_
 | refine aw_region ?_
 | refine awo_nil ?_
 | refine k_seq ?_
 | refine aw_block ?_
 | (apply s_val rfl
    · conv => lhs; whnf
    · conv => lhs; whnf; arg 2; whnf)
 | exact trivial)
  refine aw_loop (fun j st => ∃ i, i + j = l.length ∧ (∀ m, m < i → p (gD l m) = false) ∧ Sub (cx EN5 Tryz.prog s w he) st (HiKey l i)) l.length ⟨0, by omega, fun m hm => absurd hm (Nat.not_lt_zero m), Sub.live ⟨rfl, rfl, rfl, rfl, trivial⟩ trivial⟩ ?_
  rintro j st ⟨i, hij, hno, hs2⟩
  refine aw_sub hs2 ?_
  clear hs2
  by_cases hi : i < l.length
  · have f0 : decide ((i : Int) < (l.length : Nat)) = true := decide_eq_true (by omega)
    have hc2 := hc i hi
    repeat' (first
 | (apply aw_cond_kt
    · conv => lhs; whnf
    · assumption)
 | refine aw_seq ?_
 | refine aw_region ?_
 | refine awo_nil ?_
 | refine k_seq ?_
 | refine k_block ?_
 | refine aw_block ?_
 | refine aw_skip ?_
 | (apply s_val rfl
    · conv => lhs; whnf
    · conv => lhs; whnf; arg 2; whnf)
 | (apply s_call rfl
    · conv => lhs; whnf
    · conv => lhs; whnf
    · first | exact hc2)
 | (refine aw_cond (by conv => lhs; whnf) ?_ ?_ <;> intro hb)
 | refine aw_ret ?_
 | refine k_seq_ret ?_
 | refine k_block_ret ?_
 | refine k_loop_ret ?_
 | refine k_end_ret ?_
 | (refine ⟨_, by conv => lhs; whnf; arg 2; whnf, ?_⟩; conv => rhs; whnf)
 | exact trivial)
    · show V.c _ = V.c _
      rw [idxF_at hi hno hb]
    · refine k_loop_next (j' := j - 1) (by omega) ⟨i + 1, by omega, fun m hm => ?_, Sub.live ⟨rfl, rfl, rfl, rfl, trivial⟩ trivial⟩
      by_cases e : m = i
      · subst e; exact hb
      · exact hno m (by omega)
    all_goals first
      | exact i64_ok (by omega)
      | exact ⟨by omega, by omega⟩
  · have f0 : decide ((i : Int) < (l.length : Nat)) = false := decide_eq_false (by omega)
    repeat' (first
 | (apply aw_cond_kf
    · conv => lhs; whnf
    · assumption)
 | refine aw_seq ?_
 | refine aw_region ?_
 | refine awo_nil ?_
 | refine k_seq ?_
 | (apply s_val rfl
    · conv => lhs; whnf
    · conv => lhs; whnf; arg 2; whnf)
 | refine aw_ret ?_
 | refine aw_exit ?_
 | refine k_seq_exit ?_
 | refine k_block_hit rfl ?_
 | refine k_loop_exit ?_
 | refine k_end_ret ?_
 | (refine ⟨_, by conv => lhs; whnf; arg 2; whnf, ?_⟩; conv => rhs; whnf)
 | exact trivial)
    show V.c _ = V.c _
    rw [idxF_no fun m hm => hno m (by omega)]
set_option maxHeartbeats 8000000 in
set_option maxRecDepth 100000 in
theorem containsKey_ac (l : List D) (p : D → Bool) (hn : l.length ≤ 1000000000) (hc : ∀ i, i < l.length → AC EN5 Tryz.prog 337 [.c (.string (gD l i).s)] (.c (.bool (p (gD l i))))) : AC EN5 Tryz.prog 336 [.sl 9 l, .c (.func (.func 337) #[] #[])] (.c (.bool (l.any p))) := by
  have h1 := indexKey_ac l p hn hc
  rw [← idxF_any]
  refine ac_enter 9 Tryz.func336 rfl rfl rfl rfl ?_
  intro s w he
  repeat' (first
 | refine aw_seq ?_
 | refine aw_region ?_
 | refine awo_nil ?_
 | refine k_seq ?_
 | (apply s_val rfl
    · conv => lhs; whnf
    · conv => lhs; whnf; arg 2; whnf)
 | (apply s_call rfl
    · conv => lhs; whnf
    · conv => lhs; whnf
    · first | exact h1)
 | refine aw_ret ?_
 | refine k_end_ret ?_
 | (refine ⟨_, by conv => lhs; whnf; arg 2; whnf, ?_⟩; conv => rhs; whnf)
 | exact trivial)
noncomputable def HiEvery (lv : Bool) (l : List D) (i : Nat) : Vst 19 := stS 19 [(0, .sl 84 l), (1, .clo 297 [.bx (pn 0) 0]), (7, .c (.int .i64 (l.length : Nat))), (8, .c (.int .i64 (i : Int)))] [(pn 0, .box 4 [.c (.bool lv)])]
set_option maxHeartbeats 8000000 in
set_option maxRecDepth 100000 in
theorem indexEvery_acb (lv : Bool) (l : List D) (p : D → Bool) (hn : l.length ≤ 1000000000) (hc : ∀ i, i < l.length → ACB EN5 Tryz.prog 297 [.agg (cellsV Tryz.prog 12 84 (gD l i)), .bx (pn 0) 0] [.box 4 [.c (.bool lv)]] (.c (.bool (p (gD l i)))) [.box 4 [.c (.bool lv)]]) : ACB EN5 Tryz.prog 298 [.sl 84 l, .clo 297 [.bx (pn 0) 0]] [.box 4 [.c (.bool lv)]] (.c (.int .i64 (idxF l p))) [.box 4 [.c (.bool lv)]] := by
  refine acb_enter (fn := Tryz.f298) 19 Tryz.func298 rfl rfl ?_
  intro pas w0 w he hpp
  repeat' (first
 | refine aw_seq ?_
 | refine aw_region ?_
 | refine awo_nil ?_
 | refine k_seq ?_
 | refine aw_block ?_
 | (apply s_val rfl
    · conv => lhs; whnf
    · conv => lhs; whnf; arg 2; whnf)
 | exact trivial)
  refine aw_loop (fun j st => ∃ i, i + j = l.length ∧ (∀ m, m < i → p (gD l m) = false) ∧ Sub ⟨Tryz.prog, pas, w0, w, EN5, he, hpp, fun _ _ _ => False, []⟩ st (HiEvery lv l i)) l.length ⟨0, by omega, fun m hm => absurd hm (Nat.not_lt_zero m), Sub.live ⟨rfl, rfl, rfl, rfl, trivial⟩ ⟨rfl, trivial⟩⟩ ?_
  rintro j st ⟨i, hij, hno, hs2⟩
  refine aw_sub hs2 ?_
  clear hs2
  by_cases hi : i < l.length
  · have f0 : decide ((i : Int) < (l.length : Nat)) = true := decide_eq_true (by omega)
    have hc2 := hc i hi
    repeat' (first
 | (apply s_boxw (m := pn 0) rfl
    · conv => lhs; whnf
    · conv => lhs; whnf
    · rfl
    · conv => lhs; whnf; arg 1; whnf
    · exact fun _ => rfl
    · first | exact hc2
    · exact fun _ => rfl
    · exact fun _ => rfl
    · exact fun _ => rfl)
 | (apply aw_cond_kt
    · conv => lhs; whnf
    · assumption)
 | refine aw_seq ?_
 | refine aw_region ?_
 | refine awo_nil ?_
 | refine k_seq ?_
 | refine k_block ?_
 | refine aw_block ?_
 | refine aw_skip ?_
 | (apply s_val rfl
    · conv => lhs; whnf
    · conv => lhs; whnf; arg 2; whnf)
 | (refine aw_cond (by conv => lhs; whnf) ?_ ?_ <;> intro hb)
 | refine aw_ret ?_
 | refine k_seq_ret ?_
 | refine k_block_ret ?_
 | refine k_loop_ret ?_
 | refine k_endB ⟨?_, ?_⟩
 | (refine ⟨_, by conv => lhs; whnf; arg 2; whnf, ?_⟩; conv => rhs; whnf)
 | exact trivial)
    · show V.c _ = V.c _
      rw [idxF_at hi hno hb]
    · exact ⟨rfl, trivial⟩
    · refine k_loop_next (j' := j - 1) (by omega) ⟨i + 1, by omega, fun m hm => ?_, Sub.live ⟨rfl, rfl, rfl, rfl, trivial⟩ ⟨rfl, trivial⟩⟩
      by_cases e : m = i
      · subst e; exact hb
      · exact hno m (by omega)
    all_goals first
      | exact i64_ok (by omega)
      | exact ⟨by omega, by omega⟩
  · have f0 : decide ((i : Int) < (l.length : Nat)) = false := decide_eq_false (by omega)
    repeat' (first
 | (apply aw_cond_kf
    · conv => lhs; whnf
    · assumption)
 | refine aw_seq ?_
 | refine aw_region ?_
 | refine awo_nil ?_
 | refine k_seq ?_
 | (apply s_val rfl
    · conv => lhs; whnf
    · conv => lhs; whnf; arg 2; whnf)
 | refine aw_ret ?_
 | refine aw_exit ?_
 | refine k_seq_exit ?_
 | refine k_block_hit rfl ?_
 | refine k_loop_exit ?_
 | refine k_endB ⟨?_, ?_⟩
 | (refine ⟨_, by conv => lhs; whnf; arg 2; whnf, ?_⟩; conv => rhs; whnf)
 | exact trivial)
    · show V.c _ = V.c _
      rw [idxF_no fun m hm => hno m (by omega)]
    · exact ⟨rfl, trivial⟩
set_option maxHeartbeats 8000000 in
set_option maxRecDepth 100000 in
theorem containsEvery_acb (lv : Bool) (l : List D) (p : D → Bool) (hn : l.length ≤ 1000000000) (hc : ∀ i, i < l.length → ACB EN5 Tryz.prog 297 [.agg (cellsV Tryz.prog 12 84 (gD l i)), .bx (pn 0) 0] [.box 4 [.c (.bool lv)]] (.c (.bool (p (gD l i)))) [.box 4 [.c (.bool lv)]]) : ACB EN5 Tryz.prog 233 [.sl 84 l, .clo 297 [.bx (pn 0) 0]] [.box 4 [.c (.bool lv)]] (.c (.bool (l.any p))) [.box 4 [.c (.bool lv)]] := by
  have h1 := indexEvery_acb lv l p hn hc
  rw [← idxF_any]
  refine acb_enter (fn := Tryz.f233) 9 Tryz.func233 rfl rfl ?_
  intro pas w0 w he hpp
  repeat' (first
 | (apply s_boxw (m := pn 0) rfl
    · conv => lhs; whnf
    · conv => lhs; whnf
    · rfl
    · conv => lhs; whnf; arg 1; whnf
    · exact fun _ => rfl
    · first | exact h1
    · exact fun _ => rfl
    · exact fun _ => rfl
    · exact fun _ => rfl)
 | refine aw_seq ?_
 | refine aw_region ?_
 | refine awo_nil ?_
 | refine k_seq ?_
 | (apply s_val rfl
    · conv => lhs; whnf
    · conv => lhs; whnf; arg 2; whnf)
 | refine aw_ret ?_
 | refine k_endB ⟨?_, ?_⟩
 | (refine ⟨_, by conv => lhs; whnf; arg 2; whnf, ?_⟩; conv => rhs; whnf)
 | exact trivial)
  exact ⟨rfl, trivial⟩
noncomputable def HiSel (lv : Int) (l : List D) (i : Nat) : Vst 19 := stS 19 [(0, .sl 76 l), (1, .clo 158 [.bx (pn 0) 0]), (7, .c (.int .i64 (l.length : Nat))), (8, .c (.int .i64 (i : Int)))] [(pn 0, .box 3 [.c (.int .i64 lv)])]
set_option maxHeartbeats 8000000 in
set_option maxRecDepth 100000 in
theorem indexSel_acb (lv : Int) (l : List D) (p : D → Bool) (hn : l.length ≤ 1000000000) (hc : ∀ i, i < l.length → ACB EN5 Tryz.prog 158 [.agg (cellsV Tryz.prog 12 76 (gD l i)), .bx (pn 0) 0] [.box 3 [.c (.int .i64 lv)]] (.c (.bool (p (gD l i)))) [.box 3 [.c (.int .i64 lv)]]) : ACB EN5 Tryz.prog 235 [.sl 76 l, .clo 158 [.bx (pn 0) 0]] [.box 3 [.c (.int .i64 lv)]] (.c (.int .i64 (idxF l p))) [.box 3 [.c (.int .i64 lv)]] := by
  refine acb_enter (fn := Tryz.f235) 19 Tryz.func235 rfl rfl ?_
  intro pas w0 w he hpp
  repeat' (first
 | refine aw_seq ?_
 | refine aw_region ?_
 | refine awo_nil ?_
 | refine k_seq ?_
 | refine aw_block ?_
 | (apply s_val rfl
    · conv => lhs; whnf
    · conv => lhs; whnf; arg 2; whnf)
 | exact trivial)
  refine aw_loop (fun j st => ∃ i, i + j = l.length ∧ (∀ m, m < i → p (gD l m) = false) ∧ Sub ⟨Tryz.prog, pas, w0, w, EN5, he, hpp, fun _ _ _ => False, []⟩ st (HiSel lv l i)) l.length ⟨0, by omega, fun m hm => absurd hm (Nat.not_lt_zero m), Sub.live ⟨rfl, rfl, rfl, rfl, trivial⟩ ⟨rfl, trivial⟩⟩ ?_
  rintro j st ⟨i, hij, hno, hs2⟩
  refine aw_sub hs2 ?_
  clear hs2
  by_cases hi : i < l.length
  · have f0 : decide ((i : Int) < (l.length : Nat)) = true := decide_eq_true (by omega)
    have hc2 := hc i hi
    repeat' (first
 | (apply s_boxw (m := pn 0) rfl
    · conv => lhs; whnf
    · conv => lhs; whnf
    · rfl
    · conv => lhs; whnf; arg 1; whnf
    · exact fun _ => rfl
    · first | exact hc2
    · exact fun _ => rfl
    · exact fun _ => rfl
    · exact fun _ => rfl)
 | (apply aw_cond_kt
    · conv => lhs; whnf
    · assumption)
 | refine aw_seq ?_
 | refine aw_region ?_
 | refine awo_nil ?_
 | refine k_seq ?_
 | refine k_block ?_
 | refine aw_block ?_
 | refine aw_skip ?_
 | (apply s_val rfl
    · conv => lhs; whnf
    · conv => lhs; whnf; arg 2; whnf)
 | (refine aw_cond (by conv => lhs; whnf) ?_ ?_ <;> intro hb)
 | refine aw_ret ?_
 | refine k_seq_ret ?_
 | refine k_block_ret ?_
 | refine k_loop_ret ?_
 | refine k_endB ⟨?_, ?_⟩
 | (refine ⟨_, by conv => lhs; whnf; arg 2; whnf, ?_⟩; conv => rhs; whnf)
 | exact trivial)
    · show V.c _ = V.c _
      rw [idxF_at hi hno hb]
    · exact ⟨rfl, trivial⟩
    · refine k_loop_next (j' := j - 1) (by omega) ⟨i + 1, by omega, fun m hm => ?_, Sub.live ⟨rfl, rfl, rfl, rfl, trivial⟩ ⟨rfl, trivial⟩⟩
      by_cases e : m = i
      · subst e; exact hb
      · exact hno m (by omega)
    all_goals first
      | exact i64_ok (by omega)
      | exact ⟨by omega, by omega⟩
  · have f0 : decide ((i : Int) < (l.length : Nat)) = false := decide_eq_false (by omega)
    repeat' (first
 | (apply aw_cond_kf
    · conv => lhs; whnf
    · assumption)
 | refine aw_seq ?_
 | refine aw_region ?_
 | refine awo_nil ?_
 | refine k_seq ?_
 | (apply s_val rfl
    · conv => lhs; whnf
    · conv => lhs; whnf; arg 2; whnf)
 | refine aw_ret ?_
 | refine aw_exit ?_
 | refine k_seq_exit ?_
 | refine k_block_hit rfl ?_
 | refine k_loop_exit ?_
 | refine k_endB ⟨?_, ?_⟩
 | (refine ⟨_, by conv => lhs; whnf; arg 2; whnf, ?_⟩; conv => rhs; whnf)
 | exact trivial)
    · show V.c _ = V.c _
      rw [idxF_no fun m hm => hno m (by omega)]
    · exact ⟨rfl, trivial⟩
set_option maxHeartbeats 8000000 in
set_option maxRecDepth 100000 in
theorem containsSel_acb (lv : Int) (l : List D) (p : D → Bool) (hn : l.length ≤ 1000000000) (hc : ∀ i, i < l.length → ACB EN5 Tryz.prog 158 [.agg (cellsV Tryz.prog 12 76 (gD l i)), .bx (pn 0) 0] [.box 3 [.c (.int .i64 lv)]] (.c (.bool (p (gD l i)))) [.box 3 [.c (.int .i64 lv)]]) : ACB EN5 Tryz.prog 157 [.sl 76 l, .clo 158 [.bx (pn 0) 0]] [.box 3 [.c (.int .i64 lv)]] (.c (.bool (l.any p))) [.box 3 [.c (.int .i64 lv)]] := by
  have h1 := indexSel_acb lv l p hn hc
  rw [← idxF_any]
  refine acb_enter (fn := Tryz.f157) 9 Tryz.func157 rfl rfl ?_
  intro pas w0 w he hpp
  repeat' (first
 | (apply s_boxw (m := pn 0) rfl
    · conv => lhs; whnf
    · conv => lhs; whnf
    · rfl
    · conv => lhs; whnf; arg 1; whnf
    · exact fun _ => rfl
    · first | exact h1
    · exact fun _ => rfl
    · exact fun _ => rfl
    · exact fun _ => rfl)
 | refine aw_seq ?_
 | refine aw_region ?_
 | refine awo_nil ?_
 | refine k_seq ?_
 | (apply s_val rfl
    · conv => lhs; whnf
    · conv => lhs; whnf; arg 2; whnf)
 | refine aw_ret ?_
 | refine k_endB ⟨?_, ?_⟩
 | (refine ⟨_, by conv => lhs; whnf; arg 2; whnf, ?_⟩; conv => rhs; whnf)
 | exact trivial)
  exact ⟨rfl, trivial⟩
end Go.Proofs.YthjiclhfhjdjpaaGreatDoor
