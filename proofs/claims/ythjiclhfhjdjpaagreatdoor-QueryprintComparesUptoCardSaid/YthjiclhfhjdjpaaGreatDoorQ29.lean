/- Parts of a proof, merged by a program (shake.py). -/
import GoSem.Extern.BytealgCompare
import Derived.Lib.Bytealg
import Derived.Test.YthjiclhfhjdjpaaGreatDoorQ28
set_option linter.unusedVariables false
set_option linter.unusedSimpArgs false
namespace Go.Proofs.YthjiclhfhjdjpaaGreatDoor
open Go.RowKit
set_option linter.unusedSectionVars false
attribute [local irreducible] wpList Calls Code.wp AW AWo OpOk seqK blockK scopeK loopK endK AC absLex Yld Sub
attribute [local irreducible] ACB ACX absLexG YldG absLexH
def ordI (a b : Int) : Int := if a < b then -1 else if b < a then 1 else 0
set_option maxHeartbeats 8000000 in
set_option maxRecDepth 100000 in
theorem ordI_zero {a b : Int} : ordI a b = 0 ↔ a = b := by
  unfold ordI
  split
  · constructor <;> intro h <;> omega
  · split
    · constructor <;> intro h <;> omega
    · constructor <;> intro h <;> omega
set_option maxHeartbeats 8000000 in
set_option maxRecDepth 100000 in
theorem cmpB_range : ∀ (a b : List UInt8), -1 ≤ Lib.compareBytes a b ∧ Lib.compareBytes a b ≤ 1
  | [], [] => by simp [Lib.compareBytes]
  | [], _ :: _ => by simp [Lib.compareBytes]
  | _ :: _, [] => by simp [Lib.compareBytes]
  | a :: ar, b :: br => by
    have := cmpB_range ar br
    unfold Lib.compareBytes
    split
    · omega
    · split
      · omega
      · exact this
set_option maxHeartbeats 8000000 in
set_option maxRecDepth 100000 in
theorem cmpB_zero : ∀ (a b : List UInt8), Lib.compareBytes a b = 0 ↔ a = b
  | [], [] => by simp [Lib.compareBytes]
  | [], _ :: _ => by simp [Lib.compareBytes]
  | _ :: _, [] => by simp [Lib.compareBytes]
  | a :: ar, b :: br => by
    have := cmpB_zero ar br
    unfold Lib.compareBytes
    by_cases h1 : a < b
    · rw [if_pos h1]
      constructor
      · intro h; omega
      · intro h; cases h; exact absurd h1 (UInt8.lt_irrefl _)
    · rw [if_neg h1]
      by_cases h2 : b < a
      · rw [if_pos h2]
        constructor
        · intro h; omega
        · intro h; cases h; exact absurd h2 (UInt8.lt_irrefl _)
      · rw [if_neg h2, this]
        have e : a = b := UInt8.le_antisymm (UInt8.not_lt.1 h2) (UInt8.not_lt.1 h1)
        simp [e]
set_option maxHeartbeats 8000000 in
set_option maxRecDepth 100000 in
theorem i64_small {n : Int} (h : -1 ≤ n ∧ n ≤ 1) : okV (.int .i64 n) := by
  show (Lit.int .i64 n).wf = true
  rw [wf_int]
  simp [IntKind.min, IntKind.max, IntKind.signed, IntKind.bits]; omega
set_option maxRecDepth 100000 in
set_option maxHeartbeats 8000000 in
theorem cmpStrC (a b : ByteArray) (w : World) : Calls Tryz.prog 335 #[.string a, .string b] w fun e w' => e = .returned (.int .i64 (Lib.compareBytes (tx a) (tx b))) ∧ w' = w := by
  go_enter Tryz.func335, Tryz.ntmps335
  go_wp2
  rw [run_callFunc_extern Tryz.func362 (by kernel_rfl) (by kernel_rfl) (by kernel_rfl) (e := Extern.BytealgCompare.compare) (by kernel_rfl), Lib.run_compareString]
  simp only [Result.andThen]
  rw [Oper.upon_value]
  go_wp2
  go_ret
  exact ⟨rfl, rfl⟩
def keyD (x : D) (i : Nat) : ByteArray := if i < (x.f 4).l.length then (gD (x.f 4).l i).s else ⟨#[]⟩
def cmpIt (f : D → D → Int) (a b : D) : Nat → Nat → Int
  | 0, _ => ordI (a.f 3).l.length (b.f 3).l.length
  | j + 1, i =>
    if Lib.compareBytes (tx (keyD a i)) (tx (keyD b i)) != 0 then Lib.compareBytes (tx (keyD a i)) (tx (keyD b i))
    else if f (gD (a.f 3).l i) (gD (b.f 3).l i) != 0 then f (gD (a.f 3).l i) (gD (b.f 3).l i)
    else cmpIt f a b j (i + 1)
def cmpV : Nat → D → D → Int
  | 0, _, _ => 0
  | k + 1, a, b =>
    if (a.f 0).n != (b.f 0).n then ordI (a.f 0).n (b.f 0).n
    else if (a.f 1).n != (b.f 1).n then ordI (a.f 1).n (b.f 1).n
    else if !((a.f 2).s.toList == (b.f 2).s.toList) then Lib.compareBytes (tx (a.f 2).s) (tx (b.f 2).s)
    else cmpIt (cmpV k) a b (min (a.f 3).l.length (b.f 3).l.length) 0
noncomputable def HV0 (a b : D) : Vst 84 :=
  stS 84 [(2, .bx 2 0), (3, .bx 3 0), (7, .c (.int .i64 0))] [(2, .box 84 (cellsV Tryz.prog 12 84 a)), (3, .box 84 (cellsV Tryz.prog 12 84 b))]
noncomputable def HV1 (r : Int) : Vst 84 := stS 84 [(5, .c (.int .i64 r)), (7, .c (.int .i64 1))] []
noncomputable def HVI (a b : D) (i : Nat) : Vst 84 :=
  stS 84 [(2, .bx 2 0), (3, .bx 3 0), (7, .c (.int .i64 0)), (48, .c (.int .i64 (min (a.f 3).l.length (b.f 3).l.length : Nat))), (49, .c (.int .i64 i))] [(2, .box 84 (cellsV Tryz.prog 12 84 a)), (3, .box 84 (cellsV Tryz.prog 12 84 b))]
set_option maxHeartbeats 8000000 in
set_option maxRecDepth 100000 in
theorem min_int {x y : Nat} : (if (y : Int) < x then (y : Int) else (x : Int)) = ((min x y : Nat) : Int) := by
  split <;> omega
end Go.Proofs.YthjiclhfhjdjpaaGreatDoor
namespace Go.Proofs.YthjiclhfhjdjpaaGreatDoor
open Go.RowKit
set_option linter.unusedSectionVars false
attribute [local irreducible] wpList Calls Code.wp AW AWo OpOk seqK blockK scopeK loopK endK AC absLex Yld Sub
attribute [local irreducible] ACB ACX absLexG YldG absLexH
/-- the wrappers from the one at i on -/
def wrapsI (l : List D) : Nat → Nat → Bool
  | 0, _ => true
  | j + 1, i => ((gD l i).n == 1 || (gD l i).n == 2) && !((gD l i).n == 1 && decide (0 < i) && (gD l (i - 1)).n == (gD l i).n) && wrapsI l j (i + 1)
set_option maxHeartbeats 8000000 in
set_option maxRecDepth 100000 in
theorem wrapsI_cons (x : D) (l : List D) : ∀ (j i : Nat), wrapsI (x :: l) j (i + 2) = wrapsI l j (i + 1)
  | 0, _ => rfl
  | j + 1, i => by
    unfold wrapsI
    rw [wrapsI_cons x l j (i + 1)]
    have e1 : gD (x :: l) (i + 2) = gD l (i + 1) := rfl
    have e2 : gD (x :: l) (i + 2 - 1) = gD l (i + 1 - 1) := rfl
    have e3 : decide (0 < i + 2) = decide (0 < i + 1) := by simp
    rw [e1, e2, e3]
set_option maxHeartbeats 8000000 in
set_option maxRecDepth 100000 in
theorem wrapsI_R : ∀ l : List D, wrapsI l l.length 0 = wrapsR (l.map D.n)
  | [] => rfl
  | [x] => by
    show (((x.n == 1 || x.n == 2) && !(x.n == 1 && decide (0 < 0) && _)) && true) = (x.n == 1 || x.n == 2)
    simp
  | x :: y :: r => by
    have ih := wrapsI_R (y :: r)
    show (((x.n == 1 || x.n == 2) && !(x.n == 1 && decide (0 < 0) && _)) && wrapsI (x :: y :: r) (r.length + 1) 1) = ((x.n == 1 || x.n == 2) && !(x.n == 1 && y.n == 1) && wrapsR (y.n :: r.map D.n))
    have e : wrapsI (x :: y :: r) (r.length + 1) 1 = (((y.n == 1 || y.n == 2) && !(y.n == 1 && true && (x.n == y.n))) && wrapsI (y :: r) r.length 1) := by
      show (((y.n == 1 || y.n == 2) && !(y.n == 1 && true && (x.n == y.n))) && wrapsI (x :: y :: r) r.length 2) = _
      rw [wrapsI_cons]
    have e2 : wrapsI (y :: r) (y :: r).length 0 = (((y.n == 1 || y.n == 2) && !(y.n == 1 && decide (0 < 0) && false)) && wrapsI (y :: r) r.length 1) := by
      show (((y.n == 1 || y.n == 2) && !(y.n == 1 && decide (0 < 0) && _)) && wrapsI (y :: r) r.length 1) = _
      simp
    rw [e]
    rw [e2] at ih
    have ih2 : wrapsR (y.n :: r.map D.n) = (((y.n == 1 || y.n == 2) && !(y.n == 1 && decide (0 < 0) && false)) && wrapsI (y :: r) r.length 1) := ih.symm
    rw [ih2]
    generalize wrapsI (y :: r) r.length 1 = q
    cases hy : (y.n == 1)
    · generalize (x.n == 1) = a1
      generalize (x.n == 2) = a2
      generalize (y.n == 2) = a3
      generalize (x.n == y.n) = a4
      cases a1 <;> cases a2 <;> cases a3 <;> cases a4 <;> cases q <;> rfl
    · have hy' : y.n = 1 := by simpa using hy
      rw [hy']
      generalize (x.n == 1) = a1
      generalize (x.n == 2) = a2
      cases a1 <;> cases a2 <;> cases q <;> rfl
end Go.Proofs.YthjiclhfhjdjpaaGreatDoor
namespace Go.Proofs.YthjiclhfhjdjpaaGreatDoor
open Go.RowKit
set_option linter.unusedSectionVars false
attribute [local irreducible] wpList Calls Code.wp AW AWo OpOk seqK blockK scopeK loopK endK AC absLex Yld Sub
attribute [local irreducible] ACB ACX absLexG YldG absLexH
set_option maxHeartbeats 8000000 in
set_option maxRecDepth 100000 in
theorem nameF_ac (s : ByteArray) (hs : s.size ≤ 1000000000) : AC EN Tryz.prog 66 [.c (.string s)] (.c (.bool (nameB s))) := by
  refine ac_of (r := .bool (nameB s)) fun σ w us hus _ => ?_
  obtain ⟨rfl, -⟩ := str_arg hus
  refine ⟨trivial, (nameR s w (by omega)).mono ?_⟩
  rintro e w' ⟨rfl, rfl⟩
  exact ⟨rfl, Below.refl _ _⟩
noncomputable def HSf (d : D) (n i : Nat) : Vst 21 := stS 21 [(1, .bx 1 0), (3, .c (.int .i64 (n : Int))), (4, .c (.int .i64 (i : Int)))] [(1, .box 84 (cellsV Tryz.prog 12 84 d))]
set_option maxHeartbeats 8000000 in
set_option maxRecDepth 100000 in
theorem sizeF_ac : ∀ (k : Nat) (d : D), Dp k d → bulkD d ≤ 1000000000 → AC EN Tryz.prog 126 [.agg (cellsV Tryz.prog 12 84 d)] (.c (.int .i64 (sizeR k d : Int)))
  | 0, _, h, _ => h.elim
  | k + 1, d, h, hw => by
    have hin := bk_in hw
    have hl := hin.items
    have ih := fun i (hi : i < (d.f 3).l.length) => sizeF_ac k (gD (d.f 3).l i) (h i hi) (by have := hin.at_ i hi; omega)
    have hsw := sizeR_le (k + 1) d
    have hs : sizeR (k + 1) d = 1 + sumN (fun i => sizeR k (gD (d.f 3).l i)) (d.f 3).l.length := rfl
    refine ac_enter 21 Tryz.func126 rfl rfl rfl rfl ?_
    intro s w he
    repeat' (first
 | refine aw_region ?_
 | refine awo_nil ?_
 | refine k_seq ?_
 | (apply aw_1
    conv => whnf
    refine ⟨?_, trivial⟩)
 | (apply s_1
    conv => whnf; arg 1; arg 4; arg 3; whnf
    refine ⟨?_, ?_⟩)
 | (apply s_box rfl rfl rfl rfl
    · conv => lhs; whnf; arg 1; whnf
    · rfl)
 | exact trivial)
    refine aw_loop (fun j st => ∃ i, i + j = (d.f 3).l.length ∧ Sub (cx EN Tryz.prog s w he) st (HSf d (1 + sumN (fun i => sizeR k (gD (d.f 3).l i)) i) i)) (d.f 3).l.length ⟨0, by omega, Sub.live ⟨rfl, rfl, rfl, trivial⟩ ⟨rfl, trivial⟩⟩ ?_
    rintro j st ⟨i, hij, hs2⟩
    refine aw_sub hs2 ?_
    clear hs2
    by_cases hi : i < (d.f 3).l.length
    · have f0 : decide ((i : Int) < ((d.f 3).l.length : Nat)) = true := decide_eq_true (by omega)
      have ih2 := ih i hi
      have hle := sumN_mono (fun i => sizeR k (gD (d.f 3).l i)) (show i + 1 ≤ (d.f 3).l.length from hi)
      have hss : sumN (fun i => sizeR k (gD (d.f 3).l i)) (i + 1) = sumN (fun i => sizeR k (gD (d.f 3).l i)) i + sizeR k (gD (d.f 3).l i) := rfl
      repeat' (first
 | (apply aw_cond_kt
    · conv => lhs; whnf
    · assumption)
 | refine aw_region ?_
 | refine awo_nil ?_
 | refine k_seq ?_
 | refine k_block ?_
 | (apply aw_1
    conv => whnf
    refine ⟨?_, trivial⟩)
 | (apply s_1
    conv => whnf; arg 1; arg 4; arg 3; whnf
    refine ⟨?_, ?_⟩)
 | (apply s_call rfl
    · conv => lhs; whnf
    · conv => lhs; whnf
    · first | exact ih2)
 | exact trivial)
      all_goals first
        | exact i64_ok (by omega)
        | exact at_in hi
        | (refine k_loop_next (j' := j - 1) (by omega) ⟨i + 1, by omega, Sub.live ⟨rfl, ?_, rfl, trivial⟩ ⟨rfl, trivial⟩⟩
           refine congrArg (fun n => V.c (.int .i64 n)) (?_ : ((1 + sumN (fun i => sizeR k (gD (d.f 3).l i)) i : Nat) : Int) + (sizeR k (gD (d.f 3).l i) : Int) = ((1 + sumN (fun i => sizeR k (gD (d.f 3).l i)) (i + 1) : Nat) : Int))
           rw [hss]; omega)
    · have f0 : decide ((i : Int) < ((d.f 3).l.length : Nat)) = false := decide_eq_false (by omega)
      repeat' (first
 | (apply aw_cond_kf
    · conv => lhs; whnf
    · assumption)
 | refine aw_region ?_
 | refine awo_nil ?_
 | refine k_seq ?_
 | (apply aw_1
    conv => whnf
    refine ⟨?_, trivial⟩)
 | (apply s_1
    conv => whnf; arg 1; arg 4; arg 3; whnf
    refine ⟨?_, ?_⟩)
 | refine k_seq_exit ?_
 | refine k_block_hit rfl ?_
 | refine k_loop_exit ?_
 | refine k_end_ret ?_
 | (refine ⟨_, by conv => lhs; whnf; arg 2; whnf, ?_⟩; conv => rhs; whnf)
 | exact trivial)
      rw [hs, show i = (d.f 3).l.length by omega]
noncomputable def HDf (d : D) (n i : Nat) : Vst 22 := stS 22 [(1, .bx 1 0), (3, .c (.int .i64 (n : Int))), (4, .c (.int .i64 (i : Int)))] [(1, .box 84 (cellsV Tryz.prog 12 84 d))]
set_option maxHeartbeats 8000000 in
set_option maxRecDepth 100000 in
theorem depthF_ac : ∀ (k : Nat) (d : D), Dp k d → bulkD d ≤ 1000000000 → AC EN Tryz.prog 211 [.agg (cellsV Tryz.prog 12 84 d)] (.c (.int .i64 (depthR k d : Int)))
  | 0, _, h, _ => h.elim
  | k + 1, d, h, hw => by
    have hin := bk_in hw
    have hl := hin.items
    have ih := fun i (hi : i < (d.f 3).l.length) => depthF_ac k (gD (d.f 3).l i) (h i hi) (by have := hin.at_ i hi; omega)
    have hsw := depthR_le (k + 1) d
    have hs : depthR (k + 1) d = maxN (fun i => depthR k (gD (d.f 3).l i)) (d.f 3).l.length + 1 := rfl
    refine ac_enter 22 Tryz.func211 rfl rfl rfl rfl ?_
    intro s w he
    repeat' (first
 | refine aw_region ?_
 | refine awo_nil ?_
 | refine k_seq ?_
 | (apply aw_1
    conv => whnf
    refine ⟨?_, trivial⟩)
 | (apply s_1
    conv => whnf; arg 1; arg 4; arg 3; whnf
    refine ⟨?_, ?_⟩)
 | (apply s_box rfl rfl rfl rfl
    · conv => lhs; whnf; arg 1; whnf
    · rfl)
 | exact trivial)
    refine aw_loop (fun j st => ∃ i, i + j = (d.f 3).l.length ∧ Sub (cx EN Tryz.prog s w he) st (HDf d (maxN (fun i => depthR k (gD (d.f 3).l i)) i) i)) (d.f 3).l.length ⟨0, by omega, Sub.live ⟨rfl, rfl, rfl, trivial⟩ ⟨rfl, trivial⟩⟩ ?_
    rintro j st ⟨i, hij, hs2⟩
    refine aw_sub hs2 ?_
    clear hs2
    by_cases hi : i < (d.f 3).l.length
    · have f0 : decide ((i : Int) < ((d.f 3).l.length : Nat)) = true := decide_eq_true (by omega)
      have ih2 := ih i hi
      repeat' (first
 | (apply s_max rfl rfl rfl
    · conv => lhs; whnf; arg 1; whnf
    · conv => lhs; whnf; arg 1; whnf)
 | (apply aw_cond_kt
    · conv => lhs; whnf
    · assumption)
 | refine aw_region ?_
 | refine awo_nil ?_
 | refine k_seq ?_
 | refine k_block ?_
 | (apply aw_1
    conv => whnf
    refine ⟨?_, trivial⟩)
 | (apply s_1
    conv => whnf; arg 1; arg 4; arg 3; whnf
    refine ⟨?_, ?_⟩)
 | (apply s_call rfl
    · conv => lhs; whnf
    · conv => lhs; whnf
    · first | exact ih2)
 | exact trivial)
      all_goals first
        | exact i64_ok (by omega)
        | exact at_in hi
        | (refine k_loop_next (j' := j - 1) (by omega) ⟨i + 1, by omega, Sub.live ⟨rfl, ?_, rfl, trivial⟩ ⟨rfl, trivial⟩⟩
           refine congrArg (fun n => V.c (.int .i64 n)) (?_ : (if ((maxN (fun i => depthR k (gD (d.f 3).l i)) i : Nat) : Int) < (depthR k (gD (d.f 3).l i) : Int) then (depthR k (gD (d.f 3).l i) : Int) else ((maxN (fun i => depthR k (gD (d.f 3).l i)) i : Nat) : Int)) = ((maxN (fun i => depthR k (gD (d.f 3).l i)) (i + 1) : Nat) : Int))
           rw [max_i]; rfl)
    · have f0 : decide ((i : Int) < ((d.f 3).l.length : Nat)) = false := decide_eq_false (by omega)
      have e : i = (d.f 3).l.length := by omega
      subst e
      repeat' (first
 | (apply aw_cond_kf
    · conv => lhs; whnf
    · assumption)
 | refine aw_region ?_
 | refine awo_nil ?_
 | refine k_seq ?_
 | (apply aw_1
    conv => whnf
    refine ⟨?_, trivial⟩)
 | (apply s_1
    conv => whnf; arg 1; arg 4; arg 3; whnf
    refine ⟨?_, ?_⟩)
 | refine k_seq_exit ?_
 | refine k_block_hit rfl ?_
 | refine k_loop_exit ?_
 | refine k_end_ret ?_
 | (refine ⟨_, by conv => lhs; whnf; arg 2; whnf, ?_⟩; conv => rhs; whnf)
 | exact trivial)
      · rfl
      · exact i64_ok (by omega)
def eqSt (l : List D) (i k : Nat) : Bool := (gD l i).s.toList == (gD l k).s.toList
def innT (l : List D) (i : Nat) : Nat → Nat → Bool
  | 0, _ => false
  | j + 1, k => eqSt l i k || innT l i j (k + 1)
def outT (l : List D) : Nat → Nat → Bool
  | 0, _ => false
  | j + 1, i => innT l i i 0 || outT l j (i + 1)
set_option maxHeartbeats 8000000 in
set_option maxRecDepth 100000 in
theorem innT_iff (l : List D) (i : Nat) : ∀ (j k : Nat), innT l i j k = true ↔ ∃ m, k ≤ m ∧ m < k + j ∧ eqSt l i m = true
  | 0, k => by simp only [innT, Bool.false_eq_true, false_iff]; rintro ⟨m, h1, h2, -⟩; omega
  | j + 1, k => by
    rw [innT, Bool.or_eq_true, innT_iff l i j (k + 1)]
    constructor
    · rintro (h | ⟨m, h1, h2, h3⟩)
      · exact ⟨k, Nat.le_refl _, by omega, h⟩
      · exact ⟨m, by omega, by omega, h3⟩
    · rintro ⟨m, h1, h2, h3⟩
      by_cases e : m = k
      · subst e; exact .inl h3
      · exact .inr ⟨m, by omega, by omega, h3⟩
set_option maxHeartbeats 8000000 in
set_option maxRecDepth 100000 in
theorem outT_iff (l : List D) : ∀ (j i : Nat), outT l j i = true ↔ ∃ m, i ≤ m ∧ m < i + j ∧ ∃ k, k < m ∧ eqSt l m k = true
  | 0, i => by simp only [outT, Bool.false_eq_true, false_iff]; rintro ⟨m, h1, h2, -⟩; omega
  | j + 1, i => by
    rw [outT, Bool.or_eq_true, outT_iff l j (i + 1), innT_iff]
    constructor
    · rintro (⟨k, h1, h2, h3⟩ | ⟨m, h1, h2, h3⟩)
      · exact ⟨i, Nat.le_refl _, by omega, k, by omega, h3⟩
      · exact ⟨m, by omega, by omega, h3⟩
    · rintro ⟨m, h1, h2, k, h3, h4⟩
      by_cases e : m = i
      · subst e; exact .inl ⟨k, by omega, by omega, h4⟩
      · exact .inr ⟨m, by omega, by omega, k, h3, h4⟩
set_option maxHeartbeats 8000000 in
set_option maxRecDepth 100000 in
theorem outT_R (d : D) : outT (d.f 4).l (d.f 4).l.length 0 = !decide (strsR d).Nodup := by
  rw [Bool.eq_iff_iff, outT_iff, Bool.not_eq_true', decide_eq_false_iff_not]
  have hlen : (strsR d).length = (d.f 4).l.length := by simp [strsR]
  have hg : ∀ i (h : i < (d.f 4).l.length), (strsR d)[i]'(by rw [hlen]; exact h) = (gD (d.f 4).l i).s.data.toList := fun i h => by
    simp only [strsR, List.getElem_map]
    rw [gD, List.getD_eq_getElem?_getD, List.getElem?_eq_getElem h]; rfl
  have he : ∀ i k, eqSt (d.f 4).l i k = true ↔ (gD (d.f 4).l i).s.data.toList = (gD (d.f 4).l k).s.data.toList := fun i k => by
    unfold eqSt; rw [Lib.toList_data, Lib.toList_data, beq_iff_eq]
  constructor
  · rintro ⟨m, -, h2, k, h3, h4⟩ hn
    have h5 := List.pairwise_iff_getElem.1 hn k m (by omega) (by omega) h3
    rw [hg k (by omega), hg m (by omega)] at h5
    exact h5 ((he m k).1 h4).symm
  · intro hn
    refine Classical.byContradiction fun hc => hn (List.pairwise_iff_getElem.2 fun k m hk hm hkm hq => hc ⟨m, Nat.zero_le _, by omega, k, hkm, ?_⟩)
    rw [hg k (by omega), hg m (by omega)] at hq
    exact (he m k).2 hq.symm
noncomputable def HTo (l : List D) (i : Nat) : Vst 25 := stS 25 [(0, .sl 9 l), (3, .c (.int .i64 (i : Int)))] []
noncomputable def HTi (l : List D) (i k : Nat) : Vst 25 := stS 25 [(0, .sl 9 l), (3, .c (.int .i64 (i : Int))), (4, .c (.int .i64 (k : Int)))] []
set_option maxHeartbeats 8000000 in
set_option maxRecDepth 100000 in
theorem twiceF_ac (d : D) (hl : (d.f 4).l.length ≤ 1000000000) : AC EN Tryz.prog 329 [.sl 9 (d.f 4).l] (.c (.bool (!decide (strsR d).Nodup))) := by
  have hR := outT_R d
  generalize (!decide (strsR d).Nodup) = R at hR ⊢
  generalize (d.f 4).l = l at hR hl ⊢
  refine ac_enter 25 Tryz.func329 rfl rfl rfl rfl ?_
  intro s w he
  repeat' (first
 | refine aw_region ?_
 | refine awo_nil ?_
 | refine k_seq ?_
 | (apply aw_1
    conv => whnf
    refine ⟨?_, trivial⟩)
 | (apply s_1
    conv => whnf; arg 1; arg 4; arg 3; whnf
    refine ⟨?_, ?_⟩)
 | exact trivial)
  refine aw_loop (fun j st => ∃ i, i + j = l.length ∧ outT l j i = R ∧ Sub (cx EN Tryz.prog s w he) st (HTo l i)) l.length ⟨0, by omega, hR, Sub.live ⟨rfl, rfl, trivial⟩ trivial⟩ ?_
  clear hR
  rintro j st ⟨i, hij, hR, hs2⟩
  refine aw_sub hs2 ?_
  clear hs2
  by_cases hi : i < l.length
  · obtain ⟨j, rfl⟩ : ∃ q, j = q + 1 := ⟨j - 1, by omega⟩
    have f1 : decide ((i : Int) < (l.length : Nat)) = true := decide_eq_true (by omega)
    have hR' : (innT l i i 0 || outT l j (i + 1)) = R := hR
    clear hR
    repeat' (first
 | (apply aw_cond_kt
    · conv => lhs; whnf
    · assumption)
 | refine aw_region ?_
 | refine awo_nil ?_
 | refine k_seq ?_
 | (apply aw_1
    conv => whnf
    refine ⟨?_, trivial⟩)
 | (apply s_1
    conv => whnf; arg 1; arg 4; arg 3; whnf
    refine ⟨?_, ?_⟩)
 | exact trivial)
    refine aw_loop (fun jj st => ∃ k, k + jj = i ∧ (innT l i jj k || outT l j (i + 1)) = R ∧ Sub (cx EN Tryz.prog s w he) st (HTi l i k)) i ⟨0, by omega, hR', Sub.live ⟨rfl, rfl, rfl, trivial⟩ trivial⟩ ?_
    clear hR'
    rintro jj st ⟨k, hk, hR, hs2⟩
    refine aw_sub hs2 ?_
    clear hs2
    by_cases hki : k < i
    · obtain ⟨jj, rfl⟩ : ∃ q, jj = q + 1 := ⟨jj - 1, by omega⟩
      have f2 : decide ((k : Int) < (i : Int)) = true := decide_eq_true (by omega)
      have hR' : (eqSt l i k || innT l i jj (k + 1) || outT l j (i + 1)) = R := hR
      have hkl : k < l.length := by omega
      repeat' (first
 | (apply aw_cond_kt
    · conv => lhs; whnf
    · assumption)
 | refine aw_region ?_
 | refine awo_nil ?_
 | refine k_seq ?_
 | refine k_block ?_
 | (apply aw_1
    conv => whnf
    refine ⟨?_, trivial⟩)
 | (apply s_1
    conv => whnf; arg 1; arg 4; arg 3; whnf
    refine ⟨?_, ?_⟩)
 | (apply aw_draw (by kernel_rfl) (by kernel_rfl))
 | apply y_nil
 | (apply y_val rfl
    · conv => lhs; whnf
    · conv => lhs; whnf; arg 2; whnf)
 | exact apartB_none
 | exact apartB_nil
 | exact (1000000 : Nat)
 | (refine aw_cond (by conv => lhs; whnf) ?_ ?_ <;> intro hb)
 | refine k_seq_ret ?_
 | refine k_block_ret ?_
 | refine k_loop_ret ?_
 | refine k_end_ret ?_
 | (refine ⟨_, by conv => lhs; whnf; arg 2; whnf, ?_⟩; conv => rhs; whnf)
 | exact trivial)
      all_goals first
        | exact i64_ok (by omega)
        | exact at_in hi
        | exact at_in hkl
        | skip
      · have e : eqSt l i k = true := by assumption
        rw [← hR', e]; rfl
      · have e : eqSt l i k = false := by assumption
        exact k_loop_next (j' := jj) (by omega) ⟨k + 1, by omega, by rw [← hR', e, Bool.false_or], Sub.live ⟨rfl, rfl, rfl, trivial⟩ trivial⟩
    · obtain rfl : jj = 0 := by omega
      have f2 : decide ((k : Int) < (i : Int)) = false := decide_eq_false (by omega)
      have hR' : outT l j (i + 1) = R := by rw [← hR, innT, Bool.false_or]
      repeat' (first
 | (apply aw_cond_kf
    · conv => lhs; whnf
    · assumption)
 | refine aw_region ?_
 | refine awo_nil ?_
 | refine k_seq ?_
 | refine k_block ?_
 | (apply aw_1
    conv => whnf
    refine ⟨?_, trivial⟩)
 | (apply s_1
    conv => whnf; arg 1; arg 4; arg 3; whnf
    refine ⟨?_, ?_⟩)
 | refine k_seq_exit ?_
 | refine k_block_hit rfl ?_
 | refine k_loop_exit ?_
 | exact trivial)
      all_goals first
        | exact i64_ok (by omega)
        | exact k_loop_next (j' := j) (by omega) ⟨i + 1, by omega, hR', Sub.live ⟨rfl, rfl, trivial⟩ trivial⟩
        | skip
  · obtain rfl : j = 0 := by omega
    have f1 : decide ((i : Int) < (l.length : Nat)) = false := decide_eq_false (by omega)
    repeat' (first
 | (apply aw_cond_kf
    · conv => lhs; whnf
    · assumption)
 | refine aw_region ?_
 | refine awo_nil ?_
 | refine k_seq ?_
 | (apply aw_1
    conv => whnf
    refine ⟨?_, trivial⟩)
 | (apply s_1
    conv => whnf; arg 1; arg 4; arg 3; whnf
    refine ⟨?_, ?_⟩)
 | refine k_seq_exit ?_
 | refine k_block_hit rfl ?_
 | refine k_loop_exit ?_
 | refine k_end_ret ?_
 | (refine ⟨_, by conv => lhs; whnf; arg 2; whnf, ?_⟩; conv => rhs; whnf)
 | exact trivial)
    rw [← hR]; rfl
end Go.Proofs.YthjiclhfhjdjpaaGreatDoor
namespace Go.Proofs.YthjiclhfhjdjpaaGreatDoor
open Go.RowKit
set_option linter.unusedSectionVars false
attribute [local irreducible] wpList Calls Code.wp AW AWo OpOk seqK blockK scopeK loopK endK AC absLex Yld Sub
attribute [local irreducible] ACB ACX absLexG YldG absLexH
/-- a node of a literal, as the reference looks at it: without its keys' names -/
def nodeF (n i : Int) (t : Bool) (a b : Nat) (x v y : Bool) : Bool :=
  if n = 0 then i == 0 && t && b == 0 && a == 0
  else if n = 1 then (i == 0 || i == 1) && t && b == 0 && a == 0
  else if n = 2 then t && b == 0 && a == 0
  else if n = 3 then i == 0 && b == 0 && a == 0
  else if n = 4 then i == 0 && b == 0 && a == 0 && x
  else if n = 5 then i == 0 && t && a == 0
  else if n = 6 then i == 0 && t && a == b && y
  else if n = 7 then i == 0 && b == 0 && a == 0 && v
  else false
set_option maxHeartbeats 8000000 in
set_option maxRecDepth 100000 in
theorem nodeF_K (n i : Int) (t : Bool) (a b : Nat) (x v ks y : Bool) (hks : a = 0 → ks = true) : (nodeF n i t a b x v y && ks) = nodeK n i t a b x v ks y := by
  have h0 : (a == 0) = true → ks = true := fun h => hks (by simpa using h)
  unfold nodeF nodeK
  by_cases n0 : n = 0
  · subst n0; cases ks <;> simp_all
    try ac_rfl
  by_cases n1 : n = 1
  · subst n1; cases ks <;> simp_all
    try ac_rfl
  by_cases n2 : n = 2
  · subst n2; cases ks <;> simp_all
    try ac_rfl
  by_cases n3 : n = 3
  · subst n3; cases ks <;> simp_all
    try ac_rfl
  by_cases n4 : n = 4
  · subst n4; cases ks <;> simp_all
    try ac_rfl
  by_cases n5 : n = 5
  · subst n5; cases ks <;> simp_all
    try ac_rfl
  by_cases n6 : n = 6
  · subst n6; cases ks <;> simp_all
    try ac_rfl
  by_cases n7 : n = 7
  · subst n7; cases ks <;> simp_all
    try ac_rfl
  have hd : decide (0 ≤ n ∧ n ≤ 7) = false := decide_eq_false (by omega)
  rw [hd]
  simp [n0, n1, n2, n3, n4, n5, n6, n7]
def nodeD (d : D) : Bool := nodeF (d.f 0).n (d.f 1).n ((d.f 2).s.data.toList == []) (d.f 4).l.length (d.f 3).l.length (enumR (d.f 2).s) (nameB (d.f 2).s) (decide (strsR d).Nodup)
set_option maxHeartbeats 8000000 in
set_option maxRecDepth 100000 in
theorem nodeD_L (d : D) : (nodeD d && !((d.f 4).l.any fun x => !nameB x.s)) = nodeL d :=
  nodeF_K _ _ _ _ _ _ _ _ _ fun h => by rw [List.eq_nil_of_length_eq_zero h]; rfl
section
variable (d : D) (hk : (d.f 4).l.length ≤ 1000000000) (hs : (d.f 2).s.size ≤ 1000000000)
include hk hs
set_option maxHeartbeats 8000000 in
set_option maxRecDepth 100000 in
theorem nodeF_ac : AC EN Tryz.prog 284 [.agg (cellsV Tryz.prog 12 84 d), .c (.bool true)] (.c (.bool (nodeD d))) := by
  have h1 := nameF_ac (d.f 2).s hs
  have h2 := twiceF_ac d hk
  have e : cellsV Tryz.prog 12 84 d = [.c (.int .i64 (d.f 0).n), .c (.int .i64 (d.f 1).n), .c (.string (d.f 2).s), .sl 84 (d.f 3).l, .sl 9 (d.f 4).l] := rfl
  have hT : ((d.f 2).s.toList == ({ data := #[] } : ByteArray).toList) = ((d.f 2).s.data.toList == []) := str_is _ []
  have hT1 : ((d.f 2).s.toList == ({ data := #[116, 114, 117, 101] } : ByteArray).toList) = ((d.f 2).s.data.toList == [116, 114, 117, 101]) := str_is _ _
  have hT2 : ((d.f 2).s.toList == ({ data := #[102, 97, 108, 115, 101] } : ByteArray).toList) = ((d.f 2).s.data.toList == [102, 97, 108, 115, 101]) := str_is _ _
  have hT3 : ((d.f 2).s.toList == ({ data := #[110, 117, 108, 108] } : ByteArray).toList) = ((d.f 2).s.data.toList == [110, 117, 108, 108]) := str_is _ _
  have z3 : (((d.f 3).l.length : Int) == 0) = ((d.f 3).l.length == 0) := by rw [Bool.eq_iff_iff]; simp only [beq_iff_eq]; omega
  have z4 : (((d.f 4).l.length : Int) == 0) = ((d.f 4).l.length == 0) := by rw [Bool.eq_iff_iff]; simp only [beq_iff_eq]; omega
  have z5 : (((d.f 4).l.length : Int) == ((d.f 3).l.length : Int)) = ((d.f 4).l.length == (d.f 3).l.length) := by rw [Bool.eq_iff_iff]; simp only [beq_iff_eq]; omega
  unfold nodeD nodeF enumR
  rw [e]
  by_cases n0 : (d.f 0).n = 0
  · rw [if_pos n0, n0]
    refine ac_enter 193 Tryz.func284 rfl rfl rfl rfl ?_
    intro s w he
    repeat' (first
 | refine aw_region ?_
 | refine awo_nil ?_
 | refine k_seq ?_
 | (apply aw_1
    conv => whnf
    refine ⟨?_, trivial⟩)
 | (apply s_pick_t rfl rfl
    · conv => lhs; whnf
    · conv => lhs; whnf
    · first | exact bT1 (by assumption) | exact bT2 (by assumption))
 | (apply s_pick_f rfl rfl
    · conv => lhs; whnf
    · conv => lhs; whnf
    · first | exact bF1 (by assumption) | exact bF2 (by assumption))
 | (apply s_1
    conv => whnf; arg 1; arg 4; arg 3; whnf
    refine ⟨?_, ?_⟩)
 | (apply s_box rfl rfl rfl rfl
    · conv => lhs; whnf; arg 1; whnf
    · rfl)
 | (apply s_wanted_val rfl
    · conv => lhs; whnf
    · conv => lhs; whnf
    · first | rfl | assumption
    · conv => lhs; whnf; arg 2; whnf)
 | (apply s_skipU rfl
    · conv => lhs; whnf
    · conv => lhs; whnf
    · first | rfl | assumption)
 | (apply s_guard_valU rfl
    · conv => lhs; whnf
    · conv => lhs; whnf
    · conv => lhs; whnf; arg 2; whnf)
 | refine k_seq_ret ?_
 | refine k_block_ret ?_
 | refine k_end_ret ?_
 | (refine ⟨_, by conv => lhs; whnf; arg 2; whnf, ?_⟩; conv => rhs; whnf)
 | exact trivial
 | intro hg)
    all_goals
      refine congrArg (fun b => V.c (.bool b)) ?_
      clear h1 h2 he e hk hs n0
      simp only [hT, hT1, hT2, hT3, z3, z4, z5] at *
      clear hT hT1 hT2 hT3 z3 z4 z5
      generalize ((d.f 2).s.data.toList == []) = t at *
      generalize ((d.f 2).s.data.toList == [116, 114, 117, 101]) = t1 at *
      generalize ((d.f 2).s.data.toList == [102, 97, 108, 115, 101]) = t2 at *
      generalize ((d.f 2).s.data.toList == [110, 117, 108, 108]) = t3 at *
      generalize nameB (d.f 2).s = v at *
      generalize decide (strsR d).Nodup = y at *
      generalize ((d.f 3).l.length == 0) = b0 at *
      generalize ((d.f 4).l.length == 0) = a0 at *
      generalize ((d.f 4).l.length == (d.f 3).l.length) = ab at *
      generalize (d.f 1).n = i at *
      simp_all
  rw [if_neg n0]
  by_cases n1 : (d.f 0).n = 1
  · rw [if_pos n1, n1]
    refine ac_enter 193 Tryz.func284 rfl rfl rfl rfl ?_
    intro s w he
    repeat' (first
 | refine aw_region ?_
 | refine awo_nil ?_
 | refine k_seq ?_
 | (apply aw_1
    conv => whnf
    refine ⟨?_, trivial⟩)
 | (apply s_pick_t rfl rfl
    · conv => lhs; whnf
    · conv => lhs; whnf
    · first | exact bT1 (by assumption) | exact bT2 (by assumption))
 | (apply s_pick_f rfl rfl
    · conv => lhs; whnf
    · conv => lhs; whnf
    · first | exact bF1 (by assumption) | exact bF2 (by assumption))
 | (apply s_1
    conv => whnf; arg 1; arg 4; arg 3; whnf
    refine ⟨?_, ?_⟩)
 | (apply s_box rfl rfl rfl rfl
    · conv => lhs; whnf; arg 1; whnf
    · rfl)
 | (apply s_wanted_val rfl
    · conv => lhs; whnf
    · conv => lhs; whnf
    · first | rfl | assumption
    · conv => lhs; whnf; arg 2; whnf)
 | (apply s_skipU rfl
    · conv => lhs; whnf
    · conv => lhs; whnf
    · first | rfl | assumption)
 | (apply s_guard_valU rfl
    · conv => lhs; whnf
    · conv => lhs; whnf
    · conv => lhs; whnf; arg 2; whnf)
 | refine k_seq_ret ?_
 | refine k_block_ret ?_
 | refine k_end_ret ?_
 | (refine ⟨_, by conv => lhs; whnf; arg 2; whnf, ?_⟩; conv => rhs; whnf)
 | exact trivial
 | intro hg)
    all_goals
      refine congrArg (fun b => V.c (.bool b)) ?_
      clear h1 h2 he e hk hs n1
      simp only [hT, hT1, hT2, hT3, z3, z4, z5] at *
      clear hT hT1 hT2 hT3 z3 z4 z5
      generalize ((d.f 2).s.data.toList == []) = t at *
      generalize ((d.f 2).s.data.toList == [116, 114, 117, 101]) = t1 at *
      generalize ((d.f 2).s.data.toList == [102, 97, 108, 115, 101]) = t2 at *
      generalize ((d.f 2).s.data.toList == [110, 117, 108, 108]) = t3 at *
      generalize nameB (d.f 2).s = v at *
      generalize decide (strsR d).Nodup = y at *
      generalize ((d.f 3).l.length == 0) = b0 at *
      generalize ((d.f 4).l.length == 0) = a0 at *
      generalize ((d.f 4).l.length == (d.f 3).l.length) = ab at *
      generalize (d.f 1).n = i at *
      simp_all
  rw [if_neg n1]
  by_cases n2 : (d.f 0).n = 2
  · rw [if_pos n2, n2]
    refine ac_enter 193 Tryz.func284 rfl rfl rfl rfl ?_
    intro s w he
    repeat' (first
 | refine aw_region ?_
 | refine awo_nil ?_
 | refine k_seq ?_
 | (apply aw_1
    conv => whnf
    refine ⟨?_, trivial⟩)
 | (apply s_pick_t rfl rfl
    · conv => lhs; whnf
    · conv => lhs; whnf
    · first | exact bT1 (by assumption) | exact bT2 (by assumption))
 | (apply s_pick_f rfl rfl
    · conv => lhs; whnf
    · conv => lhs; whnf
    · first | exact bF1 (by assumption) | exact bF2 (by assumption))
 | (apply s_1
    conv => whnf; arg 1; arg 4; arg 3; whnf
    refine ⟨?_, ?_⟩)
 | (apply s_box rfl rfl rfl rfl
    · conv => lhs; whnf; arg 1; whnf
    · rfl)
 | (apply s_wanted_val rfl
    · conv => lhs; whnf
    · conv => lhs; whnf
    · first | rfl | assumption
    · conv => lhs; whnf; arg 2; whnf)
 | (apply s_skipU rfl
    · conv => lhs; whnf
    · conv => lhs; whnf
    · first | rfl | assumption)
 | (apply s_guard_valU rfl
    · conv => lhs; whnf
    · conv => lhs; whnf
    · conv => lhs; whnf; arg 2; whnf)
 | refine k_seq_ret ?_
 | refine k_block_ret ?_
 | refine k_end_ret ?_
 | (refine ⟨_, by conv => lhs; whnf; arg 2; whnf, ?_⟩; conv => rhs; whnf)
 | exact trivial
 | intro hg)
    all_goals
      refine congrArg (fun b => V.c (.bool b)) ?_
      clear h1 h2 he e hk hs n2
      simp only [hT, hT1, hT2, hT3, z3, z4, z5] at *
      clear hT hT1 hT2 hT3 z3 z4 z5
      generalize ((d.f 2).s.data.toList == []) = t at *
      generalize ((d.f 2).s.data.toList == [116, 114, 117, 101]) = t1 at *
      generalize ((d.f 2).s.data.toList == [102, 97, 108, 115, 101]) = t2 at *
      generalize ((d.f 2).s.data.toList == [110, 117, 108, 108]) = t3 at *
      generalize nameB (d.f 2).s = v at *
      generalize decide (strsR d).Nodup = y at *
      generalize ((d.f 3).l.length == 0) = b0 at *
      generalize ((d.f 4).l.length == 0) = a0 at *
      generalize ((d.f 4).l.length == (d.f 3).l.length) = ab at *
      generalize (d.f 1).n = i at *
      simp_all
  rw [if_neg n2]
  by_cases n3 : (d.f 0).n = 3
  · rw [if_pos n3, n3]
    refine ac_enter 193 Tryz.func284 rfl rfl rfl rfl ?_
    intro s w he
    repeat' (first
 | refine aw_region ?_
 | refine awo_nil ?_
 | refine k_seq ?_
 | (apply aw_1
    conv => whnf
    refine ⟨?_, trivial⟩)
 | (apply s_pick_t rfl rfl
    · conv => lhs; whnf
    · conv => lhs; whnf
    · first | exact bT1 (by assumption) | exact bT2 (by assumption))
 | (apply s_pick_f rfl rfl
    · conv => lhs; whnf
    · conv => lhs; whnf
    · first | exact bF1 (by assumption) | exact bF2 (by assumption))
 | (apply s_1
    conv => whnf; arg 1; arg 4; arg 3; whnf
    refine ⟨?_, ?_⟩)
 | (apply s_box rfl rfl rfl rfl
    · conv => lhs; whnf; arg 1; whnf
    · rfl)
 | (apply s_wanted_val rfl
    · conv => lhs; whnf
    · conv => lhs; whnf
    · first | rfl | assumption
    · conv => lhs; whnf; arg 2; whnf)
 | (apply s_skipU rfl
    · conv => lhs; whnf
    · conv => lhs; whnf
    · first | rfl | assumption)
 | (apply s_guard_valU rfl
    · conv => lhs; whnf
    · conv => lhs; whnf
    · conv => lhs; whnf; arg 2; whnf)
 | refine k_seq_ret ?_
 | refine k_block_ret ?_
 | refine k_end_ret ?_
 | (refine ⟨_, by conv => lhs; whnf; arg 2; whnf, ?_⟩; conv => rhs; whnf)
 | exact trivial
 | intro hg)
    all_goals
      refine congrArg (fun b => V.c (.bool b)) ?_
      clear h1 h2 he e hk hs n3
      simp only [hT, hT1, hT2, hT3, z3, z4, z5] at *
      clear hT hT1 hT2 hT3 z3 z4 z5
      generalize ((d.f 2).s.data.toList == []) = t at *
      generalize ((d.f 2).s.data.toList == [116, 114, 117, 101]) = t1 at *
      generalize ((d.f 2).s.data.toList == [102, 97, 108, 115, 101]) = t2 at *
      generalize ((d.f 2).s.data.toList == [110, 117, 108, 108]) = t3 at *
      generalize nameB (d.f 2).s = v at *
      generalize decide (strsR d).Nodup = y at *
      generalize ((d.f 3).l.length == 0) = b0 at *
      generalize ((d.f 4).l.length == 0) = a0 at *
      generalize ((d.f 4).l.length == (d.f 3).l.length) = ab at *
      generalize (d.f 1).n = i at *
      simp_all
  rw [if_neg n3]
  by_cases n4 : (d.f 0).n = 4
  · rw [if_pos n4, n4]
    refine ac_enter 193 Tryz.func284 rfl rfl rfl rfl ?_
    intro s w he
    repeat' (first
 | refine aw_region ?_
 | refine awo_nil ?_
 | refine k_seq ?_
 | (apply aw_1
    conv => whnf
    refine ⟨?_, trivial⟩)
 | (apply s_pick_t rfl rfl
    · conv => lhs; whnf
    · conv => lhs; whnf
    · first | exact bT1 (by assumption) | exact bT2 (by assumption))
 | (apply s_pick_f rfl rfl
    · conv => lhs; whnf
    · conv => lhs; whnf
    · first | exact bF1 (by assumption) | exact bF2 (by assumption))
 | (apply s_1
    conv => whnf; arg 1; arg 4; arg 3; whnf
    refine ⟨?_, ?_⟩)
 | (apply s_box rfl rfl rfl rfl
    · conv => lhs; whnf; arg 1; whnf
    · rfl)
 | (apply s_wanted_val rfl
    · conv => lhs; whnf
    · conv => lhs; whnf
    · first | rfl | assumption
    · conv => lhs; whnf; arg 2; whnf)
 | (apply s_wanted_call rfl
    · conv => lhs; whnf
    · conv => lhs; whnf
    · first | rfl | assumption
    · conv => lhs; whnf
    · first | exact h1 | exact h2)
 | (apply s_skipU rfl
    · conv => lhs; whnf
    · conv => lhs; whnf
    · first | rfl | assumption)
 | (apply s_guard_valU rfl
    · conv => lhs; whnf
    · conv => lhs; whnf
    · conv => lhs; whnf; arg 2; whnf)
 | refine k_seq_ret ?_
 | refine k_block_ret ?_
 | refine k_end_ret ?_
 | (refine ⟨_, by conv => lhs; whnf; arg 2; whnf, ?_⟩; conv => rhs; whnf)
 | exact trivial
 | intro hg)
    all_goals
      refine congrArg (fun b => V.c (.bool b)) ?_
      clear h1 h2 he e hk hs n4
      simp only [hT, hT1, hT2, hT3, z3, z4, z5] at *
      clear hT hT1 hT2 hT3 z3 z4 z5
      generalize ((d.f 2).s.data.toList == []) = t at *
      generalize ((d.f 2).s.data.toList == [116, 114, 117, 101]) = t1 at *
      generalize ((d.f 2).s.data.toList == [102, 97, 108, 115, 101]) = t2 at *
      generalize ((d.f 2).s.data.toList == [110, 117, 108, 108]) = t3 at *
      generalize nameB (d.f 2).s = v at *
      generalize decide (strsR d).Nodup = y at *
      generalize ((d.f 3).l.length == 0) = b0 at *
      generalize ((d.f 4).l.length == 0) = a0 at *
      generalize ((d.f 4).l.length == (d.f 3).l.length) = ab at *
      generalize (d.f 1).n = i at *
      simp_all
  rw [if_neg n4]
  by_cases n5 : (d.f 0).n = 5
  · rw [if_pos n5, n5]
    refine ac_enter 193 Tryz.func284 rfl rfl rfl rfl ?_
    intro s w he
    repeat' (first
 | refine aw_region ?_
 | refine awo_nil ?_
 | refine k_seq ?_
 | (apply aw_1
    conv => whnf
    refine ⟨?_, trivial⟩)
 | (apply s_pick_t rfl rfl
    · conv => lhs; whnf
    · conv => lhs; whnf
    · first | exact bT1 (by assumption) | exact bT2 (by assumption))
 | (apply s_pick_f rfl rfl
    · conv => lhs; whnf
    · conv => lhs; whnf
    · first | exact bF1 (by assumption) | exact bF2 (by assumption))
 | (apply s_1
    conv => whnf; arg 1; arg 4; arg 3; whnf
    refine ⟨?_, ?_⟩)
 | (apply s_box rfl rfl rfl rfl
    · conv => lhs; whnf; arg 1; whnf
    · rfl)
 | (apply s_wanted_val rfl
    · conv => lhs; whnf
    · conv => lhs; whnf
    · first | rfl | assumption
    · conv => lhs; whnf; arg 2; whnf)
 | (apply s_skipU rfl
    · conv => lhs; whnf
    · conv => lhs; whnf
    · first | rfl | assumption)
 | (apply s_guard_valU rfl
    · conv => lhs; whnf
    · conv => lhs; whnf
    · conv => lhs; whnf; arg 2; whnf)
 | refine k_seq_ret ?_
 | refine k_block_ret ?_
 | refine k_end_ret ?_
 | (refine ⟨_, by conv => lhs; whnf; arg 2; whnf, ?_⟩; conv => rhs; whnf)
 | exact trivial
 | intro hg)
    all_goals
      refine congrArg (fun b => V.c (.bool b)) ?_
      clear h1 h2 he e hk hs n5
      simp only [hT, hT1, hT2, hT3, z3, z4, z5] at *
      clear hT hT1 hT2 hT3 z3 z4 z5
      generalize ((d.f 2).s.data.toList == []) = t at *
      generalize ((d.f 2).s.data.toList == [116, 114, 117, 101]) = t1 at *
      generalize ((d.f 2).s.data.toList == [102, 97, 108, 115, 101]) = t2 at *
      generalize ((d.f 2).s.data.toList == [110, 117, 108, 108]) = t3 at *
      generalize nameB (d.f 2).s = v at *
      generalize decide (strsR d).Nodup = y at *
      generalize ((d.f 3).l.length == 0) = b0 at *
      generalize ((d.f 4).l.length == 0) = a0 at *
      generalize ((d.f 4).l.length == (d.f 3).l.length) = ab at *
      generalize (d.f 1).n = i at *
      simp_all
  rw [if_neg n5]
  by_cases n6 : (d.f 0).n = 6
  · rw [if_pos n6, n6]
    refine ac_enter 193 Tryz.func284 rfl rfl rfl rfl ?_
    intro s w he
    repeat' (first
 | refine aw_region ?_
 | refine awo_nil ?_
 | refine k_seq ?_
 | (apply aw_1
    conv => whnf
    refine ⟨?_, trivial⟩)
 | (apply s_pick_t rfl rfl
    · conv => lhs; whnf
    · conv => lhs; whnf
    · first | exact bT1 (by assumption) | exact bT2 (by assumption))
 | (apply s_pick_f rfl rfl
    · conv => lhs; whnf
    · conv => lhs; whnf
    · first | exact bF1 (by assumption) | exact bF2 (by assumption))
 | (apply s_1
    conv => whnf; arg 1; arg 4; arg 3; whnf
    refine ⟨?_, ?_⟩)
 | (apply s_box rfl rfl rfl rfl
    · conv => lhs; whnf; arg 1; whnf
    · rfl)
 | (apply s_wanted_val rfl
    · conv => lhs; whnf
    · conv => lhs; whnf
    · first | rfl | assumption
    · conv => lhs; whnf; arg 2; whnf)
 | (apply s_wanted_call rfl
    · conv => lhs; whnf
    · conv => lhs; whnf
    · first | rfl | assumption
    · conv => lhs; whnf
    · first | exact h1 | exact h2)
 | (apply s_skipU rfl
    · conv => lhs; whnf
    · conv => lhs; whnf
    · first | rfl | assumption)
 | (apply s_guard_valU rfl
    · conv => lhs; whnf
    · conv => lhs; whnf
    · conv => lhs; whnf; arg 2; whnf)
 | refine k_seq_ret ?_
 | refine k_block_ret ?_
 | refine k_end_ret ?_
 | (refine ⟨_, by conv => lhs; whnf; arg 2; whnf, ?_⟩; conv => rhs; whnf)
 | exact trivial
 | intro hg)
    all_goals
      refine congrArg (fun b => V.c (.bool b)) ?_
      clear h1 h2 he e hk hs n6
      simp only [hT, hT1, hT2, hT3, z3, z4, z5] at *
      clear hT hT1 hT2 hT3 z3 z4 z5
      generalize ((d.f 2).s.data.toList == []) = t at *
      generalize ((d.f 2).s.data.toList == [116, 114, 117, 101]) = t1 at *
      generalize ((d.f 2).s.data.toList == [102, 97, 108, 115, 101]) = t2 at *
      generalize ((d.f 2).s.data.toList == [110, 117, 108, 108]) = t3 at *
      generalize nameB (d.f 2).s = v at *
      generalize decide (strsR d).Nodup = y at *
      generalize ((d.f 3).l.length == 0) = b0 at *
      generalize ((d.f 4).l.length == 0) = a0 at *
      generalize ((d.f 4).l.length == (d.f 3).l.length) = ab at *
      generalize (d.f 1).n = i at *
      simp_all
  rw [if_neg n6]
  by_cases n7 : (d.f 0).n = 7
  · rw [if_pos n7, n7]
    refine ac_enter 193 Tryz.func284 rfl rfl rfl rfl ?_
    intro s w he
    repeat' (first
 | refine aw_region ?_
 | refine awo_nil ?_
 | refine k_seq ?_
 | (apply aw_1
    conv => whnf
    refine ⟨?_, trivial⟩)
 | (apply s_pick_t rfl rfl
    · conv => lhs; whnf
    · conv => lhs; whnf
    · first | exact bT1 (by assumption) | exact bT2 (by assumption))
 | (apply s_pick_f rfl rfl
    · conv => lhs; whnf
    · conv => lhs; whnf
    · first | exact bF1 (by assumption) | exact bF2 (by assumption))
 | (apply s_1
    conv => whnf; arg 1; arg 4; arg 3; whnf
    refine ⟨?_, ?_⟩)
 | (apply s_box rfl rfl rfl rfl
    · conv => lhs; whnf; arg 1; whnf
    · rfl)
 | (apply s_wanted_val rfl
    · conv => lhs; whnf
    · conv => lhs; whnf
    · first | rfl | assumption
    · conv => lhs; whnf; arg 2; whnf)
 | (apply s_wanted_call rfl
    · conv => lhs; whnf
    · conv => lhs; whnf
    · first | rfl | assumption
    · conv => lhs; whnf
    · first | exact h1 | exact h2)
 | (apply s_skipU rfl
    · conv => lhs; whnf
    · conv => lhs; whnf
    · first | rfl | assumption)
 | (apply s_guard_valU rfl
    · conv => lhs; whnf
    · conv => lhs; whnf
    · conv => lhs; whnf; arg 2; whnf)
 | refine k_seq_ret ?_
 | refine k_block_ret ?_
 | refine k_end_ret ?_
 | (refine ⟨_, by conv => lhs; whnf; arg 2; whnf, ?_⟩; conv => rhs; whnf)
 | exact trivial
 | intro hg)
    all_goals
      refine congrArg (fun b => V.c (.bool b)) ?_
      clear h1 h2 he e hk hs n7
      simp only [hT, hT1, hT2, hT3, z3, z4, z5] at *
      clear hT hT1 hT2 hT3 z3 z4 z5
      generalize ((d.f 2).s.data.toList == []) = t at *
      generalize ((d.f 2).s.data.toList == [116, 114, 117, 101]) = t1 at *
      generalize ((d.f 2).s.data.toList == [102, 97, 108, 115, 101]) = t2 at *
      generalize ((d.f 2).s.data.toList == [110, 117, 108, 108]) = t3 at *
      generalize nameB (d.f 2).s = v at *
      generalize decide (strsR d).Nodup = y at *
      generalize ((d.f 3).l.length == 0) = b0 at *
      generalize ((d.f 4).l.length == 0) = a0 at *
      generalize ((d.f 4).l.length == (d.f 3).l.length) = ab at *
      generalize (d.f 1).n = i at *
      simp_all
  rw [if_neg n7]
  · have f0 : ((d.f 0).n == 0) = false := by simpa using n0
    have f1 : ((d.f 0).n == 1) = false := by simpa using n1
    have f2 : ((d.f 0).n == 2) = false := by simpa using n2
    have f3 : ((d.f 0).n == 3) = false := by simpa using n3
    have f4 : ((d.f 0).n == 4) = false := by simpa using n4
    have f5 : ((d.f 0).n == 5) = false := by simpa using n5
    have f6 : ((d.f 0).n == 6) = false := by simpa using n6
    have f7 : ((d.f 0).n == 7) = false := by simpa using n7
    refine ac_enter 193 Tryz.func284 rfl rfl rfl rfl ?_
    intro s w he
    repeat' (first
 | (apply aw_cond_kf
    · conv => lhs; whnf
    · assumption)
 | refine aw_region ?_
 | refine awo_nil ?_
 | refine k_seq ?_
 | refine k_block ?_
 | (apply aw_1
    conv => whnf
    refine ⟨?_, trivial⟩)
 | (apply s_1
    conv => whnf; arg 1; arg 4; arg 3; whnf
    refine ⟨?_, ?_⟩)
 | (apply s_box rfl rfl rfl rfl
    · conv => lhs; whnf; arg 1; whnf
    · rfl)
 | refine k_end_ret ?_
 | (refine ⟨_, by conv => lhs; whnf; arg 2; whnf, ?_⟩; conv => rhs; whnf)
 | exact trivial)
end
end Go.Proofs.YthjiclhfhjdjpaaGreatDoor
namespace Go.Proofs.YthjiclhfhjdjpaaGreatDoor
open Go.RowKit
set_option linter.unusedSectionVars false
attribute [local irreducible] wpList Calls Code.wp AW AWo OpOk seqK blockK scopeK loopK endK AC absLex Yld Sub
attribute [local irreducible] ACB ACX absLexG YldG absLexH
/-- whether all from the i-th on are so -/
def allI (p : D → Bool) (l : List D) : Nat → Nat → Bool
  | 0, _ => true
  | j + 1, i => p (gD l i) && allI p l j (i + 1)
set_option maxHeartbeats 8000000 in
set_option maxRecDepth 100000 in
theorem allI_cons (p : D → Bool) (x : D) (l : List D) : ∀ (j i : Nat), allI p (x :: l) j (i + 1) = allI p l j i
  | 0, _ => rfl
  | j + 1, i => by
    unfold allI
    rw [allI_cons p x l j (i + 1)]
    rfl
set_option maxHeartbeats 8000000 in
set_option maxRecDepth 100000 in
theorem allI_all (p : D → Bool) : ∀ l : List D, allI p l l.length 0 = l.all p
  | [] => rfl
  | x :: r => by
    show (p x && allI p (x :: r) r.length 1) = (p x && r.all p)
    rw [allI_cons, allI_all p r]
set_option maxHeartbeats 8000000 in
set_option maxRecDepth 100000 in
theorem all_any (p : D → Bool) (l : List D) : l.all p = !(l.any fun x => !p x) := by
  induction l with
  | nil => rfl
  | cons x r ih => simp only [List.all_cons, List.any_cons, ih, Bool.not_or, Bool.not_not]
set_option maxHeartbeats 8000000 in
set_option maxRecDepth 100000 in
theorem allI_any (p : D → Bool) (l : List D) : allI p l l.length 0 = !(l.any fun x => !p x) := by rw [allI_all, all_any]
noncomputable def HWk (d : D) (i : Nat) : Vst 43 := stS 43 [(1, .c (.bool true)), (2, .bx 2 0), (5, .c (.int .i64 (i : Int)))] [(2, .box 84 (cellsV Tryz.prog 12 84 d))]
noncomputable def HWi (d : D) (i : Nat) : Vst 43 := stS 43 [(1, .c (.bool true)), (2, .bx 2 0), (6, .c (.int .i64 (i : Int)))] [(2, .box 84 (cellsV Tryz.prog 12 84 d))]
set_option maxHeartbeats 8000000 in
set_option maxRecDepth 100000 in
theorem wholeF_ac : ∀ (k : Nat) (d : D), Dp k d → bulkD d ≤ 1000000000 → AC EN Tryz.prog 212 [.agg (cellsV Tryz.prog 12 84 d), .c (.bool true)] (.c (.bool (everyL k d)))
  | 0, _, h, _ => h.elim
  | k + 1, d, h, hw => by
    have hin := bk_in hw
    have hl := hin.items
    have hlk := hin.keys
    have ih := fun i (hi : i < (d.f 3).l.length) => wholeF_ac k (gD (d.f 3).l i) (h i hi) (by have := hin.at_ i hi; omega)
    have hn := nodeF_ac d hin.keys hin.text
    have hname := fun i (hi : i < (d.f 4).l.length) => nameF_ac (gD (d.f 4).l i).s (hin.key i hi)
    have hR : everyL (k + 1) d = (nodeD d && allI (fun x => nameB x.s) (d.f 4).l (d.f 4).l.length 0 && allI (everyL k) (d.f 3).l (d.f 3).l.length 0) := by
      rw [allI_any, allI_any, nodeD_L]; rfl
    generalize everyL (k + 1) d = R at hR ⊢
    refine ac_enter 43 Tryz.func212 rfl rfl rfl rfl ?_
    intro s w he
    repeat' (first
 | refine aw_region ?_
 | refine awo_nil ?_
 | refine k_seq ?_
 | (apply aw_1
    conv => whnf
    refine ⟨?_, trivial⟩)
 | (apply s_1
    conv => whnf; arg 1; arg 4; arg 3; whnf
    refine ⟨?_, ?_⟩)
 | (apply s_call rfl
    · conv => lhs; whnf
    · conv => lhs; whnf
    · first | exact hn)
 | (apply s_box rfl rfl rfl rfl
    · conv => lhs; whnf; arg 1; whnf
    · rfl)
 | (refine aw_cond (by conv => lhs; whnf) ?_ ?_ <;> intro hb)
 | refine k_seq_ret ?_
 | refine k_end_ret ?_
 | (refine ⟨_, by conv => lhs; whnf; arg 2; whnf, ?_⟩; conv => rhs; whnf)
 | exact trivial)
    · have hb : nodeD d = false := by simpa using (by assumption : (!nodeD d) = true)
      rw [hR, hb]; rfl
    have hb : nodeD d = true := by simpa using (by assumption : (!nodeD d) = false)
    rw [hb, Bool.true_and] at hR
    clear hb hn
    refine aw_loop (fun j st => ∃ i, i + j = (d.f 4).l.length ∧ R = (allI (fun x => nameB x.s) (d.f 4).l j i && allI (everyL k) (d.f 3).l (d.f 3).l.length 0) ∧ Sub (cx EN Tryz.prog s w he) st (HWk d i)) (d.f 4).l.length ⟨0, by omega, hR, Sub.live ⟨rfl, rfl, rfl, trivial⟩ ⟨rfl, trivial⟩⟩ ?_
    clear hR
    rintro j st ⟨i, hij, hR, hs2⟩
    refine aw_sub hs2 ?_
    clear hs2
    by_cases hi : i < (d.f 4).l.length
    · obtain ⟨j, rfl⟩ : ∃ q, j = q + 1 := ⟨j - 1, by omega⟩
      have f1 : decide ((i : Int) < ((d.f 4).l.length : Nat)) = true := decide_eq_true (by omega)
      have hR' : R = (nameB (gD (d.f 4).l i).s && allI (fun x => nameB x.s) (d.f 4).l j (i + 1) && allI (everyL k) (d.f 3).l (d.f 3).l.length 0) := hR
      clear hR
      have hn1 := hname i hi
      repeat' (first
 | (apply aw_cond_kt
    · conv => lhs; whnf
    · assumption)
 | refine aw_region ?_
 | refine awo_nil ?_
 | refine k_seq ?_
 | refine k_block ?_
 | (apply aw_1
    conv => whnf
    refine ⟨?_, trivial⟩)
 | (apply s_1
    conv => whnf; arg 1; arg 4; arg 3; whnf
    refine ⟨?_, ?_⟩)
 | (apply s_wanted_call rfl
    · conv => lhs; whnf
    · conv => lhs; whnf
    · first | rfl | assumption
    · conv => lhs; whnf
    · first | exact hn1)
 | (refine aw_cond (by conv => lhs; whnf) ?_ ?_ <;> intro hb)
 | refine k_seq_ret ?_
 | refine k_block_ret ?_
 | refine k_loop_ret ?_
 | refine k_end_ret ?_
 | (refine ⟨_, by conv => lhs; whnf; arg 2; whnf, ?_⟩; conv => rhs; whnf)
 | exact trivial)
      all_goals first
        | exact i64_ok (by omega)
        | exact at_in hi
        | (have e : nameB (gD (d.f 4).l i).s = false := by simpa using (by assumption : (!nameB (gD (d.f 4).l i).s) = true)
           rw [hR', e]; rfl)
        | (have e : nameB (gD (d.f 4).l i).s = true := by simpa using (by assumption : (!nameB (gD (d.f 4).l i).s) = false)
           exact k_loop_next (j' := j) (by omega) ⟨i + 1, by omega, by rw [hR', e, Bool.true_and], Sub.live ⟨rfl, rfl, rfl, trivial⟩ ⟨rfl, trivial⟩⟩)
        | skip
    · obtain rfl : j = 0 := by omega
      have f1 : decide ((i : Int) < ((d.f 4).l.length : Nat)) = false := decide_eq_false (by omega)
      have hR2 : R = allI (everyL k) (d.f 3).l (d.f 3).l.length 0 := by rw [hR, allI, Bool.true_and]
      clear hR
      repeat' (first
 | (apply aw_cond_kf
    · conv => lhs; whnf
    · assumption)
 | refine aw_region ?_
 | refine awo_nil ?_
 | refine k_seq ?_
 | (apply aw_1
    conv => whnf
    refine ⟨?_, trivial⟩)
 | (apply s_1
    conv => whnf; arg 1; arg 4; arg 3; whnf
    refine ⟨?_, ?_⟩)
 | refine k_seq_exit ?_
 | refine k_block_hit rfl ?_
 | refine k_loop_exit ?_
 | exact trivial)
      refine aw_loop (fun j st => ∃ i, i + j = (d.f 3).l.length ∧ R = allI (everyL k) (d.f 3).l j i ∧ Sub (cx EN Tryz.prog s w he) st (HWi d i)) (d.f 3).l.length ⟨0, by omega, hR2, Sub.live ⟨rfl, rfl, rfl, trivial⟩ ⟨rfl, trivial⟩⟩ ?_
      clear hR2
      rintro j2 st2 ⟨i2, hij2, hR, hs2⟩
      refine aw_sub hs2 ?_
      clear hs2
      by_cases hi2 : i2 < (d.f 3).l.length
      · obtain ⟨j2, rfl⟩ : ∃ q, j2 = q + 1 := ⟨j2 - 1, by omega⟩
        have f2 : decide ((i2 : Int) < ((d.f 3).l.length : Nat)) = true := decide_eq_true (by omega)
        have hR' : R = (everyL k (gD (d.f 3).l i2) && allI (everyL k) (d.f 3).l j2 (i2 + 1)) := hR
        have ih2 := ih i2 hi2
        repeat' (first
 | (apply aw_cond_kt
    · conv => lhs; whnf
    · assumption)
 | refine aw_region ?_
 | refine awo_nil ?_
 | refine k_seq ?_
 | refine k_block ?_
 | (apply aw_1
    conv => whnf
    refine ⟨?_, trivial⟩)
 | (apply s_1
    conv => whnf; arg 1; arg 4; arg 3; whnf
    refine ⟨?_, ?_⟩)
 | (apply s_call rfl
    · conv => lhs; whnf
    · conv => lhs; whnf
    · first | exact ih2)
 | (refine aw_cond (by conv => lhs; whnf) ?_ ?_ <;> intro hb)
 | refine k_seq_ret ?_
 | refine k_block_ret ?_
 | refine k_loop_ret ?_
 | refine k_end_ret ?_
 | (refine ⟨_, by conv => lhs; whnf; arg 2; whnf, ?_⟩; conv => rhs; whnf)
 | exact trivial)
        all_goals first
          | exact i64_ok (by omega)
          | exact at_in hi2
          | (have e : everyL k (gD (d.f 3).l i2) = false := by simpa using (by assumption : (!everyL k (gD (d.f 3).l i2)) = true)
             rw [hR', e]; rfl)
          | (have e : everyL k (gD (d.f 3).l i2) = true := by simpa using (by assumption : (!everyL k (gD (d.f 3).l i2)) = false)
             exact k_loop_next (j' := j2) (by omega) ⟨i2 + 1, by omega, by rw [hR', e, Bool.true_and], Sub.live ⟨rfl, rfl, rfl, trivial⟩ ⟨rfl, trivial⟩⟩)
          | skip
      · obtain rfl : j2 = 0 := by omega
        have f2 : decide ((i2 : Int) < ((d.f 3).l.length : Nat)) = false := decide_eq_false (by omega)
        repeat' (first
 | (apply aw_cond_kf
    · conv => lhs; whnf
    · assumption)
 | refine aw_region ?_
 | refine awo_nil ?_
 | refine k_seq ?_
 | (apply aw_1
    conv => whnf
    refine ⟨?_, trivial⟩)
 | (apply s_1
    conv => whnf; arg 1; arg 4; arg 3; whnf
    refine ⟨?_, ?_⟩)
 | refine k_seq_exit ?_
 | refine k_block_hit rfl ?_
 | refine k_loop_exit ?_
 | refine k_end_ret ?_
 | (refine ⟨_, by conv => lhs; whnf; arg 2; whnf, ?_⟩; conv => rhs; whnf)
 | exact trivial)
        rw [hR]; rfl
set_option maxHeartbeats 8000000 in
set_option maxRecDepth 100000 in
theorem litF_ac (d : D) (hw : bulkD d ≤ 1000000000) : AC EN Tryz.prog 134 [.agg (cellsV Tryz.prog 12 84 d)] (.c (.bool (litR d))) := by
  have h := dp_bulk (bulkD d) d (Nat.le_refl _)
  have h1 := sizeF_ac _ d h hw
  have h2 := depthF_ac _ d h hw
  have h3 := wholeF_ac _ d h hw
  unfold litR
  refine ac_enter 15 Tryz.func134 rfl rfl rfl rfl ?_
  intro s w he
  repeat' (first
 | refine aw_region ?_
 | refine awo_nil ?_
 | refine k_seq ?_
 | (apply aw_1
    conv => whnf
    refine ⟨?_, trivial⟩)
 | (apply s_pick_t rfl rfl
    · conv => lhs; whnf
    · conv => lhs; whnf
    · first | exact bT1 (by assumption) | exact bT2 (by assumption))
 | (apply s_pick_f rfl rfl
    · conv => lhs; whnf
    · conv => lhs; whnf
    · first | exact bF1 (by assumption) | exact bF2 (by assumption))
 | (apply s_1
    conv => whnf; arg 1; arg 4; arg 3; whnf
    refine ⟨?_, ?_⟩)
 | (apply s_call rfl
    · conv => lhs; whnf
    · conv => lhs; whnf
    · first | exact h1 | exact h2 | exact h3)
 | (apply s_box rfl rfl rfl rfl
    · conv => lhs; whnf; arg 1; whnf
    · rfl)
 | (apply s_wanted_val rfl
    · conv => lhs; whnf
    · conv => lhs; whnf
    · first | rfl | assumption
    · conv => lhs; whnf; arg 2; whnf)
 | (apply s_wanted_call rfl
    · conv => lhs; whnf
    · conv => lhs; whnf
    · first | rfl | assumption
    · conv => lhs; whnf
    · first | exact h1 | exact h2 | exact h3)
 | (apply s_skipU rfl
    · conv => lhs; whnf
    · conv => lhs; whnf
    · first | rfl | assumption)
 | (apply s_guard_valU rfl
    · conv => lhs; whnf
    · conv => lhs; whnf
    · conv => lhs; whnf; arg 2; whnf)
 | refine k_end_ret ?_
 | (refine ⟨_, by conv => lhs; whnf; arg 2; whnf, ?_⟩; conv => rhs; whnf)
 | exact trivial
 | intro hg)
  all_goals
    clear h1 h2 h3 he
    refine congrArg (fun b => V.c (.bool b)) ?_
    have e1 : decide ((sizeR (bulkD d) d : Int) ≤ 4096) = decide (sizeR (bulkD d) d ≤ 4096) := decide_eq_decide.2 (by omega)
    have e2 : decide ((depthR (bulkD d) d : Int) ≤ 24) = decide (depthR (bulkD d) d ≤ 24) := decide_eq_decide.2 (by omega)
    simp only [e1, e2] at *
    simp_all
    try (intros; omega)
end Go.Proofs.YthjiclhfhjdjpaaGreatDoor
namespace Go.Proofs.YthjiclhfhjdjpaaGreatDoor
open Go.RowKit
set_option linter.unusedSectionVars false
attribute [local irreducible] wpList Calls Code.wp AW AWo OpOk seqK blockK scopeK loopK endK AC absLex Yld Sub
attribute [local irreducible] ACB ACX absLexG YldG absLexH
set_option maxHeartbeats 8000000 in
set_option maxRecDepth 100000 in
theorem titleF_ac (x : ByteArray) (hs : x.size ≤ 1000000000) : AC EN Tryz.prog 69 [.c (.string x)] (.c (.bool (titleR x))) := by
  have hn := nameF_ac x hs
  have hT : (x.toList == ({ data := #[111, 110] } : ByteArray).toList) = (x.data.toList == [111, 110]) := str_is _ _
  unfold titleR
  refine ac_enter 9 Tryz.func69 rfl rfl rfl rfl ?_
  intro s w he
  repeat' (first
 | refine aw_region ?_
 | refine awo_nil ?_
 | refine k_seq ?_
 | (apply aw_1
    conv => whnf
    refine ⟨?_, trivial⟩)
 | (apply s_pick_t rfl rfl
    · conv => lhs; whnf
    · conv => lhs; whnf
    · first | exact bT1 (by assumption) | exact bT2 (by assumption))
 | (apply s_pick_f rfl rfl
    · conv => lhs; whnf
    · conv => lhs; whnf
    · first | exact bF1 (by assumption) | exact bF2 (by assumption))
 | (apply s_1
    conv => whnf; arg 1; arg 4; arg 3; whnf
    refine ⟨?_, ?_⟩)
 | (apply s_call rfl
    · conv => lhs; whnf
    · conv => lhs; whnf
    · first | exact hn)
 | (apply s_wanted_val rfl
    · conv => lhs; whnf
    · conv => lhs; whnf
    · first | rfl | assumption
    · conv => lhs; whnf; arg 2; whnf)
 | (apply s_skipU rfl
    · conv => lhs; whnf
    · conv => lhs; whnf
    · first | rfl | assumption)
 | (apply s_guard_valU rfl
    · conv => lhs; whnf
    · conv => lhs; whnf
    · conv => lhs; whnf; arg 2; whnf)
 | refine k_end_ret ?_
 | (refine ⟨_, by conv => lhs; whnf; arg 2; whnf, ?_⟩; conv => rhs; whnf)
 | exact trivial
 | intro hg)
  all_goals
    clear hn he
    refine congrArg (fun b => V.c (.bool b)) ?_
    simp only [hT] at *
    simp_all
set_option maxHeartbeats 8000000 in
set_option maxRecDepth 100000 in
theorem le16 (n : Nat) : decide ((n : Int) ≤ 16) = decide (n ≤ 16) := decide_eq_decide.2 (by omega)
noncomputable def HargsF (l : List D) (i : Nat) : Vst 29 := stS 29 [(0, .sl 86 l), (3, .c (.int .i64 (i : Int)))] []
set_option maxHeartbeats 8000000 in
set_option maxRecDepth 100000 in
theorem argsF_ac (l : List D) (hw : bulkL l ≤ 1000000000) : AC EN Tryz.prog 214 [.sl 86 l] (.c (.bool (argsR l))) := by
  have hl := bulkL_len l
  have hR : argsR l = (allI argR l l.length 0 && decide (l.length ≤ 16)) := by rw [allI_any, Bool.and_comm]; rfl
  generalize argsR l = R at hR ⊢
  refine ac_enter 29 Tryz.func214 rfl rfl rfl rfl ?_
  intro s w he
  repeat' (first
 | refine aw_region ?_
 | refine awo_nil ?_
 | refine k_seq ?_
 | (apply aw_1
    conv => whnf
    refine ⟨?_, trivial⟩)
 | (apply s_1
    conv => whnf; arg 1; arg 4; arg 3; whnf
    refine ⟨?_, ?_⟩)
 | exact trivial)
  refine aw_loop (fun j st => ∃ i, i + j = l.length ∧ R = (allI argR l j i && decide (l.length ≤ 16)) ∧ Sub (cx EN Tryz.prog s w he) st (HargsF l i)) l.length ⟨0, by omega, hR, Sub.live ⟨rfl, rfl, trivial⟩ trivial⟩ ?_
  clear hR
  rintro j st ⟨i, hij, hR, hs2⟩
  refine aw_sub hs2 ?_
  clear hs2
  by_cases hi : i < l.length
  · obtain ⟨j, rfl⟩ : ∃ q, j = q + 1 := ⟨j - 1, by omega⟩
    have f1 : decide ((i : Int) < (l.length : Nat)) = true := decide_eq_true (by omega)
    have hR' : R = (argR (gD l i) && allI argR l j (i + 1) && decide (l.length ≤ 16)) := hR
    clear hR
    have b0 := bulkL_get hi
    have b1 := bulkD_wD (gD l i)
    have q0 := wD_f (gD l i) 0; have q0' := wD_str ((gD l i).f 0)
    have q1 := wD_f (gD l i) 1; have q1' := bulkD_wD ((gD l i).f 1)
    have h1 := nameF_ac ((gD l i).f 0).s (by omega)
    have h2 := litF_ac ((gD l i).f 1) (by omega)
    repeat' (first
 | (apply aw_cond_kt
    · conv => lhs; whnf
    · assumption)
 | refine aw_region ?_
 | refine awo_nil ?_
 | refine k_seq ?_
 | refine k_block ?_
 | (apply aw_1
    conv => whnf
    refine ⟨?_, trivial⟩)
 | (apply s_pick_t rfl rfl
    · conv => lhs; whnf
    · conv => lhs; whnf
    · first | exact bT1 (by assumption) | exact bT2 (by assumption))
 | (apply s_pick_f rfl rfl
    · conv => lhs; whnf
    · conv => lhs; whnf
    · first | exact bF1 (by assumption) | exact bF2 (by assumption))
 | (apply s_1
    conv => whnf; arg 1; arg 4; arg 3; whnf
    refine ⟨?_, ?_⟩)
 | (apply s_call rfl
    · conv => lhs; whnf
    · conv => lhs; whnf
    · first | exact h1 | exact h2)
 | (apply s_wanted_val rfl
    · conv => lhs; whnf
    · conv => lhs; whnf
    · first | rfl | assumption
    · conv => lhs; whnf; arg 2; whnf)
 | (apply s_wanted_call rfl
    · conv => lhs; whnf
    · conv => lhs; whnf
    · first | rfl | assumption
    · conv => lhs; whnf
    · first | exact h1 | exact h2)
 | (apply s_skipU rfl
    · conv => lhs; whnf
    · conv => lhs; whnf
    · first | rfl | assumption)
 | (apply s_guard_valU rfl
    · conv => lhs; whnf
    · conv => lhs; whnf
    · conv => lhs; whnf; arg 2; whnf)
 | (refine aw_cond (by conv => lhs; whnf) ?_ ?_ <;> intro hb)
 | refine k_seq_ret ?_
 | refine k_block_ret ?_
 | refine k_loop_ret ?_
 | refine k_end_ret ?_
 | (refine ⟨_, by conv => lhs; whnf; arg 2; whnf, ?_⟩; conv => rhs; whnf)
 | exact trivial
 | intro hg)
    all_goals first
      | exact i64_ok (by omega)
      | exact at_in hi
      | (have e : argR (gD l i) = false := by
           clear hR' he
           unfold argR
           simp_all
         rw [hR', e]; rfl)
      | (have e : argR (gD l i) = true := by
           clear hR' he
           unfold argR
           simp_all
         exact k_loop_next (j' := j) (by omega) ⟨i + 1, by omega, by rw [hR', e, Bool.true_and], Sub.live ⟨rfl, rfl, trivial⟩ trivial⟩)
      | skip
  · obtain rfl : j = 0 := by omega
    have f1 : decide ((i : Int) < (l.length : Nat)) = false := decide_eq_false (by omega)
    repeat' (first
 | (apply aw_cond_kf
    · conv => lhs; whnf
    · assumption)
 | refine aw_region ?_
 | refine awo_nil ?_
 | refine k_seq ?_
 | (apply aw_1
    conv => whnf
    refine ⟨?_, trivial⟩)
 | (apply s_1
    conv => whnf; arg 1; arg 4; arg 3; whnf
    refine ⟨?_, ?_⟩)
 | refine k_seq_exit ?_
 | refine k_block_hit rfl ?_
 | refine k_loop_exit ?_
 | refine k_end_ret ?_
 | (refine ⟨_, by conv => lhs; whnf; arg 2; whnf, ?_⟩; conv => rhs; whnf)
 | exact trivial)
    rw [hR, allI, Bool.true_and, le16]
noncomputable def HdirsF (l : List D) (i : Nat) : Vst 29 := stS 29 [(0, .sl 150 l), (3, .c (.int .i64 (i : Int)))] []
set_option maxHeartbeats 8000000 in
set_option maxRecDepth 100000 in
theorem dirsF_ac (l : List D) (hw : bulkL l ≤ 1000000000) : AC EN Tryz.prog 213 [.sl 150 l] (.c (.bool (dirsR l))) := by
  have hl := bulkL_len l
  have hR : dirsR l = (allI dirR l l.length 0 && decide (l.length ≤ 16)) := by rw [allI_any, Bool.and_comm]; rfl
  generalize dirsR l = R at hR ⊢
  refine ac_enter 29 Tryz.func213 rfl rfl rfl rfl ?_
  intro s w he
  repeat' (first
 | refine aw_region ?_
 | refine awo_nil ?_
 | refine k_seq ?_
 | (apply aw_1
    conv => whnf
    refine ⟨?_, trivial⟩)
 | (apply s_1
    conv => whnf; arg 1; arg 4; arg 3; whnf
    refine ⟨?_, ?_⟩)
 | exact trivial)
  refine aw_loop (fun j st => ∃ i, i + j = l.length ∧ R = (allI dirR l j i && decide (l.length ≤ 16)) ∧ Sub (cx EN Tryz.prog s w he) st (HdirsF l i)) l.length ⟨0, by omega, hR, Sub.live ⟨rfl, rfl, trivial⟩ trivial⟩ ?_
  clear hR
  rintro j st ⟨i, hij, hR, hs2⟩
  refine aw_sub hs2 ?_
  clear hs2
  by_cases hi : i < l.length
  · obtain ⟨j, rfl⟩ : ∃ q, j = q + 1 := ⟨j - 1, by omega⟩
    have f1 : decide ((i : Int) < (l.length : Nat)) = true := decide_eq_true (by omega)
    have hR' : R = (dirR (gD l i) && allI dirR l j (i + 1) && decide (l.length ≤ 16)) := hR
    clear hR
    have b0 := bulkL_get hi
    have b1 := bulkD_wD (gD l i)
    have q0 := wD_f (gD l i) 0; have q0' := wD_str ((gD l i).f 0)
    have q1 := wD_f (gD l i) 1; have q1' := wD_list ((gD l i).f 1)
    have h1 := nameF_ac ((gD l i).f 0).s (by omega)
    have h2 := argsF_ac ((gD l i).f 1).l (by omega)
    repeat' (first
 | (apply aw_cond_kt
    · conv => lhs; whnf
    · assumption)
 | refine aw_region ?_
 | refine awo_nil ?_
 | refine k_seq ?_
 | refine k_block ?_
 | (apply aw_1
    conv => whnf
    refine ⟨?_, trivial⟩)
 | (apply s_pick_t rfl rfl
    · conv => lhs; whnf
    · conv => lhs; whnf
    · first | exact bT1 (by assumption) | exact bT2 (by assumption))
 | (apply s_pick_f rfl rfl
    · conv => lhs; whnf
    · conv => lhs; whnf
    · first | exact bF1 (by assumption) | exact bF2 (by assumption))
 | (apply s_1
    conv => whnf; arg 1; arg 4; arg 3; whnf
    refine ⟨?_, ?_⟩)
 | (apply s_call rfl
    · conv => lhs; whnf
    · conv => lhs; whnf
    · first | exact h1 | exact h2)
 | (apply s_wanted_val rfl
    · conv => lhs; whnf
    · conv => lhs; whnf
    · first | rfl | assumption
    · conv => lhs; whnf; arg 2; whnf)
 | (apply s_wanted_call rfl
    · conv => lhs; whnf
    · conv => lhs; whnf
    · first | rfl | assumption
    · conv => lhs; whnf
    · first | exact h1 | exact h2)
 | (apply s_skipU rfl
    · conv => lhs; whnf
    · conv => lhs; whnf
    · first | rfl | assumption)
 | (apply s_guard_valU rfl
    · conv => lhs; whnf
    · conv => lhs; whnf
    · conv => lhs; whnf; arg 2; whnf)
 | (refine aw_cond (by conv => lhs; whnf) ?_ ?_ <;> intro hb)
 | refine k_seq_ret ?_
 | refine k_block_ret ?_
 | refine k_loop_ret ?_
 | refine k_end_ret ?_
 | (refine ⟨_, by conv => lhs; whnf; arg 2; whnf, ?_⟩; conv => rhs; whnf)
 | exact trivial
 | intro hg)
    all_goals first
      | exact i64_ok (by omega)
      | exact at_in hi
      | (have e : dirR (gD l i) = false := by
           clear hR' he
           unfold dirR
           simp_all
         rw [hR', e]; rfl)
      | (have e : dirR (gD l i) = true := by
           clear hR' he
           unfold dirR
           simp_all
         exact k_loop_next (j' := j) (by omega) ⟨i + 1, by omega, by rw [hR', e, Bool.true_and], Sub.live ⟨rfl, rfl, trivial⟩ trivial⟩)
      | skip
  · obtain rfl : j = 0 := by omega
    have f1 : decide ((i : Int) < (l.length : Nat)) = false := decide_eq_false (by omega)
    repeat' (first
 | (apply aw_cond_kf
    · conv => lhs; whnf
    · assumption)
 | refine aw_region ?_
 | refine awo_nil ?_
 | refine k_seq ?_
 | (apply aw_1
    conv => whnf
    refine ⟨?_, trivial⟩)
 | (apply s_1
    conv => whnf; arg 1; arg 4; arg 3; whnf
    refine ⟨?_, ?_⟩)
 | refine k_seq_exit ?_
 | refine k_block_hit rfl ?_
 | refine k_loop_exit ?_
 | refine k_end_ret ?_
 | (refine ⟨_, by conv => lhs; whnf; arg 2; whnf, ?_⟩; conv => rhs; whnf)
 | exact trivial)
    rw [hR, allI, Bool.true_and, le16]
noncomputable def HCf (d : D) (i : Nat) : Vst 21 := stS 21 [(1, .bx 1 0), (3, .c (.int .i64 (i : Int)))] [(1, .box 84 (cellsV Tryz.prog 12 84 d))]
set_option maxHeartbeats 8000000 in
set_option maxRecDepth 100000 in
theorem constF_ac : ∀ (k : Nat) (d : D), Dp k d → bulkD d ≤ 1000000000 → AC EN Tryz.prog 135 [.agg (cellsV Tryz.prog 12 84 d)] (.c (.bool (bareR k d)))
  | 0, _, h, _ => h.elim
  | k + 1, d, h, hw => by
    have hin := bk_in hw
    have hl := hin.items
    have ih := fun i (hi : i < (d.f 3).l.length) => constF_ac k (gD (d.f 3).l i) (h i hi) (by have := hin.at_ i hi; omega)
    have hR : bareR (k + 1) d = (allI (bareR k) (d.f 3).l (d.f 3).l.length 0 && !((d.f 0).n == 7)) := by rw [allI_any, Bool.and_comm]; rfl
    generalize bareR (k + 1) d = R at hR ⊢
    refine ac_enter 21 Tryz.func135 rfl rfl rfl rfl ?_
    intro s w he
    repeat' (first
 | refine aw_region ?_
 | refine awo_nil ?_
 | refine k_seq ?_
 | (apply aw_1
    conv => whnf
    refine ⟨?_, trivial⟩)
 | (apply s_1
    conv => whnf; arg 1; arg 4; arg 3; whnf
    refine ⟨?_, ?_⟩)
 | (apply s_box rfl rfl rfl rfl
    · conv => lhs; whnf; arg 1; whnf
    · rfl)
 | exact trivial)
    refine aw_loop (fun j st => ∃ i, i + j = (d.f 3).l.length ∧ R = (allI (bareR k) (d.f 3).l j i && !((d.f 0).n == 7)) ∧ Sub (cx EN Tryz.prog s w he) st (HCf d i)) (d.f 3).l.length ⟨0, by omega, hR, Sub.live ⟨rfl, rfl, trivial⟩ ⟨rfl, trivial⟩⟩ ?_
    clear hR
    rintro j st ⟨i, hij, hR, hs2⟩
    refine aw_sub hs2 ?_
    clear hs2
    by_cases hi : i < (d.f 3).l.length
    · obtain ⟨j, rfl⟩ : ∃ q, j = q + 1 := ⟨j - 1, by omega⟩
      have f1 : decide ((i : Int) < ((d.f 3).l.length : Nat)) = true := decide_eq_true (by omega)
      have hR' : R = (bareR k (gD (d.f 3).l i) && allI (bareR k) (d.f 3).l j (i + 1) && !((d.f 0).n == 7)) := hR
      have ih2 := ih i hi
      repeat' (first
 | (apply aw_cond_kt
    · conv => lhs; whnf
    · assumption)
 | refine aw_region ?_
 | refine awo_nil ?_
 | refine k_seq ?_
 | refine k_block ?_
 | (apply aw_1
    conv => whnf
    refine ⟨?_, trivial⟩)
 | (apply s_1
    conv => whnf; arg 1; arg 4; arg 3; whnf
    refine ⟨?_, ?_⟩)
 | (apply s_call rfl
    · conv => lhs; whnf
    · conv => lhs; whnf
    · first | exact ih2)
 | (refine aw_cond (by conv => lhs; whnf) ?_ ?_ <;> intro hb)
 | refine k_seq_ret ?_
 | refine k_block_ret ?_
 | refine k_loop_ret ?_
 | refine k_end_ret ?_
 | (refine ⟨_, by conv => lhs; whnf; arg 2; whnf, ?_⟩; conv => rhs; whnf)
 | exact trivial)
      all_goals first
        | exact i64_ok (by omega)
        | exact at_in hi
        | (have e : bareR k (gD (d.f 3).l i) = false := by simpa using (by assumption : (!bareR k (gD (d.f 3).l i)) = true)
           rw [hR', e]; rfl)
        | (have e : bareR k (gD (d.f 3).l i) = true := by simpa using (by assumption : (!bareR k (gD (d.f 3).l i)) = false)
           exact k_loop_next (j' := j) (by omega) ⟨i + 1, by omega, by rw [hR', e, Bool.true_and], Sub.live ⟨rfl, rfl, trivial⟩ ⟨rfl, trivial⟩⟩)
        | skip
    · obtain rfl : j = 0 := by omega
      have f1 : decide ((i : Int) < ((d.f 3).l.length : Nat)) = false := decide_eq_false (by omega)
      repeat' (first
 | (apply aw_cond_kf
    · conv => lhs; whnf
    · assumption)
 | refine aw_region ?_
 | refine awo_nil ?_
 | refine k_seq ?_
 | (apply aw_1
    conv => whnf
    refine ⟨?_, trivial⟩)
 | (apply s_1
    conv => whnf; arg 1; arg 4; arg 3; whnf
    refine ⟨?_, ?_⟩)
 | refine k_seq_exit ?_
 | refine k_block_hit rfl ?_
 | refine k_loop_exit ?_
 | refine k_end_ret ?_
 | (refine ⟨_, by conv => lhs; whnf; arg 2; whnf, ?_⟩; conv => rhs; whnf)
 | exact trivial)
      rw [hR, allI, Bool.true_and]; rfl
noncomputable def HTf (d : D) (i : Nat) : Vst 54 := stS 54 [(1, .bx 1 0), (3, .c (.int .i64 (i : Int)))] [(1, .box 71 (cellsV Tryz.prog 12 71 d))]
set_option maxHeartbeats 8000000 in
set_option maxRecDepth 100000 in
theorem refF_ac (d : D) (hs : (d.f 0).s.size ≤ 1000000000) (hl : (d.f 1).l.length ≤ 1000000000) : AC EN Tryz.prog 133 [.agg (cellsV Tryz.prog 12 71 d)] (.c (.bool (refR d))) := by
  have hn := nameF_ac (d.f 0).s hs
  have hR : refR d = (nameB (d.f 0).s && decide ((d.f 1).l.length ≤ 24) && wrapsI (d.f 1).l (d.f 1).l.length 0) := by rw [wrapsI_R]; rfl
  generalize refR d = R at hR ⊢
  have e : decide (((d.f 1).l.length : Int) > 24) = !decide ((d.f 1).l.length ≤ 24) := by
    rw [Bool.eq_iff_iff]
    simp only [decide_eq_true_eq, Bool.not_eq_true', decide_eq_false_iff_not]
    omega
  refine ac_enter 54 Tryz.func133 rfl rfl rfl rfl ?_
  intro s w he
  repeat' (first
 | refine aw_region ?_
 | refine awo_nil ?_
 | refine k_seq ?_
 | (apply aw_1
    conv => whnf
    refine ⟨?_, trivial⟩)
 | (apply s_pick_t rfl rfl
    · conv => lhs; whnf
    · conv => lhs; whnf
    · first | exact bT1 (by assumption) | exact bT2 (by assumption))
 | (apply s_pick_f rfl rfl
    · conv => lhs; whnf
    · conv => lhs; whnf
    · first | exact bF1 (by assumption) | exact bF2 (by assumption))
 | (apply s_1
    conv => whnf; arg 1; arg 4; arg 3; whnf
    refine ⟨?_, ?_⟩)
 | (apply s_call rfl
    · conv => lhs; whnf
    · conv => lhs; whnf
    · first | exact hn)
 | (apply s_box rfl rfl rfl rfl
    · conv => lhs; whnf; arg 1; whnf
    · rfl)
 | (apply s_wanted_val rfl
    · conv => lhs; whnf
    · conv => lhs; whnf
    · first | rfl | assumption
    · conv => lhs; whnf; arg 2; whnf)
 | (apply s_skipU rfl
    · conv => lhs; whnf
    · conv => lhs; whnf
    · first | rfl | assumption)
 | (apply s_guard_valU rfl
    · conv => lhs; whnf
    · conv => lhs; whnf
    · conv => lhs; whnf; arg 2; whnf)
 | (refine aw_cond (by conv => lhs; whnf) ?_ ?_ <;> intro hb)
 | refine k_seq_ret ?_
 | refine k_end_ret ?_
 | (refine ⟨_, by conv => lhs; whnf; arg 2; whnf, ?_⟩; conv => rhs; whnf)
 | exact trivial
 | intro hg)
  · simp_all
    intros
    omega
  · have hR2 : R = wrapsI (d.f 1).l (d.f 1).l.length 0 := by simp_all
    clear hR hn
    refine aw_loop (fun j st => ∃ i, i + j = (d.f 1).l.length ∧ R = wrapsI (d.f 1).l j i ∧ Sub (cx EN Tryz.prog s w he) st (HTf d i)) (d.f 1).l.length ⟨0, by omega, hR2, Sub.live ⟨rfl, rfl, trivial⟩ ⟨rfl, trivial⟩⟩ ?_
    clear hR2 hg hb e
    rintro j st ⟨i, hij, hR, hs2⟩
    refine aw_sub hs2 ?_
    clear hs2
    by_cases hi : i < (d.f 1).l.length
    · obtain ⟨j, rfl⟩ : ∃ q, j = q + 1 := ⟨j - 1, by omega⟩
      have f1 : decide ((i : Int) < ((d.f 1).l.length : Nat)) = true := decide_eq_true (by omega)
      have e1 : decide ((i : Int) > 0) = decide (0 < i) := decide_eq_decide.2 (by omega)
      have eT : ((i : Int) - 1).toNat = i - 1 := by omega
      have hR' : R = (((gD (d.f (0 + 1)).l (i : Int).toNat).n == 1 || (gD (d.f (0 + 1)).l (i : Int).toNat).n == 2) && !((gD (d.f (0 + 1)).l (i : Int).toNat).n == 1 && decide ((i : Int) > 0) && ((gD (d.f (0 + 1)).l ((i : Int) - 1).toNat).n == (gD (d.f (0 + 1)).l (i : Int).toNat).n)) && wrapsI (d.f 1).l j (i + 1)) := by
        rw [hR, e1, eT, Int.toNat_natCast]; rfl
      clear hR e1
      repeat' (first
 | (apply aw_cond_kt
    · conv => lhs; whnf
    · assumption)
 | refine aw_region ?_
 | refine awo_nil ?_
 | refine k_seq ?_
 | refine k_block ?_
 | (apply aw_1
    conv => whnf
    refine ⟨?_, trivial⟩)
 | (apply s_pick_t rfl rfl
    · conv => lhs; whnf
    · conv => lhs; whnf
    · first | exact bT1 (by assumption) | exact bT2 (by assumption))
 | (apply s_pick_f rfl rfl
    · conv => lhs; whnf
    · conv => lhs; whnf
    · first | exact bF1 (by assumption) | exact bF2 (by assumption))
 | (apply s_1
    conv => whnf; arg 1; arg 4; arg 3; whnf
    refine ⟨?_, ?_⟩)
 | (apply s_wanted_val rfl
    · conv => lhs; whnf
    · conv => lhs; whnf
    · first | rfl | assumption
    · conv => lhs; whnf; arg 2; whnf)
 | (apply s_skipU rfl
    · conv => lhs; whnf
    · conv => lhs; whnf
    · first | rfl | assumption)
 | (apply s_guard_valU rfl
    · conv => lhs; whnf
    · conv => lhs; whnf
    · conv => lhs; whnf; arg 2; whnf)
 | (refine aw_cond (by conv => lhs; whnf) ?_ ?_ <;> intro hb)
 | refine k_seq_ret ?_
 | refine k_block_ret ?_
 | refine k_loop_ret ?_
 | refine k_end_ret ?_
 | (refine ⟨_, by conv => lhs; whnf; arg 2; whnf, ?_⟩; conv => rhs; whnf)
 | exact trivial
 | intro hg)
      all_goals first
        | exact i64_ok (by omega)
        | exact at_in hi
        | (have h0 : (i : Int) > 0 := by simp_all
           exact (show 0 ≤ (i : Int) - 1 ∧ (i : Int) - 1 < (((d.f 1).l.length : Nat) : Int) from ⟨by omega, by omega⟩))
        | (have h0 : (i : Int) > 0 := by simp_all
           exact i64_ok (by omega))
        | (have hN : R = wrapsI (d.f 1).l j (i + 1) := by simp_all
           exact k_loop_next (j' := j) (by omega) ⟨i + 1, by omega, hN, Sub.live ⟨rfl, rfl, trivial⟩ ⟨rfl, trivial⟩⟩)
        | skip
      all_goals
        refine congrArg (fun b => V.c (.bool b)) ?_
        clear eT f1 hi hij he
        simp_all
    · obtain rfl : j = 0 := by omega
      have f1 : decide ((i : Int) < ((d.f 1).l.length : Nat)) = false := decide_eq_false (by omega)
      repeat' (first
 | (apply aw_cond_kf
    · conv => lhs; whnf
    · assumption)
 | refine aw_region ?_
 | refine awo_nil ?_
 | refine k_seq ?_
 | (apply aw_1
    conv => whnf
    refine ⟨?_, trivial⟩)
 | (apply s_1
    conv => whnf; arg 1; arg 4; arg 3; whnf
    refine ⟨?_, ?_⟩)
 | refine k_seq_exit ?_
 | refine k_block_hit rfl ?_
 | refine k_loop_exit ?_
 | refine k_end_ret ?_
 | (refine ⟨_, by conv => lhs; whnf; arg 2; whnf, ?_⟩; conv => rhs; whnf)
 | exact trivial)
      rw [hR]; rfl
  · simp_all
end Go.Proofs.YthjiclhfhjdjpaaGreatDoor
namespace Go.Proofs.YthjiclhfhjdjpaaGreatDoor
open Go.RowKit
set_option linter.unusedSectionVars false
attribute [local irreducible] wpList Calls Code.wp AW AWo OpOk seqK blockK scopeK loopK endK AC absLex Yld Sub
attribute [local irreducible] ACB ACX absLexG YldG absLexH
set_option maxHeartbeats 8000000 in
set_option maxRecDepth 100000 in
theorem selsR_zero (p : D → Bool) (l : List D) (lv : Nat) : selsR p l 0 lv = (decide (l.length = 0) || selsR p l 1 lv) := by
  unfold selsR
  cases l with
  | nil => simp
  | cons x r => simp
set_option maxHeartbeats 8000000 in
set_option maxRecDepth 100000 in
theorem selsR_one (p : D → Bool) (l : List D) (lv : Nat) : selsR p l 1 lv = (!decide (l.length = 0) && decide (l.length ≤ 64) && decide (lv ≤ 24) && allI p l l.length 0) := by
  rw [allI_any]
  unfold selsR
  cases l with
  | nil => simp
  | cons x r => simp
noncomputable def HSe (l : List D) (lv i : Nat) : Vst 31 := stS 31 [(0, .sl 76 l), (1, .c (.int .i64 (lv : Int))), (5, .c (.int .i64 (i : Int)))] []
set_option maxHeartbeats 8000000 in
set_option maxRecDepth 100000 in
theorem selsF_of (l : List D) (lv : Nat) (p : D → Bool) (hw : bulkL l ≤ 1000000000) (hc : ∀ i, i < l.length → AC EN Tryz.prog 136 [.agg (cellsV Tryz.prog 12 76 (gD l i)), .c (.int .i64 (lv : Int))] (.c (.bool (p (gD l i))))) :
    AC EN Tryz.prog 68 [.sl 76 l, .c (.int .i64 (lv : Int))] (.c (.bool (selsR p l 1 lv))) := by
  have hl := bulkL_len l
  have e1 : ((l.length : Int) == 0) = decide (l.length = 0) := by rw [Bool.eq_iff_iff]; simp only [beq_iff_eq, decide_eq_true_eq]; omega
  have e2 : decide ((l.length : Int) > 64) = !decide (l.length ≤ 64) := by rw [Bool.eq_iff_iff]; simp; omega
  have e4 : decide ((lv : Int) > 24) = !decide (lv ≤ 24) := by rw [Bool.eq_iff_iff]; simp; omega
  have hR := selsR_one p l lv
  generalize selsR p l 1 lv = R at hR ⊢
  refine ac_enter 31 Tryz.func68 rfl rfl rfl rfl ?_
  intro s w he
  by_cases hok : (!decide (l.length = 0) && decide (l.length ≤ 64) && decide (lv ≤ 24)) = true
  · have hR2 : R = allI p l l.length 0 := by rw [hR, hok, Bool.true_and]
    simp only [Bool.and_eq_true, Bool.not_eq_true', decide_eq_false_iff_not, decide_eq_true_eq] at hok
    have f1 : ((l.length : Int) == 0) = false := by rw [e1]; exact decide_eq_false hok.1.1
    have f2 : decide ((l.length : Int) > 64) = false := decide_eq_false (by omega)
    have f3 : decide ((lv : Int) > 24) = false := decide_eq_false (by omega)
    have g1 : (((l.length : Int) == 0) == false) = true := by rw [f1]; rfl
    have g2 : (decide ((l.length : Int) > 64) == false) = true := by rw [f2]; rfl
    have k1 : (((l.length : Int) == 0) == false) = false → False := fun h => by rw [g1] at h; cases h
    have k2 : (decide ((l.length : Int) > 64) == false) = false → False := fun h => by rw [g2] at h; cases h
    clear hR e1 e2 e4
    repeat' (first
 | (apply aw_cond_kf
    · conv => lhs; whnf
    · assumption)
 | refine aw_region ?_
 | refine awo_nil ?_
 | refine k_seq ?_
 | (apply aw_1
    conv => whnf
    refine ⟨?_, trivial⟩)
 | (apply s_pick_f rfl rfl
    · conv => lhs; whnf
    · conv => lhs; whnf
    · first | exact bF1 (by assumption) | exact bF2 (by assumption))
 | (apply s_1
    conv => whnf; arg 1; arg 4; arg 3; whnf
    refine ⟨?_, ?_⟩)
 | (apply s_wanted_val rfl
    · conv => lhs; whnf
    · conv => lhs; whnf
    · first | rfl | assumption
    · conv => lhs; whnf; arg 2; whnf)
 | exact trivial)
    refine aw_loop (fun j st => ∃ i, i + j = l.length ∧ R = allI p l j i ∧ Sub (cx EN Tryz.prog s w he) st (HSe l lv i)) l.length ⟨0, by omega, hR2, Sub.live ⟨rfl, rfl, rfl, trivial⟩ trivial⟩ ?_
    clear hR2 f1 f2 f3 g1 g2 k1 k2
    rintro j st ⟨i, hij, hR, hs2⟩
    refine aw_sub hs2 ?_
    clear hs2
    by_cases hi : i < l.length
    · obtain ⟨j, rfl⟩ : ∃ q, j = q + 1 := ⟨j - 1, by omega⟩
      have f1 : decide ((i : Int) < (l.length : Nat)) = true := decide_eq_true (by omega)
      have hR' : R = (p (gD l i) && allI p l j (i + 1)) := hR
      have h1 := hc i hi
      repeat' (first
 | (apply aw_cond_kt
    · conv => lhs; whnf
    · assumption)
 | refine aw_region ?_
 | refine awo_nil ?_
 | refine k_seq ?_
 | refine k_block ?_
 | (apply aw_1
    conv => whnf
    refine ⟨?_, trivial⟩)
 | (apply s_1
    conv => whnf; arg 1; arg 4; arg 3; whnf
    refine ⟨?_, ?_⟩)
 | (apply s_call rfl
    · conv => lhs; whnf
    · conv => lhs; whnf
    · first | exact h1)
 | (refine aw_cond (by conv => lhs; whnf) ?_ ?_ <;> intro hb)
 | refine k_seq_ret ?_
 | refine k_block_ret ?_
 | refine k_loop_ret ?_
 | refine k_end_ret ?_
 | (refine ⟨_, by conv => lhs; whnf; arg 2; whnf, ?_⟩; conv => rhs; whnf)
 | exact trivial)
      all_goals first
        | exact i64_ok (by omega)
        | exact at_in hi
        | (have e : p (gD l i) = false := by simpa using (by assumption : (!p (gD l i)) = true)
           rw [hR', e]; rfl)
        | (have e : p (gD l i) = true := by simpa using (by assumption : (!p (gD l i)) = false)
           exact k_loop_next (j' := j) (by omega) ⟨i + 1, by omega, by rw [hR', e, Bool.true_and], Sub.live ⟨rfl, rfl, rfl, trivial⟩ trivial⟩)
        | skip
    · obtain rfl : j = 0 := by omega
      have f1 : decide ((i : Int) < (l.length : Nat)) = false := decide_eq_false (by omega)
      repeat' (first
 | (apply aw_cond_kf
    · conv => lhs; whnf
    · assumption)
 | refine aw_region ?_
 | refine awo_nil ?_
 | refine k_seq ?_
 | (apply aw_1
    conv => whnf
    refine ⟨?_, trivial⟩)
 | (apply s_1
    conv => whnf; arg 1; arg 4; arg 3; whnf
    refine ⟨?_, ?_⟩)
 | refine k_seq_exit ?_
 | refine k_block_hit rfl ?_
 | refine k_loop_exit ?_
 | refine k_end_ret ?_
 | (refine ⟨_, by conv => lhs; whnf; arg 2; whnf, ?_⟩; conv => rhs; whnf)
 | exact trivial)
      rw [hR]; rfl
  · have hok : (!decide (l.length = 0) && decide (l.length ≤ 64) && decide (lv ≤ 24)) = false := by simpa using hok
    have hR2 : R = false := by rw [hR, hok, Bool.false_and]
    subst hR2
    clear hR
    have K : ∀ {x y z : Bool}, ((l.length : Int) == 0) = x → decide ((l.length : Int) > 64) = y → decide ((lv : Int) > 24) = z → x = false → y = false → z = false → False := fun h1 h2 h3 h4 h5 h6 => by
      rw [e1] at h1; rw [e2] at h2; rw [e4] at h3
      rw [h4] at h1; rw [h5] at h2; rw [h6] at h3
      simp only [h1, Bool.not_eq_false'] at h2 h3
      rw [h1, h2, h3] at hok
      cases hok
    by_cases f1 : ((l.length : Int) == 0) = true
    · have k1 : (((l.length : Int) == 0) == false) = true → False := fun h => by rw [f1] at h; cases h
      repeat' (first
 | exact (k1 (by assumption)).elim
 | refine aw_region ?_
 | refine awo_nil ?_
 | refine k_seq ?_
 | (apply aw_1
    conv => whnf
    refine ⟨?_, trivial⟩)
 | (apply s_pick_t rfl rfl
    · conv => lhs; whnf
    · conv => lhs; whnf
    · first | exact bT1 (by assumption) | exact bT2 (by assumption))
 | (apply s_1
    conv => whnf; arg 1; arg 4; arg 3; whnf
    refine ⟨?_, ?_⟩)
 | (apply s_skipU rfl
    · conv => lhs; whnf
    · conv => lhs; whnf
    · first | rfl | assumption)
 | (apply s_guard_valU rfl
    · conv => lhs; whnf
    · conv => lhs; whnf
    · conv => lhs; whnf; arg 2; whnf)
 | refine k_seq_ret ?_
 | refine k_end_ret ?_
 | (refine ⟨_, by conv => lhs; whnf; arg 2; whnf, ?_⟩; conv => rhs; whnf)
 | exact trivial
 | intro hg)
    · have f1 : ((l.length : Int) == 0) = false := by simpa using f1
      have g1 : (((l.length : Int) == 0) == false) = true := by rw [f1]; rfl
      have k1 : (((l.length : Int) == 0) == false) = false → False := fun h => by rw [g1] at h; cases h
      by_cases f2 : decide ((l.length : Int) > 64) = true
      · have k2 : (decide ((l.length : Int) > 64) == false) = true → False := fun h => by rw [f2] at h; cases h
        repeat' (first
 | exact (k2 (by assumption)).elim
 | refine aw_region ?_
 | refine awo_nil ?_
 | refine k_seq ?_
 | (apply aw_1
    conv => whnf
    refine ⟨?_, trivial⟩)
 | (apply s_pick_t rfl rfl
    · conv => lhs; whnf
    · conv => lhs; whnf
    · first | exact bT1 (by assumption) | exact bT2 (by assumption))
 | (apply s_pick_f rfl rfl
    · conv => lhs; whnf
    · conv => lhs; whnf
    · first | exact bF1 (by assumption) | exact bF2 (by assumption))
 | (apply s_1
    conv => whnf; arg 1; arg 4; arg 3; whnf
    refine ⟨?_, ?_⟩)
 | (apply s_wanted_val rfl
    · conv => lhs; whnf
    · conv => lhs; whnf
    · first | rfl | assumption
    · conv => lhs; whnf; arg 2; whnf)
 | (apply s_skipU rfl
    · conv => lhs; whnf
    · conv => lhs; whnf
    · first | rfl | assumption)
 | (apply s_guard_valU rfl
    · conv => lhs; whnf
    · conv => lhs; whnf
    · conv => lhs; whnf; arg 2; whnf)
 | refine k_seq_ret ?_
 | refine k_end_ret ?_
 | (refine ⟨_, by conv => lhs; whnf; arg 2; whnf, ?_⟩; conv => rhs; whnf)
 | exact trivial
 | intro hg)
      · have f2 : decide ((l.length : Int) > 64) = false := by simpa using f2
        have g2 : (decide ((l.length : Int) > 64) == false) = true := by rw [f2]; rfl
        have k2 : (decide ((l.length : Int) > 64) == false) = false → False := fun h => by rw [g2] at h; cases h
        have f3 : decide ((lv : Int) > 24) = true := by
          cases f3 : decide ((lv : Int) > 24) with
          | true => rfl
          | false => exact (K f1 f2 f3 rfl rfl rfl).elim
        repeat' (first
 | (apply aw_cond_kt
    · conv => lhs; whnf
    · assumption)
 | refine aw_region ?_
 | refine awo_nil ?_
 | refine k_seq ?_
 | (apply aw_1
    conv => whnf
    refine ⟨?_, trivial⟩)
 | (apply s_pick_f rfl rfl
    · conv => lhs; whnf
    · conv => lhs; whnf
    · first | exact bF1 (by assumption) | exact bF2 (by assumption))
 | (apply s_1
    conv => whnf; arg 1; arg 4; arg 3; whnf
    refine ⟨?_, ?_⟩)
 | (apply s_wanted_val rfl
    · conv => lhs; whnf
    · conv => lhs; whnf
    · first | rfl | assumption
    · conv => lhs; whnf; arg 2; whnf)
 | refine k_seq_ret ?_
 | refine k_end_ret ?_
 | (refine ⟨_, by conv => lhs; whnf; arg 2; whnf, ?_⟩; conv => rhs; whnf)
 | exact trivial)
set_option maxHeartbeats 8000000 in
set_option maxRecDepth 100000 in
theorem selF_ac : ∀ (k lv : Nat) (d : D), bulkD d ≤ k → k ≤ 1000000000 → lv + k ≤ 2000000000 → AC EN Tryz.prog 136 [.agg (cellsV Tryz.prog 12 76 d), .c (.int .i64 (lv : Int))] (.c (.bool (selR k lv d)))
  | 0, _, d, h, _, _ => by have := bulkD_pos d; omega
  | k + 1, lv, d, h, hk, hlv => by
    have hB := sel_b (B := 1000000000) (d := d) (by omega)
    have h1 := nameF_ac (d.f 1).s hB.s1
    have h2 := nameF_ac (d.f 2).s hB.s2
    have h3 := nameF_ac (d.f 3).s hB.s3
    have h4 := argsF_ac (d.f 4).l hB.l4
    have h5 := dirsF_ac (d.f 5).l hB.l5
    have h6 := titleF_ac (d.f 2).s hB.s2
    have hs1 := selsF_of (d.f 6).l (lv + 1) (selR k (lv + 1)) hB.l6B fun i hi => selF_ac k (lv + 1) _ (by have := bulkL_get hi; have := hB.l6; omega) (by omega) (by omega)
    have hs0 := selsR_zero (selR k (lv + 1)) (d.f 6).l (lv + 1)
    have hz4 : (((d.f 4).l.length : Int) == 0) = decide ((d.f 4).l.length = 0) := by rw [Bool.eq_iff_iff]; simp
    have hz6 : (((d.f 6).l.length : Int) == 0) = decide ((d.f 6).l.length = 0) := by rw [Bool.eq_iff_iff]; simp
    have n1 := noneS_is (d.f 1).s
    have n2 := noneS_is (d.f 2).s
    have n3 := noneS_is (d.f 3).s
    have e : cellsV Tryz.prog 12 76 d = [.c (.int .i64 (d.f 0).n), .c (.string (d.f 1).s), .c (.string (d.f 2).s), .c (.string (d.f 3).s), .sl 86 (d.f 4).l, .sl 150 (d.f 5).l, .sl 76 (d.f 6).l] := rfl
    unfold selR
    rw [e, hs0]
    by_cases k1 : (d.f 0).n = 1
    · rw [if_pos k1, k1]
      refine ac_enter 110 Tryz.func136 rfl rfl rfl rfl ?_
      intro s w he
      repeat' (first
 | (apply s_wpick_t rfl rfl rfl
    · conv => lhs; whnf
    · first | rfl | assumption
    · conv => lhs; whnf
    · first | exact bT1 (by assumption) | exact bT2 (by assumption) | rfl)
 | (apply s_wpick_f rfl rfl rfl
    · conv => lhs; whnf
    · first | rfl | assumption
    · conv => lhs; whnf
    · first | exact bF1 (by assumption) | exact bF2 (by assumption) | rfl)
 | refine aw_region ?_
 | refine awo_nil ?_
 | refine k_seq ?_
 | (apply aw_1
    conv => whnf
    refine ⟨?_, trivial⟩)
 | (apply s_pick_t rfl rfl
    · conv => lhs; whnf
    · conv => lhs; whnf
    · first | exact bT1 (by assumption) | exact bT2 (by assumption))
 | (apply s_pick_f rfl rfl
    · conv => lhs; whnf
    · conv => lhs; whnf
    · first | exact bF1 (by assumption) | exact bF2 (by assumption))
 | (apply s_1
    conv => whnf; arg 1; arg 4; arg 3; whnf
    refine ⟨?_, ?_⟩)
 | (apply s_call rfl
    · conv => lhs; whnf
    · conv => lhs; whnf
    · first | exact h1 | exact h2 | exact h4 | exact h5 | exact hs1)
 | (apply s_box rfl rfl rfl rfl
    · conv => lhs; whnf; arg 1; whnf
    · rfl)
 | (apply s_wanted_val rfl
    · conv => lhs; whnf
    · conv => lhs; whnf
    · first | rfl | assumption
    · conv => lhs; whnf; arg 2; whnf)
 | (apply s_wanted_call rfl
    · conv => lhs; whnf
    · conv => lhs; whnf
    · first | rfl | assumption
    · conv => lhs; whnf
    · first | exact h1 | exact h2 | exact h4 | exact h5 | exact hs1)
 | (apply s_skipU rfl
    · conv => lhs; whnf
    · conv => lhs; whnf
    · first | rfl | assumption)
 | (apply s_guard_valU rfl
    · conv => lhs; whnf
    · conv => lhs; whnf
    · conv => lhs; whnf; arg 2; whnf)
 | (refine aw_cond (by conv => lhs; whnf) ?_ ?_ <;> intro hb)
 | refine k_seq_ret ?_
 | refine k_block_ret ?_
 | refine k_end_ret ?_
 | (refine ⟨_, by conv => lhs; whnf; arg 2; whnf, ?_⟩; conv => rhs; whnf)
 | exact trivial
 | intro hg)
      all_goals first
        | exact i64_ok (by omega)
        | (clear h1 h2 h3 h4 h5 h6 hs0 hs1 he e hB
           refine congrArg (fun b => V.c (.bool b)) ?_
           simp only [n1, n2, n3, hz4, hz6] at *
           clear n1 n2 n3 hz4 hz6
           generalize argsR (d.f 4).l = a1 at *
           generalize dirsR (d.f 5).l = a2 at *
           generalize noneS (d.f 1).s = a3 at *
           generalize noneS (d.f 3).s = a4 at *
           generalize nameB (d.f 1).s = a5 at *
           generalize nameB (d.f 2).s = a6 at *
           generalize selsR (selR k (lv + 1)) (d.f 6).l 1 (lv + 1) = a7 at *
           generalize decide ((d.f 6).l.length = 0) = a8 at *
           clear k1 h hk hlv
           simp_all)
    rw [if_neg k1]
    by_cases k2 : (d.f 0).n = 2
    · rw [if_pos k2, k2]
      refine ac_enter 110 Tryz.func136 rfl rfl rfl rfl ?_
      intro s w he
      repeat' (first
 | refine aw_region ?_
 | refine awo_nil ?_
 | refine k_seq ?_
 | (apply aw_1
    conv => whnf
    refine ⟨?_, trivial⟩)
 | (apply s_pick_t rfl rfl
    · conv => lhs; whnf
    · conv => lhs; whnf
    · first | exact bT1 (by assumption) | exact bT2 (by assumption))
 | (apply s_pick_f rfl rfl
    · conv => lhs; whnf
    · conv => lhs; whnf
    · first | exact bF1 (by assumption) | exact bF2 (by assumption))
 | (apply s_1
    conv => whnf; arg 1; arg 4; arg 3; whnf
    refine ⟨?_, ?_⟩)
 | (apply s_call rfl
    · conv => lhs; whnf
    · conv => lhs; whnf
    · first | exact h4 | exact h5 | exact h6)
 | (apply s_box rfl rfl rfl rfl
    · conv => lhs; whnf; arg 1; whnf
    · rfl)
 | (apply s_wanted_val rfl
    · conv => lhs; whnf
    · conv => lhs; whnf
    · first | rfl | assumption
    · conv => lhs; whnf; arg 2; whnf)
 | (apply s_wanted_call rfl
    · conv => lhs; whnf
    · conv => lhs; whnf
    · first | rfl | assumption
    · conv => lhs; whnf
    · first | exact h4 | exact h5 | exact h6)
 | (apply s_skipU rfl
    · conv => lhs; whnf
    · conv => lhs; whnf
    · first | rfl | assumption)
 | (apply s_guard_valU rfl
    · conv => lhs; whnf
    · conv => lhs; whnf
    · conv => lhs; whnf; arg 2; whnf)
 | (refine aw_cond (by conv => lhs; whnf) ?_ ?_ <;> intro hb)
 | refine k_seq_ret ?_
 | refine k_block_ret ?_
 | refine k_end_ret ?_
 | (refine ⟨_, by conv => lhs; whnf; arg 2; whnf, ?_⟩; conv => rhs; whnf)
 | exact trivial
 | intro hg)
      all_goals
        clear h1 h2 h3 h4 h5 h6 hs0 hs1 he e hB
        refine congrArg (fun b => V.c (.bool b)) ?_
        simp only [n1, n2, n3, hz4, hz6] at *
        clear n1 n2 n3 hz4 hz6
        generalize argsR (d.f 4).l = a1 at *
        generalize dirsR (d.f 5).l = a2 at *
        generalize noneS (d.f 1).s = a3 at *
        generalize noneS (d.f 3).s = a4 at *
        generalize decide ((d.f 4).l.length = 0) = a5 at *
        generalize decide ((d.f 6).l.length = 0) = a6 at *
        generalize titleR (d.f 2).s = a7 at *
        clear k1 k2 h hk hlv
        simp_all
    rw [if_neg k2]
    by_cases k3 : (d.f 0).n = 3
    · rw [if_pos k3, k3]
      refine ac_enter 110 Tryz.func136 rfl rfl rfl rfl ?_
      intro s w he
      repeat' (first
 | (apply s_wpick_t rfl rfl rfl
    · conv => lhs; whnf
    · first | rfl | assumption
    · conv => lhs; whnf
    · first | exact bT1 (by assumption) | exact bT2 (by assumption) | rfl)
 | (apply s_wpick_f rfl rfl rfl
    · conv => lhs; whnf
    · first | rfl | assumption
    · conv => lhs; whnf
    · first | exact bF1 (by assumption) | exact bF2 (by assumption) | rfl)
 | refine aw_region ?_
 | refine awo_nil ?_
 | refine k_seq ?_
 | (apply aw_1
    conv => whnf
    refine ⟨?_, trivial⟩)
 | (apply s_pick_t rfl rfl
    · conv => lhs; whnf
    · conv => lhs; whnf
    · first | exact bT1 (by assumption) | exact bT2 (by assumption))
 | (apply s_pick_f rfl rfl
    · conv => lhs; whnf
    · conv => lhs; whnf
    · first | exact bF1 (by assumption) | exact bF2 (by assumption))
 | (apply s_1
    conv => whnf; arg 1; arg 4; arg 3; whnf
    refine ⟨?_, ?_⟩)
 | (apply s_call rfl
    · conv => lhs; whnf
    · conv => lhs; whnf
    · first | exact h3 | exact h4 | exact h5 | exact hs1)
 | (apply s_box rfl rfl rfl rfl
    · conv => lhs; whnf; arg 1; whnf
    · rfl)
 | (apply s_wanted_val rfl
    · conv => lhs; whnf
    · conv => lhs; whnf
    · first | rfl | assumption
    · conv => lhs; whnf; arg 2; whnf)
 | (apply s_wanted_call rfl
    · conv => lhs; whnf
    · conv => lhs; whnf
    · first | rfl | assumption
    · conv => lhs; whnf
    · first | exact h3 | exact h4 | exact h5 | exact hs1)
 | (apply s_skipU rfl
    · conv => lhs; whnf
    · conv => lhs; whnf
    · first | rfl | assumption)
 | (apply s_guard_valU rfl
    · conv => lhs; whnf
    · conv => lhs; whnf
    · conv => lhs; whnf; arg 2; whnf)
 | (refine aw_cond (by conv => lhs; whnf) ?_ ?_ <;> intro hb)
 | refine k_seq_ret ?_
 | refine k_block_ret ?_
 | refine k_end_ret ?_
 | (refine ⟨_, by conv => lhs; whnf; arg 2; whnf, ?_⟩; conv => rhs; whnf)
 | exact trivial
 | intro hg)
      all_goals first
        | exact i64_ok (by omega)
        | (clear h1 h2 h3 h4 h5 h6 hs0 hs1 he e hB
           refine congrArg (fun b => V.c (.bool b)) ?_
           simp only [n1, n2, n3, hz4, hz6] at *
           clear n1 n2 n3 hz4 hz6
           generalize argsR (d.f 4).l = a1 at *
           generalize dirsR (d.f 5).l = a2 at *
           generalize noneS (d.f 1).s = a3 at *
           generalize noneS (d.f 2).s = a4 at *
           generalize noneS (d.f 3).s = a5 at *
           generalize nameB (d.f 3).s = a6 at *
           generalize decide ((d.f 4).l.length = 0) = a8 at *
           generalize selsR (selR k (lv + 1)) (d.f 6).l 1 (lv + 1) = a7 at *
           clear k1 k2 k3 h hk hlv
           simp_all)
    rw [if_neg k3]
    have f1 : ((d.f 0).n == 1) = false := by simpa using k1
    have f2 : ((d.f 0).n == 2) = false := by simpa using k2
    have f3 : ((d.f 0).n == 3) = false := by simpa using k3
    refine ac_enter 110 Tryz.func136 rfl rfl rfl rfl ?_
    intro s w he
    repeat' (first
 | (apply aw_cond_kf
    · conv => lhs; whnf
    · assumption)
 | refine aw_region ?_
 | refine awo_nil ?_
 | refine k_seq ?_
 | refine k_block ?_
 | (apply aw_1
    conv => whnf
    refine ⟨?_, trivial⟩)
 | (apply s_pick_t rfl rfl
    · conv => lhs; whnf
    · conv => lhs; whnf
    · first | exact bT1 (by assumption) | exact bT2 (by assumption))
 | (apply s_pick_f rfl rfl
    · conv => lhs; whnf
    · conv => lhs; whnf
    · first | exact bF1 (by assumption) | exact bF2 (by assumption))
 | (apply s_1
    conv => whnf; arg 1; arg 4; arg 3; whnf
    refine ⟨?_, ?_⟩)
 | (apply s_call rfl
    · conv => lhs; whnf
    · conv => lhs; whnf
    · first | exact h4 | exact h5)
 | (apply s_box rfl rfl rfl rfl
    · conv => lhs; whnf; arg 1; whnf
    · rfl)
 | (apply s_wanted_val rfl
    · conv => lhs; whnf
    · conv => lhs; whnf
    · first | rfl | assumption
    · conv => lhs; whnf; arg 2; whnf)
 | (apply s_wanted_call rfl
    · conv => lhs; whnf
    · conv => lhs; whnf
    · first | rfl | assumption
    · conv => lhs; whnf
    · first | exact h4 | exact h5)
 | (apply s_skipU rfl
    · conv => lhs; whnf
    · conv => lhs; whnf
    · first | rfl | assumption)
 | (apply s_guard_valU rfl
    · conv => lhs; whnf
    · conv => lhs; whnf
    · conv => lhs; whnf; arg 2; whnf)
 | (refine aw_cond (by conv => lhs; whnf) ?_ ?_ <;> intro hb)
 | refine k_seq_ret ?_
 | refine k_end_ret ?_
 | (refine ⟨_, by conv => lhs; whnf; arg 2; whnf, ?_⟩; conv => rhs; whnf)
 | exact trivial
 | intro hg)
    all_goals
      clear h1 h2 h3 h4 h5 h6 hs0 hs1 he e hB
      refine congrArg (fun b => V.c (.bool b)) ?_
      simp
set_option maxHeartbeats 8000000 in
set_option maxRecDepth 100000 in
theorem setF_ac (l : List D) (hw : bulkL l ≤ 1000000000) : AC EN Tryz.prog 68 [.sl 76 l, .c (.int .i64 1)] (.c (.bool (setR l))) :=
  selsF_of l 1 (selR (bulkL l) 1) hw fun i hi => selF_ac _ _ _ (bulkL_get hi) hw (by omega)
end Go.Proofs.YthjiclhfhjdjpaaGreatDoor
