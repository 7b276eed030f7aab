/- Parts of a proof, merged by a program (shake.py). -/
import Derived.Lib.IndexLaws
import Derived.Test.YtdklhkdlndlgnaaGreatDoorRows
import Derived.Test.YtdklhkdlndlgnaaGreatDoorQ29
set_option linter.unusedVariables false
set_option linter.unusedSimpArgs false
namespace Go.Proofs.YtdklhkdlndlgnaaGreatDoor
open Go.RowKit
attribute [local irreducible] wpList Calls Code.wp AW AWo OpOk seqK blockK scopeK loopK endK endKB AC ACB absLex absLexG Yld YldG
set_option maxRecDepth 100000 in
theorem rel_one {P : Program} {s : Sg} {w : World} {v : V} {us : Array Value} (h : relL P s w [v] us.toList) : ∃ u, us = #[u] ∧ rel P s w v u := by
  cases hl : us.toList with
  | nil => rw [hl] at h; simp [relL] at h
  | cons x xs =>
    rw [hl, relL] at h
    cases xs with
    | nil => exact ⟨x, by apply Array.ext'; simpa using hl, h.1⟩
    | cons y ys => simp [relL] at h
set_option maxRecDepth 100000 in
theorem rel_two {P : Program} {s : Sg} {w : World} {v v2 : V} {us : Array Value} (h : relL P s w [v, v2] us.toList) : ∃ u u2, us = #[u, u2] ∧ rel P s w v u ∧ rel P s w v2 u2 := by
  cases hl : us.toList with
  | nil => rw [hl] at h; simp [relL] at h
  | cons x xs =>
    rw [hl, relL] at h
    cases xs with
    | nil => simp [relL] at h
    | cons y ys =>
      rw [relL] at h
      cases ys with
      | nil => exact ⟨x, y, by apply Array.ext'; simpa using hl, h.1, h.2.1⟩
      | cons z zs => simp [relL] at h
set_option maxRecDepth 100000 in
theorem rel_str {P : Program} {s : Sg} {w : World} {b : ByteArray} (h : b.size ≤ maxLen) : rel P s w (.c (.string b)) (.string b) := by rw [rel]; exact ⟨rfl, h⟩
set_option maxRecDepth 100000 in
theorem str_arg {s : Sg} {w : World} {b : ByteArray} {us : Array Value} (h : relL Tryz.prog s w [.c (.string b)] us.toList) : us = #[.string b] ∧ b.size ≤ maxLen := by
  obtain ⟨u, rfl, hu⟩ := rel_one h
  rw [rel] at hu
  exact ⟨by rw [hu.1], hu.2⟩
set_option maxRecDepth 100000 in
theorem int_arg1 {s : Sg} {w : World} {n : Int} {us : Array Value} (h : relL Tryz.prog s w [.c (.int .i64 n)] us.toList) : us = #[.int .i64 n] ∧ R64 n := by
  obtain ⟨u, rfl, hu⟩ := rel_one h
  rw [rel] at hu
  obtain ⟨rfl, h2⟩ := hu
  refine ⟨rfl, ?_⟩
  have h3 : (Lit.int .i64 n).wf = true := h2
  rw [wf_int] at h3
  exact h3
/-- where a byte stands, or less than nothing -/
def ixU (l : List UInt8) (n : Int) : Int := Lib.indexByte l n.toNat.toUInt8
set_option maxRecDepth 100000 in
theorem ix_range (l : List UInt8) (c : UInt8) : -1 ≤ Lib.indexByte l c ∧ Lib.indexByte l c < l.length := by
  refine ⟨Lib.indexByte_ge l c, ?_⟩
  induction l with
  | nil => show (-1 : Int) < 0; decide
  | cons b l ih =>
    unfold Lib.indexByte
    simp only [List.length_cons]
    split
    · omega
    · split
      · omega
      · omega
set_option maxRecDepth 100000 in
theorem indexByte_ac (s : ByteArray) (n : Int) (hs : s.size ≤ 1000000000) : AC EN5 Tryz.prog 56 [.c (.string s), .c (.int .u8 n)] (.c (.int .i64 (ixU s.data.toList n))) := by
  refine ac_of5 (u := .int .i64 (ixU s.data.toList n)) fun σ w us hus he => ?_
  obtain ⟨u, u2, rfl, h1, h2⟩ := rel_two hus
  rw [rel] at h1 h2
  obtain ⟨rfl, -⟩ := h1
  obtain ⟨rfl, -⟩ := h2
  have hr := ix_range s.data.toList n.toNat.toUInt8
  have hl : s.data.toList.length = s.size := rfl
  refine ⟨fun s' w' => rel_i64 (by unfold R64 ixU; omega), (Tryz.strings_IndexByte s n w).mono ?_⟩
  rintro e w' ⟨rfl, rfl⟩
  exact ⟨rfl, Below.refl _ _⟩
set_option maxRecDepth 100000 in
theorem quoteP_ac (s : ByteArray) (hs : s.size ≤ 8388608) : AC EN5 Tryz.prog 42 [.c (.string s)] (.c (.string (bs (quoteU s.data.toList)))) := by
  refine ac_of5 (u := .string (bs (quoteU s.data.toList))) fun σ w us hus he => ?_
  obtain ⟨rfl, -⟩ := str_arg hus
  exact ⟨fun s' w' => rel_str (by have := quote_size s; unfold maxLen; omega), quoteP s w hs⟩
set_option maxRecDepth 100000 in
theorem quoteR_ac (s : ByteArray) (hs : s.size ≤ 8388608) : AC EN5 Tryz.prog 46 [.c (.string s)] (.c (.string (bs (quoteU s.data.toList)))) := by
  refine ac_of5 (u := .string (bs (quoteU s.data.toList))) fun σ w us hus he => ?_
  obtain ⟨rfl, -⟩ := str_arg hus
  exact ⟨fun s' w' => rel_str (by have := quote_size s; unfold maxLen; omega), quoteR s w hs⟩
set_option maxRecDepth 100000 in
theorem decimalP_ac (n : Int) : AC EN5 Tryz.prog 13 [.c (.int .i64 n)] (.c (.string (bs (Lib.itoa n)))) := by
  refine ac_of5 (u := .string (bs (Lib.itoa n))) fun σ w us hus he => ?_
  obtain ⟨rfl, h0, h1⟩ := int_arg1 hus
  exact ⟨fun s' w' => rel_str (by have := itoa_sizeM n h0 h1; unfold maxLen; omega), decimalP n h0 h1 w he⟩
set_option maxRecDepth 100000 in
theorem decimalR_ac (n : Int) : AC EN5 Tryz.prog 17 [.c (.int .i64 n)] (.c (.string (bs (Lib.itoa n)))) := by
  refine ac_of5 (u := .string (bs (Lib.itoa n))) fun σ w us hus he => ?_
  obtain ⟨rfl, h0, h1⟩ := int_arg1 hus
  exact ⟨fun s' w' => rel_str (by have := itoa_sizeM n h0 h1; unfold maxLen; omega), decimalR n h0 h1 w⟩
end Go.Proofs.YtdklhkdlndlgnaaGreatDoor
namespace Go.Proofs.YtdklhkdlndlgnaaGreatDoor
open Go.RowKit
attribute [local irreducible] wpList Calls Code.wp AW AWo OpOk seqK blockK scopeK loopK endK endKB AC ACB absLex absLexG Yld YldG Sub
set_option maxRecDepth 100000 in
theorem i64_in2 {n : Int} (h : -9223372036854775808 ≤ n ∧ n ≤ 9223372036854775807) : IntKind.i64.min ≤ n ∧ n ≤ IntKind.i64.max := h
end Go.Proofs.YtdklhkdlndlgnaaGreatDoor
namespace Go.Proofs.YtdklhkdlndlgnaaGreatDoor
def sumN (g : Nat → Nat) (n : Nat) : Nat := ((List.range n).map g).sum
theorem sumN_succ (g : Nat → Nat) (n : Nat) : sumN g (n + 1) = sumN g n + g n := by
  unfold sumN; rw [List.range_succ, List.map_append, List.sum_append]; simp
def maxN (g : Nat → Nat) (n : Nat) : Nat := (List.range n).foldl (fun m i => max m (g i)) 0
theorem maxN_succ (g : Nat → Nat) (n : Nat) : maxN g (n + 1) = max (maxN g n) (g n) := by
  unfold maxN; rw [List.range_succ, List.foldl_append]; rfl
def sizeJ : Nat → D → Nat
  | 0, _ => 1
  | k + 1, d => 1 + sumN (fun i => sizeJ k (gD (d.f 3).l i)) (d.f 3).l.length
def depthJ : Nat → D → Nat
  | 0, _ => 1
  | k + 1, d => maxN (fun i => depthJ k (gD (d.f 3).l i)) (d.f 3).l.length + 1
def strsL (d : D) : List (List UInt8) := (d.f 4).l.map fun x => x.s.data.toList
/-- a node of a plain value is valid -/
def nodeB (d : D) : Bool :=
  ((d.f 0).n == 1 || (d.f 0).n == 2 || (d.f 1).n == 0) && ((d.f 0).n == 3 || (d.f 0).n == 4 || (d.f 2).s.data.toList == []) &&
  ((d.f 0).n == 6 || (d.f 4).l.length == 0) && ((d.f 0).n == 6 || (d.f 0).n == 5 || (d.f 3).l.length == 0) &&
  decide (0 ≤ (d.f 0).n ∧ (d.f 0).n ≤ 6) && (!((d.f 0).n == 1) || (d.f 1).n == 0 || (d.f 1).n == 1) &&
  (!((d.f 0).n == 4) || enumB (d.f 2).s) && (!((d.f 0).n == 6) || ((d.f 4).l.length == (d.f 3).l.length && decide (strsL d).Nodup))
where enumB (s : ByteArray) : Bool := nameB s && !(s.data.toList == [116, 114, 117, 101]) && !(s.data.toList == [102, 97, 108, 115, 101]) && !(s.data.toList == [110, 117, 108, 108])
def everyB : Nat → D → Bool
  | 0, _ => false
  | k + 1, d => nodeB d && (List.range (d.f 3).l.length).all fun i => everyB k (gD (d.f 3).l i)
/-- strings in the place of enumeration values -/
def strsJ : Nat → D → D
  | 0, d => d
  | k + 1, d => vD (if (d.f 0).n = 4 then 3 else (d.f 0).n) (d.f 1).n (d.f 2).s.data.toList ((List.range (d.f 3).l.length).map fun i => strsJ k (gD (d.f 3).l i)) (keysD (strsL d))
/-- its integers are ints -/
def intsJ : Nat → D → Prop
  | 0, _ => True
  | k + 1, d => (-9223372036854775808 ≤ (d.f 1).n ∧ (d.f 1).n ≤ 9223372036854775807) ∧ ∀ i, i < (d.f 3).l.length → intsJ k (gD (d.f 3).l i)
structure NodeOk (d : D) : Prop where
  num : (d.f 0).n ≠ 1 → (d.f 0).n ≠ 2 → (d.f 1).n = 0
  word : (d.f 0).n ≠ 3 → (d.f 0).n ≠ 4 → (d.f 2).s.data.toList = []
  keys : (d.f 0).n ≠ 6 → (d.f 4).l = []
  items : (d.f 0).n ≠ 6 → (d.f 0).n ≠ 5 → (d.f 3).l = []
  kind : 0 ≤ (d.f 0).n ∧ (d.f 0).n ≤ 6
  bool : (d.f 0).n = 1 → (d.f 1).n = 0 ∨ (d.f 1).n = 1
  obj : (d.f 0).n = 6 → (d.f 4).l.length = (d.f 3).l.length ∧ (strsL d).Nodup
end Go.Proofs.YtdklhkdlndlgnaaGreatDoor
namespace Go.Proofs.YtdklhkdlndlgnaaGreatDoor
/-- what is read of a text, and of the text with spaces behind it -/
def Ex {α β : Type} (h : α → β → Prop) : Except JE α → Except JE β → Prop
  | .ok a, .ok b => h a b
  | .error (l, e), .error (l', e') => e' = e ∧ (l' = l + 2 ∨ (l = 0 ∧ l' = 0))
  | _, _ => False
theorem Ex.bind {α β γ δ : Type} {h : α → β → Prop} {g : γ → δ → Prop} {x : Except JE α} {y : Except JE β} {f : α → Except JE γ} {f' : β → Except JE δ} (hx : Ex h x y) (hf : ∀ a b, h a b → x = .ok a → Ex g (f a) (f' b)) : Ex g (x.bind f) (y.bind f') := by
  cases x with
  | error e =>
    cases y with
    | error e' => exact hx
    | ok b => obtain ⟨_, _⟩ := e; exact hx.elim
  | ok a =>
    cases y with
    | error e' => exact hx.elim
    | ok b => exact hf a b hx rfl
theorem Ex.err {α β : Type} {h : α → β → Prop} (l : Nat) (e : Int) : Ex h (.error (l, e) : Except JE α) (.error (l + 2, e) : Except JE β) := ⟨rfl, .inl rfl⟩
end Go.Proofs.YtdklhkdlndlgnaaGreatDoor
namespace Go.Proofs.YtdklhkdlndlgnaaGreatDoor
def wtJ : Nat → D → Nat
  | 0, _ => 0
  | k + 1, d => 1 + (d.f 2).s.size + ((d.f 4).l.map fun x => 1 + x.s.size).sum + ((d.f 3).l.map fun x => wtJ k x).sum
structure Gd (k : Nat) (d : D) : Prop where
  every : everyB k d = true
  strs : strsJ k d = d
  ints : intsJ k d
theorem range_gD (g : D → Nat) (l : List D) : (List.range l.length).map (fun i => g (gD l i)) = l.map g := by
  apply List.ext_getElem
  · simp
  · intro i h1 h2
    have : i < l.length := by simpa using h2
    simp [gD_get this]
theorem sum_gD (g : D → Nat) (l : List D) : sumN (fun i => g (gD l i)) l.length = (l.map g).sum := by
  unfold sumN; rw [range_gD]
def Er {α : Type} (n : Nat) : Except JE α → Prop
  | .ok _ => True
  | .error (l, e) => l ≤ n ∧ e ≠ 0
theorem Er.bind {α β : Type} {n : Nat} {x : Except JE α} {f : α → Except JE β} (h : Er n x) (hf : ∀ a, x = .ok a → Er n (f a)) : Er n (x.bind f) := by
  cases x with
  | error e => exact h
  | ok a => exact hf a rfl
theorem Er.mono {α : Type} {n n' : Nat} {x : Except JE α} (h : Er n x) (hn : n ≤ n') : Er n' x := by
  cases x with
  | error e => exact ⟨Nat.le_trans h.1 hn, h.2⟩
  | ok a => trivial
end Go.Proofs.YtdklhkdlndlgnaaGreatDoor
namespace Go.Proofs.YtdklhkdlndlgnaaGreatDoor
open Go.RowKit
attribute [local irreducible] wpList Calls Code.wp
section
variable {X : Cx} {nn : Nat} {st : Vst nn} {o : Oper} {ops : Array Oper} {l : List Oper} {dst : Option Tmp} {KK : Vst nn → Prop}
set_option maxRecDepth 100000 in
theorem s_max {k : IntKind} {a b : Int} {x y : Operand} {ts : Array TypeId} (hg : o.guard = none) (ho : o.op = .call { callee := .builtin .max, args := #[x, y], argTypes := ts }) (hd : o.dst = dst) (hx : ev st x = .c (.int k a)) (hy : ev st y = .c (.int k b)) (hK : AWo X ops l (st.put dst (.c (.int k (if a < b then b else a)))) KK) : AWo X ops (o :: l) st KK := by
  refine awo_cons hg ?_
  intro s w a' hI N Q hP hN
  have r1 := hI.ev x
  have r2 := hI.ev y
  rw [hx, rel] at r1
  rw [hy, rel] at r2
  have h1 : (execOp a'.eval o).run X.P w = .ok (.value (.int k (if a < b then b else a))) w := by
    simp [execOp, ho, resolve, invoke, builtin, Builtin.max_, Builtin.max2, r1.1, r2.1]
  unfold Oper.wp
  rw [h1, Oper.upon_value]
  refine hN _ _ _ _ (hI.put o.dst ?_) (by rw [hd]; exact hK)
  rw [rel]
  refine ⟨rfl, ?_⟩
  split
  · exact r2.2
  · exact r1.2
end
attribute [local irreducible] AW AWo OpOk seqK blockK scopeK loopK endK endKB AC ACB absLex absLexG Yld YldG Sub
/-- no deeper than k -/
def Dp : Nat → D → Prop
  | 0, _ => False
  | k + 1, d => ∀ i, i < (d.f 3).l.length → Dp k (gD (d.f 3).l i)
set_option maxRecDepth 100000 in
theorem sumN_le {g : Nat → Nat} : ∀ {i n : Nat}, i ≤ n → sumN g i ≤ sumN g n
  | i, 0, h => by rw [show i = 0 by omega]; exact Nat.le_refl _
  | i, n + 1, h => by
    by_cases e : i = n + 1
    · rw [e]; exact Nat.le_refl _
    · rw [sumN_succ]; exact Nat.le_trans (sumN_le (show i ≤ n by omega)) (Nat.le_add_right _ _)
set_option maxRecDepth 100000 in
theorem sumN_mono {g g' : Nat → Nat} : ∀ {n : Nat}, (∀ i, i < n → g i ≤ g' i) → sumN g n ≤ sumN g' n
  | 0, _ => Nat.le_refl _
  | n + 1, h => by
    have := sumN_mono (n := n) fun i hi => h i (by omega)
    have := h n (by omega)
    rw [sumN_succ, sumN_succ]; omega
def kwD (l : List D) : Nat := (l.map fun x => 1 + x.s.size).sum
set_option maxRecDepth 100000 in
theorem wt_eq (k : Nat) (d : D) : wtJ (k + 1) d = 1 + (d.f 2).s.size + kwD (d.f 4).l + sumN (fun i => wtJ k (gD (d.f 3).l i)) (d.f 3).l.length := by
  show 1 + (d.f 2).s.size + kwD (d.f 4).l + ((d.f 3).l.map fun x => wtJ k x).sum = _
  rw [sum_gD]
set_option maxRecDepth 100000 in
theorem wt_pos : ∀ {k : Nat} {d : D}, Dp k d → 1 ≤ wtJ k d
  | 0, _, h => h.elim
  | k + 1, d, h => by rw [wt_eq]; omega
set_option maxRecDepth 100000 in
theorem kw_len (l : List D) : l.length ≤ kwD l := by
  unfold kwD
  induction l with
  | nil => simp
  | cons x l ih => simp only [List.map_cons, List.sum_cons, List.length_cons]; omega
set_option maxRecDepth 100000 in
theorem sumN_pos {g : Nat → Nat} : ∀ {n : Nat}, (∀ i, i < n → 1 ≤ g i) → n ≤ sumN g n
  | 0, _ => Nat.zero_le _
  | n + 1, h => by
    have := sumN_pos (n := n) fun i hi => h i (by omega)
    have := h n (by omega)
    rw [sumN_succ]; omega
structure WtIn (k : Nat) (d : D) (B : Nat) : Prop where
  text : (d.f 2).s.size + 1 ≤ B
  keys : (d.f 4).l.length + 1 ≤ B
  items : (d.f 3).l.length + 1 ≤ B
  at_ : ∀ i, i < (d.f 3).l.length → wtJ k (gD (d.f 3).l i) ≤ B
  key : ∀ i, i < (d.f 4).l.length → (gD (d.f 4).l i).s.size ≤ B
set_option maxRecDepth 100000 in
theorem le_sumL {l : List Nat} {a : Nat} (h : a ∈ l) : a ≤ l.sum := by
  induction l with
  | nil => cases h
  | cons b l ih =>
    rw [List.sum_cons]
    rcases List.mem_cons.1 h with rfl | h
    · omega
    · have := ih h; omega
set_option maxRecDepth 100000 in
theorem kw_at {l : List D} {i : Nat} (h : i < l.length) : (gD l i).s.size ≤ kwD l := by
  unfold kwD
  have h1 : 1 + (gD l i).s.size ≤ (l.map fun x => 1 + x.s.size).sum := le_sumL (List.mem_map_of_mem (gD_mem h))
  omega
set_option maxRecDepth 100000 in
theorem wt_in {k : Nat} {d : D} (h : Dp (k + 1) d) {B : Nat} (hB : wtJ (k + 1) d ≤ B) : WtIn k d B := by
  rw [wt_eq] at hB
  have h1 := kw_len (d.f 4).l
  have h2 : (d.f 3).l.length ≤ sumN (fun i => wtJ k (gD (d.f 3).l i)) (d.f 3).l.length := sumN_pos fun i hi => wt_pos (h i hi)
  refine ⟨by omega, by omega, by omega, fun i hi => ?_, fun i hi => by have := kw_at hi; omega⟩
  have h3 := sumN_le (g := fun i => wtJ k (gD (d.f 3).l i)) (show i + 1 ≤ (d.f 3).l.length from hi)
  rw [sumN_succ] at h3
  omega
set_option maxRecDepth 100000 in
theorem size_wt : ∀ {k : Nat} {d : D}, Dp k d → sizeJ k d ≤ wtJ k d
  | 0, _, h => h.elim
  | k + 1, d, h => by
    rw [wt_eq]
    have := sumN_mono (g := fun i => sizeJ k (gD (d.f 3).l i)) (g' := fun i => wtJ k (gD (d.f 3).l i)) (n := (d.f 3).l.length) fun i hi => size_wt (h i hi)
    show 1 + sumN (fun i => sizeJ k (gD (d.f 3).l i)) (d.f 3).l.length ≤ _
    omega
set_option maxRecDepth 100000 in
theorem lt_b {i n : Nat} (h : decide ((i : Int) < (n : Int)) = true) : i < n := by simpa using h
set_option maxRecDepth 100000 in
theorem ge_b {i n : Nat} (h : decide ((i : Int) < (n : Int)) = false) : n ≤ i := by simpa using h
set_option maxRecDepth 100000 in
theorem ixn_ok {i n : Nat} (h : i < n) : 0 ≤ (i : Int) ∧ (i : Int) < (n : Int) := ⟨by omega, by omega⟩
set_option maxRecDepth 100000 in
theorem maxN_le {g : Nat → Nat} {B : Nat} : ∀ {n : Nat}, (∀ i, i < n → g i ≤ B) → maxN g n ≤ B
  | 0, _ => Nat.zero_le _
  | n + 1, h => by
    rw [maxN_succ]
    exact Nat.max_le.2 ⟨maxN_le fun i hi => h i (by omega), h n (by omega)⟩
set_option maxRecDepth 100000 in
theorem depth_wt : ∀ {k : Nat} {d : D}, Dp k d → depthJ k d ≤ wtJ k d
  | 0, _, h => h.elim
  | k + 1, d, h => by
    rw [wt_eq]
    have h1 : maxN (fun i => depthJ k (gD (d.f 3).l i)) (d.f 3).l.length ≤ sumN (fun i => wtJ k (gD (d.f 3).l i)) (d.f 3).l.length := maxN_le fun i hi => by
      have h2 := depth_wt (h i hi)
      have h3 := sumN_le (g := fun i => wtJ k (gD (d.f 3).l i)) (show i + 1 ≤ (d.f 3).l.length from hi)
      rw [sumN_succ] at h3
      exact Nat.le_trans h2 (Nat.le_trans (Nat.le_add_left _ _) h3)
    show maxN (fun i => depthJ k (gD (d.f 3).l i)) (d.f 3).l.length + 1 ≤ _
    omega
set_option maxRecDepth 100000 in
theorem max_i (a b : Nat) : (if (a : Int) < (b : Int) then (b : Int) else (a : Int)) = ((max a b : Nat) : Int) := by
  split <;> omega
set_option maxRecDepth 100000 in
theorem map_le {g g' : D → Nat} : ∀ {l : List D}, (∀ i, i < l.length → g (gD l i) ≤ g' (gD l i)) → (l.map g).sum ≤ (l.map g').sum := by
  intro l h
  rw [← sum_gD, ← sum_gD]
  exact sumN_mono h
set_option maxRecDepth 100000 in
theorem map_sum_at {g : D → Nat} {l : List D} {x : D} (h : x ∈ l) : g x ≤ (l.map g).sum := by
  induction l with
  | nil => cases h
  | cons y l ih =>
    rw [List.map_cons, List.sum_cons]
    rcases List.mem_cons.1 h with rfl | h
    · omega
    · have := ih h; omega
end Go.Proofs.YtdklhkdlndlgnaaGreatDoor
namespace Go.Proofs.YtdklhkdlndlgnaaGreatDoor
open Go.RowKit
attribute [local irreducible] wpList Calls Code.wp
mutual
/-- how many values and letters a datum holds -/
def bulkD : D → Nat
  | .int _ => 1
  | .bool _ => 1
  | .str s => s.size + 1
  | .list l => bulkL l + 1
  | .obj l => bulkL l + 1
def bulkL : List D → Nat
  | [] => 0
  | d :: r => bulkD d + bulkL r
 end
/-- the datum has a type's shape -/
def Fits (P : Program) : Nat → TypeId → D → Prop
  | 0, _, _ => False
  | k + 1, t, d =>
    match P.underlying t with
    | some .bool => ∃ b, d = .bool b
    | some (.int _) => ∃ n, d = .int n
    | some .string => ∃ s, d = .str s
    | some (.slice e) => ∃ l, d = .list l ∧ ∀ i, i < l.length → Fits P k e (gD l i)
    | some (.struct fs) => ∃ l, d = .obj l ∧ l.length = fs.size ∧ ∀ j f, fs[j]? = some f → Fits P k f.type (gD l j)
    | _ => True
theorem Fits.up {P : Program} : ∀ {k : Nat} {t : TypeId} {d : D}, Fits P k t d → Fits P (k + 1) t d
  | 0, _, _, h => h.elim
  | k + 1, t, d, h => by
    unfold Fits at h ⊢
    split at h
    · exact h
    · exact h
    · exact h
    · obtain ⟨l, h1, h2⟩ := h
      exact ⟨l, h1, fun i hi => Fits.up (h2 i hi)⟩
    · obtain ⟨l, h1, h2, h3⟩ := h
      exact ⟨l, h1, h2, fun j f hf => Fits.up (h3 j f hf)⟩
    · trivial
theorem bulk_pos {H : Type} (d : DataW H) : 1 ≤ Rows.uptoBulk d := by
  cases d with
  | lit x => cases x <;> simp [Rows.uptoBulk]
  | _ => simp [Rows.uptoBulk]
theorem bulk_lists {H : Type} : ∀ (l : List D) (xs : List (DataW H × List MemPlace)), l.length = xs.length → (∀ i (h : i < xs.length), bulkD (gD l i) ≤ Rows.uptoBulk (xs[i]'h).1) → bulkL l ≤ Rows.uptoBulkAll (xs.map (·.1))
  | [], _, _, _ => by simp [bulkL]
  | d :: r, [], h, _ => by simp at h
  | d :: r, x :: xs, h, hb => by
    have h0 := hb 0 (by simp)
    have h1 := bulk_lists r xs (by simpa using h) fun i hi => by
      have := hb (i + 1) (by simpa using hi)
      simpa [gD] using this
    simp only [List.map_cons, Rows.uptoBulkAll, bulkL]
    have e : gD (d :: r) 0 = d := rfl
    rw [e] at h0
    have e2 : (((x :: xs)[0]'(by simp)).1) = x.1 := rfl
    rw [e2] at h0
    omega
theorem rep_of_trod2 {P : Program} {w : World} {H : Type} {enc : TypeId × Value → H} {held : Bool} {sp : Nat → Bool} : ∀ {k : Nat} {t : TypeId} {cs : List Value} {x : DataW H × List MemPlace},
    DataW.trod enc P w 0 sp held k t cs = some x → ∃ d, Rep P w (fun b => b < w.heap.size) k t cs d ∧ Fits P k t d ∧ bulkD d ≤ Rows.uptoBulk x.1
  | 0, t, cs, x, h => by simp [DataW.trod] at h
  | k + 1, t, cs, x, h => by
    have hpos := bulk_pos x.1
    cases hu : P.underlying t with
    | none => exact ⟨default, by unfold Rep; rw [hu]; trivial, by unfold Fits; rw [hu]; trivial, by show bulkD (.obj []) ≤ _; simpa [bulkD, bulkL] using hpos⟩
    | some ty =>
      cases ty
      case bool =>
        obtain ⟨b, rfl, _⟩ := DataW.trod_bool hu h
        exact ⟨.bool b, .mk_bool hu, by unfold Fits; rw [hu]; exact ⟨b, rfl⟩, by simpa [bulkD] using hpos⟩
      case int q =>
        obtain ⟨n, rfl, _, hw⟩ := DataW.trod_int hu h
        exact ⟨.int n, .mk_int hu hw, by unfold Fits; rw [hu]; exact ⟨n, rfl⟩, by simpa [bulkD] using hpos⟩
      case string =>
        obtain ⟨s, rfl, hx, hs⟩ := DataW.trod_string hu h
        refine ⟨.str s, .mk_str hu hs, by unfold Fits; rw [hu]; exact ⟨s, rfl⟩, ?_⟩
        rw [hx]
        simp [bulkD, Rows.uptoBulk]
      case slice e =>
        rcases DataW.trod_slice hu h with ⟨rfl, _⟩ | ⟨a, len, cap, elems, rest, n, hk, rfl, hx, _, hle, hcm, hlen, hel, _⟩
        · exact ⟨.list [], .mk_slice hu rfl (by simp) (by simp [maxLen]) (fun _ => rfl) (Sl.nil _ _ _), by unfold Fits; rw [hu]; exact ⟨[], rfl, fun i hi => by simp at hi⟩, by simpa [bulkD, bulkL] using hpos⟩
        · obtain rfl : n = k := by omega
          have hx2 : ∀ i, i < len → ∃ d, (∃ ys, w.cells? 0 (a.add (i * P.cellsOf e)) (P.cellsOf e) = some ys ∧ Rep P w (fun b => b < w.heap.size) n e ys d) ∧ Fits P n e d ∧ ∀ h : i < elems.length, bulkD d ≤ Rows.uptoBulk (elems[i]'h).1 := fun i hi => by
            have h1 := hel i hi
            rw [List.getElem?_eq_getElem (by omega)] at h1
            obtain ⟨ys, y1, y2⟩ := Option.bind_eq_some_iff.1 h1
            obtain ⟨d, hd, hd2, hd3⟩ := rep_of_trod2 y2
            exact ⟨d, ⟨ys, y1, hd⟩, hd2, fun _ => hd3⟩
          obtain ⟨l, hll, hl⟩ := choose_list hx2
          refine ⟨.list l, .mk_slice hu hll.symm (by omega) hcm (fun h => by cases h) ?_, by unfold Fits; rw [hu]; exact ⟨l, rfl, fun i hi => (hl i (by omega)).2.1⟩, ?_⟩
          · intro h0 hc
            obtain ⟨b, off, spot⟩ := a
            obtain ⟨⟨ys, y1, _⟩, _⟩ := hl 0 (by omega)
            obtain ⟨_, y3, y4⟩ := World.cells?_some y1
            have y5 := y4 0 hc
            rw [List.getElem?_eq_getElem (by omega)] at y5
            have hspot : spot = none := by simpa [Addr.add] using World.cell?_spot y5
            subst hspot
            have hbl : b < w.heap.size := by simpa [Addr.add] using block_lt_of_cell y5
            refine ⟨b, off, rfl, hbl, fun i hi => ?_⟩
            obtain ⟨⟨ys, y1, y2⟩, _⟩ := hl i (by omega)
            obtain ⟨_, y3, y4⟩ := World.cells?_some y1
            refine ⟨ys, y3, fun j u hu => ?_, y2⟩
            have hj : j < P.cellsOf e := by have := (List.getElem?_eq_some_iff.1 hu).1; omega
            have := y4 j hj
            rw [Go.WideShapes.add_plain, Go.WideShapes.add_plain, hu] at this
            exact this
          · have := bulk_lists l elems (by omega) fun i hi => (hl i (by omega)).2.2 hi
            rw [hx]
            simp only [bulkD, Rows.uptoBulk]
            omega
      case struct fs =>
        obtain ⟨xs, n, hk, hx, hcs, hxs, hf⟩ := DataW.trod_struct hu h
        obtain rfl : n = k := by omega
        have hx2 : ∀ j, j < fs.size → ∃ d, (∀ f, fs[j]? = some f → Rep P w (fun b => b < w.heap.size) n f.type ((cs.drop f.offset).take (P.cellsOf f.type)) d ∧ Fits P n f.type d) ∧ ∀ h : j < xs.length, bulkD d ≤ Rows.uptoBulk (xs[j]'h).1 := fun j hj => by
          have h1 := hf j fs[j] (Array.getElem?_eq_getElem hj)
          rw [List.getElem?_eq_getElem (by omega)] at h1
          obtain ⟨d, hd, hd2, hd3⟩ := rep_of_trod2 h1
          refine ⟨d, fun f hf => ?_, fun _ => hd3⟩
          rw [Array.getElem?_eq_getElem hj] at hf
          cases hf; exact ⟨hd, hd2⟩
        obtain ⟨l, hll, hl⟩ := choose_list hx2
        refine ⟨.obj l, .mk_struct hu hcs fun j f hjf => ((hl j (Array.getElem?_eq_some_iff.1 hjf).1).1 f hjf).1, by unfold Fits; rw [hu]; exact ⟨l, rfl, hll, fun j f hjf => ((hl j (Array.getElem?_eq_some_iff.1 hjf).1).1 f hjf).2⟩, ?_⟩
        have := bulk_lists l xs (by omega) fun i hi => (hl i (by omega)).2 hi
        rw [hx]
        simp only [bulkD, Rows.uptoBulk]
        omega
      all_goals exact ⟨default, by unfold Rep; rw [hu]; trivial, by unfold Fits; rw [hu]; trivial, by show bulkD (.obj []) ≤ _; simpa [bulkD, bulkL] using hpos⟩
end Go.Proofs.YtdklhkdlndlgnaaGreatDoor
namespace Go.Proofs.YtdklhkdlndlgnaaGreatDoor
def strV5 (s : ByteArray) : D := .obj [.int 3, .int 0, .str s, .list [], .list []]
def lstV5 (l : List D) : D := .obj [.int 5, .int 0, .str ⟨#[]⟩, .list l, .list []]
def objV5 (ks vs : List D) : D := .obj [.int 6, .int 0, .str ⟨#[]⟩, .list vs, .list ks]
def kData : D := .str ⟨#[100, 97, 116, 97]⟩
def kErrors : D := .str ⟨#[101, 114, 114, 111, 114, 115]⟩
def kMessage : D := .str ⟨#[109, 101, 115, 115, 97, 103, 101]⟩
def kPath : D := .str ⟨#[112, 97, 116, 104]⟩
/-- a problem, as an object -/
def probD (p : D) : D := objV5 [kMessage, kPath] [strV5 (p.f 1).s, lstV5 (p.f 0).l]
/-- a response, as an object -/
def respD (data : D) (l : List D) : D := if l = [] then objV5 [kData] [data] else objV5 [kData, kErrors] [data, lstV5 (l.map probD)]
/-- a value no deeper than k, whose integers are ints -/
def VK (k : Nat) (d : D) : Prop := Dp k d ∧ intsJ k d
theorem VK.up : ∀ {k : Nat} {d : D}, VK k d → VK (k + 1) d
  | 0, _, h => h.1.elim
  | k + 1, d, h => ⟨fun i hi => (VK.up (k := k) ⟨h.1 i hi, h.2.2 i hi⟩).1, h.2.1, fun i hi => (VK.up (k := k) ⟨h.1 i hi, h.2.2 i hi⟩).2⟩
theorem map_sum_eq {f g : D → Nat} : ∀ {l : List D}, (∀ i, i < l.length → f (gD l i) = g (gD l i)) → (l.map f).sum = (l.map g).sum
  | [], _ => rfl
  | x :: l, h => by
    have h0 : f x = g x := h 0 (by simp)
    have h1 := map_sum_eq (f := f) (g := g) (l := l) fun i hi => h (i + 1) (by simpa using hi)
    simp only [List.map_cons, List.sum_cons, h0, h1]
theorem wt_up : ∀ {k : Nat} {d : D}, Dp k d → wtJ (k + 1) d = wtJ k d
  | 0, _, h => h.elim
  | k + 1, d, h => by
    show 1 + (d.f 2).s.size + ((d.f 4).l.map fun x => 1 + x.s.size).sum + ((d.f 3).l.map fun x => wtJ (k + 1) x).sum = 1 + (d.f 2).s.size + ((d.f 4).l.map fun x => 1 + x.s.size).sum + ((d.f 3).l.map fun x => wtJ k x).sum
    rw [map_sum_eq fun i hi => wt_up (h i hi)]
theorem VK.leaf {k : Nat} (s : ByteArray) : VK (k + 1) (strV5 s) := ⟨fun i hi => absurd hi (Nat.not_lt_zero i), (⟨by decide, by decide⟩ : (-9223372036854775808 : Int) ≤ 0 ∧ (0 : Int) ≤ 9223372036854775807), fun i hi => absurd hi (Nat.not_lt_zero i)⟩
theorem VK.lst {k : Nat} {l : List D} (h : ∀ i, i < l.length → VK k (gD l i)) : VK (k + 1) (lstV5 l) := ⟨fun i hi => (h i hi).1, (⟨by decide, by decide⟩ : (-9223372036854775808 : Int) ≤ 0 ∧ (0 : Int) ≤ 9223372036854775807), fun i hi => (h i hi).2⟩
theorem VK.obj {k : Nat} {ks l : List D} (h : ∀ i, i < l.length → VK k (gD l i)) : VK (k + 1) (objV5 ks l) := ⟨fun i hi => (h i hi).1, (⟨by decide, by decide⟩ : (-9223372036854775808 : Int) ≤ 0 ∧ (0 : Int) ≤ 9223372036854775807), fun i hi => (h i hi).2⟩
theorem two_in {p : D → Prop} {a b : D} (ha : p a) (hb : p b) : ∀ i, i < [a, b].length → p (gD [a, b] i)
  | 0, _ => ha
  | 1, _ => hb
  | i + 2, h => by simp at h; omega
theorem one_in {p : D → Prop} {a : D} (ha : p a) : ∀ i, i < [a].length → p (gD [a] i)
  | 0, _ => ha
  | i + 1, h => by simp at h
theorem gD_map {f : D → D} {l : List D} {i : Nat} (h : i < l.length) : gD (l.map f) i = f (gD l i) := by
  rw [gD_get (by simpa using h), gD_get h, List.getElem_map]
/-- what a problem weighs -/
def probW (k : Nat) (p : D) : Nat := 16 + (p.f 1).s.size + ((p.f 0).l.map fun x => wtJ k x).sum
theorem probD_vk {k : Nat} {p : D} (h : ∀ j, j < (p.f 0).l.length → VK k (gD (p.f 0).l j)) : VK (k + 2) (probD p) := VK.obj (two_in (VK.leaf _) (VK.lst h))
theorem probD_wt {k : Nat} {p : D} : wtJ (k + 2) (probD p) = probW k p := by
  show 1 + 0 + (1 + 7 + (1 + 4 + 0)) + ((1 + (p.f 1).s.size + 0 + 0) + ((1 + 0 + 0 + ((p.f 0).l.map fun x => wtJ k x).sum) + 0)) = 16 + (p.f 1).s.size + ((p.f 0).l.map fun x => wtJ k x).sum
  omega
/-- what a reply holds -/
structure RepK (k : Nat) (r : D) : Prop where
  data : VK k (r.f 1)
  path : ∀ i, i < (r.f 2).l.length → ∀ j, j < ((gD (r.f 2).l i).f 0).l.length → VK k (gD ((gD (r.f 2).l i).f 0).l j)
  wt : wtJ k (r.f 1) + ((r.f 2).l.map (probW k)).sum ≤ 6291456
  err : -9223372036854775808 ≤ (r.f 0).n ∧ (r.f 0).n ≤ 9223372036854775807
  age : -9223372036854775808 ≤ ((r.f 3).f 0).n ∧ ((r.f 3).f 0).n ≤ 9223372036854775807
theorem respD_vk {k : Nat} {r : D} (h : RepK k r) : VK (k + 4) (respD (r.f 1) (r.f 2).l) := by
  unfold respD
  split
  · exact VK.obj (one_in h.data.up.up.up)
  · refine VK.obj (two_in h.data.up.up.up (VK.lst fun i hi => ?_))
    rw [List.length_map] at hi
    rw [gD_map hi]
    exact probD_vk (h.path i hi)
theorem respD_wt {k : Nat} {r : D} (h : RepK k r) : wtJ (k + 4) (respD (r.f 1) (r.f 2).l) ≤ 8388608 := by
  have h1 := h.wt
  have hd := h.data
  have e : wtJ (k + 3) (r.f 1) = wtJ k (r.f 1) := by rw [wt_up hd.up.up.1, wt_up hd.up.1, wt_up hd.1]
  unfold respD
  split
  · show 1 + 0 + (1 + 4 + 0) + (wtJ (k + 3) (r.f 1) + 0) ≤ _
    rw [e]; omega
  · have e2 : (((r.f 2).l.map probD).map fun x => wtJ (k + 2) x).sum = ((r.f 2).l.map (probW k)).sum := by
      rw [List.map_map]
      exact map_sum_eq fun i hi => probD_wt
    show 1 + 0 + (1 + 4 + (1 + 6 + 0)) + (wtJ (k + 3) (r.f 1) + ((1 + 0 + 0 + (((r.f 2).l.map probD).map fun x => wtJ (k + 2) x).sum) + 0)) ≤ _
    rw [e, e2]; omega
theorem len_map_sum {f : D → Nat} {c : Nat} : ∀ {l : List D}, (∀ i, i < l.length → c ≤ f (gD l i)) → c * l.length ≤ (l.map f).sum
  | [], _ => by simp
  | x :: l, h => by
    have h0 : c ≤ f x := h 0 (by simp)
    have h1 := len_map_sum (f := f) (c := c) (l := l) fun i hi => h (i + 1) (by simpa using hi)
    simp only [List.map_cons, List.sum_cons, List.length_cons, Nat.mul_add]
    omega
theorem RepK.len {k : Nat} {r : D} (h : RepK k r) : (r.f 2).l.length ≤ 393216 := by
  have h1 := h.wt
  have h2 := len_map_sum (f := probW k) (c := 16) (l := (r.f 2).l) fun i _ => by unfold probW; omega
  omega
theorem RepK.prob {k : Nat} {r : D} (h : RepK k r) {i : Nat} (hi : i < (r.f 2).l.length) : probW k (gD (r.f 2).l i) ≤ 6291456 := by
  have h1 := h.wt
  have h2 := map_sum_at (g := probW k) (gD_mem hi)
  omega
/-- values whose lists can be copied, element by element -/
def CpV : Nat → D → Prop
  | 0, _ => False
  | k + 1, d => (d.f 3).l.length ≤ 1759218604441 ∧ (d.f 4).l.length ≤ 8796093022207 ∧ ∀ i, i < (d.f 3).l.length → CpV k (gD (d.f 3).l i)
theorem cpV_of : ∀ {k : Nat} {d : D}, Dp k d → wtJ k d ≤ 8388608 → CpV k d
  | 0, _, h, _ => h.elim
  | k + 1, d, h, hw => by
    have hin := wt_in h hw
    exact ⟨by have := hin.items; omega, by have := hin.keys; omega, fun i hi => cpV_of (h i hi) (hin.at_ i hi)⟩
theorem path_wt {k : Nat} {p : D} (h : ∀ j, j < (p.f 0).l.length → VK k (gD (p.f 0).l j)) (hw : probW k p ≤ 6291456) : (p.f 0).l.length ≤ 6291456 ∧ (∀ j, j < (p.f 0).l.length → wtJ k (gD (p.f 0).l j) ≤ 6291456) ∧ wtJ (k + 1) (lstV5 (p.f 0).l) ≤ 6291456 := by
  unfold probW at hw
  have h1 := len_map_sum (f := fun x => wtJ k x) (c := 1) (l := (p.f 0).l) fun i hi => wt_pos (h i hi).1
  refine ⟨by omega, fun j hj => ?_, ?_⟩
  · have := map_sum_at (g := fun x => wtJ k x) (gD_mem hj)
    omega
  · show 1 + 0 + 0 + ((p.f 0).l.map fun x => wtJ k x).sum ≤ _
    omega
/-- a hint's header -/
def headS5 (n : Int) (p : Bool) : List UInt8 :=
  if n < 1 then [110, 111, 45, 115, 116, 111, 114, 101] else [109, 97, 120, 45, 97, 103, 101, 61] ++ Lib.itoa n ++ (if p = true then [44, 32, 112, 114, 105, 118, 97, 116, 101] else [44, 32, 112, 117, 98, 108, 105, 99])
/-- the text of a value, if it can be written -/
def jsonS5 (k : Nat) (d : D) : List UInt8 := if okJ k d = true then wrJ k d else []
def bodyS5 (k : Nat) (r : D) : List UInt8 := if ((r.f 1).f 0).n = 0 ∧ (r.f 2).l = [] then [111, 107] else [111, 107] ++ [32] ++ jsonS5 (k + 4) (respD (r.f 1) (r.f 2).l)
def lineS5 (k : Nat) (r : D) : List UInt8 :=
  if (r.f 0).n = 0 then bodyS5 k r ++ (if 0 < ((r.f 3).f 0).n then [32, 104, 105, 110, 116, 32] ++ headS5 ((r.f 3).f 0).n ((r.f 3).f 1).b else [])
  else [101, 114, 114, 111, 114, 32] ++ Lib.itoa (r.f 0).n
end Go.Proofs.YtdklhkdlndlgnaaGreatDoor
namespace Go.Proofs.YtdklhkdlndlgnaaGreatDoor
open Go.RowKit
attribute [local irreducible] wpList Calls Code.wp
attribute [local irreducible] AW AWo OpOk seqK blockK scopeK loopK endK endKB AC ACB absLex absLexG Yld YldG Sub
section
variable {X : Cx} {nn : Nat} {st : Vst nn} {o : Oper} {ops : Array Oper} {l : List Oper} {d : Option Tmp} {KK : Vst nn → Prop}
set_option maxRecDepth 100000 in
/-- a call that writes to a builder -/
theorem s_bcall {f : FuncId} {m : Nat} {vs az : List V} {tb tu : TypeId} {bl bl' : List UInt8} {r : V} (hg : o.guard = none) (hd : o.dst = d) (h : act1 X.P st.rs (ev st) o.op = .call f vs) (hv : vs = .bx m 0 :: az) (hr : st.rs m = some (.bld tb tu bl))
    (hc : ACB X.e X.P f (.bx (pn 0) 0 :: az) [.bld tb tu bl] r [.bld tb tu bl']) (haz : ∀ φ, renL φ az = az) (hrr : ∀ φ, renV φ r = r)
    (hK : AWo X ops l ((st.res m (.bld tb tu bl')).put d r) KK) : AWo X ops (o :: l) st KK := by
  subst hv
  refine s_callB [m] hg hd h hc (by simp) (by simp only [renL, renV, φin_one, haz]) (by simp [hr, renR]) ?_
  have e : ([Res.bld tb tu bl'].map (renR (φout [m]))) = [Res.bld tb tu bl'] := rfl
  rw [e, resN_one, hrr]
  exact hK
set_option maxRecDepth 100000 in
theorem res_res {m : Nat} {a b : Res} : (st.res m a).res m b = st.res m b := by
  unfold Vst.res
  congr 1
  funext q
  unfold updR
  by_cases h : q = m <;> simp [h]
set_option maxRecDepth 100000 in
/-- the first call that writes to a builder -/
theorem s_bcall0 {f : FuncId} {m : Nat} {vs az : List V} {tb tu : TypeId} {bl' : List UInt8} {r : V} (hg : o.guard = none) (hd : o.dst = d) (h0 : act1 X.P st.rs (ev st) o.op = .call f vs) (hv : vs = .bx m 0 :: az) (hr : st.rs m = some (.box tb [.c (.pointer none), .c (.slice none 0 0)]))
    (hc : ACB X.e X.P f (.bx (pn 0) 0 :: az) [.bld tb tu []] r [.bld tb tu bl']) (h : act1 X.P (st.res m (.bld tb tu [])).rs (ev (st.res m (.bld tb tu []))) o.op = .call f vs) (haz : ∀ φ, renL φ az = az) (hrr : ∀ φ, renV φ r = r)
    (hK : AWo X ops l ((st.res m (.bld tb tu bl')).put d r) KK) : AWo X ops (o :: l) st KK := by
  refine awo_sub (Sub.bld (e := tu) hr) ?_
  refine s_bcall hg hd h hv (by simp [Vst.res, updR]) hc haz hrr ?_
  rw [res_res]
  exact hK
set_option maxRecDepth 100000 in
/-- what a builder holds -/
theorem s_bs {m : Nat} {vs : List V} {tb tu : TypeId} {bl : List UInt8} (hg : o.guard = none) (hd : o.dst = d) (h : act1 X.P st.rs (ev st) o.op = .call 27 vs) (hv : vs = [.bx m 0]) (hr : st.rs m = some (.bld tb tu bl)) (ht : tb = 64 ∧ tu = 5) (hP : X.P = Tryz.prog)
    (hK : AWo X ops l (st.put d (.c (.string ⟨bl.toArray⟩))) KK) (hlen : bl.length ≤ maxLen) : AWo X ops (o :: l) st KK := by
  obtain ⟨rfl, rfl⟩ := ht
  have hc := string_acb (e := X.e) bl hlen
  rw [← hP] at hc
  refine s_bcall hg hd h hv hr hc (fun _ => rfl) (fun _ => rfl) ?_
  rw [res_same hr]
  exact hK
end
set_option maxRecDepth 100000 in
theorem seqP_len {h : Nat → List UInt8} {f : Nat → Bool × List UInt8} {g : Nat → Nat} : ∀ {n : Nat}, (∀ i, i < n → (h i).length + (f i).2.length ≤ g i) → (seqP h f n).2.length ≤ sumN g n
  | 0, _ => Nat.le_refl _
  | n + 1, hh => by
    have h1 := seqP_len (h := h) (f := f) (n := n) fun i hi => hh i (by omega)
    have h2 := hh n (by omega)
    rw [sumN_succ]
    by_cases e : (seqP h f n).1 = true
    · rw [seqP_go e, List.length_append, List.length_append]; omega
    · rw [seqP, if_neg e]; omega
set_option maxRecDepth 100000 in
theorem quoteU_length (l : List UInt8) : (quoteU l).length ≤ 6 * l.length + 2 := by
  have := escL_length l
  simp only [quoteU, List.length_append, List.length_cons, List.length_nil]; omega
set_option maxRecDepth 100000 in
theorem itoa_length {n : Int} (h0 : -9223372036854775808 ≤ n) (h1 : n ≤ 9223372036854775807) : (Lib.itoa n).length ≤ 21 := by
  unfold Lib.itoa
  split
  · have := dec_len (u := n.natAbs) (by omega)
    simp only [List.length_cons]; omega
  · have := dec_len (u := n.toNat) (by omega)
    omega
set_option maxRecDepth 100000 in
theorem leafU_len (d : D) (hi : -9223372036854775808 ≤ (d.f 1).n ∧ (d.f 1).n ≤ 9223372036854775807) : (leafU d).length + 1 ≤ 32 * (1 + (d.f 2).s.size) := by
  unfold leafU
  split
  · simp; omega
  split
  · split <;> simp <;> omega
  split
  · have := itoa_length hi.1 hi.2
    omega
  · have := quoteU_length (d.f 2).s.data.toList
    have e : (d.f 2).s.data.toList.length = (d.f 2).s.size := rfl
    omega
set_option maxRecDepth 100000 in
theorem sepU_len (d : D) (i : Nat) : (sepU d i).length ≤ 1 + (if (d.f 0).n = 6 then 6 * (keyU d i).length + 3 else 0) := by
  unfold sepU
  rw [List.length_append]
  have h1 : (if 0 < i then [(44 : UInt8)] else []).length ≤ 1 := by split <;> simp
  have := quoteU_length (keyU d i)
  by_cases h6 : (d.f 0).n = 6
  · rw [if_pos h6, if_pos h6, List.length_append]; simp only [List.length_cons, List.length_nil]; omega
  · rw [if_neg h6, if_neg h6]; simp only [List.length_nil]; omega
set_option maxRecDepth 100000 in
theorem kw_sum (l : List D) : kwD l = sumN (fun i => 1 + (gD l i).s.size) l.length := by
  unfold kwD; rw [← sum_gD]
set_option maxRecDepth 100000 in
theorem sumN_add (g g' : Nat → Nat) : ∀ n, sumN (fun i => g i + g' i) n = sumN g n + sumN g' n
  | 0 => rfl
  | n + 1 => by rw [sumN_succ, sumN_succ, sumN_succ, sumN_add g g' n]; omega
set_option maxRecDepth 100000 in
theorem sumN_mul (c : Nat) (g : Nat → Nat) : ∀ n, sumN (fun i => c * g i) n = c * sumN g n
  | 0 => rfl
  | n + 1 => by rw [sumN_succ, sumN_succ, sumN_mul c g n, Nat.mul_add]
set_option maxRecDepth 100000 in
theorem keyU_len (d : D) (i : Nat) : (keyU d i).length = (gD (d.f 4).l i).s.size := rfl
/-- room for element i -/
def gW (k : Nat) (d : D) (i : Nat) : Nat := 32 * wtJ k (gD (d.f 3).l i) + (if (d.f 0).n = 6 then 32 * (1 + (gD (d.f 4).l i).s.size) else 0)
set_option maxRecDepth 100000 in
theorem gW_sum {k : Nat} {d : D} (h6 : (d.f 0).n = 6 → (d.f 4).l.length = (d.f 3).l.length) : sumN (gW k d) (d.f 3).l.length ≤ 32 * (kwD (d.f 4).l + sumN (fun i => wtJ k (gD (d.f 3).l i)) (d.f 3).l.length) := by
  by_cases e6 : (d.f 0).n = 6
  · have : gW k d = fun i => 32 * wtJ k (gD (d.f 3).l i) + 32 * (1 + (gD (d.f 4).l i).s.size) := by funext i; unfold gW; rw [if_pos e6]
    rw [this, sumN_add, sumN_mul, sumN_mul, kw_sum, h6 e6]
    omega
  · have : gW k d = fun i => 32 * wtJ k (gD (d.f 3).l i) := by funext i; unfold gW; rw [if_neg e6]; rfl
    rw [this, sumN_mul]
    omega
set_option maxRecDepth 100000 in
theorem sep_gW (k : Nat) (d : D) (i : Nat) : (sepU d i).length + 32 * wtJ k (gD (d.f 3).l i) ≤ gW k d i + 1 := by
  have h1 := sepU_len d i
  rw [keyU_len] at h1
  unfold gW
  by_cases e6 : (d.f 0).n = 6
  · rw [if_pos e6] at h1 ⊢; omega
  · rw [if_neg e6] at h1 ⊢; omega
set_option maxRecDepth 100000 in
/-- what is written is short -/
theorem prP_len : ∀ {k : Nat} {d : D}, Dp k d → intsJ k d → (prP k d).2.length + 1 ≤ 32 * wtJ k d
  | 0, _, h, _ => h.elim
  | k + 1, d, h, hi => by
    rw [wt_eq]
    have hlen : ∀ i, i < (d.f 3).l.length → (prP k (gD (d.f 3).l i)).2.length + 1 ≤ 32 * wtJ k (gD (d.f 3).l i) := fun i hil => prP_len (h i hil) (hi.2 i hil)
    unfold prP
    split
    · simp only [List.length_nil]; omega
    split
    · have := leafU_len d hi.1
      dsimp only
      omega
    split
    · simp only [List.length_nil]; omega
    rename_i h0 h4 h6
    have hy : (seqP (sepU d) (fun i => prP k (gD (d.f 3).l i)) (d.f 3).l.length).2.length ≤ 32 * (kwD (d.f 4).l + sumN (fun i => wtJ k (gD (d.f 3).l i)) (d.f 3).l.length) := by
      refine Nat.le_trans (seqP_len (g := gW k d) fun i hil => ?_) (gW_sum fun e6 => ?_)
      · have h1 := sep_gW k d i
        have h2 := hlen i hil
        omega
      · by_cases hh : (d.f 4).l.length = (d.f 3).l.length
        · exact hh
        · exact (h6 ⟨e6, hh⟩).elim
    dsimp only
    have e1 : (if (d.f 0).n = 6 then [(123 : UInt8)] else [91]).length = 1 := by split <;> rfl
    have e2 : (if (d.f 0).n = 6 then [(125 : UInt8)] else [93]).length = 1 := by split <;> rfl
    split
    · dsimp only
      rw [List.length_append, List.length_append, e1, e2]; omega
    · dsimp only
      rw [List.length_append, e1]; omega
def pq (k : Nat) (d : D) (i : Nat) : Bool × List UInt8 := seqP (sepU d) (fun i => prP k (gD (d.f 3).l i)) i
set_option maxRecDepth 100000 in
theorem pr_list {k : Nat} {d : D} (h : (d.f 0).n = 5) : prP (k + 1) d = if (pq k d (d.f 3).l.length).1 = true then (true, [91] ++ (pq k d (d.f 3).l.length).2 ++ [93]) else (false, [91] ++ (pq k d (d.f 3).l.length).2) := by
  unfold prP
  rw [if_neg (by omega), if_neg (by omega), if_neg (by omega)]
  dsimp only
  rw [if_neg (show ¬ (d.f 0).n = 6 by omega), if_neg (show ¬ (d.f 0).n = 6 by omega)]
  rfl
set_option maxRecDepth 100000 in
theorem pr_obj {k : Nat} {d : D} (h : (d.f 0).n = 6) (hl : (d.f 4).l.length = (d.f 3).l.length) : prP (k + 1) d = if (pq k d (d.f 3).l.length).1 = true then (true, [123] ++ (pq k d (d.f 3).l.length).2 ++ [125]) else (false, [123] ++ (pq k d (d.f 3).l.length).2) := by
  unfold prP
  rw [if_neg (by omega), if_neg (by omega), if_neg (fun h => h.2 hl)]
  dsimp only
  rw [if_pos h, if_pos h]
  rfl
set_option maxRecDepth 100000 in
theorem pr_bad {k : Nat} {d : D} (h : (d.f 0).n = 6) (hl : ¬ (d.f 4).l.length = (d.f 3).l.length) : prP (k + 1) d = (false, []) := by
  unfold prP
  rw [if_neg (by omega), if_neg (by omega), if_pos ⟨h, hl⟩]
set_option maxRecDepth 100000 in
theorem pr_leaf {k : Nat} {d : D} (h : 0 ≤ (d.f 0).n ∧ (d.f 0).n ≤ 4) : prP (k + 1) d = (true, leafU d) := by
  unfold prP
  rw [if_neg (by omega), if_pos h.2]
set_option maxRecDepth 100000 in
theorem pr_none {k : Nat} {d : D} (h : (d.f 0).n < 0 ∨ 6 < (d.f 0).n) : prP (k + 1) d = (false, []) := by
  unfold prP
  rw [if_pos h]
set_option maxRecDepth 100000 in
theorem leaf0 {d : D} (h : (d.f 0).n = 0) : leafU d = [110, 117, 108, 108] := by unfold leafU; rw [if_pos h]
set_option maxRecDepth 100000 in
theorem leaf1f {d : D} (h : (d.f 0).n = 1) (h1 : (d.f 1).n = 0) : leafU d = [102, 97, 108, 115, 101] := by unfold leafU; rw [if_neg (by omega), if_pos h, if_pos h1]
set_option maxRecDepth 100000 in
theorem leaf1t {d : D} (h : (d.f 0).n = 1) (h1 : ¬ (d.f 1).n = 0) : leafU d = [116, 114, 117, 101] := by unfold leafU; rw [if_neg (by omega), if_pos h, if_neg h1]
set_option maxRecDepth 100000 in
theorem leaf2 {d : D} (h : (d.f 0).n = 2) : leafU d = Lib.itoa (d.f 1).n := by unfold leafU; rw [if_neg (by omega), if_neg (by omega), if_pos h]
set_option maxRecDepth 100000 in
theorem leaf34 {d : D} (h : ¬ (d.f 0).n = 0) (h1 : ¬ (d.f 0).n = 1) (h2 : ¬ (d.f 0).n = 2) : leafU d = quoteU (d.f 2).s.data.toList := by unfold leafU; rw [if_neg h, if_neg h1, if_neg h2]
noncomputable def HpL (d : D) (bl : List UInt8) (i : Nat) : Vst 101 := stS 101 [(0, .bx (pn 0) 0), (44, .sl 26 (d.f 3).l), (45, .c (.int .i64 ((d.f 3).l.length : Int))), (46, .c (.int .i64 (i : Int)))] [(pn 0, .bld 64 5 bl)]
noncomputable def HpO (d : D) (bl : List UInt8) (i : Nat) : Vst 101 := stS 101 [(0, .bx (pn 0) 0), (3, .bx 3 0), (74, .sl 26 (d.f 3).l), (75, .c (.int .i64 ((d.f 3).l.length : Int))), (76, .c (.int .i64 (i : Int)))] [(pn 0, .bld 64 5 bl), (3, .box 26 (cellsV Tryz.prog 12 26 d))]
set_option maxRecDepth 100000 in
theorem pq_go {k : Nat} {d : D} {i : Nat} (h : (pq k d i).1 = true) : pq k d (i + 1) = ((prP k (gD (d.f 3).l i)).1, (pq k d i).2 ++ sepU d i ++ (prP k (gD (d.f 3).l i)).2) := seqP_go h
set_option maxRecDepth 100000 in
theorem pq_stop {k : Nat} {d : D} {i n : Nat} (h : (pq k d i).1 = false) (hn : i ≤ n) : pq k d n = pq k d i := by
  rw [show n = i + (n - i) by omega]; exact seqP_stop h _
set_option maxRecDepth 100000 in
theorem sep5 {d : D} (h : (d.f 0).n = 5) (i : Nat) : sepU d i = if 0 < i then [44] else [] := by
  unfold sepU; rw [if_neg (show ¬ (d.f 0).n = 6 by omega), List.append_nil]
set_option maxRecDepth 100000 in
theorem pq_len {k : Nat} {d : D} (h : Dp (k + 1) d) (hi : intsJ (k + 1) d) {i : Nat} (hn : i ≤ (d.f 3).l.length) : (pq k d i).2.length ≤ sumN (gW k d) i :=
  seqP_len fun q hq => by
    have h1 := sep_gW k d q
    have h2 := prP_len (h q (by omega)) (hi.2 q (by omega))
    omega
set_option maxRecDepth 100000 in
theorem pq_room {k : Nat} {d : D} (h : Dp (k + 1) d) (hi : intsJ (k + 1) d) (h6 : (d.f 0).n = 6 → (d.f 4).l.length = (d.f 3).l.length) {i : Nat} (hn : i < (d.f 3).l.length) : (pq k d i).2.length + (sepU d i).length + 32 * wtJ k (gD (d.f 3).l i) + 31 ≤ 32 * wtJ (k + 1) d := by
  have h1 := pq_len h hi (Nat.le_of_lt hn)
  have h2 := sep_gW k d i
  have h3 := sumN_le (g := gW k d) (show i + 1 ≤ (d.f 3).l.length from hn)
  rw [sumN_succ] at h3
  have h4 := gW_sum (k := k) h6
  rw [wt_eq]
  omega
set_option maxRecDepth 100000 in
theorem pq_end {k : Nat} {d : D} (h : Dp (k + 1) d) (hi : intsJ (k + 1) d) (h6 : (d.f 0).n = 6 → (d.f 4).l.length = (d.f 3).l.length) {i : Nat} (hn : i ≤ (d.f 3).l.length) : (pq k d i).2.length + 32 ≤ 32 * wtJ (k + 1) d := by
  have h1 := pq_len h hi hn
  have h3 := sumN_le (g := gW k d) hn
  have h4 := gW_sum (k := k) h6
  rw [wt_eq]
  omega
set_option maxRecDepth 100000 in
theorem pr_go {k : Nat} {d : D} {i : Nat} (hn : i < (d.f 3).l.length) (h : (pq k d i).1 = true) (hf : (!(prP k (gD (d.f 3).l i)).1) = true) (h6 : (d.f 0).n = 5 ∨ ((d.f 0).n = 6 ∧ (d.f 4).l.length = (d.f 3).l.length)) :
    prP (k + 1) d = (false, (if (d.f 0).n = 6 then [123] else [91]) ++ ((pq k d i).2 ++ sepU d i ++ (prP k (gD (d.f 3).l i)).2)) := by
  have e := pq_go h
  have hf : (prP k (gD (d.f 3).l i)).1 = false := by simpa using hf
  have e1 : (pq k d (i + 1)).1 = false := by rw [e]; exact hf
  have e2 := pq_stop e1 (show i + 1 ≤ (d.f 3).l.length from hn)
  rcases h6 with h5 | ⟨h6, hl⟩
  · rw [pr_list h5, e2, e1, e, if_neg (by decide), if_neg (by omega)]
  · rw [pr_obj h6 hl, e2, e1, e, if_neg (by decide), if_pos h6]
set_option maxRecDepth 100000 in
theorem pr_end {k : Nat} {d : D} (h : (pq k d (d.f 3).l.length).1 = true) (h6 : (d.f 0).n = 5 ∨ ((d.f 0).n = 6 ∧ (d.f 4).l.length = (d.f 3).l.length)) :
    prP (k + 1) d = (true, (if (d.f 0).n = 6 then [123] else [91]) ++ (pq k d (d.f 3).l.length).2 ++ (if (d.f 0).n = 6 then [125] else [93])) := by
  rcases h6 with h5 | ⟨h6, hl⟩
  · rw [pr_list h5, if_pos h, if_neg (by omega), if_neg (by omega)]
  · rw [pr_obj h6 hl, if_pos h, if_pos h6, if_pos h6]
set_option maxRecDepth 100000 in
theorem sep6 {d : D} (h : (d.f 0).n = 6) (i : Nat) : sepU d i = (if 0 < i then [44] else []) ++ (quoteU (keyU d i) ++ [58]) := by
  unfold sepU; rw [if_pos h]
set_option maxHeartbeats 4000000 in
set_option maxRecDepth 100000 in
theorem printP_core (k : Nat) (d : D) (bl : List UInt8) (h : Dp (k + 1) d) (hi : intsJ (k + 1) d) (hw : wtJ (k + 1) d ≤ 8388608) (hb : bl.length + 32 * wtJ (k + 1) d ≤ 800000000)
    (ih : ∀ i bl, i < (d.f 3).l.length → bl.length + 32 * wtJ k (gD (d.f 3).l i) ≤ 800000000 → ACB EN5 Tryz.prog 26 [.bx (pn 0) 0, .agg (cellsV Tryz.prog 12 26 (gD (d.f 3).l i))] [.bld 64 5 bl] (.c (.bool (prP k (gD (d.f 3).l i)).1)) [.bld 64 5 (bl ++ (prP k (gD (d.f 3).l i)).2)]) :
    ACB EN5 Tryz.prog 26 [.bx (pn 0) 0, .agg (cellsV Tryz.prog 12 26 d)] [.bld 64 5 bl] (.c (.bool (prP (k + 1) d).1)) [.bld 64 5 (bl ++ (prP (k + 1) d).2)] := by
  have hin := wt_in h hw
  have htx := hin.text
  have hitl := hin.items
  have hq := quoteP_ac (d.f 2).s (by omega)
  have hdc := decimalP_ac (d.f 1).n
  have hi1 := itoa_length hi.1.1 hi.1.2
  have hq1 := quoteU_length (d.f 2).s.data.toList
  have hq2 : (d.f 2).s.data.toList.length = (d.f 2).s.size := rfl
  refine acb_enter (fn := Tryz.f26) 101 Tryz.func26 rfl rfl ?_
  intro pas w0 w he hpp
  repeat' (first
    | (apply s_ws rfl
       · conv => lhs; whnf
       · conv => lhs; whnf
       · rfl
       · conv => lhs; whnf; arg 1; whnf
       · rfl)
    | (apply s_wb rfl
       · conv => lhs; whnf
       · conv => lhs; whnf
       · rfl
       · conv => lhs; whnf; arg 1; whnf
       · rfl
       · rfl)
    | refine aw_seq ?_
    | refine aw_region ?_
    | refine awo_nil ?_
    | refine k_seq ?_
    | refine k_block ?_
    | refine k_scope ?_
    | refine aw_block ?_
    | refine aw_skip ?_
    | refine aw_label ?_
    | refine aw_scope ?_
    | (apply s_val rfl
       · conv => lhs; whnf
       · conv => lhs; whnf; arg 2; whnf)
    | (apply s_call rfl
       · conv => lhs; whnf
       · conv => lhs; whnf
       · first | exact hq | exact hdc)
    | (apply s_box rfl rfl rfl rfl
       · conv => lhs; whnf; arg 1; whnf
       · rfl)
    | (apply s_alloc rfl rfl rfl rfl
       · conv => lhs; whnf; arg 1; whnf
       · rfl)
    | (apply s_store rfl rfl rfl
       · conv => lhs; whnf
       · conv => lhs; whnf; arg 1; whnf
       · conv => lhs; whnf; arg 1; whnf
       · exact ⟨by kernel_rfl, by kernel_rfl⟩
       · rfl)
    | (apply aw_cond_t
       · conv => lhs; whnf; arg 1; arg 1; whnf)
    | (apply aw_cond_f
       · conv => lhs; whnf; arg 1; arg 1; whnf)
    | (refine aw_cond (by conv => lhs; whnf) ?_ ?_ <;> intro hb)
    | refine aw_ret ?_
    | refine aw_exit ?_
    | refine k_seq_exit ?_
    | refine k_seq_ret ?_
    | refine k_block_ret ?_
    | refine k_block_hit rfl ?_
    | refine k_block_miss rfl ?_
    | refine k_scope_exit ?_
    | refine k_scope_ret ?_
    | refine k_loop_exit ?_
    | refine k_loop_ret ?_
    | refine k_endB ⟨?_, ?_⟩
    | refine k_endB_ret ⟨?_, ?_⟩
    | exact (rfl : _ = V.tup [])
    | (refine ⟨_, by conv => lhs; whnf; arg 2; whnf, ?_⟩; conv => rhs; whnf)
    | exact trivial
    | intro hg)
  all_goals try (simp only [beq_iff_eq, beq_eq_false_iff_ne, ne_eq, bne_iff_ne, Bool.not_eq_true', Nat.zero_add, Nat.reduceAdd] at *)
  all_goals try
    first
      | omega
      | (show V.c _ = V.c _; rw [pr_leaf (by omega)])
      | (show V.c _ = V.c _; rw [pr_none (by omega)])
      | (show V.c _ = V.c _; rw [pr_bad (by omega) (by omega)])
      | (rw [pr_leaf (by omega), leaf0 (by omega)]; exact ⟨rfl, trivial⟩)
      | (rw [pr_leaf (by omega), leaf1f (by omega) (by omega)]; exact ⟨rfl, trivial⟩)
      | (rw [pr_leaf (by omega), leaf1t (by omega) (by omega)]; exact ⟨rfl, trivial⟩)
      | (rw [pr_leaf (by omega), leaf2 (by omega)]; exact ⟨rfl, trivial⟩)
      | (rw [pr_leaf (by omega), leaf34 (by omega) (by omega) (by omega)]; exact ⟨rfl, trivial⟩)
      | (rw [pr_none (by omega)]; exact ⟨by rw [List.append_nil]; rfl, trivial⟩)
      | (rw [pr_bad (by omega) (by omega)]; exact ⟨by rw [List.append_nil]; rfl, trivial⟩)
      | exact Nat.le_trans (Nat.add_le_add_left (show ByteArray.size _ ≤ 5 by decide) _) (by omega)
      | (rw [bs_size]; omega)
  · have h5 : (d.f 0).n = 5 := by omega
    refine aw_loop (fun j st => ∃ i, i + j = (d.f 3).l.length ∧ (pq k d i).1 = true ∧ Sub ⟨Tryz.prog, pas, w0, w, EN5, he, hpp, fun _ _ _ => False, []⟩ st (HpL d (bl ++ [91] ++ (pq k d i).2) i)) (d.f 3).l.length ⟨0, by omega, rfl, ?_⟩ ?_
    · exact Sub.live ⟨rfl, rfl, rfl, rfl, trivial⟩ ⟨by rw [show (pq k d 0).2 = [] from rfl, List.append_nil]; rfl, trivial⟩
    · rintro j st ⟨i, hij, hpi, hs2⟩
      refine aw_sub hs2 ?_
      clear hs2
      have hend := pq_end (i := i) h hi (fun e6 => by omega) (by omega)
      have hl0 : (bl ++ [91] ++ (pq k d i).2).length = bl.length + 1 + (pq k d i).2.length := by simp; omega
      have ihA := fun (g : decide ((i : Int) < ((d.f 3).l.length : Int)) = true) (g0 : decide ((i : Int) > 0) = true) => ih i (bl ++ [91] ++ (pq k d i).2 ++ [44]) (lt_b g) (by
        have hro := pq_room h hi (fun e6 => by omega) (lt_b g)
        have g0 : 0 < i := by have := of_decide_eq_true g0; omega
        rw [sep5 h5, if_pos g0] at hro
        rw [List.length_append, hl0]
        simp only [List.length_cons, List.length_nil] at hro ⊢
        omega)
      have ihB := fun (g : decide ((i : Int) < ((d.f 3).l.length : Int)) = true) (_ : decide ((i : Int) > 0) = false) => ih i (bl ++ [91] ++ (pq k d i).2) (lt_b g) (by
        have hro := pq_room h hi (fun e6 => by omega) (lt_b g)
        rw [hl0]
        omega)
      repeat' (first
    | (apply s_wb rfl
       · conv => lhs; whnf
       · conv => lhs; whnf
       · rfl
       · conv => lhs; whnf; arg 1; whnf
       · rfl
       · rfl)
    | (apply s_bcall rfl
       · conv => lhs; whnf
       · conv => lhs; whnf
       · rfl
       · conv => lhs; whnf; arg 1; whnf
       · first | exact ihA (by assumption) (by assumption) | exact ihB (by assumption) (by assumption)
       · exact fun _ => rfl
       · exact fun _ => rfl)
    | refine aw_seq ?_
    | refine aw_region ?_
    | refine awo_nil ?_
    | refine k_seq ?_
    | refine k_block ?_
    | refine k_scope ?_
    | refine aw_block ?_
    | refine aw_skip ?_
    | refine aw_label ?_
    | refine aw_scope ?_
    | (apply s_val rfl
       · conv => lhs; whnf
       · conv => lhs; whnf; arg 2; whnf)
    | (apply s_call rfl
       · conv => lhs; whnf
       · conv => lhs; whnf
       · first | fail)
    | (apply s_box rfl rfl rfl rfl
       · conv => lhs; whnf; arg 1; whnf
       · rfl)
    | (apply s_alloc rfl rfl rfl rfl
       · conv => lhs; whnf; arg 1; whnf
       · rfl)
    | (apply s_store rfl rfl rfl
       · conv => lhs; whnf
       · conv => lhs; whnf; arg 1; whnf
       · conv => lhs; whnf; arg 1; whnf
       · exact ⟨by kernel_rfl, by kernel_rfl⟩
       · rfl)
    | (apply aw_cond_t
       · conv => lhs; whnf; arg 1; arg 1; whnf)
    | (apply aw_cond_f
       · conv => lhs; whnf; arg 1; arg 1; whnf)
    | (refine aw_cond (by conv => lhs; whnf) ?_ ?_ <;> intro hb)
    | refine aw_ret ?_
    | refine aw_exit ?_
    | refine k_seq_exit ?_
    | refine k_seq_ret ?_
    | refine k_block_ret ?_
    | refine k_block_hit rfl ?_
    | refine k_block_miss rfl ?_
    | refine k_scope_exit ?_
    | refine k_scope_ret ?_
    | refine k_loop_exit ?_
    | refine k_loop_ret ?_
    | refine k_endB ⟨?_, ?_⟩
    | refine k_endB_ret ⟨?_, ?_⟩
    | exact (rfl : _ = V.tup [])
    | (refine ⟨_, by conv => lhs; whnf; arg 2; whnf, ?_⟩; conv => rhs; whnf)
    | exact trivial
    | intro hg)
      all_goals try (simp only [Nat.zero_add, Nat.reduceAdd] at *)
      all_goals
        first
          | (have g : i < (d.f 3).l.length := lt_b (by assumption)
             have hi0 : (if 0 < i then [(44 : UInt8)] else []) = [44] ∨ (if 0 < i then [(44 : UInt8)] else []) = [] := by split <;> simp
             first
               | (have hf : (!(prP k (gD (d.f 3).l i)).1) = true := by assumption
                  have hP := pr_go g hpi hf (.inl h5)
                  rw [sep5 h5, if_neg (show ¬ (d.f 0).n = 6 by omega)] at hP
                  first
                    | (have g0 : decide ((i : Int) > 0) = true := by assumption
                       have g0 : 0 < i := by have := of_decide_eq_true g0; omega
                       rw [if_pos g0] at hP
                       first
                         | (show V.c _ = V.c _; rw [hP])
                         | (rw [hP]; exact ⟨by simp only [List.append_assoc]; rfl, trivial⟩))
                    | (have g0 : decide ((i : Int) > 0) = false := by assumption
                       have g0 : ¬ 0 < i := by have := of_decide_eq_false g0; omega
                       rw [if_neg g0] at hP
                       first
                         | (show V.c _ = V.c _; rw [hP])
                         | (rw [hP]; exact ⟨by simp only [List.append_assoc, List.nil_append, List.append_nil]; rfl, trivial⟩)))
               | (have hf : (!(prP k (gD (d.f 3).l i)).1) = false := by assumption
                  have hf2 : (prP k (gD (d.f 3).l i)).1 = true := by simpa using hf
                  have e := pq_go hpi
                  rw [sep5 h5] at e
                  first
                    | exact i64_in2 (by omega)
                    | (have g0 : decide ((i : Int) > 0) = true := by assumption
                       have g0 : 0 < i := by have := of_decide_eq_true g0; omega
                       rw [if_pos g0] at e
                       refine k_loop_next (j' := j - 1) (by omega) ⟨i + 1, by omega, by rw [e]; exact hf2, Sub.live ⟨rfl, rfl, rfl, rfl, trivial⟩ ⟨?_, trivial⟩⟩
                       rw [e]
                       simp only [List.append_assoc]; rfl)
                    | (have g0 : decide ((i : Int) > 0) = false := by assumption
                       have g0 : ¬ 0 < i := by have := of_decide_eq_false g0; omega
                       rw [if_neg g0] at e
                       refine k_loop_next (j' := j - 1) (by omega) ⟨i + 1, by omega, by rw [e]; exact hf2, Sub.live ⟨rfl, rfl, rfl, rfl, trivial⟩ ⟨?_, trivial⟩⟩
                       rw [e]
                       simp only [List.append_assoc, List.nil_append, List.append_nil]; rfl))
               | (rw [hl0]; omega)
               | exact ixn_ok g)
          | (have g : (d.f 3).l.length ≤ i := ge_b (by assumption)
             have e : i = (d.f 3).l.length := by omega
             subst e
             have hP := pr_end hpi (.inl h5)
             rw [if_neg (show ¬ (d.f 0).n = 6 by omega), if_neg (show ¬ (d.f 0).n = 6 by omega)] at hP
             first
               | (rw [hl0]; omega)
               | (show V.c _ = V.c _; rw [hP])
               | (rw [hP]; exact ⟨by simp only [List.append_assoc]; rfl, trivial⟩))
  · have h6 : (d.f 0).n = 6 := by omega
    have hll : (d.f 4).l.length = (d.f 3).l.length := by
      have g : (((d.f 4).l.length : Int) != ((d.f 3).l.length : Int)) = false := by assumption
      have g : ((d.f 4).l.length : Int) = ((d.f 3).l.length : Int) := by simpa using g
      omega
    refine aw_loop (fun j st => ∃ i, i + j = (d.f 3).l.length ∧ (pq k d i).1 = true ∧ Sub ⟨Tryz.prog, pas, w0, w, EN5, he, hpp, fun _ _ _ => False, []⟩ st (HpO d (bl ++ [123] ++ (pq k d i).2) i)) (d.f 3).l.length ⟨0, by omega, rfl, ?_⟩ ?_
    · exact Sub.live ⟨rfl, rfl, rfl, rfl, rfl, trivial⟩ ⟨by rw [show (pq k d 0).2 = [] from rfl, List.append_nil]; rfl, rfl, trivial⟩
    · rintro j st ⟨i, hij, hpi, hs2⟩
      refine aw_sub hs2 ?_
      clear hs2
      have hend := pq_end (i := i) h hi (fun _ => hll) (by omega)
      have hl0 : (bl ++ [123] ++ (pq k d i).2).length = bl.length + 1 + (pq k d i).2.length := by simp; omega
      have ihA := fun (g : decide ((i : Int) < ((d.f 3).l.length : Int)) = true) (g0 : decide ((i : Int) > 0) = true) => ih i (bl ++ [123] ++ (pq k d i).2 ++ [44] ++ (quoteU (keyU d i) ++ [58])) (lt_b g) (by
        have hro := pq_room h hi (fun _ => hll) (lt_b g)
        have g0 : 0 < i := by have := of_decide_eq_true g0; omega
        rw [sep6 h6, if_pos g0] at hro
        rw [List.length_append, List.length_append, hl0]
        simp only [List.length_cons, List.length_nil, List.length_append] at hro ⊢
        omega)
      have ihB := fun (g : decide ((i : Int) < ((d.f 3).l.length : Int)) = true) (_ : decide ((i : Int) > 0) = false) => ih i (bl ++ [123] ++ (pq k d i).2 ++ (quoteU (keyU d i) ++ [58])) (lt_b g) (by
        have hro := pq_room h hi (fun _ => hll) (lt_b g)
        rw [sep6 h6] at hro
        rw [List.length_append, hl0]
        simp only [List.length_cons, List.length_nil, List.length_append] at hro ⊢
        omega)
      have hkq := fun (g : decide ((i : Int) < ((d.f 3).l.length : Int)) = true) => quoteP_ac (gD (d.f 4).l i).s (by
        have h1 := hin.key i (by have := lt_b g; omega)
        omega)
      repeat' (first
    | (apply s_wb rfl
       · conv => lhs; whnf
       · conv => lhs; whnf
       · rfl
       · conv => lhs; whnf; arg 1; whnf
       · rfl
       · rfl)
    | (apply s_ws rfl
       · conv => lhs; whnf
       · conv => lhs; whnf
       · rfl
       · conv => lhs; whnf; arg 1; whnf
       · rfl)
    | (apply s_bcall rfl
       · conv => lhs; whnf
       · conv => lhs; whnf
       · rfl
       · conv => lhs; whnf; arg 1; whnf
       · first | exact ihA (by assumption) (by assumption) | exact ihB (by assumption) (by assumption)
       · exact fun _ => rfl
       · exact fun _ => rfl)
    | refine aw_seq ?_
    | refine aw_region ?_
    | refine awo_nil ?_
    | refine k_seq ?_
    | refine k_block ?_
    | refine k_scope ?_
    | refine aw_block ?_
    | refine aw_skip ?_
    | refine aw_label ?_
    | refine aw_scope ?_
    | (apply s_val rfl
       · conv => lhs; whnf
       · conv => lhs; whnf; arg 2; whnf)
    | (apply s_call rfl
       · conv => lhs; whnf
       · conv => lhs; whnf
       · first | exact hkq (by assumption))
    | (apply s_box rfl rfl rfl rfl
       · conv => lhs; whnf; arg 1; whnf
       · rfl)
    | (apply s_alloc rfl rfl rfl rfl
       · conv => lhs; whnf; arg 1; whnf
       · rfl)
    | (apply s_store rfl rfl rfl
       · conv => lhs; whnf
       · conv => lhs; whnf; arg 1; whnf
       · conv => lhs; whnf; arg 1; whnf
       · exact ⟨by kernel_rfl, by kernel_rfl⟩
       · rfl)
    | (apply aw_cond_t
       · conv => lhs; whnf; arg 1; arg 1; whnf)
    | (apply aw_cond_f
       · conv => lhs; whnf; arg 1; arg 1; whnf)
    | (refine aw_cond (by conv => lhs; whnf) ?_ ?_ <;> intro hb)
    | refine aw_ret ?_
    | refine aw_exit ?_
    | refine k_seq_exit ?_
    | refine k_seq_ret ?_
    | refine k_block_ret ?_
    | refine k_block_hit rfl ?_
    | refine k_block_miss rfl ?_
    | refine k_scope_exit ?_
    | refine k_scope_ret ?_
    | refine k_loop_exit ?_
    | refine k_loop_ret ?_
    | refine k_endB ⟨?_, ?_⟩
    | refine k_endB_ret ⟨?_, ?_⟩
    | exact (rfl : _ = V.tup [])
    | (refine ⟨_, by conv => lhs; whnf; arg 2; whnf, ?_⟩; conv => rhs; whnf)
    | exact trivial
    | intro hg)
      all_goals try (simp only [Nat.zero_add, Nat.reduceAdd] at *)
      all_goals
        first
          | (have g : i < (d.f 3).l.length := lt_b (by assumption)
             have hi0 : (if 0 < i then [(44 : UInt8)] else []) = [44] ∨ (if 0 < i then [(44 : UInt8)] else []) = [] := by split <;> simp
             first
               | (have hf : (!(prP k (gD (d.f 3).l i)).1) = true := by assumption
                  have hP := pr_go g hpi hf (.inr ⟨h6, hll⟩)
                  rw [sep6 h6, if_pos h6] at hP
                  first
                    | (have g0 : decide ((i : Int) > 0) = true := by assumption
                       have g0 : 0 < i := by have := of_decide_eq_true g0; omega
                       rw [if_pos g0] at hP
                       first
                         | (show V.c _ = V.c _; rw [hP])
                         | (rw [hP]; exact ⟨by simp only [List.append_assoc]; rfl, trivial⟩))
                    | (have g0 : decide ((i : Int) > 0) = false := by assumption
                       have g0 : ¬ 0 < i := by have := of_decide_eq_false g0; omega
                       rw [if_neg g0] at hP
                       first
                         | (show V.c _ = V.c _; rw [hP])
                         | (rw [hP]; exact ⟨by simp only [List.append_assoc, List.nil_append, List.append_nil]; rfl, trivial⟩)))
               | (have hf : (!(prP k (gD (d.f 3).l i)).1) = false := by assumption
                  have hf2 : (prP k (gD (d.f 3).l i)).1 = true := by simpa using hf
                  have e := pq_go hpi
                  rw [sep6 h6] at e
                  first
                    | exact i64_in2 (by omega)
                    | (have g0 : decide ((i : Int) > 0) = true := by assumption
                       have g0 : 0 < i := by have := of_decide_eq_true g0; omega
                       rw [if_pos g0] at e
                       refine k_loop_next (j' := j - 1) (by omega) ⟨i + 1, by omega, by rw [e]; exact hf2, Sub.live ⟨rfl, rfl, rfl, rfl, rfl, trivial⟩ ⟨?_, rfl, trivial⟩⟩
                       rw [e]
                       simp only [List.append_assoc]; rfl)
                    | (have g0 : decide ((i : Int) > 0) = false := by assumption
                       have g0 : ¬ 0 < i := by have := of_decide_eq_false g0; omega
                       rw [if_neg g0] at e
                       refine k_loop_next (j' := j - 1) (by omega) ⟨i + 1, by omega, by rw [e]; exact hf2, Sub.live ⟨rfl, rfl, rfl, rfl, rfl, trivial⟩ ⟨?_, rfl, trivial⟩⟩
                       rw [e]
                       simp only [List.append_assoc, List.nil_append, List.append_nil]; rfl))
               | (rw [hl0]; omega)
               | exact ⟨by omega, by omega⟩
               | (have hqk := quoteU_length (gD (d.f 4).l i).s.data.toList
                  have hqs : (gD (d.f 4).l i).s.data.toList.length = (gD (d.f 4).l i).s.size := rfl
                  have hqb := hin.key i (by omega)
                  have h58 : ({ data := #[58] } : ByteArray).size = 1 := rfl
                  simp only [ByteArray.size_append, bs_size, List.length_append, List.length_cons, List.length_nil, h58, maxLen]
                  omega))
          | (have g : (d.f 3).l.length ≤ i := ge_b (by assumption)
             have e : i = (d.f 3).l.length := by omega
             subst e
             have hP := pr_end hpi (.inr ⟨h6, hll⟩)
             rw [if_pos h6, if_pos h6] at hP
             first
               | (rw [hl0]; omega)
               | (show V.c _ = V.c _; rw [hP])
               | (rw [hP]; exact ⟨by simp only [List.append_assoc]; rfl, trivial⟩))
set_option maxRecDepth 100000 in
theorem printP_acb : ∀ (k : Nat) (d : D) (bl : List UInt8), Dp k d → intsJ k d → wtJ k d ≤ 8388608 → bl.length + 32 * wtJ k d ≤ 800000000 →
    ACB EN5 Tryz.prog 26 [.bx (pn 0) 0, .agg (cellsV Tryz.prog 12 26 d)] [.bld 64 5 bl] (.c (.bool (prP k d).1)) [.bld 64 5 (bl ++ (prP k d).2)]
  | 0, _, _, h, _, _, _ => h.elim
  | k + 1, d, bl, h, hi, hw, hb => printP_core k d bl h hi hw hb fun i bl hil hbl => printP_acb k (gD (d.f 3).l i) bl (h i hil) (hi.2 i hil) ((wt_in h hw).at_ i hil) hbl
/-- the program's Print -/
def printV (k : Nat) (d : D) : V := if okJ k d = true then .tup [.c (.string (bs (wrJ k d))), .c (.int .i64 0)] else .tup [.c (.string (bs [])), .c (.int .i64 9)]
set_option maxRecDepth 100000 in
theorem print_ac (k : Nat) (d : D) (h : Dp k d) (hi : intsJ k d) (hw : wtJ k d ≤ 8388608) : AC EN5 Tryz.prog 14 [.agg (cellsV Tryz.prog 12 26 d)] (printV k d) := by
  have hp := printP_acb k d [] h hi hw (by simp; omega)
  rw [List.nil_append] at hp
  have hl := prP_len h hi
  have hok := prP_ok k d
  by_cases ho : okJ k d = true
  · have e : printV k d = .tup [.c (.string (bs (wrJ k d))), .c (.int .i64 0)] := by unfold printV; rw [if_pos ho]
    rw [hok.1, ho, hok.2 ho] at hp
    rw [hok.2 ho] at hl
    rw [e]
    refine ac_enter 9 Tryz.func14 rfl rfl rfl rfl ?_
    intro s w he
    repeat' (first
    | (apply s_bcall0 rfl
       · conv => lhs; whnf
       · conv => lhs; whnf
       · rfl
       · rfl
       · first | exact hp
       · rfl
       · exact fun _ => rfl
       · exact fun _ => rfl)
    | (apply s_bs rfl
       · conv => lhs; whnf
       · conv => lhs; whnf
       · rfl
       · conv => lhs; whnf; arg 1; whnf
       · exact ⟨rfl, rfl⟩
       · rfl)
    | refine aw_seq ?_
    | refine aw_region ?_
    | refine awo_nil ?_
    | refine k_seq ?_
    | refine k_block ?_
    | refine k_scope ?_
    | refine aw_block ?_
    | refine aw_skip ?_
    | refine aw_label ?_
    | refine aw_scope ?_
    | (apply s_val rfl
       · conv => lhs; whnf
       · conv => lhs; whnf; arg 2; whnf)
    | (apply s_call rfl
       · conv => lhs; whnf
       · conv => lhs; whnf
       · first | fail)
    | (apply s_box rfl rfl rfl rfl
       · conv => lhs; whnf; arg 1; whnf
       · rfl)
    | (apply s_alloc rfl rfl rfl rfl
       · conv => lhs; whnf; arg 1; whnf
       · rfl)
    | (apply aw_cond_t
       · conv => lhs; whnf; arg 1; arg 1; whnf)
    | (apply aw_cond_f
       · conv => lhs; whnf; arg 1; arg 1; whnf)
    | (refine aw_cond (by conv => lhs; whnf) ?_ ?_ <;> intro hb)
    | refine aw_ret ?_
    | refine aw_exit ?_
    | refine k_seq_exit ?_
    | refine k_seq_ret ?_
    | refine k_block_ret ?_
    | refine k_block_hit rfl ?_
    | refine k_block_miss rfl ?_
    | refine k_scope_exit ?_
    | refine k_scope_ret ?_
    | refine k_loop_exit ?_
    | refine k_loop_ret ?_
    | refine k_end ?_
    | refine k_end_ret ?_
    | (refine ⟨_, by conv => lhs; whnf; arg 2; whnf, ?_⟩; conv => rhs; whnf)
    | exact trivial
    | intro hg)
    · exact ⟨_, _, rfl, rfl, rfl⟩
    · unfold maxLen; omega
  · have e : printV k d = .tup [.c (.string (bs [])), .c (.int .i64 9)] := by unfold printV; rw [if_neg ho]
    have ho : okJ k d = false := by simpa using ho
    rw [hok.1, ho] at hp
    rw [e]
    refine ac_enter 9 Tryz.func14 rfl rfl rfl rfl ?_
    intro s w he
    repeat' (first
    | (apply s_bcall0 rfl
       · conv => lhs; whnf
       · conv => lhs; whnf
       · rfl
       · rfl
       · first | exact hp
       · rfl
       · exact fun _ => rfl
       · exact fun _ => rfl)
    | (apply s_bs rfl
       · conv => lhs; whnf
       · conv => lhs; whnf
       · rfl
       · conv => lhs; whnf; arg 1; whnf
       · exact ⟨rfl, rfl⟩
       · rfl)
    | refine aw_seq ?_
    | refine aw_region ?_
    | refine awo_nil ?_
    | refine k_seq ?_
    | refine k_block ?_
    | refine k_scope ?_
    | refine aw_block ?_
    | refine aw_skip ?_
    | refine aw_label ?_
    | refine aw_scope ?_
    | (apply s_val rfl
       · conv => lhs; whnf
       · conv => lhs; whnf; arg 2; whnf)
    | (apply s_call rfl
       · conv => lhs; whnf
       · conv => lhs; whnf
       · first | fail)
    | (apply s_box rfl rfl rfl rfl
       · conv => lhs; whnf; arg 1; whnf
       · rfl)
    | (apply s_alloc rfl rfl rfl rfl
       · conv => lhs; whnf; arg 1; whnf
       · rfl)
    | (apply aw_cond_t
       · conv => lhs; whnf; arg 1; arg 1; whnf)
    | (apply aw_cond_f
       · conv => lhs; whnf; arg 1; arg 1; whnf)
    | (refine aw_cond (by conv => lhs; whnf) ?_ ?_ <;> intro hb)
    | refine aw_ret ?_
    | refine aw_exit ?_
    | refine k_seq_exit ?_
    | refine k_seq_ret ?_
    | refine k_block_ret ?_
    | refine k_block_hit rfl ?_
    | refine k_block_miss rfl ?_
    | refine k_scope_exit ?_
    | refine k_scope_ret ?_
    | refine k_loop_exit ?_
    | refine k_loop_ret ?_
    | refine k_end ?_
    | refine k_end_ret ?_
    | (refine ⟨_, by conv => lhs; whnf; arg 2; whnf, ?_⟩; conv => rhs; whnf)
    | exact trivial
    | intro hg)
    exact ⟨_, _, rfl, rfl, rfl⟩
end Go.Proofs.YtdklhkdlndlgnaaGreatDoor
namespace Go.Proofs.YtdklhkdlndlgnaaGreatDoor
open Go.RowKit
attribute [local irreducible] wpList Calls Code.wp
section
variable {X : Cx} {nn : Nat} {st : Vst nn} {o : Oper} {ops : Array Oper} {l : List Oper} {d : Option Tmp} {KK : Vst nn → Prop}
theorem s_skipU {j : Nat} {want b : Bool} (hg : o.guard = some (j, want)) (hd : o.dst = d) (hb : gval ops st j = some b) (hne : (b == want) = false) (hK : AWo X ops l (st.put d (.tup [])) KK) : AWo X ops (o :: l) st KK := fun s w a hI Q hP hQ => by
  have hy := gval_ok hb hI
  refine wpList_step fun K' hK' => ?_
  have hwt : Region.wanted o (yielded ops a.tmps) = (b == want) := by simp [Region.wanted, hg, hy]
  rw [hwt, if_neg (by rw [hne]; decide)]
  exact hK' _ _ (hK s w (a.put o.dst undef) (by rw [hd]; exact hI.put d (by rw [rel]; exact ⟨#[], rfl, by simp [relL]⟩)) Q hP hQ)
/-- a guard that looks at what was not done -/
theorem s_dead {j : Nat} {want : Bool} {t : Tmp} (hg : o.guard = some (j, want)) (hd : o.dst = d) (ht : (ops[j]?).bind (·.dst) = some t) (hu : ev st (.tmp t) = .tup []) (hK : AWo X ops l (st.put d (.tup [])) KK) : AWo X ops (o :: l) st KK := fun s w a hI Q hP hQ => by
  have hr := hI.ev (.tmp t)
  rw [hu, rel] at hr
  have he : a.tmps.getD t undef = undef := by
    obtain ⟨cs, h1, h2⟩ := hr
    have : cs = #[] := by
      apply Array.ext'
      cases hc : cs.toList with
      | nil => rfl
      | cons x xs => rw [hc] at h2; simp [relL] at h2
    have h3 : a.tmps.getD t undef = .tuple cs := h1
    rw [h3, this]; rfl
  have hy : yielded ops a.tmps j = none := by
    unfold yielded
    rw [ht]
    simp only [Option.bind_some]
    rw [Array.getD_eq_getD_getElem?] at he
    cases hq : a.tmps[t]? with
    | none => simp
    | some u => rw [hq] at he; simp at he; rw [he]; rfl
  refine wpList_step fun K' hK' => ?_
  have hwt : Region.wanted o (yielded ops a.tmps) = false := by simp [Region.wanted, hg, hy]
  rw [hwt, if_neg (by decide)]
  exact hK' _ _ (hK s w (a.put o.dst undef) (by rw [hd]; exact hI.put d (by rw [rel]; exact ⟨#[], rfl, by simp [relL]⟩)) Q hP hQ)
theorem s_guard_valU {j : Nat} {want b : Bool} {p : Prop} {v : V} (hg : o.guard = some (j, want)) (hd : o.dst = d) (hb : gval ops st j = some b) (h : act1 X.P st.rs (ev st) o.op = .val p v) (hK : (b == want) = true → AWo X ops l (st.put d v) KK) (hp : (b == want) = true → p)
    (hN : (b == want) = false → AWo X ops l (st.put d (.tup [])) KK) : AWo X ops (o :: l) st KK := by
  cases e : b == want
  · exact s_skipU hg hd hb e (hN e)
  · exact s_wanted_val hg hd hb e h (hK e) (hp e)
theorem s_guard_callU {j : Nat} {want b : Bool} {f : FuncId} {args : List V} {r : V} (hg : o.guard = some (j, want)) (hd : o.dst = d) (hb : gval ops st j = some b) (h : act1 X.P st.rs (ev st) o.op = .call f args) (hc : AC X.e X.P f (outL args) r) (hK : (b == want) = true → AWo X ops l (st.put d r) KK)
    (hN : (b == want) = false → AWo X ops l (st.put d (.tup [])) KK) : AWo X ops (o :: l) st KK := by
  cases e : b == want
  · exact s_skipU hg hd hb e (hN e)
  · exact s_wanted_call hg hd hb e h hc (hK e)
end
section
variable {X : Cx} {nn : Nat} {st : Vst nn} {o : Oper} {ops : Array Oper} {l : List Oper} {dst : Option Tmp} {KK : Vst nn → Prop}
theorem s_wpick_t {j : Nat} {want b b' : Bool} {c x y : Operand} (hg : o.guard = some (j, want)) (ho : o.op = .pick c x y) (hd : o.dst = dst) (hb : gval ops st j = some b) (hne : (b == want) = true) (hc : ev st c = .c (.bool b')) (hb' : b' = true) (hK : AWo X ops l (st.put dst (ev st x)) KK) : AWo X ops (o :: l) st KK :=
  awo_guard hg hb (fun _ => opOk_pick ho hc (by rw [hd, hb']; exact hK)) fun e => (e (by simpa using hne)).elim
theorem s_wpick_f {j : Nat} {want b b' : Bool} {c x y : Operand} (hg : o.guard = some (j, want)) (ho : o.op = .pick c x y) (hd : o.dst = dst) (hb : gval ops st j = some b) (hne : (b == want) = true) (hc : ev st c = .c (.bool b')) (hb' : b' = false) (hK : AWo X ops l (st.put dst (ev st y)) KK) : AWo X ops (o :: l) st KK :=
  awo_guard hg hb (fun _ => opOk_pick ho hc (by rw [hd, hb']; exact hK)) fun e => (e (by simpa using hne)).elim
end
end Go.Proofs.YtdklhkdlndlgnaaGreatDoor
namespace Go.Proofs.YtdklhkdlndlgnaaGreatDoor
open Go.RowKit
attribute [local irreducible] wpList Calls Code.wp
section
variable {X : Cx} {nn : Nat} {st : Vst nn} {o : Oper} {ops : Array Oper} {l : List Oper} {KK : Vst nn → Prop}
/-- what an operation that is done leads to -/
def w1 (X : Cx) (ops : Array Oper) (l : List Oper) (st : Vst nn) (o : Oper) (KK : Vst nn → Prop) : Prop :=
  match act1 X.P st.rs (ev st) o.op with
  | .val p v => AWo X ops l (st.put o.dst v) KK ∧ p
  | .call _ _ => False
  | .bad => match o.op with
    | .alloc t => match o.dst with
      | some m => match zeroV X.P t with
        | some vs => match Nat.ble m 999999 && freeL m vs with
          | true => AWo X ops l (((st.kill m).res m (.box t vs)).put (some m) (.bx m 0)) KK ∧ True
          | false => False
        | none => False
      | none => False
    | .pick c x y => match ev st c with
      | .c (.bool b) => match b with
        | true => AWo X ops l (st.put o.dst (ev st x)) KK ∧ True
        | false => AWo X ops l (st.put o.dst (ev st y)) KK ∧ True
      | _ => False
    | _ => False
theorem w1_ok (h : w1 X ops l st o KK) : OpOk X o st (fun st' => AWo X ops l st' KK) := by
  unfold w1 at h
  split at h
  · rename_i p v e
    exact opOk_val e h.2 h.1
  · exact h.elim
  · split at h
    · rename_i t ho
      split at h
      · rename_i m hd
        split at h
        · rename_i vs hz
          split at h
          · rename_i hb
            rw [Bool.and_eq_true] at hb
            exact opOk_alloc ho hd hb.1 hz hb.2 h.1
          · exact h.elim
        · exact h.elim
      · exact h.elim
    · rename_i c x y ho
      split at h
      · rename_i b hc
        split at h
        · exact opOk_pick ho hc h.1
        · exact opOk_pick ho hc h.1
      · exact h.elim
    · exact h.elim
/-- likewise, with its guard -/
def w2 (X : Cx) (ops : Array Oper) (l : List Oper) (st : Vst nn) (o : Oper) (KK : Vst nn → Prop) : Prop :=
  match o.guard with
  | none => w1 X ops l st o KK
  | some (j, want) => match (ops[j]?).bind (·.dst) with
    | some t => match ev st (.tmp t) with
      | .c (.bool b) => match b == want with
        | true => w1 X ops l st o KK
        | false => AWo X ops l (st.put o.dst (.tup [])) KK ∧ True
      | .tup [] => AWo X ops l (st.put o.dst (.tup [])) KK ∧ True
      | _ => False
    | none => False
theorem s_1 (h : w2 X ops l st o KK) : AWo X ops (o :: l) st KK := by
  unfold w2 at h
  split at h
  · rename_i hg
    exact awo_cons hg (w1_ok h)
  · rename_i j want hg
    split at h
    · rename_i t ht
      split at h
      · rename_i b hb
        have hv : gval ops st j = some b := by unfold gval; rw [ht]; dsimp only; rw [hb]
        split at h
        · rename_i e
          exact awo_guard hg hv (fun _ => w1_ok h) fun q => (q (by simpa using e)).elim
        · rename_i e
          exact s_skipU hg rfl hv e h.1
      · rename_i hb
        exact s_dead hg rfl ht hb h.1
      · exact h.elim
    · exact h.elim
/-- what a statement whose way is known leads to -/
def w3 (X : Cx) (c : Code) (st : Vst nn) (K : Exit → Vst nn → Prop) : Prop :=
  match c with
  | .seq x y => AW X x st (seqK X y K) ∧ True
  | .block id c => AW X c st (blockK id K) ∧ True
  | .scope c => AW X c st (scopeK K) ∧ True
  | .skip => K .normal st ∧ True
  | .label _ => K .normal st ∧ True
  | .ret => K .ret st ∧ True
  | .exit id => K (.exit id) st ∧ True
  | .cond c x y => match ev st c with
    | .c (.bool b) => match b with
      | true => AW X x st K ∧ True
      | false => AW X y st K ∧ True
    | _ => False
  | _ => False
theorem aw_1 {c : Code} {K : Exit → Vst nn → Prop} (h : w3 X c st K) : AW X c st K := by
  unfold w3 at h
  split at h
  · exact aw_seq h.1
  · exact aw_block h.1
  · exact aw_scope h.1
  · exact aw_skip h.1
  · exact aw_label h.1
  · exact aw_ret h.1
  · exact aw_exit h.1
  · rename_i c x y
    split at h
    · rename_i b hc
      split at h
      · exact aw_cond hc (fun _ => h.1) fun e => by cases e
      · exact aw_cond hc (fun e => by cases e) fun _ => h.1
    · exact h.elim
  · exact h.elim
end
end Go.Proofs.YtdklhkdlndlgnaaGreatDoor
namespace Go.Proofs.YtdklhkdlndlgnaaGreatDoor
open Go.RowKit
attribute [local irreducible] wpList Calls Code.wp AW AWo OpOk seqK blockK scopeK loopK endK endKB AC ACB absLex absLexG Yld YldG Sub
set_option maxRecDepth 100000 in
theorem ok_at {k : Nat} {d : D} (h : okJ (k + 1) d = true) : 0 ≤ (d.f 0).n ∧ (d.f 0).n ≤ 6 ∧ ((d.f 0).n = 6 → (d.f 4).l.length = (d.f 3).l.length) ∧ (4 < (d.f 0).n → ∀ i, i < (d.f 3).l.length → okJ k (gD (d.f 3).l i) = true) := by
  unfold okJ at h
  rw [Bool.and_eq_true, Bool.or_eq_true] at h
  have h1 := of_decide_eq_true h.1
  refine ⟨h1.1, h1.2.1, h1.2.2, fun h4 i hi => ?_⟩
  rcases h.2 with h2 | h2
  · have := of_decide_eq_true h2; omega
  · rw [List.all_eq_true] at h2; exact h2 i (List.mem_range.2 hi)
set_option maxRecDepth 100000 in
theorem pq_ok {k : Nat} {d : D} (h : ∀ i, i < (d.f 3).l.length → okJ k (gD (d.f 3).l i) = true) : ∀ i, i ≤ (d.f 3).l.length → (pq k d i).1 = true
  | 0, _ => rfl
  | i + 1, hi => by
    rw [pq_go (pq_ok h i (by omega))]
    show (prP k (gD (d.f 3).l i)).1 = true
    rw [(prP_ok k _).1]; exact h i (by omega)
def cellsN (n : Int) (d : D) : List V := [.c (.int .i64 n), .c (.int .i64 (d.f 1).n), .c (.string (d.f 2).s), .sl 26 (d.f 3).l, .sl 9 (d.f 4).l]
set_option maxRecDepth 100000 in
theorem cells_N (d : D) : cellsV Tryz.prog 12 26 d = cellsN (d.f 0).n d := rfl
set_option maxRecDepth 100000 in
theorem sz44 : ({ data := #[44] } : ByteArray).size = 1 := rfl
set_option maxRecDepth 100000 in
theorem sz58 : ({ data := #[58] } : ByteArray).size = 1 := rfl
set_option maxRecDepth 100000 in
theorem writeR0 (k : Nat) (d : D) (hn : (d.f 0).n = 0) (ht : (d.f 2).s.size ≤ 8388608) : AC EN5 Tryz.prog 34 [.agg (cellsV Tryz.prog 12 26 d)] (.c (.string (bs (prP (k + 1) d).2))) := by
  have hq := quoteR_ac (d.f 2).s (by omega)
  have hdc := decimalR_ac (d.f 1).n
  rw [cells_N, hn, pr_leaf (by omega)]
  refine ac_enter 65 Tryz.func34 rfl rfl rfl rfl ?_
  intro s w he
  repeat' (first
    | refine aw_region ?_
    | refine awo_nil ?_
    | refine k_seq ?_
    | refine k_block ?_
    | refine k_scope ?_
    | (apply aw_1
       conv => whnf
       refine ⟨?_, trivial⟩)
    | (apply s_1
       conv => whnf; arg 1; arg 4; arg 3; whnf
       refine ⟨?_, ?_⟩)
    | (apply s_val rfl
       · conv => lhs; whnf
       · conv => lhs; whnf; arg 2; whnf)
    | (apply s_call rfl
       · conv => lhs; whnf
       · conv => lhs; whnf
       · first | exact hq | exact hdc)
    | (apply s_box rfl rfl rfl rfl
       · conv => lhs; whnf; arg 1; whnf
       · rfl)
    | (apply aw_cond_t
       · conv => lhs; whnf; arg 1; arg 1; whnf)
    | (apply aw_cond_f
       · conv => lhs; whnf; arg 1; arg 1; whnf)
    | (refine aw_cond (by conv => lhs; whnf) ?_ ?_ <;> intro hb)
    | refine aw_ret ?_
    | refine aw_exit ?_
    | refine k_seq_exit ?_
    | refine k_seq_ret ?_
    | refine k_block_ret ?_
    | refine k_block_hit rfl ?_
    | refine k_block_miss rfl ?_
    | refine k_scope_exit ?_
    | refine k_scope_ret ?_
    | refine k_loop_exit ?_
    | refine k_loop_ret ?_
    | refine k_end ?_
    | refine k_end_ret ?_
    | (refine ⟨_, by conv => lhs; whnf; arg 2; whnf, ?_⟩; conv => rhs; whnf)
    | exact trivial
    | intro hg)
  rw [leaf0 hn]; rfl
set_option maxRecDepth 100000 in
theorem writeR1 (k : Nat) (d : D) (hn : (d.f 0).n = 1) (ht : (d.f 2).s.size ≤ 8388608) : AC EN5 Tryz.prog 34 [.agg (cellsV Tryz.prog 12 26 d)] (.c (.string (bs (prP (k + 1) d).2))) := by
  have hq := quoteR_ac (d.f 2).s (by omega)
  have hdc := decimalR_ac (d.f 1).n
  rw [cells_N, hn, pr_leaf (by omega)]
  refine ac_enter 65 Tryz.func34 rfl rfl rfl rfl ?_
  intro s w he
  repeat' (first
    | refine aw_region ?_
    | refine awo_nil ?_
    | refine k_seq ?_
    | refine k_block ?_
    | refine k_scope ?_
    | (apply aw_1
       conv => whnf
       refine ⟨?_, trivial⟩)
    | (apply s_1
       conv => whnf; arg 1; arg 4; arg 3; whnf
       refine ⟨?_, ?_⟩)
    | (apply s_val rfl
       · conv => lhs; whnf
       · conv => lhs; whnf; arg 2; whnf)
    | (apply s_call rfl
       · conv => lhs; whnf
       · conv => lhs; whnf
       · first | exact hq | exact hdc)
    | (apply s_box rfl rfl rfl rfl
       · conv => lhs; whnf; arg 1; whnf
       · rfl)
    | (apply aw_cond_t
       · conv => lhs; whnf; arg 1; arg 1; whnf)
    | (apply aw_cond_f
       · conv => lhs; whnf; arg 1; arg 1; whnf)
    | (refine aw_cond (by conv => lhs; whnf) ?_ ?_ <;> intro hb)
    | refine aw_ret ?_
    | refine aw_exit ?_
    | refine k_seq_exit ?_
    | refine k_seq_ret ?_
    | refine k_block_ret ?_
    | refine k_block_hit rfl ?_
    | refine k_block_miss rfl ?_
    | refine k_scope_exit ?_
    | refine k_scope_ret ?_
    | refine k_loop_exit ?_
    | refine k_loop_ret ?_
    | refine k_end ?_
    | refine k_end_ret ?_
    | (refine ⟨_, by conv => lhs; whnf; arg 2; whnf, ?_⟩; conv => rhs; whnf)
    | exact trivial
    | intro hg)
  · have g : (d.f 1).n = 0 := by simpa using (by assumption : ((d.f 1).n == 0) = true)
    rw [leaf1f hn g]; rfl
  · have g : ¬ (d.f 1).n = 0 := by simpa using (by assumption : ((d.f 1).n == 0) = false)
    rw [leaf1t hn g]; rfl
set_option maxRecDepth 100000 in
theorem writeR2 (k : Nat) (d : D) (hn : (d.f 0).n = 2) (ht : (d.f 2).s.size ≤ 8388608) : AC EN5 Tryz.prog 34 [.agg (cellsV Tryz.prog 12 26 d)] (.c (.string (bs (prP (k + 1) d).2))) := by
  have hq := quoteR_ac (d.f 2).s (by omega)
  have hdc := decimalR_ac (d.f 1).n
  rw [cells_N, hn, pr_leaf (by omega)]
  refine ac_enter 65 Tryz.func34 rfl rfl rfl rfl ?_
  intro s w he
  repeat' (first
    | refine aw_region ?_
    | refine awo_nil ?_
    | refine k_seq ?_
    | refine k_block ?_
    | refine k_scope ?_
    | (apply aw_1
       conv => whnf
       refine ⟨?_, trivial⟩)
    | (apply s_1
       conv => whnf; arg 1; arg 4; arg 3; whnf
       refine ⟨?_, ?_⟩)
    | (apply s_val rfl
       · conv => lhs; whnf
       · conv => lhs; whnf; arg 2; whnf)
    | (apply s_call rfl
       · conv => lhs; whnf
       · conv => lhs; whnf
       · first | exact hq | exact hdc)
    | (apply s_box rfl rfl rfl rfl
       · conv => lhs; whnf; arg 1; whnf
       · rfl)
    | (apply aw_cond_t
       · conv => lhs; whnf; arg 1; arg 1; whnf)
    | (apply aw_cond_f
       · conv => lhs; whnf; arg 1; arg 1; whnf)
    | (refine aw_cond (by conv => lhs; whnf) ?_ ?_ <;> intro hb)
    | refine aw_ret ?_
    | refine aw_exit ?_
    | refine k_seq_exit ?_
    | refine k_seq_ret ?_
    | refine k_block_ret ?_
    | refine k_block_hit rfl ?_
    | refine k_block_miss rfl ?_
    | refine k_scope_exit ?_
    | refine k_scope_ret ?_
    | refine k_loop_exit ?_
    | refine k_loop_ret ?_
    | refine k_end ?_
    | refine k_end_ret ?_
    | (refine ⟨_, by conv => lhs; whnf; arg 2; whnf, ?_⟩; conv => rhs; whnf)
    | exact trivial
    | intro hg)
  rw [leaf2 hn]
set_option maxRecDepth 100000 in
theorem writeR3 (k : Nat) (d : D) (hn : (d.f 0).n = 3) (ht : (d.f 2).s.size ≤ 8388608) : AC EN5 Tryz.prog 34 [.agg (cellsV Tryz.prog 12 26 d)] (.c (.string (bs (prP (k + 1) d).2))) := by
  have hq := quoteR_ac (d.f 2).s (by omega)
  have hdc := decimalR_ac (d.f 1).n
  rw [cells_N, hn, pr_leaf (by omega)]
  refine ac_enter 65 Tryz.func34 rfl rfl rfl rfl ?_
  intro s w he
  repeat' (first
    | refine aw_region ?_
    | refine awo_nil ?_
    | refine k_seq ?_
    | refine k_block ?_
    | refine k_scope ?_
    | (apply aw_1
       conv => whnf
       refine ⟨?_, trivial⟩)
    | (apply s_1
       conv => whnf; arg 1; arg 4; arg 3; whnf
       refine ⟨?_, ?_⟩)
    | (apply s_val rfl
       · conv => lhs; whnf
       · conv => lhs; whnf; arg 2; whnf)
    | (apply s_call rfl
       · conv => lhs; whnf
       · conv => lhs; whnf
       · first | exact hq | exact hdc)
    | (apply s_box rfl rfl rfl rfl
       · conv => lhs; whnf; arg 1; whnf
       · rfl)
    | (apply aw_cond_t
       · conv => lhs; whnf; arg 1; arg 1; whnf)
    | (apply aw_cond_f
       · conv => lhs; whnf; arg 1; arg 1; whnf)
    | (refine aw_cond (by conv => lhs; whnf) ?_ ?_ <;> intro hb)
    | refine aw_ret ?_
    | refine aw_exit ?_
    | refine k_seq_exit ?_
    | refine k_seq_ret ?_
    | refine k_block_ret ?_
    | refine k_block_hit rfl ?_
    | refine k_block_miss rfl ?_
    | refine k_scope_exit ?_
    | refine k_scope_ret ?_
    | refine k_loop_exit ?_
    | refine k_loop_ret ?_
    | refine k_end ?_
    | refine k_end_ret ?_
    | (refine ⟨_, by conv => lhs; whnf; arg 2; whnf, ?_⟩; conv => rhs; whnf)
    | exact trivial
    | intro hg)
  rw [leaf34 (by omega) (by omega) (by omega)]
set_option maxRecDepth 100000 in
theorem writeR4 (k : Nat) (d : D) (hn : (d.f 0).n = 4) (ht : (d.f 2).s.size ≤ 8388608) : AC EN5 Tryz.prog 34 [.agg (cellsV Tryz.prog 12 26 d)] (.c (.string (bs (prP (k + 1) d).2))) := by
  have hq := quoteR_ac (d.f 2).s (by omega)
  have hdc := decimalR_ac (d.f 1).n
  rw [cells_N, hn, pr_leaf (by omega)]
  refine ac_enter 65 Tryz.func34 rfl rfl rfl rfl ?_
  intro s w he
  repeat' (first
    | refine aw_region ?_
    | refine awo_nil ?_
    | refine k_seq ?_
    | refine k_block ?_
    | refine k_scope ?_
    | (apply aw_1
       conv => whnf
       refine ⟨?_, trivial⟩)
    | (apply s_1
       conv => whnf; arg 1; arg 4; arg 3; whnf
       refine ⟨?_, ?_⟩)
    | (apply s_val rfl
       · conv => lhs; whnf
       · conv => lhs; whnf; arg 2; whnf)
    | (apply s_call rfl
       · conv => lhs; whnf
       · conv => lhs; whnf
       · first | exact hq | exact hdc)
    | (apply s_box rfl rfl rfl rfl
       · conv => lhs; whnf; arg 1; whnf
       · rfl)
    | (apply aw_cond_t
       · conv => lhs; whnf; arg 1; arg 1; whnf)
    | (apply aw_cond_f
       · conv => lhs; whnf; arg 1; arg 1; whnf)
    | (refine aw_cond (by conv => lhs; whnf) ?_ ?_ <;> intro hb)
    | refine aw_ret ?_
    | refine aw_exit ?_
    | refine k_seq_exit ?_
    | refine k_seq_ret ?_
    | refine k_block_ret ?_
    | refine k_block_hit rfl ?_
    | refine k_block_miss rfl ?_
    | refine k_scope_exit ?_
    | refine k_scope_ret ?_
    | refine k_loop_exit ?_
    | refine k_loop_ret ?_
    | refine k_end ?_
    | refine k_end_ret ?_
    | (refine ⟨_, by conv => lhs; whnf; arg 2; whnf, ?_⟩; conv => rhs; whnf)
    | exact trivial
    | intro hg)
  rw [leaf34 (by omega) (by omega) (by omega)]
noncomputable def HwR5 (k : Nat) (d : D) (i : Nat) : Vst 65 := stS 65 [(1, .bx 1 0), (4, .c (.string (bs [93]))), (5, .c (.string (bs ([91] ++ (pq k d i).2)))), (6, .c (.int .i64 (i : Int)))] [(1, .box 26 (cellsN 5 d))]
set_option maxHeartbeats 4000000 in
set_option maxRecDepth 100000 in
theorem writeR5 (k : Nat) (d : D) (hn : (d.f 0).n = 5) (h : Dp (k + 1) d) (hi : intsJ (k + 1) d) (hw : wtJ (k + 1) d ≤ 8388608) (hok : ∀ i, i < (d.f 3).l.length → okJ k (gD (d.f 3).l i) = true)
    (ih : ∀ i, i < (d.f 3).l.length → AC EN5 Tryz.prog 34 [.agg (cellsV Tryz.prog 12 26 (gD (d.f 3).l i))] (.c (.string (bs (prP k (gD (d.f 3).l i)).2)))) :
    AC EN5 Tryz.prog 34 [.agg (cellsV Tryz.prog 12 26 d)] (.c (.string (bs (prP (k + 1) d).2))) := by
  have hin := wt_in h hw
  have hl := hin.items
  have hpok := pq_ok hok
  have hP := pr_end (k := k) (hpok _ (Nat.le_refl _)) (.inl hn)
  rw [if_neg (by omega), if_neg (by omega)] at hP
  have hend := fun i (hi2 : i ≤ (d.f 3).l.length) => pq_end h hi (fun e6 => by omega) hi2
  have hroom := fun i (hi2 : i < (d.f 3).l.length) => pq_room h hi (fun e6 => by omega) hi2
  rw [hP]
  have hplen := fun i (hi2 : i < (d.f 3).l.length) => prP_len (h i hi2) (hi.2 i hi2)
  rw [cells_N, hn]
  refine ac_enter 65 Tryz.func34 rfl rfl rfl rfl ?_
  intro s w he
  repeat' (first
    | refine aw_region ?_
    | refine awo_nil ?_
    | refine k_seq ?_
    | refine k_block ?_
    | refine k_scope ?_
    | (apply aw_1
       conv => whnf
       refine ⟨?_, trivial⟩)
    | (apply s_1
       conv => whnf; arg 1; arg 4; arg 3; whnf
       refine ⟨?_, ?_⟩)
    | (apply s_val rfl
       · conv => lhs; whnf
       · conv => lhs; whnf; arg 2; whnf)
    | (apply s_call rfl
       · conv => lhs; whnf
       · conv => lhs; whnf
       · first | fail)
    | (apply s_box rfl rfl rfl rfl
       · conv => lhs; whnf; arg 1; whnf
       · rfl)
    | (apply aw_cond_t
       · conv => lhs; whnf; arg 1; arg 1; whnf)
    | (apply aw_cond_f
       · conv => lhs; whnf; arg 1; arg 1; whnf)
    | (refine aw_cond (by conv => lhs; whnf) ?_ ?_ <;> intro hb)
    | refine aw_ret ?_
    | refine aw_exit ?_
    | refine k_seq_exit ?_
    | refine k_seq_ret ?_
    | refine k_block_ret ?_
    | refine k_block_hit rfl ?_
    | refine k_block_miss rfl ?_
    | refine k_scope_exit ?_
    | refine k_scope_ret ?_
    | refine k_loop_exit ?_
    | refine k_loop_ret ?_
    | refine k_end ?_
    | refine k_end_ret ?_
    | (refine ⟨_, by conv => lhs; whnf; arg 2; whnf, ?_⟩; conv => rhs; whnf)
    | exact trivial
    | intro hg)
  refine aw_loop (fun j st => ∃ i, i + j = (d.f 3).l.length ∧ Sub (cx EN5 Tryz.prog s w he) st (HwR5 k d i)) (d.f 3).l.length ⟨0, by omega, ?_⟩ ?_
  · exact Sub.live ⟨rfl, rfl, rfl, rfl, trivial⟩ ⟨rfl, trivial⟩
  · rintro j st ⟨i, hij, hs2⟩
    refine aw_sub hs2 ?_
    clear hs2
    have ih2 := fun (h : decide ((i : Int) < ((d.f 3).l.length : Int)) = true) => ih i (lt_b h)
    repeat' (first
    | refine aw_region ?_
    | refine awo_nil ?_
    | refine k_seq ?_
    | refine k_block ?_
    | refine k_scope ?_
    | (apply aw_1
       conv => whnf
       refine ⟨?_, trivial⟩)
    | (apply s_1
       conv => whnf; arg 1; arg 4; arg 3; whnf
       refine ⟨?_, ?_⟩)
    | (apply s_val rfl
       · conv => lhs; whnf
       · conv => lhs; whnf; arg 2; whnf)
    | (apply s_call rfl
       · conv => lhs; whnf
       · conv => lhs; whnf
       · first | exact ih2 (by assumption))
    | (apply s_box rfl rfl rfl rfl
       · conv => lhs; whnf; arg 1; whnf
       · rfl)
    | (apply aw_cond_t
       · conv => lhs; whnf; arg 1; arg 1; whnf)
    | (apply aw_cond_f
       · conv => lhs; whnf; arg 1; arg 1; whnf)
    | (refine aw_cond (by conv => lhs; whnf) ?_ ?_ <;> intro hb)
    | refine aw_ret ?_
    | refine aw_exit ?_
    | refine k_seq_exit ?_
    | refine k_seq_ret ?_
    | refine k_block_ret ?_
    | refine k_block_hit rfl ?_
    | refine k_block_miss rfl ?_
    | refine k_scope_exit ?_
    | refine k_scope_ret ?_
    | refine k_loop_exit ?_
    | refine k_loop_ret ?_
    | refine k_end ?_
    | refine k_end_ret ?_
    | (refine ⟨_, by conv => lhs; whnf; arg 2; whnf, ?_⟩; conv => rhs; whnf)
    | exact trivial
    | intro hg)
    all_goals
      first
        | (have g := lt_b (i := i) (n := (d.f 3).l.length) (by assumption)
           have g2 := hroom i g
           have g3 := hplen i g
           have hgo := pq_go (hpok i (by omega))
           rw [sep5 hn] at g2 hgo
           try simp only [List.length_append, List.length_cons, List.length_nil, keyU] at g2
           first
             | exact i64_in2 (by omega)
             | exact ixn_ok g
             | exact ⟨by omega, by omega⟩
             | (simp only [ByteArray.size_append, bs_size, List.length_append, List.length_cons, List.length_nil, sz44, sz58, maxLen]
                omega)
             | (have g0 : decide ((i : Int) > 0) = true := by assumption
                have g0 : 0 < i := by have := of_decide_eq_true g0; omega
                rw [if_pos g0] at hgo
                refine k_loop_next (j' := j - 1) (by omega) ⟨i + 1, by omega, Sub.live ⟨rfl, rfl, ?_, rfl, trivial⟩ ⟨rfl, trivial⟩⟩
                rw [hgo]
                show V.c (.string (bs ([91] ++ (pq k d i).2) ++ bs [44] ++  bs (prP k (gD (d.f 3).l i)).2)) = V.c (.string (bs _))
                simp only [bs_append, List.append_assoc, keyU])
             | (have g0 : decide ((i : Int) > 0) = false := by assumption
                have g0 : ¬ 0 < i := by have := of_decide_eq_false g0; omega
                rw [if_neg g0] at hgo
                refine k_loop_next (j' := j - 1) (by omega) ⟨i + 1, by omega, Sub.live ⟨rfl, rfl, ?_, rfl, trivial⟩ ⟨rfl, trivial⟩⟩
                rw [hgo]
                show V.c (.string (bs ([91] ++ (pq k d i).2) ++  bs (prP k (gD (d.f 3).l i)).2)) = V.c (.string (bs _))
                simp only [bs_append, List.append_assoc, List.nil_append, List.append_nil, keyU]))
        | (have g := ge_b (i := i) (n := (d.f 3).l.length) (by assumption)
           have e : i = (d.f 3).l.length := by omega
           subst e
           have g2 := hend _ (Nat.le_refl _)
           first
             | (simp only [bs_size, List.length_append, List.length_cons, List.length_nil, maxLen]
                omega)
             | (show V.c (.string (bs _)) = V.c (.string (bs _ ++ bs _))
                rw [bs_append]))
noncomputable def HwR6 (k : Nat) (d : D) (i : Nat) : Vst 65 := stS 65 [(1, .bx 1 0), (4, .c (.string (bs [125]))), (5, .c (.string (bs ([123] ++ (pq k d i).2)))), (6, .c (.int .i64 (i : Int)))] [(1, .box 26 (cellsN 6 d))]
set_option maxHeartbeats 4000000 in
set_option maxRecDepth 100000 in
theorem writeR6 (k : Nat) (d : D) (hn : (d.f 0).n = 6) (hll : (d.f 4).l.length = (d.f 3).l.length) (h : Dp (k + 1) d) (hi : intsJ (k + 1) d) (hw : wtJ (k + 1) d ≤ 8388608) (hok : ∀ i, i < (d.f 3).l.length → okJ k (gD (d.f 3).l i) = true)
    (ih : ∀ i, i < (d.f 3).l.length → AC EN5 Tryz.prog 34 [.agg (cellsV Tryz.prog 12 26 (gD (d.f 3).l i))] (.c (.string (bs (prP k (gD (d.f 3).l i)).2)))) :
    AC EN5 Tryz.prog 34 [.agg (cellsV Tryz.prog 12 26 d)] (.c (.string (bs (prP (k + 1) d).2))) := by
  have hin := wt_in h hw
  have hl := hin.items
  have hpok := pq_ok hok
  have hP := pr_end (k := k) (hpok _ (Nat.le_refl _)) (.inr ⟨hn, hll⟩)
  rw [if_pos hn, if_pos hn] at hP
  have hend := fun i (hi2 : i ≤ (d.f 3).l.length) => pq_end h hi (fun e6 => hll) hi2
  have hroom := fun i (hi2 : i < (d.f 3).l.length) => pq_room h hi (fun e6 => hll) hi2
  rw [hP]
  have hplen := fun i (hi2 : i < (d.f 3).l.length) => prP_len (h i hi2) (hi.2 i hi2)
  rw [cells_N, hn]
  refine ac_enter 65 Tryz.func34 rfl rfl rfl rfl ?_
  intro s w he
  repeat' (first
    | refine aw_region ?_
    | refine awo_nil ?_
    | refine k_seq ?_
    | refine k_block ?_
    | refine k_scope ?_
    | (apply aw_1
       conv => whnf
       refine ⟨?_, trivial⟩)
    | (apply s_1
       conv => whnf; arg 1; arg 4; arg 3; whnf
       refine ⟨?_, ?_⟩)
    | (apply s_val rfl
       · conv => lhs; whnf
       · conv => lhs; whnf; arg 2; whnf)
    | (apply s_call rfl
       · conv => lhs; whnf
       · conv => lhs; whnf
       · first | fail)
    | (apply s_box rfl rfl rfl rfl
       · conv => lhs; whnf; arg 1; whnf
       · rfl)
    | (apply aw_cond_t
       · conv => lhs; whnf; arg 1; arg 1; whnf)
    | (apply aw_cond_f
       · conv => lhs; whnf; arg 1; arg 1; whnf)
    | (refine aw_cond (by conv => lhs; whnf) ?_ ?_ <;> intro hb)
    | refine aw_ret ?_
    | refine aw_exit ?_
    | refine k_seq_exit ?_
    | refine k_seq_ret ?_
    | refine k_block_ret ?_
    | refine k_block_hit rfl ?_
    | refine k_block_miss rfl ?_
    | refine k_scope_exit ?_
    | refine k_scope_ret ?_
    | refine k_loop_exit ?_
    | refine k_loop_ret ?_
    | refine k_end ?_
    | refine k_end_ret ?_
    | (refine ⟨_, by conv => lhs; whnf; arg 2; whnf, ?_⟩; conv => rhs; whnf)
    | exact trivial
    | intro hg)
  refine aw_loop (fun j st => ∃ i, i + j = (d.f 3).l.length ∧ Sub (cx EN5 Tryz.prog s w he) st (HwR6 k d i)) (d.f 3).l.length ⟨0, by omega, ?_⟩ ?_
  · exact Sub.live ⟨rfl, rfl, rfl, rfl, trivial⟩ ⟨rfl, trivial⟩
  · rintro j st ⟨i, hij, hs2⟩
    refine aw_sub hs2 ?_
    clear hs2
    have ih2 := fun (h : decide ((i : Int) < ((d.f 3).l.length : Int)) = true) => ih i (lt_b h)
    have hkq := fun (g : decide ((i : Int) < ((d.f 3).l.length : Int)) = true) => quoteR_ac (gD (d.f 4).l i).s (by
      have := lt_b g
      have h1 := hin.key i (by omega)
      omega)
    repeat' (first
    | refine aw_region ?_
    | refine awo_nil ?_
    | refine k_seq ?_
    | refine k_block ?_
    | refine k_scope ?_
    | (apply aw_1
       conv => whnf
       refine ⟨?_, trivial⟩)
    | (apply s_1
       conv => whnf; arg 1; arg 4; arg 3; whnf
       refine ⟨?_, ?_⟩)
    | (apply s_val rfl
       · conv => lhs; whnf
       · conv => lhs; whnf; arg 2; whnf)
    | (apply s_call rfl
       · conv => lhs; whnf
       · conv => lhs; whnf
       · first | exact ih2 (by assumption) | exact hkq (by assumption))
    | (apply s_box rfl rfl rfl rfl
       · conv => lhs; whnf; arg 1; whnf
       · rfl)
    | (apply aw_cond_t
       · conv => lhs; whnf; arg 1; arg 1; whnf)
    | (apply aw_cond_f
       · conv => lhs; whnf; arg 1; arg 1; whnf)
    | (refine aw_cond (by conv => lhs; whnf) ?_ ?_ <;> intro hb)
    | refine aw_ret ?_
    | refine aw_exit ?_
    | refine k_seq_exit ?_
    | refine k_seq_ret ?_
    | refine k_block_ret ?_
    | refine k_block_hit rfl ?_
    | refine k_block_miss rfl ?_
    | refine k_scope_exit ?_
    | refine k_scope_ret ?_
    | refine k_loop_exit ?_
    | refine k_loop_ret ?_
    | refine k_end ?_
    | refine k_end_ret ?_
    | (refine ⟨_, by conv => lhs; whnf; arg 2; whnf, ?_⟩; conv => rhs; whnf)
    | exact trivial
    | intro hg)
    all_goals
      first
        | (have g := lt_b (i := i) (n := (d.f 3).l.length) (by assumption)
           have g2 := hroom i g
           have g3 := hplen i g
           have hgo := pq_go (hpok i (by omega))
           rw [sep6 hn] at g2 hgo
           try simp only [List.length_append, List.length_cons, List.length_nil, keyU] at g2
           first
             | exact i64_in2 (by omega)
             | exact ixn_ok g
             | exact ⟨by omega, by omega⟩
             | (simp only [ByteArray.size_append, bs_size, List.length_append, List.length_cons, List.length_nil, sz44, sz58, maxLen]
                omega)
             | (have g0 : decide ((i : Int) > 0) = true := by assumption
                have g0 : 0 < i := by have := of_decide_eq_true g0; omega
                rw [if_pos g0] at hgo
                refine k_loop_next (j' := j - 1) (by omega) ⟨i + 1, by omega, Sub.live ⟨rfl, rfl, ?_, rfl, trivial⟩ ⟨rfl, trivial⟩⟩
                rw [hgo]
                show V.c (.string (bs ([123] ++ (pq k d i).2) ++ bs [44] ++ bs (quoteU (gD (d.f 4).l i).s.data.toList) ++ bs [58] ++ bs (prP k (gD (d.f 3).l i)).2)) = V.c (.string (bs _))
                simp only [bs_append, List.append_assoc, keyU])
             | (have g0 : decide ((i : Int) > 0) = false := by assumption
                have g0 : ¬ 0 < i := by have := of_decide_eq_false g0; omega
                rw [if_neg g0] at hgo
                refine k_loop_next (j' := j - 1) (by omega) ⟨i + 1, by omega, Sub.live ⟨rfl, rfl, ?_, rfl, trivial⟩ ⟨rfl, trivial⟩⟩
                rw [hgo]
                show V.c (.string (bs ([123] ++ (pq k d i).2) ++ bs (quoteU (gD (d.f 4).l i).s.data.toList) ++ bs [58] ++ bs (prP k (gD (d.f 3).l i)).2)) = V.c (.string (bs _))
                simp only [bs_append, List.append_assoc, List.nil_append, List.append_nil, keyU]))
        | (have g := ge_b (i := i) (n := (d.f 3).l.length) (by assumption)
           have e : i = (d.f 3).l.length := by omega
           subst e
           have g2 := hend _ (Nat.le_refl _)
           first
             | (simp only [bs_size, List.length_append, List.length_cons, List.length_nil, maxLen]
                omega)
             | (show V.c (.string (bs _)) = V.c (.string (bs _ ++ bs _))
                rw [bs_append]))
set_option maxRecDepth 100000 in
theorem writeR_ac : ∀ (k : Nat) (d : D), Dp k d → intsJ k d → okJ k d = true → wtJ k d ≤ 8388608 → AC EN5 Tryz.prog 34 [.agg (cellsV Tryz.prog 12 26 d)] (.c (.string (bs (prP k d).2)))
  | 0, _, h, _, _, _ => h.elim
  | k + 1, d, h, hi, hok, hw => by
    obtain ⟨h0, h6, hl, hit⟩ := ok_at hok
    have hin := wt_in h hw
    have ht := hin.text
    by_cases h4 : 4 < (d.f 0).n
    · have ih := fun i (hil : i < (d.f 3).l.length) => writeR_ac k (gD (d.f 3).l i) (h i hil) (hi.2 i hil) (hit h4 i hil) (hin.at_ i hil)
      by_cases h5 : (d.f 0).n = 5
      · exact writeR5 k d h5 h hi hw (hit h4) ih
      · have h6 : (d.f 0).n = 6 := by omega
        exact writeR6 k d h6 (hl h6) h hi hw (hit h4) ih
    · by_cases e0 : (d.f 0).n = 0
      · exact writeR0 k d e0 (by omega)
      by_cases e1 : (d.f 0).n = 1
      · exact writeR1 k d e1 (by omega)
      by_cases e2 : (d.f 0).n = 2
      · exact writeR2 k d e2 (by omega)
      by_cases e3 : (d.f 0).n = 3
      · exact writeR3 k d e3 (by omega)
      · exact writeR4 k d (by omega) (by omega)
set_option maxRecDepth 100000 in
theorem okJ_leaf {k : Nat} {d : D} (h : 0 ≤ (d.f 0).n ∧ (d.f 0).n ≤ 4) : okJ (k + 1) d = true := by
  unfold okJ
  rw [decide_eq_true (show 0 ≤ (d.f 0).n ∧ (d.f 0).n ≤ 6 ∧ ((d.f 0).n = 6 → (d.f 4).l.length = (d.f 3).l.length) from ⟨h.1, by omega, fun h6 => by omega⟩), decide_eq_true h.2]
  rfl
set_option maxRecDepth 100000 in
theorem okJ_no {k : Nat} {d : D} (h : (d.f 0).n < 0 ∨ 6 < (d.f 0).n) : okJ (k + 1) d = false := by
  unfold okJ
  rw [decide_eq_false fun hh => by omega]; rfl
set_option maxRecDepth 100000 in
theorem okJ_bad {k : Nat} {d : D} (h : (d.f 0).n = 6) (hl : ¬ (d.f 4).l.length = (d.f 3).l.length) : okJ (k + 1) d = false := by
  unfold okJ
  rw [decide_eq_false fun hh => hl (hh.2.2 h)]; rfl
set_option maxRecDepth 100000 in
theorem okJ_many {k : Nat} {d : D} (h : (d.f 0).n = 5 ∨ (d.f 0).n = 6 ∧ (d.f 4).l.length = (d.f 3).l.length) : okJ (k + 1) d = (List.range (d.f 3).l.length).all fun i => okJ k (gD (d.f 3).l i) := by
  show (decide (0 ≤ (d.f 0).n ∧ (d.f 0).n ≤ 6 ∧ ((d.f 0).n = 6 → (d.f 4).l.length = (d.f 3).l.length)) && (decide ((d.f 0).n ≤ 4) || (List.range (d.f 3).l.length).all fun i => okJ k (gD (d.f 3).l i))) = _
  rw [decide_eq_true (show 0 ≤ (d.f 0).n ∧ (d.f 0).n ≤ 6 ∧ ((d.f 0).n = 6 → (d.f 4).l.length = (d.f 3).l.length) from ⟨by omega, by omega, fun h6 => by omega⟩), decide_eq_false (show ¬ (d.f 0).n ≤ 4 by omega)]
  rfl
set_option maxRecDepth 100000 in
theorem printableR_no (k : Nat) (d : D) (h : (d.f 0).n < 0 ∨ 6 < (d.f 0).n) : AC EN5 Tryz.prog 33 [.agg (cellsV Tryz.prog 12 26 d)] (.c (.bool (okJ (k + 1) d))) := by
  rw [okJ_no h]
  refine ac_enter 46 Tryz.func33 rfl rfl rfl rfl ?_
  intro s w he
  repeat' (first
    | (apply s_wanted_pick_t rfl rfl rfl
       · conv => lhs; whnf
       · first | rfl | assumption
       · conv => lhs; whnf
       · first | exact bT1 (by assumption) | exact bT2 (by assumption) | rfl)
    | (apply s_wpick_t rfl rfl rfl
       · conv => lhs; whnf
       · first | rfl | assumption
       · conv => lhs; whnf
       · first | exact bT1 (by assumption) | exact bT2 (by assumption) | rfl)
    | (apply s_wanted_pick_f rfl rfl rfl
       · conv => lhs; whnf
       · first | rfl | assumption
       · conv => lhs; whnf
       · first | exact bF1 (by assumption) | exact bF2 (by assumption) | rfl)
    | (apply s_wpick_f rfl rfl rfl
       · conv => lhs; whnf
       · first | rfl | assumption
       · conv => lhs; whnf
       · first | exact bF1 (by assumption) | exact bF2 (by assumption) | rfl)
    | refine aw_region ?_
    | refine awo_nil ?_
    | refine k_seq ?_
    | refine k_block ?_
    | refine k_scope ?_
    | (apply aw_1
       conv => whnf
       refine ⟨?_, trivial⟩)
    | (apply s_pick_t rfl rfl
       · conv => lhs; whnf
       · conv => lhs; whnf
       · first | exact bT1 (by assumption) | exact bT2 (by assumption))
    | (apply s_pick_f rfl rfl
       · conv => lhs; whnf
       · conv => lhs; whnf
       · first | exact bF1 (by assumption) | exact bF2 (by assumption))
    | (apply s_1
       conv => whnf; arg 1; arg 4; arg 3; whnf
       refine ⟨?_, ?_⟩)
    | (apply s_val rfl
       · conv => lhs; whnf
       · conv => lhs; whnf; arg 2; whnf)
    | (apply s_call rfl
       · conv => lhs; whnf
       · conv => lhs; whnf
       · first | fail)
    | (apply s_box rfl rfl rfl rfl
       · conv => lhs; whnf; arg 1; whnf
       · rfl)
    | (apply s_wanted_val rfl
       · conv => lhs; whnf
       · conv => lhs; whnf
       · first | rfl | assumption
       · conv => lhs; whnf; arg 2; whnf)
    | (apply s_wanted_call rfl
       · conv => lhs; whnf
       · conv => lhs; whnf
       · first | rfl | assumption
       · conv => lhs; whnf
       · first | fail)
    | (apply s_skipU rfl
       · conv => lhs; whnf
       · conv => lhs; whnf
       · first | rfl | assumption)
    | (apply s_dead rfl
       · conv => lhs; whnf
       · rfl
       · rfl)
    | (apply s_guard_valU rfl
       · conv => lhs; whnf
       · conv => lhs; whnf
       · conv => lhs; whnf; arg 2; whnf)
    | (apply s_guard_callU rfl
       · conv => lhs; whnf
       · conv => lhs; whnf
       · conv => lhs; whnf
       · first | fail)
    | (apply s_guard_val rfl
       · conv => lhs; whnf
       · conv => lhs; whnf
       · conv => lhs; whnf; arg 2; whnf)
    | (apply s_guard_call rfl
       · conv => lhs; whnf
       · conv => lhs; whnf
       · conv => lhs; whnf
       · first | fail)
    | (apply aw_cond_t
       · conv => lhs; whnf; arg 1; arg 1; whnf)
    | (apply aw_cond_f
       · conv => lhs; whnf; arg 1; arg 1; whnf)
    | (refine aw_cond (by conv => lhs; whnf) ?_ ?_ <;> intro hb)
    | refine aw_ret ?_
    | refine aw_exit ?_
    | refine k_seq_exit ?_
    | refine k_seq_ret ?_
    | refine k_block_ret ?_
    | refine k_block_hit rfl ?_
    | refine k_block_miss rfl ?_
    | refine k_scope_exit ?_
    | refine k_scope_ret ?_
    | refine k_loop_exit ?_
    | refine k_loop_ret ?_
    | refine k_end ?_
    | refine k_end_ret ?_
    | (refine ⟨_, by conv => lhs; whnf; arg 2; whnf, ?_⟩; conv => rhs; whnf)
    | exact trivial
    | intro hg)
  all_goals
    exfalso
    simp only [Bool.beq_eq_decide_eq, Bool.decide_eq_true, decide_eq_true_iff, decide_eq_false_iff_not, beq_iff_eq, gt_iff_lt] at *
    first | omega | (simp at *; omega)
set_option maxRecDepth 100000 in
theorem printableR0 (k : Nat) (d : D) (hn : (d.f 0).n = 0) : AC EN5 Tryz.prog 33 [.agg (cellsV Tryz.prog 12 26 d)] (.c (.bool (okJ (k + 1) d))) := by
  rw [okJ_leaf (by omega), cells_N, hn]
  refine ac_enter 46 Tryz.func33 rfl rfl rfl rfl ?_
  intro s w he
  repeat' (first
    | (apply s_wanted_pick_t rfl rfl rfl
       · conv => lhs; whnf
       · first | rfl | assumption
       · conv => lhs; whnf
       · first | exact bT1 (by assumption) | exact bT2 (by assumption) | rfl)
    | (apply s_wpick_t rfl rfl rfl
       · conv => lhs; whnf
       · first | rfl | assumption
       · conv => lhs; whnf
       · first | exact bT1 (by assumption) | exact bT2 (by assumption) | rfl)
    | (apply s_wanted_pick_f rfl rfl rfl
       · conv => lhs; whnf
       · first | rfl | assumption
       · conv => lhs; whnf
       · first | exact bF1 (by assumption) | exact bF2 (by assumption) | rfl)
    | (apply s_wpick_f rfl rfl rfl
       · conv => lhs; whnf
       · first | rfl | assumption
       · conv => lhs; whnf
       · first | exact bF1 (by assumption) | exact bF2 (by assumption) | rfl)
    | refine aw_region ?_
    | refine awo_nil ?_
    | refine k_seq ?_
    | refine k_block ?_
    | refine k_scope ?_
    | (apply aw_1
       conv => whnf
       refine ⟨?_, trivial⟩)
    | (apply s_pick_t rfl rfl
       · conv => lhs; whnf
       · conv => lhs; whnf
       · first | exact bT1 (by assumption) | exact bT2 (by assumption))
    | (apply s_pick_f rfl rfl
       · conv => lhs; whnf
       · conv => lhs; whnf
       · first | exact bF1 (by assumption) | exact bF2 (by assumption))
    | (apply s_1
       conv => whnf; arg 1; arg 4; arg 3; whnf
       refine ⟨?_, ?_⟩)
    | (apply s_val rfl
       · conv => lhs; whnf
       · conv => lhs; whnf; arg 2; whnf)
    | (apply s_call rfl
       · conv => lhs; whnf
       · conv => lhs; whnf
       · first | fail)
    | (apply s_box rfl rfl rfl rfl
       · conv => lhs; whnf; arg 1; whnf
       · rfl)
    | (apply s_wanted_val rfl
       · conv => lhs; whnf
       · conv => lhs; whnf
       · first | rfl | assumption
       · conv => lhs; whnf; arg 2; whnf)
    | (apply s_wanted_call rfl
       · conv => lhs; whnf
       · conv => lhs; whnf
       · first | rfl | assumption
       · conv => lhs; whnf
       · first | fail)
    | (apply s_skipU rfl
       · conv => lhs; whnf
       · conv => lhs; whnf
       · first | rfl | assumption)
    | (apply s_dead rfl
       · conv => lhs; whnf
       · rfl
       · rfl)
    | (apply s_guard_valU rfl
       · conv => lhs; whnf
       · conv => lhs; whnf
       · conv => lhs; whnf; arg 2; whnf)
    | (apply s_guard_callU rfl
       · conv => lhs; whnf
       · conv => lhs; whnf
       · conv => lhs; whnf
       · first | fail)
    | (apply s_guard_val rfl
       · conv => lhs; whnf
       · conv => lhs; whnf
       · conv => lhs; whnf; arg 2; whnf)
    | (apply s_guard_call rfl
       · conv => lhs; whnf
       · conv => lhs; whnf
       · conv => lhs; whnf
       · first | fail)
    | (apply aw_cond_t
       · conv => lhs; whnf; arg 1; arg 1; whnf)
    | (apply aw_cond_f
       · conv => lhs; whnf; arg 1; arg 1; whnf)
    | (refine aw_cond (by conv => lhs; whnf) ?_ ?_ <;> intro hb)
    | refine aw_ret ?_
    | refine aw_exit ?_
    | refine k_seq_exit ?_
    | refine k_seq_ret ?_
    | refine k_block_ret ?_
    | refine k_block_hit rfl ?_
    | refine k_block_miss rfl ?_
    | refine k_scope_exit ?_
    | refine k_scope_ret ?_
    | refine k_loop_exit ?_
    | refine k_loop_ret ?_
    | refine k_end ?_
    | refine k_end_ret ?_
    | (refine ⟨_, by conv => lhs; whnf; arg 2; whnf, ?_⟩; conv => rhs; whnf)
    | exact trivial
    | intro hg)
set_option maxRecDepth 100000 in
theorem printableR1 (k : Nat) (d : D) (hn : (d.f 0).n = 1) : AC EN5 Tryz.prog 33 [.agg (cellsV Tryz.prog 12 26 d)] (.c (.bool (okJ (k + 1) d))) := by
  rw [okJ_leaf (by omega), cells_N, hn]
  refine ac_enter 46 Tryz.func33 rfl rfl rfl rfl ?_
  intro s w he
  repeat' (first
    | (apply s_wanted_pick_t rfl rfl rfl
       · conv => lhs; whnf
       · first | rfl | assumption
       · conv => lhs; whnf
       · first | exact bT1 (by assumption) | exact bT2 (by assumption) | rfl)
    | (apply s_wpick_t rfl rfl rfl
       · conv => lhs; whnf
       · first | rfl | assumption
       · conv => lhs; whnf
       · first | exact bT1 (by assumption) | exact bT2 (by assumption) | rfl)
    | (apply s_wanted_pick_f rfl rfl rfl
       · conv => lhs; whnf
       · first | rfl | assumption
       · conv => lhs; whnf
       · first | exact bF1 (by assumption) | exact bF2 (by assumption) | rfl)
    | (apply s_wpick_f rfl rfl rfl
       · conv => lhs; whnf
       · first | rfl | assumption
       · conv => lhs; whnf
       · first | exact bF1 (by assumption) | exact bF2 (by assumption) | rfl)
    | refine aw_region ?_
    | refine awo_nil ?_
    | refine k_seq ?_
    | refine k_block ?_
    | refine k_scope ?_
    | (apply aw_1
       conv => whnf
       refine ⟨?_, trivial⟩)
    | (apply s_pick_t rfl rfl
       · conv => lhs; whnf
       · conv => lhs; whnf
       · first | exact bT1 (by assumption) | exact bT2 (by assumption))
    | (apply s_pick_f rfl rfl
       · conv => lhs; whnf
       · conv => lhs; whnf
       · first | exact bF1 (by assumption) | exact bF2 (by assumption))
    | (apply s_1
       conv => whnf; arg 1; arg 4; arg 3; whnf
       refine ⟨?_, ?_⟩)
    | (apply s_val rfl
       · conv => lhs; whnf
       · conv => lhs; whnf; arg 2; whnf)
    | (apply s_call rfl
       · conv => lhs; whnf
       · conv => lhs; whnf
       · first | fail)
    | (apply s_box rfl rfl rfl rfl
       · conv => lhs; whnf; arg 1; whnf
       · rfl)
    | (apply s_wanted_val rfl
       · conv => lhs; whnf
       · conv => lhs; whnf
       · first | rfl | assumption
       · conv => lhs; whnf; arg 2; whnf)
    | (apply s_wanted_call rfl
       · conv => lhs; whnf
       · conv => lhs; whnf
       · first | rfl | assumption
       · conv => lhs; whnf
       · first | fail)
    | (apply s_skipU rfl
       · conv => lhs; whnf
       · conv => lhs; whnf
       · first | rfl | assumption)
    | (apply s_dead rfl
       · conv => lhs; whnf
       · rfl
       · rfl)
    | (apply s_guard_valU rfl
       · conv => lhs; whnf
       · conv => lhs; whnf
       · conv => lhs; whnf; arg 2; whnf)
    | (apply s_guard_callU rfl
       · conv => lhs; whnf
       · conv => lhs; whnf
       · conv => lhs; whnf
       · first | fail)
    | (apply s_guard_val rfl
       · conv => lhs; whnf
       · conv => lhs; whnf
       · conv => lhs; whnf; arg 2; whnf)
    | (apply s_guard_call rfl
       · conv => lhs; whnf
       · conv => lhs; whnf
       · conv => lhs; whnf
       · first | fail)
    | (apply aw_cond_t
       · conv => lhs; whnf; arg 1; arg 1; whnf)
    | (apply aw_cond_f
       · conv => lhs; whnf; arg 1; arg 1; whnf)
    | (refine aw_cond (by conv => lhs; whnf) ?_ ?_ <;> intro hb)
    | refine aw_ret ?_
    | refine aw_exit ?_
    | refine k_seq_exit ?_
    | refine k_seq_ret ?_
    | refine k_block_ret ?_
    | refine k_block_hit rfl ?_
    | refine k_block_miss rfl ?_
    | refine k_scope_exit ?_
    | refine k_scope_ret ?_
    | refine k_loop_exit ?_
    | refine k_loop_ret ?_
    | refine k_end ?_
    | refine k_end_ret ?_
    | (refine ⟨_, by conv => lhs; whnf; arg 2; whnf, ?_⟩; conv => rhs; whnf)
    | exact trivial
    | intro hg)
set_option maxRecDepth 100000 in
theorem printableR2 (k : Nat) (d : D) (hn : (d.f 0).n = 2) : AC EN5 Tryz.prog 33 [.agg (cellsV Tryz.prog 12 26 d)] (.c (.bool (okJ (k + 1) d))) := by
  rw [okJ_leaf (by omega), cells_N, hn]
  refine ac_enter 46 Tryz.func33 rfl rfl rfl rfl ?_
  intro s w he
  repeat' (first
    | (apply s_wanted_pick_t rfl rfl rfl
       · conv => lhs; whnf
       · first | rfl | assumption
       · conv => lhs; whnf
       · first | exact bT1 (by assumption) | exact bT2 (by assumption) | rfl)
    | (apply s_wpick_t rfl rfl rfl
       · conv => lhs; whnf
       · first | rfl | assumption
       · conv => lhs; whnf
       · first | exact bT1 (by assumption) | exact bT2 (by assumption) | rfl)
    | (apply s_wanted_pick_f rfl rfl rfl
       · conv => lhs; whnf
       · first | rfl | assumption
       · conv => lhs; whnf
       · first | exact bF1 (by assumption) | exact bF2 (by assumption) | rfl)
    | (apply s_wpick_f rfl rfl rfl
       · conv => lhs; whnf
       · first | rfl | assumption
       · conv => lhs; whnf
       · first | exact bF1 (by assumption) | exact bF2 (by assumption) | rfl)
    | refine aw_region ?_
    | refine awo_nil ?_
    | refine k_seq ?_
    | refine k_block ?_
    | refine k_scope ?_
    | (apply aw_1
       conv => whnf
       refine ⟨?_, trivial⟩)
    | (apply s_pick_t rfl rfl
       · conv => lhs; whnf
       · conv => lhs; whnf
       · first | exact bT1 (by assumption) | exact bT2 (by assumption))
    | (apply s_pick_f rfl rfl
       · conv => lhs; whnf
       · conv => lhs; whnf
       · first | exact bF1 (by assumption) | exact bF2 (by assumption))
    | (apply s_1
       conv => whnf; arg 1; arg 4; arg 3; whnf
       refine ⟨?_, ?_⟩)
    | (apply s_val rfl
       · conv => lhs; whnf
       · conv => lhs; whnf; arg 2; whnf)
    | (apply s_call rfl
       · conv => lhs; whnf
       · conv => lhs; whnf
       · first | fail)
    | (apply s_box rfl rfl rfl rfl
       · conv => lhs; whnf; arg 1; whnf
       · rfl)
    | (apply s_wanted_val rfl
       · conv => lhs; whnf
       · conv => lhs; whnf
       · first | rfl | assumption
       · conv => lhs; whnf; arg 2; whnf)
    | (apply s_wanted_call rfl
       · conv => lhs; whnf
       · conv => lhs; whnf
       · first | rfl | assumption
       · conv => lhs; whnf
       · first | fail)
    | (apply s_skipU rfl
       · conv => lhs; whnf
       · conv => lhs; whnf
       · first | rfl | assumption)
    | (apply s_dead rfl
       · conv => lhs; whnf
       · rfl
       · rfl)
    | (apply s_guard_valU rfl
       · conv => lhs; whnf
       · conv => lhs; whnf
       · conv => lhs; whnf; arg 2; whnf)
    | (apply s_guard_callU rfl
       · conv => lhs; whnf
       · conv => lhs; whnf
       · conv => lhs; whnf
       · first | fail)
    | (apply s_guard_val rfl
       · conv => lhs; whnf
       · conv => lhs; whnf
       · conv => lhs; whnf; arg 2; whnf)
    | (apply s_guard_call rfl
       · conv => lhs; whnf
       · conv => lhs; whnf
       · conv => lhs; whnf
       · first | fail)
    | (apply aw_cond_t
       · conv => lhs; whnf; arg 1; arg 1; whnf)
    | (apply aw_cond_f
       · conv => lhs; whnf; arg 1; arg 1; whnf)
    | (refine aw_cond (by conv => lhs; whnf) ?_ ?_ <;> intro hb)
    | refine aw_ret ?_
    | refine aw_exit ?_
    | refine k_seq_exit ?_
    | refine k_seq_ret ?_
    | refine k_block_ret ?_
    | refine k_block_hit rfl ?_
    | refine k_block_miss rfl ?_
    | refine k_scope_exit ?_
    | refine k_scope_ret ?_
    | refine k_loop_exit ?_
    | refine k_loop_ret ?_
    | refine k_end ?_
    | refine k_end_ret ?_
    | (refine ⟨_, by conv => lhs; whnf; arg 2; whnf, ?_⟩; conv => rhs; whnf)
    | exact trivial
    | intro hg)
set_option maxRecDepth 100000 in
theorem printableR3 (k : Nat) (d : D) (hn : (d.f 0).n = 3) : AC EN5 Tryz.prog 33 [.agg (cellsV Tryz.prog 12 26 d)] (.c (.bool (okJ (k + 1) d))) := by
  rw [okJ_leaf (by omega), cells_N, hn]
  refine ac_enter 46 Tryz.func33 rfl rfl rfl rfl ?_
  intro s w he
  repeat' (first
    | (apply s_wanted_pick_t rfl rfl rfl
       · conv => lhs; whnf
       · first | rfl | assumption
       · conv => lhs; whnf
       · first | exact bT1 (by assumption) | exact bT2 (by assumption) | rfl)
    | (apply s_wpick_t rfl rfl rfl
       · conv => lhs; whnf
       · first | rfl | assumption
       · conv => lhs; whnf
       · first | exact bT1 (by assumption) | exact bT2 (by assumption) | rfl)
    | (apply s_wanted_pick_f rfl rfl rfl
       · conv => lhs; whnf
       · first | rfl | assumption
       · conv => lhs; whnf
       · first | exact bF1 (by assumption) | exact bF2 (by assumption) | rfl)
    | (apply s_wpick_f rfl rfl rfl
       · conv => lhs; whnf
       · first | rfl | assumption
       · conv => lhs; whnf
       · first | exact bF1 (by assumption) | exact bF2 (by assumption) | rfl)
    | refine aw_region ?_
    | refine awo_nil ?_
    | refine k_seq ?_
    | refine k_block ?_
    | refine k_scope ?_
    | (apply aw_1
       conv => whnf
       refine ⟨?_, trivial⟩)
    | (apply s_pick_t rfl rfl
       · conv => lhs; whnf
       · conv => lhs; whnf
       · first | exact bT1 (by assumption) | exact bT2 (by assumption))
    | (apply s_pick_f rfl rfl
       · conv => lhs; whnf
       · conv => lhs; whnf
       · first | exact bF1 (by assumption) | exact bF2 (by assumption))
    | (apply s_1
       conv => whnf; arg 1; arg 4; arg 3; whnf
       refine ⟨?_, ?_⟩)
    | (apply s_val rfl
       · conv => lhs; whnf
       · conv => lhs; whnf; arg 2; whnf)
    | (apply s_call rfl
       · conv => lhs; whnf
       · conv => lhs; whnf
       · first | fail)
    | (apply s_box rfl rfl rfl rfl
       · conv => lhs; whnf; arg 1; whnf
       · rfl)
    | (apply s_wanted_val rfl
       · conv => lhs; whnf
       · conv => lhs; whnf
       · first | rfl | assumption
       · conv => lhs; whnf; arg 2; whnf)
    | (apply s_wanted_call rfl
       · conv => lhs; whnf
       · conv => lhs; whnf
       · first | rfl | assumption
       · conv => lhs; whnf
       · first | fail)
    | (apply s_skipU rfl
       · conv => lhs; whnf
       · conv => lhs; whnf
       · first | rfl | assumption)
    | (apply s_dead rfl
       · conv => lhs; whnf
       · rfl
       · rfl)
    | (apply s_guard_valU rfl
       · conv => lhs; whnf
       · conv => lhs; whnf
       · conv => lhs; whnf; arg 2; whnf)
    | (apply s_guard_callU rfl
       · conv => lhs; whnf
       · conv => lhs; whnf
       · conv => lhs; whnf
       · first | fail)
    | (apply s_guard_val rfl
       · conv => lhs; whnf
       · conv => lhs; whnf
       · conv => lhs; whnf; arg 2; whnf)
    | (apply s_guard_call rfl
       · conv => lhs; whnf
       · conv => lhs; whnf
       · conv => lhs; whnf
       · first | fail)
    | (apply aw_cond_t
       · conv => lhs; whnf; arg 1; arg 1; whnf)
    | (apply aw_cond_f
       · conv => lhs; whnf; arg 1; arg 1; whnf)
    | (refine aw_cond (by conv => lhs; whnf) ?_ ?_ <;> intro hb)
    | refine aw_ret ?_
    | refine aw_exit ?_
    | refine k_seq_exit ?_
    | refine k_seq_ret ?_
    | refine k_block_ret ?_
    | refine k_block_hit rfl ?_
    | refine k_block_miss rfl ?_
    | refine k_scope_exit ?_
    | refine k_scope_ret ?_
    | refine k_loop_exit ?_
    | refine k_loop_ret ?_
    | refine k_end ?_
    | refine k_end_ret ?_
    | (refine ⟨_, by conv => lhs; whnf; arg 2; whnf, ?_⟩; conv => rhs; whnf)
    | exact trivial
    | intro hg)
set_option maxRecDepth 100000 in
theorem printableR4 (k : Nat) (d : D) (hn : (d.f 0).n = 4) : AC EN5 Tryz.prog 33 [.agg (cellsV Tryz.prog 12 26 d)] (.c (.bool (okJ (k + 1) d))) := by
  rw [okJ_leaf (by omega), cells_N, hn]
  refine ac_enter 46 Tryz.func33 rfl rfl rfl rfl ?_
  intro s w he
  repeat' (first
    | (apply s_wanted_pick_t rfl rfl rfl
       · conv => lhs; whnf
       · first | rfl | assumption
       · conv => lhs; whnf
       · first | exact bT1 (by assumption) | exact bT2 (by assumption) | rfl)
    | (apply s_wpick_t rfl rfl rfl
       · conv => lhs; whnf
       · first | rfl | assumption
       · conv => lhs; whnf
       · first | exact bT1 (by assumption) | exact bT2 (by assumption) | rfl)
    | (apply s_wanted_pick_f rfl rfl rfl
       · conv => lhs; whnf
       · first | rfl | assumption
       · conv => lhs; whnf
       · first | exact bF1 (by assumption) | exact bF2 (by assumption) | rfl)
    | (apply s_wpick_f rfl rfl rfl
       · conv => lhs; whnf
       · first | rfl | assumption
       · conv => lhs; whnf
       · first | exact bF1 (by assumption) | exact bF2 (by assumption) | rfl)
    | refine aw_region ?_
    | refine awo_nil ?_
    | refine k_seq ?_
    | refine k_block ?_
    | refine k_scope ?_
    | (apply aw_1
       conv => whnf
       refine ⟨?_, trivial⟩)
    | (apply s_pick_t rfl rfl
       · conv => lhs; whnf
       · conv => lhs; whnf
       · first | exact bT1 (by assumption) | exact bT2 (by assumption))
    | (apply s_pick_f rfl rfl
       · conv => lhs; whnf
       · conv => lhs; whnf
       · first | exact bF1 (by assumption) | exact bF2 (by assumption))
    | (apply s_1
       conv => whnf; arg 1; arg 4; arg 3; whnf
       refine ⟨?_, ?_⟩)
    | (apply s_val rfl
       · conv => lhs; whnf
       · conv => lhs; whnf; arg 2; whnf)
    | (apply s_call rfl
       · conv => lhs; whnf
       · conv => lhs; whnf
       · first | fail)
    | (apply s_box rfl rfl rfl rfl
       · conv => lhs; whnf; arg 1; whnf
       · rfl)
    | (apply s_wanted_val rfl
       · conv => lhs; whnf
       · conv => lhs; whnf
       · first | rfl | assumption
       · conv => lhs; whnf; arg 2; whnf)
    | (apply s_wanted_call rfl
       · conv => lhs; whnf
       · conv => lhs; whnf
       · first | rfl | assumption
       · conv => lhs; whnf
       · first | fail)
    | (apply s_skipU rfl
       · conv => lhs; whnf
       · conv => lhs; whnf
       · first | rfl | assumption)
    | (apply s_dead rfl
       · conv => lhs; whnf
       · rfl
       · rfl)
    | (apply s_guard_valU rfl
       · conv => lhs; whnf
       · conv => lhs; whnf
       · conv => lhs; whnf; arg 2; whnf)
    | (apply s_guard_callU rfl
       · conv => lhs; whnf
       · conv => lhs; whnf
       · conv => lhs; whnf
       · first | fail)
    | (apply s_guard_val rfl
       · conv => lhs; whnf
       · conv => lhs; whnf
       · conv => lhs; whnf; arg 2; whnf)
    | (apply s_guard_call rfl
       · conv => lhs; whnf
       · conv => lhs; whnf
       · conv => lhs; whnf
       · first | fail)
    | (apply aw_cond_t
       · conv => lhs; whnf; arg 1; arg 1; whnf)
    | (apply aw_cond_f
       · conv => lhs; whnf; arg 1; arg 1; whnf)
    | (refine aw_cond (by conv => lhs; whnf) ?_ ?_ <;> intro hb)
    | refine aw_ret ?_
    | refine aw_exit ?_
    | refine k_seq_exit ?_
    | refine k_seq_ret ?_
    | refine k_block_ret ?_
    | refine k_block_hit rfl ?_
    | refine k_block_miss rfl ?_
    | refine k_scope_exit ?_
    | refine k_scope_ret ?_
    | refine k_loop_exit ?_
    | refine k_loop_ret ?_
    | refine k_end ?_
    | refine k_end_ret ?_
    | (refine ⟨_, by conv => lhs; whnf; arg 2; whnf, ?_⟩; conv => rhs; whnf)
    | exact trivial
    | intro hg)
noncomputable def HpR5 (d : D) (i : Nat) : Vst 46 := stS 46 [(1, .bx 1 0), (3, .c (.int .i64 (i : Int)))] [(1, .box 26 (cellsN 5 d))]
set_option maxRecDepth 100000 in
theorem printableR5 (k : Nat) (d : D) (hn : (d.f 0).n = 5) (hl : (d.f 3).l.length ≤ 8388608) (ih : ∀ i, i < (d.f 3).l.length → AC EN5 Tryz.prog 33 [.agg (cellsV Tryz.prog 12 26 (gD (d.f 3).l i))] (.c (.bool (okJ k (gD (d.f 3).l i))))) :
    AC EN5 Tryz.prog 33 [.agg (cellsV Tryz.prog 12 26 d)] (.c (.bool (okJ (k + 1) d))) := by
  rw [okJ_many (.inl hn), cells_N, hn]
  refine ac_enter 46 Tryz.func33 rfl rfl rfl rfl ?_
  intro s w he
  repeat' (first
    | (apply s_wanted_pick_t rfl rfl rfl
       · conv => lhs; whnf
       · first | rfl | assumption
       · conv => lhs; whnf
       · first | exact bT1 (by assumption) | exact bT2 (by assumption) | rfl)
    | (apply s_wpick_t rfl rfl rfl
       · conv => lhs; whnf
       · first | rfl | assumption
       · conv => lhs; whnf
       · first | exact bT1 (by assumption) | exact bT2 (by assumption) | rfl)
    | (apply s_wanted_pick_f rfl rfl rfl
       · conv => lhs; whnf
       · first | rfl | assumption
       · conv => lhs; whnf
       · first | exact bF1 (by assumption) | exact bF2 (by assumption) | rfl)
    | (apply s_wpick_f rfl rfl rfl
       · conv => lhs; whnf
       · first | rfl | assumption
       · conv => lhs; whnf
       · first | exact bF1 (by assumption) | exact bF2 (by assumption) | rfl)
    | refine aw_region ?_
    | refine awo_nil ?_
    | refine k_seq ?_
    | refine k_block ?_
    | refine k_scope ?_
    | (apply aw_1
       conv => whnf
       refine ⟨?_, trivial⟩)
    | (apply s_pick_t rfl rfl
       · conv => lhs; whnf
       · conv => lhs; whnf
       · first | exact bT1 (by assumption) | exact bT2 (by assumption))
    | (apply s_pick_f rfl rfl
       · conv => lhs; whnf
       · conv => lhs; whnf
       · first | exact bF1 (by assumption) | exact bF2 (by assumption))
    | (apply s_1
       conv => whnf; arg 1; arg 4; arg 3; whnf
       refine ⟨?_, ?_⟩)
    | (apply s_val rfl
       · conv => lhs; whnf
       · conv => lhs; whnf; arg 2; whnf)
    | (apply s_call rfl
       · conv => lhs; whnf
       · conv => lhs; whnf
       · first | fail)
    | (apply s_box rfl rfl rfl rfl
       · conv => lhs; whnf; arg 1; whnf
       · rfl)
    | (apply s_wanted_val rfl
       · conv => lhs; whnf
       · conv => lhs; whnf
       · first | rfl | assumption
       · conv => lhs; whnf; arg 2; whnf)
    | (apply s_wanted_call rfl
       · conv => lhs; whnf
       · conv => lhs; whnf
       · first | rfl | assumption
       · conv => lhs; whnf
       · first | fail)
    | (apply s_skipU rfl
       · conv => lhs; whnf
       · conv => lhs; whnf
       · first | rfl | assumption)
    | (apply s_dead rfl
       · conv => lhs; whnf
       · rfl
       · rfl)
    | (apply s_guard_valU rfl
       · conv => lhs; whnf
       · conv => lhs; whnf
       · conv => lhs; whnf; arg 2; whnf)
    | (apply s_guard_callU rfl
       · conv => lhs; whnf
       · conv => lhs; whnf
       · conv => lhs; whnf
       · first | fail)
    | (apply s_guard_val rfl
       · conv => lhs; whnf
       · conv => lhs; whnf
       · conv => lhs; whnf; arg 2; whnf)
    | (apply s_guard_call rfl
       · conv => lhs; whnf
       · conv => lhs; whnf
       · conv => lhs; whnf
       · first | fail)
    | (apply aw_cond_t
       · conv => lhs; whnf; arg 1; arg 1; whnf)
    | (apply aw_cond_f
       · conv => lhs; whnf; arg 1; arg 1; whnf)
    | (refine aw_cond (by conv => lhs; whnf) ?_ ?_ <;> intro hb)
    | refine aw_ret ?_
    | refine aw_exit ?_
    | refine k_seq_exit ?_
    | refine k_seq_ret ?_
    | refine k_block_ret ?_
    | refine k_block_hit rfl ?_
    | refine k_block_miss rfl ?_
    | refine k_scope_exit ?_
    | refine k_scope_ret ?_
    | refine k_loop_exit ?_
    | refine k_loop_ret ?_
    | refine k_end ?_
    | refine k_end_ret ?_
    | (refine ⟨_, by conv => lhs; whnf; arg 2; whnf, ?_⟩; conv => rhs; whnf)
    | exact trivial
    | intro hg)
  refine aw_loop (fun j st => ∃ i, i + j = (d.f 3).l.length ∧ (∀ q, q < i → okJ k (gD (d.f 3).l q) = true) ∧ Sub (cx EN5 Tryz.prog s w he) st (HpR5 d i)) (d.f 3).l.length ⟨0, by omega, fun q hq => absurd hq (Nat.not_lt_zero q), ?_⟩ ?_
  · exact Sub.live ⟨rfl, rfl, trivial⟩ ⟨rfl, trivial⟩
  · rintro j st ⟨i, hij, hall, hs2⟩
    refine aw_sub hs2 ?_
    clear hs2
    have ih2 := fun (h : decide ((i : Int) < ((d.f 3).l.length : Int)) = true) => ih i (lt_b h)
    repeat' (first
    | (apply s_wanted_pick_t rfl rfl rfl
       · conv => lhs; whnf
       · first | rfl | assumption
       · conv => lhs; whnf
       · first | exact bT1 (by assumption) | exact bT2 (by assumption) | rfl)
    | (apply s_wpick_t rfl rfl rfl
       · conv => lhs; whnf
       · first | rfl | assumption
       · conv => lhs; whnf
       · first | exact bT1 (by assumption) | exact bT2 (by assumption) | rfl)
    | (apply s_wanted_pick_f rfl rfl rfl
       · conv => lhs; whnf
       · first | rfl | assumption
       · conv => lhs; whnf
       · first | exact bF1 (by assumption) | exact bF2 (by assumption) | rfl)
    | (apply s_wpick_f rfl rfl rfl
       · conv => lhs; whnf
       · first | rfl | assumption
       · conv => lhs; whnf
       · first | exact bF1 (by assumption) | exact bF2 (by assumption) | rfl)
    | refine aw_region ?_
    | refine awo_nil ?_
    | refine k_seq ?_
    | refine k_block ?_
    | refine k_scope ?_
    | (apply aw_1
       conv => whnf
       refine ⟨?_, trivial⟩)
    | (apply s_pick_t rfl rfl
       · conv => lhs; whnf
       · conv => lhs; whnf
       · first | exact bT1 (by assumption) | exact bT2 (by assumption))
    | (apply s_pick_f rfl rfl
       · conv => lhs; whnf
       · conv => lhs; whnf
       · first | exact bF1 (by assumption) | exact bF2 (by assumption))
    | (apply s_1
       conv => whnf; arg 1; arg 4; arg 3; whnf
       refine ⟨?_, ?_⟩)
    | (apply s_val rfl
       · conv => lhs; whnf
       · conv => lhs; whnf; arg 2; whnf)
    | (apply s_call rfl
       · conv => lhs; whnf
       · conv => lhs; whnf
       · first | exact ih2 (by assumption))
    | (apply s_box rfl rfl rfl rfl
       · conv => lhs; whnf; arg 1; whnf
       · rfl)
    | (apply s_wanted_val rfl
       · conv => lhs; whnf
       · conv => lhs; whnf
       · first | rfl | assumption
       · conv => lhs; whnf; arg 2; whnf)
    | (apply s_wanted_call rfl
       · conv => lhs; whnf
       · conv => lhs; whnf
       · first | rfl | assumption
       · conv => lhs; whnf
       · first | exact ih2 (by assumption))
    | (apply s_skipU rfl
       · conv => lhs; whnf
       · conv => lhs; whnf
       · first | rfl | assumption)
    | (apply s_dead rfl
       · conv => lhs; whnf
       · rfl
       · rfl)
    | (apply s_guard_valU rfl
       · conv => lhs; whnf
       · conv => lhs; whnf
       · conv => lhs; whnf; arg 2; whnf)
    | (apply s_guard_callU rfl
       · conv => lhs; whnf
       · conv => lhs; whnf
       · conv => lhs; whnf
       · first | exact ih2 (by assumption))
    | (apply s_guard_val rfl
       · conv => lhs; whnf
       · conv => lhs; whnf
       · conv => lhs; whnf; arg 2; whnf)
    | (apply s_guard_call rfl
       · conv => lhs; whnf
       · conv => lhs; whnf
       · conv => lhs; whnf
       · first | exact ih2 (by assumption))
    | (apply aw_cond_t
       · conv => lhs; whnf; arg 1; arg 1; whnf)
    | (apply aw_cond_f
       · conv => lhs; whnf; arg 1; arg 1; whnf)
    | (refine aw_cond (by conv => lhs; whnf) ?_ ?_ <;> intro hb)
    | refine aw_ret ?_
    | refine aw_exit ?_
    | refine k_seq_exit ?_
    | refine k_seq_ret ?_
    | refine k_block_ret ?_
    | refine k_block_hit rfl ?_
    | refine k_block_miss rfl ?_
    | refine k_scope_exit ?_
    | refine k_scope_ret ?_
    | refine k_loop_exit ?_
    | refine k_loop_ret ?_
    | refine k_end ?_
    | refine k_end_ret ?_
    | (refine ⟨_, by conv => lhs; whnf; arg 2; whnf, ?_⟩; conv => rhs; whnf)
    | exact trivial
    | intro hg)
    all_goals
      first
        | (have g := lt_b (i := i) (n := (d.f 3).l.length) (by assumption)
           first
             | exact i64_in2 (by omega)
             | exact ixn_ok g
             | (have g1 : (!okJ k (gD (d.f 3).l i)) = true := by assumption
                have g1 : okJ k (gD (d.f 3).l i) = false := by simpa using g1
                have e : ((List.range (d.f 3).l.length).all fun i => okJ k (gD (d.f 3).l i)) = false := by
                  rw [List.all_eq_false]
                  exact ⟨i, List.mem_range.2 g, by simp [g1]⟩
                rw [e])
             | (have g1 : (!okJ k (gD (d.f 3).l i)) = false := by assumption
                have g1 : okJ k (gD (d.f 3).l i) = true := by simpa using g1
                refine k_loop_next (j' := j - 1) (by omega) ⟨i + 1, by omega, fun q hq => ?_, Sub.live ⟨rfl, rfl, trivial⟩ ⟨rfl, trivial⟩⟩
                by_cases e : q = i
                · rw [e]; exact g1
                · exact hall q (by omega)))
        | (have g := ge_b (i := i) (n := (d.f 3).l.length) (by assumption)
           have e : ((List.range (d.f 3).l.length).all fun i => okJ k (gD (d.f 3).l i)) = true := by
             rw [List.all_eq_true]
             exact fun q hq => hall q (by have := List.mem_range.1 hq; omega)
           rw [e])
noncomputable def HpR6 (d : D) (i : Nat) : Vst 46 := stS 46 [(1, .bx 1 0), (3, .c (.int .i64 (i : Int)))] [(1, .box 26 (cellsN 6 d))]
set_option maxRecDepth 100000 in
theorem printableR6 (k : Nat) (d : D) (hn : (d.f 0).n = 6) (hl : (d.f 3).l.length ≤ 8388608) (ih : ∀ i, i < (d.f 3).l.length → AC EN5 Tryz.prog 33 [.agg (cellsV Tryz.prog 12 26 (gD (d.f 3).l i))] (.c (.bool (okJ k (gD (d.f 3).l i))))) :
    AC EN5 Tryz.prog 33 [.agg (cellsV Tryz.prog 12 26 d)] (.c (.bool (okJ (k + 1) d))) := by
  by_cases hll : (d.f 4).l.length = (d.f 3).l.length
  rotate_left 1
  · rw [okJ_bad hn hll, cells_N, hn]
    refine ac_enter 46 Tryz.func33 rfl rfl rfl rfl ?_
    intro s w he
    repeat' (first
    | (apply s_wanted_pick_t rfl rfl rfl
       · conv => lhs; whnf
       · first | rfl | assumption
       · conv => lhs; whnf
       · first | exact bT1 (by assumption) | exact bT2 (by assumption) | rfl)
    | (apply s_wpick_t rfl rfl rfl
       · conv => lhs; whnf
       · first | rfl | assumption
       · conv => lhs; whnf
       · first | exact bT1 (by assumption) | exact bT2 (by assumption) | rfl)
    | (apply s_wanted_pick_f rfl rfl rfl
       · conv => lhs; whnf
       · first | rfl | assumption
       · conv => lhs; whnf
       · first | exact bF1 (by assumption) | exact bF2 (by assumption) | rfl)
    | (apply s_wpick_f rfl rfl rfl
       · conv => lhs; whnf
       · first | rfl | assumption
       · conv => lhs; whnf
       · first | exact bF1 (by assumption) | exact bF2 (by assumption) | rfl)
    | refine aw_region ?_
    | refine awo_nil ?_
    | refine k_seq ?_
    | refine k_block ?_
    | refine k_scope ?_
    | (apply aw_1
       conv => whnf
       refine ⟨?_, trivial⟩)
    | (apply s_pick_t rfl rfl
       · conv => lhs; whnf
       · conv => lhs; whnf
       · first | exact bT1 (by assumption) | exact bT2 (by assumption))
    | (apply s_pick_f rfl rfl
       · conv => lhs; whnf
       · conv => lhs; whnf
       · first | exact bF1 (by assumption) | exact bF2 (by assumption))
    | (apply s_1
       conv => whnf; arg 1; arg 4; arg 3; whnf
       refine ⟨?_, ?_⟩)
    | (apply s_val rfl
       · conv => lhs; whnf
       · conv => lhs; whnf; arg 2; whnf)
    | (apply s_call rfl
       · conv => lhs; whnf
       · conv => lhs; whnf
       · first | fail)
    | (apply s_box rfl rfl rfl rfl
       · conv => lhs; whnf; arg 1; whnf
       · rfl)
    | (apply s_wanted_val rfl
       · conv => lhs; whnf
       · conv => lhs; whnf
       · first | rfl | assumption
       · conv => lhs; whnf; arg 2; whnf)
    | (apply s_wanted_call rfl
       · conv => lhs; whnf
       · conv => lhs; whnf
       · first | rfl | assumption
       · conv => lhs; whnf
       · first | fail)
    | (apply s_skipU rfl
       · conv => lhs; whnf
       · conv => lhs; whnf
       · first | rfl | assumption)
    | (apply s_dead rfl
       · conv => lhs; whnf
       · rfl
       · rfl)
    | (apply s_guard_valU rfl
       · conv => lhs; whnf
       · conv => lhs; whnf
       · conv => lhs; whnf; arg 2; whnf)
    | (apply s_guard_callU rfl
       · conv => lhs; whnf
       · conv => lhs; whnf
       · conv => lhs; whnf
       · first | fail)
    | (apply s_guard_val rfl
       · conv => lhs; whnf
       · conv => lhs; whnf
       · conv => lhs; whnf; arg 2; whnf)
    | (apply s_guard_call rfl
       · conv => lhs; whnf
       · conv => lhs; whnf
       · conv => lhs; whnf
       · first | fail)
    | (apply aw_cond_t
       · conv => lhs; whnf; arg 1; arg 1; whnf)
    | (apply aw_cond_f
       · conv => lhs; whnf; arg 1; arg 1; whnf)
    | (refine aw_cond (by conv => lhs; whnf) ?_ ?_ <;> intro hb)
    | refine aw_ret ?_
    | refine aw_exit ?_
    | refine k_seq_exit ?_
    | refine k_seq_ret ?_
    | refine k_block_ret ?_
    | refine k_block_hit rfl ?_
    | refine k_block_miss rfl ?_
    | refine k_scope_exit ?_
    | refine k_scope_ret ?_
    | refine k_loop_exit ?_
    | refine k_loop_ret ?_
    | refine k_end ?_
    | refine k_end_ret ?_
    | (refine ⟨_, by conv => lhs; whnf; arg 2; whnf, ?_⟩; conv => rhs; whnf)
    | exact trivial
    | intro hg)
    have g : (((d.f 4).l.length : Int) != ((d.f 3).l.length : Int)) = false := by assumption
    have g : ((d.f 4).l.length : Int) = ((d.f 3).l.length : Int) := by simpa using g
    exact absurd (by omega) hll
  rw [okJ_many (.inr ⟨hn, hll⟩), cells_N, hn]
  refine ac_enter 46 Tryz.func33 rfl rfl rfl rfl ?_
  intro s w he
  repeat' (first
    | (apply s_wanted_pick_t rfl rfl rfl
       · conv => lhs; whnf
       · first | rfl | assumption
       · conv => lhs; whnf
       · first | exact bT1 (by assumption) | exact bT2 (by assumption) | rfl)
    | (apply s_wpick_t rfl rfl rfl
       · conv => lhs; whnf
       · first | rfl | assumption
       · conv => lhs; whnf
       · first | exact bT1 (by assumption) | exact bT2 (by assumption) | rfl)
    | (apply s_wanted_pick_f rfl rfl rfl
       · conv => lhs; whnf
       · first | rfl | assumption
       · conv => lhs; whnf
       · first | exact bF1 (by assumption) | exact bF2 (by assumption) | rfl)
    | (apply s_wpick_f rfl rfl rfl
       · conv => lhs; whnf
       · first | rfl | assumption
       · conv => lhs; whnf
       · first | exact bF1 (by assumption) | exact bF2 (by assumption) | rfl)
    | refine aw_region ?_
    | refine awo_nil ?_
    | refine k_seq ?_
    | refine k_block ?_
    | refine k_scope ?_
    | (apply aw_1
       conv => whnf
       refine ⟨?_, trivial⟩)
    | (apply s_pick_t rfl rfl
       · conv => lhs; whnf
       · conv => lhs; whnf
       · first | exact bT1 (by assumption) | exact bT2 (by assumption))
    | (apply s_pick_f rfl rfl
       · conv => lhs; whnf
       · conv => lhs; whnf
       · first | exact bF1 (by assumption) | exact bF2 (by assumption))
    | (apply s_1
       conv => whnf; arg 1; arg 4; arg 3; whnf
       refine ⟨?_, ?_⟩)
    | (apply s_val rfl
       · conv => lhs; whnf
       · conv => lhs; whnf; arg 2; whnf)
    | (apply s_call rfl
       · conv => lhs; whnf
       · conv => lhs; whnf
       · first | fail)
    | (apply s_box rfl rfl rfl rfl
       · conv => lhs; whnf; arg 1; whnf
       · rfl)
    | (apply s_wanted_val rfl
       · conv => lhs; whnf
       · conv => lhs; whnf
       · first | rfl | assumption
       · conv => lhs; whnf; arg 2; whnf)
    | (apply s_wanted_call rfl
       · conv => lhs; whnf
       · conv => lhs; whnf
       · first | rfl | assumption
       · conv => lhs; whnf
       · first | fail)
    | (apply s_skipU rfl
       · conv => lhs; whnf
       · conv => lhs; whnf
       · first | rfl | assumption)
    | (apply s_dead rfl
       · conv => lhs; whnf
       · rfl
       · rfl)
    | (apply s_guard_valU rfl
       · conv => lhs; whnf
       · conv => lhs; whnf
       · conv => lhs; whnf; arg 2; whnf)
    | (apply s_guard_callU rfl
       · conv => lhs; whnf
       · conv => lhs; whnf
       · conv => lhs; whnf
       · first | fail)
    | (apply s_guard_val rfl
       · conv => lhs; whnf
       · conv => lhs; whnf
       · conv => lhs; whnf; arg 2; whnf)
    | (apply s_guard_call rfl
       · conv => lhs; whnf
       · conv => lhs; whnf
       · conv => lhs; whnf
       · first | fail)
    | (apply aw_cond_t
       · conv => lhs; whnf; arg 1; arg 1; whnf)
    | (apply aw_cond_f
       · conv => lhs; whnf; arg 1; arg 1; whnf)
    | (refine aw_cond (by conv => lhs; whnf) ?_ ?_ <;> intro hb)
    | refine aw_ret ?_
    | refine aw_exit ?_
    | refine k_seq_exit ?_
    | refine k_seq_ret ?_
    | refine k_block_ret ?_
    | refine k_block_hit rfl ?_
    | refine k_block_miss rfl ?_
    | refine k_scope_exit ?_
    | refine k_scope_ret ?_
    | refine k_loop_exit ?_
    | refine k_loop_ret ?_
    | refine k_end ?_
    | refine k_end_ret ?_
    | (refine ⟨_, by conv => lhs; whnf; arg 2; whnf, ?_⟩; conv => rhs; whnf)
    | exact trivial
    | intro hg)
  rotate_left 1
  · refine aw_loop (fun j st => ∃ i, i + j = (d.f 3).l.length ∧ (∀ q, q < i → okJ k (gD (d.f 3).l q) = true) ∧ Sub (cx EN5 Tryz.prog s w he) st (HpR6 d i)) (d.f 3).l.length ⟨0, by omega, fun q hq => absurd hq (Nat.not_lt_zero q), ?_⟩ ?_
    · exact Sub.live ⟨rfl, rfl, trivial⟩ ⟨rfl, trivial⟩
    · rintro j st ⟨i, hij, hall, hs2⟩
      refine aw_sub hs2 ?_
      clear hs2
      have ih2 := fun (h : decide ((i : Int) < ((d.f 3).l.length : Int)) = true) => ih i (lt_b h)
      repeat' (first
    | (apply s_wanted_pick_t rfl rfl rfl
       · conv => lhs; whnf
       · first | rfl | assumption
       · conv => lhs; whnf
       · first | exact bT1 (by assumption) | exact bT2 (by assumption) | rfl)
    | (apply s_wpick_t rfl rfl rfl
       · conv => lhs; whnf
       · first | rfl | assumption
       · conv => lhs; whnf
       · first | exact bT1 (by assumption) | exact bT2 (by assumption) | rfl)
    | (apply s_wanted_pick_f rfl rfl rfl
       · conv => lhs; whnf
       · first | rfl | assumption
       · conv => lhs; whnf
       · first | exact bF1 (by assumption) | exact bF2 (by assumption) | rfl)
    | (apply s_wpick_f rfl rfl rfl
       · conv => lhs; whnf
       · first | rfl | assumption
       · conv => lhs; whnf
       · first | exact bF1 (by assumption) | exact bF2 (by assumption) | rfl)
    | refine aw_region ?_
    | refine awo_nil ?_
    | refine k_seq ?_
    | refine k_block ?_
    | refine k_scope ?_
    | (apply aw_1
       conv => whnf
       refine ⟨?_, trivial⟩)
    | (apply s_pick_t rfl rfl
       · conv => lhs; whnf
       · conv => lhs; whnf
       · first | exact bT1 (by assumption) | exact bT2 (by assumption))
    | (apply s_pick_f rfl rfl
       · conv => lhs; whnf
       · conv => lhs; whnf
       · first | exact bF1 (by assumption) | exact bF2 (by assumption))
    | (apply s_1
       conv => whnf; arg 1; arg 4; arg 3; whnf
       refine ⟨?_, ?_⟩)
    | (apply s_val rfl
       · conv => lhs; whnf
       · conv => lhs; whnf; arg 2; whnf)
    | (apply s_call rfl
       · conv => lhs; whnf
       · conv => lhs; whnf
       · first | exact ih2 (by assumption))
    | (apply s_box rfl rfl rfl rfl
       · conv => lhs; whnf; arg 1; whnf
       · rfl)
    | (apply s_wanted_val rfl
       · conv => lhs; whnf
       · conv => lhs; whnf
       · first | rfl | assumption
       · conv => lhs; whnf; arg 2; whnf)
    | (apply s_wanted_call rfl
       · conv => lhs; whnf
       · conv => lhs; whnf
       · first | rfl | assumption
       · conv => lhs; whnf
       · first | exact ih2 (by assumption))
    | (apply s_skipU rfl
       · conv => lhs; whnf
       · conv => lhs; whnf
       · first | rfl | assumption)
    | (apply s_dead rfl
       · conv => lhs; whnf
       · rfl
       · rfl)
    | (apply s_guard_valU rfl
       · conv => lhs; whnf
       · conv => lhs; whnf
       · conv => lhs; whnf; arg 2; whnf)
    | (apply s_guard_callU rfl
       · conv => lhs; whnf
       · conv => lhs; whnf
       · conv => lhs; whnf
       · first | exact ih2 (by assumption))
    | (apply s_guard_val rfl
       · conv => lhs; whnf
       · conv => lhs; whnf
       · conv => lhs; whnf; arg 2; whnf)
    | (apply s_guard_call rfl
       · conv => lhs; whnf
       · conv => lhs; whnf
       · conv => lhs; whnf
       · first | exact ih2 (by assumption))
    | (apply aw_cond_t
       · conv => lhs; whnf; arg 1; arg 1; whnf)
    | (apply aw_cond_f
       · conv => lhs; whnf; arg 1; arg 1; whnf)
    | (refine aw_cond (by conv => lhs; whnf) ?_ ?_ <;> intro hb)
    | refine aw_ret ?_
    | refine aw_exit ?_
    | refine k_seq_exit ?_
    | refine k_seq_ret ?_
    | refine k_block_ret ?_
    | refine k_block_hit rfl ?_
    | refine k_block_miss rfl ?_
    | refine k_scope_exit ?_
    | refine k_scope_ret ?_
    | refine k_loop_exit ?_
    | refine k_loop_ret ?_
    | refine k_end ?_
    | refine k_end_ret ?_
    | (refine ⟨_, by conv => lhs; whnf; arg 2; whnf, ?_⟩; conv => rhs; whnf)
    | exact trivial
    | intro hg)
      all_goals
        first
          | (have g := lt_b (i := i) (n := (d.f 3).l.length) (by assumption)
             first
               | exact i64_in2 (by omega)
               | exact ixn_ok g
               | (have g1 : (!okJ k (gD (d.f 3).l i)) = true := by assumption
                  have g1 : okJ k (gD (d.f 3).l i) = false := by simpa using g1
                  have e : ((List.range (d.f 3).l.length).all fun i => okJ k (gD (d.f 3).l i)) = false := by
                    rw [List.all_eq_false]
                    exact ⟨i, List.mem_range.2 g, by simp [g1]⟩
                  rw [e])
               | (have g1 : (!okJ k (gD (d.f 3).l i)) = false := by assumption
                  have g1 : okJ k (gD (d.f 3).l i) = true := by simpa using g1
                  refine k_loop_next (j' := j - 1) (by omega) ⟨i + 1, by omega, fun q hq => ?_, Sub.live ⟨rfl, rfl, trivial⟩ ⟨rfl, trivial⟩⟩
                  by_cases e : q = i
                  · rw [e]; exact g1
                  · exact hall q (by omega)))
          | (have g := ge_b (i := i) (n := (d.f 3).l.length) (by assumption)
             have e : ((List.range (d.f 3).l.length).all fun i => okJ k (gD (d.f 3).l i)) = true := by
               rw [List.all_eq_true]
               exact fun q hq => hall q (by have := List.mem_range.1 hq; omega)
             rw [e])
  · have g : (((d.f 4).l.length : Int) != ((d.f 3).l.length : Int)) = true := by assumption
    have g : ¬ ((d.f 4).l.length : Int) = ((d.f 3).l.length : Int) := by simpa using g
    exact absurd (by omega) g
set_option maxRecDepth 100000 in
theorem printableR_ac : ∀ (k : Nat) (d : D), Dp k d → wtJ k d ≤ 8388608 → AC EN5 Tryz.prog 33 [.agg (cellsV Tryz.prog 12 26 d)] (.c (.bool (okJ k d)))
  | 0, _, h, _ => h.elim
  | k + 1, d, h, hw => by
    have hin := wt_in h hw
    have hl := hin.items
    have ih := fun i (hil : i < (d.f 3).l.length) => printableR_ac k (gD (d.f 3).l i) (h i hil) (hin.at_ i hil)
    by_cases hb : (d.f 0).n < 0 ∨ 6 < (d.f 0).n
    · exact printableR_no k d hb
    by_cases e0 : (d.f 0).n = 0
    · exact printableR0 k d e0
    by_cases e1 : (d.f 0).n = 1
    · exact printableR1 k d e1
    by_cases e2 : (d.f 0).n = 2
    · exact printableR2 k d e2
    by_cases e3 : (d.f 0).n = 3
    · exact printableR3 k d e3
    by_cases e4 : (d.f 0).n = 4
    · exact printableR4 k d e4
    by_cases e5 : (d.f 0).n = 5
    · exact printableR5 k d e5 (by omega) ih
    · exact printableR6 k d (by omega) (by omega) ih
set_option maxRecDepth 100000 in
theorem printR_ac (k : Nat) (d : D) (h : Dp k d) (hi : intsJ k d) (hw : wtJ k d ≤ 8388608) : AC EN5 Tryz.prog 18 [.agg (cellsV Tryz.prog 12 26 d)] (printV k d) := by
  have h1 := printableR_ac k d h hw
  have hok := prP_ok k d
  by_cases ho : okJ k d = true
  · have e : printV k d = .tup [.c (.string (bs (wrJ k d))), .c (.int .i64 0)] := by unfold printV; rw [if_pos ho]
    have h2 := writeR_ac k d h hi ho hw
    rw [hok.2 ho] at h2
    rw [ho] at h1
    rw [e]
    refine ac_enter 9 Tryz.func18 rfl rfl rfl rfl ?_
    intro s w he
    repeat' (first
    | refine aw_region ?_
    | refine awo_nil ?_
    | refine k_seq ?_
    | refine k_block ?_
    | refine k_scope ?_
    | (apply aw_1
       conv => whnf
       refine ⟨?_, trivial⟩)
    | (apply s_1
       conv => whnf; arg 1; arg 4; arg 3; whnf
       refine ⟨?_, ?_⟩)
    | (apply s_val rfl
       · conv => lhs; whnf
       · conv => lhs; whnf; arg 2; whnf)
    | (apply s_call rfl
       · conv => lhs; whnf
       · conv => lhs; whnf
       · first | exact h1 | exact h2)
    | (apply s_box rfl rfl rfl rfl
       · conv => lhs; whnf; arg 1; whnf
       · rfl)
    | (apply aw_cond_t
       · conv => lhs; whnf; arg 1; arg 1; whnf)
    | (apply aw_cond_f
       · conv => lhs; whnf; arg 1; arg 1; whnf)
    | (refine aw_cond (by conv => lhs; whnf) ?_ ?_ <;> intro hb)
    | refine aw_ret ?_
    | refine aw_exit ?_
    | refine k_seq_exit ?_
    | refine k_seq_ret ?_
    | refine k_block_ret ?_
    | refine k_block_hit rfl ?_
    | refine k_block_miss rfl ?_
    | refine k_scope_exit ?_
    | refine k_scope_ret ?_
    | refine k_loop_exit ?_
    | refine k_loop_ret ?_
    | refine k_end ?_
    | refine k_end_ret ?_
    | (refine ⟨_, by conv => lhs; whnf; arg 2; whnf, ?_⟩; conv => rhs; whnf)
    | exact trivial
    | intro hg)
    exact ⟨_, _, rfl, rfl, rfl⟩
  · have e : printV k d = .tup [.c (.string (bs [])), .c (.int .i64 9)] := by unfold printV; rw [if_neg ho]
    have ho : okJ k d = false := by simpa using ho
    rw [ho] at h1
    rw [e]
    refine ac_enter 9 Tryz.func18 rfl rfl rfl rfl ?_
    intro s w he
    repeat' (first
    | refine aw_region ?_
    | refine awo_nil ?_
    | refine k_seq ?_
    | refine k_block ?_
    | refine k_scope ?_
    | (apply aw_1
       conv => whnf
       refine ⟨?_, trivial⟩)
    | (apply s_1
       conv => whnf; arg 1; arg 4; arg 3; whnf
       refine ⟨?_, ?_⟩)
    | (apply s_val rfl
       · conv => lhs; whnf
       · conv => lhs; whnf; arg 2; whnf)
    | (apply s_call rfl
       · conv => lhs; whnf
       · conv => lhs; whnf
       · first | exact h1)
    | (apply s_box rfl rfl rfl rfl
       · conv => lhs; whnf; arg 1; whnf
       · rfl)
    | (apply aw_cond_t
       · conv => lhs; whnf; arg 1; arg 1; whnf)
    | (apply aw_cond_f
       · conv => lhs; whnf; arg 1; arg 1; whnf)
    | (refine aw_cond (by conv => lhs; whnf) ?_ ?_ <;> intro hb)
    | refine aw_ret ?_
    | refine aw_exit ?_
    | refine k_seq_exit ?_
    | refine k_seq_ret ?_
    | refine k_block_ret ?_
    | refine k_block_hit rfl ?_
    | refine k_block_miss rfl ?_
    | refine k_scope_exit ?_
    | refine k_scope_ret ?_
    | refine k_loop_exit ?_
    | refine k_loop_ret ?_
    | refine k_end ?_
    | refine k_end_ret ?_
    | (refine ⟨_, by conv => lhs; whnf; arg 2; whnf, ?_⟩; conv => rhs; whnf)
    | exact trivial
    | intro hg)
    exact ⟨_, _, rfl, rfl, rfl⟩
end Go.Proofs.YtdklhkdlndlgnaaGreatDoor
namespace Go.Proofs.YtdklhkdlndlgnaaGreatDoor
open Go.RowKit
set_option linter.unusedSectionVars false
section
variable {X : Cx} {nn : Nat} {st : Vst nn} {K : Exit → Vst nn → Prop}
set_option maxHeartbeats 8000000 in
set_option maxRecDepth 100000 in
theorem aw_cond_kt {c : Operand} {x y : Code} {b : Bool} (hc : ev st c = .c (.bool b)) (hb : b = true) (ht : AW X x st K) : AW X (.cond c x y) st K := aw_cond hc (fun _ => ht) (fun e => by rw [hb] at e; cases e)
set_option maxHeartbeats 8000000 in
set_option maxRecDepth 100000 in
theorem aw_cond_kf {c : Operand} {x y : Code} {b : Bool} (hc : ev st c = .c (.bool b)) (hb : b = false) (ht : AW X y st K) : AW X (.cond c x y) st K := aw_cond hc (fun e => by rw [hb] at e; cases e) (fun _ => ht)
end
attribute [local irreducible] wpList Calls Code.wp AW AWo OpOk seqK blockK scopeK loopK endK AC absLex Yld Sub
attribute [local irreducible] ACB ACX absLexG YldG
set_option maxHeartbeats 8000000 in
set_option maxRecDepth 100000 in
theorem nameR5_ac (s : ByteArray) : AC EN5 Tryz.prog 23 [.c (.string s)] (.c (.bool (nameB s))) := by
  refine ac_of5 (u := .bool (nameB s)) fun σ w us hus he => ?_
  obtain ⟨rfl, hs⟩ := str_arg hus
  refine ⟨fun s' w' => rel_bool, (nameR s w hs).mono ?_⟩
  rintro e w' ⟨rfl, rfl⟩
  exact ⟨rfl, Below.refl _ _⟩
noncomputable def HSf5 (d : D) (n : Int) (i : Nat) : Vst 21 := stS 21 [(1, .bx 1 0), (3, .c (.int .i64 n)), (4, .c (.int .i64 (i : Int)))] [(1, .box 26 (cellsV Tryz.prog 12 26 d))]
set_option maxHeartbeats 8000000 in
set_option maxRecDepth 100000 in
theorem sizeF5_ac : ∀ (k : Nat) (d : D), Dp k d → wtJ k d ≤ 1000000000 → AC EN5 Tryz.prog 9 [.agg (cellsV Tryz.prog 12 26 d)] (.c (.int .i64 (sizeJ k d : Int)))
  | 0, _, h, _ => h.elim
  | k + 1, d, h, hw => by
    have hin := wt_in h hw
    have hl := hin.items
    have ih := fun i (hi : i < (d.f 3).l.length) => sizeF5_ac k (gD (d.f 3).l i) (h i hi) (hin.at_ i hi)
    have hsw := size_wt h
    have hs : sizeJ (k + 1) d = 1 + sumN (fun i => sizeJ k (gD (d.f 3).l i)) (d.f 3).l.length := rfl
    refine ac_enter 21 Tryz.func9 rfl rfl rfl rfl ?_
    intro s w he
    repeat' (first
    | refine aw_region ?_
    | refine awo_nil ?_
    | refine k_seq ?_
    | refine k_block ?_
    | refine k_scope ?_
    | (apply aw_1
       conv => whnf
       refine ⟨?_, trivial⟩)
    | (apply s_1
       conv => whnf; arg 1; arg 4; arg 3; whnf
       refine ⟨?_, ?_⟩)
    | (apply s_val rfl
       · conv => lhs; whnf
       · conv => lhs; whnf; arg 2; whnf)
    | (apply s_call rfl
       · conv => lhs; whnf
       · conv => lhs; whnf
       · first | fail)
    | (apply s_box rfl rfl rfl rfl
       · conv => lhs; whnf; arg 1; whnf
       · rfl)
    | (apply aw_cond_t
       · conv => lhs; whnf; arg 1; arg 1; whnf)
    | (apply aw_cond_f
       · conv => lhs; whnf; arg 1; arg 1; whnf)
    | (refine aw_cond (by conv => lhs; whnf) ?_ ?_ <;> intro hb)
    | refine aw_ret ?_
    | refine aw_exit ?_
    | refine k_seq_exit ?_
    | refine k_seq_ret ?_
    | refine k_block_ret ?_
    | refine k_block_hit rfl ?_
    | refine k_block_miss rfl ?_
    | refine k_scope_exit ?_
    | refine k_scope_ret ?_
    | refine k_loop_exit ?_
    | refine k_loop_ret ?_
    | refine k_end ?_
    | refine k_end_ret ?_
    | (refine ⟨_, by conv => lhs; whnf; arg 2; whnf, ?_⟩; conv => rhs; whnf)
    | exact trivial
    | intro hg)
    refine aw_loop (fun j st => ∃ i, i + j = (d.f 3).l.length ∧ Sub (cx EN5 Tryz.prog s w he) st (HSf5 d ((1 + sumN (fun i => sizeJ k (gD (d.f 3).l i)) i : Nat) : Int) i)) (d.f 3).l.length ⟨0, by omega, Sub.live ⟨rfl, rfl, rfl, trivial⟩ ⟨rfl, trivial⟩⟩ ?_
    rintro j st ⟨i, hij, hs2⟩
    refine aw_sub hs2 ?_
    clear hs2
    by_cases hi : i < (d.f 3).l.length
    · have f0 : decide ((i : Int) < ((d.f 3).l.length : Nat)) = true := decide_eq_true (by omega)
      have ih2 := ih i hi
      have hle := sumN_le (g := fun i => sizeJ k (gD (d.f 3).l i)) (show i + 1 ≤ (d.f 3).l.length from hi)
      rw [sumN_succ] at hle
      repeat' (first
    | (apply aw_cond_kt
       · conv => lhs; whnf
       · assumption)
    | (apply aw_cond_kf
       · conv => lhs; whnf
       · assumption)
    | refine k_cut_ret ?_
    | refine k_cut_exit ?_
    | refine k_cut ?_
    | refine aw_region ?_
    | refine awo_nil ?_
    | refine k_seq ?_
    | refine k_block ?_
    | refine k_scope ?_
    | (apply aw_1
       conv => whnf
       refine ⟨?_, trivial⟩)
    | (apply s_1
       conv => whnf; arg 1; arg 4; arg 3; whnf
       refine ⟨?_, ?_⟩)
    | (apply s_val rfl
       · conv => lhs; whnf
       · conv => lhs; whnf; arg 2; whnf)
    | (apply s_call rfl
       · conv => lhs; whnf
       · conv => lhs; whnf
       · first | exact ih2)
    | (apply s_box rfl rfl rfl rfl
       · conv => lhs; whnf; arg 1; whnf
       · rfl)
    | (apply aw_cond_t
       · conv => lhs; whnf; arg 1; arg 1; whnf)
    | (apply aw_cond_f
       · conv => lhs; whnf; arg 1; arg 1; whnf)
    | (refine aw_cond (by conv => lhs; whnf) ?_ ?_ <;> intro hb)
    | refine aw_ret ?_
    | refine aw_exit ?_
    | refine k_seq_exit ?_
    | refine k_seq_ret ?_
    | refine k_block_ret ?_
    | refine k_block_hit rfl ?_
    | refine k_block_miss rfl ?_
    | refine k_scope_exit ?_
    | refine k_scope_ret ?_
    | refine k_loop_exit ?_
    | refine k_loop_ret ?_
    | refine k_end ?_
    | refine k_end_ret ?_
    | (refine ⟨_, by conv => lhs; whnf; arg 2; whnf, ?_⟩; conv => rhs; whnf)
    | exact trivial
    | intro hg)
      all_goals first
        | exact i64_in2 (by omega)
        | exact ixn_ok hi
        | (refine k_loop_next (j' := j - 1) (by omega) ⟨i + 1, by omega, Sub.live ⟨rfl, ?_, rfl, trivial⟩ ⟨rfl, trivial⟩⟩
           refine congrArg (fun n => V.c (.int .i64 n)) (?_ : ((1 + sumN (fun i => sizeJ k (gD (d.f 3).l i)) i : Nat) : Int) + (sizeJ k (gD (d.f 3).l i) : Int) = ((1 + sumN (fun i => sizeJ k (gD (d.f 3).l i)) (i + 1) : Nat) : Int))
           simp only [sumN_succ]
           omega)
    · have f0 : decide ((i : Int) < ((d.f 3).l.length : Nat)) = false := decide_eq_false (by omega)
      repeat' (first
    | (apply aw_cond_kt
       · conv => lhs; whnf
       · assumption)
    | (apply aw_cond_kf
       · conv => lhs; whnf
       · assumption)
    | refine k_cut_ret ?_
    | refine k_cut_exit ?_
    | refine k_cut ?_
    | refine aw_region ?_
    | refine awo_nil ?_
    | refine k_seq ?_
    | refine k_block ?_
    | refine k_scope ?_
    | (apply aw_1
       conv => whnf
       refine ⟨?_, trivial⟩)
    | (apply s_1
       conv => whnf; arg 1; arg 4; arg 3; whnf
       refine ⟨?_, ?_⟩)
    | (apply s_val rfl
       · conv => lhs; whnf
       · conv => lhs; whnf; arg 2; whnf)
    | (apply s_call rfl
       · conv => lhs; whnf
       · conv => lhs; whnf
       · first | fail)
    | (apply s_box rfl rfl rfl rfl
       · conv => lhs; whnf; arg 1; whnf
       · rfl)
    | (apply aw_cond_t
       · conv => lhs; whnf; arg 1; arg 1; whnf)
    | (apply aw_cond_f
       · conv => lhs; whnf; arg 1; arg 1; whnf)
    | (refine aw_cond (by conv => lhs; whnf) ?_ ?_ <;> intro hb)
    | refine aw_ret ?_
    | refine aw_exit ?_
    | refine k_seq_exit ?_
    | refine k_seq_ret ?_
    | refine k_block_ret ?_
    | refine k_block_hit rfl ?_
    | refine k_block_miss rfl ?_
    | refine k_scope_exit ?_
    | refine k_scope_ret ?_
    | refine k_loop_exit ?_
    | refine k_loop_ret ?_
    | refine k_end ?_
    | refine k_end_ret ?_
    | (refine ⟨_, by conv => lhs; whnf; arg 2; whnf, ?_⟩; conv => rhs; whnf)
    | exact trivial
    | intro hg)
      rw [hs, show i = (d.f 3).l.length by omega]
noncomputable def HDf5 (d : D) (n : Int) (i : Nat) : Vst 22 := stS 22 [(1, .bx 1 0), (3, .c (.int .i64 n)), (4, .c (.int .i64 (i : Int)))] [(1, .box 26 (cellsV Tryz.prog 12 26 d))]
set_option maxHeartbeats 8000000 in
set_option maxRecDepth 100000 in
theorem depthF5_ac : ∀ (k : Nat) (d : D), Dp k d → wtJ k d ≤ 1000000000 → AC EN5 Tryz.prog 10 [.agg (cellsV Tryz.prog 12 26 d)] (.c (.int .i64 (depthJ k d : Int)))
  | 0, _, h, _ => h.elim
  | k + 1, d, h, hw => by
    have hin := wt_in h hw
    have hl := hin.items
    have ih := fun i (hi : i < (d.f 3).l.length) => depthF5_ac k (gD (d.f 3).l i) (h i hi) (hin.at_ i hi)
    have hsw := depth_wt h
    have hs : depthJ (k + 1) d = maxN (fun i => depthJ k (gD (d.f 3).l i)) (d.f 3).l.length + 1 := rfl
    refine ac_enter 22 Tryz.func10 rfl rfl rfl rfl ?_
    intro s w he
    repeat' (first
    | refine aw_region ?_
    | refine awo_nil ?_
    | refine k_seq ?_
    | refine k_block ?_
    | refine k_scope ?_
    | (apply aw_1
       conv => whnf
       refine ⟨?_, trivial⟩)
    | (apply s_1
       conv => whnf; arg 1; arg 4; arg 3; whnf
       refine ⟨?_, ?_⟩)
    | (apply s_val rfl
       · conv => lhs; whnf
       · conv => lhs; whnf; arg 2; whnf)
    | (apply s_call rfl
       · conv => lhs; whnf
       · conv => lhs; whnf
       · first | fail)
    | (apply s_box rfl rfl rfl rfl
       · conv => lhs; whnf; arg 1; whnf
       · rfl)
    | (apply aw_cond_t
       · conv => lhs; whnf; arg 1; arg 1; whnf)
    | (apply aw_cond_f
       · conv => lhs; whnf; arg 1; arg 1; whnf)
    | (refine aw_cond (by conv => lhs; whnf) ?_ ?_ <;> intro hb)
    | refine aw_ret ?_
    | refine aw_exit ?_
    | refine k_seq_exit ?_
    | refine k_seq_ret ?_
    | refine k_block_ret ?_
    | refine k_block_hit rfl ?_
    | refine k_block_miss rfl ?_
    | refine k_scope_exit ?_
    | refine k_scope_ret ?_
    | refine k_loop_exit ?_
    | refine k_loop_ret ?_
    | refine k_end ?_
    | refine k_end_ret ?_
    | (refine ⟨_, by conv => lhs; whnf; arg 2; whnf, ?_⟩; conv => rhs; whnf)
    | exact trivial
    | intro hg)
    refine aw_loop (fun j st => ∃ i, i + j = (d.f 3).l.length ∧ Sub (cx EN5 Tryz.prog s w he) st (HDf5 d ((maxN (fun i => depthJ k (gD (d.f 3).l i)) i : Nat) : Int) i)) (d.f 3).l.length ⟨0, by omega, Sub.live ⟨rfl, rfl, rfl, trivial⟩ ⟨rfl, trivial⟩⟩ ?_
    rintro j st ⟨i, hij, hs2⟩
    refine aw_sub hs2 ?_
    clear hs2
    by_cases hi : i < (d.f 3).l.length
    · have f0 : decide ((i : Int) < ((d.f 3).l.length : Nat)) = true := decide_eq_true (by omega)
      have ih2 := ih i hi
      repeat' (first
    | (apply s_max rfl rfl rfl
       · conv => lhs; whnf; arg 1; whnf
       · conv => lhs; whnf; arg 1; whnf)
    | (apply aw_cond_kt
       · conv => lhs; whnf
       · assumption)
    | (apply aw_cond_kf
       · conv => lhs; whnf
       · assumption)
    | refine k_cut_ret ?_
    | refine k_cut_exit ?_
    | refine k_cut ?_
    | refine aw_region ?_
    | refine awo_nil ?_
    | refine k_seq ?_
    | refine k_block ?_
    | refine k_scope ?_
    | (apply aw_1
       conv => whnf
       refine ⟨?_, trivial⟩)
    | (apply s_1
       conv => whnf; arg 1; arg 4; arg 3; whnf
       refine ⟨?_, ?_⟩)
    | (apply s_val rfl
       · conv => lhs; whnf
       · conv => lhs; whnf; arg 2; whnf)
    | (apply s_call rfl
       · conv => lhs; whnf
       · conv => lhs; whnf
       · first | exact ih2)
    | (apply s_box rfl rfl rfl rfl
       · conv => lhs; whnf; arg 1; whnf
       · rfl)
    | (apply aw_cond_t
       · conv => lhs; whnf; arg 1; arg 1; whnf)
    | (apply aw_cond_f
       · conv => lhs; whnf; arg 1; arg 1; whnf)
    | (refine aw_cond (by conv => lhs; whnf) ?_ ?_ <;> intro hb)
    | refine aw_ret ?_
    | refine aw_exit ?_
    | refine k_seq_exit ?_
    | refine k_seq_ret ?_
    | refine k_block_ret ?_
    | refine k_block_hit rfl ?_
    | refine k_block_miss rfl ?_
    | refine k_scope_exit ?_
    | refine k_scope_ret ?_
    | refine k_loop_exit ?_
    | refine k_loop_ret ?_
    | refine k_end ?_
    | refine k_end_ret ?_
    | (refine ⟨_, by conv => lhs; whnf; arg 2; whnf, ?_⟩; conv => rhs; whnf)
    | exact trivial
    | intro hg)
      all_goals first
        | exact i64_in2 (by omega)
        | exact ixn_ok hi
        | (refine k_loop_next (j' := j - 1) (by omega) ⟨i + 1, by omega, Sub.live ⟨rfl, ?_, rfl, trivial⟩ ⟨rfl, trivial⟩⟩
           refine congrArg (fun n => V.c (.int .i64 n)) (?_ : (if ((maxN (fun i => depthJ k (gD (d.f 3).l i)) i : Nat) : Int) < (depthJ k (gD (d.f 3).l i) : Int) then (depthJ k (gD (d.f 3).l i) : Int) else ((maxN (fun i => depthJ k (gD (d.f 3).l i)) i : Nat) : Int)) = ((maxN (fun i => depthJ k (gD (d.f 3).l i)) (i + 1) : Nat) : Int))
           rw [max_i, maxN_succ])
    · have f0 : decide ((i : Int) < ((d.f 3).l.length : Nat)) = false := decide_eq_false (by omega)
      have e : i = (d.f 3).l.length := by omega
      subst e
      repeat' (first
    | (apply aw_cond_kt
       · conv => lhs; whnf
       · assumption)
    | (apply aw_cond_kf
       · conv => lhs; whnf
       · assumption)
    | refine k_cut_ret ?_
    | refine k_cut_exit ?_
    | refine k_cut ?_
    | refine aw_region ?_
    | refine awo_nil ?_
    | refine k_seq ?_
    | refine k_block ?_
    | refine k_scope ?_
    | (apply aw_1
       conv => whnf
       refine ⟨?_, trivial⟩)
    | (apply s_1
       conv => whnf; arg 1; arg 4; arg 3; whnf
       refine ⟨?_, ?_⟩)
    | (apply s_val rfl
       · conv => lhs; whnf
       · conv => lhs; whnf; arg 2; whnf)
    | (apply s_call rfl
       · conv => lhs; whnf
       · conv => lhs; whnf
       · first | fail)
    | (apply s_box rfl rfl rfl rfl
       · conv => lhs; whnf; arg 1; whnf
       · rfl)
    | (apply aw_cond_t
       · conv => lhs; whnf; arg 1; arg 1; whnf)
    | (apply aw_cond_f
       · conv => lhs; whnf; arg 1; arg 1; whnf)
    | (refine aw_cond (by conv => lhs; whnf) ?_ ?_ <;> intro hb)
    | refine aw_ret ?_
    | refine aw_exit ?_
    | refine k_seq_exit ?_
    | refine k_seq_ret ?_
    | refine k_block_ret ?_
    | refine k_block_hit rfl ?_
    | refine k_block_miss rfl ?_
    | refine k_scope_exit ?_
    | refine k_scope_ret ?_
    | refine k_loop_exit ?_
    | refine k_loop_ret ?_
    | refine k_end ?_
    | refine k_end_ret ?_
    | (refine ⟨_, by conv => lhs; whnf; arg 2; whnf, ?_⟩; conv => rhs; whnf)
    | exact trivial
    | intro hg)
      all_goals first
        | exact i64_in2 (by omega)
        | rfl
def eqSt5 (l : List D) (i k : Nat) : Bool := (gD l i).s.toList == (gD l k).s.toList
def innT5 (l : List D) (i : Nat) : Nat → Nat → Bool
  | 0, _ => false
  | j + 1, k => eqSt5 l i k || innT5 l i j (k + 1)
def outT5 (l : List D) : Nat → Nat → Bool
  | 0, _ => false
  | j + 1, i => innT5 l i i 0 || outT5 l j (i + 1)
noncomputable def HTo5 (l : List D) (i : Nat) : Vst 25 := stS 25 [(0, .sl 9 l), (3, .c (.int .i64 (i : Int)))] []
noncomputable def HTi5 (l : List D) (i k : Nat) : Vst 25 := stS 25 [(0, .sl 9 l), (3, .c (.int .i64 (i : Int))), (4, .c (.int .i64 (k : Int)))] []
set_option maxHeartbeats 8000000 in
set_option maxRecDepth 100000 in
theorem twiceF5_ac (l : List D) (hl : l.length ≤ 1000000000) : AC EN5 Tryz.prog 37 [.sl 9 l] (.c (.bool (outT5 l l.length 0))) := by
  obtain ⟨R, hR⟩ : ∃ R, outT5 l l.length 0 = R := ⟨_, rfl⟩
  rw [hR]
  refine ac_enter 25 Tryz.func37 rfl rfl rfl rfl ?_
  intro s w he
  repeat' (first
    | refine aw_region ?_
    | refine awo_nil ?_
    | refine k_seq ?_
    | refine k_block ?_
    | refine k_scope ?_
    | (apply aw_1
       conv => whnf
       refine ⟨?_, trivial⟩)
    | (apply s_1
       conv => whnf; arg 1; arg 4; arg 3; whnf
       refine ⟨?_, ?_⟩)
    | (apply s_val rfl
       · conv => lhs; whnf
       · conv => lhs; whnf; arg 2; whnf)
    | (apply aw_draw (by kernel_rfl) (by kernel_rfl))
    | apply y_nil
    | (apply y_val rfl
       · conv => lhs; whnf
       · conv => lhs; whnf; arg 2; whnf)
    | exact apartB_none
    | exact apartB_nil
    | exact all_nil
    | (show List.all _ _ = true; rfl)
    | (show apartB _ _ = true; rfl)
    | exact ([] : List Nat)
    | exact (1000000 : Nat)
    | (apply aw_cond_t
       · conv => lhs; whnf; arg 1; arg 1; whnf)
    | (apply aw_cond_f
       · conv => lhs; whnf; arg 1; arg 1; whnf)
    | (refine aw_cond (by conv => lhs; whnf) ?_ ?_ <;> intro hb)
    | refine aw_ret ?_
    | refine aw_exit ?_
    | refine k_seq_exit ?_
    | refine k_seq_ret ?_
    | refine k_block_ret ?_
    | refine k_block_hit rfl ?_
    | refine k_block_miss rfl ?_
    | refine k_scope_exit ?_
    | refine k_scope_ret ?_
    | refine k_loop_exit ?_
    | refine k_loop_ret ?_
    | refine k_end ?_
    | refine k_end_ret ?_
    | (refine ⟨_, by conv => lhs; whnf; arg 2; whnf, ?_⟩; conv => rhs; whnf)
    | exact trivial
    | intro hg)
  refine aw_loop (fun j st => ∃ i, i + j = l.length ∧ outT5 l j i = R ∧ Sub (cx EN5 Tryz.prog s w he) st (HTo5 l i)) l.length ⟨0, by omega, hR, Sub.live ⟨rfl, rfl, trivial⟩ trivial⟩ ?_
  clear hR
  rintro j st ⟨i, hij, hR, hs2⟩
  refine aw_sub hs2 ?_
  clear hs2
  by_cases hi : i < l.length
  · obtain ⟨j, rfl⟩ : ∃ q, j = q + 1 := ⟨j - 1, by omega⟩
    have f1 : decide ((i : Int) < (l.length : Nat)) = true := decide_eq_true (by omega)
    have hR' : (innT5 l i i 0 || outT5 l j (i + 1)) = R := hR
    clear hR
    repeat' (first
    | (apply aw_cond_kt
       · conv => lhs; whnf
       · assumption)
    | (apply aw_cond_kf
       · conv => lhs; whnf
       · assumption)
    | refine k_cut_ret ?_
    | refine k_cut_exit ?_
    | refine k_cut ?_
    | refine aw_region ?_
    | refine awo_nil ?_
    | refine k_seq ?_
    | refine k_block ?_
    | refine k_scope ?_
    | (apply aw_1
       conv => whnf
       refine ⟨?_, trivial⟩)
    | (apply s_1
       conv => whnf; arg 1; arg 4; arg 3; whnf
       refine ⟨?_, ?_⟩)
    | (apply s_val rfl
       · conv => lhs; whnf
       · conv => lhs; whnf; arg 2; whnf)
    | (apply aw_draw (by kernel_rfl) (by kernel_rfl))
    | apply y_nil
    | (apply y_val rfl
       · conv => lhs; whnf
       · conv => lhs; whnf; arg 2; whnf)
    | exact apartB_none
    | exact apartB_nil
    | exact all_nil
    | (show List.all _ _ = true; rfl)
    | (show apartB _ _ = true; rfl)
    | exact ([] : List Nat)
    | exact (1000000 : Nat)
    | (apply aw_cond_t
       · conv => lhs; whnf; arg 1; arg 1; whnf)
    | (apply aw_cond_f
       · conv => lhs; whnf; arg 1; arg 1; whnf)
    | (refine aw_cond (by conv => lhs; whnf) ?_ ?_ <;> intro hb)
    | refine aw_ret ?_
    | refine aw_exit ?_
    | refine k_seq_exit ?_
    | refine k_seq_ret ?_
    | refine k_block_ret ?_
    | refine k_block_hit rfl ?_
    | refine k_block_miss rfl ?_
    | refine k_scope_exit ?_
    | refine k_scope_ret ?_
    | refine k_loop_exit ?_
    | refine k_loop_ret ?_
    | refine k_end ?_
    | refine k_end_ret ?_
    | (refine ⟨_, by conv => lhs; whnf; arg 2; whnf, ?_⟩; conv => rhs; whnf)
    | exact trivial
    | intro hg)
    refine aw_loop (fun jj st => ∃ k, k + jj = i ∧ (innT5 l i jj k || outT5 l j (i + 1)) = R ∧ Sub (cx EN5 Tryz.prog s w he) st (HTi5 l i k)) i ⟨0, by omega, hR', Sub.live ⟨rfl, rfl, rfl, trivial⟩ trivial⟩ ?_
    clear hR'
    rintro jj st ⟨k, hk, hR, hs2⟩
    refine aw_sub hs2 ?_
    clear hs2
    by_cases hki : k < i
    · obtain ⟨jj, rfl⟩ : ∃ q, jj = q + 1 := ⟨jj - 1, by omega⟩
      have f2 : decide ((k : Int) < (i : Int)) = true := decide_eq_true (by omega)
      have hR' : (eqSt5 l i k || innT5 l i jj (k + 1) || outT5 l j (i + 1)) = R := hR
      have hkl : k < l.length := by omega
      repeat' (first
    | (apply aw_cond_kt
       · conv => lhs; whnf
       · assumption)
    | (apply aw_cond_kf
       · conv => lhs; whnf
       · assumption)
    | refine k_cut_ret ?_
    | refine k_cut_exit ?_
    | refine k_cut ?_
    | refine aw_region ?_
    | refine awo_nil ?_
    | refine k_seq ?_
    | refine k_block ?_
    | refine k_scope ?_
    | (apply aw_1
       conv => whnf
       refine ⟨?_, trivial⟩)
    | (apply s_1
       conv => whnf; arg 1; arg 4; arg 3; whnf
       refine ⟨?_, ?_⟩)
    | (apply s_val rfl
       · conv => lhs; whnf
       · conv => lhs; whnf; arg 2; whnf)
    | (apply aw_draw (by kernel_rfl) (by kernel_rfl))
    | apply y_nil
    | (apply y_val rfl
       · conv => lhs; whnf
       · conv => lhs; whnf; arg 2; whnf)
    | exact apartB_none
    | exact apartB_nil
    | exact all_nil
    | (show List.all _ _ = true; rfl)
    | (show apartB _ _ = true; rfl)
    | exact ([] : List Nat)
    | exact (1000000 : Nat)
    | (apply aw_cond_t
       · conv => lhs; whnf; arg 1; arg 1; whnf)
    | (apply aw_cond_f
       · conv => lhs; whnf; arg 1; arg 1; whnf)
    | (refine aw_cond (by conv => lhs; whnf) ?_ ?_ <;> intro hb)
    | refine aw_ret ?_
    | refine aw_exit ?_
    | refine k_seq_exit ?_
    | refine k_seq_ret ?_
    | refine k_block_ret ?_
    | refine k_block_hit rfl ?_
    | refine k_block_miss rfl ?_
    | refine k_scope_exit ?_
    | refine k_scope_ret ?_
    | refine k_loop_exit ?_
    | refine k_loop_ret ?_
    | refine k_end ?_
    | refine k_end_ret ?_
    | (refine ⟨_, by conv => lhs; whnf; arg 2; whnf, ?_⟩; conv => rhs; whnf)
    | exact trivial
    | intro hg)
      all_goals first
        | exact i64_in2 (by omega)
        | exact ixn_ok hi
        | exact ixn_ok hkl
        | skip
      · have e : eqSt5 l i k = true := by assumption
        rw [← hR', e]; rfl
      · have e : eqSt5 l i k = false := by assumption
        exact k_loop_next (j' := jj) (by omega) ⟨k + 1, by omega, by rw [← hR', e, Bool.false_or], Sub.live ⟨rfl, rfl, rfl, trivial⟩ trivial⟩
    · obtain rfl : jj = 0 := by omega
      have f2 : decide ((k : Int) < (i : Int)) = false := decide_eq_false (by omega)
      have hR' : outT5 l j (i + 1) = R := by rw [← hR, innT5, Bool.false_or]
      repeat' (first
    | (apply aw_cond_kt
       · conv => lhs; whnf
       · assumption)
    | (apply aw_cond_kf
       · conv => lhs; whnf
       · assumption)
    | refine k_cut_ret ?_
    | refine k_cut_exit ?_
    | refine k_cut ?_
    | refine aw_region ?_
    | refine awo_nil ?_
    | refine k_seq ?_
    | refine k_block ?_
    | refine k_scope ?_
    | (apply aw_1
       conv => whnf
       refine ⟨?_, trivial⟩)
    | (apply s_1
       conv => whnf; arg 1; arg 4; arg 3; whnf
       refine ⟨?_, ?_⟩)
    | (apply s_val rfl
       · conv => lhs; whnf
       · conv => lhs; whnf; arg 2; whnf)
    | (apply aw_draw (by kernel_rfl) (by kernel_rfl))
    | apply y_nil
    | (apply y_val rfl
       · conv => lhs; whnf
       · conv => lhs; whnf; arg 2; whnf)
    | exact apartB_none
    | exact apartB_nil
    | exact all_nil
    | (show List.all _ _ = true; rfl)
    | (show apartB _ _ = true; rfl)
    | exact ([] : List Nat)
    | exact (1000000 : Nat)
    | (apply aw_cond_t
       · conv => lhs; whnf; arg 1; arg 1; whnf)
    | (apply aw_cond_f
       · conv => lhs; whnf; arg 1; arg 1; whnf)
    | (refine aw_cond (by conv => lhs; whnf) ?_ ?_ <;> intro hb)
    | refine aw_ret ?_
    | refine aw_exit ?_
    | refine k_seq_exit ?_
    | refine k_seq_ret ?_
    | refine k_block_ret ?_
    | refine k_block_hit rfl ?_
    | refine k_block_miss rfl ?_
    | refine k_scope_exit ?_
    | refine k_scope_ret ?_
    | refine k_loop_exit ?_
    | refine k_loop_ret ?_
    | refine k_end ?_
    | refine k_end_ret ?_
    | (refine ⟨_, by conv => lhs; whnf; arg 2; whnf, ?_⟩; conv => rhs; whnf)
    | exact trivial
    | intro hg)
      all_goals first
        | exact i64_in2 (by omega)
        | exact k_loop_next (j' := j) (by omega) ⟨i + 1, by omega, hR', Sub.live ⟨rfl, rfl, trivial⟩ trivial⟩
        | skip
  · obtain rfl : j = 0 := by omega
    have f1 : decide ((i : Int) < (l.length : Nat)) = false := decide_eq_false (by omega)
    repeat' (first
    | (apply aw_cond_kt
       · conv => lhs; whnf
       · assumption)
    | (apply aw_cond_kf
       · conv => lhs; whnf
       · assumption)
    | refine k_cut_ret ?_
    | refine k_cut_exit ?_
    | refine k_cut ?_
    | refine aw_region ?_
    | refine awo_nil ?_
    | refine k_seq ?_
    | refine k_block ?_
    | refine k_scope ?_
    | (apply aw_1
       conv => whnf
       refine ⟨?_, trivial⟩)
    | (apply s_1
       conv => whnf; arg 1; arg 4; arg 3; whnf
       refine ⟨?_, ?_⟩)
    | (apply s_val rfl
       · conv => lhs; whnf
       · conv => lhs; whnf; arg 2; whnf)
    | (apply aw_draw (by kernel_rfl) (by kernel_rfl))
    | apply y_nil
    | (apply y_val rfl
       · conv => lhs; whnf
       · conv => lhs; whnf; arg 2; whnf)
    | exact apartB_none
    | exact apartB_nil
    | exact all_nil
    | (show List.all _ _ = true; rfl)
    | (show apartB _ _ = true; rfl)
    | exact ([] : List Nat)
    | exact (1000000 : Nat)
    | (apply aw_cond_t
       · conv => lhs; whnf; arg 1; arg 1; whnf)
    | (apply aw_cond_f
       · conv => lhs; whnf; arg 1; arg 1; whnf)
    | (refine aw_cond (by conv => lhs; whnf) ?_ ?_ <;> intro hb)
    | refine aw_ret ?_
    | refine aw_exit ?_
    | refine k_seq_exit ?_
    | refine k_seq_ret ?_
    | refine k_block_ret ?_
    | refine k_block_hit rfl ?_
    | refine k_block_miss rfl ?_
    | refine k_scope_exit ?_
    | refine k_scope_ret ?_
    | refine k_loop_exit ?_
    | refine k_loop_ret ?_
    | refine k_end ?_
    | refine k_end_ret ?_
    | (refine ⟨_, by conv => lhs; whnf; arg 2; whnf, ?_⟩; conv => rhs; whnf)
    | exact trivial
    | intro hg)
    rw [← hR]; rfl
end Go.Proofs.YtdklhkdlndlgnaaGreatDoor
namespace Go.Proofs.YtdklhkdlndlgnaaGreatDoor
open Go.RowKit
set_option linter.unusedSectionVars false
set_option maxHeartbeats 8000000 in
set_option maxRecDepth 100000 in
theorem str_is5 (s : ByteArray) (l : List UInt8) : (s.toList == (⟨l.toArray⟩ : ByteArray).toList) = (s.data.toList == l) := by
  rw [Lib.toList_data, Lib.toList_data]
def enum5 (s : ByteArray) : Bool := nameB s && !(s.data.toList == [116, 114, 117, 101]) && !(s.data.toList == [102, 97, 108, 115, 101]) && !(s.data.toList == [110, 117, 108, 108])
def nodeF5 (n i : Int) (t : Bool) (a b : Nat) (x y : Bool) : Bool :=
  if n = 0 then i == 0 && t && b == 0 && a == 0
  else if n = 1 then (i == 0 || i == 1) && t && b == 0 && a == 0
  else if n = 2 then t && b == 0 && a == 0
  else if n = 3 then i == 0 && b == 0 && a == 0
  else if n = 4 then i == 0 && b == 0 && a == 0 && x
  else if n = 5 then i == 0 && t && a == 0
  else if n = 6 then i == 0 && t && a == b && y
  else false
def nodeD5 (d : D) : Bool := nodeF5 (d.f 0).n (d.f 1).n ((d.f 2).s.data.toList == []) (d.f 4).l.length (d.f 3).l.length (enum5 (d.f 2).s) (!outT5 (d.f 4).l (d.f 4).l.length 0)
attribute [local irreducible] wpList Calls Code.wp AW AWo OpOk seqK blockK scopeK loopK endK AC absLex Yld Sub
attribute [local irreducible] ACB ACX absLexG YldG
set_option maxHeartbeats 8000000 in
set_option maxRecDepth 100000 in
theorem nodeF5_ac (d : D) (hl : (d.f 4).l.length ≤ 1000000000) : AC EN5 Tryz.prog 22 [.agg (cellsV Tryz.prog 12 26 d), .c (.bool false)] (.c (.bool (nodeD5 d))) := by
  have h1 := nameR5_ac (d.f 2).s
  have h2 := twiceF5_ac (d.f 4).l hl
  have e : cellsV Tryz.prog 12 26 d = [.c (.int .i64 (d.f 0).n), .c (.int .i64 (d.f 1).n), .c (.string (d.f 2).s), .sl 26 (d.f 3).l, .sl 9 (d.f 4).l] := rfl
  have hT : ((d.f 2).s.toList == ({ data := #[] } : ByteArray).toList) = ((d.f 2).s.data.toList == []) := str_is5 _ []
  have hT1 : ((d.f 2).s.toList == ({ data := #[116, 114, 117, 101] } : ByteArray).toList) = ((d.f 2).s.data.toList == [116, 114, 117, 101]) := str_is5 _ _
  have hT2 : ((d.f 2).s.toList == ({ data := #[102, 97, 108, 115, 101] } : ByteArray).toList) = ((d.f 2).s.data.toList == [102, 97, 108, 115, 101]) := str_is5 _ _
  have hT3 : ((d.f 2).s.toList == ({ data := #[110, 117, 108, 108] } : ByteArray).toList) = ((d.f 2).s.data.toList == [110, 117, 108, 108]) := str_is5 _ _
  have z3 : (((d.f 3).l.length : Int) == 0) = ((d.f 3).l.length == 0) := by rw [Bool.eq_iff_iff]; simp only [beq_iff_eq]; omega
  have z4 : (((d.f 4).l.length : Int) == 0) = ((d.f 4).l.length == 0) := by rw [Bool.eq_iff_iff]; simp only [beq_iff_eq]; omega
  have z5 : (((d.f 4).l.length : Int) == ((d.f 3).l.length : Int)) = ((d.f 4).l.length == (d.f 3).l.length) := by rw [Bool.eq_iff_iff]; simp only [beq_iff_eq]; omega
  unfold nodeD5 nodeF5 enum5
  rw [e]
  by_cases h8 : 0 ≤ (d.f 0).n ∧ (d.f 0).n ≤ 7
  · have h9 : (d.f 0).n = 0 ∨ (d.f 0).n = 1 ∨ (d.f 0).n = 2 ∨ (d.f 0).n = 3 ∨ (d.f 0).n = 4 ∨ (d.f 0).n = 5 ∨ (d.f 0).n = 6 ∨ (d.f 0).n = 7 := by omega
    rcases h9 with hn | hn | hn | hn | hn | hn | hn | hn
    all_goals
      rw [hn]
      simp only [if_pos, if_neg, reduceIte, Int.reduceEq]
      refine ac_enter 193 Tryz.func22 rfl rfl rfl rfl ?_
      intro s w he
      repeat' (first
    | (apply s_wanted_pick_t rfl rfl rfl
       · conv => lhs; whnf
       · first | rfl | assumption
       · conv => lhs; whnf
       · first | exact bT1 (by assumption) | exact bT2 (by assumption) | rfl)
    | (apply s_wpick_t rfl rfl rfl
       · conv => lhs; whnf
       · first | rfl | assumption
       · conv => lhs; whnf
       · first | exact bT1 (by assumption) | exact bT2 (by assumption) | rfl)
    | (apply s_wanted_pick_f rfl rfl rfl
       · conv => lhs; whnf
       · first | rfl | assumption
       · conv => lhs; whnf
       · first | exact bF1 (by assumption) | exact bF2 (by assumption) | rfl)
    | (apply s_wpick_f rfl rfl rfl
       · conv => lhs; whnf
       · first | rfl | assumption
       · conv => lhs; whnf
       · first | exact bF1 (by assumption) | exact bF2 (by assumption) | rfl)
    | refine aw_region ?_
    | refine awo_nil ?_
    | refine k_seq ?_
    | refine k_block ?_
    | refine k_scope ?_
    | (apply aw_1
       conv => whnf
       refine ⟨?_, trivial⟩)
    | (apply s_pick_t rfl rfl
       · conv => lhs; whnf
       · conv => lhs; whnf
       · first | exact bT1 (by assumption) | exact bT2 (by assumption))
    | (apply s_pick_f rfl rfl
       · conv => lhs; whnf
       · conv => lhs; whnf
       · first | exact bF1 (by assumption) | exact bF2 (by assumption))
    | (apply s_1
       conv => whnf; arg 1; arg 4; arg 3; whnf
       refine ⟨?_, ?_⟩)
    | (apply s_val rfl
       · conv => lhs; whnf
       · conv => lhs; whnf; arg 2; whnf)
    | (apply s_call rfl
       · conv => lhs; whnf
       · conv => lhs; whnf
       · first | exact h1 | exact h2)
    | (apply s_box rfl rfl rfl rfl
       · conv => lhs; whnf; arg 1; whnf
       · rfl)
    | (apply s_wanted_val rfl
       · conv => lhs; whnf
       · conv => lhs; whnf
       · first | rfl | assumption
       · conv => lhs; whnf; arg 2; whnf)
    | (apply s_wanted_call rfl
       · conv => lhs; whnf
       · conv => lhs; whnf
       · first | rfl | assumption
       · conv => lhs; whnf
       · first | exact h1 | exact h2)
    | (apply s_skipU rfl
       · conv => lhs; whnf
       · conv => lhs; whnf
       · first | rfl | assumption)
    | (apply s_dead rfl
       · conv => lhs; whnf
       · rfl
       · rfl)
    | (apply s_guard_valU rfl
       · conv => lhs; whnf
       · conv => lhs; whnf
       · conv => lhs; whnf; arg 2; whnf)
    | (apply s_guard_callU rfl
       · conv => lhs; whnf
       · conv => lhs; whnf
       · conv => lhs; whnf
       · first | exact h1 | exact h2)
    | (apply s_guard_val rfl
       · conv => lhs; whnf
       · conv => lhs; whnf
       · conv => lhs; whnf; arg 2; whnf)
    | (apply s_guard_call rfl
       · conv => lhs; whnf
       · conv => lhs; whnf
       · conv => lhs; whnf
       · first | exact h1 | exact h2)
    | (apply aw_cond_t
       · conv => lhs; whnf; arg 1; arg 1; whnf)
    | (apply aw_cond_f
       · conv => lhs; whnf; arg 1; arg 1; whnf)
    | (refine aw_cond (by conv => lhs; whnf) ?_ ?_ <;> intro hb)
    | refine aw_ret ?_
    | refine aw_exit ?_
    | refine k_seq_exit ?_
    | refine k_seq_ret ?_
    | refine k_block_ret ?_
    | refine k_block_hit rfl ?_
    | refine k_block_miss rfl ?_
    | refine k_scope_exit ?_
    | refine k_scope_ret ?_
    | refine k_loop_exit ?_
    | refine k_loop_ret ?_
    | refine k_end ?_
    | refine k_end_ret ?_
    | (refine ⟨_, by conv => lhs; whnf; arg 2; whnf, ?_⟩; conv => rhs; whnf)
    | exact trivial
    | intro hg)
      all_goals
        refine congrArg (fun b => V.c (.bool b)) ?_
        clear h1 h2 he e hl
        simp only [hT, hT1, hT2, hT3, z3, z4, z5] at *
        clear hT hT1 hT2 hT3 z3 z4 z5
        generalize ((d.f 2).s.data.toList == []) = t at *
        generalize ((d.f 2).s.data.toList == [116, 114, 117, 101]) = t1 at *
        generalize ((d.f 2).s.data.toList == [102, 97, 108, 115, 101]) = t2 at *
        generalize ((d.f 2).s.data.toList == [110, 117, 108, 108]) = t3 at *
        generalize nameB (d.f 2).s = v at *
        generalize outT5 (d.f 4).l (d.f 4).l.length 0 = y at *
        generalize ((d.f 3).l.length == 0) = b0 at *
        generalize ((d.f 4).l.length == 0) = a0 at *
        generalize ((d.f 4).l.length == (d.f 3).l.length) = ab at *
        generalize (d.f 1).n = i at *
        simp_all
  have n0 : (d.f 0).n ≠ 0 := by omega
  have n1 : (d.f 0).n ≠ 1 := by omega
  have n2 : (d.f 0).n ≠ 2 := by omega
  have n3 : (d.f 0).n ≠ 3 := by omega
  have n4 : (d.f 0).n ≠ 4 := by omega
  have n5 : (d.f 0).n ≠ 5 := by omega
  have n6 : (d.f 0).n ≠ 6 := by omega
  have n7 : (d.f 0).n ≠ 7 := by omega
  rw [if_neg n0, if_neg n1, if_neg n2, if_neg n3, if_neg n4, if_neg n5, if_neg n6]
  · have f0 : ((d.f 0).n == 0) = false := by simpa using n0
    have f1 : ((d.f 0).n == 1) = false := by simpa using n1
    have f2 : ((d.f 0).n == 2) = false := by simpa using n2
    have f3 : ((d.f 0).n == 3) = false := by simpa using n3
    have f4 : ((d.f 0).n == 4) = false := by simpa using n4
    have f5 : ((d.f 0).n == 5) = false := by simpa using n5
    have f6 : ((d.f 0).n == 6) = false := by simpa using n6
    have f7 : ((d.f 0).n == 7) = false := by simpa using n7
    refine ac_enter 193 Tryz.func22 rfl rfl rfl rfl ?_
    intro s w he
    repeat' (first
    | (apply aw_cond_kt
       · conv => lhs; whnf
       · assumption)
    | (apply aw_cond_kf
       · conv => lhs; whnf
       · assumption)
    | refine k_cut_ret ?_
    | refine k_cut_exit ?_
    | refine k_cut ?_
    | refine aw_region ?_
    | refine awo_nil ?_
    | refine k_seq ?_
    | refine k_block ?_
    | refine k_scope ?_
    | (apply aw_1
       conv => whnf
       refine ⟨?_, trivial⟩)
    | (apply s_pick_t rfl rfl
       · conv => lhs; whnf
       · conv => lhs; whnf
       · first | exact bT1 (by assumption) | exact bT2 (by assumption))
    | (apply s_pick_f rfl rfl
       · conv => lhs; whnf
       · conv => lhs; whnf
       · first | exact bF1 (by assumption) | exact bF2 (by assumption))
    | (apply s_1
       conv => whnf; arg 1; arg 4; arg 3; whnf
       refine ⟨?_, ?_⟩)
    | (apply s_val rfl
       · conv => lhs; whnf
       · conv => lhs; whnf; arg 2; whnf)
    | (apply s_call rfl
       · conv => lhs; whnf
       · conv => lhs; whnf
       · first | exact h1 | exact h2)
    | (apply s_box rfl rfl rfl rfl
       · conv => lhs; whnf; arg 1; whnf
       · rfl)
    | (apply s_wanted_val rfl
       · conv => lhs; whnf
       · conv => lhs; whnf
       · first | rfl | assumption
       · conv => lhs; whnf; arg 2; whnf)
    | (apply s_wanted_call rfl
       · conv => lhs; whnf
       · conv => lhs; whnf
       · first | rfl | assumption
       · conv => lhs; whnf
       · first | exact h1 | exact h2)
    | (apply s_skip rfl
       · conv => lhs; whnf
       · conv => lhs; whnf
       · first | rfl | assumption)
    | (apply s_guard_val rfl
       · conv => lhs; whnf
       · conv => lhs; whnf
       · conv => lhs; whnf; arg 2; whnf)
    | (apply s_guard_call rfl
       · conv => lhs; whnf
       · conv => lhs; whnf
       · conv => lhs; whnf
       · first | exact h1 | exact h2)
    | (apply aw_cond_t
       · conv => lhs; whnf; arg 1; arg 1; whnf)
    | (apply aw_cond_f
       · conv => lhs; whnf; arg 1; arg 1; whnf)
    | (refine aw_cond (by conv => lhs; whnf) ?_ ?_ <;> intro hb)
    | refine aw_ret ?_
    | refine aw_exit ?_
    | refine k_seq_exit ?_
    | refine k_seq_ret ?_
    | refine k_block_ret ?_
    | refine k_block_hit rfl ?_
    | refine k_block_miss rfl ?_
    | refine k_scope_exit ?_
    | refine k_scope_ret ?_
    | refine k_loop_exit ?_
    | refine k_loop_ret ?_
    | refine k_end ?_
    | refine k_end_ret ?_
    | (refine ⟨_, by conv => lhs; whnf; arg 2; whnf, ?_⟩; conv => rhs; whnf)
    | exact trivial
    | intro hg)
/-- whether all from the i-th on are so -/
def allI5 (p : D → Bool) (l : List D) : Nat → Nat → Bool
  | 0, _ => true
  | j + 1, i => p (gD l i) && allI5 p l j (i + 1)
def everyF5 : Nat → D → Bool
  | 0, _ => false
  | k + 1, d => nodeD5 d && allI5 (everyF5 k) (d.f 3).l (d.f 3).l.length 0
noncomputable def HWk5 (d : D) (i : Nat) : Vst 43 := stS 43 [(1, .c (.bool false)), (2, .bx 2 0), (5, .c (.int .i64 (i : Int)))] [(2, .box 26 (cellsV Tryz.prog 12 26 d))]
noncomputable def HWi5 (d : D) (i : Nat) : Vst 43 := stS 43 [(1, .c (.bool false)), (2, .bx 2 0), (6, .c (.int .i64 (i : Int)))] [(2, .box 26 (cellsV Tryz.prog 12 26 d))]
set_option maxHeartbeats 8000000 in
set_option maxRecDepth 100000 in
theorem wholeF5_ac : ∀ (k : Nat) (d : D), Dp k d → wtJ k d ≤ 1000000000 → AC EN5 Tryz.prog 11 [.agg (cellsV Tryz.prog 12 26 d), .c (.bool false)] (.c (.bool (everyF5 k d)))
  | 0, _, h, _ => h.elim
  | k + 1, d, h, hw => by
    have hin := wt_in h hw
    have hl := hin.items
    have hlk := hin.keys
    have ih := fun i (hi : i < (d.f 3).l.length) => wholeF5_ac k (gD (d.f 3).l i) (h i hi) (hin.at_ i hi)
    have hn := nodeF5_ac d (by omega)
    have hname := fun i (_ : i < (d.f 4).l.length) => nameR5_ac (gD (d.f 4).l i).s
    have hR : everyF5 (k + 1) d = (nodeD5 d && allI5 (everyF5 k) (d.f 3).l (d.f 3).l.length 0) := rfl
    generalize everyF5 (k + 1) d = R at hR ⊢
    refine ac_enter 43 Tryz.func11 rfl rfl rfl rfl ?_
    intro s w he
    repeat' (first
    | refine aw_region ?_
    | refine awo_nil ?_
    | refine k_seq ?_
    | refine k_block ?_
    | refine k_scope ?_
    | (apply aw_1
       conv => whnf
       refine ⟨?_, trivial⟩)
    | (apply s_pick_t rfl rfl
       · conv => lhs; whnf
       · conv => lhs; whnf
       · first | exact bT1 (by assumption) | exact bT2 (by assumption))
    | (apply s_pick_f rfl rfl
       · conv => lhs; whnf
       · conv => lhs; whnf
       · first | exact bF1 (by assumption) | exact bF2 (by assumption))
    | (apply s_1
       conv => whnf; arg 1; arg 4; arg 3; whnf
       refine ⟨?_, ?_⟩)
    | (apply s_val rfl
       · conv => lhs; whnf
       · conv => lhs; whnf; arg 2; whnf)
    | (apply s_call rfl
       · conv => lhs; whnf
       · conv => lhs; whnf
       · first | exact hn)
    | (apply s_box rfl rfl rfl rfl
       · conv => lhs; whnf; arg 1; whnf
       · rfl)
    | (apply s_wanted_val rfl
       · conv => lhs; whnf
       · conv => lhs; whnf
       · first | rfl | assumption
       · conv => lhs; whnf; arg 2; whnf)
    | (apply s_wanted_call rfl
       · conv => lhs; whnf
       · conv => lhs; whnf
       · first | rfl | assumption
       · conv => lhs; whnf
       · first | exact hn)
    | (apply s_skip rfl
       · conv => lhs; whnf
       · conv => lhs; whnf
       · first | rfl | assumption)
    | (apply s_guard_val rfl
       · conv => lhs; whnf
       · conv => lhs; whnf
       · conv => lhs; whnf; arg 2; whnf)
    | (apply s_guard_call rfl
       · conv => lhs; whnf
       · conv => lhs; whnf
       · conv => lhs; whnf
       · first | exact hn)
    | (apply aw_cond_t
       · conv => lhs; whnf; arg 1; arg 1; whnf)
    | (apply aw_cond_f
       · conv => lhs; whnf; arg 1; arg 1; whnf)
    | (refine aw_cond (by conv => lhs; whnf) ?_ ?_ <;> intro hb)
    | refine aw_ret ?_
    | refine aw_exit ?_
    | refine k_seq_exit ?_
    | refine k_seq_ret ?_
    | refine k_block_ret ?_
    | refine k_block_hit rfl ?_
    | refine k_block_miss rfl ?_
    | refine k_scope_exit ?_
    | refine k_scope_ret ?_
    | refine k_loop_exit ?_
    | refine k_loop_ret ?_
    | refine k_end ?_
    | refine k_end_ret ?_
    | (refine ⟨_, by conv => lhs; whnf; arg 2; whnf, ?_⟩; conv => rhs; whnf)
    | exact trivial
    | intro hg)
    · have hb : nodeD5 d = false := by simpa using (by assumption : (!nodeD5 d) = true)
      rw [hR, hb]; rfl
    have hb : nodeD5 d = true := by simpa using (by assumption : (!nodeD5 d) = false)
    rw [hb, Bool.true_and] at hR
    clear hb hn
    refine aw_loop (fun j st => ∃ i, i + j = (d.f 4).l.length ∧ R = allI5 (everyF5 k) (d.f 3).l (d.f 3).l.length 0 ∧ Sub (cx EN5 Tryz.prog s w he) st (HWk5 d i)) (d.f 4).l.length ⟨0, by omega, hR, Sub.live ⟨rfl, rfl, rfl, trivial⟩ ⟨rfl, trivial⟩⟩ ?_
    clear hR
    rintro j st ⟨i, hij, hR, hs2⟩
    refine aw_sub hs2 ?_
    clear hs2
    by_cases hi : i < (d.f 4).l.length
    · obtain ⟨j, rfl⟩ : ∃ q, j = q + 1 := ⟨j - 1, by omega⟩
      have f1 : decide ((i : Int) < ((d.f 4).l.length : Nat)) = true := decide_eq_true (by omega)
      have hn1 := hname i hi
      repeat' (first
    | (apply s_wanted_pick_t rfl rfl rfl
       · conv => lhs; whnf
       · first | rfl | assumption
       · conv => lhs; whnf
       · first | exact bT1 (by assumption) | exact bT2 (by assumption) | rfl)
    | (apply s_wpick_t rfl rfl rfl
       · conv => lhs; whnf
       · first | rfl | assumption
       · conv => lhs; whnf
       · first | exact bT1 (by assumption) | exact bT2 (by assumption) | rfl)
    | (apply s_wanted_pick_f rfl rfl rfl
       · conv => lhs; whnf
       · first | rfl | assumption
       · conv => lhs; whnf
       · first | exact bF1 (by assumption) | exact bF2 (by assumption) | rfl)
    | (apply s_wpick_f rfl rfl rfl
       · conv => lhs; whnf
       · first | rfl | assumption
       · conv => lhs; whnf
       · first | exact bF1 (by assumption) | exact bF2 (by assumption) | rfl)
    | (apply aw_cond_kt
       · conv => lhs; whnf
       · assumption)
    | (apply aw_cond_kf
       · conv => lhs; whnf
       · assumption)
    | refine k_cut_ret ?_
    | refine k_cut_exit ?_
    | refine k_cut ?_
    | refine aw_region ?_
    | refine awo_nil ?_
    | refine k_seq ?_
    | refine k_block ?_
    | refine k_scope ?_
    | (apply aw_1
       conv => whnf
       refine ⟨?_, trivial⟩)
    | (apply s_pick_t rfl rfl
       · conv => lhs; whnf
       · conv => lhs; whnf
       · first | exact bT1 (by assumption) | exact bT2 (by assumption))
    | (apply s_pick_f rfl rfl
       · conv => lhs; whnf
       · conv => lhs; whnf
       · first | exact bF1 (by assumption) | exact bF2 (by assumption))
    | (apply s_1
       conv => whnf; arg 1; arg 4; arg 3; whnf
       refine ⟨?_, ?_⟩)
    | (apply s_val rfl
       · conv => lhs; whnf
       · conv => lhs; whnf; arg 2; whnf)
    | (apply s_call rfl
       · conv => lhs; whnf
       · conv => lhs; whnf
       · first | exact hn1)
    | (apply s_box rfl rfl rfl rfl
       · conv => lhs; whnf; arg 1; whnf
       · rfl)
    | (apply s_wanted_val rfl
       · conv => lhs; whnf
       · conv => lhs; whnf
       · first | rfl | assumption
       · conv => lhs; whnf; arg 2; whnf)
    | (apply s_wanted_call rfl
       · conv => lhs; whnf
       · conv => lhs; whnf
       · first | rfl | assumption
       · conv => lhs; whnf
       · first | exact hn1)
    | (apply s_skipU rfl
       · conv => lhs; whnf
       · conv => lhs; whnf
       · first | rfl | assumption)
    | (apply s_dead rfl
       · conv => lhs; whnf
       · rfl
       · rfl)
    | (apply s_guard_valU rfl
       · conv => lhs; whnf
       · conv => lhs; whnf
       · conv => lhs; whnf; arg 2; whnf)
    | (apply s_guard_callU rfl
       · conv => lhs; whnf
       · conv => lhs; whnf
       · conv => lhs; whnf
       · first | exact hn1)
    | (apply s_guard_val rfl
       · conv => lhs; whnf
       · conv => lhs; whnf
       · conv => lhs; whnf; arg 2; whnf)
    | (apply s_guard_call rfl
       · conv => lhs; whnf
       · conv => lhs; whnf
       · conv => lhs; whnf
       · first | exact hn1)
    | (apply aw_cond_t
       · conv => lhs; whnf; arg 1; arg 1; whnf)
    | (apply aw_cond_f
       · conv => lhs; whnf; arg 1; arg 1; whnf)
    | (refine aw_cond (by conv => lhs; whnf) ?_ ?_ <;> intro hb)
    | refine aw_ret ?_
    | refine aw_exit ?_
    | refine k_seq_exit ?_
    | refine k_seq_ret ?_
    | refine k_block_ret ?_
    | refine k_block_hit rfl ?_
    | refine k_block_miss rfl ?_
    | refine k_scope_exit ?_
    | refine k_scope_ret ?_
    | refine k_loop_exit ?_
    | refine k_loop_ret ?_
    | refine k_end ?_
    | refine k_end_ret ?_
    | (refine ⟨_, by conv => lhs; whnf; arg 2; whnf, ?_⟩; conv => rhs; whnf)
    | exact trivial
    | intro hg)
      all_goals first
        | exact i64_in2 (by omega)
        | exact ixn_ok hi
        | exact k_loop_next (j' := j) (by omega) ⟨i + 1, by omega, hR, Sub.live ⟨rfl, rfl, rfl, trivial⟩ ⟨rfl, trivial⟩⟩
        | skip
    · obtain rfl : j = 0 := by omega
      have f1 : decide ((i : Int) < ((d.f 4).l.length : Nat)) = false := decide_eq_false (by omega)
      have hR2 := hR
      clear hR
      repeat' (first
    | (apply aw_cond_kt
       · conv => lhs; whnf
       · assumption)
    | (apply aw_cond_kf
       · conv => lhs; whnf
       · assumption)
    | refine k_cut_ret ?_
    | refine k_cut_exit ?_
    | refine k_cut ?_
    | refine aw_region ?_
    | refine awo_nil ?_
    | refine k_seq ?_
    | refine k_block ?_
    | refine k_scope ?_
    | (apply aw_1
       conv => whnf
       refine ⟨?_, trivial⟩)
    | (apply s_pick_t rfl rfl
       · conv => lhs; whnf
       · conv => lhs; whnf
       · first | exact bT1 (by assumption) | exact bT2 (by assumption))
    | (apply s_pick_f rfl rfl
       · conv => lhs; whnf
       · conv => lhs; whnf
       · first | exact bF1 (by assumption) | exact bF2 (by assumption))
    | (apply s_1
       conv => whnf; arg 1; arg 4; arg 3; whnf
       refine ⟨?_, ?_⟩)
    | (apply s_val rfl
       · conv => lhs; whnf
       · conv => lhs; whnf; arg 2; whnf)
    | (apply s_call rfl
       · conv => lhs; whnf
       · conv => lhs; whnf
       · first | fail)
    | (apply s_box rfl rfl rfl rfl
       · conv => lhs; whnf; arg 1; whnf
       · rfl)
    | (apply s_wanted_val rfl
       · conv => lhs; whnf
       · conv => lhs; whnf
       · first | rfl | assumption
       · conv => lhs; whnf; arg 2; whnf)
    | (apply s_wanted_call rfl
       · conv => lhs; whnf
       · conv => lhs; whnf
       · first | rfl | assumption
       · conv => lhs; whnf
       · first | fail)
    | (apply s_skip rfl
       · conv => lhs; whnf
       · conv => lhs; whnf
       · first | rfl | assumption)
    | (apply s_guard_val rfl
       · conv => lhs; whnf
       · conv => lhs; whnf
       · conv => lhs; whnf; arg 2; whnf)
    | (apply s_guard_call rfl
       · conv => lhs; whnf
       · conv => lhs; whnf
       · conv => lhs; whnf
       · first | fail)
    | (apply aw_cond_t
       · conv => lhs; whnf; arg 1; arg 1; whnf)
    | (apply aw_cond_f
       · conv => lhs; whnf; arg 1; arg 1; whnf)
    | (refine aw_cond (by conv => lhs; whnf) ?_ ?_ <;> intro hb)
    | refine aw_ret ?_
    | refine aw_exit ?_
    | refine k_seq_exit ?_
    | refine k_seq_ret ?_
    | refine k_block_ret ?_
    | refine k_block_hit rfl ?_
    | refine k_block_miss rfl ?_
    | refine k_scope_exit ?_
    | refine k_scope_ret ?_
    | refine k_loop_exit ?_
    | refine k_loop_ret ?_
    | refine k_end ?_
    | refine k_end_ret ?_
    | (refine ⟨_, by conv => lhs; whnf; arg 2; whnf, ?_⟩; conv => rhs; whnf)
    | exact trivial
    | intro hg)
      refine aw_loop (fun j st => ∃ i, i + j = (d.f 3).l.length ∧ R = allI5 (everyF5 k) (d.f 3).l j i ∧ Sub (cx EN5 Tryz.prog s w he) st (HWi5 d i)) (d.f 3).l.length ⟨0, by omega, hR2, Sub.live ⟨rfl, rfl, rfl, trivial⟩ ⟨rfl, trivial⟩⟩ ?_
      clear hR2
      rintro j2 st2 ⟨i2, hij2, hR, hs2⟩
      refine aw_sub hs2 ?_
      clear hs2
      by_cases hi2 : i2 < (d.f 3).l.length
      · obtain ⟨j2, rfl⟩ : ∃ q, j2 = q + 1 := ⟨j2 - 1, by omega⟩
        have f2 : decide ((i2 : Int) < ((d.f 3).l.length : Nat)) = true := decide_eq_true (by omega)
        have hR' : R = (everyF5 k (gD (d.f 3).l i2) && allI5 (everyF5 k) (d.f 3).l j2 (i2 + 1)) := hR
        have ih2 := ih i2 hi2
        repeat' (first
    | (apply s_wanted_pick_t rfl rfl rfl
       · conv => lhs; whnf
       · first | rfl | assumption
       · conv => lhs; whnf
       · first | exact bT1 (by assumption) | exact bT2 (by assumption) | rfl)
    | (apply s_wpick_t rfl rfl rfl
       · conv => lhs; whnf
       · first | rfl | assumption
       · conv => lhs; whnf
       · first | exact bT1 (by assumption) | exact bT2 (by assumption) | rfl)
    | (apply s_wanted_pick_f rfl rfl rfl
       · conv => lhs; whnf
       · first | rfl | assumption
       · conv => lhs; whnf
       · first | exact bF1 (by assumption) | exact bF2 (by assumption) | rfl)
    | (apply s_wpick_f rfl rfl rfl
       · conv => lhs; whnf
       · first | rfl | assumption
       · conv => lhs; whnf
       · first | exact bF1 (by assumption) | exact bF2 (by assumption) | rfl)
    | (apply aw_cond_kt
       · conv => lhs; whnf
       · assumption)
    | (apply aw_cond_kf
       · conv => lhs; whnf
       · assumption)
    | refine k_cut_ret ?_
    | refine k_cut_exit ?_
    | refine k_cut ?_
    | refine aw_region ?_
    | refine awo_nil ?_
    | refine k_seq ?_
    | refine k_block ?_
    | refine k_scope ?_
    | (apply aw_1
       conv => whnf
       refine ⟨?_, trivial⟩)
    | (apply s_pick_t rfl rfl
       · conv => lhs; whnf
       · conv => lhs; whnf
       · first | exact bT1 (by assumption) | exact bT2 (by assumption))
    | (apply s_pick_f rfl rfl
       · conv => lhs; whnf
       · conv => lhs; whnf
       · first | exact bF1 (by assumption) | exact bF2 (by assumption))
    | (apply s_1
       conv => whnf; arg 1; arg 4; arg 3; whnf
       refine ⟨?_, ?_⟩)
    | (apply s_val rfl
       · conv => lhs; whnf
       · conv => lhs; whnf; arg 2; whnf)
    | (apply s_call rfl
       · conv => lhs; whnf
       · conv => lhs; whnf
       · first | exact ih2)
    | (apply s_box rfl rfl rfl rfl
       · conv => lhs; whnf; arg 1; whnf
       · rfl)
    | (apply s_wanted_val rfl
       · conv => lhs; whnf
       · conv => lhs; whnf
       · first | rfl | assumption
       · conv => lhs; whnf; arg 2; whnf)
    | (apply s_wanted_call rfl
       · conv => lhs; whnf
       · conv => lhs; whnf
       · first | rfl | assumption
       · conv => lhs; whnf
       · first | exact ih2)
    | (apply s_skipU rfl
       · conv => lhs; whnf
       · conv => lhs; whnf
       · first | rfl | assumption)
    | (apply s_dead rfl
       · conv => lhs; whnf
       · rfl
       · rfl)
    | (apply s_guard_valU rfl
       · conv => lhs; whnf
       · conv => lhs; whnf
       · conv => lhs; whnf; arg 2; whnf)
    | (apply s_guard_callU rfl
       · conv => lhs; whnf
       · conv => lhs; whnf
       · conv => lhs; whnf
       · first | exact ih2)
    | (apply s_guard_val rfl
       · conv => lhs; whnf
       · conv => lhs; whnf
       · conv => lhs; whnf; arg 2; whnf)
    | (apply s_guard_call rfl
       · conv => lhs; whnf
       · conv => lhs; whnf
       · conv => lhs; whnf
       · first | exact ih2)
    | (apply aw_cond_t
       · conv => lhs; whnf; arg 1; arg 1; whnf)
    | (apply aw_cond_f
       · conv => lhs; whnf; arg 1; arg 1; whnf)
    | (refine aw_cond (by conv => lhs; whnf) ?_ ?_ <;> intro hb)
    | refine aw_ret ?_
    | refine aw_exit ?_
    | refine k_seq_exit ?_
    | refine k_seq_ret ?_
    | refine k_block_ret ?_
    | refine k_block_hit rfl ?_
    | refine k_block_miss rfl ?_
    | refine k_scope_exit ?_
    | refine k_scope_ret ?_
    | refine k_loop_exit ?_
    | refine k_loop_ret ?_
    | refine k_end ?_
    | refine k_end_ret ?_
    | (refine ⟨_, by conv => lhs; whnf; arg 2; whnf, ?_⟩; conv => rhs; whnf)
    | exact trivial
    | intro hg)
        all_goals first
          | exact i64_in2 (by omega)
          | exact ixn_ok hi2
          | (have e : everyF5 k (gD (d.f 3).l i2) = false := by simpa using (by assumption : (!everyF5 k (gD (d.f 3).l i2)) = true)
             rw [hR', e]; rfl)
          | (have e : everyF5 k (gD (d.f 3).l i2) = true := by simpa using (by assumption : (!everyF5 k (gD (d.f 3).l i2)) = false)
             exact k_loop_next (j' := j2) (by omega) ⟨i2 + 1, by omega, by rw [hR', e, Bool.true_and], Sub.live ⟨rfl, rfl, rfl, trivial⟩ ⟨rfl, trivial⟩⟩)
          | skip
      · obtain rfl : j2 = 0 := by omega
        have f2 : decide ((i2 : Int) < ((d.f 3).l.length : Nat)) = false := decide_eq_false (by omega)
        repeat' (first
    | (apply aw_cond_kt
       · conv => lhs; whnf
       · assumption)
    | (apply aw_cond_kf
       · conv => lhs; whnf
       · assumption)
    | refine k_cut_ret ?_
    | refine k_cut_exit ?_
    | refine k_cut ?_
    | refine aw_region ?_
    | refine awo_nil ?_
    | refine k_seq ?_
    | refine k_block ?_
    | refine k_scope ?_
    | (apply aw_1
       conv => whnf
       refine ⟨?_, trivial⟩)
    | (apply s_pick_t rfl rfl
       · conv => lhs; whnf
       · conv => lhs; whnf
       · first | exact bT1 (by assumption) | exact bT2 (by assumption))
    | (apply s_pick_f rfl rfl
       · conv => lhs; whnf
       · conv => lhs; whnf
       · first | exact bF1 (by assumption) | exact bF2 (by assumption))
    | (apply s_1
       conv => whnf; arg 1; arg 4; arg 3; whnf
       refine ⟨?_, ?_⟩)
    | (apply s_val rfl
       · conv => lhs; whnf
       · conv => lhs; whnf; arg 2; whnf)
    | (apply s_call rfl
       · conv => lhs; whnf
       · conv => lhs; whnf
       · first | fail)
    | (apply s_box rfl rfl rfl rfl
       · conv => lhs; whnf; arg 1; whnf
       · rfl)
    | (apply s_wanted_val rfl
       · conv => lhs; whnf
       · conv => lhs; whnf
       · first | rfl | assumption
       · conv => lhs; whnf; arg 2; whnf)
    | (apply s_wanted_call rfl
       · conv => lhs; whnf
       · conv => lhs; whnf
       · first | rfl | assumption
       · conv => lhs; whnf
       · first | fail)
    | (apply s_skip rfl
       · conv => lhs; whnf
       · conv => lhs; whnf
       · first | rfl | assumption)
    | (apply s_guard_val rfl
       · conv => lhs; whnf
       · conv => lhs; whnf
       · conv => lhs; whnf; arg 2; whnf)
    | (apply s_guard_call rfl
       · conv => lhs; whnf
       · conv => lhs; whnf
       · conv => lhs; whnf
       · first | fail)
    | (apply aw_cond_t
       · conv => lhs; whnf; arg 1; arg 1; whnf)
    | (apply aw_cond_f
       · conv => lhs; whnf; arg 1; arg 1; whnf)
    | (refine aw_cond (by conv => lhs; whnf) ?_ ?_ <;> intro hb)
    | refine aw_ret ?_
    | refine aw_exit ?_
    | refine k_seq_exit ?_
    | refine k_seq_ret ?_
    | refine k_block_ret ?_
    | refine k_block_hit rfl ?_
    | refine k_block_miss rfl ?_
    | refine k_scope_exit ?_
    | refine k_scope_ret ?_
    | refine k_loop_exit ?_
    | refine k_loop_ret ?_
    | refine k_end ?_
    | refine k_end_ret ?_
    | (refine ⟨_, by conv => lhs; whnf; arg 2; whnf, ?_⟩; conv => rhs; whnf)
    | exact trivial
    | intro hg)
        rw [hR]; rfl
def right5 (k : Nat) (d : D) : Bool := decide (sizeJ k d ≤ 4096) && decide (depthJ k d ≤ 24) && everyF5 k d
set_option maxHeartbeats 8000000 in
set_option maxRecDepth 100000 in
theorem right5_ac (k : Nat) (d : D) (h : Dp k d) (hw : wtJ k d ≤ 1000000000) : AC EN5 Tryz.prog 4 [.agg (cellsV Tryz.prog 12 26 d)] (.c (.bool (right5 k d))) := by
  have h1 := sizeF5_ac k d h hw
  have h2 := depthF5_ac k d h hw
  have h3 := wholeF5_ac k d h hw
  unfold right5
  refine ac_enter 15 Tryz.func4 rfl rfl rfl rfl ?_
  intro s w he
  repeat' (first
    | (apply s_wanted_pick_t rfl rfl rfl
       · conv => lhs; whnf
       · first | rfl | assumption
       · conv => lhs; whnf
       · first | exact bT1 (by assumption) | exact bT2 (by assumption) | rfl)
    | (apply s_wpick_t rfl rfl rfl
       · conv => lhs; whnf
       · first | rfl | assumption
       · conv => lhs; whnf
       · first | exact bT1 (by assumption) | exact bT2 (by assumption) | rfl)
    | (apply s_wanted_pick_f rfl rfl rfl
       · conv => lhs; whnf
       · first | rfl | assumption
       · conv => lhs; whnf
       · first | exact bF1 (by assumption) | exact bF2 (by assumption) | rfl)
    | (apply s_wpick_f rfl rfl rfl
       · conv => lhs; whnf
       · first | rfl | assumption
       · conv => lhs; whnf
       · first | exact bF1 (by assumption) | exact bF2 (by assumption) | rfl)
    | refine aw_region ?_
    | refine awo_nil ?_
    | refine k_seq ?_
    | refine k_block ?_
    | refine k_scope ?_
    | (apply aw_1
       conv => whnf
       refine ⟨?_, trivial⟩)
    | (apply s_pick_t rfl rfl
       · conv => lhs; whnf
       · conv => lhs; whnf
       · first | exact bT1 (by assumption) | exact bT2 (by assumption))
    | (apply s_pick_f rfl rfl
       · conv => lhs; whnf
       · conv => lhs; whnf
       · first | exact bF1 (by assumption) | exact bF2 (by assumption))
    | (apply s_1
       conv => whnf; arg 1; arg 4; arg 3; whnf
       refine ⟨?_, ?_⟩)
    | (apply s_val rfl
       · conv => lhs; whnf
       · conv => lhs; whnf; arg 2; whnf)
    | (apply s_call rfl
       · conv => lhs; whnf
       · conv => lhs; whnf
       · first | exact h1 | exact h2 | exact h3)
    | (apply s_box rfl rfl rfl rfl
       · conv => lhs; whnf; arg 1; whnf
       · rfl)
    | (apply s_wanted_val rfl
       · conv => lhs; whnf
       · conv => lhs; whnf
       · first | rfl | assumption
       · conv => lhs; whnf; arg 2; whnf)
    | (apply s_wanted_call rfl
       · conv => lhs; whnf
       · conv => lhs; whnf
       · first | rfl | assumption
       · conv => lhs; whnf
       · first | exact h1 | exact h2 | exact h3)
    | (apply s_skipU rfl
       · conv => lhs; whnf
       · conv => lhs; whnf
       · first | rfl | assumption)
    | (apply s_dead rfl
       · conv => lhs; whnf
       · rfl
       · rfl)
    | (apply s_guard_valU rfl
       · conv => lhs; whnf
       · conv => lhs; whnf
       · conv => lhs; whnf; arg 2; whnf)
    | (apply s_guard_callU rfl
       · conv => lhs; whnf
       · conv => lhs; whnf
       · conv => lhs; whnf
       · first | exact h1 | exact h2 | exact h3)
    | (apply s_guard_val rfl
       · conv => lhs; whnf
       · conv => lhs; whnf
       · conv => lhs; whnf; arg 2; whnf)
    | (apply s_guard_call rfl
       · conv => lhs; whnf
       · conv => lhs; whnf
       · conv => lhs; whnf
       · first | exact h1 | exact h2 | exact h3)
    | (apply aw_cond_t
       · conv => lhs; whnf; arg 1; arg 1; whnf)
    | (apply aw_cond_f
       · conv => lhs; whnf; arg 1; arg 1; whnf)
    | (refine aw_cond (by conv => lhs; whnf) ?_ ?_ <;> intro hb)
    | refine aw_ret ?_
    | refine aw_exit ?_
    | refine k_seq_exit ?_
    | refine k_seq_ret ?_
    | refine k_block_ret ?_
    | refine k_block_hit rfl ?_
    | refine k_block_miss rfl ?_
    | refine k_scope_exit ?_
    | refine k_scope_ret ?_
    | refine k_loop_exit ?_
    | refine k_loop_ret ?_
    | refine k_end ?_
    | refine k_end_ret ?_
    | (refine ⟨_, by conv => lhs; whnf; arg 2; whnf, ?_⟩; conv => rhs; whnf)
    | exact trivial
    | intro hg)
  all_goals
    clear h1 h2 h3 he
    refine congrArg (fun b => V.c (.bool b)) ?_
    simp_all
    try (intros; omega)
end Go.Proofs.YtdklhkdlndlgnaaGreatDoor
namespace Go.Proofs.YtdklhkdlndlgnaaGreatDoor
open Go.RowKit
attribute [local irreducible] wpList Calls Code.wp
section
variable {P : Program} {s : Sg} {w w' : World} {pas : Nat → Prop} {B : Nat} {rs : Nat → Option Res}
theorem keeps_grow0 (h : MemOk P pas B rs s w) (cur : Array Value) (e : TypeId) (n : Nat) : Keeps s.F (fun b o => s.F b o ∨ (b = w.heap.size ∧ o < n)) w (w.alloc (.cells cur e)) := fun b o hF =>
  ⟨(cell_alloc (w := w) (h.fx b o hF)).trans rfl, .inl hF⟩
theorem MemOk.tokNew0 (h : MemOk P pas B rs s w) (hB : B ≤ w.heap.size) {k : Nat} (X : Nat → Prop) (hX : ∀ q, X q → q = k) (hf : ∀ q ρ, q ≠ k → rs q = some ρ → ∀ n, X n → ρ.free n = true) {cur : Array Value} {e : TypeId} {c m : Nat} (hc : cur.size = c * P.cellsOf e) (hm : m ≤ c) (hmx : c ≤ maxLen)
    (hx : Ext X s w (s.tok k w.heap.size (m * P.cellsOf e) (.slice (some ⟨w.heap.size, 0, none⟩) m c) m) (w.alloc (.cells cur e))) :
    MemOk P pas B (updR rs k (.tok e m)) (s.tok k w.heap.size (m * P.cellsOf e) (.slice (some ⟨w.heap.size, 0, none⟩) m c) m) (w.alloc (.cells cur e)) where
  fx b o hF := by
    rcases hF with hF | ⟨rfl, hF⟩
    · rw [cell_alloc (w := w) (h.fx b o hF)]; exact h.fx b o hF
    · have : o < cur.size := by rw [hc]; exact Nat.lt_of_lt_of_le hF (Nat.mul_le_mul_right _ hm)
      have h2 := cell_new (w := w) (t := e) (Array.getElem?_eq_getElem this)
      exact Option.isSome_iff_exists.2 ⟨_, h2⟩
  ho q ρ hq := by
    by_cases e' : q = k
    · subst e'
      simp only [updR, if_true] at hq
      cases hq
      refine ⟨by simp [Sg.tok], .inr ⟨w.heap.size, c, cur, by simp [Sg.tok], by simp [Sg.tok], heap_alloc_new w _, hm, hmx, hc, fun o ho hF => ?_⟩⟩
      rcases hF with hF | ⟨_, hF⟩
      · obtain ⟨v, hv⟩ := Option.isSome_iff_exists.1 (h.fx _ o hF)
        have := block_lt_of_cell hv
        simp at this
      · omega
    · simp only [updR, if_neg e'] at hq
      refine (h.ho q ρ hq).keep hx (fun hXq => e' (hX q hXq)) (by simp [Sg.tok, e']) (by simp [Sg.tok, e']) (fun n hn => hf q ρ e' hq n hn) (fun b hb => Below.heap_alloc w _ _ ((h.ho q ρ hq).lt hb)) (fun b o hb hF => ?_)
      rcases hF with hF | ⟨rfl, _⟩
      · exact hF
      · have := (h.ho q ρ hq).lt hb; omega
  bs q ρ b hq hb := by
    by_cases e' : q = k
    · subst e'
      simp only [updR, if_true] at hq
      cases hq
      simp only [Sg.bk, Sg.tok, if_true] at hb
      cases hb; exact .inl hB
    · simp only [updR, if_neg e'] at hq
      rw [blk_tok e'] at hb
      exact h.bs q ρ b hq hb
  dj q r ρ ρ' b hq hr hqb hrb := by
    by_cases e1 : q = k <;> by_cases e2 : r = k
    · rw [e1, e2]
    · simp only [updR, if_neg e2] at hr
      rw [blk_tok e2] at hrb
      subst e1
      simp only [updR, if_true] at hq
      cases hq
      simp only [Sg.bk, Sg.tok, if_true] at hqb
      cases hqb
      have := (h.ho r ρ' hr).lt hrb
      omega
    · simp only [updR, if_neg e1] at hq
      rw [blk_tok e1] at hqb
      subst e2
      simp only [updR, if_true] at hr
      cases hr
      simp only [Sg.bk, Sg.tok, if_true] at hrb
      cases hrb
      have := (h.ho q ρ hq).lt hqb
      omega
    · simp only [updR, if_neg e1] at hq
      simp only [updR, if_neg e2] at hr
      rw [blk_tok e1] at hqb
      rw [blk_tok e2] at hrb
      exact h.dj q r ρ ρ' b hq hr hqb hrb
end
section
variable {X : Cx} {nn : Nat} {st : Vst nn} {o : Oper} {K : Vst nn → Prop}
theorem opOk_lit0 {t e : TypeId} {by_ d : Nat} (ho : o.op = .buildSlice t 0 #[]) (hd : o.dst = some d) (hdl : Nat.ble d 999999 = true) (he : elemOk X.P t = some (e, by_))
    (hK : K (((st.kill d).res d (.tok e 0)).put (some d) (.own d e []))) : OpOk X o st K := by
  intro s w a hI N Q hP hN
  obtain ⟨hu, hlay, i, z, hi, hz, hb, hpos, hzs, hsz⟩ := elemOk_ok he
  have ha : (Instr.buildSlice t 0 #[]).run X.P w = .ok (.slice (some ⟨w.heap.size, 0, none⟩) 0 0) (w.alloc (.cells #[] e)) := by
    simp [Instr.buildSlice, run_underlying hu, sizeOf, typeInfo, hi, Instr.fill, newRow]
    have hr0 : Array.map (fun _ : Nat => (default : Value)) (Array.range 0) = #[] := by apply Array.ext <;> simp
    rw [hr0]
  unfold Oper.wp
  have hrun : (execOp a.eval o).run X.P w = .ok (.value (.slice (some ⟨w.heap.size, 0, none⟩) 0 0)) (w.alloc (.cells #[] e)) := by simp [execOp, ho, ha]
  rw [hrun, Oper.upon_value, hd]
  have hI' := hI.kill d
  have hkeep : Keeps s.F (s.tok d w.heap.size (0 * X.P.cellsOf e) (.slice (some ⟨w.heap.size, 0, none⟩) 0 0) 0).F w (w.alloc (.cells #[] e)) := keeps_grow0 hI.mem _ e _
  have hext : Ext (fun m => m = d) s w (s.tok d w.heap.size (0 * X.P.cellsOf e) (.slice (some ⟨w.heap.size, 0, none⟩) 0 0) 0) (w.alloc (.cells #[] e)) :=
    ⟨hkeep, fun _ _ => rfl, fun q hq => .inl (by simp only [Sg.tok]; rw [if_neg hq])⟩
  have hmem := hI'.mem.tokNew0 hI.base (k := d) (fun m => m = d) (fun _ h => h) free_kill (cur := #[]) (c := 0) (m := 0) (by simp) (Nat.le_refl _) (Nat.zero_le _) hext
  refine hN _ _ _ _ (Inv.put (st := (st.kill d).res d (.tok e 0)) (v := .own d e []) ⟨hI.sz, fun i hi => ?_, hI.df, hI.fr.trans (frm_alloc w _ _) (q := fun _ => False) (fun _ h => h.elim), hI.kp.trans hkeep, fun b o hb hnp hF => ?_, hmem, hI.pe.ext hext fun m hm => by subst hm; exact Nat.le_of_ble_eq_true hdl⟩ (some d) ?_) hK
  · exact rel.ext hext _ _ (killV_rel (hI.tm i hi)).1 fun n hn => by subst hn; exact (killV_rel (hI.tm i hi)).2
  · rcases hF with hF | ⟨rfl, _⟩
    · exact hI.nf b o hb hnp hF
    · have := hI.base; omega
  · rw [rel]
    exact ⟨slice_of_cells (l := []) (Nat.le_refl _) (Nat.zero_le _) fun k hk => absurd hk (Nat.not_lt_zero k), by simp [Sg.tok], fun _ => by simp [Sg.tok]⟩
theorem opOk_append_none {t e : TypeId} {by_ k : Nat} {x y : Operand} {l : List D} (ho : o.op = .call { callee := .builtin .append, args := #[x, y], argTypes := #[t, t] }) (he : elemOk X.P t = some (e, by_))
    (hx : ev st x = .own k e l) (hy : (ev st y).out = .sl e []) (hK : K (st.put o.dst (.own k e l))) : OpOk X o st K := by
  intro s w a hI N Q hP hN
  obtain ⟨hu, hlay, i, z, hi, hz, hb, hsp, hzs, hsz⟩ := elemOk_ok he
  have hxe := hI.ev x
  rw [hx, rel] at hxe
  obtain ⟨k1, A, c1, hA, hc1, -, -, -⟩ := id hxe.1
  unfold Oper.wp
  have hye := rel.out _ _ (hI.ev y)
  rw [hy, rel] at hye
  obtain ⟨k2, A2, c2, hy2, -, -, -, -⟩ := hye
  have hrun : (Builtin.append_ #[t, t] o.type #[a.eval x, a.eval y]).run X.P w = .ok (a.eval x) w := by
    rw [hA, hy2]
    have hsz : (sizeOf e).run X.P w = .ok (X.P.cellsOf e) w := by simp [sizeOf, typeInfo, hi, hsz]
    have hld : ∀ q, (loadCells q 0).run X.P w = .ok #[] w := fun q => by simp [loadCells, loadCellsFrom]
    cases A <;> cases A2 <;> simp [Builtin.append_, run_underlying hu, hsz, Builtin.lenOf, Builtin.firstCells, storeCells, hld, Nat.not_lt.2 hc1]
  rw [run_append ho hrun, Oper.upon_value]
  refine hN _ _ _ _ (hI.put o.dst ?_) hK
  rw [rel]
  exact hxe
theorem res_same0 {k : Nat} {ρ : Res} (h : st.rs k = some ρ) : st.res k ρ = st := by
  have e : (st.res k ρ).rs = st.rs := funext fun m => by
    show updR st.rs k ρ m = _
    unfold updR
    split
    · rename_i e; rw [e, h]
    · rfl
  calc st.res k ρ = ⟨(st.res k ρ).tm, (st.res k ρ).rs⟩ := rfl
    _ = st := by rw [e]; rfl
/-- append onto a slice under way, of anything -/
theorem opOk_appendG {t e : TypeId} {by_ k : Nat} {x y : Operand} {l l2 : List D} (ho : o.op = .call { callee := .builtin .append, args := #[x, y], argTypes := #[t, t] }) (he : elemOk X.P t = some (e, by_))
    (hleaf : ∀ d, (cellsV X.P 12 e d).all V.leaf = true) (hx : ev st x = .own k e l) (hr : st.rs k = some (.tok e l.length)) (hy : (ev st y).out = .sl e l2) (hlen : l.length + l2.length ≤ maxLen) (hby : (l.length + l2.length) * by_ ≤ 140737488355328)
    (hK : K ((st.res k (.tok e (l.length + l2.length))).put o.dst (.own k e (l ++ l2)))) : OpOk X o st K := by
  rcases Nat.eq_zero_or_pos l2.length with h0 | h0
  · have hl0 : l2 = [] := List.eq_nil_of_length_eq_zero h0
    subst hl0
    rw [List.length_nil, Nat.add_zero, res_same0 hr, List.append_nil] at hK
    exact opOk_append_none ho he hx hy hK
  · exact opOk_append_own ho he hleaf hx hr hy h0 hlen hby hK
end
end Go.Proofs.YtdklhkdlndlgnaaGreatDoor
namespace Go.Proofs.YtdklhkdlndlgnaaGreatDoor
open Go.RowKit
attribute [local irreducible] wpList Calls Code.wp
section
variable {X : Cx} {nn : Nat} {st : Vst nn} {ops : Array Oper} {o : Oper}
/-- a name is used nowhere -/
def Fresh (st : Vst nn) (d : Nat) : Prop := (∀ i, (st.tm i).free d = true) ∧ ∀ m ρ, st.rs m = some ρ → m ≠ d ∧ ρ.free d = true
theorem fresh_kill {d : Nat} (h : Fresh st d) : st.kill d = st := by
  have e1 : (st.kill d).tm = st.tm := funext fun i => by
    show killV d (st.tm i) = _
    unfold killV; rw [if_pos (h.1 i)]
  have e2 : (st.kill d).rs = st.rs := funext fun m => by
    unfold Vst.kill
    dsimp only
    cases hm : st.rs m with
    | none => split <;> rfl
    | some ρ =>
      have := h.2 m ρ hm
      rw [if_neg this.1]
      simp [this.2]
  calc st.kill d = ⟨(st.kill d).tm, (st.kill d).rs⟩ := rfl
    _ = st := by rw [e1, e2]
theorem opOk_allocF {t : TypeId} {d : Nat} {vs : List V} {K : Vst nn → Prop} (ho : o.op = .alloc t) (hd : o.dst = some d) (hdl : Nat.ble d 999999 = true) (hc : zeroV X.P t = some vs) (hf : freeL d vs = true) (hfr : Fresh st d)
    (hK : K ((st.res d (.box t vs)).put (some d) (.bx d 0))) : OpOk X o st K := by
  refine opOk_alloc ho hd hdl hc hf ?_
  rw [fresh_kill hfr]; exact hK
theorem fresh_stp {d : Nat} {t : Option Tmp} {v : V} {u : List (Nat × Res)} (h : Fresh st d) (hv : v.free d = true) (hu : ∀ p ∈ u, p.1 ≠ d ∧ p.2.free d = true) : Fresh (stp st t v u) d := by
  unfold stp
  have hr : ∀ m ρ, updL st.rs u m = some ρ → m ≠ d ∧ ρ.free d = true := by
    intro m ρ hm
    induction u with
    | nil => exact h.2 m ρ hm
    | cons x u ih =>
      obtain ⟨k, ρ'⟩ := x
      change (if m = k then some ρ' else updL st.rs u m) = some ρ at hm
      split at hm
      · rename_i e
        cases hm
        have := hu (k, ρ) (List.mem_cons_self ..)
        exact ⟨by rw [e]; exact this.1, this.2⟩
      · exact ih (fun p hp => hu p (List.mem_cons_of_mem _ hp)) hm
  cases t with
  | none => exact ⟨h.1, hr⟩
  | some t =>
    refine ⟨fun i => ?_, hr⟩
    show (if i = t then v else st.tm i).free d = true
    split
    · exact hv
    · exact h.1 i
theorem fresh_put {d : Nat} {t : Option Tmp} {v : V} (h : Fresh st d) (hv : v.free d = true) : Fresh (st.put t v) d := fresh_stp (u := []) h hv (fun _ hp => by cases hp)
theorem fresh_res {d m : Nat} {ρ : Res} (h : Fresh st d) (hm : Nat.beq m d = false) (hv : ρ.free d = true) : Fresh (st.res m ρ) d := by
  refine ⟨h.1, fun q ρ' hq => ?_⟩
  change updR st.rs m ρ q = some ρ' at hq
  unfold updR at hq
  split at hq
  · rename_i e
    cases hq
    subst e
    exact ⟨fun e2 => by rw [e2] at hm; simp at hm, hv⟩
  · exact h.2 q ρ' hq
theorem fresh_S {d : Nat} {cs : List (Nat × V)} {R : List (Nat × Res)} (h : (cs.all (fun p => p.2.free d) && R.all fun p => !(Nat.beq p.1 d) && p.2.free d) = true) : Fresh (stS nn cs R) d := by
  rw [Bool.and_eq_true, List.all_eq_true, List.all_eq_true] at h
  refine ⟨fun i => ?_, fun m ρ hm => ?_⟩
  · simp only [stS]
    split
    · rename_i p hp; exact h.1 p (List.mem_of_find?_eq_some hp)
    · rfl
  · simp only [stS] at hm
    split at hm
    · rename_i p hp
      have he := List.find?_some hp
      simp at he
      cases hm
      have := h.2 p (List.mem_of_find?_eq_some hp)
      rw [Bool.and_eq_true] at this
      refine ⟨fun e => ?_, this.2⟩
      rw [he, e] at this
      simp at this
    · cases hm
theorem opOk_lit0F {t e : TypeId} {by_ d : Nat} {K : Vst nn → Prop} (ho : o.op = .buildSlice t 0 #[]) (hd : o.dst = some d) (hdl : Nat.ble d 999999 = true) (he : elemOk X.P t = some (e, by_)) (hfr : Fresh st d)
    (hK : K ((st.res d (.tok e 0)).put (some d) (.own d e []))) : OpOk X o st K := by
  refine opOk_lit0 ho hd hdl he ?_
  rw [fresh_kill hfr]; exact hK
/-- what an operation yields holds none of these names -/
def nfB (fr : List Nat) (v : V) (u : List (Nat × Res)) : Bool := fr.all fun d => v.free d && u.all fun p => !(Nat.beq p.1 d) && p.2.free d
inductive YldA (X : Cx) (ops : Array Oper) (fr rd wr : List Nat) (o : Oper) (st : Vst nn) : V → List (Nat × Res) → Prop where
  | old {v : V} {u : List (Nat × Res)} (h : YldG X ops rd wr o st v u) (hf : nfB fr v u = true) : YldA X ops fr rd wr o st v u
  | alloc {t : TypeId} {d : Nat} {vs : List V} (hg : o.guard = none) (ho : o.op = .alloc t) (hd : o.dst = some d) (hdl : Nat.ble d 999999 = true) (hc : zeroV X.P t = some vs) (hfd : freeL d vs = true) (hw : wr.contains d = true) (hf : nfB fr (.bx d 0) [(d, .box t vs)] = true) : YldA X ops fr rd wr o st (.bx d 0) [(d, .box t vs)]
  | lit0 {t e : TypeId} {by_ d : Nat} (hg : o.guard = none) (ho : o.op = .buildSlice t 0 #[]) (hd : o.dst = some d) (hdl : Nat.ble d 999999 = true) (he : elemOk X.P t = some (e, by_)) (hw : wr.contains d = true) (hf : nfB fr (.own d e []) [(d, .tok e 0)] = true) : YldA X ops fr rd wr o st (.own d e []) [(d, .tok e 0)]
  | app {t e : TypeId} {by_ k : Nat} {x y : Operand} {l l2 : List D} (hg : o.guard = none) (hw : wr.contains k = true) (ho : o.op = .call { callee := .builtin .append, args := #[x, y], argTypes := #[t, t] }) (he : elemOk X.P t = some (e, by_)) (hleaf : ∀ d, (cellsV X.P 12 e d).all V.leaf = true)
      (hx : ev st x = .own k e l) (hr : st.rs k = some (.tok e l.length)) (hy : (ev st y).out = .sl e l2) (hp : l.length + l2.length ≤ maxLen ∧ (l.length + l2.length) * by_ ≤ 140737488355328) (hf : nfB fr (.own k e (l ++ l2)) [(k, .tok e (l.length + l2.length))] = true) :
      YldA X ops fr rd wr o st (.own k e (l ++ l2)) [(k, .tok e (l.length + l2.length))]
theorem YldA.of {fr rd wr : List Nat} {d : Option Tmp} {v v' : V} {u u' : List (Nat × Res)} (hd : ∀ t, d = some t → t ∉ o.looksAt ops) (hu : Off rd wr u') :
    YldA X ops fr rd wr o (stp st d v' u') v u ↔ YldA X ops fr rd wr o st v u := by
  have evs : ∀ x ∈ o.op.operands, ev (stp st d v' u') x = ev st x := fun x hx => ev_stp fun t ht hxt => hd t ht (by
    subst hxt
    exact List.mem_append_left _ (List.mem_filterMap.2 ⟨.tmp t, by simpa using hx, rfl⟩))
  have hrs : ∀ n, wr.contains n = true → (stp st d v' u').rs n = st.rs n := fun n hn => by
    rw [stp_rs]; exact updL_off hu (.inr hn)
  constructor
  · intro h
    cases h with
    | old h hf => exact .old ((YldG.of hd hu).1 h) hf
    | alloc hg ho hd' hdl hc hfd hw hf => exact .alloc hg ho hd' hdl hc hfd hw hf
    | lit0 hg ho hd' hdl he hw hf => exact .lit0 hg ho hd' hdl he hw hf
    | app hg hw ho he hleaf hx hr hy hp hf =>
      rw [evs _ (by rw [ho]; simp [Op.operands, Call.operands])] at hx
      rw [evs _ (by rw [ho]; simp [Op.operands, Call.operands])] at hy
      rw [hrs _ hw] at hr
      exact .app hg hw ho he hleaf hx hr hy hp hf
  · intro h
    cases h with
    | old h hf => exact .old ((YldG.of hd hu).2 h) hf
    | alloc hg ho hd' hdl hc hfd hw hf => exact .alloc hg ho hd' hdl hc hfd hw hf
    | lit0 hg ho hd' hdl he hw hf => exact .lit0 hg ho hd' hdl he hw hf
    | app hg hw ho he hleaf hx hr hy hp hf =>
      rw [← evs _ (by rw [ho]; simp [Op.operands, Call.operands])] at hx
      rw [← evs _ (by rw [ho]; simp [Op.operands, Call.operands])] at hy
      rw [← hrs _ hw] at hr
      exact .app hg hw ho he hleaf hx hr hy hp hf
theorem YldA.names {fr rd wr : List Nat} {v : V} {u : List (Nat × Res)} (h : YldA X ops fr rd wr o st v u) : ∀ p ∈ u, wr.contains p.1 = true := by
  cases h with
  | old h hf => exact h.names
  | alloc hg ho hd' hdl hc hfd hw hf => exact fun p hp => by simp at hp; subst hp; exact hw
  | lit0 hg ho hd' hdl he hw hf => exact fun p hp => by simp at hp; subst hp; exact hw
  | app hg hw ho he hleaf hx hr hy hp hf => exact fun p hp => by simp at hp; subst hp; exact hw
theorem YldA.nf {fr rd wr : List Nat} {v : V} {u : List (Nat × Res)} (h : YldA X ops fr rd wr o st v u) : nfB fr v u = true := by
  cases h with
  | old h hf => exact hf
  | alloc hg ho hd' hdl hc hfd hw hf => exact hf
  | lit0 hg ho hd' hdl he hw hf => exact hf
  | app hg hw ho he hleaf hx hr hy hp hf => exact hf
theorem nfB_ok {fr : List Nat} {v : V} {u : List (Nat × Res)} (h : nfB fr v u = true) {d : Nat} (hd : d ∈ fr) : v.free d = true ∧ ∀ p ∈ u, p.1 ≠ d ∧ p.2.free d = true := by
  have := List.all_eq_true.1 h d hd
  rw [Bool.and_eq_true, List.all_eq_true] at this
  refine ⟨this.1, fun p hp => ?_⟩
  have h2 := this.2 p hp
  rw [Bool.and_eq_true] at h2
  exact ⟨fun e => by rw [e] at h2; simp at h2, h2.2⟩
variable {fr rd wr : Nat → List Nat}
def aOpH (X : Cx) (ops : Array Oper) (fr rd wr : Nat → List Nat) (i : Nat) (K : Vst nn → Prop) (st : Vst nn) : Prop :=
  match ops[i]? with
  | none => K st
  | some o => ∃ v u, YldA X ops (fr i) (rd i) (wr i) o st v u ∧ K (stp st o.dst v u)
theorem aOpH_mono {i : Nat} {K K' : Vst nn → Prop} (h : ∀ st, K st → K' st) (hh : aOpH X ops fr rd wr i K st) : aOpH X ops fr rd wr i K' st := by
  unfold aOpH at *
  split
  · rename_i hn; simp only [hn] at hh; exact h _ hh
  · rename_i o ho
    simp only [ho] at hh
    obtain ⟨v, u, h1, h2⟩ := hh
    exact ⟨v, u, h1, h _ h2⟩
def absAnyH (X : Cx) (ops : Array Oper) (fr rd wr : Nat → List Nat) (Q : Vst nn → Prop) : Nat → Array Bool → Vst nn → Prop
  | 0, listed, st => Region.ready .any ops listed = [] ∧ Q st
  | fuel + 1, listed, st => (Region.ready .any ops listed = [] → Q st) ∧ ∀ i ∈ Region.ready .any ops listed, aOpH X ops fr rd wr i (absAnyH X ops fr rd wr Q fuel (listed.setIfInBounds i true)) st
theorem aOpH_put {i j : Nat} {oi oj : Oper} {v : V} {u : List (Nat × Res)} (hj : ops[j]? = some oj) (hap : oi.apart ops oj = true) (hn : disjB (wr i) (rd j) = true ∧ disjB (wr i) (wr j) = true ∧ disjB (wr j) (rd i) = true) {K : Vst nn → Prop} (hy : YldA X ops (fr i) (rd i) (wr i) oi st v u) (h : aOpH X ops fr rd wr j K (stp st oi.dst v u)) :
    aOpH X ops fr rd wr j (fun st' => YldA X ops (fr i) (rd i) (wr i) oi st' v u ∧ K (stp st' oi.dst v u)) st := by
  obtain ⟨h1, h2, h3⟩ := Oper.apart_spec hap
  unfold aOpH at *
  simp only [hj] at *
  obtain ⟨v', u', hy', hK⟩ := h
  have hu : Off (rd j) (wr j) u := fun p hp => by
    have hw := hy.names p hp
    refine ⟨?_, ?_⟩
    · cases hq : (rd j).contains p.1
      · rfl
      · exact (disjB_ok hn.1 hw hq).elim
    · cases hq : (wr j).contains p.1
      · rfl
      · exact (disjB_ok hn.2.1 hw hq).elim
  have hyj : YldA X ops (fr j) (rd j) (wr j) oj st v' u' := (YldA.of h1 hu).1 hy'
  have hu' : Off (rd i) (wr i) u' := fun p hp => by
    have hw := hyj.names p hp
    refine ⟨?_, ?_⟩
    · cases hq : (rd i).contains p.1
      · rfl
      · exact (disjB_ok hn.2.2 hw hq).elim
    · cases hq : (wr i).contains p.1
      · rfl
      · exact (disjB_ok hn.2.1 hq hw).elim
  have huu : ∀ p ∈ u, ∀ q ∈ u', p.1 ≠ q.1 := fun p hp q hq e => by
    have h5 := hy.names p hp
    have h6 := hyj.names q hq
    rw [← e] at h6
    exact disjB_ok hn.2.1 h5 h6
  exact ⟨v', u', hyj, (YldA.of h3 hu').2 hy, by rw [← stp_commG h2 huu]; exact hK⟩
theorem absAnyH_first {Q : Vst nn → Prop} {i : Nat} {oi : Oper} {v : V} {u : List (Nat × Res)} (hi : ops[i]? = some oi) (hN : namesB ops rd wr = true) :
    ∀ (fuel : Nat) (listed : Array Bool) (st : Vst nn), Closed ops listed → (∀ j, j < i → listed.getD j false = true) →
      (∀ j oj, ops[j]? = some oj → j ≠ i → listed.getD j true = false → (∀ e ∈ oj.after, Region.binds .any e = true → e.on ≠ i) → oi.apart ops oj = true) →
      i ∈ Region.ready .any ops listed → YldA X ops (fr i) (rd i) (wr i) oi st v u →
      absAnyH X ops fr rd wr Q fuel (listed.setIfInBounds i true) (stp st oi.dst v u) → absAnyH X ops fr rd wr Q (fuel + 1) listed st := by
  intro fuel
  induction fuel with
  | zero =>
    intro listed st _ _ _ hr hy H
    refine ⟨fun h => (by rw [h] at hr; cases hr), fun j hj => ?_⟩
    by_cases hji : j = i
    · subst hji; unfold aOpH; simp only [hi]; exact ⟨v, u, hy, H⟩
    · have := ready_mono hj hji
      rw [H.1] at this
      cases this
  | succ fuel ih =>
    intro listed st hcl hlow hfree hr hy H
    refine ⟨fun h => (by rw [h] at hr; cases hr), fun j hj => ?_⟩
    by_cases hji : j = i
    · subst hji; unfold aOpH; simp only [hi]; exact ⟨v, u, hy, H⟩
    · have h1 := H.2 j (ready_mono hj hji)
      obtain ⟨hjun, oj, hoj, hall⟩ := mem_ready.1 hj
      have hiun := (mem_ready.1 hr).1
      have hnot : ∀ e ∈ oj.after, Region.binds .any e = true → e.on ≠ i := fun e he hb heq => by
        have h1 := hall e he hb
        rw [heq] at h1
        exact listed_both hiun h1
      have hij : i < j := by
        rcases Nat.lt_trichotomy i j with h | h | h
        · exact h
        · exact absurd h.symm hji
        · exact (listed_both hjun (hlow j h)).elim
      have hsz : j < ops.size := (Array.getElem?_eq_some_iff.1 hoj).1
      have hnm : disjB (wr i) (rd j) = true ∧ disjB (wr i) (wr j) = true ∧ disjB (wr j) (rd i) = true := by
        have h2 := List.all_eq_true.1 (List.all_eq_true.1 hN j (List.mem_range.2 hsz)) i (List.mem_range.2 hij)
        rw [Bool.or_eq_true] at h2
        rcases h2 with h2 | h2
        · simp only [Bool.and_eq_true] at h2; exact ⟨h2.1.1, h2.1.2, h2.2⟩
        · refine (listed_both hiun (reach_ok hcl _ _ (fun k hk => ?_) i (by simpa using h2))).elim
          unfold waits at hk
          rw [hoj] at hk
          obtain ⟨e, he, rfl⟩ := List.mem_map.1 hk
          obtain ⟨h2, h3⟩ := List.mem_filter.1 he
          exact hall e (by simpa using h2) h3
      have h2 := aOpH_put (i := i) hoj (hfree j oj hoj hji hjun hnot) hnm hy h1
      have hfree' : ∀ k ok, ops[k]? = some ok → k ≠ i → (listed.setIfInBounds j true).getD k true = false →
          (∀ e ∈ ok.after, Region.binds .any e = true → e.on ≠ i) → oi.apart ops ok = true := fun k ok hk hki hun hno => by
        refine hfree k ok hk hki ?_ hno
        by_cases hjk : j = k
        · subst hjk; exact hjun
        · rw [getD_set_ne true hjk] at hun; exact hun
      refine aOpH_mono (fun st' h3 => ih (listed.setIfInBounds j true) st' (hcl.set hj) (fun k hk => getD_set_true (hlow k hk)) hfree' (ready_mono hr (Ne.symm hji)) h3.1 ?_) h2
      rw [Array.setIfInBounds_comm _ _ hji]
      exact h3.2
/-- the walk of the text's order -/
def absLexH (X : Cx) (ops : Array Oper) (fr rd wr : Nat → List Nat) (Q : Vst nn → Prop) : Nat → List Oper → Vst nn → Prop
  | _, [], st => Q st
  | k, o :: rest, st => ∃ v u, YldA X ops (fr k) (rd k) (wr k) o st v u ∧ absLexH X ops fr rd wr Q (k + 1) rest (stp st o.dst v u)
theorem absAnyH_lex {Q : Vst nn → Prop} (hN : namesB ops rd wr = true) : ∀ (l : List Oper) (k : Nat) (listed : Array Bool) (st : Vst nn), (∀ j, l[j]? = ops[k + j]?) → Closed ops listed → (∀ j, j < k → listed.getD j false = true) → listed.size = ops.size →
    Region.lexFrom .any ops l.length k listed = true → absLexH X ops fr rd wr Q k l st → absAnyH X ops fr rd wr Q l.length listed st
  | [], _, _, _, _, _, _, _, hB, h => ⟨by simpa [Region.lexFrom] using hB, h⟩
  | o :: l, k, listed, st, hl, hcl, hlow, hsz, hB, h => by
    have h0 : ops[k]? = some o := by simpa using (hl 0).symm
    have hk : k < ops.size := (Array.getElem?_eq_some_iff.1 h0).1
    simp only [List.length_cons, Region.lexFrom, Bool.and_eq_true] at hB
    obtain ⟨⟨hr, hf⟩, hB'⟩ := hB
    have hr : k ∈ Region.ready .any ops listed := by simpa using hr
    obtain ⟨v, u, hy, hK⟩ := h
    exact absAnyH_first h0 hN l.length listed st hcl hlow (Region.free_spec h0 hf) hr hy
      (absAnyH_lex hN l (k + 1) _ _ (fun j => by have := hl (j + 1); simpa [Nat.add_assoc, Nat.add_comm 1 j] using this) (hcl.set hr) (fun j hj => by
        by_cases e : j = k
        · subst e; exact set_self_true (by omega)
        · exact getD_set_true (hlow j (by omega))) (by simpa using hsz) hB' hK)
/-- names that an operation must not hold: those of variables that may be laid behind it -/
def frOf (ops : Array Oper) (R : List (Nat × Nat)) (j : Nat) : List Nat := (R.filter fun p => !(Nat.beq p.1 j) && !(reachS ops ops.size (waits ops j)).contains p.1).map (·.2)
theorem wpAny_of_absH (R : List (Nat × Nat)) (hR : ∀ i o t d, ops[i]? = some o → (o.op = .alloc t ∨ o.op = .buildSlice t 0 #[]) → o.dst = some d → (i, d) ∈ R) {Q : Vst nn → Prop} {Q' : Exit → Act → World → Prop} (hP : PQ X nn Q') (hQ : ∀ st' s' w' a', Inv X st' s' w' a' → Q st' → Q' .normal a' w') : ∀ (fuel : Nat) (listed : Array Bool) (st : Vst nn) (s : Sg) (w : World) (a : Act), Closed ops listed → (∀ p ∈ R, listed.getD p.1 true = false → Fresh st p.2) → Inv X st s w a →
    absAnyH X ops (frOf ops R) rd wr Q fuel listed st → wpAny X.P .any ops Q' fuel listed a w
  | 0, _, _, _, _, _, _, _, hI, h => ⟨h.1, hQ _ _ _ _ hI h.2⟩
  | fuel + 1, listed, st, s, w, a, hcl, hfr, hI, h => ⟨fun h0 => hQ _ _ _ _ hI (h.1 h0), fun i hi => by
    have h1 := h.2 i hi
    obtain ⟨hiun, oi, hoi, hall⟩ := mem_ready.1 hi
    unfold aOpH at h1
    unfold wpOp
    simp only [hoi] at h1 ⊢
    obtain ⟨v, u, hy, hK⟩ := h1
    have hnf := hy.nf
    have hfr' : ∀ p ∈ R, (listed.setIfInBounds i true).getD p.1 true = false → Fresh (stp st oi.dst v u) p.2 := fun p hp hl => by
      have hne : p.1 ≠ i := fun e => by
        rw [e] at hl
        have hsz : i < listed.size ∨ ¬ i < listed.size := Nat.lt_or_ge i listed.size |>.imp id fun h => by omega
        rw [Array.getD_eq_getD_getElem?, Array.getElem?_setIfInBounds] at hl
        rcases hsz with hsz | hsz
        · simp [hsz] at hl
        · simp [hsz] at hl
      have hl2 : listed.getD p.1 true = false := by rwa [getD_set_ne true (Ne.symm hne)] at hl
      have hmem : p.2 ∈ frOf ops R i := by
        refine List.mem_map.2 ⟨p, List.mem_filter.2 ⟨hp, ?_⟩, rfl⟩
        rw [Bool.and_eq_true]
        refine ⟨by cases hb : Nat.beq p.1 i; rfl; exact (hne (Nat.eq_of_beq_eq_true hb)).elim, ?_⟩
        rw [Bool.not_eq_true']
        cases hq : (reachS ops ops.size (waits ops i)).contains p.1
        · rfl
        · refine (listed_both hl2 (reach_ok hcl _ _ (fun k hk => ?_) p.1 (by simpa using hq))).elim
          unfold waits at hk
          rw [hoi] at hk
          obtain ⟨e, he, rfl⟩ := List.mem_map.1 hk
          obtain ⟨h2, h3⟩ := List.mem_filter.1 he
          exact hall e (by simpa using h2) h3
      have := nfB_ok hnf hmem
      exact fresh_stp (hfr p hp hl2) this.1 this.2
    have go : ∀ {st' : Vst nn} {s' w' a'}, Inv X st' s' w' a' → (absAnyH X ops (frOf ops R) rd wr Q fuel (listed.setIfInBounds i true) st' ∧ ∀ p ∈ R, (listed.setIfInBounds i true).getD p.1 true = false → Fresh st' p.2) → wpAny X.P .any ops Q' fuel (listed.setIfInBounds i true) a' w' :=
      fun hI' hK' => wpAny_of_absH R hR hP hQ fuel _ _ _ _ _ (hcl.set hi) hK'.2 hI' hK'.1
    cases hy with
    | old hy hf =>
      rcases hy with ⟨hg, hy⟩ | ⟨hg, rfl, rfl⟩
      · rw [if_pos (gw_ok hg hI)]
        exact .inl (opOk_yldN (K := fun st' => absAnyH X ops (frOf ops R) rd wr Q fuel (listed.setIfInBounds i true) st' ∧ ∀ p ∈ R, (listed.setIfInBounds i true).getD p.1 true = false → Fresh st' p.2) hy ⟨hK, hfr'⟩ s w a hI _ _ hP fun st' s' w' a' hI' hK' => go hI' hK')
      · rw [if_neg (by rw [gw_ok hg hI]; simp)]
        exact go (hI.put oi.dst (by simp [rel])) ⟨hK, hfr'⟩
    | alloc hg ho hd hdl hc hfd hw hf =>
      rename_i t d vs
      rw [if_pos (gw_ok (by simp [gw, hg]) hI)]
      have hst : stp st oi.dst (.bx d 0) [(d, .box t vs)] = ((st.res d (.box t vs)).put (some d) (.bx d 0)) := by rw [stp_one, hd]
      refine .inl (opOk_allocF (K := fun st' => absAnyH X ops (frOf ops R) rd wr Q fuel (listed.setIfInBounds i true) st' ∧ ∀ p ∈ R, (listed.setIfInBounds i true).getD p.1 true = false → Fresh st' p.2) ho hd hdl hc hfd (hfr _ (hR i oi t d hoi (.inl ho) hd) hiun) ?_ s w a hI _ _ hP fun st' s' w' a' hI' hK' => go hI' hK')
      rw [← hst]
      exact ⟨hK, hfr'⟩
    | lit0 hg ho hd hdl he hw hf =>
      rename_i t e by_ d
      rw [if_pos (gw_ok (by simp [gw, hg]) hI)]
      have hst : stp st oi.dst (.own d e []) [(d, .tok e 0)] = ((st.res d (.tok e 0)).put (some d) (.own d e [])) := by rw [stp_one, hd]
      refine .inl (opOk_lit0F (K := fun st' => absAnyH X ops (frOf ops R) rd wr Q fuel (listed.setIfInBounds i true) st' ∧ ∀ p ∈ R, (listed.setIfInBounds i true).getD p.1 true = false → Fresh st' p.2) ho hd hdl he (hfr _ (hR i oi t d hoi (.inr ho) hd) hiun) ?_ s w a hI _ _ hP fun st' s' w' a' hI' hK' => go hI' hK')
      rw [← hst]
      exact ⟨hK, hfr'⟩
    | app hg hw ho he hleaf hx hr hy hp hf =>
      rename_i t e by_ k x y l l2
      rw [if_pos (gw_ok (by simp [gw, hg]) hI)]
      have hst : stp st oi.dst (.own k e (l ++ l2)) [(k, .tok e (l.length + l2.length))] = ((st.res k (.tok e (l.length + l2.length))).put oi.dst (.own k e (l ++ l2))) := stp_one
      refine .inl (opOk_appendG (K := fun st' => absAnyH X ops (frOf ops R) rd wr Q fuel (listed.setIfInBounds i true) st' ∧ ∀ p ∈ R, (listed.setIfInBounds i true).getD p.1 true = false → Fresh st' p.2) ho he hleaf hx hr hy hp.1 hp.2 ?_ s w a hI _ _ hP fun st' s' w' a' hI' hK' => go hI' hK')
      rw [← hst]
      exact ⟨hK, hfr'⟩⟩
/-- a region that draws its order and lays variables; R: the places and names of these -/
theorem aw_drawH (r w : List (Nat × List Nat)) (R : List (Nat × Nat)) {id : Nat} {l : List Oper} {K : Exit → Vst nn → Prop} (hm : X.P.follows .mixedOrders = true) (hB : Region.lexB .any l.toArray = true) (hN : namesB l.toArray (nmf r) (nmf w) = true)
    (hR : ∀ i o t d, l.toArray[i]? = some o → (o.op = .alloc t ∨ o.op = .buildSlice t 0 #[]) → o.dst = some d → (i, d) ∈ R) (hF : ∀ p ∈ R, Fresh st p.2) (h : absLexH X l.toArray (frOf l.toArray R) (nmf r) (nmf w) (K .normal) 0 l st) : AW X (.region id l.toArray true) st K := fun s wd a hI => by
  simp only [Region.lexB, Bool.and_eq_true] at hB
  have hlow : ∀ k, (Array.replicate l.toArray.size false).getD k false = false := fun k => by
    rw [Array.getD_eq_getD_getElem?, Array.getElem?_replicate]
    split <;> rfl
  refine wp_region_any hm (wpAny_of_absH R hR (rd := nmf r) (wr := nmf w) (Q := K .normal) (fun pv st' s' w' a' hI' hp => ⟨st', s', hI', .inr ⟨pv, rfl, hp⟩⟩) (fun st' s' w' a' hI' hK => ⟨st', s', hI', .inl hK⟩) _ _ st s _ a (fun k o _ hk => by rw [hlow k] at hk; cases hk) (fun p hp _ => hF p hp) hI.drew ?_)
  have := absAnyH_lex (X := X) (fr := frOf l.toArray R) (rd := nmf r) (wr := nmf w) (Q := K .normal) hN l 0 (Array.replicate l.toArray.size false) st (by simp) (fun k o _ hk => by rw [hlow k] at hk; cases hk) (fun j hj => absurd hj (Nat.not_lt_zero j)) (by simp) (by simpa using hB.2) h
  simpa using this
def allocsB (ops : Array Oper) (R : List (Nat × Nat)) : Bool := (List.range ops.size).all fun i => match ops[i]? with
  | some o => (match o.op, o.dst with | .alloc _, some d => R.contains (i, d) | .buildSlice _ _ _, some d => R.contains (i, d) | _, _ => true)
  | none => true
theorem allocsB_ok {R : List (Nat × Nat)} (h : allocsB ops R = true) : ∀ i o t d, ops[i]? = some o → (o.op = .alloc t ∨ o.op = .buildSlice t 0 #[]) → o.dst = some d → (i, d) ∈ R := fun i o t d hi ho hd => by
  have := List.all_eq_true.1 h i (List.mem_range.2 (Array.getElem?_eq_some_iff.1 hi).1)
  rw [hi] at this
  rcases ho with ho | ho
  · simp only [ho, hd] at this
    simpa using this
  · simp only [ho, hd] at this
    simpa using this
theorem aw_drawA (r w : List (Nat × List Nat)) (R : List (Nat × Nat)) {id : Nat} {l : List Oper} {K : Exit → Vst nn → Prop} (hm : X.P.follows .mixedOrders = true) (hB : Region.lexB .any l.toArray = true) (hN : namesB l.toArray (nmf r) (nmf w) = true)
    (hA : allocsB l.toArray R = true) (hF : ∀ p ∈ R, Fresh st p.2) (h : absLexH X l.toArray (frOf l.toArray R) (nmf r) (nmf w) (K .normal) 0 l st) : AW X (.region id l.toArray true) st K :=
  aw_drawH r w R hm hB hN (allocsB_ok hA) hF h
section
variable {l : List Oper} {Q : Vst nn → Prop} {d : Option Tmp} {k : Nat}
theorem h_nil (h : Q st) : absLexH X ops fr rd wr Q k [] st := h
theorem h_val {p : Prop} {v : V} (hg : o.guard = none) (hd : o.dst = d) (h : act1 X.P st.rs (ev st) o.op = .val p v) (hf : nfB (fr k) v [] = true) (hK : absLexH X ops fr rd wr Q (k + 1) l (st.put d v)) (hp : p) (hl : inO (rd k) (loads (ev st) o.op) = true) : absLexH X ops fr rd wr Q k (o :: l) st :=
  ⟨v, [], .old (.inl ⟨by simp [gw, hg], .val h hp hl⟩) hf, by rw [hd]; exact hK⟩
theorem h_alloc {t : TypeId} {m : Nat} {vs : List V} (hg : o.guard = none) (ho : o.op = .alloc t) (hd : o.dst = some m) (hdl : Nat.ble m 999999 = true) (hc : zeroV X.P t = some vs) (hfd : freeL m vs = true) (hw : (wr k).contains m = true) (hf : nfB (fr k) (.bx m 0) [(m, .box t vs)] = true)
    (hK : absLexH X ops fr rd wr Q (k + 1) l ((st.res m (.box t vs)).put (some m) (.bx m 0))) : absLexH X ops fr rd wr Q k (o :: l) st :=
  ⟨_, _, .alloc hg ho hd hdl hc hfd hw hf, by rw [stp_one, hd]; exact hK⟩
theorem h_store {t : TypeId} {x y : Operand} {m off : Nat} {t' : TypeId} {vs xs : List V} (hg : o.guard = none) (ho : o.op = .store t x y) (hd : o.dst = none) (hx : ev st x = .bx m off) (hw : (wr k).contains m = true) (hr : st.rs m = some (.box t' vs)) (hc : cellsOf (ev st y) = some xs)
    (hs : X.P.cellsOf t = xs.length ∧ (X.P.info? t).isSome) (hl : Nat.ble (off + xs.length) vs.length = true) (hf : nfB (fr k) .any [(m, .box t' (splice vs off xs))] = true) (hK : absLexH X ops fr rd wr Q (k + 1) l (st.res m (.box t' (splice vs off xs)))) : absLexH X ops fr rd wr Q k (o :: l) st :=
  ⟨_, _, .old (.inl ⟨by simp [gw, hg], .store hw ho hd hx hr hc hs (Nat.le_of_ble_eq_true hl)⟩) hf, by rw [hd, stp_one]; exact hK⟩
theorem h_valW {p : Prop} {v : V} (v' : V) (hg : o.guard = none) (hd : o.dst = d) (h : act1 X.P st.rs (ev st) o.op = .val p v) (hle : VLe v v') (hf : nfB (fr k) v' [] = true) (hK : absLexH X ops fr rd wr Q (k + 1) l (st.put d v')) (hp : p) (hl : inO (rd k) (loads (ev st) o.op) = true) : absLexH X ops fr rd wr Q k (o :: l) st :=
  ⟨v', [], .old (.inl ⟨by simp [gw, hg], .valW h hle hp hl⟩) hf, by rw [hd]; exact hK⟩
theorem h_lit0 {t e : TypeId} {by_ m : Nat} (hg : o.guard = none) (ho : o.op = .buildSlice t 0 #[]) (hd : o.dst = some m) (hdl : Nat.ble m 999999 = true) (he : elemOk X.P t = some (e, by_)) (hw : (wr k).contains m = true) (hf : nfB (fr k) (.own m e []) [(m, .tok e 0)] = true)
    (hK : absLexH X ops fr rd wr Q (k + 1) l ((st.res m (.tok e 0)).put (some m) (.own m e []))) : absLexH X ops fr rd wr Q k (o :: l) st :=
  ⟨_, _, .lit0 hg ho hd hdl he hw hf, by rw [stp_one, hd]; exact hK⟩
theorem h_app {t e : TypeId} {by_ q : Nat} {x y : Operand} {l1 l2 : List D} (hg : o.guard = none) (ho : o.op = .call { callee := .builtin .append, args := #[x, y], argTypes := #[t, t] }) (hd : o.dst = d) (he : elemOk X.P t = some (e, by_))
    (hleaf : ∀ d, (cellsV X.P 12 e d).all V.leaf = true) (hx : ev st x = .own q e l1) (hw : (wr k).contains q = true) (hr : st.rs q = some (.tok e l1.length)) (hy : (ev st y).out = .sl e l2) (hf : nfB (fr k) (.own q e (l1 ++ l2)) [(q, .tok e (l1 ++ l2).length)] = true)
    (hK : absLexH X ops fr rd wr Q (k + 1) l ((st.res q (.tok e (l1 ++ l2).length)).put d (.own q e (l1 ++ l2))))
    (hp : l1.length + l2.length ≤ maxLen ∧ (l1.length + l2.length) * by_ ≤ 140737488355328) : absLexH X ops fr rd wr Q k (o :: l) st :=
  ⟨_, _, .app hg hw ho he hleaf hx hr hy hp (by rw [← List.length_append]; exact hf), by rw [hd, stp_one, ← List.length_append]; exact hK⟩
end
end
end Go.Proofs.YtdklhkdlndlgnaaGreatDoor
namespace Go.Proofs.YtdklhkdlndlgnaaGreatDoor
open Go.RowKit
attribute [local irreducible] wpList Calls Code.wp
section
variable {X : Cx} {nn : Nat} {st : Vst nn} {ops : Array Oper} {o : Oper} {l : List Oper} {Q : Vst nn → Prop} {d : Option Tmp} {k : Nat} {fr rd wr : Nat → List Nat}
theorem h_call {f : FuncId} {args : List V} {r : V} (hg : o.guard = none) (hd : o.dst = d) (h : act1 X.P st.rs (ev st) o.op = .call f args) (hc : AC X.e X.P f (outL args) r) (hf : nfB (fr k) r [] = true) (hK : absLexH X ops fr rd wr Q (k + 1) l (st.put d r)) : absLexH X ops fr rd wr Q k (o :: l) st :=
  ⟨r, [], .old (.inl ⟨by simp [gw, hg], .call h hc⟩) hf, by rw [hd]; exact hK⟩
end
end Go.Proofs.YtdklhkdlndlgnaaGreatDoor
