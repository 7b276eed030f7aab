/- Parts of a proof, merged by a program (shake.py). -/
import Derived.Test.YtjhjleanihgopaaDoorCards
import Derived.Test.YtjhjleanihgopaaDoorTie
import Derived.ProofKit
import Derived.OpenShut
import Derived.Deep.DeepHandedRow
import Derived.Test.YtjhjleanihgopaaDoorRows
import Derived.Test.YtjhjleanihgopaaDoorQ23
namespace Go.Proofs.YtjhjleanihgopaaDoor
open Go.ChangeShapes Go.WideShapes Go.ChangeAt Go.RowKit
attribute [local irreducible] wpList Calls Code.wp
theorem own : ownKnob Tryd.prog.godebug = none := by kernel_rfl
theorem laidOut' : laidOutB Tryd.prog = true := by kernel_rfl
theorem gPow : Tryd.prog.globalNamed "internal/strconv.uint64pow10" = some 3 := by kernel_rfl
theorem gErrR : Tryd.prog.globalNamed "strconv.ErrRange" = some 2 := by kernel_rfl
theorem gErrS : Tryd.prog.globalNamed "strconv.ErrSyntax" = some 1 := by kernel_rfl
theorem gErrRT : (Tryd.prog.globals[2]?).map (·.type) = some 107 := by kernel_rfl
theorem gErrST : (Tryd.prog.globals[1]?).map (·.type) = some 107 := by kernel_rfl
theorem tab_of_row {P : Program} {W : World} {g : Nat} {n : String} {t e : TypeId} {m : Nat} {k : IntKind} {zs : List Int} (hg : P.globalNamed n = some g) (hty : (P.globals[g]?).map (·.type) = some t) (ht : P.underlying t = some (.array m e)) (he : P.underlying e = some (.int k)) (hce : P.cellsOf e = 1) (hct : P.cellsOf t = m)
    (h : ∃ g t cs fuel p, P.globalNamed n = some g ∧ (P.globals[g]?).map (·.type) = some t ∧ W.var? P n = some cs ∧ DataW.trod (fun _ => ()) P W 0 (fun _ => true) false fuel t cs.toList = some (Lib.tabData k zs, p)) : Lib.TabIs P W n k zs := by
  obtain ⟨g', t', cs, fuel, p, hg', ht', hvar, hd⟩ := h
  obtain rfl := Option.some.inj (hg.symm.trans hg')
  obtain rfl := Option.some.inj (hty.symm.trans ht')
  unfold Lib.TabIs
  rw [hvar, ← Lib.cells_of_tab ht he hce hct hd]
theorem err_of_row {P : Program} {W : World} {g : Nat} {n nm : String} {t : TypeId} {ms : Array (String × TypeId)} {d : DataW Unit} (hg : P.globalNamed n = some g) (hty : (P.globals[g]?).map (·.type) = some t) (ht : P.underlying t = some (.interface ms))
    (h : ∃ g t cs fuel p, P.globalNamed n = some g ∧ (P.globals[g]?).map (·.type) = some t ∧ W.var? P n = some cs ∧ DataW.trod (fun _ => ()) P W 0 (fun _ => true) false fuel t cs.toList = some (.iface nm d, p)) : ∃ tp p, W.var? P n = some #[.iface tp p] := by
  obtain ⟨g', t', cs, fuel, p, hg', ht', hvar, hd⟩ := h
  obtain rfl := Option.some.inj (hg.symm.trans hg')
  obtain rfl := Option.some.inj (hty.symm.trans ht')
  obtain ⟨_, u, v, hc, _⟩ := iface_of_trod ht hd
  refine ⟨u, v, ?_⟩
  rw [hvar]
  cases cs; simp_all
theorem gPowT : (Tryd.prog.globals[3]?).map (·.type) = some 173 := by kernel_rfl
/-- what every row of this seat lists -/
def laidL : List (String × DataW Unit) := [("math/bits.deBruijn32tab", Rows.laid_math_bits_deBruijn32tab), ("math/bits.deBruijn64tab", Rows.laid_math_bits_deBruijn64tab), ("internal/strconv.uint64pow10", Rows.laid_internal_strconv_uint64pow10), ("strconv.ErrRange", Rows.laid_strconv_ErrRange), ("strconv.ErrSyntax", Rows.laid_strconv_ErrSyntax)]
theorem env_of_laid {W : World} (h : laidMetH Tryd.prog laidL W) : Env W := by
  have h' : laidMet Tryd.prog laidL W := h
  obtain ⟨ps, ⟨_, _, _, _, _, _, _, _, _, _, ⟨_, _, _, _, _, _, _, _, _, _, ⟨g3, t3, c3, f3, p3, q3, a3, b3, e3, d3, ⟨g4, t4, c4, f4, p4, q4, a4, b4, e4, d4, ⟨g5, t5, c5, f5, p5, q5, a5, b5, e5, d5, _⟩, _⟩, _⟩, _⟩, _⟩, _⟩ := h'
  exact ⟨tab_of_row gPow gPowT Tryd.underlying173 Tryd.underlying157 (by kernel_rfl) (by kernel_rfl) ⟨g3, t3, c3, f3, p3, a3, b3, e3, d3⟩,
    err_of_row gErrR gErrRT Tryd.underlying107 ⟨g4, t4, c4, f4, p4, a4, b4, e4, d4⟩,
    err_of_row gErrS gErrST Tryd.underlying107 ⟨g5, t5, c5, f5, p5, a5, b5, e5, d5⟩⟩
theorem types_ok (ts : List TypeId) (h : (ts.all fun t => Tryd.prog.readableRec t && decide (t < Tryd.prog.types.size)) = true) : ∀ t ∈ ts, Tryd.prog.readableRec t = true ∧ t < Tryd.prog.types.size := by
  intro t ht
  have := List.all_eq_true.1 h t ht
  simpa using this
def tab32 : List Int := [0, 1, 28, 2, 29, 14, 24, 3, 30, 22, 20, 15, 25, 17, 4, 8, 31, 27, 13, 23, 21, 19, 16, 7, 26, 12, 18, 6, 11, 5, 10, 9]
def tab64 : List Int := [0, 1, 56, 2, 57, 49, 28, 3, 61, 58, 42, 50, 38, 29, 17, 4, 62, 47, 59, 36, 45, 43, 51, 22, 53, 39, 33, 30, 24, 18, 12, 5, 63, 55, 48, 27, 60, 41, 37, 16, 46, 35, 44, 21, 52, 32, 23, 11, 54, 26, 40, 15, 34, 20, 31, 10, 25, 14, 19, 9, 13, 8, 7, 6]
/-- cells laid into a block -/
def relay (cs : Array Value) : Obj → Obj
  | .cells _ t frozen => .cells cs t frozen
  | o => o
/-- a world for the witness: what the rows list, laid -/
noncomputable def laidWorld (os : Os) : World :=
  let w := World.holding Tryd.prog os ⟨#[], #[], []⟩
  let n := w.heap.size
  { w with heap := ((((((w.heap.modify 4 (relay (tab32.map fun z => Value.int .u8 z).toArray)).modify 5 (relay (tab64.map fun z => Value.int .u8 z).toArray)).modify 3 (relay (Lib.pow10Tab.map fun z => Value.int .u64 z).toArray)).modify 2
      (relay #[.iface 168 (.pointer (some ⟨n, 0, none⟩))])).modify 1 (relay #[.iface 168 (.pointer (some ⟨n + 1, 0, none⟩))])).push
      (.cells #[.string ⟨#[118, 97, 108, 117, 101, 32, 111, 117, 116, 32, 111, 102, 32, 114, 97, 110, 103, 101]⟩] 170)).push (.cells #[.string ⟨#[105, 110, 118, 97, 108, 105, 100, 32, 115, 121, 110, 116, 97, 120]⟩] 170) }
end Go.Proofs.YtjhjleanihgopaaDoor
namespace Go.Proofs.YtjhjleanihgopaaDoor
open Go.RowKit
attribute [local irreducible] wpList Calls Code.wp
/-- what the reference's text finds of a numeral: the digits d, the sign -/
structure Rn (l : List UInt8) (d : ByteArray) (ng : Bool) : Prop where
  empty : d.size = 0 → numU l = Lib.NumEnd.syntax
  zero : 0 < d.size → bV d 0 = 48 → (1 < d.size ∨ ng = true) → numU l = Lib.NumEnd.syntax
  bad : ∀ x, x < d.size → digB (bV d x) = false → numU l = Lib.NumEnd.syntax
  good : 0 < d.size → ¬ (bV d 0 = 48 ∧ (1 < d.size ∨ ng = true)) → (∀ k, k < d.size → digB (bV d k) = true) →
    numU l = if ng = true then (if decV 0 (tk d d.size) ≤ 9223372036854775808 then .ok (-(decV 0 (tk d d.size) : Int)) else .range) else if decV 0 (tk d d.size) < 9223372036854775808 then .ok (decV 0 (tk d d.size)) else .range
  mono : ∀ m, decV 0 (tk d m) ≤ decV 0 (tk d d.size)
theorem bs_self (s : ByteArray) : bs s.data.toList = s := by cases s; simp [bs]
end Go.Proofs.YtjhjleanihgopaaDoor
namespace Go.Proofs.YtjhjleanihgopaaDoor
open Go.RowKit
attribute [local irreducible] wpList Calls Code.wp
theorem itoa_size (n : Int) (h0 : -9223372036854775808 ≤ n) (h1 : n ≤ 9223372036854775807) : (bs (Lib.itoa n)).size ≤ 21 := by
  rw [bs_size]
  unfold Lib.itoa
  split
  · have := dec_len (u := n.natAbs) (by omega)
    simp only [List.length_cons]; omega
  · have := dec_len (u := n.toNat) (by omega)
    omega
end Go.Proofs.YtjhjleanihgopaaDoor
namespace Go.Proofs.YtjhjleanihgopaaDoor
open Go.RowKit
attribute [local irreducible] wpList Calls Code.wp
/-- a hint's header -/
def headU (n : Int) (p : Bool) : List UInt8 :=
  if n < 1 then [110, 111, 45, 115, 116, 111, 114, 101] else [109, 97, 120, 45, 97, 103, 101, 61] ++ Lib.itoa n ++ (if p = true then [44, 32, 112, 114, 105, 118, 97, 116, 101] else [44, 32, 112, 117, 98, 108, 105, 99])
set_option maxRecDepth 100000 in
set_option maxHeartbeats 2000000 in
theorem headerP (n : Int) (p : Bool) (w : World) (he : Env w) (h0 : -9223372036854775808 ≤ n) (h1 : n ≤ 9223372036854775807) : Calls Tryd.prog 26 #[.agg #[.int .i64 n, .bool p]] w (St (headU n p) w) := by
  have HE := Lib.hid he
  clear he
  by_cases hn : n < 1
  · have Hh := Lib.hid (show bs (headU n p) = ⟨#[110, 111, 45, 115, 116, 111, 114, 101]⟩ by unfold headU; rw [if_pos hn]; rfl)
    have q : decide (n < 1) = true := decide_eq_true hn
    go_enter Tryd.func26, Tryd.ntmps26
    go_wp2
    go_ret
    exact ⟨by rw [Hh.out]; rfl, (Below.refl _ _).alloc (Nat.le_refl _) _⟩
  · have q : decide (n < 1) = false := decide_eq_false hn
    have HD := Lib.hid (fun w he => decimalP n h0 h1 w he)
    have hz := itoa_size n h0 h1
    have Hh := Lib.hid (show bs (headU n p) = bs [109, 97, 120, 45, 97, 103, 101, 61] ++ bs (Lib.itoa n) ++ bs (if p = true then [44, 32, 112, 114, 105, 118, 97, 116, 101] else [44, 32, 112, 117, 98, 108, 105, 99]) by
      unfold headU; rw [if_neg hn, bs_append, bs_append])
    unfold St at HD
    generalize bs (Lib.itoa n) = t at *
    have hb : Below w.heap.size w (w.alloc (.cells #[.int .i64 n, .bool p] 32)) := (Below.refl _ _).alloc (Nat.le_refl _) _
    have Hb := Lib.hid hb
    clear hb
    cases p
    all_goals
      go_enter Tryd.func26, Tryd.ntmps26
      go_wp2_with fail
      refine (HD.out _ (HE.out.below Hb.out)).mono ?_
      rintro e w2 ⟨rfl, b⟩
      have B2 := Lib.hid (Hb.out.trans (b.mono Hb.out.size)); clear b
      go_wp2
      go_ret
      exact ⟨by rw [Hh.out]; rfl, B2.out⟩
end Go.Proofs.YtjhjleanihgopaaDoor
namespace Go.Proofs.YtjhjleanihgopaaDoor
/-- "max-age=" -/
def preH : List UInt8 := [109, 97, 120, 45, 97, 103, 101, 61]
/-- ", private" -/
def priH : List UInt8 := [44, 32, 112, 114, 105, 118, 97, 116, 101]
/-- ", public" -/
def pubH : List UInt8 := [44, 32, 112, 117, 98, 108, 105, 99]
/-- "no-store" -/
def noH : List UInt8 := [110, 111, 45, 115, 116, 111, 114, 101]
/-- an age read, with its end: (age, private, error) -/
def ageH (l : List UInt8) (p : Bool) : Int × Bool × Int :=
  match numU l with
  | .ok v => if v < 1 then (0, false, 3) else (v, p, 0)
  | .range => (0, false, 4)
  | _ => (0, false, 3)
/-- a hint read -/
def parseU (l : List UInt8) : Int × Bool × Int :=
  if l = noH then (0, false, 0)
  else if Lib.hasPrefix l preH = false then (0, false, 3)
  else if Lib.hasSuffix (l.drop 8) priH = true then ageH ((l.drop 8).take ((l.drop 8).length - 9)) true
  else if Lib.hasSuffix (l.drop 8) pubH = true then ageH ((l.drop 8).take ((l.drop 8).length - 8)) false
  else (0, false, 3)
end Go.Proofs.YtjhjleanihgopaaDoor
namespace Go.Proofs.YtjhjleanihgopaaDoor
open Go.RowKit
attribute [local irreducible] wpList Calls Code.wp
/-- a hint and an error's number come back -/
def Pa (r : Int × Bool × Int) (w : World) (e : Ending) (w' : World) : Prop := e = .returned (.tuple #[.agg #[.int .i64 r.1, .bool r.2.1], .int .i64 r.2.2]) ∧ Below w.heap.size w w'
theorem bs_eq {s : ByteArray} {l : List UInt8} (h : s.data.toList = l) : s = bs l := by rw [← h, bs_self]
theorem heap_lt {w : World} {b : Nat} {o : Obj} (h : w.heap[b]? = some o) : b < w.heap.size := by
  rcases Nat.lt_or_ge b w.heap.size with h' | h'
  · exact h'
  · rw [Array.getElem?_eq_none h'] at h; cases h
theorem cell_heap {w : World} {b o : Nat} {cs : Array Value} {t : TypeId} {fz : Nat × Nat} {x : Value} (h : w.heap[b]? = some (.cells cs t fz)) (hx : cs[o]? = some x) : w.cell? ⟨b, o, none⟩ = some x := by
  rw [cell_of_row w b o cs t fz h]; exact hx
theorem frozen_heap {w : World} {b o : Nat} {cs : Array Value} {t : TypeId} (h : w.heap[b]? = some (.cells cs t (0, 0))) : w.frozen? ⟨b, o, none⟩ = false := by
  simp [World.frozen?, h]
theorem trim_pre {l p : List UInt8} (h : Lib.hasPrefix l p = true) : Lib.trimPrefix l p = l.drop p.length := by
  unfold Lib.trimPrefix; rw [if_pos h]
theorem trim_suf {l p : List UInt8} {n : Nat} (h : Lib.hasSuffix l p = true) (hn : p.length = n) : Lib.trimSuffix l p = l.take (l.length - n) := by
  unfold Lib.trimSuffix; rw [if_pos h, hn]
theorem trim_not {l p : List UInt8} (h : Lib.hasSuffix l p = false) : Lib.trimSuffix l p = l := by
  unfold Lib.trimSuffix; rw [if_neg (by rw [h]; simp)]
theorem trim_pre_not {l p : List UInt8} (h : Lib.hasPrefix l p = false) : Lib.trimPrefix l p = l := by
  unfold Lib.trimPrefix; rw [if_neg (by rw [h]; simp)]
theorem cut_pre (s : ByteArray) (w : World) (l : List UInt8) (b : Bool) (h1 : Lib.trimPrefix s.data.toList preH = l) (h2 : Lib.hasPrefix s.data.toList preH = b) :
    Calls Tryd.prog 47 #[.string s, .string ⟨#[109, 97, 120, 45, 97, 103, 101, 61]⟩] w (fun e w' => e = .returned (.tuple #[.string (bs l), .bool b]) ∧ w = w') :=
  (Tryd.strings_CutPrefix s ⟨#[109, 97, 120, 45, 97, 103, 101, 61]⟩ w).mono fun e w' h => ⟨by rw [h.1, ← h1, ← h2]; rfl, h.2.symm⟩
theorem cut_pri (s : ByteArray) (w : World) (hs : s.size ≤ 9223372036854775807) (l : List UInt8) (b : Bool) (h1 : Lib.trimSuffix s.data.toList priH = l) (h2 : Lib.hasSuffix s.data.toList priH = b) :
    Calls Tryd.prog 48 #[.string s, .string ⟨#[44, 32, 112, 114, 105, 118, 97, 116, 101]⟩] w (fun e w' => e = .returned (.tuple #[.string (bs l), .bool b]) ∧ w = w') :=
  (Tryd.strings_CutSuffix s ⟨#[44, 32, 112, 114, 105, 118, 97, 116, 101]⟩ w hs).mono fun e w' h => ⟨by rw [h.1, ← h1, ← h2]; rfl, h.2.symm⟩
theorem cut_pub (s : ByteArray) (w : World) (hs : s.size ≤ 9223372036854775807) (l : List UInt8) (b : Bool) (h1 : Lib.trimSuffix s.data.toList pubH = l) (h2 : Lib.hasSuffix s.data.toList pubH = b) :
    Calls Tryd.prog 48 #[.string s, .string ⟨#[44, 32, 112, 117, 98, 108, 105, 99]⟩] w (fun e w' => e = .returned (.tuple #[.string (bs l), .bool b]) ∧ w = w') :=
  (Tryd.strings_CutSuffix s ⟨#[44, 32, 112, 117, 98, 108, 105, 99]⟩ w hs).mono fun e w' h => ⟨by rw [h.1, ← h1, ← h2]; rfl, h.2.symm⟩
/-- how an age's number comes back, and what follows -/
theorem age_cases (l : List UInt8) (p : Bool) : ∃ v k : Int, numT (numU l) = .tuple #[.int .i64 v, .int .i64 k] ∧ (k = 3 ∧ ageH l p = (0, false, 3) ∨ k = 4 ∧ ageH l p = (0, false, 4) ∨ k = 0 ∧ v < 1 ∧ ageH l p = (0, false, 3) ∨ k = 0 ∧ ¬ v < 1 ∧ ageH l p = (v, p, 0)) := by
  unfold ageH
  cases numU l with
  | ok v =>
    refine ⟨v, 0, rfl, ?_⟩
    by_cases hv : v < 1
    · exact .inr (.inr (.inl ⟨rfl, hv, if_pos hv⟩))
    · exact .inr (.inr (.inr ⟨rfl, hv, if_neg hv⟩))
  | range => exact ⟨0, 4, rfl, .inr (.inl ⟨rfl, rfl⟩)⟩
  | _ => exact ⟨0, 3, rfl, .inl ⟨rfl, rfl⟩⟩
set_option maxRecDepth 100000 in
set_option maxHeartbeats 4000000 in
theorem parseP_no (w : World) : Calls Tryd.prog 25 #[.string ⟨#[110, 111, 45, 115, 116, 111, 114, 101]⟩] w (Pa (0, false, 0) w) := by
  go_enter Tryd.func25, Tryd.ntmps25
  go_wp2
  exact bodyPost_ret (v := .tuple #[.agg #[.int .i64 0, .bool false], .int .i64 0]) (by simp [results, Tryd.results25, go_sem]) rfl ⟨rfl, (Below.refl _ _).alloc (Nat.le_refl _) _⟩
set_option maxRecDepth 100000 in
set_option maxHeartbeats 4000000 in
theorem parseP_pri (s q t : ByteArray) (w : World) (he : Env w) (hs : s.size ≤ 9223372036854775807) (q0 : (s.toList == [110, 111, 45, 115, 116, 111, 114, 101]) = false) (v k : Int) (r : Int × Bool × Int)
    (hc : ∀ w, Calls Tryd.prog 47 #[.string s, .string ⟨#[109, 97, 120, 45, 97, 103, 101, 61]⟩] w (fun e w' => e = .returned (.tuple #[.string q, .bool true]) ∧ w = w'))
    (h1 : ∀ w, Calls Tryd.prog 48 #[.string q, .string ⟨#[44, 32, 112, 114, 105, 118, 97, 116, 101]⟩] w (fun e w' => e = .returned (.tuple #[.string t, .bool true]) ∧ w = w'))
    (hn : ∀ w, Env w → Calls Tryd.prog 49 #[.string t] w fun e w' => e = .returned (.tuple #[.int .i64 v, .int .i64 k]) ∧ Below w.heap.size w w')
    (hr : k = 3 ∧ r = (0, false, 3) ∨ k = 4 ∧ r = (0, false, 4) ∨ k = 0 ∧ v < 1 ∧ r = (0, false, 3) ∨ k = 0 ∧ ¬ v < 1 ∧ r = (v, true, 0)) :
    Calls Tryd.prog 25 #[.string s] w (Pa r w) := by
  have hb : Below w.heap.size w (w.alloc (.cells #[.int .i64 0, .bool false] 32)) := (Below.refl _ _).alloc (Nat.le_refl _) _
  have Hb := Lib.hid hb
  have HE := Lib.hid (he.below hb)
  clear hb he
  have HC := Lib.hid hc; have HN := Lib.hid hn; have H1 := Lib.hid h1
  clear hc hn h1
  rcases hr with ⟨rfl, rfl⟩ | ⟨rfl, rfl⟩ | ⟨rfl, hv, rfl⟩ | ⟨rfl, hv, rfl⟩
  all_goals
    go_enter Tryd.func25, Tryd.ntmps25
    go_wp2_with fail
    refine (HC.out _).mono ?_
    rintro e w2 ⟨rfl, rfl⟩
    go_wp2_with fail
    refine (H1.out _).mono ?_
    rintro e w2 ⟨rfl, rfl⟩
    go_wp2_with fail
    refine (HN.out _ HE.out).mono ?_
    rintro e w2 ⟨rfl, b⟩
    have B2 := Lib.hid (Hb.out.trans (b.mono Hb.out.size))
    have Hx := Lib.hid ((b.block w.heap.size (by simp)).trans (heap_at (o := .cells #[.int .i64 0, .bool false] 32) rfl))
    have c0 := cell_heap (o := 0) Hx.out rfl
    have c1 := cell_heap (o := 1) Hx.out rfl
    have f0 := frozen_heap (o := 0) Hx.out
    have f1 := frozen_heap (o := 1) Hx.out
    have hl := heap_lt Hx.out
    clear b
    go_wp2
    first
      | exact bodyPost_ret (v := .tuple #[.agg #[.int .i64 0, .bool false], .int .i64 3]) (by simp [results, Tryd.results25, go_sem, c0, c1, hl]) rfl ⟨rfl, (B2.out.setCell (Nat.le_refl _) _).setCell (Nat.le_refl _) _⟩
      | exact bodyPost_ret (v := .tuple #[.agg #[.int .i64 0, .bool false], .int .i64 4]) (by simp [results, Tryd.results25, go_sem, c0, c1, hl]) rfl ⟨rfl, (B2.out.setCell (Nat.le_refl _) _).setCell (Nat.le_refl _) _⟩
      | exact bodyPost_ret (v := .tuple #[.agg #[.int .i64 v, .bool true], .int .i64 0]) (by simp [results, Tryd.results25, go_sem, c0, c1, hl]) rfl ⟨rfl, (B2.out.setCell (Nat.le_refl _) _).setCell (Nat.le_refl _) _⟩
set_option maxRecDepth 100000 in
set_option maxHeartbeats 4000000 in
theorem parseP_pub (s q t : ByteArray) (w : World) (he : Env w) (hs : s.size ≤ 9223372036854775807) (q0 : (s.toList == [110, 111, 45, 115, 116, 111, 114, 101]) = false) (v k : Int) (r : Int × Bool × Int)
    (hc : ∀ w, Calls Tryd.prog 47 #[.string s, .string ⟨#[109, 97, 120, 45, 97, 103, 101, 61]⟩] w (fun e w' => e = .returned (.tuple #[.string q, .bool true]) ∧ w = w'))
    (h1 : ∀ w, Calls Tryd.prog 48 #[.string q, .string ⟨#[44, 32, 112, 114, 105, 118, 97, 116, 101]⟩] w (fun e w' => e = .returned (.tuple #[.string q, .bool false]) ∧ w = w'))
    (h2 : ∀ w, Calls Tryd.prog 48 #[.string q, .string ⟨#[44, 32, 112, 117, 98, 108, 105, 99]⟩] w (fun e w' => e = .returned (.tuple #[.string t, .bool true]) ∧ w = w'))
    (hn : ∀ w, Env w → Calls Tryd.prog 49 #[.string t] w fun e w' => e = .returned (.tuple #[.int .i64 v, .int .i64 k]) ∧ Below w.heap.size w w')
    (hr : k = 3 ∧ r = (0, false, 3) ∨ k = 4 ∧ r = (0, false, 4) ∨ k = 0 ∧ v < 1 ∧ r = (0, false, 3) ∨ k = 0 ∧ ¬ v < 1 ∧ r = (v, false, 0)) :
    Calls Tryd.prog 25 #[.string s] w (Pa r w) := by
  have hb : Below w.heap.size w (w.alloc (.cells #[.int .i64 0, .bool false] 32)) := (Below.refl _ _).alloc (Nat.le_refl _) _
  have Hb := Lib.hid hb
  have HE := Lib.hid (he.below hb)
  clear hb he
  have HC := Lib.hid hc; have HN := Lib.hid hn; have H1 := Lib.hid h1; have H2 := Lib.hid h2
  clear hc hn h1 h2
  rcases hr with ⟨rfl, rfl⟩ | ⟨rfl, rfl⟩ | ⟨rfl, hv, rfl⟩ | ⟨rfl, hv, rfl⟩
  all_goals
    go_enter Tryd.func25, Tryd.ntmps25
    go_wp2_with fail
    refine (HC.out _).mono ?_
    rintro e w2 ⟨rfl, rfl⟩
    go_wp2_with fail
    refine (H1.out _).mono ?_
    rintro e w2 ⟨rfl, rfl⟩
    go_wp2_with fail
    refine (H2.out _).mono ?_
    rintro e w2 ⟨rfl, rfl⟩
    go_wp2_with fail
    refine (HN.out _ HE.out).mono ?_
    rintro e w2 ⟨rfl, b⟩
    have B2 := Lib.hid (Hb.out.trans (b.mono Hb.out.size))
    have Hx := Lib.hid ((b.block w.heap.size (by simp)).trans (heap_at (o := .cells #[.int .i64 0, .bool false] 32) rfl))
    have c0 := cell_heap (o := 0) Hx.out rfl
    have c1 := cell_heap (o := 1) Hx.out rfl
    have f0 := frozen_heap (o := 0) Hx.out
    have f1 := frozen_heap (o := 1) Hx.out
    have hl := heap_lt Hx.out
    clear b
    go_wp2
    first
      | exact bodyPost_ret (v := .tuple #[.agg #[.int .i64 0, .bool false], .int .i64 3]) (by simp [results, Tryd.results25, go_sem, c0, c1, hl]) rfl ⟨rfl, (B2.out.setCell (Nat.le_refl _) _).setCell (Nat.le_refl _) _⟩
      | exact bodyPost_ret (v := .tuple #[.agg #[.int .i64 0, .bool false], .int .i64 4]) (by simp [results, Tryd.results25, go_sem, c0, c1, hl]) rfl ⟨rfl, (B2.out.setCell (Nat.le_refl _) _).setCell (Nat.le_refl _) _⟩
      | exact bodyPost_ret (v := .tuple #[.agg #[.int .i64 v, .bool false], .int .i64 0]) (by simp [results, Tryd.results25, go_sem, c0, c1, hl]) rfl ⟨rfl, (B2.out.setCell (Nat.le_refl _) _).setCell (Nat.le_refl _) _⟩
set_option maxRecDepth 100000 in
set_option maxHeartbeats 4000000 in
theorem parseP_bad (s q t u : ByteArray) (w : World) (q0 : (s.toList == [110, 111, 45, 115, 116, 111, 114, 101]) = false) (a b c : Bool) (hbad : a = false ∨ b = false ∧ c = false)
    (hc : ∀ w, Calls Tryd.prog 47 #[.string s, .string ⟨#[109, 97, 120, 45, 97, 103, 101, 61]⟩] w (fun e w' => e = .returned (.tuple #[.string q, .bool a]) ∧ w = w'))
    (h1 : ∀ w, Calls Tryd.prog 48 #[.string q, .string ⟨#[44, 32, 112, 114, 105, 118, 97, 116, 101]⟩] w (fun e w' => e = .returned (.tuple #[.string t, .bool b]) ∧ w = w'))
    (h2 : ∀ w, Calls Tryd.prog 48 #[.string q, .string ⟨#[44, 32, 112, 117, 98, 108, 105, 99]⟩] w (fun e w' => e = .returned (.tuple #[.string u, .bool c]) ∧ w = w')) :
    Calls Tryd.prog 25 #[.string s] w (Pa (0, false, 3) w) := by
  have hb : Below w.heap.size w (w.alloc (.cells #[.int .i64 0, .bool false] 32)) := (Below.refl _ _).alloc (Nat.le_refl _) _
  have Hb := Lib.hid hb
  clear hb
  have HC := Lib.hid hc; have H1 := Lib.hid h1; have H2 := Lib.hid h2
  clear hc h1 h2
  cases a <;> cases b <;> cases c <;> first | (exfalso; simp at hbad; done) | skip
  all_goals
    clear hbad
    go_enter Tryd.func25, Tryd.ntmps25
    go_wp2_with fail
    refine (HC.out _).mono ?_
    rintro e w2 ⟨rfl, rfl⟩
    go_wp2_with fail
    refine (H1.out _).mono ?_
    rintro e w2 ⟨rfl, rfl⟩
    try (go_wp2_with fail; refine (H2.out _).mono ?_; rintro e w2 ⟨rfl, rfl⟩)
    go_wp2
    exact bodyPost_ret (v := .tuple #[.agg #[.int .i64 0, .bool false], .int .i64 3]) (by simp [results, Tryd.results25, go_sem]) rfl ⟨rfl, Hb.out⟩
theorem parseP (s : ByteArray) (w : World) (he : Env w) (hs : s.size ≤ 100000) : Calls Tryd.prog 25 #[.string s] w (Pa (parseU s.data.toList) w) := by
  by_cases hno : s.data.toList = noH
  · obtain rfl := bs_eq hno
    rw [bs_data, show parseU noH = (0, false, 0) by unfold parseU; rw [if_pos rfl]]
    exact parseP_no w
  have q0 : (s.toList == [110, 111, 45, 115, 116, 111, 114, 101]) = false := by
    rw [Lib.toList_data]; exact beq_eq_false_iff_ne.2 hno
  have hsl : s.data.toList.length ≤ 100000 := by simpa using hs
  by_cases hpre : Lib.hasPrefix s.data.toList preH = true
  · have HC := fun w => cut_pre s w (s.data.toList.drop 8) true (trim_pre hpre) hpre
    have hr8 : (bs (s.data.toList.drop 8)).size ≤ 9223372036854775807 := by rw [bs_size, List.length_drop]; omega
    have htk : ∀ n, (bs ((s.data.toList.drop 8).take n)).size ≤ 281474976710656 := fun n => by rw [bs_size, List.length_take, List.length_drop]; omega
    by_cases h1 : Lib.hasSuffix (s.data.toList.drop 8) priH = true
    · have H1 := fun w => cut_pri (bs (s.data.toList.drop 8)) w hr8 ((s.data.toList.drop 8).take ((s.data.toList.drop 8).length - 9)) true (by rw [bs_data]; exact trim_suf h1 rfl) (by rw [bs_data]; exact h1)
      rw [show parseU s.data.toList = ageH ((s.data.toList.drop 8).take ((s.data.toList.drop 8).length - 9)) true by unfold parseU; rw [if_neg hno, if_neg (by rw [hpre]; simp), if_pos h1]]
      obtain ⟨v, k, hv, hr⟩ := age_cases ((s.data.toList.drop 8).take ((s.data.toList.drop 8).length - 9)) true
      refine parseP_pri s _ _ w he (by omega) q0 v k _ HC H1 (fun w he => (numberP _ w he (htk _)).mono fun e w' h => ?_) hr
      unfold Nm at h
      rw [bs_data, hv] at h
      exact h
    have h1' : Lib.hasSuffix (s.data.toList.drop 8) priH = false := by simpa using h1
    have H1 := fun w => cut_pri (bs (s.data.toList.drop 8)) w hr8 (s.data.toList.drop 8) false (by rw [bs_data]; exact trim_not h1') (by rw [bs_data]; exact h1')
    by_cases h2 : Lib.hasSuffix (s.data.toList.drop 8) pubH = true
    · have H2 := fun w => cut_pub (bs (s.data.toList.drop 8)) w hr8 ((s.data.toList.drop 8).take ((s.data.toList.drop 8).length - 8)) true (by rw [bs_data]; exact trim_suf h2 rfl) (by rw [bs_data]; exact h2)
      rw [show parseU s.data.toList = ageH ((s.data.toList.drop 8).take ((s.data.toList.drop 8).length - 8)) false by unfold parseU; rw [if_neg hno, if_neg (by rw [hpre]; simp), if_neg h1, if_pos h2]]
      obtain ⟨v, k, hv, hr⟩ := age_cases ((s.data.toList.drop 8).take ((s.data.toList.drop 8).length - 8)) false
      refine parseP_pub s _ _ w he (by omega) q0 v k _ HC H1 H2 (fun w he => (numberP _ w he (htk _)).mono fun e w' h => ?_) hr
      unfold Nm at h
      rw [bs_data, hv] at h
      exact h
    · have h2' : Lib.hasSuffix (s.data.toList.drop 8) pubH = false := by simpa using h2
      rw [show parseU s.data.toList = (0, false, 3) by unfold parseU; rw [if_neg hno, if_neg (by rw [hpre]; simp), if_neg h1, if_neg h2]]
      exact parseP_bad s _ _ _ w q0 true false false (.inr ⟨rfl, rfl⟩) HC H1 (fun w => cut_pub _ w hr8 _ false rfl (by rw [bs_data]; exact h2'))
  · have hpre' : Lib.hasPrefix s.data.toList preH = false := by simpa using hpre
    rw [show parseU s.data.toList = (0, false, 3) by unfold parseU; rw [if_neg hno, if_pos hpre']]
    have hz : (bs s.data.toList).size ≤ 9223372036854775807 := by rw [bs_size]; omega
    exact parseP_bad s _ _ _ w q0 false _ _ (.inl rfl) (fun w => cut_pre s w _ false rfl hpre') (fun w => cut_pri _ w (by rw [trim_pre_not hpre']; exact hz) _ _ rfl rfl) (fun w => cut_pub _ w (by rw [trim_pre_not hpre']; exact hz) _ _ rfl rfl)
end Go.Proofs.YtjhjleanihgopaaDoor
namespace Go.Proofs.YtjhjleanihgopaaDoor
open Go.RowKit
attribute [local irreducible] wpList Calls Code.wp
/-- a hint comes back -/
def Hi (n : Int) (p : Bool) (w : World) (e : Ending) (w' : World) : Prop := e = .returned (.agg #[.int .i64 n, .bool p]) ∧ Below w.heap.size w w'
set_option maxRecDepth 100000 in
set_option maxHeartbeats 4000000 in
theorem joinP (a b : Int) (p q : Bool) (w : World) : Calls Tryd.prog 27 #[.agg #[.int .i64 a, .bool p], .agg #[.int .i64 b, .bool q]] w (Hi (min a b) (p || q) w) := by
  cases p
  all_goals
    go_enter Tryd.func27, Tryd.ntmps27
    go_wp2
    first
      | exact bodyPost_ret (v := .agg #[.int .i64 (min a b), .bool q]) (by simp [results, Tryd.results27, go_sem]) rfl ⟨rfl, (((Below.refl _ _).alloc (Nat.le_refl _) _).alloc (by simp) _).alloc (by simp; omega) _⟩
      | exact bodyPost_ret (v := .agg #[.int .i64 (min a b), .bool true]) (by simp [results, Tryd.results27, go_sem]) rfl ⟨rfl, (((Below.refl _ _).alloc (Nat.le_refl _) _).alloc (by simp) _).alloc (by simp; omega) _⟩
end Go.Proofs.YtjhjleanihgopaaDoor
namespace Go.Proofs.YtjhjleanihgopaaDoor
open Go.RowKit
attribute [local irreducible] wpList Calls Code.wp
theorem ex_parse (w : World) (he : Env w) : Calls Tryd.prog 25 #[.string ⟨#[109, 97, 120, 45, 97, 103, 101, 61, 53, 44, 32, 112, 114, 105, 118, 97, 116, 101]⟩] w (Pa (5, true, 0) w) := by
  have h := parseP ⟨#[109, 97, 120, 45, 97, 103, 101, 61, 53, 44, 32, 112, 114, 105, 118, 97, 116, 101]⟩ w he (by decide)
  rwa [show parseU (⟨#[109, 97, 120, 45, 97, 103, 101, 61, 53, 44, 32, 112, 114, 105, 118, 97, 116, 101]⟩ : ByteArray).data.toList = (5, true, 0) by decide +kernel] at h
theorem ex_head (w : World) (he : Env w) : Calls Tryd.prog 26 #[.agg #[.int .i64 60, .bool false]] w (fun e w' => e = .returned (.string ⟨#[109, 97, 120, 45, 97, 103, 101, 61, 54, 48, 44, 32, 112, 117, 98, 108, 105, 99]⟩) ∧ Below w.heap.size w w') := by
  have h := headerP 60 false w he (by decide) (by decide)
  unfold St at h
  rwa [show bs (headU 60 false) = ⟨#[109, 97, 120, 45, 97, 103, 101, 61, 54, 48, 44, 32, 112, 117, 98, 108, 105, 99]⟩ by decide +kernel] at h
theorem ex_join (w : World) : Calls Tryd.prog 27 #[.agg #[.int .i64 5, .bool true], .agg #[.int .i64 60, .bool false]] w (Hi 5 true w) := joinP 5 60 true false w
set_option maxRecDepth 100000 in
set_option maxHeartbeats 4000000 in
theorem exam44 (w : World) (he : Env w) : Calls Tryd.prog 12 #[] w (Tt w) := by
  have HE := Lib.hid he
  clear he
  have HP := Lib.hid ex_parse
  have HH := Lib.hid ex_head
  have HJ := Lib.hid ex_join
  unfold Pa at HP
  unfold Hi at HJ
  go_enter Tryd.func12, Tryd.ntmps12
  go_wp2_with fail
  refine (HP.out _ HE.out).mono ?_
  rintro e w1 ⟨rfl, b⟩
  have B1 := Lib.hid b; clear b
  go_wp2_with fail
  have hb0 : Below w.heap.size w (w1.alloc (.cells #[.int .i64 5, .bool true] 32)) := B1.out.alloc B1.out.size _
  have hx0 : (w1.alloc (.cells #[.int .i64 5, .bool true] 32)).heap[w1.heap.size]? = some (.cells #[.int .i64 5, .bool true] 32 (0, 0)) := heap_at rfl
  generalize w1.alloc (.cells #[.int .i64 5, .bool true] 32) = w0 at *
  generalize w1.heap.size = B at *
  have k0 := cell_heap (o := 0) hx0 rfl
  have k1 := cell_heap (o := 1) hx0 rfl
  have hl := heap_lt hx0
  have HS := Lib.hid (fun w' (hb : Below w0.heap.size w0 w') => (⟨hb, (hb.cell (p := ⟨B, 0, none⟩) hl).trans k0, (hb.cell (p := ⟨B, 1, none⟩) hl).trans k1⟩ : Below w0.heap.size w0 w' ∧ w'.cell? ⟨B, 0, none⟩ = some (.int .i64 5) ∧ w'.cell? ⟨B, 1, none⟩ = some (.bool true)))
  have Hb0 := Lib.hid hb0
  clear hb0 hx0
  go_region_held3 (fun w' => Below w0.heap.size w0 w' ∧ w'.cell? ⟨B, 0, none⟩ = some (.int .i64 5) ∧ w'.cell? ⟨B, 1, none⟩ = some (.bool true))
    (first | exact HS.out _ ((Below.refl _ _).drew) | exact HS.out _ Hc.out)
    (first
      | (go_at_call 26; refine (HH.out _ (HE.out.below (Hb0.out.drew))).mono ?_; rintro e w2 ⟨rfl, b⟩; have Hc := Lib.hid (((Below.refl w0.heap.size w0).drew).trans b); clear b)
      | (go_at_call 27; refine (HJ.out _).mono ?_; rintro e w3 ⟨rfl, b⟩; have Hc := Lib.hid (Hc.out.trans (b.mono Hc.out.size)); clear b))
  go_wp2
  go_ret
  exact ⟨rfl, Hb0.out.trans (Hc.out.mono Hb0.out.size)⟩
end Go.Proofs.YtjhjleanihgopaaDoor
namespace Go.Proofs.YtjhjleanihgopaaDoor
open Go.RowKit
variable {w : World} {I : Nat → Prop} {k : Nat} {cs : List Value} {d : D}
theorem cells3 : Tryd.prog.cellsOf 3 = 1 := by kernel_rfl
theorem cells24 : Tryd.prog.cellsOf 24 = 1 := by kernel_rfl
theorem cells22 : Tryd.prog.cellsOf 22 = 1 := by kernel_rfl
theorem cells55 : Tryd.prog.cellsOf 55 = 7 := by kernel_rfl
set_option maxRecDepth 100000 in
theorem open24 (h : Rep Tryd.prog w I (k + 1) 24 cs d) : ∃ (A0 : Option Addr) (c0 : Nat), cs = [.slice A0 (d.f 0).l.length c0] ∧ ((d.f 0).l.length ≤ c0 ∧ c0 ≤ maxLen ∧ (A0 = none → c0 = 0) ∧ Sl Tryd.prog w I k 55 A0 (d.f 0).l) := by
  obtain ⟨hl, hf⟩ := h.struct Tryd.underlying24
  rw [cells24] at hl
  match cs, hl, hf with
  | [x0], _, hf =>
    have g0 : Rep Tryd.prog w I k 22 (([x0].drop 0).take (Tryd.prog.cellsOf 22)) (d.f 0) := hf 0 _ rfl
    simp only [cells22, List.drop_zero, List.drop_succ_cons, List.take_succ_cons, List.take_zero] at g0
    obtain ⟨a0, b0, e0, r0⟩ := g0.sliceAny Tryd.underlying22
    simp only [List.cons.injEq, and_true] at e0
    rw [e0]
    exact ⟨a0, b0, rfl, r0⟩
set_option maxRecDepth 100000 in
theorem open24_any (h : Rep Tryd.prog w I k 24 cs d) : ∃ (A0 : Option Addr) (c0 : Nat), cs = [.slice A0 (d.f 0).l.length c0] ∧ ((d.f 0).l.length ≤ c0 ∧ c0 ≤ maxLen ∧ (A0 = none → c0 = 0) ∧ Sl Tryd.prog w I k 55 A0 (d.f 0).l) := by
  cases k with
  | zero => exact h.elim
  | succ k =>
    obtain ⟨A0, c0, rfl, ⟨s0a, s0b, s0c, s0⟩⟩ := open24 h
    exact ⟨A0, c0, rfl, ⟨s0a, s0b, s0c, s0.up⟩⟩
theorem cells39 : Tryd.prog.cellsOf 39 = 5 := by kernel_rfl
theorem cells9 : Tryd.prog.cellsOf 9 = 1 := by kernel_rfl
theorem cells36 : Tryd.prog.cellsOf 36 = 1 := by kernel_rfl
theorem cells37 : Tryd.prog.cellsOf 37 = 1 := by kernel_rfl
set_option maxRecDepth 100000 in
theorem open39 (h : Rep Tryd.prog w I (k + 1) 39 cs d) : ∃ (A3 : Option Addr) (c3 : Nat) (A4 : Option Addr) (c4 : Nat), cs = [.int .i64 (d.f 0).n, .int .i64 (d.f 1).n, .string (d.f 2).s, .slice A3 (d.f 3).l.length c3, .slice A4 (d.f 4).l.length c4] ∧ (Lit.int .i64 (d.f 0).n).wf = true ∧ (Lit.int .i64 (d.f 1).n).wf = true ∧ (d.f 2).s.size ≤ maxLen ∧ ((d.f 3).l.length ≤ c3 ∧ c3 ≤ maxLen ∧ (A3 = none → c3 = 0) ∧ Sl Tryd.prog w I k 39 A3 (d.f 3).l) ∧ ((d.f 4).l.length ≤ c4 ∧ c4 ≤ maxLen ∧ (A4 = none → c4 = 0) ∧ Sl Tryd.prog w I k 9 A4 (d.f 4).l) := by
  obtain ⟨hl, hf⟩ := h.struct Tryd.underlying39
  rw [cells39] at hl
  match cs, hl, hf with
  | [x0, x1, x2, x3, x4], _, hf =>
    have g0 : Rep Tryd.prog w I k 3 (([x0, x1, x2, x3, x4].drop 0).take (Tryd.prog.cellsOf 3)) (d.f 0) := hf 0 _ rfl
    simp only [cells3, List.drop_zero, List.drop_succ_cons, List.take_succ_cons, List.take_zero] at g0
    obtain ⟨e0, r0⟩ := g0.int Tryd.underlying3
    have g1 : Rep Tryd.prog w I k 3 (([x0, x1, x2, x3, x4].drop 1).take (Tryd.prog.cellsOf 3)) (d.f 1) := hf 1 _ rfl
    simp only [cells3, List.drop_zero, List.drop_succ_cons, List.take_succ_cons, List.take_zero] at g1
    obtain ⟨e1, r1⟩ := g1.int Tryd.underlying3
    have g2 : Rep Tryd.prog w I k 9 (([x0, x1, x2, x3, x4].drop 2).take (Tryd.prog.cellsOf 9)) (d.f 2) := hf 2 _ rfl
    simp only [cells9, List.drop_zero, List.drop_succ_cons, List.take_succ_cons, List.take_zero] at g2
    obtain ⟨e2, r2⟩ := g2.str Tryd.underlying9
    have g3 : Rep Tryd.prog w I k 36 (([x0, x1, x2, x3, x4].drop 3).take (Tryd.prog.cellsOf 36)) (d.f 3) := hf 3 _ rfl
    simp only [cells36, List.drop_zero, List.drop_succ_cons, List.take_succ_cons, List.take_zero] at g3
    obtain ⟨a3, b3, e3, r3⟩ := g3.sliceAny Tryd.underlying36
    have g4 : Rep Tryd.prog w I k 37 (([x0, x1, x2, x3, x4].drop 4).take (Tryd.prog.cellsOf 37)) (d.f 4) := hf 4 _ rfl
    simp only [cells37, List.drop_zero, List.drop_succ_cons, List.take_succ_cons, List.take_zero] at g4
    obtain ⟨a4, b4, e4, r4⟩ := g4.sliceAny Tryd.underlying37
    simp only [List.cons.injEq, and_true] at e0 e1 e2 e3 e4
    rw [e0, e1, e2, e3, e4]
    exact ⟨a3, b3, a4, b4, rfl, r0, r1, r2, r3, r4⟩
set_option maxRecDepth 100000 in
theorem open39_any (h : Rep Tryd.prog w I k 39 cs d) : ∃ (A3 : Option Addr) (c3 : Nat) (A4 : Option Addr) (c4 : Nat), cs = [.int .i64 (d.f 0).n, .int .i64 (d.f 1).n, .string (d.f 2).s, .slice A3 (d.f 3).l.length c3, .slice A4 (d.f 4).l.length c4] ∧ (Lit.int .i64 (d.f 0).n).wf = true ∧ (Lit.int .i64 (d.f 1).n).wf = true ∧ (d.f 2).s.size ≤ maxLen ∧ ((d.f 3).l.length ≤ c3 ∧ c3 ≤ maxLen ∧ (A3 = none → c3 = 0) ∧ Sl Tryd.prog w I k 39 A3 (d.f 3).l) ∧ ((d.f 4).l.length ≤ c4 ∧ c4 ≤ maxLen ∧ (A4 = none → c4 = 0) ∧ Sl Tryd.prog w I k 9 A4 (d.f 4).l) := by
  cases k with
  | zero => exact h.elim
  | succ k =>
    obtain ⟨A3, c3, A4, c4, rfl, r0, r1, r2, ⟨s3a, s3b, s3c, s3⟩, ⟨s4a, s4b, s4c, s4⟩⟩ := open39 h
    exact ⟨A3, c3, A4, c4, rfl, r0, r1, r2, ⟨s3a, s3b, s3c, s3.up⟩, ⟨s4a, s4b, s4c, s4.up⟩⟩
theorem cells58 : Tryd.prog.cellsOf 58 = 2 := by kernel_rfl
theorem cells56 : Tryd.prog.cellsOf 56 = 1 := by kernel_rfl
set_option maxRecDepth 100000 in
theorem open58 (h : Rep Tryd.prog w I (k + 1) 58 cs d) : ∃ (A1 : Option Addr) (c1 : Nat), cs = [.string (d.f 0).s, .slice A1 (d.f 1).l.length c1] ∧ (d.f 0).s.size ≤ maxLen ∧ ((d.f 1).l.length ≤ c1 ∧ c1 ≤ maxLen ∧ (A1 = none → c1 = 0) ∧ Sl Tryd.prog w I k 3 A1 (d.f 1).l) := by
  obtain ⟨hl, hf⟩ := h.struct Tryd.underlying58
  rw [cells58] at hl
  match cs, hl, hf with
  | [x0, x1], _, hf =>
    have g0 : Rep Tryd.prog w I k 9 (([x0, x1].drop 0).take (Tryd.prog.cellsOf 9)) (d.f 0) := hf 0 _ rfl
    simp only [cells9, List.drop_zero, List.drop_succ_cons, List.take_succ_cons, List.take_zero] at g0
    obtain ⟨e0, r0⟩ := g0.str Tryd.underlying9
    have g1 : Rep Tryd.prog w I k 56 (([x0, x1].drop 1).take (Tryd.prog.cellsOf 56)) (d.f 1) := hf 1 _ rfl
    simp only [cells56, List.drop_zero, List.drop_succ_cons, List.take_succ_cons, List.take_zero] at g1
    obtain ⟨a1, b1, e1, r1⟩ := g1.sliceAny Tryd.underlying56
    simp only [List.cons.injEq, and_true] at e0 e1
    rw [e0, e1]
    exact ⟨a1, b1, rfl, r0, r1⟩
set_option maxRecDepth 100000 in
theorem open58_any (h : Rep Tryd.prog w I k 58 cs d) : ∃ (A1 : Option Addr) (c1 : Nat), cs = [.string (d.f 0).s, .slice A1 (d.f 1).l.length c1] ∧ (d.f 0).s.size ≤ maxLen ∧ ((d.f 1).l.length ≤ c1 ∧ c1 ≤ maxLen ∧ (A1 = none → c1 = 0) ∧ Sl Tryd.prog w I k 3 A1 (d.f 1).l) := by
  cases k with
  | zero => exact h.elim
  | succ k =>
    obtain ⟨A1, c1, rfl, r0, ⟨s1a, s1b, s1c, s1⟩⟩ := open58 h
    exact ⟨A1, c1, rfl, r0, ⟨s1a, s1b, s1c, s1.up⟩⟩
theorem cells155 : Tryd.prog.cellsOf 155 = 6 := by kernel_rfl
set_option maxRecDepth 100000 in
theorem open155 (h : Rep Tryd.prog w I (k + 1) 155 cs d) : ∃ (A4 : Option Addr) (c4 : Nat) (A5 : Option Addr) (c5 : Nat), cs = [.string (d.f 0).s, .int .i64 ((d.f 1).f 0).n, .int .i64 ((d.f 1).f 1).n, .string ((d.f 1).f 2).s, .slice A4 ((d.f 1).f 3).l.length c4, .slice A5 ((d.f 1).f 4).l.length c5] ∧ (d.f 0).s.size ≤ maxLen ∧ (Lit.int .i64 ((d.f 1).f 0).n).wf = true ∧ (Lit.int .i64 ((d.f 1).f 1).n).wf = true ∧ ((d.f 1).f 2).s.size ≤ maxLen ∧ (((d.f 1).f 3).l.length ≤ c4 ∧ c4 ≤ maxLen ∧ (A4 = none → c4 = 0) ∧ Sl Tryd.prog w I k 39 A4 ((d.f 1).f 3).l) ∧ (((d.f 1).f 4).l.length ≤ c5 ∧ c5 ≤ maxLen ∧ (A5 = none → c5 = 0) ∧ Sl Tryd.prog w I k 9 A5 ((d.f 1).f 4).l) := by
  obtain ⟨hl, hf⟩ := h.struct Tryd.underlying155
  rw [cells155] at hl
  match cs, hl, hf with
  | [x0, x1, x2, x3, x4, x5], _, hf =>
    have g0 : Rep Tryd.prog w I k 9 (([x0, x1, x2, x3, x4, x5].drop 0).take (Tryd.prog.cellsOf 9)) (d.f 0) := hf 0 _ rfl
    simp only [cells9, List.drop_zero, List.drop_succ_cons, List.take_succ_cons, List.take_zero] at g0
    obtain ⟨e0, r0⟩ := g0.str Tryd.underlying9
    have g1 : Rep Tryd.prog w I k 39 (([x0, x1, x2, x3, x4, x5].drop 1).take (Tryd.prog.cellsOf 39)) (d.f 1) := hf 1 _ rfl
    simp only [cells39, List.drop_zero, List.drop_succ_cons, List.take_succ_cons, List.take_zero] at g1
    obtain ⟨a1_3, b1_3, a1_4, b1_4, e1, r1_0, r1_1, r1_2, r1_3, r1_4⟩ := open39_any g1
    simp only [List.cons.injEq, and_true] at e0 e1
    obtain ⟨e1_0, e1_1, e1_2, e1_3, e1_4⟩ := e1
    rw [e0, e1_0, e1_1, e1_2, e1_3, e1_4]
    exact ⟨a1_3, b1_3, a1_4, b1_4, rfl, r0, r1_0, r1_1, r1_2, r1_3, r1_4⟩
set_option maxRecDepth 100000 in
theorem open155_any (h : Rep Tryd.prog w I k 155 cs d) : ∃ (A4 : Option Addr) (c4 : Nat) (A5 : Option Addr) (c5 : Nat), cs = [.string (d.f 0).s, .int .i64 ((d.f 1).f 0).n, .int .i64 ((d.f 1).f 1).n, .string ((d.f 1).f 2).s, .slice A4 ((d.f 1).f 3).l.length c4, .slice A5 ((d.f 1).f 4).l.length c5] ∧ (d.f 0).s.size ≤ maxLen ∧ (Lit.int .i64 ((d.f 1).f 0).n).wf = true ∧ (Lit.int .i64 ((d.f 1).f 1).n).wf = true ∧ ((d.f 1).f 2).s.size ≤ maxLen ∧ (((d.f 1).f 3).l.length ≤ c4 ∧ c4 ≤ maxLen ∧ (A4 = none → c4 = 0) ∧ Sl Tryd.prog w I k 39 A4 ((d.f 1).f 3).l) ∧ (((d.f 1).f 4).l.length ≤ c5 ∧ c5 ≤ maxLen ∧ (A5 = none → c5 = 0) ∧ Sl Tryd.prog w I k 9 A5 ((d.f 1).f 4).l) := by
  cases k with
  | zero => exact h.elim
  | succ k =>
    obtain ⟨A4, c4, A5, c5, rfl, r0, r1, r2, r3, ⟨s4a, s4b, s4c, s4⟩, ⟨s5a, s5b, s5c, s5⟩⟩ := open155 h
    exact ⟨A4, c4, A5, c5, rfl, r0, r1, r2, r3, ⟨s4a, s4b, s4c, s4.up⟩, ⟨s5a, s5b, s5c, s5.up⟩⟩
theorem cells136 : Tryd.prog.cellsOf 136 = 2 := by kernel_rfl
theorem cells61 : Tryd.prog.cellsOf 61 = 1 := by kernel_rfl
set_option maxRecDepth 100000 in
theorem open136 (h : Rep Tryd.prog w I (k + 1) 136 cs d) : ∃ (A1 : Option Addr) (c1 : Nat), cs = [.string (d.f 0).s, .slice A1 (d.f 1).l.length c1] ∧ (d.f 0).s.size ≤ maxLen ∧ ((d.f 1).l.length ≤ c1 ∧ c1 ≤ maxLen ∧ (A1 = none → c1 = 0) ∧ Sl Tryd.prog w I k 155 A1 (d.f 1).l) := by
  obtain ⟨hl, hf⟩ := h.struct Tryd.underlying136
  rw [cells136] at hl
  match cs, hl, hf with
  | [x0, x1], _, hf =>
    have g0 : Rep Tryd.prog w I k 9 (([x0, x1].drop 0).take (Tryd.prog.cellsOf 9)) (d.f 0) := hf 0 _ rfl
    simp only [cells9, List.drop_zero, List.drop_succ_cons, List.take_succ_cons, List.take_zero] at g0
    obtain ⟨e0, r0⟩ := g0.str Tryd.underlying9
    have g1 : Rep Tryd.prog w I k 61 (([x0, x1].drop 1).take (Tryd.prog.cellsOf 61)) (d.f 1) := hf 1 _ rfl
    simp only [cells61, List.drop_zero, List.drop_succ_cons, List.take_succ_cons, List.take_zero] at g1
    obtain ⟨a1, b1, e1, r1⟩ := g1.sliceAny Tryd.underlying61
    simp only [List.cons.injEq, and_true] at e0 e1
    rw [e0, e1]
    exact ⟨a1, b1, rfl, r0, r1⟩
set_option maxRecDepth 100000 in
theorem open136_any (h : Rep Tryd.prog w I k 136 cs d) : ∃ (A1 : Option Addr) (c1 : Nat), cs = [.string (d.f 0).s, .slice A1 (d.f 1).l.length c1] ∧ (d.f 0).s.size ≤ maxLen ∧ ((d.f 1).l.length ≤ c1 ∧ c1 ≤ maxLen ∧ (A1 = none → c1 = 0) ∧ Sl Tryd.prog w I k 155 A1 (d.f 1).l) := by
  cases k with
  | zero => exact h.elim
  | succ k =>
    obtain ⟨A1, c1, rfl, r0, ⟨s1a, s1b, s1c, s1⟩⟩ := open136 h
    exact ⟨A1, c1, rfl, r0, ⟨s1a, s1b, s1c, s1.up⟩⟩
theorem cells50 : Tryd.prog.cellsOf 50 = 1 := by kernel_rfl
theorem cells60 : Tryd.prog.cellsOf 60 = 5 := by kernel_rfl
theorem cells53 : Tryd.prog.cellsOf 53 = 1 := by kernel_rfl
set_option maxRecDepth 100000 in
theorem open60 (h : Rep Tryd.prog w I (k + 1) 60 cs d) : ∃ (A1 : Option Addr) (c1 : Nat) (A3 : Option Addr) (c3 : Nat) (A4 : Option Addr) (c4 : Nat), cs = [.string (d.f 0).s, .slice A1 (d.f 1).l.length c1, .string ((d.f 2).f 0).s, .slice A3 ((d.f 2).f 1).l.length c3, .slice A4 (d.f 3).l.length c4] ∧ (d.f 0).s.size ≤ maxLen ∧ ((d.f 1).l.length ≤ c1 ∧ c1 ≤ maxLen ∧ (A1 = none → c1 = 0) ∧ Sl Tryd.prog w I k 196 A1 (d.f 1).l) ∧ ((d.f 2).f 0).s.size ≤ maxLen ∧ (((d.f 2).f 1).l.length ≤ c3 ∧ c3 ≤ maxLen ∧ (A3 = none → c3 = 0) ∧ Sl Tryd.prog w I k 3 A3 ((d.f 2).f 1).l) ∧ ((d.f 3).l.length ≤ c4 ∧ c4 ≤ maxLen ∧ (A4 = none → c4 = 0) ∧ Sl Tryd.prog w I k 136 A4 (d.f 3).l) := by
  obtain ⟨hl, hf⟩ := h.struct Tryd.underlying60
  rw [cells60] at hl
  match cs, hl, hf with
  | [x0, x1, x2, x3, x4], _, hf =>
    have g0 : Rep Tryd.prog w I k 9 (([x0, x1, x2, x3, x4].drop 0).take (Tryd.prog.cellsOf 9)) (d.f 0) := hf 0 _ rfl
    simp only [cells9, List.drop_zero, List.drop_succ_cons, List.take_succ_cons, List.take_zero] at g0
    obtain ⟨e0, r0⟩ := g0.str Tryd.underlying9
    have g1 : Rep Tryd.prog w I k 53 (([x0, x1, x2, x3, x4].drop 1).take (Tryd.prog.cellsOf 53)) (d.f 1) := hf 1 _ rfl
    simp only [cells53, List.drop_zero, List.drop_succ_cons, List.take_succ_cons, List.take_zero] at g1
    obtain ⟨a1, b1, e1, r1⟩ := g1.sliceAny Tryd.underlying53
    have g2 : Rep Tryd.prog w I k 58 (([x0, x1, x2, x3, x4].drop 2).take (Tryd.prog.cellsOf 58)) (d.f 2) := hf 2 _ rfl
    simp only [cells58, List.drop_zero, List.drop_succ_cons, List.take_succ_cons, List.take_zero] at g2
    obtain ⟨a2_1, b2_1, e2, r2_0, r2_1⟩ := open58_any g2
    have g3 : Rep Tryd.prog w I k 50 (([x0, x1, x2, x3, x4].drop 4).take (Tryd.prog.cellsOf 50)) (d.f 3) := hf 3 _ rfl
    simp only [cells50, List.drop_zero, List.drop_succ_cons, List.take_succ_cons, List.take_zero] at g3
    obtain ⟨a3, b3, e3, r3⟩ := g3.sliceAny Tryd.underlying50
    simp only [List.cons.injEq, and_true] at e0 e1 e2 e3
    obtain ⟨e2_0, e2_1⟩ := e2
    rw [e0, e1, e2_0, e2_1, e3]
    exact ⟨a1, b1, a2_1, b2_1, a3, b3, rfl, r0, r1, r2_0, r2_1, r3⟩
set_option maxRecDepth 100000 in
theorem open60_any (h : Rep Tryd.prog w I k 60 cs d) : ∃ (A1 : Option Addr) (c1 : Nat) (A3 : Option Addr) (c3 : Nat) (A4 : Option Addr) (c4 : Nat), cs = [.string (d.f 0).s, .slice A1 (d.f 1).l.length c1, .string ((d.f 2).f 0).s, .slice A3 ((d.f 2).f 1).l.length c3, .slice A4 (d.f 3).l.length c4] ∧ (d.f 0).s.size ≤ maxLen ∧ ((d.f 1).l.length ≤ c1 ∧ c1 ≤ maxLen ∧ (A1 = none → c1 = 0) ∧ Sl Tryd.prog w I k 196 A1 (d.f 1).l) ∧ ((d.f 2).f 0).s.size ≤ maxLen ∧ (((d.f 2).f 1).l.length ≤ c3 ∧ c3 ≤ maxLen ∧ (A3 = none → c3 = 0) ∧ Sl Tryd.prog w I k 3 A3 ((d.f 2).f 1).l) ∧ ((d.f 3).l.length ≤ c4 ∧ c4 ≤ maxLen ∧ (A4 = none → c4 = 0) ∧ Sl Tryd.prog w I k 136 A4 (d.f 3).l) := by
  cases k with
  | zero => exact h.elim
  | succ k =>
    obtain ⟨A1, c1, A3, c3, A4, c4, rfl, r0, ⟨s1a, s1b, s1c, s1⟩, r2, ⟨s3a, s3b, s3c, s3⟩, ⟨s4a, s4b, s4c, s4⟩⟩ := open60 h
    exact ⟨A1, c1, A3, c3, A4, c4, rfl, r0, ⟨s1a, s1b, s1c, s1.up⟩, r2, ⟨s3a, s3b, s3c, s3.up⟩, ⟨s4a, s4b, s4c, s4.up⟩⟩
theorem cells51 : Tryd.prog.cellsOf 51 = 1 := by kernel_rfl
theorem cells52 : Tryd.prog.cellsOf 52 = 1 := by kernel_rfl
set_option maxRecDepth 100000 in
theorem open55 (h : Rep Tryd.prog w I (k + 1) 55 cs d) : ∃ (A2 : Option Addr) (c2 : Nat) (A3 : Option Addr) (c3 : Nat) (A4 : Option Addr) (c4 : Nat) (A5 : Option Addr) (c5 : Nat) (A6 : Option Addr) (c6 : Nat), cs = [.int .i64 (d.f 0).n, .string (d.f 1).s, .slice A2 (d.f 2).l.length c2, .slice A3 (d.f 3).l.length c3, .slice A4 (d.f 4).l.length c4, .slice A5 (d.f 5).l.length c5, .slice A6 (d.f 6).l.length c6] ∧ (Lit.int .i64 (d.f 0).n).wf = true ∧ (d.f 1).s.size ≤ maxLen ∧ ((d.f 2).l.length ≤ c2 ∧ c2 ≤ maxLen ∧ (A2 = none → c2 = 0) ∧ Sl Tryd.prog w I k 9 A2 (d.f 2).l) ∧ ((d.f 3).l.length ≤ c3 ∧ c3 ≤ maxLen ∧ (A3 = none → c3 = 0) ∧ Sl Tryd.prog w I k 136 A3 (d.f 3).l) ∧ ((d.f 4).l.length ≤ c4 ∧ c4 ≤ maxLen ∧ (A4 = none → c4 = 0) ∧ Sl Tryd.prog w I k 60 A4 (d.f 4).l) ∧ ((d.f 5).l.length ≤ c5 ∧ c5 ≤ maxLen ∧ (A5 = none → c5 = 0) ∧ Sl Tryd.prog w I k 194 A5 (d.f 5).l) ∧ ((d.f 6).l.length ≤ c6 ∧ c6 ≤ maxLen ∧ (A6 = none → c6 = 0) ∧ Sl Tryd.prog w I k 196 A6 (d.f 6).l) := by
  obtain ⟨hl, hf⟩ := h.struct Tryd.underlying55
  rw [cells55] at hl
  match cs, hl, hf with
  | [x0, x1, x2, x3, x4, x5, x6], _, hf =>
    have g0 : Rep Tryd.prog w I k 3 (([x0, x1, x2, x3, x4, x5, x6].drop 0).take (Tryd.prog.cellsOf 3)) (d.f 0) := hf 0 _ rfl
    simp only [cells3, List.drop_zero, List.drop_succ_cons, List.take_succ_cons, List.take_zero] at g0
    obtain ⟨e0, r0⟩ := g0.int Tryd.underlying3
    have g1 : Rep Tryd.prog w I k 9 (([x0, x1, x2, x3, x4, x5, x6].drop 1).take (Tryd.prog.cellsOf 9)) (d.f 1) := hf 1 _ rfl
    simp only [cells9, List.drop_zero, List.drop_succ_cons, List.take_succ_cons, List.take_zero] at g1
    obtain ⟨e1, r1⟩ := g1.str Tryd.underlying9
    have g2 : Rep Tryd.prog w I k 37 (([x0, x1, x2, x3, x4, x5, x6].drop 2).take (Tryd.prog.cellsOf 37)) (d.f 2) := hf 2 _ rfl
    simp only [cells37, List.drop_zero, List.drop_succ_cons, List.take_succ_cons, List.take_zero] at g2
    obtain ⟨a2, b2, e2, r2⟩ := g2.sliceAny Tryd.underlying37
    have g3 : Rep Tryd.prog w I k 50 (([x0, x1, x2, x3, x4, x5, x6].drop 3).take (Tryd.prog.cellsOf 50)) (d.f 3) := hf 3 _ rfl
    simp only [cells50, List.drop_zero, List.drop_succ_cons, List.take_succ_cons, List.take_zero] at g3
    obtain ⟨a3, b3, e3, r3⟩ := g3.sliceAny Tryd.underlying50
    have g4 : Rep Tryd.prog w I k 51 (([x0, x1, x2, x3, x4, x5, x6].drop 4).take (Tryd.prog.cellsOf 51)) (d.f 4) := hf 4 _ rfl
    simp only [cells51, List.drop_zero, List.drop_succ_cons, List.take_succ_cons, List.take_zero] at g4
    obtain ⟨a4, b4, e4, r4⟩ := g4.sliceAny Tryd.underlying51
    have g5 : Rep Tryd.prog w I k 52 (([x0, x1, x2, x3, x4, x5, x6].drop 5).take (Tryd.prog.cellsOf 52)) (d.f 5) := hf 5 _ rfl
    simp only [cells52, List.drop_zero, List.drop_succ_cons, List.take_succ_cons, List.take_zero] at g5
    obtain ⟨a5, b5, e5, r5⟩ := g5.sliceAny Tryd.underlying52
    have g6 : Rep Tryd.prog w I k 53 (([x0, x1, x2, x3, x4, x5, x6].drop 6).take (Tryd.prog.cellsOf 53)) (d.f 6) := hf 6 _ rfl
    simp only [cells53, List.drop_zero, List.drop_succ_cons, List.take_succ_cons, List.take_zero] at g6
    obtain ⟨a6, b6, e6, r6⟩ := g6.sliceAny Tryd.underlying53
    simp only [List.cons.injEq, and_true] at e0 e1 e2 e3 e4 e5 e6
    rw [e0, e1, e2, e3, e4, e5, e6]
    exact ⟨a2, b2, a3, b3, a4, b4, a5, b5, a6, b6, rfl, r0, r1, r2, r3, r4, r5, r6⟩
set_option maxRecDepth 100000 in
theorem open55_any (h : Rep Tryd.prog w I k 55 cs d) : ∃ (A2 : Option Addr) (c2 : Nat) (A3 : Option Addr) (c3 : Nat) (A4 : Option Addr) (c4 : Nat) (A5 : Option Addr) (c5 : Nat) (A6 : Option Addr) (c6 : Nat), cs = [.int .i64 (d.f 0).n, .string (d.f 1).s, .slice A2 (d.f 2).l.length c2, .slice A3 (d.f 3).l.length c3, .slice A4 (d.f 4).l.length c4, .slice A5 (d.f 5).l.length c5, .slice A6 (d.f 6).l.length c6] ∧ (Lit.int .i64 (d.f 0).n).wf = true ∧ (d.f 1).s.size ≤ maxLen ∧ ((d.f 2).l.length ≤ c2 ∧ c2 ≤ maxLen ∧ (A2 = none → c2 = 0) ∧ Sl Tryd.prog w I k 9 A2 (d.f 2).l) ∧ ((d.f 3).l.length ≤ c3 ∧ c3 ≤ maxLen ∧ (A3 = none → c3 = 0) ∧ Sl Tryd.prog w I k 136 A3 (d.f 3).l) ∧ ((d.f 4).l.length ≤ c4 ∧ c4 ≤ maxLen ∧ (A4 = none → c4 = 0) ∧ Sl Tryd.prog w I k 60 A4 (d.f 4).l) ∧ ((d.f 5).l.length ≤ c5 ∧ c5 ≤ maxLen ∧ (A5 = none → c5 = 0) ∧ Sl Tryd.prog w I k 194 A5 (d.f 5).l) ∧ ((d.f 6).l.length ≤ c6 ∧ c6 ≤ maxLen ∧ (A6 = none → c6 = 0) ∧ Sl Tryd.prog w I k 196 A6 (d.f 6).l) := by
  cases k with
  | zero => exact h.elim
  | succ k =>
    obtain ⟨A2, c2, A3, c3, A4, c4, A5, c5, A6, c6, rfl, r0, r1, ⟨s2a, s2b, s2c, s2⟩, ⟨s3a, s3b, s3c, s3⟩, ⟨s4a, s4b, s4c, s4⟩, ⟨s5a, s5b, s5c, s5⟩, ⟨s6a, s6b, s6c, s6⟩⟩ := open55 h
    exact ⟨A2, c2, A3, c3, A4, c4, A5, c5, A6, c6, rfl, r0, r1, ⟨s2a, s2b, s2c, s2.up⟩, ⟨s3a, s3b, s3c, s3.up⟩, ⟨s4a, s4b, s4c, s4.up⟩, ⟨s5a, s5b, s5c, s5.up⟩, ⟨s6a, s6b, s6c, s6.up⟩⟩
end Go.Proofs.YtjhjleanihgopaaDoor
namespace Go.Proofs.YtjhjleanihgopaaDoor
open Go.RowKit
/-- the cells cs, of type T, read as d -/
def Rv (w : World) (T : TypeId) (cs : Array Value) (d : D) : Prop := ∃ k, Rep Tryd.prog w (fun b => b < w.heap.size) k T cs.toList d
/-- the slice at A reads as l, its elements of type e -/
def Rs (w : World) (e : TypeId) (A : Option Addr) (l : List D) : Prop := ∃ k, Sl Tryd.prog w (fun b => b < w.heap.size) k e A l
theorem Rs.nil (w : World) (e : TypeId) (A : Option Addr) : Rs w e A [] := ⟨0, Sl.nil _ _ _⟩
theorem wfr {n : Int} (h : (Lit.int .i64 n).wf = true) : -9223372036854775808 ≤ n ∧ n ≤ 9223372036854775807 := by
  simp only [Lit.wf, Bool.and_eq_true, decide_eq_true_eq] at h
  obtain ⟨h1, h2⟩ := h
  have h3 : (n : Int) < 9223372036854775808 := Int.lt_of_le_of_lt h2 (by decide)
  exact ⟨Int.le_trans (by decide) h1, by omega⟩
theorem Rep.z_int {P : Program} {w : World} {I : Nat → Prop} {k : Nat} {t : TypeId} (ht : P.underlying t = some (.int .i64)) : Rep P w I (k + 1) t [.int .i64 0] default := by
  unfold Rep; rw [ht]; exact ⟨rfl, by decide⟩
theorem Rep.z_string {P : Program} {w : World} {I : Nat → Prop} {k : Nat} {t : TypeId} (ht : P.underlying t = some .string) : Rep P w I (k + 1) t [.string ⟨#[]⟩] default := by
  unfold Rep; rw [ht]; exact ⟨rfl, by decide⟩
theorem Rep.z_slice {P : Program} {w : World} {I : Nat → Prop} {k : Nat} {t e : TypeId} (ht : P.underlying t = some (.slice e)) : Rep P w I (k + 1) t [.slice none 0 0] default := by
  unfold Rep; rw [ht]; exact ⟨none, 0, rfl, Nat.le_refl _, by decide, fun _ => rfl, fun h => absurd h (by decide)⟩
def In24 (w : World) (cs : Array Value) (d : D) : Prop := ∃ (A0 : Option Addr) (c0 : Nat), cs = #[.slice A0 (d.f 0).l.length c0] ∧ ((d.f 0).l.length ≤ c0 ∧ c0 ≤ maxLen ∧ (A0 = none → c0 = 0) ∧ Rs w 55 A0 (d.f 0).l)
set_option maxRecDepth 100000 in
theorem in24 {w : World} {cs : Array Value} {d : D} (h : Rv w 24 cs d) : In24 w cs d := by
  obtain ⟨k, h⟩ := h
  obtain ⟨A0, c0, e, ⟨s0a, s0b, s0c, s0⟩⟩ := open24_any h
  exact ⟨A0, c0, Array.ext' e, ⟨s0a, s0b, s0c, ⟨_, s0⟩⟩⟩
def In39 (w : World) (cs : Array Value) (d : D) : Prop := ∃ (A3 : Option Addr) (c3 : Nat) (A4 : Option Addr) (c4 : Nat), cs = #[.int .i64 (d.f 0).n, .int .i64 (d.f 1).n, .string (d.f 2).s, .slice A3 (d.f 3).l.length c3, .slice A4 (d.f 4).l.length c4] ∧ (-9223372036854775808 ≤ (d.f 0).n ∧ (d.f 0).n ≤ 9223372036854775807) ∧ (-9223372036854775808 ≤ (d.f 1).n ∧ (d.f 1).n ≤ 9223372036854775807) ∧ (d.f 2).s.size ≤ maxLen ∧ ((d.f 3).l.length ≤ c3 ∧ c3 ≤ maxLen ∧ (A3 = none → c3 = 0) ∧ Rs w 39 A3 (d.f 3).l) ∧ ((d.f 4).l.length ≤ c4 ∧ c4 ≤ maxLen ∧ (A4 = none → c4 = 0) ∧ Rs w 9 A4 (d.f 4).l)
set_option maxRecDepth 100000 in
theorem in39 {w : World} {cs : Array Value} {d : D} (h : Rv w 39 cs d) : In39 w cs d := by
  obtain ⟨k, h⟩ := h
  obtain ⟨A3, c3, A4, c4, e, r0, r1, r2, ⟨s3a, s3b, s3c, s3⟩, ⟨s4a, s4b, s4c, s4⟩⟩ := open39_any h
  exact ⟨A3, c3, A4, c4, Array.ext' e, wfr r0, wfr r1, r2, ⟨s3a, s3b, s3c, ⟨_, s3⟩⟩, ⟨s4a, s4b, s4c, ⟨_, s4⟩⟩⟩
set_option maxRecDepth 100000 in
theorem zero39 {w : World} {I : Nat → Prop} (k : Nat) : Rep Tryd.prog w I (k + 3) 39 [.int .i64 0, .int .i64 0, .string ⟨#[]⟩, .slice none 0 0, .slice none 0 0] default := by
  refine Rep.mk_struct (ds := []) Tryd.underlying39 (by rw [cells39]; rfl) fun j f hf => ?_
  match j, hf with
  | 0, hf =>
    obtain rfl := Option.some.inj hf
    show Rep Tryd.prog w I (k + 2) 3 (([.int .i64 0, .int .i64 0, .string ⟨#[]⟩, .slice none 0 0, .slice none 0 0].drop 0).take (Tryd.prog.cellsOf 3)) default
    rw [cells3]
    exact Rep.z_int Tryd.underlying3
  | 1, hf =>
    obtain rfl := Option.some.inj hf
    show Rep Tryd.prog w I (k + 2) 3 (([.int .i64 0, .int .i64 0, .string ⟨#[]⟩, .slice none 0 0, .slice none 0 0].drop 1).take (Tryd.prog.cellsOf 3)) default
    rw [cells3]
    exact Rep.z_int Tryd.underlying3
  | 2, hf =>
    obtain rfl := Option.some.inj hf
    show Rep Tryd.prog w I (k + 2) 9 (([.int .i64 0, .int .i64 0, .string ⟨#[]⟩, .slice none 0 0, .slice none 0 0].drop 2).take (Tryd.prog.cellsOf 9)) default
    rw [cells9]
    exact Rep.z_string Tryd.underlying9
  | 3, hf =>
    obtain rfl := Option.some.inj hf
    show Rep Tryd.prog w I (k + 2) 36 (([.int .i64 0, .int .i64 0, .string ⟨#[]⟩, .slice none 0 0, .slice none 0 0].drop 3).take (Tryd.prog.cellsOf 36)) default
    rw [cells36]
    exact Rep.z_slice Tryd.underlying36
  | 4, hf =>
    obtain rfl := Option.some.inj hf
    show Rep Tryd.prog w I (k + 2) 37 (([.int .i64 0, .int .i64 0, .string ⟨#[]⟩, .slice none 0 0, .slice none 0 0].drop 4).take (Tryd.prog.cellsOf 37)) default
    rw [cells37]
    exact Rep.z_slice Tryd.underlying37
  | n + 5, hf => simp at hf
set_option maxRecDepth 100000 in
theorem rv_zero39 (w : World) : Rv w 39 #[.int .i64 0, .int .i64 0, .string ⟨#[]⟩, .slice none 0 0, .slice none 0 0] default := ⟨3, zero39 0⟩
set_option maxRecDepth 100000 in
theorem zero58' {w : World} {I : Nat → Prop} (k : Nat) : Rep Tryd.prog w I (k + 2) 58 [.string ⟨#[]⟩, .slice none 0 0] default := by
  refine Rep.mk_struct (ds := []) Tryd.underlying58 (by rw [cells58]; rfl) fun j f hf => ?_
  match j, hf with
  | 0, hf =>
    obtain rfl := Option.some.inj hf
    show Rep Tryd.prog w I (k + 1) 9 (([.string ⟨#[]⟩, .slice none 0 0].drop 0).take (Tryd.prog.cellsOf 9)) default
    rw [cells9]
    exact Rep.z_string Tryd.underlying9
  | 1, hf =>
    obtain rfl := Option.some.inj hf
    show Rep Tryd.prog w I (k + 1) 56 (([.string ⟨#[]⟩, .slice none 0 0].drop 1).take (Tryd.prog.cellsOf 56)) default
    rw [cells56]
    exact Rep.z_slice Tryd.underlying56
  | n + 2, hf => simp at hf
def At155 (w : World) (b o : Nat) (d : D) : Prop := ∃ (A4 : Option Addr) (c4 : Nat) (A5 : Option Addr) (c5 : Nat), w.cell? ⟨b, o, none⟩ = some (.string (d.f 0).s) ∧ w.cell? ⟨b, o + 1, none⟩ = some (.int .i64 ((d.f 1).f 0).n) ∧ w.cell? ⟨b, o + 2, none⟩ = some (.int .i64 ((d.f 1).f 1).n) ∧ w.cell? ⟨b, o + 3, none⟩ = some (.string ((d.f 1).f 2).s) ∧ w.cell? ⟨b, o + 4, none⟩ = some (.slice A4 ((d.f 1).f 3).l.length c4) ∧ w.cell? ⟨b, o + 5, none⟩ = some (.slice A5 ((d.f 1).f 4).l.length c5) ∧ (d.f 0).s.size ≤ maxLen ∧ (-9223372036854775808 ≤ ((d.f 1).f 0).n ∧ ((d.f 1).f 0).n ≤ 9223372036854775807) ∧ (-9223372036854775808 ≤ ((d.f 1).f 1).n ∧ ((d.f 1).f 1).n ≤ 9223372036854775807) ∧ ((d.f 1).f 2).s.size ≤ maxLen ∧ (((d.f 1).f 3).l.length ≤ c4 ∧ c4 ≤ maxLen ∧ (A4 = none → c4 = 0) ∧ Rs w 39 A4 ((d.f 1).f 3).l) ∧ (((d.f 1).f 4).l.length ≤ c5 ∧ c5 ≤ maxLen ∧ (A5 = none → c5 = 0) ∧ Rs w 9 A5 ((d.f 1).f 4).l) ∧ Rv w 155 #[.string (d.f 0).s, .int .i64 ((d.f 1).f 0).n, .int .i64 ((d.f 1).f 1).n, .string ((d.f 1).f 2).s, .slice A4 ((d.f 1).f 3).l.length c4, .slice A5 ((d.f 1).f 4).l.length c5] d
set_option maxRecDepth 100000 in
theorem at155 {w : World} {A : Option Addr} {l : List D} (h : Rs w 155 A l) (hp : 0 < l.length) : ∃ b off, A = some ⟨b, off, none⟩ ∧ b < w.heap.size ∧ ∀ i, i < l.length → At155 w b (off + i * 6) (gD l i) := by
  obtain ⟨k, h⟩ := h
  obtain ⟨b, off, hA, hb, hi⟩ := h hp (by rw [cells155]; omega)
  refine ⟨b, off, hA, hb, fun i hil => ?_⟩
  obtain ⟨ys, y1, y2, y3⟩ := hi i hil
  rw [cells155] at y2
  have y4 : Rv w 155 ys.toArray (gD l i) := ⟨k, by simpa using y3⟩
  obtain ⟨A4, c4, A5, c5, rfl, r0, r1, r2, r3, ⟨s4a, s4b, s4c, s4⟩, ⟨s5a, s5b, s5c, s5⟩⟩ := open155_any y3
  exact ⟨A4, c4, A5, c5, y2 0 _ rfl, y2 1 _ rfl, y2 2 _ rfl, y2 3 _ rfl, y2 4 _ rfl, y2 5 _ rfl, r0, wfr r1, wfr r2, r3, ⟨s4a, s4b, s4c, ⟨_, s4⟩⟩, ⟨s5a, s5b, s5c, ⟨_, s5⟩⟩, y4⟩
def At136 (w : World) (b o : Nat) (d : D) : Prop := ∃ (A1 : Option Addr) (c1 : Nat), w.cell? ⟨b, o, none⟩ = some (.string (d.f 0).s) ∧ w.cell? ⟨b, o + 1, none⟩ = some (.slice A1 (d.f 1).l.length c1) ∧ (d.f 0).s.size ≤ maxLen ∧ ((d.f 1).l.length ≤ c1 ∧ c1 ≤ maxLen ∧ (A1 = none → c1 = 0) ∧ Rs w 155 A1 (d.f 1).l) ∧ Rv w 136 #[.string (d.f 0).s, .slice A1 (d.f 1).l.length c1] d
set_option maxRecDepth 100000 in
theorem at136 {w : World} {A : Option Addr} {l : List D} (h : Rs w 136 A l) (hp : 0 < l.length) : ∃ b off, A = some ⟨b, off, none⟩ ∧ b < w.heap.size ∧ ∀ i, i < l.length → At136 w b (off + i * 2) (gD l i) := by
  obtain ⟨k, h⟩ := h
  obtain ⟨b, off, hA, hb, hi⟩ := h hp (by rw [cells136]; omega)
  refine ⟨b, off, hA, hb, fun i hil => ?_⟩
  obtain ⟨ys, y1, y2, y3⟩ := hi i hil
  rw [cells136] at y2
  have y4 : Rv w 136 ys.toArray (gD l i) := ⟨k, by simpa using y3⟩
  obtain ⟨A1, c1, rfl, r0, ⟨s1a, s1b, s1c, s1⟩⟩ := open136_any y3
  exact ⟨A1, c1, y2 0 _ rfl, y2 1 _ rfl, r0, ⟨s1a, s1b, s1c, ⟨_, s1⟩⟩, y4⟩
def In60 (w : World) (cs : Array Value) (d : D) : Prop := ∃ (A1 : Option Addr) (c1 : Nat) (A3 : Option Addr) (c3 : Nat) (A4 : Option Addr) (c4 : Nat), cs = #[.string (d.f 0).s, .slice A1 (d.f 1).l.length c1, .string ((d.f 2).f 0).s, .slice A3 ((d.f 2).f 1).l.length c3, .slice A4 (d.f 3).l.length c4] ∧ (d.f 0).s.size ≤ maxLen ∧ ((d.f 1).l.length ≤ c1 ∧ c1 ≤ maxLen ∧ (A1 = none → c1 = 0) ∧ Rs w 196 A1 (d.f 1).l) ∧ ((d.f 2).f 0).s.size ≤ maxLen ∧ (((d.f 2).f 1).l.length ≤ c3 ∧ c3 ≤ maxLen ∧ (A3 = none → c3 = 0) ∧ Rs w 3 A3 ((d.f 2).f 1).l) ∧ ((d.f 3).l.length ≤ c4 ∧ c4 ≤ maxLen ∧ (A4 = none → c4 = 0) ∧ Rs w 136 A4 (d.f 3).l)
def At60 (w : World) (b o : Nat) (d : D) : Prop := ∃ (A1 : Option Addr) (c1 : Nat) (A3 : Option Addr) (c3 : Nat) (A4 : Option Addr) (c4 : Nat), w.cell? ⟨b, o, none⟩ = some (.string (d.f 0).s) ∧ w.cell? ⟨b, o + 1, none⟩ = some (.slice A1 (d.f 1).l.length c1) ∧ w.cell? ⟨b, o + 2, none⟩ = some (.string ((d.f 2).f 0).s) ∧ w.cell? ⟨b, o + 3, none⟩ = some (.slice A3 ((d.f 2).f 1).l.length c3) ∧ w.cell? ⟨b, o + 4, none⟩ = some (.slice A4 (d.f 3).l.length c4) ∧ (d.f 0).s.size ≤ maxLen ∧ ((d.f 1).l.length ≤ c1 ∧ c1 ≤ maxLen ∧ (A1 = none → c1 = 0) ∧ Rs w 196 A1 (d.f 1).l) ∧ ((d.f 2).f 0).s.size ≤ maxLen ∧ (((d.f 2).f 1).l.length ≤ c3 ∧ c3 ≤ maxLen ∧ (A3 = none → c3 = 0) ∧ Rs w 3 A3 ((d.f 2).f 1).l) ∧ ((d.f 3).l.length ≤ c4 ∧ c4 ≤ maxLen ∧ (A4 = none → c4 = 0) ∧ Rs w 136 A4 (d.f 3).l) ∧ Rv w 60 #[.string (d.f 0).s, .slice A1 (d.f 1).l.length c1, .string ((d.f 2).f 0).s, .slice A3 ((d.f 2).f 1).l.length c3, .slice A4 (d.f 3).l.length c4] d
set_option maxRecDepth 100000 in
theorem in60 {w : World} {cs : Array Value} {d : D} (h : Rv w 60 cs d) : In60 w cs d := by
  obtain ⟨k, h⟩ := h
  obtain ⟨A1, c1, A3, c3, A4, c4, e, r0, ⟨s1a, s1b, s1c, s1⟩, r2, ⟨s3a, s3b, s3c, s3⟩, ⟨s4a, s4b, s4c, s4⟩⟩ := open60_any h
  exact ⟨A1, c1, A3, c3, A4, c4, Array.ext' e, r0, ⟨s1a, s1b, s1c, ⟨_, s1⟩⟩, r2, ⟨s3a, s3b, s3c, ⟨_, s3⟩⟩, ⟨s4a, s4b, s4c, ⟨_, s4⟩⟩⟩
set_option maxRecDepth 100000 in
theorem at60 {w : World} {A : Option Addr} {l : List D} (h : Rs w 60 A l) (hp : 0 < l.length) : ∃ b off, A = some ⟨b, off, none⟩ ∧ b < w.heap.size ∧ ∀ i, i < l.length → At60 w b (off + i * 5) (gD l i) := by
  obtain ⟨k, h⟩ := h
  obtain ⟨b, off, hA, hb, hi⟩ := h hp (by rw [cells60]; omega)
  refine ⟨b, off, hA, hb, fun i hil => ?_⟩
  obtain ⟨ys, y1, y2, y3⟩ := hi i hil
  rw [cells60] at y2
  have y4 : Rv w 60 ys.toArray (gD l i) := ⟨k, by simpa using y3⟩
  obtain ⟨A1, c1, A3, c3, A4, c4, rfl, r0, ⟨s1a, s1b, s1c, s1⟩, r2, ⟨s3a, s3b, s3c, s3⟩, ⟨s4a, s4b, s4c, s4⟩⟩ := open60_any y3
  exact ⟨A1, c1, A3, c3, A4, c4, y2 0 _ rfl, y2 1 _ rfl, y2 2 _ rfl, y2 3 _ rfl, y2 4 _ rfl, r0, ⟨s1a, s1b, s1c, ⟨_, s1⟩⟩, r2, ⟨s3a, s3b, s3c, ⟨_, s3⟩⟩, ⟨s4a, s4b, s4c, ⟨_, s4⟩⟩, y4⟩
set_option maxRecDepth 100000 in
theorem zero60 {w : World} {I : Nat → Prop} (k : Nat) : Rep Tryd.prog w I (k + 3) 60 [.string ⟨#[]⟩, .slice none 0 0, .string ⟨#[]⟩, .slice none 0 0, .slice none 0 0] default := by
  refine Rep.mk_struct (ds := []) Tryd.underlying60 (by rw [cells60]; rfl) fun j f hf => ?_
  match j, hf with
  | 0, hf =>
    obtain rfl := Option.some.inj hf
    show Rep Tryd.prog w I (k + 2) 9 (([.string ⟨#[]⟩, .slice none 0 0, .string ⟨#[]⟩, .slice none 0 0, .slice none 0 0].drop 0).take (Tryd.prog.cellsOf 9)) default
    rw [cells9]
    exact Rep.z_string Tryd.underlying9
  | 1, hf =>
    obtain rfl := Option.some.inj hf
    show Rep Tryd.prog w I (k + 2) 53 (([.string ⟨#[]⟩, .slice none 0 0, .string ⟨#[]⟩, .slice none 0 0, .slice none 0 0].drop 1).take (Tryd.prog.cellsOf 53)) default
    rw [cells53]
    exact Rep.z_slice Tryd.underlying53
  | 2, hf =>
    obtain rfl := Option.some.inj hf
    show Rep Tryd.prog w I (k + 2) 58 (([.string ⟨#[]⟩, .slice none 0 0, .string ⟨#[]⟩, .slice none 0 0, .slice none 0 0].drop 2).take (Tryd.prog.cellsOf 58)) default
    rw [cells58]
    exact zero58' k
  | 3, hf =>
    obtain rfl := Option.some.inj hf
    show Rep Tryd.prog w I (k + 2) 50 (([.string ⟨#[]⟩, .slice none 0 0, .string ⟨#[]⟩, .slice none 0 0, .slice none 0 0].drop 4).take (Tryd.prog.cellsOf 50)) default
    rw [cells50]
    exact Rep.z_slice Tryd.underlying50
  | n + 4, hf => simp at hf
set_option maxRecDepth 100000 in
theorem rv_zero60 (w : World) : Rv w 60 #[.string ⟨#[]⟩, .slice none 0 0, .string ⟨#[]⟩, .slice none 0 0, .slice none 0 0] default := ⟨3, zero60 0⟩
def In55 (w : World) (cs : Array Value) (d : D) : Prop := ∃ (A2 : Option Addr) (c2 : Nat) (A3 : Option Addr) (c3 : Nat) (A4 : Option Addr) (c4 : Nat) (A5 : Option Addr) (c5 : Nat) (A6 : Option Addr) (c6 : Nat), cs = #[.int .i64 (d.f 0).n, .string (d.f 1).s, .slice A2 (d.f 2).l.length c2, .slice A3 (d.f 3).l.length c3, .slice A4 (d.f 4).l.length c4, .slice A5 (d.f 5).l.length c5, .slice A6 (d.f 6).l.length c6] ∧ (-9223372036854775808 ≤ (d.f 0).n ∧ (d.f 0).n ≤ 9223372036854775807) ∧ (d.f 1).s.size ≤ maxLen ∧ ((d.f 2).l.length ≤ c2 ∧ c2 ≤ maxLen ∧ (A2 = none → c2 = 0) ∧ Rs w 9 A2 (d.f 2).l) ∧ ((d.f 3).l.length ≤ c3 ∧ c3 ≤ maxLen ∧ (A3 = none → c3 = 0) ∧ Rs w 136 A3 (d.f 3).l) ∧ ((d.f 4).l.length ≤ c4 ∧ c4 ≤ maxLen ∧ (A4 = none → c4 = 0) ∧ Rs w 60 A4 (d.f 4).l) ∧ ((d.f 5).l.length ≤ c5 ∧ c5 ≤ maxLen ∧ (A5 = none → c5 = 0) ∧ Rs w 194 A5 (d.f 5).l) ∧ ((d.f 6).l.length ≤ c6 ∧ c6 ≤ maxLen ∧ (A6 = none → c6 = 0) ∧ Rs w 196 A6 (d.f 6).l)
def At55 (w : World) (b o : Nat) (d : D) : Prop := ∃ (A2 : Option Addr) (c2 : Nat) (A3 : Option Addr) (c3 : Nat) (A4 : Option Addr) (c4 : Nat) (A5 : Option Addr) (c5 : Nat) (A6 : Option Addr) (c6 : Nat), w.cell? ⟨b, o, none⟩ = some (.int .i64 (d.f 0).n) ∧ w.cell? ⟨b, o + 1, none⟩ = some (.string (d.f 1).s) ∧ w.cell? ⟨b, o + 2, none⟩ = some (.slice A2 (d.f 2).l.length c2) ∧ w.cell? ⟨b, o + 3, none⟩ = some (.slice A3 (d.f 3).l.length c3) ∧ w.cell? ⟨b, o + 4, none⟩ = some (.slice A4 (d.f 4).l.length c4) ∧ w.cell? ⟨b, o + 5, none⟩ = some (.slice A5 (d.f 5).l.length c5) ∧ w.cell? ⟨b, o + 6, none⟩ = some (.slice A6 (d.f 6).l.length c6) ∧ (-9223372036854775808 ≤ (d.f 0).n ∧ (d.f 0).n ≤ 9223372036854775807) ∧ (d.f 1).s.size ≤ maxLen ∧ ((d.f 2).l.length ≤ c2 ∧ c2 ≤ maxLen ∧ (A2 = none → c2 = 0) ∧ Rs w 9 A2 (d.f 2).l) ∧ ((d.f 3).l.length ≤ c3 ∧ c3 ≤ maxLen ∧ (A3 = none → c3 = 0) ∧ Rs w 136 A3 (d.f 3).l) ∧ ((d.f 4).l.length ≤ c4 ∧ c4 ≤ maxLen ∧ (A4 = none → c4 = 0) ∧ Rs w 60 A4 (d.f 4).l) ∧ ((d.f 5).l.length ≤ c5 ∧ c5 ≤ maxLen ∧ (A5 = none → c5 = 0) ∧ Rs w 194 A5 (d.f 5).l) ∧ ((d.f 6).l.length ≤ c6 ∧ c6 ≤ maxLen ∧ (A6 = none → c6 = 0) ∧ Rs w 196 A6 (d.f 6).l) ∧ Rv w 55 #[.int .i64 (d.f 0).n, .string (d.f 1).s, .slice A2 (d.f 2).l.length c2, .slice A3 (d.f 3).l.length c3, .slice A4 (d.f 4).l.length c4, .slice A5 (d.f 5).l.length c5, .slice A6 (d.f 6).l.length c6] d
set_option maxRecDepth 100000 in
theorem in55 {w : World} {cs : Array Value} {d : D} (h : Rv w 55 cs d) : In55 w cs d := by
  obtain ⟨k, h⟩ := h
  obtain ⟨A2, c2, A3, c3, A4, c4, A5, c5, A6, c6, e, r0, r1, ⟨s2a, s2b, s2c, s2⟩, ⟨s3a, s3b, s3c, s3⟩, ⟨s4a, s4b, s4c, s4⟩, ⟨s5a, s5b, s5c, s5⟩, ⟨s6a, s6b, s6c, s6⟩⟩ := open55_any h
  exact ⟨A2, c2, A3, c3, A4, c4, A5, c5, A6, c6, Array.ext' e, wfr r0, r1, ⟨s2a, s2b, s2c, ⟨_, s2⟩⟩, ⟨s3a, s3b, s3c, ⟨_, s3⟩⟩, ⟨s4a, s4b, s4c, ⟨_, s4⟩⟩, ⟨s5a, s5b, s5c, ⟨_, s5⟩⟩, ⟨s6a, s6b, s6c, ⟨_, s6⟩⟩⟩
set_option maxRecDepth 100000 in
theorem at55 {w : World} {A : Option Addr} {l : List D} (h : Rs w 55 A l) (hp : 0 < l.length) : ∃ b off, A = some ⟨b, off, none⟩ ∧ b < w.heap.size ∧ ∀ i, i < l.length → At55 w b (off + i * 7) (gD l i) := by
  obtain ⟨k, h⟩ := h
  obtain ⟨b, off, hA, hb, hi⟩ := h hp (by rw [cells55]; omega)
  refine ⟨b, off, hA, hb, fun i hil => ?_⟩
  obtain ⟨ys, y1, y2, y3⟩ := hi i hil
  rw [cells55] at y2
  have y4 : Rv w 55 ys.toArray (gD l i) := ⟨k, by simpa using y3⟩
  obtain ⟨A2, c2, A3, c3, A4, c4, A5, c5, A6, c6, rfl, r0, r1, ⟨s2a, s2b, s2c, s2⟩, ⟨s3a, s3b, s3c, s3⟩, ⟨s4a, s4b, s4c, s4⟩, ⟨s5a, s5b, s5c, s5⟩, ⟨s6a, s6b, s6c, s6⟩⟩ := open55_any y3
  exact ⟨A2, c2, A3, c3, A4, c4, A5, c5, A6, c6, y2 0 _ rfl, y2 1 _ rfl, y2 2 _ rfl, y2 3 _ rfl, y2 4 _ rfl, y2 5 _ rfl, y2 6 _ rfl, wfr r0, r1, ⟨s2a, s2b, s2c, ⟨_, s2⟩⟩, ⟨s3a, s3b, s3c, ⟨_, s3⟩⟩, ⟨s4a, s4b, s4c, ⟨_, s4⟩⟩, ⟨s5a, s5b, s5c, ⟨_, s5⟩⟩, ⟨s6a, s6b, s6c, ⟨_, s6⟩⟩, y4⟩
set_option maxRecDepth 100000 in
theorem zero55 {w : World} {I : Nat → Prop} (k : Nat) : Rep Tryd.prog w I (k + 3) 55 [.int .i64 0, .string ⟨#[]⟩, .slice none 0 0, .slice none 0 0, .slice none 0 0, .slice none 0 0, .slice none 0 0] default := by
  refine Rep.mk_struct (ds := []) Tryd.underlying55 (by rw [cells55]; rfl) fun j f hf => ?_
  match j, hf with
  | 0, hf =>
    obtain rfl := Option.some.inj hf
    show Rep Tryd.prog w I (k + 2) 3 (([.int .i64 0, .string ⟨#[]⟩, .slice none 0 0, .slice none 0 0, .slice none 0 0, .slice none 0 0, .slice none 0 0].drop 0).take (Tryd.prog.cellsOf 3)) default
    rw [cells3]
    exact Rep.z_int Tryd.underlying3
  | 1, hf =>
    obtain rfl := Option.some.inj hf
    show Rep Tryd.prog w I (k + 2) 9 (([.int .i64 0, .string ⟨#[]⟩, .slice none 0 0, .slice none 0 0, .slice none 0 0, .slice none 0 0, .slice none 0 0].drop 1).take (Tryd.prog.cellsOf 9)) default
    rw [cells9]
    exact Rep.z_string Tryd.underlying9
  | 2, hf =>
    obtain rfl := Option.some.inj hf
    show Rep Tryd.prog w I (k + 2) 37 (([.int .i64 0, .string ⟨#[]⟩, .slice none 0 0, .slice none 0 0, .slice none 0 0, .slice none 0 0, .slice none 0 0].drop 2).take (Tryd.prog.cellsOf 37)) default
    rw [cells37]
    exact Rep.z_slice Tryd.underlying37
  | 3, hf =>
    obtain rfl := Option.some.inj hf
    show Rep Tryd.prog w I (k + 2) 50 (([.int .i64 0, .string ⟨#[]⟩, .slice none 0 0, .slice none 0 0, .slice none 0 0, .slice none 0 0, .slice none 0 0].drop 3).take (Tryd.prog.cellsOf 50)) default
    rw [cells50]
    exact Rep.z_slice Tryd.underlying50
  | 4, hf =>
    obtain rfl := Option.some.inj hf
    show Rep Tryd.prog w I (k + 2) 51 (([.int .i64 0, .string ⟨#[]⟩, .slice none 0 0, .slice none 0 0, .slice none 0 0, .slice none 0 0, .slice none 0 0].drop 4).take (Tryd.prog.cellsOf 51)) default
    rw [cells51]
    exact Rep.z_slice Tryd.underlying51
  | 5, hf =>
    obtain rfl := Option.some.inj hf
    show Rep Tryd.prog w I (k + 2) 52 (([.int .i64 0, .string ⟨#[]⟩, .slice none 0 0, .slice none 0 0, .slice none 0 0, .slice none 0 0, .slice none 0 0].drop 5).take (Tryd.prog.cellsOf 52)) default
    rw [cells52]
    exact Rep.z_slice Tryd.underlying52
  | 6, hf =>
    obtain rfl := Option.some.inj hf
    show Rep Tryd.prog w I (k + 2) 53 (([.int .i64 0, .string ⟨#[]⟩, .slice none 0 0, .slice none 0 0, .slice none 0 0, .slice none 0 0, .slice none 0 0].drop 6).take (Tryd.prog.cellsOf 53)) default
    rw [cells53]
    exact Rep.z_slice Tryd.underlying53
  | n + 7, hf => simp at hf
set_option maxRecDepth 100000 in
theorem rv_zero55 (w : World) : Rv w 55 #[.int .i64 0, .string ⟨#[]⟩, .slice none 0 0, .slice none 0 0, .slice none 0 0, .slice none 0 0, .slice none 0 0] default := ⟨3, zero55 0⟩
end Go.Proofs.YtjhjleanihgopaaDoor
namespace Go.Proofs.YtjhjleanihgopaaDoor
open Go.RowKit
attribute [local irreducible] wpList Calls Code.wp
/-- the first element whose text at a place is a name -/
def findD (l : List D) (j : Nat) (s : ByteArray) : Option D := l.find? fun d => (d.f j).s.toList == s.toList
/-- what was found comes back, or nothing -/
def Fd (T : TypeId) (r : Option D) (w0 w : World) (e : Ending) (w' : World) : Prop := ∃ cs, e = .returned (.tuple #[.agg cs, .bool r.isSome]) ∧ Below w.heap.size w w' ∧ Rv w0 T cs (r.getD default)
theorem find_none {l : List D} {j : Nat} {s : ByteArray} (h : ∀ i, i < l.length → (((gD l i).f j).s.toList == s.toList) = false) : findD l j s = none := by
  refine List.find?_eq_none.2 fun d hd => ?_
  obtain ⟨i, hi, rfl⟩ := List.getElem_of_mem hd
  have := h i hi
  rw [gD_get hi] at this
  rw [this]; simp
theorem find_some {l : List D} {j : Nat} {s : ByteArray} {m : Nat} (hm : m < l.length) (h : ∀ i, i < m → (((gD l i).f j).s.toList == s.toList) = false) (he : (((gD l m).f j).s.toList == s.toList) = true) : findD l j s = some (gD l m) := by
  unfold findD
  rw [← List.take_append_drop m l, List.find?_append, List.drop_eq_getElem_cons hm, List.find?_cons]
  have h0 : (l.take m).find? (fun d => (d.f j).s.toList == s.toList) = none := by
    refine List.find?_eq_none.2 fun d hd => ?_
    obtain ⟨i, hi, rfl⟩ := List.getElem_of_mem hd
    rw [List.length_take] at hi
    have := h i (by omega)
    rw [gD_get (by omega)] at this
    rw [List.getElem_take, this]; simp
  have h1 : gD (l.take m ++ l[m] :: l.drop (m + 1)) m = l[m] := by rw [← List.drop_eq_getElem_cons hm, List.take_append_drop, gD_get hm]
  rw [gD_get hm] at he
  rw [h0, h1, he]
  rfl
theorem part103_49 {w : World} {x a b c e f : Value} {d : D} (h : Rv w 155 #[x, a, b, c, e, f] d) : Rv w 39 #[a, b, c, e, f] (d.f 1) := by
  obtain ⟨k, h⟩ := h
  cases k with
  | zero => exact h.elim
  | succ k =>
    obtain ⟨_, hf⟩ := h.struct Tryd.underlying155
    have g : Rep Tryd.prog w (fun b => b < w.heap.size) k 39 (([x, a, b, c, e, f].drop 1).take (Tryd.prog.cellsOf 39)) (d.f 1) := hf 1 _ rfl
    rw [cells39] at g
    exact ⟨k, g⟩
end Go.Proofs.YtjhjleanihgopaaDoor
namespace Go.Proofs.YtjhjleanihgopaaDoor
open Go.RowKit
attribute [local irreducible] wpList Calls Code.wp
set_option maxRecDepth 100000 in
set_option maxHeartbeats 8000000 in
theorem findP (A : Option Addr) (l : List D) (c : Nat) (s : ByteArray) (w0 w : World) (h0 : Below w0.heap.size w0 w) (h : Rs w0 55 A l) (hl : l.length ≤ c) (hc : c ≤ maxLen) :
    Calls Tryd.prog 51 #[.agg #[.slice A l.length c], .string s] w (Fd 55 (findD l 1 s) w0 w) := by
  unfold maxLen at hc
  have hlc : l.length ≤ 9223372036854775807 := by omega
  have Hsome := Lib.hid (fun m => @find_some l 1 s m); have Hnone := Lib.hid (@find_none l 1 s)
  generalize findD l 1 s = r at *
  have H := Lib.hid h; have H0 := Lib.hid h0; clear h h0 hl hc
  go_enter Tryd.func51, Tryd.ntmps51
  go_wp2
  have hb0 : Below w.heap.size w ((w.alloc (.cells #[.slice A l.length c] 24)).alloc (.cells #[.int .i64 0, .string ⟨#[]⟩, .slice none 0 0, .slice none 0 0, .slice none 0 0, .slice none 0 0, .slice none 0 0] 55)) := ((Below.refl _ _).alloc (Nat.le_refl _) _).alloc (by simp) _
  have hx0 : ((w.alloc (.cells #[.slice A l.length c] 24)).alloc (.cells #[.int .i64 0, .string ⟨#[]⟩, .slice none 0 0, .slice none 0 0, .slice none 0 0, .slice none 0 0, .slice none 0 0] 55)).heap[w.heap.size]? = some (.cells #[.slice A l.length c] 24 (0, 0)) := heap_under (heap_at rfl)
  have hx1 : ((w.alloc (.cells #[.slice A l.length c] 24)).alloc (.cells #[.int .i64 0, .string ⟨#[]⟩, .slice none 0 0, .slice none 0 0, .slice none 0 0, .slice none 0 0, .slice none 0 0] 55)).heap[w.heap.size + 1]? = some (.cells #[.int .i64 0, .string ⟨#[]⟩, .slice none 0 0, .slice none 0 0, .slice none 0 0, .slice none 0 0, .slice none 0 0] 55 (0, 0)) := heap_at (by simp)
  go_loopg [11] l.length (fun j v wr => ∃ m : Nat, m + j = l.length ∧ v = .int .i64 m ∧ (∀ i, i < m → (((gD l i).f 1).s.toList == s.toList) = false) ∧ Below w.heap.size w wr ∧ wr.heap[w.heap.size]? = some (.cells #[.slice A l.length c] 24 (0, 0)) ∧ wr.heap[w.heap.size + 1]? = some (.cells #[.int .i64 0, .string ⟨#[]⟩, .slice none 0 0, .slice none 0 0, .slice none 0 0, .slice none 0 0, .slice none 0 0] 55 (0, 0)))
  case atStart => exact ⟨0, by omega, rfl, fun i hi => by omega, hb0, hx0, hx1⟩
  case round =>
    obtain ⟨m, hmj, rfl, hall, hb, hy0, hy1⟩ := hrel
    clear hb0 hx0 hx1
    have p0 : wr.cell? ⟨w.heap.size, 0, none⟩ = some (.slice A l.length c) := cell_heap hy0 rfl
    have k0 : wr.cell? ⟨w.heap.size + 1, 0, none⟩ = some (.int .i64 0) := cell_heap hy1 rfl
    have k1 : wr.cell? ⟨w.heap.size + 1, 1, none⟩ = some (.string ⟨#[]⟩) := cell_heap hy1 rfl
    have k2 : wr.cell? ⟨w.heap.size + 1, 2, none⟩ = some (.slice none 0 0) := cell_heap hy1 rfl
    have k3 : wr.cell? ⟨w.heap.size + 1, 3, none⟩ = some (.slice none 0 0) := cell_heap hy1 rfl
    have k4 : wr.cell? ⟨w.heap.size + 1, 4, none⟩ = some (.slice none 0 0) := cell_heap hy1 rfl
    have k5 : wr.cell? ⟨w.heap.size + 1, 5, none⟩ = some (.slice none 0 0) := cell_heap hy1 rfl
    have k6 : wr.cell? ⟨w.heap.size + 1, 6, none⟩ = some (.slice none 0 0) := cell_heap hy1 rfl
    have f0 := frozen_heap (o := 0) hy1
    have f1 := frozen_heap (o := 1) hy1
    have f2 := frozen_heap (o := 2) hy1
    have f3 := frozen_heap (o := 3) hy1
    have f4 := frozen_heap (o := 4) hy1
    have f5 := frozen_heap (o := 5) hy1
    have f6 := frozen_heap (o := 6) hy1
    have l0 := heap_lt hy0
    have l1 := heap_lt hy1
    have Hb := Lib.hid hb; have Hall := Lib.hid hall; have Hy0 := Lib.hid hy0; have Hy1 := Lib.hid hy1
    have Hmj := Lib.hid hmj; have hmn : m ≤ l.length := by omega
    clear hmj hb hall hy0 hy1
    by_cases hlt : m < l.length
    · obtain ⟨b, off, rfl, hI, hat⟩ := at55 H.out (by omega)
      obtain ⟨A2, c2, A3, c3, A4, c4, A5, c5, A6, c6, e0, e1, e2, e3, e4, e5, e6, -, -, -, -, -, -, -, y⟩ := hat m hlt
      have Hy := Lib.hid y
      clear hat y
      replace e0 := ((H0.out.trans (Hb.out.mono H0.out.size)).cell (p := ⟨b, _, none⟩) hI).trans e0
      replace e1 := ((H0.out.trans (Hb.out.mono H0.out.size)).cell (p := ⟨b, _, none⟩) hI).trans e1
      replace e2 := ((H0.out.trans (Hb.out.mono H0.out.size)).cell (p := ⟨b, _, none⟩) hI).trans e2
      replace e3 := ((H0.out.trans (Hb.out.mono H0.out.size)).cell (p := ⟨b, _, none⟩) hI).trans e3
      replace e4 := ((H0.out.trans (Hb.out.mono H0.out.size)).cell (p := ⟨b, _, none⟩) hI).trans e4
      replace e5 := ((H0.out.trans (Hb.out.mono H0.out.size)).cell (p := ⟨b, _, none⟩) hI).trans e5
      replace e6 := ((H0.out.trans (Hb.out.mono H0.out.size)).cell (p := ⟨b, _, none⟩) hI).trans e6
      cases hq : (((gD l m).f 1).s.toList == s.toList)
      · have Hq := Lib.hid hq
        have Hal2 := Lib.hid (show ∀ i, i < m + 1 → (((gD l i).f 1).s.toList == s.toList) = false from fun i hi => (Nat.lt_succ_iff_lt_or_eq.1 hi).elim (fun h' => Hall.out i h') (fun h' => by rw [h']; exact Hq.out))
        go_wp2
        go_roundg (l.length - m - 1)
        case measure => have := Hmj.out; omega
        case rel => exact ⟨m + 1, by have := Hmj.out; omega, by go_num, Hal2.out, Hb.out.alloc Hb.out.size _, heap_under Hy0.out, heap_under Hy1.out⟩
      · have Hr := Lib.hid (Hsome.out m hlt Hall.out hq)
        go_upto_region 5 with (fail)
        have hba : Below w.heap.size w (wr.alloc (.cells #[.int .i64 ((gD l m).f 0).n, .string ((gD l m).f 1).s, .slice A2 ((gD l m).f 2).l.length c2, .slice A3 ((gD l m).f 3).l.length c3, .slice A4 ((gD l m).f 4).l.length c4, .slice A5 ((gD l m).f 5).l.length c5, .slice A6 ((gD l m).f 6).l.length c6] 55)) := Hb.out.alloc Hb.out.size _
        have hxa : (wr.alloc (.cells #[.int .i64 ((gD l m).f 0).n, .string ((gD l m).f 1).s, .slice A2 ((gD l m).f 2).l.length c2, .slice A3 ((gD l m).f 3).l.length c3, .slice A4 ((gD l m).f 4).l.length c4, .slice A5 ((gD l m).f 5).l.length c5, .slice A6 ((gD l m).f 6).l.length c6] 55)).heap[wr.heap.size]? = some (.cells #[.int .i64 ((gD l m).f 0).n, .string ((gD l m).f 1).s, .slice A2 ((gD l m).f 2).l.length c2, .slice A3 ((gD l m).f 3).l.length c3, .slice A4 ((gD l m).f 4).l.length c4, .slice A5 ((gD l m).f 5).l.length c5, .slice A6 ((gD l m).f 6).l.length c6] 55 (0, 0)) := heap_at rfl
        have hya : (wr.alloc (.cells #[.int .i64 ((gD l m).f 0).n, .string ((gD l m).f 1).s, .slice A2 ((gD l m).f 2).l.length c2, .slice A3 ((gD l m).f 3).l.length c3, .slice A4 ((gD l m).f 4).l.length c4, .slice A5 ((gD l m).f 5).l.length c5, .slice A6 ((gD l m).f 6).l.length c6] 55)).heap[w.heap.size + 1]? = some (.cells #[.int .i64 0, .string ⟨#[]⟩, .slice none 0 0, .slice none 0 0, .slice none 0 0, .slice none 0 0, .slice none 0 0] 55 (0, 0)) := heap_under Hy1.out
        generalize wr.alloc (.cells #[.int .i64 ((gD l m).f 0).n, .string ((gD l m).f 1).s, .slice A2 ((gD l m).f 2).l.length c2, .slice A3 ((gD l m).f 3).l.length c3, .slice A4 ((gD l m).f 4).l.length c4, .slice A5 ((gD l m).f 5).l.length c5, .slice A6 ((gD l m).f 6).l.length c6] 55) = wa at *
        generalize wr.heap.size = ba at *
        clear k0 f0 k1 f1 k2 f2 k3 f3 k4 f4 k5 f5 k6 f6 l0 l1 Hb
        have Hb := Lib.hid hba
        have l1 := heap_lt hya
        have l2 := heap_lt hxa
        have k0 : wa.cell? ⟨w.heap.size + 1, 0, none⟩ = some (.int .i64 0) := cell_heap hya rfl
        have k1 : wa.cell? ⟨w.heap.size + 1, 1, none⟩ = some (.string ⟨#[]⟩) := cell_heap hya rfl
        have k2 : wa.cell? ⟨w.heap.size + 1, 2, none⟩ = some (.slice none 0 0) := cell_heap hya rfl
        have k3 : wa.cell? ⟨w.heap.size + 1, 3, none⟩ = some (.slice none 0 0) := cell_heap hya rfl
        have k4 : wa.cell? ⟨w.heap.size + 1, 4, none⟩ = some (.slice none 0 0) := cell_heap hya rfl
        have k5 : wa.cell? ⟨w.heap.size + 1, 5, none⟩ = some (.slice none 0 0) := cell_heap hya rfl
        have k6 : wa.cell? ⟨w.heap.size + 1, 6, none⟩ = some (.slice none 0 0) := cell_heap hya rfl
        have f0 := frozen_heap (o := 0) hya
        have f1 := frozen_heap (o := 1) hya
        have f2 := frozen_heap (o := 2) hya
        have f3 := frozen_heap (o := 3) hya
        have f4 := frozen_heap (o := 4) hya
        have f5 := frozen_heap (o := 5) hya
        have f6 := frozen_heap (o := 6) hya
        have q0 : wa.cell? ⟨ba, 0, none⟩ = some (.int .i64 ((gD l m).f 0).n) := cell_heap hxa rfl
        have q1 : wa.cell? ⟨ba, 1, none⟩ = some (.string ((gD l m).f 1).s) := cell_heap hxa rfl
        have q2 : wa.cell? ⟨ba, 2, none⟩ = some (.slice A2 ((gD l m).f 2).l.length c2) := cell_heap hxa rfl
        have q3 : wa.cell? ⟨ba, 3, none⟩ = some (.slice A3 ((gD l m).f 3).l.length c3) := cell_heap hxa rfl
        have q4 : wa.cell? ⟨ba, 4, none⟩ = some (.slice A4 ((gD l m).f 4).l.length c4) := cell_heap hxa rfl
        have q5 : wa.cell? ⟨ba, 5, none⟩ = some (.slice A5 ((gD l m).f 5).l.length c5) := cell_heap hxa rfl
        have q6 : wa.cell? ⟨ba, 6, none⟩ = some (.slice A6 ((gD l m).f 6).l.length c6) := cell_heap hxa rfl
        clear hba hxa hya
        go_wp2
        have hB := (((((((Hb.out.setCell (p := ⟨w.heap.size + 1, 0, none⟩) (Nat.le_succ _) (.int .i64 ((gD l m).f 0).n)).setCell (p := ⟨w.heap.size + 1, 1, none⟩) (Nat.le_succ _) (.string ((gD l m).f 1).s)).setCell (p := ⟨w.heap.size + 1, 2, none⟩) (Nat.le_succ _) (.slice A2 ((gD l m).f 2).l.length c2)).setCell (p := ⟨w.heap.size + 1, 3, none⟩) (Nat.le_succ _) (.slice A3 ((gD l m).f 3).l.length c3)).setCell (p := ⟨w.heap.size + 1, 4, none⟩) (Nat.le_succ _) (.slice A4 ((gD l m).f 4).l.length c4)).setCell (p := ⟨w.heap.size + 1, 5, none⟩) (Nat.le_succ _) (.slice A5 ((gD l m).f 5).l.length c5)).setCell (p := ⟨w.heap.size + 1, 6, none⟩) (Nat.le_succ _) (.slice A6 ((gD l m).f 6).l.length c6))
        exact bodyPost_ret (v := .tuple #[.agg #[.int .i64 ((gD l m).f 0).n, .string ((gD l m).f 1).s, .slice A2 ((gD l m).f 2).l.length c2, .slice A3 ((gD l m).f 3).l.length c3, .slice A4 ((gD l m).f 4).l.length c4, .slice A5 ((gD l m).f 5).l.length c5, .slice A6 ((gD l m).f 6).l.length c6], .bool true]) (by simp [results, Tryd.results51, go_sem, k0, k1, k2, k3, k4, k5, k6, l1]) rfl ⟨_, by rw [Hr.out]; rfl, hB, by rw [Hr.out]; exact Hy.out⟩
    · obtain rfl : m = l.length := by omega
      have Hr := Lib.hid (Hnone.out Hall.out)
      go_wp2
      exact bodyPost_ret (v := .tuple #[.agg #[.int .i64 0, .string ⟨#[]⟩, .slice none 0 0, .slice none 0 0, .slice none 0 0, .slice none 0 0, .slice none 0 0], .bool false]) (by simp [results, Tryd.results51, go_sem, k0, k1, k2, k3, k4, k5, k6, l1]) rfl ⟨_, by rw [Hr.out]; rfl, (((((((Hb.out.setCell (p := ⟨w.heap.size + 1, 0, none⟩) (Nat.le_succ _) (.int .i64 0)).setCell (p := ⟨w.heap.size + 1, 1, none⟩) (Nat.le_succ _) (.string ⟨#[]⟩)).setCell (p := ⟨w.heap.size + 1, 2, none⟩) (Nat.le_succ _) (.slice none 0 0)).setCell (p := ⟨w.heap.size + 1, 3, none⟩) (Nat.le_succ _) (.slice none 0 0)).setCell (p := ⟨w.heap.size + 1, 4, none⟩) (Nat.le_succ _) (.slice none 0 0)).setCell (p := ⟨w.heap.size + 1, 5, none⟩) (Nat.le_succ _) (.slice none 0 0)).setCell (p := ⟨w.heap.size + 1, 6, none⟩) (Nat.le_succ _) (.slice none 0 0)), by rw [Hr.out]; exact rv_zero55 _⟩
end Go.Proofs.YtjhjleanihgopaaDoor
namespace Go.Proofs.YtjhjleanihgopaaDoor
open Go.RowKit
attribute [local irreducible] wpList Calls Code.wp
set_option maxRecDepth 100000 in
set_option maxHeartbeats 8000000 in
theorem fieldP (kd : Int) (nm : ByteArray) (J2 J3 J5 J6 : Option Addr) (n2 n3 n5 n6 c2 c3 c5 c6 : Nat) (A : Option Addr) (l : List D) (c : Nat) (s : ByteArray) (w0 w : World) (h0 : Below w0.heap.size w0 w) (h : Rs w0 60 A l) (hl : l.length ≤ c) (hc : c ≤ maxLen) :
    Calls Tryd.prog 52 #[.agg #[.int .i64 kd, .string nm, .slice J2 n2 c2, .slice J3 n3 c3, .slice A l.length c, .slice J5 n5 c5, .slice J6 n6 c6], .string s] w (Fd 60 (findD l 0 s) w0 w) := by
  unfold maxLen at hc
  have hlc : l.length ≤ 9223372036854775807 := by omega
  have Hsome := Lib.hid (fun m => @find_some l 0 s m); have Hnone := Lib.hid (@find_none l 0 s)
  generalize findD l 0 s = r at *
  have H := Lib.hid h; have H0 := Lib.hid h0; clear h h0 hl hc
  go_enter Tryd.func52, Tryd.ntmps52
  go_wp2
  have hb0 : Below w.heap.size w ((w.alloc (.cells #[.int .i64 kd, .string nm, .slice J2 n2 c2, .slice J3 n3 c3, .slice A l.length c, .slice J5 n5 c5, .slice J6 n6 c6] 55)).alloc (.cells #[.string ⟨#[]⟩, .slice none 0 0, .string ⟨#[]⟩, .slice none 0 0, .slice none 0 0] 60)) := ((Below.refl _ _).alloc (Nat.le_refl _) _).alloc (by simp) _
  have hx0 : ((w.alloc (.cells #[.int .i64 kd, .string nm, .slice J2 n2 c2, .slice J3 n3 c3, .slice A l.length c, .slice J5 n5 c5, .slice J6 n6 c6] 55)).alloc (.cells #[.string ⟨#[]⟩, .slice none 0 0, .string ⟨#[]⟩, .slice none 0 0, .slice none 0 0] 60)).heap[w.heap.size]? = some (.cells #[.int .i64 kd, .string nm, .slice J2 n2 c2, .slice J3 n3 c3, .slice A l.length c, .slice J5 n5 c5, .slice J6 n6 c6] 55 (0, 0)) := heap_under (heap_at rfl)
  have hx1 : ((w.alloc (.cells #[.int .i64 kd, .string nm, .slice J2 n2 c2, .slice J3 n3 c3, .slice A l.length c, .slice J5 n5 c5, .slice J6 n6 c6] 55)).alloc (.cells #[.string ⟨#[]⟩, .slice none 0 0, .string ⟨#[]⟩, .slice none 0 0, .slice none 0 0] 60)).heap[w.heap.size + 1]? = some (.cells #[.string ⟨#[]⟩, .slice none 0 0, .string ⟨#[]⟩, .slice none 0 0, .slice none 0 0] 60 (0, 0)) := heap_at (by simp)
  go_loopg [11] l.length (fun j v wr => ∃ m : Nat, m + j = l.length ∧ v = .int .i64 m ∧ (∀ i, i < m → (((gD l i).f 0).s.toList == s.toList) = false) ∧ Below w.heap.size w wr ∧ wr.heap[w.heap.size]? = some (.cells #[.int .i64 kd, .string nm, .slice J2 n2 c2, .slice J3 n3 c3, .slice A l.length c, .slice J5 n5 c5, .slice J6 n6 c6] 55 (0, 0)) ∧ wr.heap[w.heap.size + 1]? = some (.cells #[.string ⟨#[]⟩, .slice none 0 0, .string ⟨#[]⟩, .slice none 0 0, .slice none 0 0] 60 (0, 0)))
  case atStart => exact ⟨0, by omega, rfl, fun i hi => by omega, hb0, hx0, hx1⟩
  case round =>
    obtain ⟨m, hmj, rfl, hall, hb, hy0, hy1⟩ := hrel
    clear hb0 hx0 hx1
    have p0 : wr.cell? ⟨w.heap.size, 0, none⟩ = some (.int .i64 kd) := cell_heap hy0 rfl
    have p1 : wr.cell? ⟨w.heap.size, 1, none⟩ = some (.string nm) := cell_heap hy0 rfl
    have p2 : wr.cell? ⟨w.heap.size, 2, none⟩ = some (.slice J2 n2 c2) := cell_heap hy0 rfl
    have p3 : wr.cell? ⟨w.heap.size, 3, none⟩ = some (.slice J3 n3 c3) := cell_heap hy0 rfl
    have p4 : wr.cell? ⟨w.heap.size, 4, none⟩ = some (.slice A l.length c) := cell_heap hy0 rfl
    have p5 : wr.cell? ⟨w.heap.size, 5, none⟩ = some (.slice J5 n5 c5) := cell_heap hy0 rfl
    have p6 : wr.cell? ⟨w.heap.size, 6, none⟩ = some (.slice J6 n6 c6) := cell_heap hy0 rfl
    have k0 : wr.cell? ⟨w.heap.size + 1, 0, none⟩ = some (.string ⟨#[]⟩) := cell_heap hy1 rfl
    have k1 : wr.cell? ⟨w.heap.size + 1, 1, none⟩ = some (.slice none 0 0) := cell_heap hy1 rfl
    have k2 : wr.cell? ⟨w.heap.size + 1, 2, none⟩ = some (.string ⟨#[]⟩) := cell_heap hy1 rfl
    have k3 : wr.cell? ⟨w.heap.size + 1, 3, none⟩ = some (.slice none 0 0) := cell_heap hy1 rfl
    have k4 : wr.cell? ⟨w.heap.size + 1, 4, none⟩ = some (.slice none 0 0) := cell_heap hy1 rfl
    have f0 := frozen_heap (o := 0) hy1
    have f1 := frozen_heap (o := 1) hy1
    have f2 := frozen_heap (o := 2) hy1
    have f3 := frozen_heap (o := 3) hy1
    have f4 := frozen_heap (o := 4) hy1
    have l0 := heap_lt hy0
    have l1 := heap_lt hy1
    have Hb := Lib.hid hb; have Hall := Lib.hid hall; have Hy0 := Lib.hid hy0; have Hy1 := Lib.hid hy1
    have Hmj := Lib.hid hmj; have hmn : m ≤ l.length := by omega
    clear hmj hb hall hy0 hy1
    by_cases hlt : m < l.length
    · obtain ⟨b, off, rfl, hI, hat⟩ := at60 H.out (by omega)
      obtain ⟨A1, c1, A3, c3, A4, c4, e0, e1, e2, e3, e4, -, -, -, -, -, y⟩ := hat m hlt
      have Hy := Lib.hid y
      clear hat y
      replace e0 := ((H0.out.trans (Hb.out.mono H0.out.size)).cell (p := ⟨b, _, none⟩) hI).trans e0
      replace e1 := ((H0.out.trans (Hb.out.mono H0.out.size)).cell (p := ⟨b, _, none⟩) hI).trans e1
      replace e2 := ((H0.out.trans (Hb.out.mono H0.out.size)).cell (p := ⟨b, _, none⟩) hI).trans e2
      replace e3 := ((H0.out.trans (Hb.out.mono H0.out.size)).cell (p := ⟨b, _, none⟩) hI).trans e3
      replace e4 := ((H0.out.trans (Hb.out.mono H0.out.size)).cell (p := ⟨b, _, none⟩) hI).trans e4
      cases hq : (((gD l m).f 0).s.toList == s.toList)
      · have Hq := Lib.hid hq
        have Hal2 := Lib.hid (show ∀ i, i < m + 1 → (((gD l i).f 0).s.toList == s.toList) = false from fun i hi => (Nat.lt_succ_iff_lt_or_eq.1 hi).elim (fun h' => Hall.out i h') (fun h' => by rw [h']; exact Hq.out))
        go_wp2
        go_roundg (l.length - m - 1)
        case measure => have := Hmj.out; omega
        case rel => exact ⟨m + 1, by have := Hmj.out; omega, by go_num, Hal2.out, Hb.out.alloc Hb.out.size _, heap_under Hy0.out, heap_under Hy1.out⟩
      · have Hr := Lib.hid (Hsome.out m hlt Hall.out hq)
        go_upto_region 5 with (fail)
        have hba : Below w.heap.size w (wr.alloc (.cells #[.string ((gD l m).f 0).s, .slice A1 ((gD l m).f 1).l.length c1, .string (((gD l m).f 2).f 0).s, .slice A3 (((gD l m).f 2).f 1).l.length c3, .slice A4 ((gD l m).f 3).l.length c4] 60)) := Hb.out.alloc Hb.out.size _
        have hxa : (wr.alloc (.cells #[.string ((gD l m).f 0).s, .slice A1 ((gD l m).f 1).l.length c1, .string (((gD l m).f 2).f 0).s, .slice A3 (((gD l m).f 2).f 1).l.length c3, .slice A4 ((gD l m).f 3).l.length c4] 60)).heap[wr.heap.size]? = some (.cells #[.string ((gD l m).f 0).s, .slice A1 ((gD l m).f 1).l.length c1, .string (((gD l m).f 2).f 0).s, .slice A3 (((gD l m).f 2).f 1).l.length c3, .slice A4 ((gD l m).f 3).l.length c4] 60 (0, 0)) := heap_at rfl
        have hya : (wr.alloc (.cells #[.string ((gD l m).f 0).s, .slice A1 ((gD l m).f 1).l.length c1, .string (((gD l m).f 2).f 0).s, .slice A3 (((gD l m).f 2).f 1).l.length c3, .slice A4 ((gD l m).f 3).l.length c4] 60)).heap[w.heap.size + 1]? = some (.cells #[.string ⟨#[]⟩, .slice none 0 0, .string ⟨#[]⟩, .slice none 0 0, .slice none 0 0] 60 (0, 0)) := heap_under Hy1.out
        generalize wr.alloc (.cells #[.string ((gD l m).f 0).s, .slice A1 ((gD l m).f 1).l.length c1, .string (((gD l m).f 2).f 0).s, .slice A3 (((gD l m).f 2).f 1).l.length c3, .slice A4 ((gD l m).f 3).l.length c4] 60) = wa at *
        generalize wr.heap.size = ba at *
        clear k0 f0 k1 f1 k2 f2 k3 f3 k4 f4 l0 l1 Hb
        have Hb := Lib.hid hba
        have l1 := heap_lt hya
        have l2 := heap_lt hxa
        have k0 : wa.cell? ⟨w.heap.size + 1, 0, none⟩ = some (.string ⟨#[]⟩) := cell_heap hya rfl
        have k1 : wa.cell? ⟨w.heap.size + 1, 1, none⟩ = some (.slice none 0 0) := cell_heap hya rfl
        have k2 : wa.cell? ⟨w.heap.size + 1, 2, none⟩ = some (.string ⟨#[]⟩) := cell_heap hya rfl
        have k3 : wa.cell? ⟨w.heap.size + 1, 3, none⟩ = some (.slice none 0 0) := cell_heap hya rfl
        have k4 : wa.cell? ⟨w.heap.size + 1, 4, none⟩ = some (.slice none 0 0) := cell_heap hya rfl
        have f0 := frozen_heap (o := 0) hya
        have f1 := frozen_heap (o := 1) hya
        have f2 := frozen_heap (o := 2) hya
        have f3 := frozen_heap (o := 3) hya
        have f4 := frozen_heap (o := 4) hya
        have q0 : wa.cell? ⟨ba, 0, none⟩ = some (.string ((gD l m).f 0).s) := cell_heap hxa rfl
        have q1 : wa.cell? ⟨ba, 1, none⟩ = some (.slice A1 ((gD l m).f 1).l.length c1) := cell_heap hxa rfl
        have q2 : wa.cell? ⟨ba, 2, none⟩ = some (.string (((gD l m).f 2).f 0).s) := cell_heap hxa rfl
        have q3 : wa.cell? ⟨ba, 3, none⟩ = some (.slice A3 (((gD l m).f 2).f 1).l.length c3) := cell_heap hxa rfl
        have q4 : wa.cell? ⟨ba, 4, none⟩ = some (.slice A4 ((gD l m).f 3).l.length c4) := cell_heap hxa rfl
        clear hba hxa hya
        go_wp2
        have hB := (((((Hb.out.setCell (p := ⟨w.heap.size + 1, 0, none⟩) (Nat.le_succ _) (.string ((gD l m).f 0).s)).setCell (p := ⟨w.heap.size + 1, 1, none⟩) (Nat.le_succ _) (.slice A1 ((gD l m).f 1).l.length c1)).setCell (p := ⟨w.heap.size + 1, 2, none⟩) (Nat.le_succ _) (.string (((gD l m).f 2).f 0).s)).setCell (p := ⟨w.heap.size + 1, 3, none⟩) (Nat.le_succ _) (.slice A3 (((gD l m).f 2).f 1).l.length c3)).setCell (p := ⟨w.heap.size + 1, 4, none⟩) (Nat.le_succ _) (.slice A4 ((gD l m).f 3).l.length c4))
        exact bodyPost_ret (v := .tuple #[.agg #[.string ((gD l m).f 0).s, .slice A1 ((gD l m).f 1).l.length c1, .string (((gD l m).f 2).f 0).s, .slice A3 (((gD l m).f 2).f 1).l.length c3, .slice A4 ((gD l m).f 3).l.length c4], .bool true]) (by simp [results, Tryd.results52, go_sem, k0, k1, k2, k3, k4, l1]) rfl ⟨_, by rw [Hr.out]; rfl, hB, by rw [Hr.out]; exact Hy.out⟩
    · obtain rfl : m = l.length := by omega
      have Hr := Lib.hid (Hnone.out Hall.out)
      go_wp2
      exact bodyPost_ret (v := .tuple #[.agg #[.string ⟨#[]⟩, .slice none 0 0, .string ⟨#[]⟩, .slice none 0 0, .slice none 0 0], .bool false]) (by simp [results, Tryd.results52, go_sem, k0, k1, k2, k3, k4, l1]) rfl ⟨_, by rw [Hr.out]; rfl, (((((Hb.out.setCell (p := ⟨w.heap.size + 1, 0, none⟩) (Nat.le_succ _) (.string ⟨#[]⟩)).setCell (p := ⟨w.heap.size + 1, 1, none⟩) (Nat.le_succ _) (.slice none 0 0)).setCell (p := ⟨w.heap.size + 1, 2, none⟩) (Nat.le_succ _) (.string ⟨#[]⟩)).setCell (p := ⟨w.heap.size + 1, 3, none⟩) (Nat.le_succ _) (.slice none 0 0)).setCell (p := ⟨w.heap.size + 1, 4, none⟩) (Nat.le_succ _) (.slice none 0 0)), by rw [Hr.out]; exact rv_zero60 _⟩
end Go.Proofs.YtjhjleanihgopaaDoor
