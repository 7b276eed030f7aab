/- A hint read: the plain law. -/
import Derived.Test.YtohneabalakmeaaDoorS
namespace Go.Proofs.YtohneabalakmeaaDoor
/-- "max-age=" -/
def preH : List UInt8 := [109, 97, 120, 45, 97, 103, 101, 61]
/-- ", private" -/
def priH : List UInt8 := [44, 32, 112, 114, 105, 118, 97, 116, 101]
/-- ", public" -/
def pubH : List UInt8 := [44, 32, 112, 117, 98, 108, 105, 99]
/-- "no-store" -/
def noH : List UInt8 := [110, 111, 45, 115, 116, 111, 114, 101]
/-- an age read, with its end: (age, private, error) -/
def ageH (l : List UInt8) (p : Bool) : Int × Bool × Int :=
  match numU l with
  | .ok v => if v < 1 then (0, false, 3) else (v, p, 0)
  | .range => (0, false, 4)
  | _ => (0, false, 3)
/-- a hint read -/
def parseU (l : List UInt8) : Int × Bool × Int :=
  if l = noH then (0, false, 0)
  else if Lib.hasPrefix l preH = false then (0, false, 3)
  else if Lib.hasSuffix (l.drop 8) priH = true then ageH ((l.drop 8).take ((l.drop 8).length - 9)) true
  else if Lib.hasSuffix (l.drop 8) pubH = true then ageH ((l.drop 8).take ((l.drop 8).length - 8)) false
  else (0, false, 3)
theorem suffix_not {l : List UInt8} (h : Lib.hasSuffix l priH = true) : Lib.hasSuffix l pubH = false := by
  cases h2 : Lib.hasSuffix l pubH with
  | false => rfl
  | true =>
    exfalso
    obtain ⟨a, ha⟩ := List.isSuffixOf_iff_suffix.1 h
    obtain ⟨b, hb⟩ := List.isSuffixOf_iff_suffix.1 h2
    have e := congrArg (fun l => l.getLast?) (ha.trans hb.symm)
    simp [priH, pubH] at e
/-- what is written is read as it was -/
theorem parse_head (n : Int) (p : Bool) (h0 : -9223372036854775808 ≤ n) (h1 : n ≤ 9223372036854775807) : parseU (headU n p) = if n < 1 then (0, false, 0) else (n, p, 0) := by
  by_cases hn : n < 1
  · rw [if_pos hn]
    have hh : headU n p = noH := by unfold headU; rw [if_pos hn]; rfl
    rw [hh]
    unfold parseU
    rw [if_pos rfl]
  · rw [if_neg hn]
    have hl : headU n p = preH ++ (Lib.itoa n ++ (if p = true then priH else pubH)) := by
      unfold headU
      rw [if_neg hn, List.append_assoc]; rfl
    have hd : (headU n p).drop 8 = Lib.itoa n ++ (if p = true then priH else pubH) := by rw [hl]; rfl
    have hne : headU n p ≠ noH := fun e => by
      rw [hl] at e
      have := congrArg List.head? e
      simp [preH, noH] at this
    have hpre : Lib.hasPrefix (headU n p) preH = true := by
      rw [hl]
      exact List.isPrefixOf_iff_prefix.2 (List.prefix_append _ _)
    unfold parseU
    rw [if_neg hne, if_neg (by rw [hpre]; simp), hd]
    cases p with
    | true =>
      have hs : Lib.hasSuffix (Lib.itoa n ++ priH) priH = true := List.isSuffixOf_iff_suffix.2 (List.suffix_append _ _)
      simp only [if_true]
      rw [if_pos hs, show (Lib.itoa n ++ priH).take ((Lib.itoa n ++ priH).length - 9) = Lib.itoa n by
        rw [List.length_append, show priH.length = 9 from rfl, Nat.add_sub_cancel, List.take_left]]
      unfold ageH
      rw [num_itoa n h0 h1]
      simp [hn]
    | false =>
      have hs : Lib.hasSuffix (Lib.itoa n ++ pubH) pubH = true := List.isSuffixOf_iff_suffix.2 (List.suffix_append _ _)
      have hs2 : ¬ Lib.hasSuffix (Lib.itoa n ++ pubH) priH = true := fun e => by rw [suffix_not e] at hs; cases hs
      simp only [Bool.false_eq_true, if_false]
      rw [if_neg hs2, if_pos hs, show (Lib.itoa n ++ pubH).take ((Lib.itoa n ++ pubH).length - 8) = Lib.itoa n by
        rw [List.length_append, show pubH.length = 8 from rfl, Nat.add_sub_cancel, List.take_left]]
      unfold ageH
      rw [num_itoa n h0 h1]
      simp [hn]
end Go.Proofs.YtohneabalakmeaaDoor
