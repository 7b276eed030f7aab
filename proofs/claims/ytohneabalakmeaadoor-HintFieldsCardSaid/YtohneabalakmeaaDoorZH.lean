/- The age and the privacy of directives. -/
import Derived.Test.YtohneabalakmeaaDoorZG
namespace Go.Proofs.YtohneabalakmeaaDoor
open Go.RowKit
attribute [local irreducible] wpList Calls Code.wp
def ageV (l : List D) : Int × Bool :=
  match argV l ⟨#[99, 97, 99, 104, 101, 67, 111, 110, 116, 114, 111, 108]⟩ ⟨#[109, 97, 120, 65, 103, 101]⟩ with
  | some v => if (v.f 0).n = 2 then (max (v.f 1).n 0, true) else (0, false)
  | none => (0, false)
def privV (l : List D) : Bool :=
  match argV l ⟨#[99, 97, 99, 104, 101, 67, 111, 110, 116, 114, 111, 108]⟩ ⟨#[112, 114, 105, 118, 97, 116, 101]⟩ with
  | some v => decide ((v.f 0).n = 1) && decide ((v.f 1).n = 1)
  | none => false
/-- a number and a bool come back -/
def Ib (n : Int) (b : Bool) (w : World) (e : Ending) (w' : World) : Prop := e = .returned (.tuple #[.int .i64 n, .bool b]) ∧ Below w.heap.size w w'
def Bl (b : Bool) (w : World) (e : Ending) (w' : World) : Prop := e = .returned (.bool b) ∧ Below w.heap.size w w'
set_option maxRecDepth 100000 in
set_option maxHeartbeats 4000000 in
theorem ageP (A : Option Addr) (l : List D) (c : Nat) (w0 w : World) (h0 : Below w0.heap.size w0 w) (h : Rs w0 101 A l) (hl : l.length ≤ c) (hc : c ≤ maxLen) :
    Calls Tryd.prog 103 #[.slice A l.length c] w (Ib (ageV l).1 (ageV l).2 w) := by
  have HA := Lib.hid (argsP A l c ⟨#[99, 97, 99, 104, 101, 67, 111, 110, 116, 114, 111, 108]⟩ ⟨#[109, 97, 120, 65, 103, 101]⟩ w0 w h0 h hl hc)
  clear h0 h hl hc
  obtain ⟨x, hx⟩ : ∃ x, x = ageV l := ⟨_, rfl⟩
  rw [← hx]
  unfold ageV at hx
  generalize argV l ⟨#[99, 97, 99, 104, 101, 67, 111, 110, 116, 114, 111, 108]⟩ ⟨#[109, 97, 120, 65, 103, 101]⟩ = o at *
  generalize l.length = n at *
  have HX := Lib.hid hx; clear hx
  go_enter Tryd.func103, Tryd.ntmps103
  go_wp2_with fail
  refine HA.out.mono ?_
  rintro e w1 ⟨cs, rfl, b, rv⟩
  have B1 := Lib.hid b
  have B2 := Lib.hid (fun x => (B1.out.alloc B1.out.size x))
  obtain ⟨A3, c3, A4, c4, rfl, r1, -⟩ := in49 rv
  clear b rv
  cases o with
  | none =>
    simp only [Option.isSome_none, Option.getD_none]
    go_wp2
    go_ret2
    exact ⟨by rw [HX.out]; simp [*], B2.out _⟩
  | some v =>
    simp only [Option.isSome_some, Option.getD_some] at r1 ⊢
    by_cases hk : (v.f 0).n = 2
    · go_wp2
      go_ret2
      exact ⟨by rw [HX.out]; simp [*], B2.out _⟩
    · go_wp2
      go_ret2
      exact ⟨by rw [HX.out]; simp [*], B2.out _⟩
set_option maxRecDepth 100000 in
set_option maxHeartbeats 4000000 in
theorem ageR (A : Option Addr) (l : List D) (c : Nat) (w0 w : World) (h0 : Below w0.heap.size w0 w) (h : Rs w0 101 A l) (hl : l.length ≤ c) (hc : c ≤ maxLen) :
    Calls Tryd.prog 107 #[.slice A l.length c] w (Ib (ageV l).1 (ageV l).2 w) := by
  have HA := Lib.hid (argsR A l c ⟨#[99, 97, 99, 104, 101, 67, 111, 110, 116, 114, 111, 108]⟩ ⟨#[109, 97, 120, 65, 103, 101]⟩ w0 w h0 h hl hc)
  clear h0 h hl hc
  obtain ⟨x, hx⟩ : ∃ x, x = ageV l := ⟨_, rfl⟩
  rw [← hx]
  unfold ageV at hx
  generalize argV l ⟨#[99, 97, 99, 104, 101, 67, 111, 110, 116, 114, 111, 108]⟩ ⟨#[109, 97, 120, 65, 103, 101]⟩ = o at *
  generalize l.length = n at *
  have HX := Lib.hid hx; clear hx
  go_enter Tryd.func107, Tryd.ntmps107
  go_wp2_with fail
  refine HA.out.mono ?_
  rintro e w1 ⟨cs, rfl, b, rv⟩
  have B1 := Lib.hid b
  have B2 := Lib.hid (fun x => (B1.out.alloc B1.out.size x))
  obtain ⟨A3, c3, A4, c4, rfl, r1, -⟩ := in49 rv
  clear b rv
  cases o with
  | none =>
    simp only [Option.isSome_none, Option.getD_none]
    go_wp2
    go_ret2
    exact ⟨by rw [HX.out]; simp [*], B2.out _⟩
  | some v =>
    simp only [Option.isSome_some, Option.getD_some] at r1 ⊢
    by_cases hk : (v.f 0).n = 2
    · go_wp2
      go_ret2
      exact ⟨by rw [HX.out]; simp [*], B2.out _⟩
    · go_wp2
      go_ret2
      exact ⟨by rw [HX.out]; simp [*], B2.out _⟩
set_option maxRecDepth 100000 in
set_option maxHeartbeats 4000000 in
theorem privP (A : Option Addr) (l : List D) (c : Nat) (w0 w : World) (h0 : Below w0.heap.size w0 w) (h : Rs w0 101 A l) (hl : l.length ≤ c) (hc : c ≤ maxLen) :
    Calls Tryd.prog 104 #[.slice A l.length c] w (Bl (privV l) w) := by
  have HA := Lib.hid (argsP A l c ⟨#[99, 97, 99, 104, 101, 67, 111, 110, 116, 114, 111, 108]⟩ ⟨#[112, 114, 105, 118, 97, 116, 101]⟩ w0 w h0 h hl hc)
  clear h0 h hl hc
  obtain ⟨x, hx⟩ : ∃ x, x = privV l := ⟨_, rfl⟩
  rw [← hx]
  unfold privV at hx
  generalize argV l ⟨#[99, 97, 99, 104, 101, 67, 111, 110, 116, 114, 111, 108]⟩ ⟨#[112, 114, 105, 118, 97, 116, 101]⟩ = o at *
  generalize l.length = n at *
  have HX := Lib.hid hx; clear hx
  go_enter Tryd.func104, Tryd.ntmps104
  go_wp2_with fail
  refine HA.out.mono ?_
  rintro e w1 ⟨cs, rfl, b, rv⟩
  have B1 := Lib.hid b
  have B2 := Lib.hid (fun x => (B1.out.alloc B1.out.size x))
  obtain ⟨A3, c3, A4, c4, rfl, r0, r1, -⟩ := in49 rv
  clear b rv
  cases o with
  | none =>
    simp only [Option.isSome_none, Option.getD_none]
    go_wp2
    go_ret
    exact ⟨by rw [HX.out]; simp [*], B2.out _⟩
  | some v =>
    simp only [Option.isSome_some, Option.getD_some] at r0 r1 ⊢
    by_cases hk : (v.f 0).n = 1
    · by_cases hi : (v.f 1).n = 1
      · go_wp2
        go_ret
        exact ⟨by rw [HX.out]; simp [*], B2.out _⟩
      · go_wp2
        go_ret
        exact ⟨by rw [HX.out]; simp [*], B2.out _⟩
    · go_wp2
      go_ret
      exact ⟨by rw [HX.out]; simp [*], B2.out _⟩
set_option maxRecDepth 100000 in
set_option maxHeartbeats 4000000 in
theorem privR (A : Option Addr) (l : List D) (c : Nat) (w0 w : World) (h0 : Below w0.heap.size w0 w) (h : Rs w0 101 A l) (hl : l.length ≤ c) (hc : c ≤ maxLen) :
    Calls Tryd.prog 72 #[.slice A l.length c] w (Bl (privV l) w) := by
  have HA := Lib.hid (argsR A l c ⟨#[99, 97, 99, 104, 101, 67, 111, 110, 116, 114, 111, 108]⟩ ⟨#[112, 114, 105, 118, 97, 116, 101]⟩ w0 w h0 h hl hc)
  clear h0 h hl hc
  obtain ⟨x, hx⟩ : ∃ x, x = privV l := ⟨_, rfl⟩
  rw [← hx]
  unfold privV at hx
  generalize argV l ⟨#[99, 97, 99, 104, 101, 67, 111, 110, 116, 114, 111, 108]⟩ ⟨#[112, 114, 105, 118, 97, 116, 101]⟩ = o at *
  generalize l.length = n at *
  have HX := Lib.hid hx; clear hx
  go_enter Tryd.func72, Tryd.ntmps72
  go_wp2_with fail
  refine HA.out.mono ?_
  rintro e w1 ⟨cs, rfl, b, rv⟩
  have B1 := Lib.hid b
  have B2 := Lib.hid (fun x => (B1.out.alloc B1.out.size x))
  obtain ⟨A3, c3, A4, c4, rfl, r0, r1, -⟩ := in49 rv
  clear b rv
  cases o with
  | none =>
    simp only [Option.isSome_none, Option.getD_none]
    go_wp2
    go_ret
    exact ⟨by rw [HX.out]; simp [*], B2.out _⟩
  | some v =>
    simp only [Option.isSome_some, Option.getD_some] at r0 r1 ⊢
    by_cases hk : (v.f 0).n = 1
    · by_cases hi : (v.f 1).n = 1
      · go_wp2
        go_ret
        exact ⟨by rw [HX.out]; simp [*], B2.out _⟩
      · go_wp2
        go_ret
        exact ⟨by rw [HX.out]; simp [*], B2.out _⟩
    · go_wp2
      go_ret
      exact ⟨by rw [HX.out]; simp [*], B2.out _⟩
end Go.Proofs.YtohneabalakmeaaDoor
