/- Hints joined, in both texts. -/
import Derived.Test.YtohneabalakmeaaDoorU
namespace Go.Proofs.YtohneabalakmeaaDoor
open Go.RowKit
attribute [local irreducible] wpList Calls Code.wp
/-- a hint comes back -/
def Hi (n : Int) (p : Bool) (w : World) (e : Ending) (w' : World) : Prop := e = .returned (.agg #[.int .i64 n, .bool p]) ∧ Below w.heap.size w w'
set_option maxRecDepth 100000 in
set_option maxHeartbeats 4000000 in
theorem joinP (a b : Int) (p q : Bool) (w : World) : Calls Tryd.prog 29 #[.agg #[.int .i64 a, .bool p], .agg #[.int .i64 b, .bool q]] w (Hi (min a b) (p || q) w) := by
  cases p
  all_goals
    go_enter Tryd.func29, Tryd.ntmps29
    go_wp2
    first
      | exact bodyPost_ret (v := .agg #[.int .i64 (min a b), .bool q]) (by simp [results, Tryd.results29, go_sem]) rfl ⟨rfl, (((Below.refl _ _).alloc (Nat.le_refl _) _).alloc (by simp) _).alloc (by simp; omega) _⟩
      | exact bodyPost_ret (v := .agg #[.int .i64 (min a b), .bool true]) (by simp [results, Tryd.results29, go_sem]) rfl ⟨rfl, (((Below.refl _ _).alloc (Nat.le_refl _) _).alloc (by simp) _).alloc (by simp; omega) _⟩
set_option maxRecDepth 100000 in
set_option maxHeartbeats 4000000 in
theorem joinR (a b : Int) (p q : Bool) (w : World) : Calls Tryd.prog 30 #[.agg #[.int .i64 a, .bool p], .agg #[.int .i64 b, .bool q]] w (Hi (min a b) (p || q) w) := by
  cases p
  all_goals
    go_enter Tryd.func30, Tryd.ntmps30
    go_wp2
    first
      | exact bodyPost_ret (v := .agg #[.int .i64 (min a b), .bool q]) (by simp [results, Tryd.results30, go_sem]) rfl ⟨rfl, (((Below.refl _ _).alloc (Nat.le_refl _) _).alloc (by simp) _).alloc (by simp; omega) _⟩
      | exact bodyPost_ret (v := .agg #[.int .i64 (min a b), .bool true]) (by simp [results, Tryd.results30, go_sem]) rfl ⟨rfl, (((Below.refl _ _).alloc (Nat.le_refl _) _).alloc (by simp) _).alloc (by simp; omega) _⟩
end Go.Proofs.YtohneabalakmeaaDoor
