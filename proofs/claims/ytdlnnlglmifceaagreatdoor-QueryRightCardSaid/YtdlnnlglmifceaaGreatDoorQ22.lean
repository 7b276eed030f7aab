import Derived.Deep.Cut
import Derived.Test.YtdlnnlglmifceaaGreatDoorQ21
set_option linter.unusedVariables false
set_option linter.unusedSimpArgs false
namespace Go.Proofs.YtdlnnlglmifceaaGreatDoor
open Go.RowKit
attribute [local irreducible] wpList Calls Code.wp
theorem cells_snoc (l : List UInt8) (c : UInt8) (v : Int) (hv : v = (c.toNat : Int)) : Lib.byteCells l ++ [.int .u8 v] = Lib.byteCells (l ++ [c]):=by subst hv; simp [Lib.byteCells]
theorem wB (B b : Nat) (l : List UInt8) (c : UInt8) (v : Int) (w : World) (hv : v = (c.toNat : Int)) (h : IsB B b (Lib.byteCells l) w) (hlen : l.length <= 1000000000) (hBw : B <= w.heap.size) :
 Calls Tryz.prog 149 #[.pointer (some ⟨b,0,none⟩),.int .u8 v] w fun e w' => e = .returned .nilIface /\ IsB B b (Lib.byteCells (l ++ [c])) w' /\ Below B w w':=by
 refine (writeByte B b _ v w h (by rw [Lib.byteCells_length]; omega) hBw).mono fun e w' h => ?_
 rw [cells_snoc l c v hv] at h
 exact h
def bC (s : ByteArray) (i : Nat) : UInt8:=s.data.toList.getD i 0
theorem bV_bC (s : ByteArray) (i : Nat) : bV s i = ((bC s i).toNat : Int):=rfl
def tk (s : ByteArray) (k : Nat) : List UInt8:=s.data.toList.take k
theorem zDz {c : UInt8} {n : Nat} (hn : n < 256) (h : c ≠ UInt8.ofNat n) : (c.toNat : Int) ≠ (n : Int):=by
 intro e
 apply h
 apply UInt8.toNat_inj.1
 rw [UInt8.toNat_ofNat',Nat.mod_eq_of_lt hn]
 omega
def bs (l : List UInt8) : ByteArray:=⟨l.toArray⟩
theorem zAL (l : List UInt8) : (bs l).size = l.length:=by show l.toArray.size = _; simp
theorem zA2 (l : List UInt8) : (bs l).data.toList = l:=rfl
end Go.Proofs.YtdlnnlglmifceaaGreatDoor
