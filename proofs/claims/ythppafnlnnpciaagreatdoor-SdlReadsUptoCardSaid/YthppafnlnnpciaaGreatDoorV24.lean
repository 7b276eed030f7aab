import Derived.Deep.Cut
import Derived.Test.YthppafnlnnpciaaGreatDoorV23
set_option linter.unusedVariables false
set_option linter.unusedSimpArgs false
namespace Go.Proofs.YthppafnlnnpciaaGreatDoor
open Go.RowKit
attribute [local irreducible] wpList Calls Code.wp
theorem cells_snoc (l:List UInt8) (c:UInt8) (v:Int) (hv:v=(c.toNat:Int)):Lib.byteCells l++[.int .u8 v]=Lib.byteCells (l++[c]):=by subst hv;simp [Lib.byteCells]
theorem wB (B b:Nat) (l:List UInt8) (c:UInt8) (v:Int) (w:World) (hv:v=(c.toNat:Int)) (h:IsB B b (Lib.byteCells l) w) (hlen:l.length<=1000000000) (hBw:B<=w.heap.size) :
 Calls Tryz.prog 156 #[.pointer (some ⟨b,0,none⟩),.int .u8 v] w fun e w'=>e = .returned .nilIface/\IsB B b (Lib.byteCells (l++[c])) w'/\Below B w w':=by
 refine (writeByte B b _ v w h (by rw [Lib.byteCells_length];omega) hBw).mono fun e w' h => ?_
 rw [cells_snoc l c v hv] at h
 exact h
def hexd (n:Int):Int:=if n<10 then 48+n else 87+n
theorem hexd_U (n:Nat) (h:n<16):hexd (n:Int)=((hexU n).toNat:Int):=by
 have : ∀ i:Fin 16,hexd (i.val:Int)=((hexU i.val).toNat:Int):=by decide +kernel
 exact this ⟨n,h⟩
def bC (s:ByteArray) (i:Nat):UInt8:=s.data.toList.getD i 0
theorem bV_bC (s:ByteArray) (i:Nat):bV s i=((bC s i).toNat:Int):=rfl
def tk (s:ByteArray) (k:Nat):List UInt8:=s.data.toList.take k
theorem tk_succ {s:ByteArray} {k:Nat} (h:k<s.size):tk s (k+1)=tk s k++[bC s k]:=by
 have h':k<s.data.toList.length:=by simpa using h
 unfold tk bC
 rw [List.take_succ_eq_append_getElem h']
 simp [List.getElem?_eq_getElem h']
theorem tk_all (s:ByteArray):tk s s.size=s.data.toList:=by
 unfold tk
 exact List.take_of_length_le (by simp)
theorem tk_length (s:ByteArray) (k:Nat):(tk s k).length<=k:=by unfold tk;exact List.length_take_le _ _
theorem escU_other {c:UInt8} (h1:c≠34) (h2:c≠92) (h3:c≠10) (h4:c≠13) (h5:c≠9):escU c=if 32<=c.toNat/\c.toNat<=126 then [c] else [92,117,48,48,hexU (c.toNat / 16),hexU (c.toNat%16)]:=by
 unfold escU
 rw [if_neg h1,if_neg h2,if_neg h3,if_neg h4,if_neg h5]
theorem zDJ {c:UInt8} {n:Nat} (hn:n<256) (h:c≠UInt8.ofNat n):(c.toNat:Int)≠(n:Int):=by
 intro e
 apply h
 apply UInt8.toNat_inj.1
 rw [UInt8.toNat_ofNat',Nat.mod_eq_of_lt hn]
 omega
def bs (l:List UInt8):ByteArray:=⟨l.toArray⟩
theorem zBg (l m:List UInt8):bs l++bs m=bs (l++m):=by
 unfold bs
 rw [ByteArray.mk_append_mk]
 try simp
theorem ze (l:List UInt8):(bs l).size=l.length:=by show l.toArray.size=_;simp
theorem zAo (l:List UInt8):(bs l).data.toList=l:=rfl
def St (l:List UInt8) (w:World) (e:Ending) (w':World):Prop:=e = .returned (.string (bs l))/\Below w.heap.size w w'
end Go.Proofs.YthppafnlnnpciaaGreatDoor
