import Derived.Test.YthppafnlnnpciaaGreatDoorR5
set_option linter.unusedVariables false
set_option linter.unusedSimpArgs false
namespace Go.Proofs.YthppafnlnnpciaaGreatDoor
section
theorem zGb : ∀ (k u:Nat),u<10^(k+1)->(Lib.decDigits u).length<=k+1
 |0,u,h=>by rw [zBB (by simpa using h)];simp
 |k+1,u,h=>by
  by_cases hs:u<10
  . rw [zBB hs];simp
  . have:=zGb k (u / 10) (by rw [Nat.pow_succ] at h;omega)
    rw [zD8 hs,List.length_append,List.length_singleton];omega
theorem dec_len {u:Nat} (h:u<=9223372036854775808):(Lib.decDigits u).length<=20:=by
 have:=zGb 19 u (by omega)
 omega
def fragD (n on:List UInt8) (ss:List D):D:=.obj [strD n,strD on,.list ss]
def fragQ (x:PS):PR D:=
 if (hdT x).s=onT then .error ((hdT x).i,3)
 else zb (nameQ x) fun n y=>if (hdT y).k=2/\(hdT y).s=onT then
  zb (nameQ (nxT y)) fun on z=>zb (setQ z) fun ss u => .ok (fragD n on ss,u)
  else .error ((hdT y).i,3)
end
section
open Go.RowKit
attribute [local irreducible] wpList Calls Code.wp
theorem itoa_size (n:Int) (h0 : -9223372036854775808<=n) (h1:n<=9223372036854775807):(Lib.itoa n).length<=21:=by
 unfold Lib.itoa
 split
 . have:=dec_len (u:=n.natAbs) (by omega)
   simp only [List.length_cons];omega
 . have:=dec_len (u:=n.toNat) (by omega)
   omega
end
end Go.Proofs.YthppafnlnnpciaaGreatDoor
