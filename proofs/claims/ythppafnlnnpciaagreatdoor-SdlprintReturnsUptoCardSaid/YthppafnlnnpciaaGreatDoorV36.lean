import Derived.Test.YthppafnlnnpciaaGreatDoorV33
set_option maxHeartbeats 8000000
set_option maxRecDepth 100000
set_option linter.unusedVariables false
set_option linter.unusedSimpArgs false
namespace Go.Proofs.YthppafnlnnpciaaGreatDoor
open Go.RowKit
set_option linter.unusedSectionVars false
def wrapsI (l:List D):Nat->Nat->Bool
 |0,_=>true
 |j+1,i=>((gD l i).n==1||(gD l i).n==2) && !((gD l i).n==1&&decide (0<i)&&(gD l (i-1)).n==(gD l i).n)&&wrapsI l j (i+1)
theorem zEz (x:D) (l:List D) : ∀ (j i:Nat),wrapsI (x::l) j (i+2)=wrapsI l j (i+1)
 |0,_=>rfl
 |j+1,i=>by
  unfold wrapsI
  rw [zEz x l j (i+1)]
  have e1:gD (x::l) (i+2)=gD l (i+1):=rfl
  have e2:gD (x::l) (i+2-1)=gD l (i+1-1):=rfl
  have e3:decide (0<i+2)=decide (0<i+1):=by simp
  rw [e1,e2,e3]
theorem zJk : ∀ l:List D,wrapsI l l.length 0=zCZ (l.map D.n)
 |[]=>rfl
 |[x]=>by
  show (((x.n==1||x.n==2) && !(x.n==1&&decide (0<0)&&_))&&true)=(x.n==1||x.n==2)
  simp
 |x::y::r=>by
  have ih:=zJk (y::r)
  show (((x.n==1||x.n==2) && !(x.n==1&&decide (0<0)&&_))&&wrapsI (x::y::r) (r.length+1) 1)=((x.n==1||x.n==2) && !(x.n==1&&y.n==1)&&zCZ (y.n::r.map D.n))
  have e:wrapsI (x::y::r) (r.length+1) 1=(((y.n==1||y.n==2) && !(y.n==1&&true&&(x.n==y.n)))&&wrapsI (y::r) r.length 1):=by
   show (((y.n==1||y.n==2) && !(y.n==1&&true&&(x.n==y.n)))&&wrapsI (x::y::r) r.length 2)=_
   rw [zEz]
  have e2:wrapsI (y::r) (y::r).length 0=(((y.n==1||y.n==2) && !(y.n==1&&decide (0<0)&&false))&&wrapsI (y::r) r.length 1):=by
   show (((y.n==1||y.n==2) && !(y.n==1&&decide (0<0)&&_))&&wrapsI (y::r) r.length 1)=_
   simp
  rw [e]
  rw [e2] at ih
  have ih2:zCZ (y.n::r.map D.n)=(((y.n==1||y.n==2) && !(y.n==1&&decide (0<0)&&false))&&wrapsI (y::r) r.length 1):=ih.symm
  rw [ih2]
  generalize wrapsI (y::r) r.length 1=q
  cases hy:(y.n==1)
  . generalize (x.n==1)=a1
    generalize (x.n==2)=a2
    generalize (y.n==2)=a3
    generalize (x.n==y.n)=a4
    cases a1<;>cases a2<;>cases a3<;>cases a4<;>cases q<;>rfl
  . have hy':y.n=1:=by simpa using hy
    rw [hy']
    generalize (x.n==1)=a1
    generalize (x.n==2)=a2
    cases a1<;>cases a2<;>cases q<;>rfl
theorem zFy (a b:Int):IntKind.i64.wrap (IntKind.i64.wrap a+b)=IntKind.i64.wrap (a+b):=by
 simp [IntKind.wrap,IntKind.min,IntKind.max,IntKind.bits,IntKind.signed]
 repeat' split
 all_goals omega
theorem wrap_add_r (a b:Int):IntKind.i64.wrap (a+IntKind.i64.wrap b)=IntKind.i64.wrap (a+b):=by
 rw [Int.add_comm,zFy,Int.add_comm]
theorem zE8 (s:ByteArray) (l:List UInt8):(s.toList==(⟨l.toArray⟩:ByteArray).toList)=(s.data.toList==l):=by
 rw [Lib.toList_data,Lib.toList_data]
def zI2 (k:Nat) (d:D):Int:=IntKind.i64.wrap (sizeR k d:Int)
def maxW (f:Nat->Int):Nat->Int
 |0=>0
 |n+1=>if maxW f n<f n then f n else maxW f n
def zDN:Nat->D->Int
 |0,_=>1
 |k+1,d=>IntKind.i64.wrap (maxW (fun i=>zDN k (gD (d.f 3).l i)) (d.f 3).l.length+1)
def litW (d:D):Bool:=decide (zI2 (bulkD d) d<=4096)&&decide (zDN (bulkD d) d<=24)&&everyL (bulkD d) d
theorem wrap_id {n:Int} (h:0<=n/\n<=9223372036854775807):IntKind.i64.wrap n=n:=zE0 (k:=.i64) ⟨by simp only [IntKind.min,IntKind.signed,IntKind.bits];omega,by simp only [IntKind.max,IntKind.signed,IntKind.bits];omega⟩
theorem maxW_eq {f:Nat->Int} {g:Nat->Nat} : ∀ {n:Nat},(∀ i,i<n->f i=(g i:Int))->maxW f n=(maxN g n:Int)
 |0,_=>rfl
 |n+1,h=>by
  have e:=maxW_eq (n:=n) fun i hi=>h i (by omega)
  unfold maxW maxN
  rw [e,h n (by omega)]
  exact max_i _ _
attribute [local irreducible] wpList Calls Code.wp AW AWo OpOk seqK zz z8 loopK endK AC zl Yld Sub
attribute [local irreducible] ACB ACX ACE absLexG YldG
end Go.Proofs.YthppafnlnnpciaaGreatDoor
