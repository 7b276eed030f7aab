import Derived.Test.YthjiclhfhjdjpaaGreatDoorQ3
set_option linter.unusedVariables false
set_option linter.unusedSimpArgs false
namespace Go.Proofs.YthjiclhfhjdjpaaGreatDoor
def zA5 (p q:D):Bool:=(q.f 1).s.toList==(p.f 1).s.toList&&(q.f 5).s.toList==(p.f 5).s.toList
def grpI (f:D->D) (l:List D) (p:D):Nat->Nat->List D
 |0,_=>[]
 |k+1,i=>if i<l.length/\zA5 p (gD l i)=true then f (gD l i)::grpI f l p k (i+1) else []
theorem zEM {f:D->D} {l:List D} {p:D} {k i:Nat} (h : ¬ (i<l.length/\zA5 p (gD l i)=true)):grpI f l p k i=[]:=by
 cases k with
 |zero=>rfl
 |succ k=>unfold grpI;rw [if_neg h]
theorem zDl {f:D->D} {l:List D} {p:D} {k i:Nat} (h:i<l.length/\zA5 p (gD l i)=true):grpI f l p (k+1) i=f (gD l i)::grpI f l p k (i+1):=by
 rw [grpI,if_pos h]
theorem zJf {f:D->D} {l:List D} {p:D} : ∀ {k i:Nat},i<=l.length->i+(grpI f l p k i).length<=l.length
 |0,_,h=>h
 |k+1,i,h=>by
  unfold grpI
  split
  . rename_i hc
    have:=zJf (f:=f) (p:=p) (k:=k) (i:=i+1) hc.1
    rw [List.length_cons];omega
  . exact h
theorem zFg (p:D):zA5 p p=true:=by unfold zA5;simp
def sArg (name:ByteArray) (v:D):D:=.obj [.str name,v]
def vD31 (k n:Int) (u:ByteArray):D:=.obj [.int k,.int n,.str u,.list [],.list []]
def dD31 (name:ByteArray) (args:List D):D:=.obj [.str name,.list args]
def sD31 (k:Int) (alias name on:ByteArray) (args dirs sels:List D):D:=.obj [.int k,.str alias,.str name,.str on,.list args,.list dirs,.list sels]
def zBP (n:Int):D:=dD31 ⟨#[115,116,114,101,97,109]⟩ [sArg ⟨#[108,97,98,101,108]⟩ (vD31 3 0 ⟨#[115]⟩),sArg ⟨#[105,110,105,116,105,97,108,67,111,117,110,116]⟩ (vD31 2 n ⟨#[]⟩)]
def zCs (u:ByteArray):D:=dD31 ⟨#[100,101,102,101,114]⟩ [sArg ⟨#[108,97,98,101,108]⟩ (vD31 3 0 u)]
def zBi (sub:ByteArray->List D->List D) (p:D):D:=
 sD31 1 (if (p.f 0).s.toList==(p.f 2).s.toList then ⟨#[]⟩ else (p.f 0).s) (p.f 2).s ⟨#[]⟩ (p.f 3).l
  (if (p.f 6).n = -1 then [] else [zBP (p.f 6).n]) (sub ((p.f 4).f 0).s (p.f 7).l)
def inlD (p:D) (fs:List D):D:=sD31 3 ⟨#[]⟩ ⟨#[]⟩ (p.f 1).s [] (if (p.f 5).s.toList==[] then [] else [zCs (p.f 5).s]) fs
def zB2 (on:ByteArray) (p:D):Bool:=(p.f 1).s.toList==on.toList&&(p.f 5).s.toList==[]
def selsI (f:D->D) (on:ByteArray) (l:List D):Nat->Nat->List D
 |0,_=>[]
 |k+1,i =>
  if i<l.length then
   if zB2 on (gD l i)=true then f (gD l i)::selsI f on l k (i+1)
   else inlD (gD l i) (grpI f l (gD l i) l.length i)::selsI f on l k (i+(grpI f l (gD l i) l.length i).length)
  else []
theorem zCX {f:D->D} {on:ByteArray} {l:List D} {k i:Nat} (h : ¬ i<l.length):selsI f on l k i=[]:=by
 cases k with
 |zero=>rfl
 |succ k=>unfold selsI;rw [if_neg h]
theorem zBQ {f:D->D} {on:ByteArray} {l:List D} {k i:Nat} (h:i<l.length) (hp:zB2 on (gD l i)=true):selsI f on l (k+1) i=f (gD l i)::selsI f on l k (i+1):=by
 rw [selsI,if_pos h,if_pos hp]
theorem zCW {f:D->D} {on:ByteArray} {l:List D} {k i:Nat} (h:i<l.length) (hp:zB2 on (gD l i)=false):selsI f on l (k+1) i=inlD (gD l i) (grpI f l (gD l i) l.length i)::selsI f on l k (i+(grpI f l (gD l i) l.length i).length):=by
 rw [selsI,if_pos h,if_neg (by rw [hp];decide)]
theorem zKx {f:D->D} {l:List D} {i:Nat} (h:i<l.length):0<(grpI f l (gD l i) l.length i).length:=by
 obtain ⟨n,hn⟩ : ∃ n,l.length=n+1:=⟨l.length-1,by omega⟩
 rw [hn,zDl ⟨h,zFg _⟩]
 exact Nat.succ_pos _
def pkS:Nat->ByteArray->List D->List D
 |0,_,_=>[]
 |k+1,on,l=>selsI (zBi (pkS k)) on l l.length 0
def zDV (k:Int):ByteArray:=
 if k=1 then ⟨#[81,117,101,114,121]⟩ else if k=2 then ⟨#[77,117,116,97,116,105,111,110]⟩ else if k=3 then ⟨#[83,117,98,115,99,114,105,112,116,105,111,110]⟩ else ⟨#[]⟩
def zD8:D:=sD31 1 ⟨#[]⟩ ⟨#[95,95,116,121,112,101,110,97,109,101]⟩ ⟨#[]⟩ [] [dD31 ⟨#[115,107,105,112]⟩ [sArg ⟨#[105,102]⟩ (vD31 1 1 ⟨#[]⟩)]] []
end Go.Proofs.YthjiclhfhjdjpaaGreatDoor
