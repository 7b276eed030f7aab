import Derived.Deep.Slices
import Derived.Deep.Fields
import Derived.Deep.Onto
import Derived.Test.YthjiclhfhjdjpaaGreatDoorQ1
set_option linter.unusedVariables false
set_option linter.unusedSimpArgs false
namespace Go.Proofs.YthjiclhfhjdjpaaGreatDoor
open Go.RowKit
inductive D where
 |int (n:Int)
 |bool (b:Bool)
 |str (s:ByteArray)
 |list (l:List D)
 |obj (l:List D)
instance:Inhabited D:=⟨.obj []⟩
def D.n:D->Int
 |.int n=>n
 |_=>0
def D.b:D->Bool
 |.bool b=>b
 |_=>false
def D.s:D->ByteArray
 |.str s=>s
 |_ => { data:=#[] }
def D.l:D->List D
 |.list l=>l
 |_=>[]
def gD (l:List D) (i:Nat):D:=l.getD i default
def D.f:D->Nat->D
 |.obj l,i=>gD l i
 |_,_=>default
theorem zAQ {l:List D} {i:Nat} (h:i<l.length):gD l i=l[i]:=by simp [gD,List.getElem?_eq_getElem h]
theorem gD_left {l m:List D} {i:Nat} (h:i<l.length):gD (l++m) i=gD l i:=by simp [gD,List.getElem?_append_left h]
theorem gD_mem {l:List D} {i:Nat} (h:i<l.length):gD l i∈l:=by rw [zAQ h];exact List.getElem_mem h
def Rep (P:Program) (w:World) (I:Nat->Prop):Nat->TypeId->List Value->D->Prop
 |0,_,_,_=>False
 |k+1,t,cs,d =>
  match P.underlying t with
  |some .bool=>cs=[.bool d.b]
  |some (.int q)=>cs=[.int q d.n]/\(Lit.int q d.n).wf=true
  |some .string=>cs=[.string d.s]/\d.s.size<=maxLen
  |some (.slice e) => ∃ A c,cs=[.slice A d.l.length c]/\d.l.length<=c/\c<=maxLen/\(A=none->c=0)/\(0<d.l.length->0<P.cellsOf e -> ∃ b off,A=some ⟨b,off,none⟩/\I b /\ ∀ i,i<d.l.length -> ∃ ys,ys.length=P.cellsOf e/\(∀ j u,ys[j]? = some u->w.cell? ⟨b,off+i*P.cellsOf e+j,none⟩=some u)/\Rep P w I k e ys (gD d.l i))
  |some (.struct fs)=>cs.length=P.cellsOf t /\ ∀ j f,fs[j]? = some f->Rep P w I k f.type ((cs.drop f.offset).take (P.cellsOf f.type)) (d.f j)
  |_=>True
def Sl (P:Program) (w:World) (I:Nat->Prop) (k:Nat) (e:TypeId) (A:Option Addr) (l:List D):Prop:=
 0<l.length->0<P.cellsOf e -> ∃ b off,A=some ⟨b,off,none⟩/\I b /\ ∀ i,i<l.length -> ∃ ys,ys.length=P.cellsOf e/\(∀ j u,ys[j]? = some u->w.cell? ⟨b,off+i*P.cellsOf e+j,none⟩=some u)/\Rep P w I k e ys (gD l i)
variable {P:Program} {w w':World} {I J:Nat->Prop}
theorem Sl.nil (k:Nat) (e:TypeId) (A:Option Addr):Sl P w I k e A []:=fun h=>absurd h (by simp)
theorem Rep.mk_int {k:Nat} {t:TypeId} {q:IntKind} {n:Int} (ht:P.underlying t=some (.int q)) (hw:(Lit.int q n).wf=true):Rep P w I (k+1) t [.int q n] (.int n):=by
 unfold Rep;rw [ht];exact ⟨rfl,hw⟩
theorem Rep.mk_bool {k:Nat} {t:TypeId} {b:Bool} (ht:P.underlying t=some .bool):Rep P w I (k+1) t [.bool b] (.bool b):=by
 unfold Rep;rw [ht];rfl
theorem Rep.mk_str {k:Nat} {t:TypeId} {s:ByteArray} (ht:P.underlying t=some .string) (hs:s.size<=maxLen):Rep P w I (k+1) t [.string s] (.str s):=by
 unfold Rep;rw [ht];exact ⟨rfl,hs⟩
theorem Rep.mk_slice {k:Nat} {t e:TypeId} {A:Option Addr} {c n:Nat} {l:List D} (ht:P.underlying t=some (.slice e)) (hn:n=l.length) (h1:l.length<=c) (h2:c<=maxLen) (h3:A=none->c=0) (h:Sl P w I k e A l):Rep P w I (k+1) t [.slice A n c] (.list l):=by
 subst hn
 unfold Rep;rw [ht];exact ⟨A,c,rfl,h1,h2,h3,h⟩
theorem Rep.mk_struct {k:Nat} {t:TypeId} {fs:Array Field} {cs:List Value} {ds:List D} (ht:P.underlying t=some (.struct fs)) (hl:cs.length=P.cellsOf t)
 (h : ∀ j f,fs[j]? = some f->Rep P w I k f.type ((cs.drop f.offset).take (P.cellsOf f.type)) (gD ds j)):Rep P w I (k+1) t cs (.obj ds):=by
 unfold Rep;rw [ht];exact ⟨hl,h⟩
theorem zF8 {n:Nat} {p:Nat->D->Prop} (h : ∀ i,i<n -> ∃ x,p i x) : ∃ l:List D,l.length=n /\ ∀ i,i<n->p i (gD l i):=by
 obtain ⟨f,hf⟩:=Deep.choose_lt h
 refine ⟨(List.range n).map f,by simp,fun i hi => ?_⟩
 have:gD ((List.range n).map f) i=f i:=by simp [gD,hi]
 rw [this];exact hf i hi
end Go.Proofs.YthjiclhfhjdjpaaGreatDoor
