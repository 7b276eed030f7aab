import Derived.Test.YtdlnnlglmifceaaDoorCards
import Derived.Test.YtdlnnlglmifceaaDoorTie
import Derived.ProofKit
import Derived.OpenShut
import Derived.Deep.DeepHandedRow
import Derived.Test.YtdlnnlglmifceaaDoorQ27
set_option maxHeartbeats 8000000
set_option maxRecDepth 100000
set_option linter.unusedVariables false
set_option linter.unusedSimpArgs false
namespace Go.Proofs.YtdlnnlglmifceaaDoor
open Go.ChangeShapes Go.WideShapes Go.ChangeAt Go.RowKit
attribute [local irreducible] wpList Calls Code.wp
theorem own : ownKnob Tryd.prog.godebug = none:=by kernel_rfl
theorem laidOut' : laidOutB Tryd.prog = true:=by kernel_rfl
theorem gPow : Tryd.prog.globalNamed "internal/strconv.uint64pow10" = some 1 := by kernel_rfl
theorem tab_of_row {P : Program} {W : World} {g : Nat} {n : String} {t e : TypeId} {m : Nat} {k : IntKind} {zs : List Int} (hg : P.globalNamed n = some g) (hty : (P.globals[g]?).map (·.type) = some t) (ht : P.underlying t = some (.array m e)) (he : P.underlying e = some (.int k)) (hce : P.cellsOf e = 1) (hct : P.cellsOf t = m)
 (h : ∃ g t cs fuel p,P.globalNamed n = some g /\ (P.globals[g]?).map (·.type) = some t /\ W.var? P n = some cs /\ DataW.trod (fun _ => ()) P W 0 (fun _ => true) false fuel t cs.toList = some (Lib.tabData k zs,p)) : Lib.TabIs P W n k zs:=by
 obtain ⟨g',t',cs,fuel,p,hg',ht',hvar,hd⟩:=h
 obtain rfl:=Option.some.inj (hg.symm.trans hg')
 obtain rfl:=Option.some.inj (hty.symm.trans ht')
 unfold Lib.TabIs
 rw [hvar,<- Lib.cells_of_tab ht he hce hct hd]
theorem gPowT : (Tryd.prog.globals[1]?).map (·.type) = some 124:=by kernel_rfl
theorem types_ok (ts : List TypeId) (h : (ts.all fun t => Tryd.prog.readableRec t && decide (t < Tryd.prog.types.size)) = true) : ∀ t ∈ ts,Tryd.prog.readableRec t = true /\ t < Tryd.prog.types.size:=by
 intro t ht
 have:=List.all_eq_true.1 h t ht
 simpa using this
def tab32 : List Int:=[0,1,28,2,29,14,24,3,30,22,20,15,25,17,4,8,31,27,13,23,21,19,16,7,26,12,18,6,11,5,10,9]
def tab64 : List Int:=[0,1,56,2,57,49,28,3,61,58,42,50,38,29,17,4,62,47,59,36,45,43,51,22,53,39,33,30,24,18,12,5,63,55,48,27,60,41,37,16,46,35,44,21,52,32,23,11,54,26,40,15,34,20,31,10,25,14,19,9,13,8,7,6]
def relay (cs : Array Value) : Obj -> Obj
 | .cells _ t frozen => .cells cs t frozen
 | o => o
end Go.Proofs.YtdlnnlglmifceaaDoor
namespace Go.Proofs.YtdlnnlglmifceaaDoor
open Go.RowKit
attribute [local irreducible] wpList Calls Code.wp
structure Rn (l : List UInt8) (d : ByteArray) (ng : Bool) : Prop where
 empty : d.size = 0 -> numU l = Lib.NumEnd.syntax
 zero : 0 < d.size -> bV d 0 = 48 -> (1 < d.size \/ ng = true) -> numU l = Lib.NumEnd.syntax
 bad : ∀ x,x < d.size -> digB (bV d x) = false -> numU l = Lib.NumEnd.syntax
 good : 0 < d.size -> ¬ (bV d 0 = 48 /\ (1 < d.size \/ ng = true)) -> (∀ k,k < d.size -> digB (bV d k) = true) ->
  numU l = if ng = true then (if decV 0 (tk d d.size) <= 9223372036854775808 then .ok (-(decV 0 (tk d d.size) : Int)) else .range) else if decV 0 (tk d d.size) < 9223372036854775808 then .ok (decV 0 (tk d d.size)) else .range
 mono : ∀ m,decV 0 (tk d m) <= decV 0 (tk d d.size)
theorem str_arg {P : Program} {s : Sg} {w : World} {x : ByteArray} {us : Array Value} (h : relL P s w [.c (.string x)] us.toList) : us = #[.string x] /\ x.size <= maxLen:=by
 obtain ⟨u,rfl,h1⟩:=zHA h
 rw [rel] at h1
 exact ⟨by rw [h1.1],h1.2⟩
end Go.Proofs.YtdlnnlglmifceaaDoor
namespace Go.Proofs.YtdlnnlglmifceaaDoor
open Go.RowKit
attribute [local irreducible] wpList Calls Code.wp AW AWo OpOk seqK zAf zAj loopK endK AC zAH Yld Sub
attribute [local irreducible] ACB ACX YldG
section
variable {X : Cx} {nn : Nat} {st : Vst nn} {K : Exit -> Vst nn -> Prop}
theorem zG {c : Operand} {x y : Code} {b : Bool} (hc : ev st c = .c (.bool b)) (hb : b = true) (ht : AW X x st K) : AW X (.cond c x y) st K:=zd hc (fun _ => ht) (fun e => by rw [hb] at e; cases e)
theorem zF {c : Operand} {x y : Code} {b : Bool} (hc : ev st c = .c (.bool b)) (hb : b = false) (ht : AW X y st K) : AW X (.cond c x y) st K:=zd hc (fun e => by rw [hb] at e; cases e) (fun _ => ht)
end
end Go.Proofs.YtdlnnlglmifceaaDoor
namespace Go.Proofs.YtdlnnlglmifceaaDoor
def maxN (f : Nat -> Nat) : Nat -> Nat
 | 0 => 0
 | n + 1 => max (maxN f n) (f n)
def sizeR : Nat -> D -> Nat
 | 0,_ => 1
 | k + 1,d => 1 + sumN (fun i => sizeR k (gD (d.f 3).l i)) (d.f 3).l.length
def depthR : Nat -> D -> Nat
 | 0,_ => 1
 | k + 1,d => maxN (fun i => depthR k (gD (d.f 3).l i)) (d.f 3).l.length + 1
def strsR (d : D) : List (List UInt8):=(d.f 4).l.map fun x => x.s.data.toList
def enumR (s : ByteArray) : Bool:=nameB s && !(s.data.toList == [116,114,117,101]) && !(s.data.toList == [102,97,108,115,101]) && !(s.data.toList == [110,117,108,108])
def nodeK (n i : Int) (t : Bool) (a b : Nat) (x v ks y : Bool) : Bool:=
 (n == 1 || n == 2 || i == 0) && (n == 3 || n == 4 || n == 7 || t) && (n == 6 || a == 0) && (n == 6 || n == 5 || b == 0) && decide (0 <= n /\ n <= 7) && (!(n == 1) || i == 0 || i == 1) && (!(n == 4) || x) && (!(n == 7) || v) && (!(n == 6) || (ks && a == b && y))
def zFv (d : D) : Bool:=
 nodeK (d.f 0).n (d.f 1).n ((d.f 2).s.data.toList == []) (d.f 4).l.length (d.f 3).l.length (enumR (d.f 2).s) (nameB (d.f 2).s) (!((d.f 4).l.any fun x => !nameB x.s)) (decide (strsR d).Nodup)
def everyL : Nat -> D -> Bool
 | 0,_ => false
 | k + 1,d => zFv d && !((d.f 3).l.any fun x => !everyL k x)
def litR (d : D) : Bool:=decide (sizeR (bulkD d) d <= 4096) && decide (depthR (bulkD d) d <= 24) && everyL (bulkD d) d
def bareR : Nat -> D -> Bool
 | 0,_ => false
 | k + 1,d => !((d.f 0).n == 7) && !((d.f 3).l.any fun x => !bareR k x)
def argR (d : D) : Bool:=nameB (d.f 0).s && litR (d.f 1)
def zEn (l : List D) : Bool:=decide (l.length <= 16) && !(l.any fun x => !argR x)
def dirR (d : D) : Bool:=nameB (d.f 0).s && zEn (d.f 1).l
def zF7 (l : List D) : Bool:=decide (l.length <= 16) && !(l.any fun x => !dirR x)
def titleR (s : ByteArray) : Bool:=nameB s && !(s.data.toList == [111,110])
def zHF (s : ByteArray) : Bool:=s.data.toList == []
def selsR (sel : D -> Bool) (l : List D) (least lv : Nat) : Bool:=decide (least <= l.length) && decide (l.length <= 64) && (decide (l.length = 0) || decide (lv <= 24)) && !(l.any fun x => !sel x)
def selR : Nat -> Nat -> D -> Bool
 | 0,_,_ => false
 | k + 1,lv,d => zEn (d.f 4).l && zF7 (d.f 5).l &&
   (if (d.f 0).n = 1 then zHF (d.f 3).s && nameB (d.f 2).s && (zHF (d.f 1).s || nameB (d.f 1).s) && selsR (selR k (lv + 1)) (d.f 6).l 0 (lv + 1)
   else if (d.f 0).n = 2 then zHF (d.f 3).s && zHF (d.f 1).s && decide ((d.f 4).l.length = 0) && decide ((d.f 6).l.length = 0) && titleR (d.f 2).s
   else if (d.f 0).n = 3 then zHF (d.f 1).s && zHF (d.f 2).s && decide ((d.f 4).l.length = 0) && (zHF (d.f 3).s || nameB (d.f 3).s) && selsR (selR k (lv + 1)) (d.f 6).l 1 (lv + 1)
   else false)
def zCH : List Int -> Bool
 | [] => true
 | [w] => w == 1 || w == 2
 | w :: v :: r => (w == 1 || w == 2) && !(w == 1 && v == 1) && zCH (v :: r)
def refR (d : D) : Bool:=nameB (d.f 0).s && decide ((d.f 1).l.length <= 24) && zCH ((d.f 1).l.map D.n)
end Go.Proofs.YtdlnnlglmifceaaDoor
namespace Go.Proofs.YtdlnnlglmifceaaDoor
open Go.RowKit
set_option linter.unusedSectionVars false
section
variable {X : Cx} {nn : Nat} {st : Vst nn} {o : Oper} {ops : Array Oper} {l : List Oper} {dst : Option Tmp} {KK : Vst nn -> Prop}
theorem s_max {k : IntKind} {a b : Int} {x y : Operand} {ts : Array TypeId} (hg : o.guard = none) (ho : o.op = .call { callee:=.builtin .max,args:=#[x,y],argTypes:=ts }) (hd : o.dst = dst) (hx : ev st x = .c (.int k a)) (hy : ev st y = .c (.int k b)) (hK : AWo X ops l (st.put dst (.c (.int k (if a < b then b else a)))) KK) : AWo X ops (o :: l) st KK:=by
 refine zAs hg ?_
 intro s w a' hI N Q hP hN
 have r1:=hI.ev x
 have r2:=hI.ev y
 rw [hx,rel] at r1
 rw [hy,rel] at r2
 have h1 : (execOp a'.eval o).run X.P w = .ok (.value (.int k (if a < b then b else a))) w:=by
  simp [execOp,ho,resolve,invoke,builtin,Builtin.max_,Builtin.max2,r1.1,r2.1]
 unfold Oper.wp
 rw [h1,Oper.upon_value]
 refine hN _ _ _ _ (hI.put o.dst ?_) (by rw [hd]; exact hK)
 rw [rel]
 refine ⟨rfl,?_⟩
 split
 . exact r2.2
 . exact r1.2
end
attribute [local irreducible] wpList Calls Code.wp AW AWo OpOk seqK zAf zAj loopK endK AC zAH Yld Sub
attribute [local irreducible] ACB ACX YldG
structure BkIn (d : D) (B : Nat) : Prop where
 text : (d.f 2).s.size <= B
 keys : (d.f 4).l.length <= B
 items : (d.f 3).l.length <= B
 at_ : ∀ i,i < (d.f 3).l.length -> bulkD (gD (d.f 3).l i) < bulkD d
 key : ∀ i,i < (d.f 4).l.length -> (gD (d.f 4).l i).s.size <= B
theorem zEl : ∀ l : List D,l.length <= bulkL l
 | [] => Nat.le_refl _
 | x :: r => by
   have:=zEl r
   have:=zA2 x
   simp only [bulkL,List.length_cons]; omega
theorem bk_in {d : D} {B : Nat} (h : bulkD d <= B) : BkIn d B:=by
 have h0:=zy d
 have h2:=zAv (d.f 2)
 have h2':=wD_f d 2
 have h3:=zAE (d.f 3)
 have h3':=wD_f d 3
 have h4:=zAE (d.f 4)
 have h4':=wD_f d 4
 have l3:=zEl (d.f 3).l
 have l4:=zEl (d.f 4).l
 refine ⟨by omega,by omega,by omega,fun i hi => by have:=zBq hi; omega,fun i hi => ?_⟩
 have:=zBq hi
 have:=zAv (gD (d.f 4).l i)
 have:=zy (gD (d.f 4).l i)
 omega
theorem zHm : ∀ (k : Nat) (d : D),sizeR k d <= bulkD d
 | 0,d => zA2 d
 | k + 1,d => by
   have h:=zCQ (f:=fun i => sizeR k (gD (d.f 3).l i)) (g:=fun i => bulkD (gD (d.f 3).l i)) (n:=(d.f 3).l.length) fun i _ => zHm k _
   rw [<- zAy] at h
   have h3:=zAE (d.f 3)
   have h3':=wD_f d 3
   have h0:=zy d
   show 1 + sumN (fun i => sizeR k (gD (d.f 3).l i)) (d.f 3).l.length <= _
   omega
theorem maxN_le {g : Nat -> Nat} {B : Nat} : ∀ {n : Nat},(∀ i,i < n -> g i <= B) -> maxN g n <= B
 | 0,_ => Nat.zero_le _
 | n + 1,h => Nat.max_le.2 ⟨maxN_le fun i hi => h i (by omega),h n (by omega)⟩
theorem zGu : ∀ (k : Nat) (d : D),depthR k d <= bulkD d
 | 0,d => zA2 d
 | k + 1,d => by
   have h : maxN (fun i => depthR k (gD (d.f 3).l i)) (d.f 3).l.length <= bulkL (d.f 3).l:=maxN_le fun i hi => Nat.le_trans (zGu k _) (zAa hi)
   have h3:=zAE (d.f 3)
   have h3':=wD_f d 3
   have h0:=zy d
   show maxN (fun i => depthR k (gD (d.f 3).l i)) (d.f 3).l.length + 1 <= _
   omega
theorem max_i (a b : Nat) : (if (a : Int) < (b : Int) then (b : Int) else (a : Int)) = ((max a b : Nat) : Int):=by
 split <;> omega
end Go.Proofs.YtdlnnlglmifceaaDoor
namespace Go.Proofs.YtdlnnlglmifceaaDoor
open Go.RowKit
set_option linter.unusedSectionVars false
attribute [local irreducible] wpList Calls Code.wp AW AWo OpOk seqK zAf zAj loopK endK AC zAH Yld Sub
attribute [local irreducible] ACB ACX YldG absLexH
theorem zx {i n : Nat} (h : i < n) : 0 <= (i : Int) /\ (i : Int) < (n : Int):=⟨Int.natCast_nonneg i,Int.ofNat_lt.2 h⟩
end Go.Proofs.YtdlnnlglmifceaaDoor
namespace Go.Proofs.YtdlnnlglmifceaaDoor
open Go.RowKit
attribute [local irreducible] wpList Calls Code.wp
def LenT (P : Program) : Nat -> TypeId -> D -> Prop
 | 0,_,_ => True
 | n + 1,t,d =>
   match P.underlying t with
   | some .string => d.s.size <= maxLen
   | some (.slice e) => d.l.length <= maxLen /\ (0 < P.cellsOf e -> ∀ i,i < d.l.length -> LenT P n e (gD d.l i))
   | some (.struct fs) => ∀ j f,fs[j]? = some f -> LenT P n f.type (d.f j)
   | _ => True
section
variable {P : Program} {s : Sg} {w : World}
theorem RepF.len {F : Nat -> Nat -> Prop} : ∀ (n : Nat) {k : Nat} {t : TypeId} {cs : List Value} {d : D},RepF P w F k t cs d -> LenT P n t d
 | 0,_,_,_,_,_ => trivial
 | n + 1,0,_,_,_,h => h.elim
 | n + 1,k + 1,t,cs,d,h => by
   unfold RepF at h
   unfold LenT
   split <;> rename_i hu <;> try simp only [hu] at h
   . exact h.2
   . obtain ⟨A,c,h1,h2,h3,h4,h5⟩:=h
     refine ⟨Nat.le_trans h2 h3,fun hc i hi => ?_⟩
     obtain ⟨b,off,hA,hat⟩:=h5 (by omega) hc
     obtain ⟨ys,y1,y2,y3⟩:=hat i hi
     exact RepF.len n y3
   . exact fun j f hf => RepF.len n (h.2 j f hf)
   . trivial
theorem SlV.len {F : Nat -> Nat -> Prop} (n : Nat) {e : TypeId} {l : List D} {u : Value} (h : SlV P w F e l u) : l.length <= maxLen /\ (0 < P.cellsOf e -> ∀ i,i < l.length -> LenT P n e (gD l i)):=by
 obtain ⟨k,A,c,h1,h2,h3,h4,h5⟩:=h
 refine ⟨Nat.le_trans h2 h3,fun hc i hi => ?_⟩
 obtain ⟨b,off,hA,hat⟩:=h5 (by omega) hc
 obtain ⟨ys,y1,y2,y3⟩:=hat i hi
 exact y3.len n
mutual
theorem zGx : ∀ (m n : Nat) (t : TypeId) (d : D) (cs : List Value),layB P m t = true -> relL P s w (cellsV P m t d) cs -> LenT P n t d
 | 0,_,_,_,_,hb,_ => by simp [layB] at hb
 | m + 1,0,_,_,_,_,_ => trivial
 | m + 1,n + 1,t,d,cs,hb,h => by
   unfold LenT
   unfold layB at hb
   unfold cellsV at h
   split <;> rename_i hu <;> try simp only [hu] at h hb
   . cases cs with
     | nil => simp [relL] at h
     | cons c cs => rw [relL,rel] at h; exact h.1.2
   . cases cs with
     | nil => simp [relL] at h
     | cons c cs => rw [relL,rel] at h; exact h.1.len n
   . rename_i fs
     simp only [Bool.and_eq_true,beq_iff_eq] at hb
     intro j f hf
     have:=zFL m n fs.toList 0 d cs hb.2 h j f (by simpa using hf)
     simpa using this
   . trivial
theorem zFL : ∀ (m n : Nat) (fs : List Field) (j : Nat) (d : D) (cs : List Value),(fs.all fun f => layB P m f.type) = true -> relL P s w (zBZ (cellsV P m) fs j d) cs -> ∀ i f,fs[i]? = some f -> LenT P n f.type (d.f (j + i))
 | m,n,[],j,d,cs,_,_,i,f,hf => by simp at hf
 | m,n,g :: fs,j,d,cs,hb,h,i,f,hf => by
   rw [zBZ] at h
   simp only [List.all_cons,Bool.and_eq_true] at hb
   obtain ⟨h1,h2⟩:=relL.split h
   cases i with
   | zero =>
     simp at hf
     subst hf
     exact zGx m n g.type (d.f j) _ hb.1 h1
   | succ i =>
     have:=zFL m n fs (j + 1) d _ hb.2 h2 i f (by simpa using hf)
     rwa [show j + 1 + i = j + (i + 1) by omega] at this
end
end
theorem ac_pre {e : Ge} {P : Program} {f : FuncId} {args : List V} {r : V} {p : Prop} (hp : ∀ s w us,relL P s w args us -> p) (h : p -> AC e P f args r) : AC e P f args r:=fun s w us hr hx he => h (hp s w us.toList hr) s w us hr hx he
theorem ac_sl {e : Ge} {P : Program} {f : FuncId} {t : TypeId} {l : List D} {args : List V} {r : V} (n : Nat) (h : l.length <= maxLen /\ (0 < P.cellsOf t -> ∀ i,i < l.length -> LenT P n t (gD l i)) -> AC e P f (.sl t l :: args) r) : AC e P f (.sl t l :: args) r:=
 ac_pre (fun s w us hr => by
  cases us with
  | nil => simp [relL] at hr
  | cons u us => rw [relL,rel] at hr; exact hr.1.len n) h
theorem zFZ {e : Ge} {P : Program} {f : FuncId} {t : TypeId} {d : D} {args : List V} {r : V} (n : Nat) (hb : layB P 12 t = true) (h : LenT P n t d -> AC e P f (.agg (cellsV P 12 t d) :: args) r) : AC e P f (.agg (cellsV P 12 t d) :: args) r:=
 ac_pre (fun s w us hr => by
  cases us with
  | nil => simp [relL] at hr
  | cons u us =>
    rw [relL,rel] at hr
    obtain ⟨⟨cs,-,h1⟩,-⟩:=hr
    exact zGx 12 n t d cs.toList hb h1) h
end Go.Proofs.YtdlnnlglmifceaaDoor
namespace Go.Proofs.YtdlnnlglmifceaaDoor
open Go.RowKit
set_option linter.unusedSectionVars false
theorem LenT.fld {P : Program} {n : Nat} {t : TypeId} {d : D} {fs : Array Field} {f : Field} (j : Nat) (hu : P.underlying t = some (.struct fs)) (hf : fs[j]? = some f) (h : LenT P (n + 1) t d) : LenT P n f.type (d.f j):=by
 unfold LenT at h
 rw [hu] at h
 exact h j f hf
theorem LenT.lst {P : Program} {n : Nat} {t e : TypeId} {d : D} (hu : P.underlying t = some (.slice e)) (h : LenT P (n + 1) t d) : d.l.length <= maxLen /\ (0 < P.cellsOf e -> ∀ i,i < d.l.length -> LenT P n e (gD d.l i)):=by
 unfold LenT at h
 rw [hu] at h
 exact h
theorem len_ref {n : Nat} {d : D} (h : LenT Tryd.prog (n + 2) 38 d) : (d.f 1).l.length <= maxLen:=(LenT.lst (t:=36) (e:=3) (by kernel_rfl) (LenT.fld 1 (fs:=Tryd.prog.fieldsOf 38) (f:=(Tryd.prog.fieldsOf 38)[1]!) (by kernel_rfl) (by kernel_rfl) h)).1
theorem zEP {n : Nat} {d : D} (h : LenT Tryd.prog (n + 2) 44 d) : (d.f 3).l.length <= maxLen /\ (d.f 4).l.length <= maxLen:=
 ⟨(LenT.lst (t:=42) (e:=44) (by kernel_rfl) (LenT.fld 3 (fs:=Tryd.prog.fieldsOf 44) (f:=(Tryd.prog.fieldsOf 44)[3]!) (by kernel_rfl) (by kernel_rfl) h)).1,
  (LenT.lst (t:=29) (e:=9) (by kernel_rfl) (LenT.fld 4 (fs:=Tryd.prog.fieldsOf 44) (f:=(Tryd.prog.fieldsOf 44)[4]!) (by kernel_rfl) (by kernel_rfl) h)).1⟩
attribute [local irreducible] wpList Calls Code.wp AW AWo OpOk seqK zAf zAj loopK endK AC zAH Yld Sub
attribute [local irreducible] ACB ACX YldG absLexH
end Go.Proofs.YtdlnnlglmifceaaDoor
namespace Go.Proofs.YtdlnnlglmifceaaDoor
open Go.RowKit
set_option linter.unusedSectionVars false
theorem len_dir {n : Nat} {d : D} (h : LenT Tryd.prog (n + 2) 64 d) : (d.f 1).l.length <= maxLen:=(LenT.lst (t:=62) (e:=67) (by kernel_rfl) (LenT.fld 1 (fs:=Tryd.prog.fieldsOf 64) (f:=(Tryd.prog.fieldsOf 64)[1]!) (by kernel_rfl) (by kernel_rfl) h)).1
theorem len_doc {n : Nat} {d : D} (h : LenT Tryd.prog (n + 2) 24 d) : (d.f 0).l.length <= maxLen:=(LenT.lst (t:=22) (e:=35) (by kernel_rfl) (LenT.fld 0 (fs:=Tryd.prog.fieldsOf 24) (f:=(Tryd.prog.fieldsOf 24)[0]!) (by kernel_rfl) (by kernel_rfl) h)).1
attribute [local irreducible] wpList Calls Code.wp AW AWo OpOk seqK zAf zAj loopK endK AC zAH Yld Sub
attribute [local irreducible] ACB ACX YldG absLexH
theorem eqs_f (s : ByteArray) : (!(s.toList == s.toList)) = false:=by simp
theorem eqs_k (s : ByteArray) (h : ((!(s.toList == s.toList)) == false) = false) : False:=by simp at h
theorem zF5 (n : Int) : (n != n) = false:=by simp
theorem eqn_k (n : Int) (h : ((n != n) == false) = false) : False:=by simp at h
theorem zHU (h : ((!true) == false) = false) : False:=by cases h
theorem zDc : (!true) = false:=rfl
end Go.Proofs.YtdlnnlglmifceaaDoor
