import Derived.Maps.OwnOps
import Derived.Maps.Views
import Derived.Test.YtdlnnlglmifceaaGreatDoorQ28
set_option maxHeartbeats 8000000
set_option maxRecDepth 100000
set_option linter.unusedVariables false
set_option linter.unusedSimpArgs false
namespace Go.Proofs.YtdlnnlglmifceaaGreatDoor
open Go.RowKit Go.WideMaps Go.Maps
attribute [local irreducible] wpList Calls Code.wp
def Rs (w : World) (e : TypeId) (A : Option Addr) (l : List D) : Prop:=∃ k,Sl Tryz.prog w (fun b => b < w.heap.size) k e A l
theorem klawS : Keyed Tryz.prog 9:=string_keyed Tryz.underlying9
theorem zeroB (w : World) : (zeroValue 4).run Tryz.prog w = .ok (.bool false) w:=by kernel_rfl
theorem zCx {H : Type} {P : Program} {e : TypeId} (he : P.underlying e = some .bool) {v : Value} {z : DataW H × List MemPlace} (h : plainElem P e v = some z) : ∃ b,v = .bool b /\ z = (.lit (.bool b),[]):=by
 unfold plainElem at h
 rw [he] at h
 cases v <;> simp at h
 exact ⟨_,rfl,h.symm⟩
def SetIs (M : DataW Unit) (l : List (List UInt8)) : Prop:=IsMap M /\ ∀ u : List UInt8,M.atKey (.string u) (.lit (.bool false)) = .lit (.bool (decide (u ∈ l)))
theorem setIs_nil : SetIs (.map []) []:=⟨isMap_empty,fun u => by
 rw [decide_eq_false (by simp)]; rfl⟩
theorem setIs_put {M : DataW Unit} {l : List (List UInt8)} (h : SetIs M l) (u : List UInt8) : SetIs (M.put (.string u) (.lit (.bool true))) (l ++ [u]):=
 ⟨h.1.put _ _,fun v => by
   by_cases e : v = u
   . subst e
     rw [atKey_put_same h.1 (show WideAt.IsKeyLit (.string v) from trivial),decide_eq_true (by simp)]
   . rw [atKey_put_other (fun hh => e (by injection hh)),h.2 v]
     congr 2
     simp [e]⟩
theorem zBB {P : Program} (w : World) {ops : Array Oper} {rest : List Oper} {o : Oper} {a : Act} {Q : Exit -> Act -> World -> Prop}
 (hg : o.guard = none) (m x : Operand) (t : TypeId) (hop : o.op = Op.lookup t m x false)
 (k e : TypeId) (K : Keyed P k) (ht : P.underlying t = some (.map k e)) (he : P.underlying e = some .bool) (hz : (zeroValue e).run P w = .ok (.bool false) w) (b n : Nat) (M : DataW Unit) (l : List (List UInt8)) (hD : SetIs M l)
 (hm : a.eval m = .map (some b)) (hown : w.ownsMap P k (plainElem P e) b n M) (u : ByteArray) (hx : a.eval x = .string u) (hkey : keyOf P k (.string u) = some (.string u.data.toList))
 (hK : wpList P ops Q rest (a.put o.dst (.bool (decide (u.data.toList ∈ l)))) w) :
 wpList P ops Q (o :: rest) a w:=by
 refine wpList_plain hg fun K' hK' => ?_
 obtain ⟨v,ps,hrun,hv⟩:=hown.lookup K ht hz (plainElem_bool he false) hkey
 obtain ⟨c,rfl,hc⟩:=zCx he hv
 simp only [Prod.mk.injEq] at hc
 have hat:=hD.2 u.data.toList
 rw [hc.1] at hat
 have hcc : c = decide (u.data.toList ∈ l):=by injection hat with h1; injection h1
 subst hcc
 unfold Oper.wp
 simp [execOp,hop,hm,hx,hrun,Result.andThen]
 exact hK' _ _ (by simpa using hK)
def su (d : D) : List UInt8:=d.s.data.toList
def twiceB : List (List UInt8) -> List D -> Bool
 | _,[] => false
 | seen,x :: r => decide (su x ∈ seen) || twiceB (seen ++ [su x]) r
theorem str_at {w : World} {A : Option Addr} {l : List D} (h : Rs w 9 A l) (hp : 0 < l.length) : ∃ b off,A = some ⟨b,off,none⟩ /\ b < w.heap.size /\ ∀ i,i < l.length -> w.cell? ⟨b,off + i,none⟩ = some (.string (gD l i).s) /\ (gD l i).s.size <= maxLen:=by
 obtain ⟨k,h⟩:=h
 obtain ⟨b,off,hA,hb,hi⟩:=h hp (by rw [show Tryz.prog.cellsOf 9 = 1 by kernel_rfl]; omega)
 refine ⟨b,off,hA,hb,fun i hil => ?_⟩
 obtain ⟨ys,y1,y2,y3⟩:=hi i hil
 rw [show Tryz.prog.cellsOf 9 = 1 by kernel_rfl] at y2
 obtain ⟨rfl,hs⟩:=y3.str Tryz.underlying9
 have:=y2 0 _ rfl
 rw [Nat.mul_one,Nat.add_zero] at this
 exact ⟨this,hs⟩
theorem seen_at (l : List D) (m : Nat) (h : m < l.length) : (l.map su).take (m + 1) = (l.map su).take m ++ [su (gD l m)]:=by
 rw [List.take_succ_eq_append_getElem (by simpa using h),List.getElem_map,zBr h]
theorem twice_go {l : List D} {m : Nat} (h : m < l.length) : twiceB ((l.map su).take m) (l.drop m) = (decide (su (gD l m) ∈ (l.map su).take m) || twiceB ((l.map su).take (m + 1)) (l.drop (m + 1))):=by
 have e : l.drop m = gD l m :: l.drop (m + 1):=by rw [List.drop_eq_getElem_cons h,zBr h]
 rw [e,twiceB,seen_at l m h]
theorem twiceP (A : Option Addr) (l : List D) (c : Nat) (w0 w : World) (h0 : Below w0.heap.size w0 w) (h : Rs w0 9 A l) (hl : l.length <= 9223372036854775807) :
 Calls Tryz.prog 160 #[.slice A l.length c] w fun e w' => e = .returned (.bool (twiceB [] l)) /\ Below w.heap.size w w':=by
 have H:=Lib.hid h; have H0:=Lib.hid h0
 clear h h0
 have hmm:=@run_makeMap Tryz.prog
 go_enter Tryz.func160,Tryz.ntmps160
 go_wp2
 go_loopg [9] l.length (fun j i wr => ∃ m : Nat,m + j = l.length /\ i = .int .i64 m /\ (∃ M,SetIs M ((l.map su).take m) /\ wr.ownsMap Tryz.prog 9 (plainElem Tryz.prog 4) w.heap.size m M) /\ twiceB ((l.map su).take m) (l.drop m) = twiceB [] l /\ Below w.heap.size w wr)
 case atStart => exact ⟨0,by omega,rfl,⟨_,setIs_nil,World.ownsMap_made _ _ _ _⟩,rfl,(Below.refl _ _).alloc (Nat.le_refl _) _⟩
 case round =>
  obtain ⟨m,hmj,rfl,⟨M,hset,hown⟩,htw,hb⟩:=hrel
  have Hb:=Lib.hid hb
  have Hmj:=Lib.hid hmj; have hmn : m <= l.length:=by omega
  have Htw:=Lib.hid htw
  clear hmj hb htw
  by_cases hlt : m < l.length
  . obtain ⟨b,off,rfl,hI,hat⟩:=str_at H.out (by omega)
    obtain ⟨e0,hsz⟩:=hat m hlt
    replace e0:=((H0.out.trans (Hb.out.mono H0.out.size)).cell (p:=⟨b,_,none⟩) hI).trans e0
    have hkey : keyOf Tryz.prog 9 (.string (gD l m).s) = some (.string (su (gD l m))):=keyOf_string_mk Tryz.underlying9 hsz
    have z1 : (m : Int) < (l.length : Int):=by omega
    have hgo:=Lib.hid (twice_go hlt)
    cases hq : decide (su (gD l m) ∈ (l.map su).take m)
    . go_wp2_with (first
       | (at_lookup; refine zBB _ rfl _ _ 217 rfl 9 4 klawS Tryz.underlying217 Tryz.underlying4 (zeroB _) w.heap.size m _ _ hset rfl hown _ rfl hkey ?_; rw [show decide ((gD l m).s.data.toList ∈ (l.map su).take m) = false from hq])
       | (at_mapUpdate; refine wpList_mapUpdate_own _ rfl _ _ _ 217 rfl 9 4 klawS Tryz.underlying217 _ w.heap.size m _ rfl hown (by unfold maxLen; omega) _ _ _ rfl rfl hkey _ [] (plainElem_bool Tryz.underlying4 true) ?_)
       | go_in)
      intro w1 hown1 hgrow1
      have R1 : ∃ M,SetIs M ((l.map su).take (m + 1)) /\ w1.ownsMap Tryz.prog 9 (plainElem Tryz.prog 4) w.heap.size (m + 1) M:=⟨_,by rw [seen_at l m hlt]; exact setIs_put hset _,hown1⟩
      have R2:=Hb.out.grown hgrow1 Hb.out.size (fun j hj => by cases hj; exact Nat.le_refl _)
      have R3 : twiceB ((l.map su).take (m + 1)) (l.drop (m + 1)) = twiceB [] l:=by
       have:=hgo.out
       rw [hq,Bool.false_or,Htw.out] at this
       exact this.symm
      have R1:=Lib.hid R1; have R3:=Lib.hid R3
      clear hown1 hgrow1 hown hset hq hkey hat e0
      go_wp2
      go_roundg (l.length - m - 1)
      case measure => have:=Hmj.out; omega
      case rel => exact ⟨m + 1,by have:=Hmj.out; omega,by go_num,R1.out,R3.out,R2⟩
    . go_wp2_with (first
       | (at_lookup; refine zBB _ rfl _ _ 217 rfl 9 4 klawS Tryz.underlying217 Tryz.underlying4 (zeroB _) w.heap.size m _ _ hset rfl hown _ rfl hkey ?_; rw [show decide ((gD l m).s.data.toList ∈ (l.map su).take m) = true from hq])
       | go_in)
      go_ret
      have:=hgo.out
      rw [hq,Bool.true_or,Htw.out] at this
      exact ⟨by rw [this]; rfl,Hb.out⟩
  . go_wp2
    go_ret
    refine ⟨?_,Hb.out⟩
    have:=Htw.out
    rw [List.drop_eq_nil_of_le (by omega)] at this
    rw [<- this]; rfl
theorem zD1 : ∀ (l : List D) (seen : List (List UInt8)),seen.Nodup -> twiceB seen l = !decide (seen ++ l.map su).Nodup
 | [],seen,h => by simp [twiceB,h]
 | x :: r,seen,h => by
   rw [twiceB]
   by_cases e : su x ∈ seen
   . have : ¬ (seen ++ (x :: r).map su).Nodup:=fun hh => by
      rw [List.nodup_append] at hh
      exact hh.2.2 _ e (su x) (by simp) rfl
     rw [decide_eq_true e,decide_eq_false this]; rfl
   . rw [decide_eq_false e,Bool.false_or,zD1 r (seen ++ [su x]) (by
      rw [List.nodup_append]
      refine ⟨h,by simp,?_⟩
      intro a ha b hb he
      rw [List.mem_singleton.1 hb] at he
      exact e (he ▸ ha))]
     simp
theorem twice_strs (d : D) : twiceB [] (d.f 4).l = !decide (strsR d).Nodup:=by
 rw [zD1 _ [] List.nodup_nil]; rfl
end Go.Proofs.YtdlnnlglmifceaaGreatDoor
namespace Go.Proofs.YtdlnnlglmifceaaGreatDoor
open Go.RowKit
set_option linter.unusedSectionVars false
section
variable {X : Cx} {nn : Nat} {st : Vst nn} {o : Oper} {ops : Array Oper} {l : List Oper} {dst : Option Tmp} {KK : Vst nn -> Prop}
theorem s_max {k : IntKind} {a b : Int} {x y : Operand} {ts : Array TypeId} (hg : o.guard = none) (ho : o.op = .call { callee:=.builtin .max,args:=#[x,y],argTypes:=ts }) (hd : o.dst = dst) (hx : ev st x = .c (.int k a)) (hy : ev st y = .c (.int k b)) (hK : AWo X ops l (st.put dst (.c (.int k (if a < b then b else a)))) KK) : AWo X ops (o :: l) st KK:=by
 refine zAO hg ?_
 intro s w a' hI N Q hP hN
 have r1:=hI.ev x
 have r2:=hI.ev y
 rw [hx,rel] at r1
 rw [hy,rel] at r2
 have h1 : (execOp a'.eval o).run X.P w = .ok (.value (.int k (if a < b then b else a))) w:=by
  simp [execOp,ho,resolve,invoke,builtin,Builtin.max_,Builtin.max2,r1.1,r2.1]
 unfold Oper.wp
 rw [h1,Oper.upon_value]
 refine hN _ _ _ _ (hI.put o.dst ?_) (by rw [hd]; exact hK)
 rw [rel]
 refine ⟨rfl,?_⟩
 split
 . exact r2.2
 . exact r1.2
end
attribute [local irreducible] wpList Calls Code.wp AW AWo OpOk seqK zAP zAR loopK endK AC zy Yld Sub
attribute [local irreducible] ACB ACX ACE absLexG YldG
structure BkIn (d : D) (B : Nat) : Prop where
 text : (d.f 2).s.size <= B
 keys : (d.f 4).l.length <= B
 items : (d.f 3).l.length <= B
 at_ : ∀ i,i < (d.f 3).l.length -> bulkD (gD (d.f 3).l i) < bulkD d
 key : ∀ i,i < (d.f 4).l.length -> (gD (d.f 4).l i).s.size <= B
end Go.Proofs.YtdlnnlglmifceaaGreatDoor
namespace Go.Proofs.YtdlnnlglmifceaaGreatDoor
open Go.RowKit
set_option linter.unusedSectionVars false
attribute [local irreducible] wpList Calls Code.wp AW AWo OpOk seqK zAP zAR loopK endK AC zy Yld Sub
attribute [local irreducible] ACB ACX ACE absLexG YldG
theorem zBM {i n : Nat} (h : i < n) : 0 <= (i : Int) /\ (i : Int) < (n : Int):=⟨Int.natCast_nonneg i,Int.ofNat_lt.2 h⟩
noncomputable def HWr (l : List D) (i : Nat) : Vst 26:=stS 26 [(0,.sl 3 l),(1,.sl 3 l),(5,.c (.int .i64 (i : Int)))] []
theorem wraps_ac (l : List D) (hl : l.length <= 1000000000) : AC EN5 Tryz.prog 43 [.sl 3 l,.sl 3 l] (.c (.bool true)):=by
 have f0 : ((l.length : Int) != (l.length : Int)) = false:=by simp
 refine zX 26 Tryz.func43 rfl rfl rfl rfl ?_
 intro s w he
 repeat' (first
|apply zW
 . conv => lhs; whnf
 . assumption
|apply zS
 . conv => lhs; whnf
 . assumption
|refine zi ?_
|refine zf ?_
|refine zAH ?_
|refine zA ?_
|refine zI ?_
|refine zb ?_
|refine zU ?_
|refine za ?_
|apply aw_1
 conv => whnf
 refine ⟨?_,trivial⟩
|apply s_1
 conv => whnf; arg 1; arg 4; arg 3; whnf
 refine ⟨?_,?_⟩
|apply zt rfl
 . conv => lhs; whnf
 . conv => lhs; whnf; arg 2; whnf
|apply zAm (by kernel_rfl) (by kernel_rfl)
|apply zB6
|apply zB5 rfl
 . conv => lhs; whnf
 . conv => lhs; whnf; arg 2; whnf
|exact zAG
|exact zAK
|exact all_nil
|show List.all _ _ = true; rfl
|show zAl _ _ = true; rfl
|exact ([] : List Nat)
|exact (1000000 : Nat)
|apply zN
 . conv => lhs; whnf; arg 1; arg 1; whnf
|apply zO
 . conv => lhs; whnf; arg 1; arg 1; whnf
|refine zT (by conv => lhs; whnf) ?_ ?_ <;> intro hb
|refine zj ?_
|refine zZ ?_
|refine zG ?_
|refine zK ?_
|refine zC ?_
|refine zB rfl ?_
|refine zE rfl ?_
|refine zF ?_
|refine zJ ?_
|refine zD ?_
|refine zL ?_
|refine z6 ?_
|refine zH ?_
|refine ⟨_,by conv => lhs; whnf; arg 2; whnf,?_⟩; conv => rhs; whnf
|exact trivial
|intro hg)
 refine z7 (fun j st => ∃ i,i + j = l.length /\ Sub (cx EN5 Tryz.prog s w he) st (HWr l i)) l.length ⟨0,by omega,Sub.live ⟨rfl,rfl,rfl,trivial⟩ trivial⟩ ?_
 rintro j st ⟨i,hij,hs2⟩
 refine z8 hs2 ?_
 clear hs2
 by_cases hi : i < l.length
 . have f1 : decide ((i : Int) < (l.length : Nat)) = true:=decide_eq_true (by omega)
   have f2 : ((gD l i).n != (gD l i).n) = false:=by simp
   repeat' (first
|apply zW
 . conv => lhs; whnf
 . assumption
|apply zS
 . conv => lhs; whnf
 . assumption
|refine zi ?_
|refine zf ?_
|refine zAH ?_
|refine zA ?_
|refine zI ?_
|refine zb ?_
|refine zU ?_
|refine za ?_
|apply aw_1
 conv => whnf
 refine ⟨?_,trivial⟩
|apply s_1
 conv => whnf; arg 1; arg 4; arg 3; whnf
 refine ⟨?_,?_⟩
|apply zt rfl
 . conv => lhs; whnf
 . conv => lhs; whnf; arg 2; whnf
|apply zAm (by kernel_rfl) (by kernel_rfl)
|apply zB6
|apply zB5 rfl
 . conv => lhs; whnf
 . conv => lhs; whnf; arg 2; whnf
|exact zAG
|exact zAK
|exact all_nil
|show List.all _ _ = true; rfl
|show zAl _ _ = true; rfl
|exact ([] : List Nat)
|exact (1000000 : Nat)
|apply zN
 . conv => lhs; whnf; arg 1; arg 1; whnf
|apply zO
 . conv => lhs; whnf; arg 1; arg 1; whnf
|refine zT (by conv => lhs; whnf) ?_ ?_ <;> intro hb
|refine zj ?_
|refine zZ ?_
|refine zG ?_
|refine zK ?_
|refine zC ?_
|refine zB rfl ?_
|refine zE rfl ?_
|refine zF ?_
|refine zJ ?_
|refine zD ?_
|refine zL ?_
|refine z6 ?_
|refine zH ?_
|refine ⟨_,by conv => lhs; whnf; arg 2; whnf,?_⟩; conv => rhs; whnf
|exact trivial
|intro hg)
   all_goals first
    | exact zo (by omega)
    | exact zBM hi
    | exact zh (j':=j - 1) (by omega) ⟨i + 1,by omega,Sub.live ⟨rfl,rfl,rfl,trivial⟩ trivial⟩
 . have f1 : decide ((i : Int) < (l.length : Nat)) = false:=decide_eq_false (by omega)
   repeat' (first
|apply zW
 . conv => lhs; whnf
 . assumption
|apply zS
 . conv => lhs; whnf
 . assumption
|refine zi ?_
|refine zf ?_
|refine zAH ?_
|refine zA ?_
|refine zI ?_
|refine zb ?_
|refine zU ?_
|refine za ?_
|apply aw_1
 conv => whnf
 refine ⟨?_,trivial⟩
|apply s_1
 conv => whnf; arg 1; arg 4; arg 3; whnf
 refine ⟨?_,?_⟩
|apply zt rfl
 . conv => lhs; whnf
 . conv => lhs; whnf; arg 2; whnf
|apply zAm (by kernel_rfl) (by kernel_rfl)
|apply zB6
|apply zB5 rfl
 . conv => lhs; whnf
 . conv => lhs; whnf; arg 2; whnf
|exact zAG
|exact zAK
|exact all_nil
|show List.all _ _ = true; rfl
|show zAl _ _ = true; rfl
|exact ([] : List Nat)
|exact (1000000 : Nat)
|apply zN
 . conv => lhs; whnf; arg 1; arg 1; whnf
|apply zO
 . conv => lhs; whnf; arg 1; arg 1; whnf
|refine zT (by conv => lhs; whnf) ?_ ?_ <;> intro hb
|refine zj ?_
|refine zZ ?_
|refine zG ?_
|refine zK ?_
|refine zC ?_
|refine zB rfl ?_
|refine zE rfl ?_
|refine zF ?_
|refine zJ ?_
|refine zD ?_
|refine zL ?_
|refine z6 ?_
|refine zH ?_
|refine ⟨_,by conv => lhs; whnf; arg 2; whnf,?_⟩; conv => rhs; whnf
|exact trivial
|intro hg)
theorem sameRef_ac (d : D) (hl : (d.f 1).l.length <= 1000000000) : AC EN5 Tryz.prog 16 [.agg (cellsV Tryz.prog 12 59 d),.agg (cellsV Tryz.prog 12 59 d)] (.c (.bool true)):=by
 have h:=wraps_ac (d.f 1).l hl
 have f0 : ((d.f 0).s.toList == (d.f 0).s.toList) = true:=by simp
 have k0 : (((d.f 0).s.toList == (d.f 0).s.toList) == true) = false -> False:=fun h => by rw [f0] at h; cases h
 refine zX 17 Tryz.func16 rfl rfl rfl rfl ?_
 intro s w he
 repeat' (first
|apply s_wanted_pick_t rfl rfl rfl
 . conv => lhs; whnf
 . first | rfl | assumption
 . conv => lhs; whnf
 . first | exact bT1 ‹_› | exact bT2 ‹_› | rfl
|apply zq rfl rfl rfl
 . conv => lhs; whnf
 . first | rfl | assumption
 . conv => lhs; whnf
 . first | exact bT1 ‹_› | exact bT2 ‹_› | rfl
|apply s_wanted_pick_f rfl rfl rfl
 . conv => lhs; whnf
 . first | rfl | assumption
 . conv => lhs; whnf
 . first | exact bF1 ‹_› | exact bF2 ‹_› | rfl
|apply zu rfl rfl rfl
 . conv => lhs; whnf
 . first | rfl | assumption
 . conv => lhs; whnf
 . first | exact bF1 ‹_› | exact bF2 ‹_› | rfl
|apply zW
 . conv => lhs; whnf
 . assumption
|apply zS
 . conv => lhs; whnf
 . assumption
|exact (k0 ‹_›).elim
|refine zi ?_
|refine zf ?_
|refine zAH ?_
|refine zA ?_
|refine zI ?_
|refine zb ?_
|refine zU ?_
|refine za ?_
|apply aw_1
 conv => whnf
 refine ⟨?_,trivial⟩
|apply zg rfl rfl
 . conv => lhs; whnf
 . conv => lhs; whnf
 . first | exact bT1 ‹_› | exact bT2 ‹_›
|apply ze rfl rfl
 . conv => lhs; whnf
 . conv => lhs; whnf
 . first | exact bF1 ‹_› | exact bF2 ‹_›
|apply s_1
 conv => whnf; arg 1; arg 4; arg 3; whnf
 refine ⟨?_,?_⟩
|apply zt rfl
 . conv => lhs; whnf
 . conv => lhs; whnf; arg 2; whnf
|apply zd rfl
 . conv => lhs; whnf
 . conv => lhs; whnf
 . first | exact h
|apply zAC rfl rfl rfl rfl
 . conv => lhs; whnf; arg 1; whnf
 . rfl
|apply zM rfl
 . conv => lhs; whnf
 . conv => lhs; whnf
 . first | rfl | assumption
 . conv => lhs; whnf; arg 2; whnf
|apply zR rfl
 . conv => lhs; whnf
 . conv => lhs; whnf
 . first | rfl | assumption
 . conv => lhs; whnf
 . first | exact h
|apply zl rfl
 . conv => lhs; whnf
 . conv => lhs; whnf
 . first | rfl | assumption
|apply zAI rfl
 . conv => lhs; whnf
 . rfl
 . rfl
|apply zP rfl
 . conv => lhs; whnf
 . conv => lhs; whnf
 . conv => lhs; whnf; arg 2; whnf
|apply zp rfl
 . conv => lhs; whnf
 . conv => lhs; whnf
 . conv => lhs; whnf
 . first | exact h
|apply zn rfl
 . conv => lhs; whnf
 . conv => lhs; whnf
 . conv => lhs; whnf; arg 2; whnf
|apply zk rfl
 . conv => lhs; whnf
 . conv => lhs; whnf
 . conv => lhs; whnf
 . first | exact h
|apply zN
 . conv => lhs; whnf; arg 1; arg 1; whnf
|apply zO
 . conv => lhs; whnf; arg 1; arg 1; whnf
|refine zT (by conv => lhs; whnf) ?_ ?_ <;> intro hb
|refine zj ?_
|refine zZ ?_
|refine zG ?_
|refine zK ?_
|refine zC ?_
|refine zB rfl ?_
|refine zE rfl ?_
|refine zF ?_
|refine zJ ?_
|refine zD ?_
|refine zL ?_
|refine z6 ?_
|refine zH ?_
|refine ⟨_,by conv => lhs; whnf; arg 2; whnf,?_⟩; conv => rhs; whnf
|exact trivial
|intro hg)
end Go.Proofs.YtdlnnlglmifceaaGreatDoor
namespace Go.Proofs.YtdlnnlglmifceaaGreatDoor
open Go.RowKit
attribute [local irreducible] wpList Calls Code.wp
def LenT (P : Program) : Nat -> TypeId -> D -> Prop
 | 0,_,_ => True
 | n + 1,t,d =>
   match P.underlying t with
   | some .string => d.s.size <= maxLen
   | some (.slice e) => d.l.length <= maxLen /\ (0 < P.cellsOf e -> ∀ i,i < d.l.length -> LenT P n e (gD d.l i))
   | some (.struct fs) => ∀ j f,fs[j]? = some f -> LenT P n f.type (d.f j)
   | _ => True
section
variable {P : Program} {s : Sg} {w : World}
theorem RepF.len {F : Nat -> Nat -> Prop} : ∀ (n : Nat) {k : Nat} {t : TypeId} {cs : List Value} {d : D},RepF P w F k t cs d -> LenT P n t d
 | 0,_,_,_,_,_ => trivial
 | n + 1,0,_,_,_,h => h.elim
 | n + 1,k + 1,t,cs,d,h => by
   unfold RepF at h
   unfold LenT
   split <;> rename_i hu <;> try simp only [hu] at h
   . exact h.2
   . obtain ⟨A,c,h1,h2,h3,h4,h5⟩:=h
     refine ⟨Nat.le_trans h2 h3,fun hc i hi => ?_⟩
     obtain ⟨b,off,hA,hat⟩:=h5 (by omega) hc
     obtain ⟨ys,y1,y2,y3⟩:=hat i hi
     exact RepF.len n y3
   . exact fun j f hf => RepF.len n (h.2 j f hf)
   . trivial
theorem SlV.len {F : Nat -> Nat -> Prop} (n : Nat) {e : TypeId} {l : List D} {u : Value} (h : SlV P w F e l u) : l.length <= maxLen /\ (0 < P.cellsOf e -> ∀ i,i < l.length -> LenT P n e (gD l i)):=by
 obtain ⟨k,A,c,h1,h2,h3,h4,h5⟩:=h
 refine ⟨Nat.le_trans h2 h3,fun hc i hi => ?_⟩
 obtain ⟨b,off,hA,hat⟩:=h5 (by omega) hc
 obtain ⟨ys,y1,y2,y3⟩:=hat i hi
 exact y3.len n
mutual
theorem zGg : ∀ (m n : Nat) (t : TypeId) (d : D) (cs : List Value),layB P m t = true -> relL P s w (cellsV P m t d) cs -> LenT P n t d
 | 0,_,_,_,_,hb,_ => by simp [layB] at hb
 | m + 1,0,_,_,_,_,_ => trivial
 | m + 1,n + 1,t,d,cs,hb,h => by
   unfold LenT
   unfold layB at hb
   unfold cellsV at h
   split <;> rename_i hu <;> try simp only [hu] at h hb
   . cases cs with
     | nil => simp [relL] at h
     | cons c cs => rw [relL,rel] at h; exact h.1.2
   . cases cs with
     | nil => simp [relL] at h
     | cons c cs => rw [relL,rel] at h; exact h.1.len n
   . rename_i fs
     simp only [Bool.and_eq_true,beq_iff_eq] at hb
     intro j f hf
     have:=zE5 m n fs.toList 0 d cs hb.2 h j f (by simpa using hf)
     simpa using this
   . trivial
theorem zE5 : ∀ (m n : Nat) (fs : List Field) (j : Nat) (d : D) (cs : List Value),(fs.all fun f => layB P m f.type) = true -> relL P s w (zAw (cellsV P m) fs j d) cs -> ∀ i f,fs[i]? = some f -> LenT P n f.type (d.f (j + i))
 | m,n,[],j,d,cs,_,_,i,f,hf => by simp at hf
 | m,n,g :: fs,j,d,cs,hb,h,i,f,hf => by
   rw [zAw] at h
   simp only [List.all_cons,Bool.and_eq_true] at hb
   obtain ⟨h1,h2⟩:=relL.split h
   cases i with
   | zero =>
     simp at hf
     subst hf
     exact zGg m n g.type (d.f j) _ hb.1 h1
   | succ i =>
     have:=zE5 m n fs (j + 1) d _ hb.2 h2 i f (by simpa using hf)
     rwa [show j + 1 + i = j + (i + 1) by omega] at this
end
end
theorem ac_pre {e : Ge} {P : Program} {f : FuncId} {args : List V} {r : V} {p : Prop} (hp : ∀ s w us,relL P s w args us -> p) (h : p -> AC e P f args r) : AC e P f args r:=fun s w us hr hx he => h (hp s w us.toList hr) s w us hr hx he
theorem zEW {e : Ge} {P : Program} {f : FuncId} {t : TypeId} {l : List D} {args : List V} {r : V} (n : Nat) (h : l.length <= maxLen /\ (0 < P.cellsOf t -> ∀ i,i < l.length -> LenT P n t (gD l i)) -> AC e P f (.sl t l :: args) r) : AC e P f (.sl t l :: args) r:=
 ac_pre (fun s w us hr => by
  cases us with
  | nil => simp [relL] at hr
  | cons u us => rw [relL,rel] at hr; exact hr.1.len n) h
theorem zCP {e : Ge} {P : Program} {f : FuncId} {t : TypeId} {d : D} {args : List V} {r : V} (n : Nat) (hb : layB P 12 t = true) (h : LenT P n t d -> AC e P f (.agg (cellsV P 12 t d) :: args) r) : AC e P f (.agg (cellsV P 12 t d) :: args) r:=
 ac_pre (fun s w us hr => by
  cases us with
  | nil => simp [relL] at hr
  | cons u us =>
    rw [relL,rel] at hr
    obtain ⟨⟨cs,-,h1⟩,-⟩:=hr
    exact zGg 12 n t d cs.toList hb h1) h
end Go.Proofs.YtdlnnlglmifceaaGreatDoor
namespace Go.Proofs.YtdlnnlglmifceaaGreatDoor
open Go.RowKit
set_option linter.unusedSectionVars false
theorem LenT.fld {P : Program} {n : Nat} {t : TypeId} {d : D} {fs : Array Field} {f : Field} (j : Nat) (hu : P.underlying t = some (.struct fs)) (hf : fs[j]? = some f) (h : LenT P (n + 1) t d) : LenT P n f.type (d.f j):=by
 unfold LenT at h
 rw [hu] at h
 exact h j f hf
theorem LenT.lst {P : Program} {n : Nat} {t e : TypeId} {d : D} (hu : P.underlying t = some (.slice e)) (h : LenT P (n + 1) t d) : d.l.length <= maxLen /\ (0 < P.cellsOf e -> ∀ i,i < d.l.length -> LenT P n e (gD d.l i)):=by
 unfold LenT at h
 rw [hu] at h
 exact h
theorem len_ref {n : Nat} {d : D} (h : LenT Tryz.prog (n + 2) 59 d) : (d.f 1).l.length <= maxLen:=(LenT.lst (t:=38) (e:=3) (by kernel_rfl) (LenT.fld 1 (fs:=Tryz.prog.fieldsOf 59) (f:=(Tryz.prog.fieldsOf 59)[1]!) (by kernel_rfl) (by kernel_rfl) h)).1
theorem zBm {n : Nat} {d : D} (h : LenT Tryz.prog (n + 2) 62 d) : (d.f 3).l.length <= maxLen /\ (d.f 4).l.length <= maxLen:=
 ⟨(LenT.lst (t:=60) (e:=62) (by kernel_rfl) (LenT.fld 3 (fs:=Tryz.prog.fieldsOf 62) (f:=(Tryz.prog.fieldsOf 62)[3]!) (by kernel_rfl) (by kernel_rfl) h)).1,
  (LenT.lst (t:=28) (e:=9) (by kernel_rfl) (LenT.fld 4 (fs:=Tryz.prog.fieldsOf 62) (f:=(Tryz.prog.fieldsOf 62)[4]!) (by kernel_rfl) (by kernel_rfl) h)).1⟩
attribute [local irreducible] wpList Calls Code.wp AW AWo OpOk seqK zAP zAR loopK endK AC zy Yld Sub
attribute [local irreducible] ACB ACX ACE absLexG YldG
end Go.Proofs.YtdlnnlglmifceaaGreatDoor
namespace Go.Proofs.YtdlnnlglmifceaaGreatDoor
open Go.RowKit
set_option linter.unusedSectionVars false
def wrapsI (l : List D) : Nat -> Nat -> Bool
 | 0,_ => true
 | j + 1,i => ((gD l i).n == 1 || (gD l i).n == 2) && !((gD l i).n == 1 && decide (0 < i) && (gD l (i - 1)).n == (gD l i).n) && wrapsI l j (i + 1)
theorem zDs (x : D) (l : List D) : ∀ (j i : Nat),wrapsI (x :: l) j (i + 2) = wrapsI l j (i + 1)
 | 0,_ => rfl
 | j + 1,i => by
   unfold wrapsI
   rw [zDs x l j (i + 1)]
   have e1 : gD (x :: l) (i + 2) = gD l (i + 1):=rfl
   have e2 : gD (x :: l) (i + 2 - 1) = gD l (i + 1 - 1):=rfl
   have e3 : decide (0 < i + 2) = decide (0 < i + 1):=by simp
   rw [e1,e2,e3]
theorem zFH : ∀ l : List D,wrapsI l l.length 0 = zDX (l.map D.n)
 | [] => rfl
 | [x] => by
   show (((x.n == 1 || x.n == 2) && !(x.n == 1 && decide (0 < 0) && _)) && true) = (x.n == 1 || x.n == 2)
   simp
 | x :: y :: r => by
   have ih:=zFH (y :: r)
   show (((x.n == 1 || x.n == 2) && !(x.n == 1 && decide (0 < 0) && _)) && wrapsI (x :: y :: r) (r.length + 1) 1) = ((x.n == 1 || x.n == 2) && !(x.n == 1 && y.n == 1) && zDX (y.n :: r.map D.n))
   have e : wrapsI (x :: y :: r) (r.length + 1) 1 = (((y.n == 1 || y.n == 2) && !(y.n == 1 && true && (x.n == y.n))) && wrapsI (y :: r) r.length 1):=by
    show (((y.n == 1 || y.n == 2) && !(y.n == 1 && true && (x.n == y.n))) && wrapsI (x :: y :: r) r.length 2) = _
    rw [zDs]
   have e2 : wrapsI (y :: r) (y :: r).length 0 = (((y.n == 1 || y.n == 2) && !(y.n == 1 && decide (0 < 0) && false)) && wrapsI (y :: r) r.length 1):=by
    show (((y.n == 1 || y.n == 2) && !(y.n == 1 && decide (0 < 0) && _)) && wrapsI (y :: r) r.length 1) = _
    simp
   rw [e]
   rw [e2] at ih
   have ih2 : zDX (y.n :: r.map D.n) = (((y.n == 1 || y.n == 2) && !(y.n == 1 && decide (0 < 0) && false)) && wrapsI (y :: r) r.length 1):=ih.symm
   rw [ih2]
   generalize wrapsI (y :: r) r.length 1 = q
   cases hy : (y.n == 1)
   . generalize (x.n == 1) = a1
     generalize (x.n == 2) = a2
     generalize (y.n == 2) = a3
     generalize (x.n == y.n) = a4
     cases a1 <;> cases a2 <;> cases a3 <;> cases a4 <;> cases q <;> rfl
   . have hy' : y.n = 1:=by simpa using hy
     rw [hy']
     generalize (x.n == 1) = a1
     generalize (x.n == 2) = a2
     cases a1 <;> cases a2 <;> cases q <;> rfl
noncomputable def HTr (d : D) (i : Nat) : Vst 48:=stS 48 [(1,.bx 1 0),(16,.sl 3 (d.f 1).l),(17,.c (.int .i64 ((d.f 1).l.length : Nat))),(18,.c (.int .i64 (i : Int)))] [(1,.box 59 (cellsV Tryz.prog 12 59 d))]
end Go.Proofs.YtdlnnlglmifceaaGreatDoor
namespace Go.Proofs.YtdlnnlglmifceaaGreatDoor
open Go.RowKit
set_option linter.unusedSectionVars false
attribute [local irreducible] wpList Calls Code.wp AW AWo OpOk seqK zAP zAR loopK endK AC zy Yld Sub
attribute [local irreducible] ACB ACX ACE absLexG YldG
theorem zAz (s : ByteArray) : AC EN5 Tryz.prog 18 [.c (.string s)] (.c (.bool (nameB s))):=by
 refine zDB (u:=.bool (nameB s)) fun σ w us hus he => ?_
 obtain ⟨rfl,hs⟩:=zD3 hus
 refine ⟨fun s' w' => rel_b,(nameP s w hs).mono ?_⟩
 rintro e w' ⟨rfl,rfl⟩
 exact ⟨rfl,Below.refl _ _⟩
theorem zGD (d : D) : AC EN5 Tryz.prog 45 [.agg (cellsV Tryz.prog 12 59 d)] (.c (.bool (refR d))):=by
 refine zCP 2 (by kernel_rfl) fun hL2 => ?_
 have hl : (d.f 1).l.length <= 9223372036854775807:=len_ref hL2
 clear hL2
 have hn:=zAz (d.f 0).s
 have hR : refR d = (nameB (d.f 0).s && decide ((d.f 1).l.length <= 24) && wrapsI (d.f 1).l (d.f 1).l.length 0):=by rw [zFH]; rfl
 generalize refR d = R at hR |-
 have e : decide (((d.f 1).l.length : Int) > 24) = !decide ((d.f 1).l.length <= 24):=by
  rw [Bool.eq_iff_iff]
  simp only [decide_eq_true_eq,Bool.not_eq_true',decide_eq_false_iff_not]
  omega
 refine zX 48 Tryz.func45 rfl rfl rfl rfl ?_
 intro s w he
 repeat' (first
|apply s_wanted_pick_t rfl rfl rfl
 . conv => lhs; whnf
 . first | rfl | assumption
 . conv => lhs; whnf
 . first | exact bT1 ‹_› | exact bT2 ‹_› | rfl
|apply zq rfl rfl rfl
 . conv => lhs; whnf
 . first | rfl | assumption
 . conv => lhs; whnf
 . first | exact bT1 ‹_› | exact bT2 ‹_› | rfl
|apply s_wanted_pick_f rfl rfl rfl
 . conv => lhs; whnf
 . first | rfl | assumption
 . conv => lhs; whnf
 . first | exact bF1 ‹_› | exact bF2 ‹_› | rfl
|apply zu rfl rfl rfl
 . conv => lhs; whnf
 . first | rfl | assumption
 . conv => lhs; whnf
 . first | exact bF1 ‹_› | exact bF2 ‹_› | rfl
|refine zA ?_
|refine zI ?_
|refine zb ?_
|refine zU ?_
|refine za ?_
|apply aw_1
 conv => whnf
 refine ⟨?_,trivial⟩
|apply zg rfl rfl
 . conv => lhs; whnf
 . conv => lhs; whnf
 . first | exact bT1 ‹_› | exact bT2 ‹_›
|apply ze rfl rfl
 . conv => lhs; whnf
 . conv => lhs; whnf
 . first | exact bF1 ‹_› | exact bF2 ‹_›
|apply s_1
 conv => whnf; arg 1; arg 4; arg 3; whnf
 refine ⟨?_,?_⟩
|apply zt rfl
 . conv => lhs; whnf
 . conv => lhs; whnf; arg 2; whnf
|apply zd rfl
 . conv => lhs; whnf
 . conv => lhs; whnf
 . first | exact hn
|apply zAC rfl rfl rfl rfl
 . conv => lhs; whnf; arg 1; whnf
 . rfl
|apply zM rfl
 . conv => lhs; whnf
 . conv => lhs; whnf
 . first | rfl | assumption
 . conv => lhs; whnf; arg 2; whnf
|apply zR rfl
 . conv => lhs; whnf
 . conv => lhs; whnf
 . first | rfl | assumption
 . conv => lhs; whnf
 . first | exact hn
|apply zl rfl
 . conv => lhs; whnf
 . conv => lhs; whnf
 . first | rfl | assumption
|apply zAI rfl
 . conv => lhs; whnf
 . rfl
 . rfl
|apply zP rfl
 . conv => lhs; whnf
 . conv => lhs; whnf
 . conv => lhs; whnf; arg 2; whnf
|apply zp rfl
 . conv => lhs; whnf
 . conv => lhs; whnf
 . conv => lhs; whnf
 . first | exact hn
|apply zn rfl
 . conv => lhs; whnf
 . conv => lhs; whnf
 . conv => lhs; whnf; arg 2; whnf
|apply zk rfl
 . conv => lhs; whnf
 . conv => lhs; whnf
 . conv => lhs; whnf
 . first | exact hn
|apply zN
 . conv => lhs; whnf; arg 1; arg 1; whnf
|apply zO
 . conv => lhs; whnf; arg 1; arg 1; whnf
|refine zT (by conv => lhs; whnf) ?_ ?_ <;> intro hb
|refine zj ?_
|refine zZ ?_
|refine zG ?_
|refine zK ?_
|refine zC ?_
|refine zB rfl ?_
|refine zE rfl ?_
|refine zF ?_
|refine zJ ?_
|refine zD ?_
|refine zL ?_
|refine z6 ?_
|refine zH ?_
|refine ⟨_,by conv => lhs; whnf; arg 2; whnf,?_⟩; conv => rhs; whnf
|exact trivial
|intro hg)
 . simp_all
   intros
   omega
 . have hR2 : R = wrapsI (d.f 1).l (d.f 1).l.length 0:=by simp_all
   clear hR hn
   refine z7 (fun j st => ∃ i,i + j = (d.f 1).l.length /\ R = wrapsI (d.f 1).l j i /\ Sub (cx EN5 Tryz.prog s w he) st (HTr d i)) (d.f 1).l.length ⟨0,by omega,hR2,Sub.live ⟨rfl,rfl,rfl,rfl,trivial⟩ ⟨rfl,trivial⟩⟩ ?_
   clear hR2 hg hb e
   rintro j st ⟨i,hij,hR,hs2⟩
   refine z8 hs2 ?_
   clear hs2
   by_cases hi : i < (d.f 1).l.length
   . obtain ⟨j,rfl⟩ : ∃ q,j = q + 1:=⟨j - 1,by omega⟩
     have f1 : decide ((i : Int) < ((d.f 1).l.length : Nat)) = true:=decide_eq_true (by omega)
     have e1 : decide ((i : Int) > 0) = decide (0 < i):=decide_eq_decide.2 (by omega)
     have eT : ((i : Int) - 1).toNat = i - 1:=by omega
     have hR' : R = (((gD (d.f 1).l (i : Int).toNat).n == 1 || (gD (d.f 1).l (i : Int).toNat).n == 2) && !((gD (d.f 1).l (i : Int).toNat).n == 1 && decide ((i : Int) > 0) && ((gD (d.f (0 + 1)).l ((i : Int) - 1).toNat).n == (gD (d.f 1).l (i : Int).toNat).n)) && wrapsI (d.f 1).l j (i + 1)):=by
      rw [hR,e1,eT,Int.toNat_natCast]; rfl
     clear hR e1
     repeat' (first
|apply s_wanted_pick_t rfl rfl rfl
 . conv => lhs; whnf
 . first | rfl | assumption
 . conv => lhs; whnf
 . first | exact bT1 ‹_› | exact bT2 ‹_› | rfl
|apply zq rfl rfl rfl
 . conv => lhs; whnf
 . first | rfl | assumption
 . conv => lhs; whnf
 . first | exact bT1 ‹_› | exact bT2 ‹_› | rfl
|apply s_wanted_pick_f rfl rfl rfl
 . conv => lhs; whnf
 . first | rfl | assumption
 . conv => lhs; whnf
 . first | exact bF1 ‹_› | exact bF2 ‹_› | rfl
|apply zu rfl rfl rfl
 . conv => lhs; whnf
 . first | rfl | assumption
 . conv => lhs; whnf
 . first | exact bF1 ‹_› | exact bF2 ‹_› | rfl
|apply zW
 . conv => lhs; whnf
 . assumption
|apply zS
 . conv => lhs; whnf
 . assumption
|refine zi ?_
|refine zf ?_
|refine zAH ?_
|refine zA ?_
|refine zI ?_
|refine zb ?_
|refine zU ?_
|refine za ?_
|apply aw_1
 conv => whnf
 refine ⟨?_,trivial⟩
|apply zg rfl rfl
 . conv => lhs; whnf
 . conv => lhs; whnf
 . first | exact bT1 ‹_› | exact bT2 ‹_›
|apply ze rfl rfl
 . conv => lhs; whnf
 . conv => lhs; whnf
 . first | exact bF1 ‹_› | exact bF2 ‹_›
|apply s_1
 conv => whnf; arg 1; arg 4; arg 3; whnf
 refine ⟨?_,?_⟩
|apply zt rfl
 . conv => lhs; whnf
 . conv => lhs; whnf; arg 2; whnf
|apply zd rfl
 . conv => lhs; whnf
 . conv => lhs; whnf
 . first | fail
|apply zAC rfl rfl rfl rfl
 . conv => lhs; whnf; arg 1; whnf
 . rfl
|apply zM rfl
 . conv => lhs; whnf
 . conv => lhs; whnf
 . first | rfl | assumption
 . conv => lhs; whnf; arg 2; whnf
|apply zR rfl
 . conv => lhs; whnf
 . conv => lhs; whnf
 . first | rfl | assumption
 . conv => lhs; whnf
 . first | fail
|apply zl rfl
 . conv => lhs; whnf
 . conv => lhs; whnf
 . first | rfl | assumption
|apply zAI rfl
 . conv => lhs; whnf
 . rfl
 . rfl
|apply zP rfl
 . conv => lhs; whnf
 . conv => lhs; whnf
 . conv => lhs; whnf; arg 2; whnf
|apply zp rfl
 . conv => lhs; whnf
 . conv => lhs; whnf
 . conv => lhs; whnf
 . first | fail
|apply zn rfl
 . conv => lhs; whnf
 . conv => lhs; whnf
 . conv => lhs; whnf; arg 2; whnf
|apply zk rfl
 . conv => lhs; whnf
 . conv => lhs; whnf
 . conv => lhs; whnf
 . first | fail
|apply zN
 . conv => lhs; whnf; arg 1; arg 1; whnf
|apply zO
 . conv => lhs; whnf; arg 1; arg 1; whnf
|refine zT (by conv => lhs; whnf) ?_ ?_ <;> intro hb
|refine zj ?_
|refine zZ ?_
|refine zG ?_
|refine zK ?_
|refine zC ?_
|refine zB rfl ?_
|refine zE rfl ?_
|refine zF ?_
|refine zJ ?_
|refine zD ?_
|refine zL ?_
|refine z6 ?_
|refine zH ?_
|refine ⟨_,by conv => lhs; whnf; arg 2; whnf,?_⟩; conv => rhs; whnf
|exact trivial
|intro hg)
     all_goals first
      | exact zo (by omega)
      | (have h0 : (i : Int) > 0:=by simp_all
         exact (show 0 <= (i : Int) - 1 /\ (i : Int) - 1 < (((d.f 1).l.length : Nat) : Int) from ⟨by omega,by omega⟩))
      | exact zBM hi
      | (have h0 : (i : Int) > 0:=by simp_all
         exact zo (by omega))
      | (have hN : R = wrapsI (d.f 1).l j (i + 1):=by simp_all
         exact zh (j':=j) (by omega) ⟨i + 1,by omega,hN,Sub.live ⟨rfl,rfl,rfl,rfl,trivial⟩ ⟨rfl,trivial⟩⟩)
      | skip
     all_goals
      refine congrArg (fun b => V.c (.bool b)) ?_
      clear eT f1 hi hij he
      simp_all
   . obtain rfl : j = 0:=by omega
     have f1 : decide ((i : Int) < ((d.f 1).l.length : Nat)) = false:=decide_eq_false (by omega)
     repeat' (first
|apply zW
 . conv => lhs; whnf
 . assumption
|apply zS
 . conv => lhs; whnf
 . assumption
|refine zi ?_
|refine zf ?_
|refine zAH ?_
|refine zA ?_
|refine zI ?_
|refine zb ?_
|refine zU ?_
|refine za ?_
|apply aw_1
 conv => whnf
 refine ⟨?_,trivial⟩
|apply zg rfl rfl
 . conv => lhs; whnf
 . conv => lhs; whnf
 . first | exact bT1 ‹_› | exact bT2 ‹_›
|apply ze rfl rfl
 . conv => lhs; whnf
 . conv => lhs; whnf
 . first | exact bF1 ‹_› | exact bF2 ‹_›
|apply s_1
 conv => whnf; arg 1; arg 4; arg 3; whnf
 refine ⟨?_,?_⟩
|apply zt rfl
 . conv => lhs; whnf
 . conv => lhs; whnf; arg 2; whnf
|apply zd rfl
 . conv => lhs; whnf
 . conv => lhs; whnf
 . first | fail
|apply zAC rfl rfl rfl rfl
 . conv => lhs; whnf; arg 1; whnf
 . rfl
|apply zM rfl
 . conv => lhs; whnf
 . conv => lhs; whnf
 . first | rfl | assumption
 . conv => lhs; whnf; arg 2; whnf
|apply zR rfl
 . conv => lhs; whnf
 . conv => lhs; whnf
 . first | rfl | assumption
 . conv => lhs; whnf
 . first | fail
|apply zB3 rfl
 . conv => lhs; whnf
 . conv => lhs; whnf
 . first | rfl | assumption
|apply zn rfl
 . conv => lhs; whnf
 . conv => lhs; whnf
 . conv => lhs; whnf; arg 2; whnf
|apply zk rfl
 . conv => lhs; whnf
 . conv => lhs; whnf
 . conv => lhs; whnf
 . first | fail
|apply zN
 . conv => lhs; whnf; arg 1; arg 1; whnf
|apply zO
 . conv => lhs; whnf; arg 1; arg 1; whnf
|refine zT (by conv => lhs; whnf) ?_ ?_ <;> intro hb
|refine zj ?_
|refine zZ ?_
|refine zG ?_
|refine zK ?_
|refine zC ?_
|refine zB rfl ?_
|refine zE rfl ?_
|refine zF ?_
|refine zJ ?_
|refine zD ?_
|refine zL ?_
|refine z6 ?_
|refine zH ?_
|refine ⟨_,by conv => lhs; whnf; arg 2; whnf,?_⟩; conv => rhs; whnf
|exact trivial
|intro hg)
     rw [hR]; rfl
 . simp_all
end Go.Proofs.YtdlnnlglmifceaaGreatDoor
namespace Go.Proofs.YtdlnnlglmifceaaGreatDoor
open Go.RowKit
set_option linter.unusedSectionVars false
theorem zDD (a b : Int) : IntKind.i64.wrap (IntKind.i64.wrap a + b) = IntKind.i64.wrap (a + b):=by
 simp [IntKind.wrap,IntKind.min,IntKind.max,IntKind.bits,IntKind.signed]
 repeat' split
 all_goals omega
theorem zEm (a b : Int) : IntKind.i64.wrap (a + IntKind.i64.wrap b) = IntKind.i64.wrap (a + b):=by
 rw [Int.add_comm,zDD,Int.add_comm]
theorem zCC (s : ByteArray) (l : List UInt8) : (s.toList == (⟨l.toArray⟩ : ByteArray).toList) = (s.data.toList == l):=by
 rw [Lib.toList_data,Lib.toList_data]
def zD5 (k : Nat) (d : D) : Int:=IntKind.i64.wrap (sizeR k d : Int)
def maxW (f : Nat -> Int) : Nat -> Int
 | 0 => 0
 | n + 1 => if maxW f n < f n then f n else maxW f n
def zB4 : Nat -> D -> Int
 | 0,_ => 1
 | k + 1,d => IntKind.i64.wrap (maxW (fun i => zB4 k (gD (d.f 3).l i)) (d.f 3).l.length + 1)
def litW (d : D) : Bool:=decide (zD5 (bulkD d) d <= 4096) && decide (zB4 (bulkD d) d <= 24) && everyL (bulkD d) d
theorem wrap_id {n : Int} (h : 0 <= n /\ n <= 9223372036854775807) : IntKind.i64.wrap n = n:=zDt (k:=.i64) ⟨by simp only [IntKind.min,IntKind.signed,IntKind.bits]; omega,by simp only [IntKind.max,IntKind.signed,IntKind.bits]; omega⟩
attribute [local irreducible] wpList Calls Code.wp AW AWo OpOk seqK zAP zAR loopK endK AC zy Yld Sub
attribute [local irreducible] ACB ACX ACE absLexG YldG
theorem key1U_ac (x : D) : AC EN5 Tryz.prog 159 [.c (.string x.s)] (.c (.bool (!nameB x.s))):=by
 have h:=zAz x.s
 refine zX 6 Tryz.func159 rfl rfl rfl rfl ?_
 intro s w he
 repeat' (first
|refine zA ?_
|refine zI ?_
|refine zb ?_
|refine zU ?_
|refine za ?_
|apply aw_1
 conv => whnf
 refine ⟨?_,trivial⟩
|apply s_1
 conv => whnf; arg 1; arg 4; arg 3; whnf
 refine ⟨?_,?_⟩
|apply zt rfl
 . conv => lhs; whnf
 . conv => lhs; whnf; arg 2; whnf
|apply zd rfl
 . conv => lhs; whnf
 . conv => lhs; whnf
 . first | exact h
|apply zN
 . conv => lhs; whnf; arg 1; arg 1; whnf
|apply zO
 . conv => lhs; whnf; arg 1; arg 1; whnf
|refine zT (by conv => lhs; whnf) ?_ ?_ <;> intro hb
|refine zj ?_
|refine zZ ?_
|refine zG ?_
|refine zK ?_
|refine zC ?_
|refine zB rfl ?_
|refine zE rfl ?_
|refine zF ?_
|refine zJ ?_
|refine zD ?_
|refine zL ?_
|refine z6 ?_
|refine zH ?_
|refine ⟨_,by conv => lhs; whnf; arg 2; whnf,?_⟩; conv => rhs; whnf
|exact trivial
|intro hg)
theorem twiceU_ac (l : List D) : AC EN5 Tryz.prog 160 [.sl 9 l] (.c (.bool (twiceB [] l))):=by
 refine zEW 1 fun hL2 => ?_
 have hl : l.length <= 9223372036854775807:=hL2.1
 refine zDB (u:=.bool (twiceB [] l)) fun σ w us hus he => ?_
 obtain ⟨u,rfl,h⟩:=zG1 hus
 rw [rel] at h
 obtain ⟨k,A,c,rfl,h1,h2,h3,h4⟩:=h
 exact ⟨fun s' w' => rel_b,twiceP A l c w w (Below.refl _ _) ⟨k,h4.sl⟩ hl⟩
noncomputable def HSzW (l : List D) (n : Int) (i : Nat) : Vst 19:=stS 19 [(3,.c (.int .i64 n)),(7,.sl 62 l),(8,.c (.int .i64 (l.length : Nat))),(9,.c (.int .i64 (i : Int)))] []
theorem zHc : ∀ (k : Nat) (d : D),Dp k d -> AC EN5 Tryz.prog 84 [.agg (cellsV Tryz.prog 12 62 d)] (.c (.int .i64 (zD5 k d)))
 | 0,_,h => h.elim
 | k + 1,d,h => by
   refine zCP 2 (by kernel_rfl) fun hL => ?_
   have hl : (d.f 3).l.length <= 9223372036854775807:=(zBm hL).1
   clear hL
   have ih:=fun i (hi : i < (d.f 3).l.length) => zHc k (gD (d.f 3).l i) (h i hi)
   have hs : zD5 (k + 1) d = IntKind.i64.wrap ((1 + sumN (fun i => sizeR k (gD (d.f 3).l i)) (d.f 3).l.length : Nat) : Int):=rfl
   refine zX 19 Tryz.func84 rfl rfl rfl rfl ?_
   intro s w he
   repeat' (first
|refine zA ?_
|refine zI ?_
|refine zb ?_
|refine zU ?_
|refine za ?_
|apply aw_1
 conv => whnf
 refine ⟨?_,trivial⟩
|apply s_1
 conv => whnf; arg 1; arg 4; arg 3; whnf
 refine ⟨?_,?_⟩
|apply zt rfl
 . conv => lhs; whnf
 . conv => lhs; whnf; arg 2; whnf
|apply zd rfl
 . conv => lhs; whnf
 . conv => lhs; whnf
 . first | fail
|apply zAC rfl rfl rfl rfl
 . conv => lhs; whnf; arg 1; whnf
 . rfl
|apply zAA rfl rfl rfl rfl
 . conv => lhs; whnf; arg 1; whnf
 . rfl
|apply zr rfl rfl rfl
 . conv => lhs; whnf
 . conv => lhs; whnf; arg 1; whnf
 . conv => lhs; whnf; arg 1; whnf
 . exact ⟨by kernel_rfl,by kernel_rfl⟩
 . rfl
|apply zN
 . conv => lhs; whnf; arg 1; arg 1; whnf
|apply zO
 . conv => lhs; whnf; arg 1; arg 1; whnf
|refine zT (by conv => lhs; whnf) ?_ ?_ <;> intro hb
|refine zj ?_
|refine zZ ?_
|refine zG ?_
|refine zK ?_
|refine zC ?_
|refine zB rfl ?_
|refine zE rfl ?_
|refine zF ?_
|refine zJ ?_
|refine zD ?_
|refine zL ?_
|refine z6 ?_
|refine zH ?_
|refine ⟨_,by conv => lhs; whnf; arg 2; whnf,?_⟩; conv => rhs; whnf
|exact trivial
|intro hg)
   refine z7 (fun j st => ∃ i,i + j = (d.f 3).l.length /\ Sub (cx EN5 Tryz.prog s w he) st (HSzW (d.f 3).l (IntKind.i64.wrap ((1 + sumN (fun i => sizeR k (gD (d.f 3).l i)) i : Nat) : Int)) i)) (d.f 3).l.length ⟨0,by omega,Sub.live ⟨rfl,rfl,rfl,rfl,trivial⟩ trivial⟩ ?_
   rintro j st ⟨i,hij,hs2⟩
   refine z8 hs2 ?_
   clear hs2
   by_cases hi : i < (d.f 3).l.length
   . have f0 : decide ((i : Int) < ((d.f 3).l.length : Nat)) = true:=decide_eq_true (by omega)
     have ih2:=ih i hi
     have hss : sumN (fun i => sizeR k (gD (d.f 3).l i)) (i + 1) = sumN (fun i => sizeR k (gD (d.f 3).l i)) i + sizeR k (gD (d.f 3).l i):=rfl
     repeat' (first
|apply zBo (y:=.tmp _) rfl rfl rfl
 . conv => lhs; whnf
 . conv => lhs; whnf
|apply zW
 . conv => lhs; whnf
 . assumption
|apply zS
 . conv => lhs; whnf
 . assumption
|refine zi ?_
|refine zf ?_
|refine zAH ?_
|refine zA ?_
|refine zI ?_
|refine zb ?_
|refine zU ?_
|refine za ?_
|apply aw_1
 conv => whnf
 refine ⟨?_,trivial⟩
|apply s_1
 conv => whnf; arg 1; arg 4; arg 3; whnf
 refine ⟨?_,?_⟩
|apply zt rfl
 . conv => lhs; whnf
 . conv => lhs; whnf; arg 2; whnf
|apply zd rfl
 . conv => lhs; whnf
 . conv => lhs; whnf
 . first | exact ih2
|apply zAC rfl rfl rfl rfl
 . conv => lhs; whnf; arg 1; whnf
 . rfl
|apply zAA rfl rfl rfl rfl
 . conv => lhs; whnf; arg 1; whnf
 . rfl
|apply zr rfl rfl rfl
 . conv => lhs; whnf
 . conv => lhs; whnf; arg 1; whnf
 . conv => lhs; whnf; arg 1; whnf
 . exact ⟨by kernel_rfl,by kernel_rfl⟩
 . rfl
|apply zN
 . conv => lhs; whnf; arg 1; arg 1; whnf
|apply zO
 . conv => lhs; whnf; arg 1; arg 1; whnf
|refine zT (by conv => lhs; whnf) ?_ ?_ <;> intro hb
|refine zj ?_
|refine zZ ?_
|refine zG ?_
|refine zK ?_
|refine zC ?_
|refine zB rfl ?_
|refine zE rfl ?_
|refine zF ?_
|refine zJ ?_
|refine zD ?_
|refine zL ?_
|refine z6 ?_
|refine zH ?_
|refine ⟨_,by conv => lhs; whnf; arg 2; whnf,?_⟩; conv => rhs; whnf
|exact trivial
|intro hg)
     . refine zh (j':=j - 1) (by omega) ⟨i + 1,by omega,Sub.live ⟨?_,rfl,rfl,rfl,trivial⟩ trivial⟩
       refine congrArg (fun n => V.c (.int .i64 n)) (?_ : IntKind.i64.wrap (IntKind.i64.wrap ((1 + sumN (fun i => sizeR k (gD (d.f 3).l i)) i : Nat) : Int) + zD5 k (gD (d.f 3).l i)) = IntKind.i64.wrap ((1 + sumN (fun i => sizeR k (gD (d.f 3).l i)) (i + 1) : Nat) : Int))
       rw [zDD,hss]
       unfold zD5
       rw [zEm]
       congr 1
       omega
     all_goals first
      | exact zo (by omega)
      | exact ⟨by omega,by omega⟩
   . have f0 : decide ((i : Int) < ((d.f 3).l.length : Nat)) = false:=decide_eq_false (by omega)
     repeat' (first
|apply zW
 . conv => lhs; whnf
 . assumption
|apply zS
 . conv => lhs; whnf
 . assumption
|refine zi ?_
|refine zf ?_
|refine zAH ?_
|refine zA ?_
|refine zI ?_
|refine zb ?_
|refine zU ?_
|refine za ?_
|apply aw_1
 conv => whnf
 refine ⟨?_,trivial⟩
|apply s_1
 conv => whnf; arg 1; arg 4; arg 3; whnf
 refine ⟨?_,?_⟩
|apply zt rfl
 . conv => lhs; whnf
 . conv => lhs; whnf; arg 2; whnf
|apply zd rfl
 . conv => lhs; whnf
 . conv => lhs; whnf
 . first | fail
|apply zAC rfl rfl rfl rfl
 . conv => lhs; whnf; arg 1; whnf
 . rfl
|apply zAA rfl rfl rfl rfl
 . conv => lhs; whnf; arg 1; whnf
 . rfl
|apply zr rfl rfl rfl
 . conv => lhs; whnf
 . conv => lhs; whnf; arg 1; whnf
 . conv => lhs; whnf; arg 1; whnf
 . exact ⟨by kernel_rfl,by kernel_rfl⟩
 . rfl
|apply zN
 . conv => lhs; whnf; arg 1; arg 1; whnf
|apply zO
 . conv => lhs; whnf; arg 1; arg 1; whnf
|refine zT (by conv => lhs; whnf) ?_ ?_ <;> intro hb
|refine zj ?_
|refine zZ ?_
|refine zG ?_
|refine zK ?_
|refine zC ?_
|refine zB rfl ?_
|refine zE rfl ?_
|refine zF ?_
|refine zJ ?_
|refine zD ?_
|refine zL ?_
|refine z6 ?_
|refine zH ?_
|refine ⟨_,by conv => lhs; whnf; arg 2; whnf,?_⟩; conv => rhs; whnf
|exact trivial
|intro hg)
     rw [hs,show i = (d.f 3).l.length by omega]
noncomputable def HDpW (l : List D) (n : Int) (i : Nat) : Vst 20:=stS 20 [(3,.c (.int .i64 n)),(7,.sl 62 l),(8,.c (.int .i64 (l.length : Nat))),(9,.c (.int .i64 (i : Int)))] []
theorem zGb : ∀ (k : Nat) (d : D),Dp k d -> AC EN5 Tryz.prog 85 [.agg (cellsV Tryz.prog 12 62 d)] (.c (.int .i64 (zB4 k d)))
 | 0,_,h => h.elim
 | k + 1,d,h => by
   refine zCP 2 (by kernel_rfl) fun hL => ?_
   have hl : (d.f 3).l.length <= 9223372036854775807:=(zBm hL).1
   clear hL
   have ih:=fun i (hi : i < (d.f 3).l.length) => zGb k (gD (d.f 3).l i) (h i hi)
   have hs : zB4 (k + 1) d = IntKind.i64.wrap (maxW (fun i => zB4 k (gD (d.f 3).l i)) (d.f 3).l.length + 1):=rfl
   refine zX 20 Tryz.func85 rfl rfl rfl rfl ?_
   intro s w he
   repeat' (first
|refine zA ?_
|refine zI ?_
|refine zb ?_
|refine zU ?_
|refine za ?_
|apply aw_1
 conv => whnf
 refine ⟨?_,trivial⟩
|apply s_1
 conv => whnf; arg 1; arg 4; arg 3; whnf
 refine ⟨?_,?_⟩
|apply zt rfl
 . conv => lhs; whnf
 . conv => lhs; whnf; arg 2; whnf
|apply zd rfl
 . conv => lhs; whnf
 . conv => lhs; whnf
 . first | fail
|apply zAC rfl rfl rfl rfl
 . conv => lhs; whnf; arg 1; whnf
 . rfl
|apply zAA rfl rfl rfl rfl
 . conv => lhs; whnf; arg 1; whnf
 . rfl
|apply zr rfl rfl rfl
 . conv => lhs; whnf
 . conv => lhs; whnf; arg 1; whnf
 . conv => lhs; whnf; arg 1; whnf
 . exact ⟨by kernel_rfl,by kernel_rfl⟩
 . rfl
|apply zN
 . conv => lhs; whnf; arg 1; arg 1; whnf
|apply zO
 . conv => lhs; whnf; arg 1; arg 1; whnf
|refine zT (by conv => lhs; whnf) ?_ ?_ <;> intro hb
|refine zj ?_
|refine zZ ?_
|refine zG ?_
|refine zK ?_
|refine zC ?_
|refine zB rfl ?_
|refine zE rfl ?_
|refine zF ?_
|refine zJ ?_
|refine zD ?_
|refine zL ?_
|refine z6 ?_
|refine zH ?_
|refine ⟨_,by conv => lhs; whnf; arg 2; whnf,?_⟩; conv => rhs; whnf
|exact trivial
|intro hg)
   refine z7 (fun j st => ∃ i,i + j = (d.f 3).l.length /\ Sub (cx EN5 Tryz.prog s w he) st (HDpW (d.f 3).l (maxW (fun i => zB4 k (gD (d.f 3).l i)) i) i)) (d.f 3).l.length ⟨0,by omega,Sub.live ⟨rfl,rfl,rfl,rfl,trivial⟩ trivial⟩ ?_
   rintro j st ⟨i,hij,hs2⟩
   refine z8 hs2 ?_
   clear hs2
   by_cases hi : i < (d.f 3).l.length
   . have f0 : decide ((i : Int) < ((d.f 3).l.length : Nat)) = true:=decide_eq_true (by omega)
     have ih2:=ih i hi
     repeat' (first
|apply s_max rfl rfl rfl
 . conv => lhs; whnf; arg 1; whnf
 . conv => lhs; whnf; arg 1; whnf
|apply zW
 . conv => lhs; whnf
 . assumption
|apply zS
 . conv => lhs; whnf
 . assumption
|refine zi ?_
|refine zf ?_
|refine zAH ?_
|refine zA ?_
|refine zI ?_
|refine zb ?_
|refine zU ?_
|refine za ?_
|apply aw_1
 conv => whnf
 refine ⟨?_,trivial⟩
|apply s_1
 conv => whnf; arg 1; arg 4; arg 3; whnf
 refine ⟨?_,?_⟩
|apply zt rfl
 . conv => lhs; whnf
 . conv => lhs; whnf; arg 2; whnf
|apply zd rfl
 . conv => lhs; whnf
 . conv => lhs; whnf
 . first | exact ih2
|apply zAC rfl rfl rfl rfl
 . conv => lhs; whnf; arg 1; whnf
 . rfl
|apply zAA rfl rfl rfl rfl
 . conv => lhs; whnf; arg 1; whnf
 . rfl
|apply zr rfl rfl rfl
 . conv => lhs; whnf
 . conv => lhs; whnf; arg 1; whnf
 . conv => lhs; whnf; arg 1; whnf
 . exact ⟨by kernel_rfl,by kernel_rfl⟩
 . rfl
|apply zN
 . conv => lhs; whnf; arg 1; arg 1; whnf
|apply zO
 . conv => lhs; whnf; arg 1; arg 1; whnf
|refine zT (by conv => lhs; whnf) ?_ ?_ <;> intro hb
|refine zj ?_
|refine zZ ?_
|refine zG ?_
|refine zK ?_
|refine zC ?_
|refine zB rfl ?_
|refine zE rfl ?_
|refine zF ?_
|refine zJ ?_
|refine zD ?_
|refine zL ?_
|refine z6 ?_
|refine zH ?_
|refine ⟨_,by conv => lhs; whnf; arg 2; whnf,?_⟩; conv => rhs; whnf
|exact trivial
|intro hg)
     all_goals first
      | exact zo (by omega)
      | exact ⟨by omega,by omega⟩
      | exact zh (j':=j - 1) (by omega) ⟨i + 1,by omega,Sub.live ⟨rfl,rfl,rfl,rfl,trivial⟩ trivial⟩
   . have f0 : decide ((i : Int) < ((d.f 3).l.length : Nat)) = false:=decide_eq_false (by omega)
     have e : i = (d.f 3).l.length:=by omega
     subst e
     repeat' (first
|apply zBo rfl rfl rfl
 . conv => lhs; whnf
 . conv => lhs; whnf
|apply zW
 . conv => lhs; whnf
 . assumption
|apply zS
 . conv => lhs; whnf
 . assumption
|refine zi ?_
|refine zf ?_
|refine zAH ?_
|refine zA ?_
|refine zI ?_
|refine zb ?_
|refine zU ?_
|refine za ?_
|apply aw_1
 conv => whnf
 refine ⟨?_,trivial⟩
|apply s_1
 conv => whnf; arg 1; arg 4; arg 3; whnf
 refine ⟨?_,?_⟩
|apply zt rfl
 . conv => lhs; whnf
 . conv => lhs; whnf; arg 2; whnf
|apply zd rfl
 . conv => lhs; whnf
 . conv => lhs; whnf
 . first | fail
|apply zAC rfl rfl rfl rfl
 . conv => lhs; whnf; arg 1; whnf
 . rfl
|apply zAA rfl rfl rfl rfl
 . conv => lhs; whnf; arg 1; whnf
 . rfl
|apply zr rfl rfl rfl
 . conv => lhs; whnf
 . conv => lhs; whnf; arg 1; whnf
 . conv => lhs; whnf; arg 1; whnf
 . exact ⟨by kernel_rfl,by kernel_rfl⟩
 . rfl
|apply zN
 . conv => lhs; whnf; arg 1; arg 1; whnf
|apply zO
 . conv => lhs; whnf; arg 1; arg 1; whnf
|refine zT (by conv => lhs; whnf) ?_ ?_ <;> intro hb
|refine zj ?_
|refine zZ ?_
|refine zG ?_
|refine zK ?_
|refine zC ?_
|refine zB rfl ?_
|refine zE rfl ?_
|refine zF ?_
|refine zJ ?_
|refine zD ?_
|refine zL ?_
|refine z6 ?_
|refine zH ?_
|refine ⟨_,by conv => lhs; whnf; arg 2; whnf,?_⟩; conv => rhs; whnf
|exact trivial
|intro hg)
     rfl
end Go.Proofs.YtdlnnlglmifceaaGreatDoor
namespace Go.Proofs.YtdlnnlglmifceaaGreatDoor
open Go.RowKit
set_option linter.unusedSectionVars false
attribute [local irreducible] wpList Calls Code.wp AW AWo OpOk seqK zAP zAR loopK endK AC zy Yld Sub
attribute [local irreducible] ACB ACX ACE absLexG YldG
theorem nodeU_ac (d : D) : AC EN5 Tryz.prog 124 [.agg (cellsV Tryz.prog 12 62 d),.c (.bool true)] (.c (.bool (nodeL d))):=by
 refine zCP 2 (by kernel_rfl) fun hL => ?_
 have hk : (d.f 4).l.length <= 9223372036854775807:=(zBm hL).2
 clear hL
 have c1:=zAz (d.f 2).s
 have c2:=twiceU_ac (d.f 4).l
 rw [twice_strs] at c2
 have c3:=zEh (d.f 4).l (fun x => !nameB x.s) hk fun i hi => key1U_ac _
 have e : cellsV Tryz.prog 12 62 d = [.c (.int .i64 (d.f 0).n),.c (.int .i64 (d.f 1).n),.c (.string (d.f 2).s),.sl 62 (d.f 3).l,.sl 9 (d.f 4).l]:=rfl
 have hT : ((d.f 2).s.toList == ({ data:=#[] } : ByteArray).toList) = ((d.f 2).s.data.toList == []):=zCC _ []
 have hT1 : ((d.f 2).s.toList == ({ data:=#[116,114,117,101] } : ByteArray).toList) = ((d.f 2).s.data.toList == [116,114,117,101]):=zCC _ _
 have hT2 : ((d.f 2).s.toList == ({ data:=#[102,97,108,115,101] } : ByteArray).toList) = ((d.f 2).s.data.toList == [102,97,108,115,101]):=zCC _ _
 have hT3 : ((d.f 2).s.toList == ({ data:=#[110,117,108,108] } : ByteArray).toList) = ((d.f 2).s.data.toList == [110,117,108,108]):=zCC _ _
 unfold nodeL
 rw [e]
 by_cases h8 : 0 <= (d.f 0).n /\ (d.f 0).n <= 7
 . have h9 : (d.f 0).n = 0 \/ (d.f 0).n = 1 \/ (d.f 0).n = 2 \/ (d.f 0).n = 3 \/ (d.f 0).n = 4 \/ (d.f 0).n = 5 \/ (d.f 0).n = 6 \/ (d.f 0).n = 7:=by omega
   rcases h9 with hn | hn | hn | hn | hn | hn | hn | hn
   all_goals
    rw [hn]
    refine zX 137 Tryz.func124 rfl rfl rfl rfl ?_
    intro s w he
    repeat' (first
|apply s_wanted_pick_t rfl rfl rfl
 . conv => lhs; whnf
 . first | rfl | assumption
 . conv => lhs; whnf
 . first | exact bT1 ‹_› | exact bT2 ‹_› | rfl
|apply zq rfl rfl rfl
 . conv => lhs; whnf
 . first | rfl | assumption
 . conv => lhs; whnf
 . first | exact bT1 ‹_› | exact bT2 ‹_› | rfl
|apply s_wanted_pick_f rfl rfl rfl
 . conv => lhs; whnf
 . first | rfl | assumption
 . conv => lhs; whnf
 . first | exact bF1 ‹_› | exact bF2 ‹_› | rfl
|apply zu rfl rfl rfl
 . conv => lhs; whnf
 . first | rfl | assumption
 . conv => lhs; whnf
 . first | exact bF1 ‹_› | exact bF2 ‹_› | rfl
|refine zA ?_
|refine zI ?_
|refine zb ?_
|refine zU ?_
|refine za ?_
|apply aw_1
 conv => whnf
 refine ⟨?_,trivial⟩
|apply zg rfl rfl
 . conv => lhs; whnf
 . conv => lhs; whnf
 . first | exact bT1 ‹_› | exact bT2 ‹_›
|apply ze rfl rfl
 . conv => lhs; whnf
 . conv => lhs; whnf
 . first | exact bF1 ‹_› | exact bF2 ‹_›
|apply s_1
 conv => whnf; arg 1; arg 4; arg 3; whnf
 refine ⟨?_,?_⟩
|apply zt rfl
 . conv => lhs; whnf
 . conv => lhs; whnf; arg 2; whnf
|apply zd rfl
 . conv => lhs; whnf
 . conv => lhs; whnf
 . first | exact c1 | exact c2 | exact c3
|apply zAC rfl rfl rfl rfl
 . conv => lhs; whnf; arg 1; whnf
 . rfl
|apply zM rfl
 . conv => lhs; whnf
 . conv => lhs; whnf
 . first | rfl | assumption
 . conv => lhs; whnf; arg 2; whnf
|apply zR rfl
 . conv => lhs; whnf
 . conv => lhs; whnf
 . first | rfl | assumption
 . conv => lhs; whnf
 . first | exact c1 | exact c2 | exact c3
|apply zl rfl
 . conv => lhs; whnf
 . conv => lhs; whnf
 . first | rfl | assumption
|apply zAI rfl
 . conv => lhs; whnf
 . rfl
 . rfl
|apply zP rfl
 . conv => lhs; whnf
 . conv => lhs; whnf
 . conv => lhs; whnf; arg 2; whnf
|apply zp rfl
 . conv => lhs; whnf
 . conv => lhs; whnf
 . conv => lhs; whnf
 . first | exact c1 | exact c2 | exact c3
|apply zn rfl
 . conv => lhs; whnf
 . conv => lhs; whnf
 . conv => lhs; whnf; arg 2; whnf
|apply zk rfl
 . conv => lhs; whnf
 . conv => lhs; whnf
 . conv => lhs; whnf
 . first | exact c1 | exact c2 | exact c3
|apply zN
 . conv => lhs; whnf; arg 1; arg 1; whnf
|apply zO
 . conv => lhs; whnf; arg 1; arg 1; whnf
|refine zT (by conv => lhs; whnf) ?_ ?_ <;> intro hb
|refine zj ?_
|refine zZ ?_
|refine zG ?_
|refine zK ?_
|refine zC ?_
|refine zB rfl ?_
|refine zE rfl ?_
|refine zF ?_
|refine zJ ?_
|refine zD ?_
|refine zL ?_
|refine z6 ?_
|refine zH ?_
|refine ⟨_,by conv => lhs; whnf; arg 2; whnf,?_⟩; conv => rhs; whnf
|exact trivial
|intro hg)
    all_goals
     clear c1 c2 c3 he e hk
     simp only [hT,hT1,hT2,hT3] at *
     clear hT hT1 hT2 hT3
     unfold enumR
     generalize ((d.f 2).s.data.toList == []) = t at *
     generalize ((d.f 2).s.data.toList == [116,114,117,101]) = t1 at *
     generalize ((d.f 2).s.data.toList == [102,97,108,115,101]) = t2 at *
     generalize ((d.f 2).s.data.toList == [110,117,108,108]) = t3 at *
     generalize nameB (d.f 2).s = v at *
     generalize ((d.f 4).l.any fun x => !nameB x.s) = ks at *
     generalize decide (strsR d).Nodup = y at *
     generalize (d.f 4).l.length = a at *
     generalize (d.f 3).l.length = b at *
     generalize (d.f 1).n = i at *
     refine congrArg (fun b => V.c (.bool b)) ?_
     unfold nodeK
     simp_all
    all_goals try (intros; omega)
 . have q1 : ((d.f 0).n == 1) = false:=by simp; omega
   have q2 : ((d.f 0).n == 2) = false:=by simp; omega
   have q3 : ((d.f 0).n == 3) = false:=by simp; omega
   have q4 : ((d.f 0).n == 4) = false:=by simp; omega
   have q5 : ((d.f 0).n == 5) = false:=by simp; omega
   have q0 : ((d.f 0).n == 0) = false:=by simp; omega
   have q6 : ((d.f 0).n == 6) = false:=by simp; omega
   have q7 : ((d.f 0).n == 7) = false:=by simp; omega
   have g1 : (((d.f 0).n == 1) == false) = true:=by rw [q1]; rfl
   have g2 : (((d.f 0).n == 2) == false) = true:=by rw [q2]; rfl
   have g3 : (((d.f 0).n == 3) == false) = true:=by rw [q3]; rfl
   have g4 : (((d.f 0).n == 4) == false) = true:=by rw [q4]; rfl
   have g7 : (((d.f 0).n == 7) == false) = true:=by rw [q7]; rfl
   have m5 : ((d.f 0).n != 5) = true:=by simp; omega
   have n5 : (((d.f 0).n != 5) == true) = true:=by rw [m5]; rfl
   have m6 : ((d.f 0).n != 6) = true:=by simp; omega
   have n6 : (((d.f 0).n != 6) == true) = true:=by rw [m6]; rfl
   refine zX 137 Tryz.func124 rfl rfl rfl rfl ?_
   intro s w he
   repeat' (first
|apply s_wanted_pick_t rfl rfl rfl
 . conv => lhs; whnf
 . first | rfl | assumption
 . conv => lhs; whnf
 . first | exact bT1 ‹_› | exact bT2 ‹_› | rfl
|apply zq rfl rfl rfl
 . conv => lhs; whnf
 . first | rfl | assumption
 . conv => lhs; whnf
 . first | exact bT1 ‹_› | exact bT2 ‹_› | rfl
|apply s_wanted_pick_f rfl rfl rfl
 . conv => lhs; whnf
 . first | rfl | assumption
 . conv => lhs; whnf
 . first | exact bF1 ‹_› | exact bF2 ‹_› | rfl
|apply zu rfl rfl rfl
 . conv => lhs; whnf
 . first | rfl | assumption
 . conv => lhs; whnf
 . first | exact bF1 ‹_› | exact bF2 ‹_› | rfl
|apply zW
 . conv => lhs; whnf
 . assumption
|apply zS
 . conv => lhs; whnf
 . assumption
|refine zi ?_
|refine zf ?_
|refine zAH ?_
|refine zA ?_
|refine zI ?_
|refine zb ?_
|refine zU ?_
|refine za ?_
|apply aw_1
 conv => whnf
 refine ⟨?_,trivial⟩
|apply zg rfl rfl
 . conv => lhs; whnf
 . conv => lhs; whnf
 . first | exact bT1 ‹_› | exact bT2 ‹_›
|apply ze rfl rfl
 . conv => lhs; whnf
 . conv => lhs; whnf
 . first | exact bF1 ‹_› | exact bF2 ‹_›
|apply s_1
 conv => whnf; arg 1; arg 4; arg 3; whnf
 refine ⟨?_,?_⟩
|apply zt rfl
 . conv => lhs; whnf
 . conv => lhs; whnf; arg 2; whnf
|apply zd rfl
 . conv => lhs; whnf
 . conv => lhs; whnf
 . first | exact c1 | exact c2 | exact c3
|apply zAC rfl rfl rfl rfl
 . conv => lhs; whnf; arg 1; whnf
 . rfl
|apply zM rfl
 . conv => lhs; whnf
 . conv => lhs; whnf
 . first | rfl | assumption
 . conv => lhs; whnf; arg 2; whnf
|apply zR rfl
 . conv => lhs; whnf
 . conv => lhs; whnf
 . first | rfl | assumption
 . conv => lhs; whnf
 . first | exact c1 | exact c2 | exact c3
|apply zl rfl
 . conv => lhs; whnf
 . conv => lhs; whnf
 . first | rfl | assumption
|apply zAI rfl
 . conv => lhs; whnf
 . rfl
 . rfl
|apply zP rfl
 . conv => lhs; whnf
 . conv => lhs; whnf
 . conv => lhs; whnf; arg 2; whnf
|apply zp rfl
 . conv => lhs; whnf
 . conv => lhs; whnf
 . conv => lhs; whnf
 . first | exact c1 | exact c2 | exact c3
|apply zn rfl
 . conv => lhs; whnf
 . conv => lhs; whnf
 . conv => lhs; whnf; arg 2; whnf
|apply zk rfl
 . conv => lhs; whnf
 . conv => lhs; whnf
 . conv => lhs; whnf
 . first | exact c1 | exact c2 | exact c3
|apply zN
 . conv => lhs; whnf; arg 1; arg 1; whnf
|apply zO
 . conv => lhs; whnf; arg 1; arg 1; whnf
|refine zT (by conv => lhs; whnf) ?_ ?_ <;> intro hb
|refine zj ?_
|refine zZ ?_
|refine zG ?_
|refine zK ?_
|refine zC ?_
|refine zB rfl ?_
|refine zE rfl ?_
|refine zF ?_
|refine zJ ?_
|refine zD ?_
|refine zL ?_
|refine z6 ?_
|refine zH ?_
|refine ⟨_,by conv => lhs; whnf; arg 2; whnf,?_⟩; conv => rhs; whnf
|exact trivial
|intro hg)
   all_goals
    clear c1 c2 c3 he e hk
    simp only [hT,hT1,hT2,hT3] at *
    clear hT hT1 hT2 hT3
    unfold enumR
    generalize ((d.f 2).s.data.toList == []) = t at *
    generalize ((d.f 2).s.data.toList == [116,114,117,101]) = t1 at *
    generalize ((d.f 2).s.data.toList == [102,97,108,115,101]) = t2 at *
    generalize ((d.f 2).s.data.toList == [110,117,108,108]) = t3 at *
    generalize nameB (d.f 2).s = v at *
    generalize ((d.f 4).l.any fun x => !nameB x.s) = ks at *
    generalize decide (strsR d).Nodup = y at *
    generalize (d.f 4).l.length = a at *
    generalize (d.f 3).l.length = b at *
    generalize (d.f 1).n = i at *
    generalize (d.f 0).n = n at *
    refine congrArg (fun b => V.c (.bool b)) ?_
    unfold nodeK
    simp_all
   all_goals try (intros; omega)
theorem zHD (x : D) (b : Bool) (h : AC EN5 Tryz.prog 86 [.agg (cellsV Tryz.prog 12 62 x),.c (.bool true)] (.c (.bool b))) :
 ACB EN5 Tryz.prog 125 [.agg (cellsV Tryz.prog 12 62 x),.bx (pn 0) 0] [.box 4 [.c (.bool true)]] (.c (.bool (!b))) [.box 4 [.c (.bool true)]]:=by
 refine zAM (fn:=Tryz.f125) 8 Tryz.func125 rfl rfl ?_
 intro pas w0 w he hpp
 repeat' (first
|refine zA ?_
|refine zI ?_
|refine zb ?_
|refine zU ?_
|refine za ?_
|apply aw_1
 conv => whnf
 refine ⟨?_,trivial⟩
|apply s_1
 conv => whnf; arg 1; arg 4; arg 3; whnf
 refine ⟨?_,?_⟩
|apply zt rfl
 . conv => lhs; whnf
 . conv => lhs; whnf; arg 2; whnf
|apply zd rfl
 . conv => lhs; whnf
 . conv => lhs; whnf
 . first | exact h
|apply zAC rfl rfl rfl rfl
 . conv => lhs; whnf; arg 1; whnf
 . rfl
|apply zN
 . conv => lhs; whnf; arg 1; arg 1; whnf
|apply zO
 . conv => lhs; whnf; arg 1; arg 1; whnf
|refine zT (by conv => lhs; whnf) ?_ ?_ <;> intro hb
|refine zj ?_
|refine zZ ?_
|refine zG ?_
|refine zK ?_
|refine zC ?_
|refine zB rfl ?_
|refine zE rfl ?_
|refine zF ?_
|refine zJ ?_
|refine zD ?_
|refine zL ?_
|refine zAh ⟨?_,?_⟩
|refine zAQ ⟨?_,?_⟩
|exact (rfl : _ = V.tup [])
|refine ⟨_,by conv => lhs; whnf; arg 2; whnf,?_⟩; conv => rhs; whnf
|exact trivial
|intro hg)
 exact ⟨rfl,trivial⟩
theorem zGY : ∀ (k : Nat) (d : D),Dp k d -> AC EN5 Tryz.prog 86 [.agg (cellsV Tryz.prog 12 62 d),.c (.bool true)] (.c (.bool (everyL k d)))
 | 0,_,h => h.elim
 | k + 1,d,h => by
   refine zCP 2 (by kernel_rfl) fun hL => ?_
   have hl : (d.f 3).l.length <= 9223372036854775807:=(zBm hL).1
   clear hL
   have hnode:=nodeU_ac d
   have hc:=zDU true (d.f 3).l (fun x => !everyL k x) hl fun i hi => zHD _ _ (zGY k _ (h i hi))
   have e : everyL (k + 1) d = (nodeL d && !((d.f 3).l.any fun x => !everyL k x)):=rfl
   rw [e]
   refine zX 15 Tryz.func86 rfl rfl rfl rfl ?_
   intro s w he
   repeat' (first
|apply zAg (m:=3) rfl
 . conv => lhs; whnf
 . conv => lhs; whnf
 . conv => lhs; whnf
 . rfl
 . conv => lhs; whnf; arg 1; whnf
 . exact fun _ => rfl
 . first | exact hc
 . exact fun _ => rfl
 . exact fun _ => rfl
 . exact fun _ => rfl
|apply zAt (m:=3) rfl
 . conv => lhs; whnf
 . conv => lhs; whnf
 . rfl
 . conv => lhs; whnf; arg 1; whnf
 . exact fun _ => rfl
 . first | exact hc
 . exact fun _ => rfl
 . exact fun _ => rfl
 . exact fun _ => rfl
|refine zA ?_
|refine zI ?_
|refine zb ?_
|refine zU ?_
|refine za ?_
|apply aw_1
 conv => whnf
 refine ⟨?_,trivial⟩
|apply zg rfl rfl
 . conv => lhs; whnf
 . conv => lhs; whnf
 . first | exact bT1 ‹_› | exact bT2 ‹_›
|apply ze rfl rfl
 . conv => lhs; whnf
 . conv => lhs; whnf
 . first | exact bF1 ‹_› | exact bF2 ‹_›
|apply s_1
 conv => whnf; arg 1; arg 4; arg 3; whnf
 refine ⟨?_,?_⟩
|apply zt rfl
 . conv => lhs; whnf
 . conv => lhs; whnf; arg 2; whnf
|apply zd rfl
 . conv => lhs; whnf
 . conv => lhs; whnf
 . first | exact hnode
|apply zAC rfl rfl rfl rfl
 . conv => lhs; whnf; arg 1; whnf
 . rfl
|apply zM rfl
 . conv => lhs; whnf
 . conv => lhs; whnf
 . first | rfl | assumption
 . conv => lhs; whnf; arg 2; whnf
|apply zR rfl
 . conv => lhs; whnf
 . conv => lhs; whnf
 . first | rfl | assumption
 . conv => lhs; whnf
 . first | exact hnode
|apply zl rfl
 . conv => lhs; whnf
 . conv => lhs; whnf
 . first | rfl | assumption
|apply zAI rfl
 . conv => lhs; whnf
 . rfl
 . rfl
|apply zP rfl
 . conv => lhs; whnf
 . conv => lhs; whnf
 . conv => lhs; whnf; arg 2; whnf
|apply zp rfl
 . conv => lhs; whnf
 . conv => lhs; whnf
 . conv => lhs; whnf
 . first | exact hnode
|apply zn rfl
 . conv => lhs; whnf
 . conv => lhs; whnf
 . conv => lhs; whnf; arg 2; whnf
|apply zk rfl
 . conv => lhs; whnf
 . conv => lhs; whnf
 . conv => lhs; whnf
 . first | exact hnode
|apply zN
 . conv => lhs; whnf; arg 1; arg 1; whnf
|apply zO
 . conv => lhs; whnf; arg 1; arg 1; whnf
|refine zT (by conv => lhs; whnf) ?_ ?_ <;> intro hb
|refine zj ?_
|refine zZ ?_
|refine zG ?_
|refine zK ?_
|refine zC ?_
|refine zB rfl ?_
|refine zE rfl ?_
|refine zF ?_
|refine zJ ?_
|refine zD ?_
|refine zL ?_
|refine z6 ?_
|refine zH ?_
|refine ⟨_,by conv => lhs; whnf; arg 2; whnf,?_⟩; conv => rhs; whnf
|exact trivial
|intro hg)
   all_goals
    clear hnode hc he e
    generalize nodeL d = b at *
    generalize ((d.f 3).l.any fun x => !everyL k x) = c at *
    cases b
    . first
       | rfl
       | (exfalso; simp at *)
    . first
       | rfl
       | (exfalso; simp at *)
theorem litU_ac (d : D) : AC EN5 Tryz.prog 47 [.agg (cellsV Tryz.prog 12 62 d)] (.c (.bool (litW d))):=by
 have h:=zDS (bulkD d) d (Nat.le_refl _)
 have h1:=zHc _ d h
 have h2:=zGb _ d h
 have h3:=zGY _ d h
 unfold litW
 refine zX 15 Tryz.func47 rfl rfl rfl rfl ?_
 intro s w he
 repeat' (first
|apply s_wanted_pick_t rfl rfl rfl
 . conv => lhs; whnf
 . first | rfl | assumption
 . conv => lhs; whnf
 . first | exact bT1 ‹_› | exact bT2 ‹_› | rfl
|apply zq rfl rfl rfl
 . conv => lhs; whnf
 . first | rfl | assumption
 . conv => lhs; whnf
 . first | exact bT1 ‹_› | exact bT2 ‹_› | rfl
|apply s_wanted_pick_f rfl rfl rfl
 . conv => lhs; whnf
 . first | rfl | assumption
 . conv => lhs; whnf
 . first | exact bF1 ‹_› | exact bF2 ‹_› | rfl
|apply zu rfl rfl rfl
 . conv => lhs; whnf
 . first | rfl | assumption
 . conv => lhs; whnf
 . first | exact bF1 ‹_› | exact bF2 ‹_› | rfl
|refine zA ?_
|refine zI ?_
|refine zb ?_
|refine zU ?_
|refine za ?_
|apply aw_1
 conv => whnf
 refine ⟨?_,trivial⟩
|apply zg rfl rfl
 . conv => lhs; whnf
 . conv => lhs; whnf
 . first | exact bT1 ‹_› | exact bT2 ‹_›
|apply ze rfl rfl
 . conv => lhs; whnf
 . conv => lhs; whnf
 . first | exact bF1 ‹_› | exact bF2 ‹_›
|apply s_1
 conv => whnf; arg 1; arg 4; arg 3; whnf
 refine ⟨?_,?_⟩
|apply zt rfl
 . conv => lhs; whnf
 . conv => lhs; whnf; arg 2; whnf
|apply zd rfl
 . conv => lhs; whnf
 . conv => lhs; whnf
 . first | exact h1 | exact h2 | exact h3
|apply zAC rfl rfl rfl rfl
 . conv => lhs; whnf; arg 1; whnf
 . rfl
|apply zM rfl
 . conv => lhs; whnf
 . conv => lhs; whnf
 . first | rfl | assumption
 . conv => lhs; whnf; arg 2; whnf
|apply zR rfl
 . conv => lhs; whnf
 . conv => lhs; whnf
 . first | rfl | assumption
 . conv => lhs; whnf
 . first | exact h1 | exact h2 | exact h3
|apply zl rfl
 . conv => lhs; whnf
 . conv => lhs; whnf
 . first | rfl | assumption
|apply zAI rfl
 . conv => lhs; whnf
 . rfl
 . rfl
|apply zP rfl
 . conv => lhs; whnf
 . conv => lhs; whnf
 . conv => lhs; whnf; arg 2; whnf
|apply zp rfl
 . conv => lhs; whnf
 . conv => lhs; whnf
 . conv => lhs; whnf
 . first | exact h1 | exact h2 | exact h3
|apply zn rfl
 . conv => lhs; whnf
 . conv => lhs; whnf
 . conv => lhs; whnf; arg 2; whnf
|apply zk rfl
 . conv => lhs; whnf
 . conv => lhs; whnf
 . conv => lhs; whnf
 . first | exact h1 | exact h2 | exact h3
|apply zN
 . conv => lhs; whnf; arg 1; arg 1; whnf
|apply zO
 . conv => lhs; whnf; arg 1; arg 1; whnf
|refine zT (by conv => lhs; whnf) ?_ ?_ <;> intro hb
|refine zj ?_
|refine zZ ?_
|refine zG ?_
|refine zK ?_
|refine zC ?_
|refine zB rfl ?_
|refine zE rfl ?_
|refine zF ?_
|refine zJ ?_
|refine zD ?_
|refine zL ?_
|refine z6 ?_
|refine zH ?_
|refine ⟨_,by conv => lhs; whnf; arg 2; whnf,?_⟩; conv => rhs; whnf
|exact trivial
|intro hg)
 all_goals
  clear h1 h2 h3 he
  refine congrArg (fun b => V.c (.bool b)) ?_
  simp_all
  try (intros; omega)
theorem zAk (s : ByteArray) : AC EN Tryz.prog 26 [.c (.string s)] (.c (.bool (nameB s))):=by
 refine ac_of (r:=.bool (nameB s)) fun σ w us hus _ => ?_
 obtain ⟨rfl,hs⟩:=zD3 hus
 refine ⟨trivial,(nameR s w hs).mono ?_⟩
 rintro e w' ⟨rfl,rfl⟩
 exact ⟨rfl,Below.refl _ _⟩
noncomputable def HSfW (d : D) (n : Int) (i : Nat) : Vst 21:=stS 21 [(1,.bx 1 0),(3,.c (.int .i64 n)),(4,.c (.int .i64 (i : Int)))] [(1,.box 62 (cellsV Tryz.prog 12 62 d))]
theorem zD6 : ∀ (k : Nat) (d : D),Dp k d -> AC EN Tryz.prog 39 [.agg (cellsV Tryz.prog 12 62 d)] (.c (.int .i64 (zD5 k d)))
 | 0,_,h => h.elim
 | k + 1,d,h => by
   refine zCP 2 (by kernel_rfl) fun hL => ?_
   have hl : (d.f 3).l.length <= 9223372036854775807:=(zBm hL).1
   clear hL
   have ih:=fun i (hi : i < (d.f 3).l.length) => zD6 k (gD (d.f 3).l i) (h i hi)
   have hs : zD5 (k + 1) d = IntKind.i64.wrap ((1 + sumN (fun i => sizeR k (gD (d.f 3).l i)) (d.f 3).l.length : Nat) : Int):=rfl
   refine zX 21 Tryz.func39 rfl rfl rfl rfl ?_
   intro s w he
   repeat' (first
|refine zA ?_
|refine zI ?_
|refine zb ?_
|refine zU ?_
|refine za ?_
|apply aw_1
 conv => whnf
 refine ⟨?_,trivial⟩
|apply s_1
 conv => whnf; arg 1; arg 4; arg 3; whnf
 refine ⟨?_,?_⟩
|apply zt rfl
 . conv => lhs; whnf
 . conv => lhs; whnf; arg 2; whnf
|apply zd rfl
 . conv => lhs; whnf
 . conv => lhs; whnf
 . first | fail
|apply zAC rfl rfl rfl rfl
 . conv => lhs; whnf; arg 1; whnf
 . rfl
|apply zN
 . conv => lhs; whnf; arg 1; arg 1; whnf
|apply zO
 . conv => lhs; whnf; arg 1; arg 1; whnf
|refine zT (by conv => lhs; whnf) ?_ ?_ <;> intro hb
|refine zj ?_
|refine zZ ?_
|refine zG ?_
|refine zK ?_
|refine zC ?_
|refine zB rfl ?_
|refine zE rfl ?_
|refine zF ?_
|refine zJ ?_
|refine zD ?_
|refine zL ?_
|refine z6 ?_
|refine zH ?_
|refine ⟨_,by conv => lhs; whnf; arg 2; whnf,?_⟩; conv => rhs; whnf
|exact trivial
|intro hg)
   refine z7 (fun j st => ∃ i,i + j = (d.f 3).l.length /\ Sub (cx EN Tryz.prog s w he) st (HSfW d (IntKind.i64.wrap ((1 + sumN (fun i => sizeR k (gD (d.f 3).l i)) i : Nat) : Int)) i)) (d.f 3).l.length ⟨0,by omega,Sub.live ⟨rfl,rfl,rfl,trivial⟩ ⟨rfl,trivial⟩⟩ ?_
   rintro j st ⟨i,hij,hs2⟩
   refine z8 hs2 ?_
   clear hs2
   by_cases hi : i < (d.f 3).l.length
   . have f0 : decide ((i : Int) < ((d.f 3).l.length : Nat)) = true:=decide_eq_true (by omega)
     have ih2:=ih i hi
     have hss : sumN (fun i => sizeR k (gD (d.f 3).l i)) (i + 1) = sumN (fun i => sizeR k (gD (d.f 3).l i)) i + sizeR k (gD (d.f 3).l i):=rfl
     repeat' (first
|apply zBo (y:=.tmp _) rfl rfl rfl
 . conv => lhs; whnf
 . conv => lhs; whnf
|apply zW
 . conv => lhs; whnf
 . assumption
|apply zS
 . conv => lhs; whnf
 . assumption
|refine zi ?_
|refine zf ?_
|refine zAH ?_
|refine zA ?_
|refine zI ?_
|refine zb ?_
|refine zU ?_
|refine za ?_
|apply aw_1
 conv => whnf
 refine ⟨?_,trivial⟩
|apply s_1
 conv => whnf; arg 1; arg 4; arg 3; whnf
 refine ⟨?_,?_⟩
|apply zt rfl
 . conv => lhs; whnf
 . conv => lhs; whnf; arg 2; whnf
|apply zd rfl
 . conv => lhs; whnf
 . conv => lhs; whnf
 . first | exact ih2
|apply zAC rfl rfl rfl rfl
 . conv => lhs; whnf; arg 1; whnf
 . rfl
|apply zN
 . conv => lhs; whnf; arg 1; arg 1; whnf
|apply zO
 . conv => lhs; whnf; arg 1; arg 1; whnf
|refine zT (by conv => lhs; whnf) ?_ ?_ <;> intro hb
|refine zj ?_
|refine zZ ?_
|refine zG ?_
|refine zK ?_
|refine zC ?_
|refine zB rfl ?_
|refine zE rfl ?_
|refine zF ?_
|refine zJ ?_
|refine zD ?_
|refine zL ?_
|refine z6 ?_
|refine zH ?_
|refine ⟨_,by conv => lhs; whnf; arg 2; whnf,?_⟩; conv => rhs; whnf
|exact trivial
|intro hg)
     all_goals first
      | exact zo (by omega)
      | exact zBM hi
      | (refine zh (j':=j - 1) (by omega) ⟨i + 1,by omega,Sub.live ⟨rfl,?_,rfl,trivial⟩ ⟨rfl,trivial⟩⟩
         refine congrArg (fun n => V.c (.int .i64 n)) (?_ : IntKind.i64.wrap (IntKind.i64.wrap ((1 + sumN (fun i => sizeR k (gD (d.f 3).l i)) i : Nat) : Int) + zD5 k (gD (d.f 3).l i)) = IntKind.i64.wrap ((1 + sumN (fun i => sizeR k (gD (d.f 3).l i)) (i + 1) : Nat) : Int))
         rw [zDD,hss]
         unfold zD5
         rw [zEm]
         congr 1
         omega)
   . have f0 : decide ((i : Int) < ((d.f 3).l.length : Nat)) = false:=decide_eq_false (by omega)
     repeat' (first
|apply zW
 . conv => lhs; whnf
 . assumption
|apply zS
 . conv => lhs; whnf
 . assumption
|refine zi ?_
|refine zf ?_
|refine zAH ?_
|refine zA ?_
|refine zI ?_
|refine zb ?_
|refine zU ?_
|refine za ?_
|apply aw_1
 conv => whnf
 refine ⟨?_,trivial⟩
|apply s_1
 conv => whnf; arg 1; arg 4; arg 3; whnf
 refine ⟨?_,?_⟩
|apply zt rfl
 . conv => lhs; whnf
 . conv => lhs; whnf; arg 2; whnf
|apply zd rfl
 . conv => lhs; whnf
 . conv => lhs; whnf
 . first | fail
|apply zAC rfl rfl rfl rfl
 . conv => lhs; whnf; arg 1; whnf
 . rfl
|apply zN
 . conv => lhs; whnf; arg 1; arg 1; whnf
|apply zO
 . conv => lhs; whnf; arg 1; arg 1; whnf
|refine zT (by conv => lhs; whnf) ?_ ?_ <;> intro hb
|refine zj ?_
|refine zZ ?_
|refine zG ?_
|refine zK ?_
|refine zC ?_
|refine zB rfl ?_
|refine zE rfl ?_
|refine zF ?_
|refine zJ ?_
|refine zD ?_
|refine zL ?_
|refine z6 ?_
|refine zH ?_
|refine ⟨_,by conv => lhs; whnf; arg 2; whnf,?_⟩; conv => rhs; whnf
|exact trivial
|intro hg)
     rw [hs,show i = (d.f 3).l.length by omega]
noncomputable def HDfW (d : D) (n : Int) (i : Nat) : Vst 22:=stS 22 [(1,.bx 1 0),(3,.c (.int .i64 n)),(4,.c (.int .i64 (i : Int)))] [(1,.box 62 (cellsV Tryz.prog 12 62 d))]
theorem zE8 : ∀ (k : Nat) (d : D),Dp k d -> AC EN Tryz.prog 92 [.agg (cellsV Tryz.prog 12 62 d)] (.c (.int .i64 (zB4 k d)))
 | 0,_,h => h.elim
 | k + 1,d,h => by
   refine zCP 2 (by kernel_rfl) fun hL => ?_
   have hl : (d.f 3).l.length <= 9223372036854775807:=(zBm hL).1
   clear hL
   have ih:=fun i (hi : i < (d.f 3).l.length) => zE8 k (gD (d.f 3).l i) (h i hi)
   have hs : zB4 (k + 1) d = IntKind.i64.wrap (maxW (fun i => zB4 k (gD (d.f 3).l i)) (d.f 3).l.length + 1):=rfl
   refine zX 22 Tryz.func92 rfl rfl rfl rfl ?_
   intro s w he
   repeat' (first
|refine zA ?_
|refine zI ?_
|refine zb ?_
|refine zU ?_
|refine za ?_
|apply aw_1
 conv => whnf
 refine ⟨?_,trivial⟩
|apply s_1
 conv => whnf; arg 1; arg 4; arg 3; whnf
 refine ⟨?_,?_⟩
|apply zt rfl
 . conv => lhs; whnf
 . conv => lhs; whnf; arg 2; whnf
|apply zd rfl
 . conv => lhs; whnf
 . conv => lhs; whnf
 . first | fail
|apply zAC rfl rfl rfl rfl
 . conv => lhs; whnf; arg 1; whnf
 . rfl
|apply zN
 . conv => lhs; whnf; arg 1; arg 1; whnf
|apply zO
 . conv => lhs; whnf; arg 1; arg 1; whnf
|refine zT (by conv => lhs; whnf) ?_ ?_ <;> intro hb
|refine zj ?_
|refine zZ ?_
|refine zG ?_
|refine zK ?_
|refine zC ?_
|refine zB rfl ?_
|refine zE rfl ?_
|refine zF ?_
|refine zJ ?_
|refine zD ?_
|refine zL ?_
|refine z6 ?_
|refine zH ?_
|refine ⟨_,by conv => lhs; whnf; arg 2; whnf,?_⟩; conv => rhs; whnf
|exact trivial
|intro hg)
   refine z7 (fun j st => ∃ i,i + j = (d.f 3).l.length /\ Sub (cx EN Tryz.prog s w he) st (HDfW d (maxW (fun i => zB4 k (gD (d.f 3).l i)) i) i)) (d.f 3).l.length ⟨0,by omega,Sub.live ⟨rfl,rfl,rfl,trivial⟩ ⟨rfl,trivial⟩⟩ ?_
   rintro j st ⟨i,hij,hs2⟩
   refine z8 hs2 ?_
   clear hs2
   by_cases hi : i < (d.f 3).l.length
   . have f0 : decide ((i : Int) < ((d.f 3).l.length : Nat)) = true:=decide_eq_true (by omega)
     have ih2:=ih i hi
     repeat' (first
|apply s_max rfl rfl rfl
 . conv => lhs; whnf; arg 1; whnf
 . conv => lhs; whnf; arg 1; whnf
|apply zW
 . conv => lhs; whnf
 . assumption
|apply zS
 . conv => lhs; whnf
 . assumption
|refine zi ?_
|refine zf ?_
|refine zAH ?_
|refine zA ?_
|refine zI ?_
|refine zb ?_
|refine zU ?_
|refine za ?_
|apply aw_1
 conv => whnf
 refine ⟨?_,trivial⟩
|apply s_1
 conv => whnf; arg 1; arg 4; arg 3; whnf
 refine ⟨?_,?_⟩
|apply zt rfl
 . conv => lhs; whnf
 . conv => lhs; whnf; arg 2; whnf
|apply zd rfl
 . conv => lhs; whnf
 . conv => lhs; whnf
 . first | exact ih2
|apply zAC rfl rfl rfl rfl
 . conv => lhs; whnf; arg 1; whnf
 . rfl
|apply zN
 . conv => lhs; whnf; arg 1; arg 1; whnf
|apply zO
 . conv => lhs; whnf; arg 1; arg 1; whnf
|refine zT (by conv => lhs; whnf) ?_ ?_ <;> intro hb
|refine zj ?_
|refine zZ ?_
|refine zG ?_
|refine zK ?_
|refine zC ?_
|refine zB rfl ?_
|refine zE rfl ?_
|refine zF ?_
|refine zJ ?_
|refine zD ?_
|refine zL ?_
|refine z6 ?_
|refine zH ?_
|refine ⟨_,by conv => lhs; whnf; arg 2; whnf,?_⟩; conv => rhs; whnf
|exact trivial
|intro hg)
     all_goals first
      | exact zo (by omega)
      | exact zBM hi
      | exact zh (j':=j - 1) (by omega) ⟨i + 1,by omega,Sub.live ⟨rfl,rfl,rfl,trivial⟩ ⟨rfl,trivial⟩⟩
   . have f0 : decide ((i : Int) < ((d.f 3).l.length : Nat)) = false:=decide_eq_false (by omega)
     have e : i = (d.f 3).l.length:=by omega
     subst e
     repeat' (first
|apply zBo rfl rfl rfl
 . conv => lhs; whnf
 . conv => lhs; whnf
|apply zW
 . conv => lhs; whnf
 . assumption
|apply zS
 . conv => lhs; whnf
 . assumption
|refine zi ?_
|refine zf ?_
|refine zAH ?_
|refine zA ?_
|refine zI ?_
|refine zb ?_
|refine zU ?_
|refine za ?_
|apply aw_1
 conv => whnf
 refine ⟨?_,trivial⟩
|apply s_1
 conv => whnf; arg 1; arg 4; arg 3; whnf
 refine ⟨?_,?_⟩
|apply zt rfl
 . conv => lhs; whnf
 . conv => lhs; whnf; arg 2; whnf
|apply zd rfl
 . conv => lhs; whnf
 . conv => lhs; whnf
 . first | fail
|apply zAC rfl rfl rfl rfl
 . conv => lhs; whnf; arg 1; whnf
 . rfl
|apply zN
 . conv => lhs; whnf; arg 1; arg 1; whnf
|apply zO
 . conv => lhs; whnf; arg 1; arg 1; whnf
|refine zT (by conv => lhs; whnf) ?_ ?_ <;> intro hb
|refine zj ?_
|refine zZ ?_
|refine zG ?_
|refine zK ?_
|refine zC ?_
|refine zB rfl ?_
|refine zE rfl ?_
|refine zF ?_
|refine zJ ?_
|refine zD ?_
|refine zL ?_
|refine z6 ?_
|refine zH ?_
|refine ⟨_,by conv => lhs; whnf; arg 2; whnf,?_⟩; conv => rhs; whnf
|exact trivial
|intro hg)
     rfl
def eqStU (l : List D) (i k : Nat) : Bool:=(gD l i).s.toList == (gD l k).s.toList
def zFj (l : List D) (i : Nat) : Nat -> Nat -> Bool
 | 0,_ => false
 | j + 1,k => eqStU l i k || zFj l i j (k + 1)
def zEY (l : List D) : Nat -> Nat -> Bool
 | 0,_ => false
 | j + 1,i => zFj l i i 0 || zEY l j (i + 1)
theorem zGS (l : List D) (i : Nat) : ∀ (j k : Nat),zFj l i j k = true ↔ ∃ m,k <= m /\ m < k + j /\ eqStU l i m = true
 | 0,k => by simp only [zFj,Bool.false_eq_true,false_iff]; rintro ⟨m,h1,h2,-⟩; omega
 | j + 1,k => by
   rw [zFj,Bool.or_eq_true,zGS l i j (k + 1)]
   constructor
   . rintro (h | ⟨m,h1,h2,h3⟩)
     . exact ⟨k,Nat.le_refl _,by omega,h⟩
     . exact ⟨m,by omega,by omega,h3⟩
   . rintro ⟨m,h1,h2,h3⟩
     by_cases e : m = k
     . subst e; exact .inl h3
     . exact .inr ⟨m,by omega,by omega,h3⟩
theorem zGJ (l : List D) : ∀ (j i : Nat),zEY l j i = true ↔ ∃ m,i <= m /\ m < i + j /\ ∃ k,k < m /\ eqStU l m k = true
 | 0,i => by simp only [zEY,Bool.false_eq_true,false_iff]; rintro ⟨m,h1,h2,-⟩; omega
 | j + 1,i => by
   rw [zEY,Bool.or_eq_true,zGJ l j (i + 1),zGS]
   constructor
   . rintro (⟨k,h1,h2,h3⟩ | ⟨m,h1,h2,h3⟩)
     . exact ⟨i,Nat.le_refl _,by omega,k,by omega,h3⟩
     . exact ⟨m,by omega,by omega,h3⟩
   . rintro ⟨m,h1,h2,k,h3,h4⟩
     by_cases e : m = i
     . subst e; exact .inl ⟨k,by omega,by omega,h4⟩
     . exact .inr ⟨m,by omega,by omega,k,h3,h4⟩
theorem outT_RU (d : D) : zEY (d.f 4).l (d.f 4).l.length 0 = !decide (strsR d).Nodup:=by
 rw [Bool.eq_iff_iff,zGJ,Bool.not_eq_true',decide_eq_false_iff_not]
 have hlen : (strsR d).length = (d.f 4).l.length:=by simp [strsR]
 have hg : ∀ i (h : i < (d.f 4).l.length),(strsR d)[i]'(by rw [hlen]; exact h) = (gD (d.f 4).l i).s.data.toList:=fun i h => by
  simp only [strsR,List.getElem_map]
  rw [gD,List.getD_eq_getElem?_getD,List.getElem?_eq_getElem h]; rfl
 have he : ∀ i k,eqStU (d.f 4).l i k = true ↔ (gD (d.f 4).l i).s.data.toList = (gD (d.f 4).l k).s.data.toList:=fun i k => by
  unfold eqStU; rw [Lib.toList_data,Lib.toList_data,beq_iff_eq]
 constructor
 . rintro ⟨m,-,h2,k,h3,h4⟩ hn
   have h5:=List.pairwise_iff_getElem.1 hn k m (by omega) (by omega) h3
   rw [hg k (by omega),hg m (by omega)] at h5
   exact h5 ((he m k).1 h4).symm
 . intro hn
   refine Classical.byContradiction fun hc => hn (List.pairwise_iff_getElem.2 fun k m hk hm hkm hq => hc ⟨m,Nat.zero_le _,by omega,k,hkm,?_⟩)
   rw [hg k (by omega),hg m (by omega)] at hq
   exact (he m k).2 hq.symm
noncomputable def HToU (l : List D) (i : Nat) : Vst 25:=stS 25 [(0,.sl 9 l),(3,.c (.int .i64 (i : Int)))] []
noncomputable def HTiU (l : List D) (i k : Nat) : Vst 25:=stS 25 [(0,.sl 9 l),(3,.c (.int .i64 (i : Int))),(4,.c (.int .i64 (k : Int)))] []
theorem twiceFU_ac (d : D) : AC EN Tryz.prog 163 [.sl 9 (d.f 4).l] (.c (.bool (!decide (strsR d).Nodup))):=by
 refine zEW 1 fun hL2 => ?_
 have hl : (d.f 4).l.length <= 9223372036854775807:=hL2.1
 clear hL2
 have hR:=outT_RU d
 generalize (!decide (strsR d).Nodup) = R at hR |-
 generalize (d.f 4).l = l at hR hl |-
 refine zX 25 Tryz.func163 rfl rfl rfl rfl ?_
 intro s w he
 repeat' (first
|refine zA ?_
|refine zI ?_
|refine zb ?_
|refine zU ?_
|refine za ?_
|apply aw_1
 conv => whnf
 refine ⟨?_,trivial⟩
|apply s_1
 conv => whnf; arg 1; arg 4; arg 3; whnf
 refine ⟨?_,?_⟩
|apply zt rfl
 . conv => lhs; whnf
 . conv => lhs; whnf; arg 2; whnf
|apply zAm (by kernel_rfl) (by kernel_rfl)
|apply zB6
|apply zB5 rfl
 . conv => lhs; whnf
 . conv => lhs; whnf; arg 2; whnf
|exact zAG
|exact zAK
|exact all_nil
|show List.all _ _ = true; rfl
|show zAl _ _ = true; rfl
|exact ([] : List Nat)
|exact (1000000 : Nat)
|apply zN
 . conv => lhs; whnf; arg 1; arg 1; whnf
|apply zO
 . conv => lhs; whnf; arg 1; arg 1; whnf
|refine zT (by conv => lhs; whnf) ?_ ?_ <;> intro hb
|refine zj ?_
|refine zZ ?_
|refine zG ?_
|refine zK ?_
|refine zC ?_
|refine zB rfl ?_
|refine zE rfl ?_
|refine zF ?_
|refine zJ ?_
|refine zD ?_
|refine zL ?_
|refine z6 ?_
|refine zH ?_
|refine ⟨_,by conv => lhs; whnf; arg 2; whnf,?_⟩; conv => rhs; whnf
|exact trivial
|intro hg)
 refine z7 (fun j st => ∃ i,i + j = l.length /\ zEY l j i = R /\ Sub (cx EN Tryz.prog s w he) st (HToU l i)) l.length ⟨0,by omega,hR,Sub.live ⟨rfl,rfl,trivial⟩ trivial⟩ ?_
 clear hR
 rintro j st ⟨i,hij,hR,hs2⟩
 refine z8 hs2 ?_
 clear hs2
 by_cases hi : i < l.length
 . obtain ⟨j,rfl⟩ : ∃ q,j = q + 1:=⟨j - 1,by omega⟩
   have f1 : decide ((i : Int) < (l.length : Nat)) = true:=decide_eq_true (by omega)
   have hR' : (zFj l i i 0 || zEY l j (i + 1)) = R:=hR
   clear hR
   repeat' (first
|apply zW
 . conv => lhs; whnf
 . assumption
|apply zS
 . conv => lhs; whnf
 . assumption
|refine zi ?_
|refine zf ?_
|refine zAH ?_
|refine zA ?_
|refine zI ?_
|refine zb ?_
|refine zU ?_
|refine za ?_
|apply aw_1
 conv => whnf
 refine ⟨?_,trivial⟩
|apply s_1
 conv => whnf; arg 1; arg 4; arg 3; whnf
 refine ⟨?_,?_⟩
|apply zt rfl
 . conv => lhs; whnf
 . conv => lhs; whnf; arg 2; whnf
|apply zAm (by kernel_rfl) (by kernel_rfl)
|apply zB6
|apply zB5 rfl
 . conv => lhs; whnf
 . conv => lhs; whnf; arg 2; whnf
|exact zAG
|exact zAK
|exact all_nil
|show List.all _ _ = true; rfl
|show zAl _ _ = true; rfl
|exact ([] : List Nat)
|exact (1000000 : Nat)
|apply zN
 . conv => lhs; whnf; arg 1; arg 1; whnf
|apply zO
 . conv => lhs; whnf; arg 1; arg 1; whnf
|refine zT (by conv => lhs; whnf) ?_ ?_ <;> intro hb
|refine zj ?_
|refine zZ ?_
|refine zG ?_
|refine zK ?_
|refine zC ?_
|refine zB rfl ?_
|refine zE rfl ?_
|refine zF ?_
|refine zJ ?_
|refine zD ?_
|refine zL ?_
|refine z6 ?_
|refine zH ?_
|refine ⟨_,by conv => lhs; whnf; arg 2; whnf,?_⟩; conv => rhs; whnf
|exact trivial
|intro hg)
   refine z7 (fun jj st => ∃ k,k + jj = i /\ (zFj l i jj k || zEY l j (i + 1)) = R /\ Sub (cx EN Tryz.prog s w he) st (HTiU l i k)) i ⟨0,by omega,hR',Sub.live ⟨rfl,rfl,rfl,trivial⟩ trivial⟩ ?_
   clear hR'
   rintro jj st ⟨k,hk,hR,hs2⟩
   refine z8 hs2 ?_
   clear hs2
   by_cases hki : k < i
   . obtain ⟨jj,rfl⟩ : ∃ q,jj = q + 1:=⟨jj - 1,by omega⟩
     have f2 : decide ((k : Int) < (i : Int)) = true:=decide_eq_true (by omega)
     have hR' : (eqStU l i k || zFj l i jj (k + 1) || zEY l j (i + 1)) = R:=hR
     have hkl : k < l.length:=by omega
     repeat' (first
|apply zW
 . conv => lhs; whnf
 . assumption
|apply zS
 . conv => lhs; whnf
 . assumption
|refine zi ?_
|refine zf ?_
|refine zAH ?_
|refine zA ?_
|refine zI ?_
|refine zb ?_
|refine zU ?_
|refine za ?_
|apply aw_1
 conv => whnf
 refine ⟨?_,trivial⟩
|apply s_1
 conv => whnf; arg 1; arg 4; arg 3; whnf
 refine ⟨?_,?_⟩
|apply zt rfl
 . conv => lhs; whnf
 . conv => lhs; whnf; arg 2; whnf
|apply zAm (by kernel_rfl) (by kernel_rfl)
|apply zB6
|apply zB5 rfl
 . conv => lhs; whnf
 . conv => lhs; whnf; arg 2; whnf
|exact zAG
|exact zAK
|exact all_nil
|show List.all _ _ = true; rfl
|show zAl _ _ = true; rfl
|exact ([] : List Nat)
|exact (1000000 : Nat)
|apply zN
 . conv => lhs; whnf; arg 1; arg 1; whnf
|apply zO
 . conv => lhs; whnf; arg 1; arg 1; whnf
|refine zT (by conv => lhs; whnf) ?_ ?_ <;> intro hb
|refine zj ?_
|refine zZ ?_
|refine zG ?_
|refine zK ?_
|refine zC ?_
|refine zB rfl ?_
|refine zE rfl ?_
|refine zF ?_
|refine zJ ?_
|refine zD ?_
|refine zL ?_
|refine z6 ?_
|refine zH ?_
|refine ⟨_,by conv => lhs; whnf; arg 2; whnf,?_⟩; conv => rhs; whnf
|exact trivial
|intro hg)
     all_goals first
      | exact zo (by omega)
      | exact zBM hi
      | exact zBM hkl
      | skip
     . have e : eqStU l i k = true:=by assumption
       rw [<- hR',e]; rfl
     . have e : eqStU l i k = false:=by assumption
       exact zh (j':=jj) (by omega) ⟨k + 1,by omega,by rw [<- hR',e,Bool.false_or],Sub.live ⟨rfl,rfl,rfl,trivial⟩ trivial⟩
   . obtain rfl : jj = 0:=by omega
     have f2 : decide ((k : Int) < (i : Int)) = false:=decide_eq_false (by omega)
     have hR' : zEY l j (i + 1) = R:=by rw [<- hR,zFj,Bool.false_or]
     repeat' (first
|apply zW
 . conv => lhs; whnf
 . assumption
|apply zS
 . conv => lhs; whnf
 . assumption
|refine zi ?_
|refine zf ?_
|refine zAH ?_
|refine zA ?_
|refine zI ?_
|refine zb ?_
|refine zU ?_
|refine za ?_
|apply aw_1
 conv => whnf
 refine ⟨?_,trivial⟩
|apply s_1
 conv => whnf; arg 1; arg 4; arg 3; whnf
 refine ⟨?_,?_⟩
|apply zt rfl
 . conv => lhs; whnf
 . conv => lhs; whnf; arg 2; whnf
|apply zAm (by kernel_rfl) (by kernel_rfl)
|apply zB6
|apply zB5 rfl
 . conv => lhs; whnf
 . conv => lhs; whnf; arg 2; whnf
|exact zAG
|exact zAK
|exact all_nil
|show List.all _ _ = true; rfl
|show zAl _ _ = true; rfl
|exact ([] : List Nat)
|exact (1000000 : Nat)
|apply zN
 . conv => lhs; whnf; arg 1; arg 1; whnf
|apply zO
 . conv => lhs; whnf; arg 1; arg 1; whnf
|refine zT (by conv => lhs; whnf) ?_ ?_ <;> intro hb
|refine zj ?_
|refine zZ ?_
|refine zG ?_
|refine zK ?_
|refine zC ?_
|refine zB rfl ?_
|refine zE rfl ?_
|refine zF ?_
|refine zJ ?_
|refine zD ?_
|refine zL ?_
|refine z6 ?_
|refine zH ?_
|refine ⟨_,by conv => lhs; whnf; arg 2; whnf,?_⟩; conv => rhs; whnf
|exact trivial
|intro hg)
     all_goals first
      | exact zo (by omega)
      | exact zh (j':=j) (by omega) ⟨i + 1,by omega,hR',Sub.live ⟨rfl,rfl,trivial⟩ trivial⟩
      | skip
 . obtain rfl : j = 0:=by omega
   have f1 : decide ((i : Int) < (l.length : Nat)) = false:=decide_eq_false (by omega)
   repeat' (first
|apply zW
 . conv => lhs; whnf
 . assumption
|apply zS
 . conv => lhs; whnf
 . assumption
|refine zi ?_
|refine zf ?_
|refine zAH ?_
|refine zA ?_
|refine zI ?_
|refine zb ?_
|refine zU ?_
|refine za ?_
|apply aw_1
 conv => whnf
 refine ⟨?_,trivial⟩
|apply s_1
 conv => whnf; arg 1; arg 4; arg 3; whnf
 refine ⟨?_,?_⟩
|apply zt rfl
 . conv => lhs; whnf
 . conv => lhs; whnf; arg 2; whnf
|apply zAm (by kernel_rfl) (by kernel_rfl)
|apply zB6
|apply zB5 rfl
 . conv => lhs; whnf
 . conv => lhs; whnf; arg 2; whnf
|exact zAG
|exact zAK
|exact all_nil
|show List.all _ _ = true; rfl
|show zAl _ _ = true; rfl
|exact ([] : List Nat)
|exact (1000000 : Nat)
|apply zN
 . conv => lhs; whnf; arg 1; arg 1; whnf
|apply zO
 . conv => lhs; whnf; arg 1; arg 1; whnf
|refine zT (by conv => lhs; whnf) ?_ ?_ <;> intro hb
|refine zj ?_
|refine zZ ?_
|refine zG ?_
|refine zK ?_
|refine zC ?_
|refine zB rfl ?_
|refine zE rfl ?_
|refine zF ?_
|refine zJ ?_
|refine zD ?_
|refine zL ?_
|refine z6 ?_
|refine zH ?_
|refine ⟨_,by conv => lhs; whnf; arg 2; whnf,?_⟩; conv => rhs; whnf
|exact trivial
|intro hg)
   rw [<- hR]; rfl
def zHp (n i : Int) (t : Bool) (a b : Nat) (x v y : Bool) : Bool:=
 if n = 0 then i == 0 && t && b == 0 && a == 0
 else if n = 1 then (i == 0 || i == 1) && t && b == 0 && a == 0
 else if n = 2 then t && b == 0 && a == 0
 else if n = 3 then i == 0 && b == 0 && a == 0
 else if n = 4 then i == 0 && b == 0 && a == 0 && x
 else if n = 5 then i == 0 && t && a == 0
 else if n = 6 then i == 0 && t && a == b && y
 else if n = 7 then i == 0 && b == 0 && a == 0 && v
 else false
theorem nodeF_KU (n i : Int) (t : Bool) (a b : Nat) (x v ks y : Bool) (hks : a = 0 -> ks = true) : (zHp n i t a b x v y && ks) = nodeK n i t a b x v ks y:=by
 have h0 : (a == 0) = true -> ks = true:=fun h => hks (by simpa using h)
 unfold zHp nodeK
 by_cases n0 : n = 0
 . subst n0; cases ks <;> simp_all
   try ac_rfl
 by_cases n1 : n = 1
 . subst n1; cases ks <;> simp_all
   try ac_rfl
 by_cases n2 : n = 2
 . subst n2; cases ks <;> simp_all
   try ac_rfl
 by_cases n3 : n = 3
 . subst n3; cases ks <;> simp_all
   try ac_rfl
 by_cases n4 : n = 4
 . subst n4; cases ks <;> simp_all
   try ac_rfl
 by_cases n5 : n = 5
 . subst n5; cases ks <;> simp_all
   try ac_rfl
 by_cases n6 : n = 6
 . subst n6; cases ks <;> simp_all
   try ac_rfl
 by_cases n7 : n = 7
 . subst n7; cases ks <;> simp_all
   try ac_rfl
 have hd : decide (0 <= n /\ n <= 7) = false:=decide_eq_false (by omega)
 rw [hd]
 simp [n0,n1,n2,n3,n4,n5,n6,n7]
def zDa (d : D) : Bool:=zHp (d.f 0).n (d.f 1).n ((d.f 2).s.data.toList == []) (d.f 4).l.length (d.f 3).l.length (enumR (d.f 2).s) (nameB (d.f 2).s) (decide (strsR d).Nodup)
theorem nodeD_LU (d : D) : (zDa d && !((d.f 4).l.any fun x => !nameB x.s)) = nodeL d:=
 nodeF_KU _ _ _ _ _ _ _ _ _ fun h => by rw [List.eq_nil_of_length_eq_zero h]; rfl
theorem nodeFU_ac (d : D) : AC EN Tryz.prog 131 [.agg (cellsV Tryz.prog 12 62 d),.c (.bool true)] (.c (.bool (zDa d))):=by
 have h1:=zAk (d.f 2).s
 have h2:=twiceFU_ac d
 have e : cellsV Tryz.prog 12 62 d = [.c (.int .i64 (d.f 0).n),.c (.int .i64 (d.f 1).n),.c (.string (d.f 2).s),.sl 62 (d.f 3).l,.sl 9 (d.f 4).l]:=rfl
 have hT : ((d.f 2).s.toList == ({ data:=#[] } : ByteArray).toList) = ((d.f 2).s.data.toList == []):=zCC _ []
 have hT1 : ((d.f 2).s.toList == ({ data:=#[116,114,117,101] } : ByteArray).toList) = ((d.f 2).s.data.toList == [116,114,117,101]):=zCC _ _
 have hT2 : ((d.f 2).s.toList == ({ data:=#[102,97,108,115,101] } : ByteArray).toList) = ((d.f 2).s.data.toList == [102,97,108,115,101]):=zCC _ _
 have hT3 : ((d.f 2).s.toList == ({ data:=#[110,117,108,108] } : ByteArray).toList) = ((d.f 2).s.data.toList == [110,117,108,108]):=zCC _ _
 have z3 : (((d.f 3).l.length : Int) == 0) = ((d.f 3).l.length == 0):=by rw [Bool.eq_iff_iff]; simp only [beq_iff_eq]; omega
 have z4 : (((d.f 4).l.length : Int) == 0) = ((d.f 4).l.length == 0):=by rw [Bool.eq_iff_iff]; simp only [beq_iff_eq]; omega
 have z5 : (((d.f 4).l.length : Int) == ((d.f 3).l.length : Int)) = ((d.f 4).l.length == (d.f 3).l.length):=by rw [Bool.eq_iff_iff]; simp only [beq_iff_eq]; omega
 unfold zDa zHp enumR
 rw [e]
 by_cases h8 : 0 <= (d.f 0).n /\ (d.f 0).n <= 7
 . have h9 : (d.f 0).n = 0 \/ (d.f 0).n = 1 \/ (d.f 0).n = 2 \/ (d.f 0).n = 3 \/ (d.f 0).n = 4 \/ (d.f 0).n = 5 \/ (d.f 0).n = 6 \/ (d.f 0).n = 7:=by omega
   rcases h9 with hn | hn | hn | hn | hn | hn | hn | hn
   all_goals
    rw [hn]
    simp only [if_pos,if_neg,reduceIte,Int.reduceEq]
    refine zX 193 Tryz.func131 rfl rfl rfl rfl ?_
    intro s w he
    repeat' (first
|apply s_wanted_pick_t rfl rfl rfl
 . conv => lhs; whnf
 . first | rfl | assumption
 . conv => lhs; whnf
 . first | exact bT1 ‹_› | exact bT2 ‹_› | rfl
|apply zq rfl rfl rfl
 . conv => lhs; whnf
 . first | rfl | assumption
 . conv => lhs; whnf
 . first | exact bT1 ‹_› | exact bT2 ‹_› | rfl
|apply s_wanted_pick_f rfl rfl rfl
 . conv => lhs; whnf
 . first | rfl | assumption
 . conv => lhs; whnf
 . first | exact bF1 ‹_› | exact bF2 ‹_› | rfl
|apply zu rfl rfl rfl
 . conv => lhs; whnf
 . first | rfl | assumption
 . conv => lhs; whnf
 . first | exact bF1 ‹_› | exact bF2 ‹_› | rfl
|refine zA ?_
|refine zI ?_
|refine zb ?_
|refine zU ?_
|refine za ?_
|apply aw_1
 conv => whnf
 refine ⟨?_,trivial⟩
|apply zg rfl rfl
 . conv => lhs; whnf
 . conv => lhs; whnf
 . first | exact bT1 ‹_› | exact bT2 ‹_›
|apply ze rfl rfl
 . conv => lhs; whnf
 . conv => lhs; whnf
 . first | exact bF1 ‹_› | exact bF2 ‹_›
|apply s_1
 conv => whnf; arg 1; arg 4; arg 3; whnf
 refine ⟨?_,?_⟩
|apply zt rfl
 . conv => lhs; whnf
 . conv => lhs; whnf; arg 2; whnf
|apply zd rfl
 . conv => lhs; whnf
 . conv => lhs; whnf
 . first | exact h1 | exact h2
|apply zAC rfl rfl rfl rfl
 . conv => lhs; whnf; arg 1; whnf
 . rfl
|apply zM rfl
 . conv => lhs; whnf
 . conv => lhs; whnf
 . first | rfl | assumption
 . conv => lhs; whnf; arg 2; whnf
|apply zR rfl
 . conv => lhs; whnf
 . conv => lhs; whnf
 . first | rfl | assumption
 . conv => lhs; whnf
 . first | exact h1 | exact h2
|apply zl rfl
 . conv => lhs; whnf
 . conv => lhs; whnf
 . first | rfl | assumption
|apply zAI rfl
 . conv => lhs; whnf
 . rfl
 . rfl
|apply zP rfl
 . conv => lhs; whnf
 . conv => lhs; whnf
 . conv => lhs; whnf; arg 2; whnf
|apply zp rfl
 . conv => lhs; whnf
 . conv => lhs; whnf
 . conv => lhs; whnf
 . first | exact h1 | exact h2
|apply zn rfl
 . conv => lhs; whnf
 . conv => lhs; whnf
 . conv => lhs; whnf; arg 2; whnf
|apply zk rfl
 . conv => lhs; whnf
 . conv => lhs; whnf
 . conv => lhs; whnf
 . first | exact h1 | exact h2
|apply zN
 . conv => lhs; whnf; arg 1; arg 1; whnf
|apply zO
 . conv => lhs; whnf; arg 1; arg 1; whnf
|refine zT (by conv => lhs; whnf) ?_ ?_ <;> intro hb
|refine zj ?_
|refine zZ ?_
|refine zG ?_
|refine zK ?_
|refine zC ?_
|refine zB rfl ?_
|refine zE rfl ?_
|refine zF ?_
|refine zJ ?_
|refine zD ?_
|refine zL ?_
|refine z6 ?_
|refine zH ?_
|refine ⟨_,by conv => lhs; whnf; arg 2; whnf,?_⟩; conv => rhs; whnf
|exact trivial
|intro hg)
    all_goals
     refine congrArg (fun b => V.c (.bool b)) ?_
     clear h1 h2 he e
     simp only [hT,hT1,hT2,hT3,z3,z4,z5] at *
     clear hT hT1 hT2 hT3 z3 z4 z5
     generalize ((d.f 2).s.data.toList == []) = t at *
     generalize ((d.f 2).s.data.toList == [116,114,117,101]) = t1 at *
     generalize ((d.f 2).s.data.toList == [102,97,108,115,101]) = t2 at *
     generalize ((d.f 2).s.data.toList == [110,117,108,108]) = t3 at *
     generalize nameB (d.f 2).s = v at *
     generalize decide (strsR d).Nodup = y at *
     generalize ((d.f 3).l.length == 0) = b0 at *
     generalize ((d.f 4).l.length == 0) = a0 at *
     generalize ((d.f 4).l.length == (d.f 3).l.length) = ab at *
     generalize (d.f 1).n = i at *
     simp_all
 have n0 : (d.f 0).n ≠ 0:=by omega
 have n1 : (d.f 0).n ≠ 1:=by omega
 have n2 : (d.f 0).n ≠ 2:=by omega
 have n3 : (d.f 0).n ≠ 3:=by omega
 have n4 : (d.f 0).n ≠ 4:=by omega
 have n5 : (d.f 0).n ≠ 5:=by omega
 have n6 : (d.f 0).n ≠ 6:=by omega
 have n7 : (d.f 0).n ≠ 7:=by omega
 rw [if_neg n0,if_neg n1,if_neg n2,if_neg n3,if_neg n4,if_neg n5,if_neg n6,if_neg n7]
 . have f0 : ((d.f 0).n == 0) = false:=by simpa using n0
   have f1 : ((d.f 0).n == 1) = false:=by simpa using n1
   have f2 : ((d.f 0).n == 2) = false:=by simpa using n2
   have f3 : ((d.f 0).n == 3) = false:=by simpa using n3
   have f4 : ((d.f 0).n == 4) = false:=by simpa using n4
   have f5 : ((d.f 0).n == 5) = false:=by simpa using n5
   have f6 : ((d.f 0).n == 6) = false:=by simpa using n6
   have f7 : ((d.f 0).n == 7) = false:=by simpa using n7
   refine zX 193 Tryz.func131 rfl rfl rfl rfl ?_
   intro s w he
   repeat' (first
|apply zW
 . conv => lhs; whnf
 . assumption
|apply zS
 . conv => lhs; whnf
 . assumption
|refine zi ?_
|refine zf ?_
|refine zAH ?_
|refine zA ?_
|refine zI ?_
|refine zb ?_
|refine zU ?_
|refine za ?_
|apply aw_1
 conv => whnf
 refine ⟨?_,trivial⟩
|apply zg rfl rfl
 . conv => lhs; whnf
 . conv => lhs; whnf
 . first | exact bT1 ‹_› | exact bT2 ‹_›
|apply ze rfl rfl
 . conv => lhs; whnf
 . conv => lhs; whnf
 . first | exact bF1 ‹_› | exact bF2 ‹_›
|apply s_1
 conv => whnf; arg 1; arg 4; arg 3; whnf
 refine ⟨?_,?_⟩
|apply zt rfl
 . conv => lhs; whnf
 . conv => lhs; whnf; arg 2; whnf
|apply zd rfl
 . conv => lhs; whnf
 . conv => lhs; whnf
 . first | exact h1 | exact h2
|apply zAC rfl rfl rfl rfl
 . conv => lhs; whnf; arg 1; whnf
 . rfl
|apply zM rfl
 . conv => lhs; whnf
 . conv => lhs; whnf
 . first | rfl | assumption
 . conv => lhs; whnf; arg 2; whnf
|apply zR rfl
 . conv => lhs; whnf
 . conv => lhs; whnf
 . first | rfl | assumption
 . conv => lhs; whnf
 . first | exact h1 | exact h2
|apply zB3 rfl
 . conv => lhs; whnf
 . conv => lhs; whnf
 . first | rfl | assumption
|apply zn rfl
 . conv => lhs; whnf
 . conv => lhs; whnf
 . conv => lhs; whnf; arg 2; whnf
|apply zk rfl
 . conv => lhs; whnf
 . conv => lhs; whnf
 . conv => lhs; whnf
 . first | exact h1 | exact h2
|apply zN
 . conv => lhs; whnf; arg 1; arg 1; whnf
|apply zO
 . conv => lhs; whnf; arg 1; arg 1; whnf
|refine zT (by conv => lhs; whnf) ?_ ?_ <;> intro hb
|refine zj ?_
|refine zZ ?_
|refine zG ?_
|refine zK ?_
|refine zC ?_
|refine zB rfl ?_
|refine zE rfl ?_
|refine zF ?_
|refine zJ ?_
|refine zD ?_
|refine zL ?_
|refine z6 ?_
|refine zH ?_
|refine ⟨_,by conv => lhs; whnf; arg 2; whnf,?_⟩; conv => rhs; whnf
|exact trivial
|intro hg)
def allIU (p : D -> Bool) (l : List D) : Nat -> Nat -> Bool
 | 0,_ => true
 | j + 1,i => p (gD l i) && allIU p l j (i + 1)
theorem zFE (p : D -> Bool) (x : D) (l : List D) : ∀ (j i : Nat),allIU p (x :: l) j (i + 1) = allIU p l j i
 | 0,_ => rfl
 | j + 1,i => by
   unfold allIU
   rw [zFE p x l j (i + 1)]
   rfl
theorem zCO (p : D -> Bool) : ∀ l : List D,allIU p l l.length 0 = l.all p
 | [] => rfl
 | x :: r => by
   show (p x && allIU p (x :: r) r.length 1) = (p x && r.all p)
   rw [zFE,zCO p r]
theorem zIW (p : D -> Bool) (l : List D) : l.all p = !(l.any fun x => !p x):=by
 induction l with
 | nil => rfl
 | cons x r ih => simp only [List.all_cons,List.any_cons,ih,Bool.not_or,Bool.not_not]
theorem zBd (p : D -> Bool) (l : List D) : allIU p l l.length 0 = !(l.any fun x => !p x):=by rw [zCO,zIW]
noncomputable def HWkU (d : D) (i : Nat) : Vst 43:=stS 43 [(1,.c (.bool true)),(2,.bx 2 0),(5,.c (.int .i64 (i : Int)))] [(2,.box 62 (cellsV Tryz.prog 12 62 d))]
noncomputable def HWiU (d : D) (i : Nat) : Vst 43:=stS 43 [(1,.c (.bool true)),(2,.bx 2 0),(6,.c (.int .i64 (i : Int)))] [(2,.box 62 (cellsV Tryz.prog 12 62 d))]
theorem zEn : ∀ (k : Nat) (d : D),Dp k d -> AC EN Tryz.prog 93 [.agg (cellsV Tryz.prog 12 62 d),.c (.bool true)] (.c (.bool (everyL k d)))
 | 0,_,h => h.elim
 | k + 1,d,h => by
   refine zCP 2 (by kernel_rfl) fun hL => ?_
   have hl : (d.f 3).l.length <= 9223372036854775807:=(zBm hL).1
   have hlk : (d.f 4).l.length <= 9223372036854775807:=(zBm hL).2
   clear hL
   have ih:=fun i (hi : i < (d.f 3).l.length) => zEn k (gD (d.f 3).l i) (h i hi)
   have hn:=nodeFU_ac d
   have hname:=fun i (_ : i < (d.f 4).l.length) => zAk (gD (d.f 4).l i).s
   have hR : everyL (k + 1) d = (zDa d && allIU (fun x => nameB x.s) (d.f 4).l (d.f 4).l.length 0 && allIU (everyL k) (d.f 3).l (d.f 3).l.length 0):=by
    rw [zBd,zBd,nodeD_LU]; rfl
   generalize everyL (k + 1) d = R at hR |-
   refine zX 43 Tryz.func93 rfl rfl rfl rfl ?_
   intro s w he
   repeat' (first
|refine zA ?_
|refine zI ?_
|refine zb ?_
|refine zU ?_
|refine za ?_
|apply aw_1
 conv => whnf
 refine ⟨?_,trivial⟩
|apply zg rfl rfl
 . conv => lhs; whnf
 . conv => lhs; whnf
 . first | exact bT1 ‹_› | exact bT2 ‹_›
|apply ze rfl rfl
 . conv => lhs; whnf
 . conv => lhs; whnf
 . first | exact bF1 ‹_› | exact bF2 ‹_›
|apply s_1
 conv => whnf; arg 1; arg 4; arg 3; whnf
 refine ⟨?_,?_⟩
|apply zt rfl
 . conv => lhs; whnf
 . conv => lhs; whnf; arg 2; whnf
|apply zd rfl
 . conv => lhs; whnf
 . conv => lhs; whnf
 . first | exact hn
|apply zAC rfl rfl rfl rfl
 . conv => lhs; whnf; arg 1; whnf
 . rfl
|apply zM rfl
 . conv => lhs; whnf
 . conv => lhs; whnf
 . first | rfl | assumption
 . conv => lhs; whnf; arg 2; whnf
|apply zR rfl
 . conv => lhs; whnf
 . conv => lhs; whnf
 . first | rfl | assumption
 . conv => lhs; whnf
 . first | exact hn
|apply zB3 rfl
 . conv => lhs; whnf
 . conv => lhs; whnf
 . first | rfl | assumption
|apply zn rfl
 . conv => lhs; whnf
 . conv => lhs; whnf
 . conv => lhs; whnf; arg 2; whnf
|apply zk rfl
 . conv => lhs; whnf
 . conv => lhs; whnf
 . conv => lhs; whnf
 . first | exact hn
|apply zN
 . conv => lhs; whnf; arg 1; arg 1; whnf
|apply zO
 . conv => lhs; whnf; arg 1; arg 1; whnf
|refine zT (by conv => lhs; whnf) ?_ ?_ <;> intro hb
|refine zj ?_
|refine zZ ?_
|refine zG ?_
|refine zK ?_
|refine zC ?_
|refine zB rfl ?_
|refine zE rfl ?_
|refine zF ?_
|refine zJ ?_
|refine zD ?_
|refine zL ?_
|refine z6 ?_
|refine zH ?_
|refine ⟨_,by conv => lhs; whnf; arg 2; whnf,?_⟩; conv => rhs; whnf
|exact trivial
|intro hg)
   . have hb : zDa d = false:=by simpa using (by assumption : (!zDa d) = true)
     rw [hR,hb]; rfl
   have hb : zDa d = true:=by simpa using (by assumption : (!zDa d) = false)
   rw [hb,Bool.true_and] at hR
   clear hb hn
   refine z7 (fun j st => ∃ i,i + j = (d.f 4).l.length /\ R = (allIU (fun x => nameB x.s) (d.f 4).l j i && allIU (everyL k) (d.f 3).l (d.f 3).l.length 0) /\ Sub (cx EN Tryz.prog s w he) st (HWkU d i)) (d.f 4).l.length ⟨0,by omega,hR,Sub.live ⟨rfl,rfl,rfl,trivial⟩ ⟨rfl,trivial⟩⟩ ?_
   clear hR
   rintro j st ⟨i,hij,hR,hs2⟩
   refine z8 hs2 ?_
   clear hs2
   by_cases hi : i < (d.f 4).l.length
   . obtain ⟨j,rfl⟩ : ∃ q,j = q + 1:=⟨j - 1,by omega⟩
     have f1 : decide ((i : Int) < ((d.f 4).l.length : Nat)) = true:=decide_eq_true (by omega)
     have hR' : R = (nameB (gD (d.f 4).l i).s && allIU (fun x => nameB x.s) (d.f 4).l j (i + 1) && allIU (everyL k) (d.f 3).l (d.f 3).l.length 0):=hR
     clear hR
     have hn1:=hname i hi
     repeat' (first
|apply s_wanted_pick_t rfl rfl rfl
 . conv => lhs; whnf
 . first | rfl | assumption
 . conv => lhs; whnf
 . first | exact bT1 ‹_› | exact bT2 ‹_› | rfl
|apply zq rfl rfl rfl
 . conv => lhs; whnf
 . first | rfl | assumption
 . conv => lhs; whnf
 . first | exact bT1 ‹_› | exact bT2 ‹_› | rfl
|apply s_wanted_pick_f rfl rfl rfl
 . conv => lhs; whnf
 . first | rfl | assumption
 . conv => lhs; whnf
 . first | exact bF1 ‹_› | exact bF2 ‹_› | rfl
|apply zu rfl rfl rfl
 . conv => lhs; whnf
 . first | rfl | assumption
 . conv => lhs; whnf
 . first | exact bF1 ‹_› | exact bF2 ‹_› | rfl
|apply zW
 . conv => lhs; whnf
 . assumption
|apply zS
 . conv => lhs; whnf
 . assumption
|refine zi ?_
|refine zf ?_
|refine zAH ?_
|refine zA ?_
|refine zI ?_
|refine zb ?_
|refine zU ?_
|refine za ?_
|apply aw_1
 conv => whnf
 refine ⟨?_,trivial⟩
|apply zg rfl rfl
 . conv => lhs; whnf
 . conv => lhs; whnf
 . first | exact bT1 ‹_› | exact bT2 ‹_›
|apply ze rfl rfl
 . conv => lhs; whnf
 . conv => lhs; whnf
 . first | exact bF1 ‹_› | exact bF2 ‹_›
|apply s_1
 conv => whnf; arg 1; arg 4; arg 3; whnf
 refine ⟨?_,?_⟩
|apply zt rfl
 . conv => lhs; whnf
 . conv => lhs; whnf; arg 2; whnf
|apply zd rfl
 . conv => lhs; whnf
 . conv => lhs; whnf
 . first | exact hn1
|apply zAC rfl rfl rfl rfl
 . conv => lhs; whnf; arg 1; whnf
 . rfl
|apply zM rfl
 . conv => lhs; whnf
 . conv => lhs; whnf
 . first | rfl | assumption
 . conv => lhs; whnf; arg 2; whnf
|apply zR rfl
 . conv => lhs; whnf
 . conv => lhs; whnf
 . first | rfl | assumption
 . conv => lhs; whnf
 . first | exact hn1
|apply zl rfl
 . conv => lhs; whnf
 . conv => lhs; whnf
 . first | rfl | assumption
|apply zAI rfl
 . conv => lhs; whnf
 . rfl
 . rfl
|apply zP rfl
 . conv => lhs; whnf
 . conv => lhs; whnf
 . conv => lhs; whnf; arg 2; whnf
|apply zp rfl
 . conv => lhs; whnf
 . conv => lhs; whnf
 . conv => lhs; whnf
 . first | exact hn1
|apply zn rfl
 . conv => lhs; whnf
 . conv => lhs; whnf
 . conv => lhs; whnf; arg 2; whnf
|apply zk rfl
 . conv => lhs; whnf
 . conv => lhs; whnf
 . conv => lhs; whnf
 . first | exact hn1
|apply zN
 . conv => lhs; whnf; arg 1; arg 1; whnf
|apply zO
 . conv => lhs; whnf; arg 1; arg 1; whnf
|refine zT (by conv => lhs; whnf) ?_ ?_ <;> intro hb
|refine zj ?_
|refine zZ ?_
|refine zG ?_
|refine zK ?_
|refine zC ?_
|refine zB rfl ?_
|refine zE rfl ?_
|refine zF ?_
|refine zJ ?_
|refine zD ?_
|refine zL ?_
|refine z6 ?_
|refine zH ?_
|refine ⟨_,by conv => lhs; whnf; arg 2; whnf,?_⟩; conv => rhs; whnf
|exact trivial
|intro hg)
     all_goals first
      | exact zo (by omega)
      | exact zBM hi
      | (have e : nameB (gD (d.f 4).l i).s = false:=by simpa using (by assumption : (!nameB (gD (d.f 4).l i).s) = true)
         rw [hR',e]; rfl)
      | (have e : nameB (gD (d.f 4).l i).s = true:=by simpa using (by assumption : (!nameB (gD (d.f 4).l i).s) = false)
         exact zh (j':=j) (by omega) ⟨i + 1,by omega,by rw [hR',e,Bool.true_and],Sub.live ⟨rfl,rfl,rfl,trivial⟩ ⟨rfl,trivial⟩⟩)
      | skip
   . obtain rfl : j = 0:=by omega
     have f1 : decide ((i : Int) < ((d.f 4).l.length : Nat)) = false:=decide_eq_false (by omega)
     have hR2 : R = allIU (everyL k) (d.f 3).l (d.f 3).l.length 0:=by rw [hR,allIU,Bool.true_and]
     clear hR
     repeat' (first
|apply zW
 . conv => lhs; whnf
 . assumption
|apply zS
 . conv => lhs; whnf
 . assumption
|refine zi ?_
|refine zf ?_
|refine zAH ?_
|refine zA ?_
|refine zI ?_
|refine zb ?_
|refine zU ?_
|refine za ?_
|apply aw_1
 conv => whnf
 refine ⟨?_,trivial⟩
|apply zg rfl rfl
 . conv => lhs; whnf
 . conv => lhs; whnf
 . first | exact bT1 ‹_› | exact bT2 ‹_›
|apply ze rfl rfl
 . conv => lhs; whnf
 . conv => lhs; whnf
 . first | exact bF1 ‹_› | exact bF2 ‹_›
|apply s_1
 conv => whnf; arg 1; arg 4; arg 3; whnf
 refine ⟨?_,?_⟩
|apply zt rfl
 . conv => lhs; whnf
 . conv => lhs; whnf; arg 2; whnf
|apply zd rfl
 . conv => lhs; whnf
 . conv => lhs; whnf
 . first | fail
|apply zAC rfl rfl rfl rfl
 . conv => lhs; whnf; arg 1; whnf
 . rfl
|apply zM rfl
 . conv => lhs; whnf
 . conv => lhs; whnf
 . first | rfl | assumption
 . conv => lhs; whnf; arg 2; whnf
|apply zR rfl
 . conv => lhs; whnf
 . conv => lhs; whnf
 . first | rfl | assumption
 . conv => lhs; whnf
 . first | fail
|apply zB3 rfl
 . conv => lhs; whnf
 . conv => lhs; whnf
 . first | rfl | assumption
|apply zn rfl
 . conv => lhs; whnf
 . conv => lhs; whnf
 . conv => lhs; whnf; arg 2; whnf
|apply zk rfl
 . conv => lhs; whnf
 . conv => lhs; whnf
 . conv => lhs; whnf
 . first | fail
|apply zN
 . conv => lhs; whnf; arg 1; arg 1; whnf
|apply zO
 . conv => lhs; whnf; arg 1; arg 1; whnf
|refine zT (by conv => lhs; whnf) ?_ ?_ <;> intro hb
|refine zj ?_
|refine zZ ?_
|refine zG ?_
|refine zK ?_
|refine zC ?_
|refine zB rfl ?_
|refine zE rfl ?_
|refine zF ?_
|refine zJ ?_
|refine zD ?_
|refine zL ?_
|refine z6 ?_
|refine zH ?_
|refine ⟨_,by conv => lhs; whnf; arg 2; whnf,?_⟩; conv => rhs; whnf
|exact trivial
|intro hg)
     refine z7 (fun j st => ∃ i,i + j = (d.f 3).l.length /\ R = allIU (everyL k) (d.f 3).l j i /\ Sub (cx EN Tryz.prog s w he) st (HWiU d i)) (d.f 3).l.length ⟨0,by omega,hR2,Sub.live ⟨rfl,rfl,rfl,trivial⟩ ⟨rfl,trivial⟩⟩ ?_
     clear hR2
     rintro j2 st2 ⟨i2,hij2,hR,hs2⟩
     refine z8 hs2 ?_
     clear hs2
     by_cases hi2 : i2 < (d.f 3).l.length
     . obtain ⟨j2,rfl⟩ : ∃ q,j2 = q + 1:=⟨j2 - 1,by omega⟩
       have f2 : decide ((i2 : Int) < ((d.f 3).l.length : Nat)) = true:=decide_eq_true (by omega)
       have hR' : R = (everyL k (gD (d.f 3).l i2) && allIU (everyL k) (d.f 3).l j2 (i2 + 1)):=hR
       have ih2:=ih i2 hi2
       repeat' (first
|apply s_wanted_pick_t rfl rfl rfl
 . conv => lhs; whnf
 . first | rfl | assumption
 . conv => lhs; whnf
 . first | exact bT1 ‹_› | exact bT2 ‹_› | rfl
|apply zq rfl rfl rfl
 . conv => lhs; whnf
 . first | rfl | assumption
 . conv => lhs; whnf
 . first | exact bT1 ‹_› | exact bT2 ‹_› | rfl
|apply s_wanted_pick_f rfl rfl rfl
 . conv => lhs; whnf
 . first | rfl | assumption
 . conv => lhs; whnf
 . first | exact bF1 ‹_› | exact bF2 ‹_› | rfl
|apply zu rfl rfl rfl
 . conv => lhs; whnf
 . first | rfl | assumption
 . conv => lhs; whnf
 . first | exact bF1 ‹_› | exact bF2 ‹_› | rfl
|apply zW
 . conv => lhs; whnf
 . assumption
|apply zS
 . conv => lhs; whnf
 . assumption
|refine zi ?_
|refine zf ?_
|refine zAH ?_
|refine zA ?_
|refine zI ?_
|refine zb ?_
|refine zU ?_
|refine za ?_
|apply aw_1
 conv => whnf
 refine ⟨?_,trivial⟩
|apply zg rfl rfl
 . conv => lhs; whnf
 . conv => lhs; whnf
 . first | exact bT1 ‹_› | exact bT2 ‹_›
|apply ze rfl rfl
 . conv => lhs; whnf
 . conv => lhs; whnf
 . first | exact bF1 ‹_› | exact bF2 ‹_›
|apply s_1
 conv => whnf; arg 1; arg 4; arg 3; whnf
 refine ⟨?_,?_⟩
|apply zt rfl
 . conv => lhs; whnf
 . conv => lhs; whnf; arg 2; whnf
|apply zd rfl
 . conv => lhs; whnf
 . conv => lhs; whnf
 . first | exact ih2
|apply zAC rfl rfl rfl rfl
 . conv => lhs; whnf; arg 1; whnf
 . rfl
|apply zM rfl
 . conv => lhs; whnf
 . conv => lhs; whnf
 . first | rfl | assumption
 . conv => lhs; whnf; arg 2; whnf
|apply zR rfl
 . conv => lhs; whnf
 . conv => lhs; whnf
 . first | rfl | assumption
 . conv => lhs; whnf
 . first | exact ih2
|apply zl rfl
 . conv => lhs; whnf
 . conv => lhs; whnf
 . first | rfl | assumption
|apply zAI rfl
 . conv => lhs; whnf
 . rfl
 . rfl
|apply zP rfl
 . conv => lhs; whnf
 . conv => lhs; whnf
 . conv => lhs; whnf; arg 2; whnf
|apply zp rfl
 . conv => lhs; whnf
 . conv => lhs; whnf
 . conv => lhs; whnf
 . first | exact ih2
|apply zn rfl
 . conv => lhs; whnf
 . conv => lhs; whnf
 . conv => lhs; whnf; arg 2; whnf
|apply zk rfl
 . conv => lhs; whnf
 . conv => lhs; whnf
 . conv => lhs; whnf
 . first | exact ih2
|apply zN
 . conv => lhs; whnf; arg 1; arg 1; whnf
|apply zO
 . conv => lhs; whnf; arg 1; arg 1; whnf
|refine zT (by conv => lhs; whnf) ?_ ?_ <;> intro hb
|refine zj ?_
|refine zZ ?_
|refine zG ?_
|refine zK ?_
|refine zC ?_
|refine zB rfl ?_
|refine zE rfl ?_
|refine zF ?_
|refine zJ ?_
|refine zD ?_
|refine zL ?_
|refine z6 ?_
|refine zH ?_
|refine ⟨_,by conv => lhs; whnf; arg 2; whnf,?_⟩; conv => rhs; whnf
|exact trivial
|intro hg)
       all_goals first
        | exact zo (by omega)
        | exact zBM hi2
        | (have e : everyL k (gD (d.f 3).l i2) = false:=by simpa using (by assumption : (!everyL k (gD (d.f 3).l i2)) = true)
           rw [hR',e]; rfl)
        | (have e : everyL k (gD (d.f 3).l i2) = true:=by simpa using (by assumption : (!everyL k (gD (d.f 3).l i2)) = false)
           exact zh (j':=j2) (by omega) ⟨i2 + 1,by omega,by rw [hR',e,Bool.true_and],Sub.live ⟨rfl,rfl,rfl,trivial⟩ ⟨rfl,trivial⟩⟩)
        | skip
     . obtain rfl : j2 = 0:=by omega
       have f2 : decide ((i2 : Int) < ((d.f 3).l.length : Nat)) = false:=decide_eq_false (by omega)
       repeat' (first
|apply zW
 . conv => lhs; whnf
 . assumption
|apply zS
 . conv => lhs; whnf
 . assumption
|refine zi ?_
|refine zf ?_
|refine zAH ?_
|refine zA ?_
|refine zI ?_
|refine zb ?_
|refine zU ?_
|refine za ?_
|apply aw_1
 conv => whnf
 refine ⟨?_,trivial⟩
|apply zg rfl rfl
 . conv => lhs; whnf
 . conv => lhs; whnf
 . first | exact bT1 ‹_› | exact bT2 ‹_›
|apply ze rfl rfl
 . conv => lhs; whnf
 . conv => lhs; whnf
 . first | exact bF1 ‹_› | exact bF2 ‹_›
|apply s_1
 conv => whnf; arg 1; arg 4; arg 3; whnf
 refine ⟨?_,?_⟩
|apply zt rfl
 . conv => lhs; whnf
 . conv => lhs; whnf; arg 2; whnf
|apply zd rfl
 . conv => lhs; whnf
 . conv => lhs; whnf
 . first | fail
|apply zAC rfl rfl rfl rfl
 . conv => lhs; whnf; arg 1; whnf
 . rfl
|apply zM rfl
 . conv => lhs; whnf
 . conv => lhs; whnf
 . first | rfl | assumption
 . conv => lhs; whnf; arg 2; whnf
|apply zR rfl
 . conv => lhs; whnf
 . conv => lhs; whnf
 . first | rfl | assumption
 . conv => lhs; whnf
 . first | fail
|apply zB3 rfl
 . conv => lhs; whnf
 . conv => lhs; whnf
 . first | rfl | assumption
|apply zn rfl
 . conv => lhs; whnf
 . conv => lhs; whnf
 . conv => lhs; whnf; arg 2; whnf
|apply zk rfl
 . conv => lhs; whnf
 . conv => lhs; whnf
 . conv => lhs; whnf
 . first | fail
|apply zN
 . conv => lhs; whnf; arg 1; arg 1; whnf
|apply zO
 . conv => lhs; whnf; arg 1; arg 1; whnf
|refine zT (by conv => lhs; whnf) ?_ ?_ <;> intro hb
|refine zj ?_
|refine zZ ?_
|refine zG ?_
|refine zK ?_
|refine zC ?_
|refine zB rfl ?_
|refine zE rfl ?_
|refine zF ?_
|refine zJ ?_
|refine zD ?_
|refine zL ?_
|refine z6 ?_
|refine zH ?_
|refine ⟨_,by conv => lhs; whnf; arg 2; whnf,?_⟩; conv => rhs; whnf
|exact trivial
|intro hg)
       rw [hR]; rfl
theorem zHv (d : D) : AC EN Tryz.prog 56 [.agg (cellsV Tryz.prog 12 62 d)] (.c (.bool (litW d))):=by
 have h:=zDS (bulkD d) d (Nat.le_refl _)
 have h1:=zD6 _ d h
 have h2:=zE8 _ d h
 have h3:=zEn _ d h
 unfold litW
 refine zX 15 Tryz.func56 rfl rfl rfl rfl ?_
 intro s w he
 repeat' (first
|apply s_wanted_pick_t rfl rfl rfl
 . conv => lhs; whnf
 . first | rfl | assumption
 . conv => lhs; whnf
 . first | exact bT1 ‹_› | exact bT2 ‹_› | rfl
|apply zq rfl rfl rfl
 . conv => lhs; whnf
 . first | rfl | assumption
 . conv => lhs; whnf
 . first | exact bT1 ‹_› | exact bT2 ‹_› | rfl
|apply s_wanted_pick_f rfl rfl rfl
 . conv => lhs; whnf
 . first | rfl | assumption
 . conv => lhs; whnf
 . first | exact bF1 ‹_› | exact bF2 ‹_› | rfl
|apply zu rfl rfl rfl
 . conv => lhs; whnf
 . first | rfl | assumption
 . conv => lhs; whnf
 . first | exact bF1 ‹_› | exact bF2 ‹_› | rfl
|refine zA ?_
|refine zI ?_
|refine zb ?_
|refine zU ?_
|refine za ?_
|apply aw_1
 conv => whnf
 refine ⟨?_,trivial⟩
|apply zg rfl rfl
 . conv => lhs; whnf
 . conv => lhs; whnf
 . first | exact bT1 ‹_› | exact bT2 ‹_›
|apply ze rfl rfl
 . conv => lhs; whnf
 . conv => lhs; whnf
 . first | exact bF1 ‹_› | exact bF2 ‹_›
|apply s_1
 conv => whnf; arg 1; arg 4; arg 3; whnf
 refine ⟨?_,?_⟩
|apply zt rfl
 . conv => lhs; whnf
 . conv => lhs; whnf; arg 2; whnf
|apply zd rfl
 . conv => lhs; whnf
 . conv => lhs; whnf
 . first | exact h1 | exact h2 | exact h3
|apply zAC rfl rfl rfl rfl
 . conv => lhs; whnf; arg 1; whnf
 . rfl
|apply zM rfl
 . conv => lhs; whnf
 . conv => lhs; whnf
 . first | rfl | assumption
 . conv => lhs; whnf; arg 2; whnf
|apply zR rfl
 . conv => lhs; whnf
 . conv => lhs; whnf
 . first | rfl | assumption
 . conv => lhs; whnf
 . first | exact h1 | exact h2 | exact h3
|apply zl rfl
 . conv => lhs; whnf
 . conv => lhs; whnf
 . first | rfl | assumption
|apply zAI rfl
 . conv => lhs; whnf
 . rfl
 . rfl
|apply zP rfl
 . conv => lhs; whnf
 . conv => lhs; whnf
 . conv => lhs; whnf; arg 2; whnf
|apply zp rfl
 . conv => lhs; whnf
 . conv => lhs; whnf
 . conv => lhs; whnf
 . first | exact h1 | exact h2 | exact h3
|apply zn rfl
 . conv => lhs; whnf
 . conv => lhs; whnf
 . conv => lhs; whnf; arg 2; whnf
|apply zk rfl
 . conv => lhs; whnf
 . conv => lhs; whnf
 . conv => lhs; whnf
 . first | exact h1 | exact h2 | exact h3
|apply zN
 . conv => lhs; whnf; arg 1; arg 1; whnf
|apply zO
 . conv => lhs; whnf; arg 1; arg 1; whnf
|refine zT (by conv => lhs; whnf) ?_ ?_ <;> intro hb
|refine zj ?_
|refine zZ ?_
|refine zG ?_
|refine zK ?_
|refine zC ?_
|refine zB rfl ?_
|refine zE rfl ?_
|refine zF ?_
|refine zJ ?_
|refine zD ?_
|refine zL ?_
|refine z6 ?_
|refine zH ?_
|refine ⟨_,by conv => lhs; whnf; arg 2; whnf,?_⟩; conv => rhs; whnf
|exact trivial
|intro hg)
 all_goals
  clear h1 h2 h3 he
  refine congrArg (fun b => V.c (.bool b)) ?_
  simp_all
  try (intros; omega)
theorem str_is (s : ByteArray) (l : List UInt8) : (s.toList == (⟨l.toArray⟩ : ByteArray).toList) = (s.data.toList == l):=by
 rw [Lib.toList_data,Lib.toList_data]
theorem bare1_ac (x : D) (b : Bool) (h : AC EN5 Tryz.prog 48 [.agg (cellsV Tryz.prog 12 62 x)] (.c (.bool b))) : AC EN5 Tryz.prog 88 [.agg (cellsV Tryz.prog 12 62 x)] (.c (.bool (!b))):=by
 refine zX 6 Tryz.func88 rfl rfl rfl rfl ?_
 intro s w he
 repeat' (first
|refine zA ?_
|refine zI ?_
|refine zb ?_
|refine zU ?_
|refine za ?_
|apply aw_1
 conv => whnf
 refine ⟨?_,trivial⟩
|apply s_1
 conv => whnf; arg 1; arg 4; arg 3; whnf
 refine ⟨?_,?_⟩
|apply zt rfl
 . conv => lhs; whnf
 . conv => lhs; whnf; arg 2; whnf
|apply zd rfl
 . conv => lhs; whnf
 . conv => lhs; whnf
 . first | exact h
|apply zAC rfl rfl rfl rfl
 . conv => lhs; whnf; arg 1; whnf
 . rfl
|apply zN
 . conv => lhs; whnf; arg 1; arg 1; whnf
|apply zO
 . conv => lhs; whnf; arg 1; arg 1; whnf
|refine zT (by conv => lhs; whnf) ?_ ?_ <;> intro hb
|refine zj ?_
|refine zZ ?_
|refine zG ?_
|refine zK ?_
|refine zC ?_
|refine zB rfl ?_
|refine zE rfl ?_
|refine zF ?_
|refine zJ ?_
|refine zD ?_
|refine zL ?_
|refine z6 ?_
|refine zH ?_
|refine ⟨_,by conv => lhs; whnf; arg 2; whnf,?_⟩; conv => rhs; whnf
|exact trivial
|intro hg)
theorem sel1_acb (x : D) (lv : Nat) (b : Bool) (h : AC EN5 Tryz.prog 51 [.agg (cellsV Tryz.prog 12 57 x),.c (.int .i64 (lv : Int))] (.c (.bool b))) :
 ACB EN5 Tryz.prog 50 [.agg (cellsV Tryz.prog 12 57 x),.bx (pn 0) 0] [.box 3 [.c (.int .i64 (lv : Int))]] (.c (.bool (!b))) [.box 3 [.c (.int .i64 (lv : Int))]]:=by
 refine zAM (fn:=Tryz.f50) 8 Tryz.func50 rfl rfl ?_
 intro pas w0 w he hpp
 repeat' (first
|refine zA ?_
|refine zI ?_
|refine zb ?_
|refine zU ?_
|refine za ?_
|apply aw_1
 conv => whnf
 refine ⟨?_,trivial⟩
|apply s_1
 conv => whnf; arg 1; arg 4; arg 3; whnf
 refine ⟨?_,?_⟩
|apply zt rfl
 . conv => lhs; whnf
 . conv => lhs; whnf; arg 2; whnf
|apply zd rfl
 . conv => lhs; whnf
 . conv => lhs; whnf
 . first | exact h
|apply zAC rfl rfl rfl rfl
 . conv => lhs; whnf; arg 1; whnf
 . rfl
|apply zN
 . conv => lhs; whnf; arg 1; arg 1; whnf
|apply zO
 . conv => lhs; whnf; arg 1; arg 1; whnf
|refine zT (by conv => lhs; whnf) ?_ ?_ <;> intro hb
|refine zj ?_
|refine zZ ?_
|refine zG ?_
|refine zK ?_
|refine zC ?_
|refine zB rfl ?_
|refine zE rfl ?_
|refine zF ?_
|refine zJ ?_
|refine zD ?_
|refine zL ?_
|refine zAh ⟨?_,?_⟩
|refine zAQ ⟨?_,?_⟩
|exact (rfl : _ = V.tup [])
|refine ⟨_,by conv => lhs; whnf; arg 2; whnf,?_⟩; conv => rhs; whnf
|exact trivial
|intro hg)
 exact ⟨rfl,trivial⟩
structure SelB (d : D) (B : Nat) : Prop where
 s1 : (d.f 1).s.size <= B
 s2 : (d.f 2).s.size <= B
 s3 : (d.f 3).s.size <= B
 l4 : bulkL (d.f 4).l <= B
 l5 : bulkL (d.f 5).l <= B
 l6 : bulkL (d.f 6).l < bulkD d
 l6B : bulkL (d.f 6).l <= B
theorem sel_b {d : D} {B : Nat} (h : bulkD d <= B) : SelB d B:=by
 have h0:=zBQ d
 have q:=fun i => wD_f d i
 have q1:=q 1; have q2:=q 2; have q3:=q 3; have q4:=q 4; have q5:=q 5; have q6:=q 6
 have s1:=zDx (d.f 1); have s2:=zDx (d.f 2); have s3:=zDx (d.f 3)
 have l4:=zDE (d.f 4); have l5:=zDE (d.f 5); have l6:=zDE (d.f 6)
 exact ⟨by omega,by omega,by omega,by omega,by omega,by omega,by omega⟩
theorem zBP (s : ByteArray) : (s.toList == ({ data:=#[] } : ByteArray).toList) = noneS s:=str_is s []
end Go.Proofs.YtdlnnlglmifceaaGreatDoor
