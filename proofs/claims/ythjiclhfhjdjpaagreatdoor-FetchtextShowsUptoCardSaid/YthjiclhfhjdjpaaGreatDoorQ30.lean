import Derived.Test.YthjiclhfhjdjpaaGreatDoorCards
import Derived.Test.YthjiclhfhjdjpaaGreatDoorTie
import Derived.ProofKit
import Derived.OpenShut
import Derived.Deep.DeepHandedRow
import Derived.Test.YthjiclhfhjdjpaaGreatDoorQ29
set_option maxHeartbeats 8000000
set_option maxRecDepth 100000
set_option linter.unusedVariables false
set_option linter.unusedSimpArgs false
namespace Go.Proofs.YthjiclhfhjdjpaaGreatDoor
open Go.ChangeShapes Go.WideShapes Go.ChangeAt Go.RowKit
attribute [local irreducible] wpList Calls Code.wp
theorem own : ownKnob Tryz.prog.godebug = none:=by kernel_rfl
theorem laidOut' : laidOutB Tryz.prog = true:=by kernel_rfl
theorem gPow : Tryz.prog.globalNamed "internal/strconv.uint64pow10" = some 1 := by kernel_rfl
theorem tab_of_row {P : Program} {W : World} {g : Nat} {n : String} {t e : TypeId} {m : Nat} {k : IntKind} {zs : List Int} (hg : P.globalNamed n = some g) (hty : (P.globals[g]?).map (·.type) = some t) (ht : P.underlying t = some (.array m e)) (he : P.underlying e = some (.int k)) (hce : P.cellsOf e = 1) (hct : P.cellsOf t = m)
 (h : ∃ g t cs fuel p,P.globalNamed n = some g /\ (P.globals[g]?).map (·.type) = some t /\ W.var? P n = some cs /\ DataW.trod (fun _ => ()) P W 0 (fun _ => true) false fuel t cs.toList = some (Lib.tabData k zs,p)) : Lib.TabIs P W n k zs:=by
 obtain ⟨g',t',cs,fuel,p,hg',ht',hvar,hd⟩:=h
 obtain rfl:=Option.some.inj (hg.symm.trans hg')
 obtain rfl:=Option.some.inj (hty.symm.trans ht')
 unfold Lib.TabIs
 rw [hvar,<- Lib.cells_of_tab ht he hce hct hd]
theorem gPowT : (Tryz.prog.globals[1]?).map (·.type) = some 324:=by kernel_rfl
theorem types_ok (ts : List TypeId) (h : (ts.all fun t => Tryz.prog.readableRec t && decide (t < Tryz.prog.types.size)) = true) : ∀ t ∈ ts,Tryz.prog.readableRec t = true /\ t < Tryz.prog.types.size:=by
 intro t ht
 have:=List.all_eq_true.1 h t ht
 simpa using this
def tab32 : List Int:=[0,1,28,2,29,14,24,3,30,22,20,15,25,17,4,8,31,27,13,23,21,19,16,7,26,12,18,6,11,5,10,9]
def tab64 : List Int:=[0,1,56,2,57,49,28,3,61,58,42,50,38,29,17,4,62,47,59,36,45,43,51,22,53,39,33,30,24,18,12,5,63,55,48,27,60,41,37,16,46,35,44,21,52,32,23,11,54,26,40,15,34,20,31,10,25,14,19,9,13,8,7,6]
def relay (cs : Array Value) : Obj -> Obj
 | .cells _ t frozen => .cells cs t frozen
 | o => o
noncomputable def laidWorld (os : Os) : World:=
 let w:=World.holding Tryz.prog os ⟨#[],#[],[]⟩
 let n:=w.heap.size
 { w with heap:=((((((w.heap.modify 4 (relay (tab32.map fun z => Value.int .u8 z).toArray)).modify 5 (relay (tab64.map fun z => Value.int .u8 z).toArray)).modify 1 (relay (Lib.pow10Tab.map fun z => Value.int .u64 z).toArray)).modify 3
     (relay #[.iface 339 (.pointer (some ⟨n,0,none⟩))])).modify 2 (relay #[.iface 339 (.pointer (some ⟨n + 1,0,none⟩))])).push
     (.cells #[.string ⟨#[118,97,108,117,101,32,111,117,116,32,111,102,32,114,97,110,103,101]⟩] 341)).push (.cells #[.string ⟨#[105,110,118,97,108,105,100,32,115,121,110,116,97,120]⟩] 341) }
end Go.Proofs.YthjiclhfhjdjpaaGreatDoor
namespace Go.Proofs.YthjiclhfhjdjpaaGreatDoor
open Go.RowKit
attribute [local irreducible] wpList Calls Code.wp
structure Rn (l : List UInt8) (d : ByteArray) (ng : Bool) : Prop where
 empty : d.size = 0 -> numU l = Lib.NumEnd.syntax
 zero : 0 < d.size -> bV d 0 = 48 -> (1 < d.size \/ ng = true) -> numU l = Lib.NumEnd.syntax
 bad : ∀ x,x < d.size -> digB (bV d x) = false -> numU l = Lib.NumEnd.syntax
 good : 0 < d.size -> ¬ (bV d 0 = 48 /\ (1 < d.size \/ ng = true)) -> (∀ k,k < d.size -> digB (bV d k) = true) ->
  numU l = if ng = true then (if decV 0 (tk d d.size) <= 9223372036854775808 then .ok (-(decV 0 (tk d d.size) : Int)) else .range) else if decV 0 (tk d d.size) < 9223372036854775808 then .ok (decV 0 (tk d d.size)) else .range
 mono : ∀ m,decV 0 (tk d m) <= decV 0 (tk d d.size)
theorem str_arg {P : Program} {s : Sg} {w : World} {x : ByteArray} {us : Array Value} (h : relL P s w [.c (.string x)] us.toList) : us = #[.string x] /\ x.size <= maxLen:=by
 obtain ⟨u,rfl,h1⟩:=zCw h
 rw [rel] at h1
 exact ⟨by rw [h1.1],h1.2⟩
end Go.Proofs.YthjiclhfhjdjpaaGreatDoor
namespace Go.Proofs.YthjiclhfhjdjpaaGreatDoor
open Go.RowKit
attribute [local irreducible] wpList Calls Code.wp AW AWo OpOk seqK zAf zAh loopK endK AC zAD Yld Sub
theorem at_bs {s : List UInt8} {k : Nat} (h : k < s.length) : (bs s).data.toList.getD k 0 = s[k]:=by
 rw [zCb,List.getD_eq_getElem?_getD,List.getElem?_eq_getElem h]; rfl
end Go.Proofs.YthjiclhfhjdjpaaGreatDoor
namespace Go.Proofs.YthjiclhfhjdjpaaGreatDoor
open Go.RowKit
attribute [local irreducible] wpList Calls Code.wp AW AWo OpOk seqK zAf zAh loopK endK AC zAD Yld Sub
attribute [local irreducible] ACB ACX absLexG YldG
theorem u8_eq (c : UInt8) (n : Nat) (h : n < 256) : (((c.toNat : Nat) : Int) == (n : Int)) = (c == UInt8.ofNat n):=by
 rw [Bool.eq_iff_iff]
 simp only [beq_iff_eq]
 constructor
 . intro h1
   apply UInt8.toNat_inj.1
   rw [UInt8.toNat_ofNat']
   omega
 . intro h1
   rw [h1,UInt8.toNat_ofNat']
   omega
section
variable {X : Cx} {nn : Nat} {st : Vst nn} {K : Exit -> Vst nn -> Prop}
theorem zK {c : Operand} {x y : Code} {b : Bool} (hc : ev st c = .c (.bool b)) (hb : b = true) (ht : AW X x st K) : AW X (.cond c x y) st K:=zV hc (fun _ => ht) (fun e => by rw [hb] at e; cases e)
theorem zM {c : Operand} {x y : Code} {b : Bool} (hc : ev st c = .c (.bool b)) (hb : b = false) (ht : AW X y st K) : AW X (.cond c x y) st K:=zV hc (fun e => by rw [hb] at e; cases e) (fun _ => ht)
end
theorem byte_at {s : List UInt8} {k : Nat} (h : k < s.length) : zB8 (bs s) ((k : Int)).toNat = (s[k].toNat : Int):=by
 unfold zB8
 rw [Int.toNat_natCast,at_bs h]
end Go.Proofs.YthjiclhfhjdjpaaGreatDoor
namespace Go.Proofs.YthjiclhfhjdjpaaGreatDoor
open Go.RowKit
attribute [local irreducible] wpList Calls Code.wp
section
variable {P : Program} {s : Sg} {w w' : World} {pas : Nat -> Prop} {B : Nat} {rs : Nat -> Option Res}
theorem zHM (h : MemOk P pas B rs s w) (cur : Array Value) (e : TypeId) (n : Nat) : Keeps s.F (fun b o => s.F b o \/ (b = w.heap.size /\ o < n)) w (w.alloc (.cells cur e)):=fun b o hF =>
 ⟨(zA8 (w:=w) (h.fx b o hF)).trans rfl,.inl hF⟩
theorem MemOk.tokNew0 (h : MemOk P pas B rs s w) (hB : B <= w.heap.size) {k : Nat} (X : Nat -> Prop) (hX : ∀ q,X q -> q = k) (hf : ∀ q ρ,q ≠ k -> rs q = some ρ -> ∀ n,X n -> ρ.free n = true) {cur : Array Value} {e : TypeId} {c m : Nat} (hc : cur.size = c * P.cellsOf e) (hm : m <= c) (hmx : c <= maxLen)
 (hx : Ext X s w (s.tok k w.heap.size (m * P.cellsOf e) (.slice (some ⟨w.heap.size,0,none⟩) m c) m) (w.alloc (.cells cur e))) :
 MemOk P pas B (updR rs k (.tok e m)) (s.tok k w.heap.size (m * P.cellsOf e) (.slice (some ⟨w.heap.size,0,none⟩) m c) m) (w.alloc (.cells cur e)) where
 fx b o hF:=by
  rcases hF with hF | ⟨rfl,hF⟩
  . rw [zA8 (w:=w) (h.fx b o hF)]; exact h.fx b o hF
  . have : o < cur.size:=by rw [hc]; exact Nat.lt_of_lt_of_le hF (Nat.mul_le_mul_right _ hm)
    have h2:=zBd (w:=w) (t:=e) (Array.getElem?_eq_getElem this)
    exact Option.isSome_iff_exists.2 ⟨_,h2⟩
 ho q ρ hq:=by
  by_cases e' : q = k
  . subst e'
    simp only [updR,if_true] at hq
    cases hq
    refine ⟨by simp [Sg.tok],.inr ⟨w.heap.size,c,cur,by simp [Sg.tok],by simp [Sg.tok],heap_alloc_new w _,hm,hmx,hc,fun o ho hF => ?_⟩⟩
    rcases hF with hF | ⟨_,hF⟩
    . obtain ⟨v,hv⟩:=Option.isSome_iff_exists.1 (h.fx _ o hF)
      have:=block_lt_of_cell hv
      simp at this
    . omega
  . simp only [updR,if_neg e'] at hq
    refine (h.ho q ρ hq).keep hx (fun hXq => e' (hX q hXq)) (by simp [Sg.tok,e']) (by simp [Sg.tok,e']) (fun n hn => hf q ρ e' hq n hn) (fun b hb => Below.heap_alloc w _ _ ((h.ho q ρ hq).lt hb)) (fun b o hb hF => ?_)
    rcases hF with hF | ⟨rfl,_⟩
    . exact hF
    . have:=(h.ho q ρ hq).lt hb; omega
 bs q ρ b hq hb:=by
  by_cases e' : q = k
  . subst e'
    simp only [updR,if_true] at hq
    cases hq
    simp only [Sg.bk,Sg.tok,if_true] at hb
    cases hb; exact .inl hB
  . simp only [updR,if_neg e'] at hq
    rw [zBW e'] at hb
    exact h.bs q ρ b hq hb
 dj q r ρ ρ' b hq hr hqb hrb:=by
  by_cases e1 : q = k <;> by_cases e2 : r = k
  . rw [e1,e2]
  . simp only [updR,if_neg e2] at hr
    rw [zBW e2] at hrb
    subst e1
    simp only [updR,if_true] at hq
    cases hq
    simp only [Sg.bk,Sg.tok,if_true] at hqb
    cases hqb
    have:=(h.ho r ρ' hr).lt hrb
    omega
  . simp only [updR,if_neg e1] at hq
    rw [zBW e1] at hqb
    subst e2
    simp only [updR,if_true] at hr
    cases hr
    simp only [Sg.bk,Sg.tok,if_true] at hrb
    cases hrb
    have:=(h.ho q ρ hq).lt hqb
    omega
  . simp only [updR,if_neg e1] at hq
    simp only [updR,if_neg e2] at hr
    rw [zBW e1] at hqb
    rw [zBW e2] at hrb
    exact h.dj q r ρ ρ' b hq hr hqb hrb
end
section
variable {X : Cx} {nn : Nat} {st : Vst nn} {o : Oper} {K : Vst nn -> Prop}
theorem opOk_lit0 {t e : TypeId} {by_ d : Nat} (ho : o.op = .buildSlice t 0 #[]) (hd : o.dst = some d) (hdl : Nat.ble d 999999 = true) (he : zAL X.P t = some (e,by_))
 (hK : K (((st.kill d).res d (.tok e 0)).put (some d) (.own d e []))) : OpOk X o st K:=by
 intro s w a hI N Q hP hN
 obtain ⟨hu,hlay,i,z,hi,hz,hb,hpos,hzs,hsz⟩:=zBm he
 have ha : (Instr.buildSlice t 0 #[]).run X.P w = .ok (.slice (some ⟨w.heap.size,0,none⟩) 0 0) (w.alloc (.cells #[] e)):=by
  simp [Instr.buildSlice,run_underlying hu,sizeOf,typeInfo,hi,Instr.fill,newRow]
  have hr0 : Array.map (fun _ : Nat => (default : Value)) (Array.range 0) = #[]:=by apply Array.ext <;> simp
  rw [hr0]
 unfold Oper.wp
 have hrun : (execOp a.eval o).run X.P w = .ok (.value (.slice (some ⟨w.heap.size,0,none⟩) 0 0)) (w.alloc (.cells #[] e)):=by simp [execOp,ho,ha]
 rw [hrun,Oper.upon_value,hd]
 have hI':=hI.kill d
 have hkeep : Keeps s.F (s.tok d w.heap.size (0 * X.P.cellsOf e) (.slice (some ⟨w.heap.size,0,none⟩) 0 0) 0).F w (w.alloc (.cells #[] e)):=zHM hI.mem _ e _
 have hext : Ext (fun m => m = d) s w (s.tok d w.heap.size (0 * X.P.cellsOf e) (.slice (some ⟨w.heap.size,0,none⟩) 0 0) 0) (w.alloc (.cells #[] e)):=
  ⟨hkeep,fun _ _ => rfl,fun q hq => .inl (by simp only [Sg.tok]; rw [if_neg hq])⟩
 have hmem:=hI'.mem.tokNew0 hI.base (k:=d) (fun m => m = d) (fun _ h => h) zEe (cur:=#[]) (c:=0) (m:=0) (by simp) (Nat.le_refl _) (Nat.zero_le _) hext
 refine hN _ _ _ _ (Inv.put (st:=(st.kill d).res d (.tok e 0)) (v:=.own d e []) ⟨hI.sz,fun i hi => ?_,hI.df,hI.fr.trans (zDS w _ _) (q:=fun _ => False) (fun _ h => h.elim),hI.kp.trans hkeep,fun b o hb hnp hF => ?_,hmem,hI.pe.ext hext fun m hm => by subst hm; exact Nat.le_of_ble_eq_true hdl⟩ (some d) ?_) hK
 . exact rel.ext hext _ _ (zAo (hI.tm i hi)).1 fun n hn => by subst hn; exact (zAo (hI.tm i hi)).2
 . rcases hF with hF | ⟨rfl,_⟩
   . exact hI.nf b o hb hnp hF
   . have:=hI.base; omega
 . rw [rel]
   exact ⟨zBy (l:=[]) (Nat.le_refl _) (Nat.zero_le _) fun k hk => absurd hk (Nat.not_lt_zero k),by simp [Sg.tok],fun _ => by simp [Sg.tok]⟩
theorem zDx {t e : TypeId} {by_ k : Nat} {x y : Operand} {l : List D} (ho : o.op = .call { callee:=.builtin .append,args:=#[x,y],argTypes:=#[t,t] }) (he : zAL X.P t = some (e,by_))
 (hx : ev st x = .own k e l) (hy : (ev st y).out = .sl e []) (hK : K (st.put o.dst (.own k e l))) : OpOk X o st K:=by
 intro s w a hI N Q hP hN
 obtain ⟨hu,hlay,i,z,hi,hz,hb,hsp,hzs,hsz⟩:=zBm he
 have hxe:=hI.ev x
 rw [hx,rel] at hxe
 obtain ⟨k1,A,c1,hA,hc1,-,-,-⟩:=id hxe.1
 unfold Oper.wp
 have hye:=rel.out _ _ (hI.ev y)
 rw [hy,rel] at hye
 obtain ⟨k2,A2,c2,hy2,-,-,-,-⟩:=hye
 have hrun : (Builtin.append_ #[t,t] o.type #[a.eval x,a.eval y]).run X.P w = .ok (a.eval x) w:=by
  rw [hA,hy2]
  have hsz : (sizeOf e).run X.P w = .ok (X.P.cellsOf e) w:=by simp [sizeOf,typeInfo,hi,hsz]
  have hld : ∀ q,(loadCells q 0).run X.P w = .ok #[] w:=fun q => by simp [loadCells,loadCellsFrom]
  cases A <;> cases A2 <;> simp [Builtin.append_,run_underlying hu,hsz,Builtin.lenOf,Builtin.firstCells,storeCells,hld,Nat.not_lt.2 hc1]
 rw [zBI ho hrun,Oper.upon_value]
 refine hN _ _ _ _ (hI.put o.dst ?_) hK
 rw [rel]
 exact hxe
theorem res_same0 {k : Nat} {ρ : Res} (h : st.rs k = some ρ) : st.res k ρ = st:=by
 have e : (st.res k ρ).rs = st.rs:=funext fun m => by
  show updR st.rs k ρ m = _
  unfold updR
  split
  . rename_i e; rw [e,h]
  . rfl
 calc st.res k ρ = ⟨(st.res k ρ).tm,(st.res k ρ).rs⟩:=rfl
  _ = st:=by rw [e]; rfl
theorem zGX {t e : TypeId} {by_ k : Nat} {x y : Operand} {l l2 : List D} (ho : o.op = .call { callee:=.builtin .append,args:=#[x,y],argTypes:=#[t,t] }) (he : zAL X.P t = some (e,by_))
 (hleaf : ∀ d,(cellsV X.P 12 e d).all V.leaf = true) (hx : ev st x = .own k e l) (hr : st.rs k = some (.tok e l.length)) (hy : (ev st y).out = .sl e l2) (hlen : l.length + l2.length <= maxLen) (hby : (l.length + l2.length) * by_ <= 140737488355328)
 (hK : K ((st.res k (.tok e (l.length + l2.length))).put o.dst (.own k e (l ++ l2)))) : OpOk X o st K:=by
 rcases Nat.eq_zero_or_pos l2.length with h0 | h0
 . have hl0 : l2 = []:=List.eq_nil_of_length_eq_zero h0
   subst hl0
   rw [List.length_nil,Nat.add_zero,res_same0 hr,List.append_nil] at hK
   exact zDx ho he hx hy hK
 . exact zBD ho he hleaf hx hr hy h0 hlen hby hK
end
section
variable {X : Cx} {nn : Nat} {st : Vst nn} {ops : Array Oper} {o : Oper}
def Fresh (st : Vst nn) (d : Nat) : Prop:=(∀ i,(st.tm i).free d = true) /\ ∀ m ρ,st.rs m = some ρ -> m ≠ d /\ ρ.free d = true
theorem zFI {d : Nat} (h : Fresh st d) : st.kill d = st:=by
 have e1 : (st.kill d).tm = st.tm:=funext fun i => by
  show zHL d (st.tm i) = _
  unfold zHL; rw [if_pos (h.1 i)]
 have e2 : (st.kill d).rs = st.rs:=funext fun m => by
  unfold Vst.kill
  dsimp only
  cases hm : st.rs m with
  | none => split <;> rfl
  | some ρ =>
    have:=h.2 m ρ hm
    rw [if_neg this.1]
    simp [this.2]
 calc st.kill d = ⟨(st.kill d).tm,(st.kill d).rs⟩:=rfl
  _ = st:=by rw [e1,e2]
theorem zHF {t : TypeId} {d : Nat} {vs : List V} {K : Vst nn -> Prop} (ho : o.op = .alloc t) (hd : o.dst = some d) (hdl : Nat.ble d 999999 = true) (hc : zEC X.P t = some vs) (hf : freeL d vs = true) (hfr : Fresh st d)
 (hK : K ((st.res d (.box t vs)).put (some d) (.bx d 0))) : OpOk X o st K:=by
 refine zDe ho hd hdl hc hf ?_
 rw [zFI hfr]; exact hK
theorem zGg {d : Nat} {t : Option Tmp} {v : V} {u : List (Nat × Res)} (h : Fresh st d) (hv : v.free d = true) (hu : ∀ p ∈ u,p.1 ≠ d /\ p.2.free d = true) : Fresh (stp st t v u) d:=by
 unfold stp
 have hr : ∀ m ρ,updL st.rs u m = some ρ -> m ≠ d /\ ρ.free d = true:=by
  intro m ρ hm
  induction u with
  | nil => exact h.2 m ρ hm
  | cons x u ih =>
    obtain ⟨k,ρ'⟩:=x
    change (if m = k then some ρ' else updL st.rs u m) = some ρ at hm
    split at hm
    . rename_i e
      cases hm
      have:=hu (k,ρ) (List.mem_cons_self ..)
      exact ⟨by rw [e]; exact this.1,this.2⟩
    . exact ih (fun p hp => hu p (List.mem_cons_of_mem _ hp)) hm
 cases t with
 | none => exact ⟨h.1,hr⟩
 | some t =>
   refine ⟨fun i => ?_,hr⟩
   show (if i = t then v else st.tm i).free d = true
   split
   . exact hv
   . exact h.1 i
theorem fresh_put {d : Nat} {t : Option Tmp} {v : V} (h : Fresh st d) (hv : v.free d = true) : Fresh (st.put t v) d:=zGg (u:=[]) h hv (fun _ hp => by cases hp)
theorem fresh_res {d m : Nat} {ρ : Res} (h : Fresh st d) (hm : Nat.beq m d = false) (hv : ρ.free d = true) : Fresh (st.res m ρ) d:=by
 refine ⟨h.1,fun q ρ' hq => ?_⟩
 change updR st.rs m ρ q = some ρ' at hq
 unfold updR at hq
 split at hq
 . rename_i e
   cases hq
   subst e
   exact ⟨fun e2 => by rw [e2] at hm; simp at hm,hv⟩
 . exact h.2 q ρ' hq
theorem fresh_S {d : Nat} {cs : List (Nat × V)} {R : List (Nat × Res)} (h : (cs.all (fun p => p.2.free d) && R.all fun p => !(Nat.beq p.1 d) && p.2.free d) = true) : Fresh (stS nn cs R) d:=by
 rw [Bool.and_eq_true,List.all_eq_true,List.all_eq_true] at h
 refine ⟨fun i => ?_,fun m ρ hm => ?_⟩
 . simp only [stS]
   split
   . rename_i p hp; exact h.1 p (List.mem_of_find?_eq_some hp)
   . rfl
 . simp only [stS] at hm
   split at hm
   . rename_i p hp
     have he:=List.find?_some hp
     simp at he
     cases hm
     have:=h.2 p (List.mem_of_find?_eq_some hp)
     rw [Bool.and_eq_true] at this
     refine ⟨fun e => ?_,this.2⟩
     rw [he,e] at this
     simp at this
   . cases hm
theorem opOk_lit0F {t e : TypeId} {by_ d : Nat} {K : Vst nn -> Prop} (ho : o.op = .buildSlice t 0 #[]) (hd : o.dst = some d) (hdl : Nat.ble d 999999 = true) (he : zAL X.P t = some (e,by_)) (hfr : Fresh st d)
 (hK : K ((st.res d (.tok e 0)).put (some d) (.own d e []))) : OpOk X o st K:=by
 refine opOk_lit0 ho hd hdl he ?_
 rw [zFI hfr]; exact hK
def nfB (fr : List Nat) (v : V) (u : List (Nat × Res)) : Bool:=fr.all fun d => v.free d && u.all fun p => !(Nat.beq p.1 d) && p.2.free d
inductive YldA (X : Cx) (ops : Array Oper) (fr rd wr : List Nat) (o : Oper) (st : Vst nn) : V -> List (Nat × Res) -> Prop where
 | old {v : V} {u : List (Nat × Res)} (h : YldG X ops rd wr o st v u) (hf : nfB fr v u = true) : YldA X ops fr rd wr o st v u
 | alloc {t : TypeId} {d : Nat} {vs : List V} (hg : o.guard = none) (ho : o.op = .alloc t) (hd : o.dst = some d) (hdl : Nat.ble d 999999 = true) (hc : zEC X.P t = some vs) (hfd : freeL d vs = true) (hw : wr.contains d = true) (hf : nfB fr (.bx d 0) [(d,.box t vs)] = true) : YldA X ops fr rd wr o st (.bx d 0) [(d,.box t vs)]
 | lit0 {t e : TypeId} {by_ d : Nat} (hg : o.guard = none) (ho : o.op = .buildSlice t 0 #[]) (hd : o.dst = some d) (hdl : Nat.ble d 999999 = true) (he : zAL X.P t = some (e,by_)) (hw : wr.contains d = true) (hf : nfB fr (.own d e []) [(d,.tok e 0)] = true) : YldA X ops fr rd wr o st (.own d e []) [(d,.tok e 0)]
 | app {t e : TypeId} {by_ k : Nat} {x y : Operand} {l l2 : List D} (hg : o.guard = none) (hw : wr.contains k = true) (ho : o.op = .call { callee:=.builtin .append,args:=#[x,y],argTypes:=#[t,t] }) (he : zAL X.P t = some (e,by_)) (hleaf : ∀ d,(cellsV X.P 12 e d).all V.leaf = true)
    (hx : ev st x = .own k e l) (hr : st.rs k = some (.tok e l.length)) (hy : (ev st y).out = .sl e l2) (hp : l.length + l2.length <= maxLen /\ (l.length + l2.length) * by_ <= 140737488355328) (hf : nfB fr (.own k e (l ++ l2)) [(k,.tok e (l.length + l2.length))] = true) :
    YldA X ops fr rd wr o st (.own k e (l ++ l2)) [(k,.tok e (l.length + l2.length))]
theorem YldA.of {fr rd wr : List Nat} {d : Option Tmp} {v v' : V} {u u' : List (Nat × Res)} (hd : ∀ t,d = some t -> t ∉ o.looksAt ops) (hu : Off rd wr u') :
 YldA X ops fr rd wr o (stp st d v' u') v u ↔ YldA X ops fr rd wr o st v u:=by
 have evs : ∀ x ∈ o.op.operands,ev (stp st d v' u') x = ev st x:=fun x hx => zGn fun t ht hxt => hd t ht (by
  subst hxt
  exact List.mem_append_left _ (List.mem_filterMap.2 ⟨.tmp t,by simpa using hx,rfl⟩))
 have hrs : ∀ n,wr.contains n = true -> (stp st d v' u').rs n = st.rs n:=fun n hn => by
  rw [zDD]; exact zFa hu (.inr hn)
 constructor
 . intro h
   cases h with
   | old h hf => exact .old ((YldG.of hd hu).1 h) hf
   | alloc hg ho hd' hdl hc hfd hw hf => exact .alloc hg ho hd' hdl hc hfd hw hf
   | lit0 hg ho hd' hdl he hw hf => exact .lit0 hg ho hd' hdl he hw hf
   | app hg hw ho he hleaf hx hr hy hp hf =>
     rw [evs _ (by rw [ho]; simp [Op.operands,Call.operands])] at hx
     rw [evs _ (by rw [ho]; simp [Op.operands,Call.operands])] at hy
     rw [hrs _ hw] at hr
     exact .app hg hw ho he hleaf hx hr hy hp hf
 . intro h
   cases h with
   | old h hf => exact .old ((YldG.of hd hu).2 h) hf
   | alloc hg ho hd' hdl hc hfd hw hf => exact .alloc hg ho hd' hdl hc hfd hw hf
   | lit0 hg ho hd' hdl he hw hf => exact .lit0 hg ho hd' hdl he hw hf
   | app hg hw ho he hleaf hx hr hy hp hf =>
     rw [<- evs _ (by rw [ho]; simp [Op.operands,Call.operands])] at hx
     rw [<- evs _ (by rw [ho]; simp [Op.operands,Call.operands])] at hy
     rw [<- hrs _ hw] at hr
     exact .app hg hw ho he hleaf hx hr hy hp hf
theorem YldA.names {fr rd wr : List Nat} {v : V} {u : List (Nat × Res)} (h : YldA X ops fr rd wr o st v u) : ∀ p ∈ u,wr.contains p.1 = true:=by
 cases h with
 | old h hf => exact h.names
 | alloc hg ho hd' hdl hc hfd hw hf => exact fun p hp => by simp at hp; subst hp; exact hw
 | lit0 hg ho hd' hdl he hw hf => exact fun p hp => by simp at hp; subst hp; exact hw
 | app hg hw ho he hleaf hx hr hy hp hf => exact fun p hp => by simp at hp; subst hp; exact hw
theorem YldA.nf {fr rd wr : List Nat} {v : V} {u : List (Nat × Res)} (h : YldA X ops fr rd wr o st v u) : nfB fr v u = true:=by
 cases h with
 | old h hf => exact hf
 | alloc hg ho hd' hdl hc hfd hw hf => exact hf
 | lit0 hg ho hd' hdl he hw hf => exact hf
 | app hg hw ho he hleaf hx hr hy hp hf => exact hf
theorem nfB_ok {fr : List Nat} {v : V} {u : List (Nat × Res)} (h : nfB fr v u = true) {d : Nat} (hd : d ∈ fr) : v.free d = true /\ ∀ p ∈ u,p.1 ≠ d /\ p.2.free d = true:=by
 have:=List.all_eq_true.1 h d hd
 rw [Bool.and_eq_true,List.all_eq_true] at this
 refine ⟨this.1,fun p hp => ?_⟩
 have h2:=this.2 p hp
 rw [Bool.and_eq_true] at h2
 exact ⟨fun e => by rw [e] at h2; simp at h2,h2.2⟩
variable {fr rd wr : Nat -> List Nat}
def aOpH (X : Cx) (ops : Array Oper) (fr rd wr : Nat -> List Nat) (i : Nat) (K : Vst nn -> Prop) (st : Vst nn) : Prop:=
 match ops[i]? with
 | none => K st
 | some o => ∃ v u,YldA X ops (fr i) (rd i) (wr i) o st v u /\ K (stp st o.dst v u)
theorem aOpH_mono {i : Nat} {K K' : Vst nn -> Prop} (h : ∀ st,K st -> K' st) (hh : aOpH X ops fr rd wr i K st) : aOpH X ops fr rd wr i K' st:=by
 unfold aOpH at *
 split
 . rename_i hn; simp only [hn] at hh; exact h _ hh
 . rename_i o ho
   simp only [ho] at hh
   obtain ⟨v,u,h1,h2⟩:=hh
   exact ⟨v,u,h1,h _ h2⟩
def absAnyH (X : Cx) (ops : Array Oper) (fr rd wr : Nat -> List Nat) (Q : Vst nn -> Prop) : Nat -> Array Bool -> Vst nn -> Prop
 | 0,listed,st => Region.ready .any ops listed = [] /\ Q st
 | fuel + 1,listed,st => (Region.ready .any ops listed = [] -> Q st) /\ ∀ i ∈ Region.ready .any ops listed,aOpH X ops fr rd wr i (absAnyH X ops fr rd wr Q fuel (listed.setIfInBounds i true)) st
theorem aOpH_put {i j : Nat} {oi oj : Oper} {v : V} {u : List (Nat × Res)} (hj : ops[j]? = some oj) (hap : oi.apart ops oj = true) (hn : zCt (wr i) (rd j) = true /\ zCt (wr i) (wr j) = true /\ zCt (wr j) (rd i) = true) {K : Vst nn -> Prop} (hy : YldA X ops (fr i) (rd i) (wr i) oi st v u) (h : aOpH X ops fr rd wr j K (stp st oi.dst v u)) :
 aOpH X ops fr rd wr j (fun st' => YldA X ops (fr i) (rd i) (wr i) oi st' v u /\ K (stp st' oi.dst v u)) st:=by
 obtain ⟨h1,h2,h3⟩:=Oper.apart_spec hap
 unfold aOpH at *
 simp only [hj] at *
 obtain ⟨v',u',hy',hK⟩:=h
 have hu : Off (rd j) (wr j) u:=fun p hp => by
  have hw:=hy.names p hp
  refine ⟨?_,?_⟩
  . cases hq : (rd j).contains p.1
    . rfl
    . exact (zBO hn.1 hw hq).elim
  . cases hq : (wr j).contains p.1
    . rfl
    . exact (zBO hn.2.1 hw hq).elim
 have hyj : YldA X ops (fr j) (rd j) (wr j) oj st v' u':=(YldA.of h1 hu).1 hy'
 have hu' : Off (rd i) (wr i) u':=fun p hp => by
  have hw:=hyj.names p hp
  refine ⟨?_,?_⟩
  . cases hq : (rd i).contains p.1
    . rfl
    . exact (zBO hn.2.2 hw hq).elim
  . cases hq : (wr i).contains p.1
    . rfl
    . exact (zBO hn.2.1 hq hw).elim
 have huu : ∀ p ∈ u,∀ q ∈ u',p.1 ≠ q.1:=fun p hp q hq e => by
  have h5:=hy.names p hp
  have h6:=hyj.names q hq
  rw [<- e] at h6
  exact zBO hn.2.1 h5 h6
 exact ⟨v',u',hyj,(YldA.of h3 hu').2 hy,by rw [<- zGL h2 huu]; exact hK⟩
theorem zGB {Q : Vst nn -> Prop} {i : Nat} {oi : Oper} {v : V} {u : List (Nat × Res)} (hi : ops[i]? = some oi) (hN : zDs ops rd wr = true) :
 ∀ (fuel : Nat) (listed : Array Bool) (st : Vst nn),Closed ops listed -> (∀ j,j < i -> listed.getD j false = true) ->
   (∀ j oj,ops[j]? = some oj -> j ≠ i -> listed.getD j true = false -> (∀ e ∈ oj.after,Region.binds .any e = true -> e.on ≠ i) -> oi.apart ops oj = true) ->
   i ∈ Region.ready .any ops listed -> YldA X ops (fr i) (rd i) (wr i) oi st v u ->
   absAnyH X ops fr rd wr Q fuel (listed.setIfInBounds i true) (stp st oi.dst v u) -> absAnyH X ops fr rd wr Q (fuel + 1) listed st:=by
 intro fuel
 induction fuel with
 | zero =>
   intro listed st _ _ _ hr hy H
   refine ⟨fun h => (by rw [h] at hr; cases hr),fun j hj => ?_⟩
   by_cases hji : j = i
   . subst hji; unfold aOpH; simp only [hi]; exact ⟨v,u,hy,H⟩
   . have:=ready_mono hj hji
     rw [H.1] at this
     cases this
 | succ fuel ih =>
   intro listed st hcl hlow hfree hr hy H
   refine ⟨fun h => (by rw [h] at hr; cases hr),fun j hj => ?_⟩
   by_cases hji : j = i
   . subst hji; unfold aOpH; simp only [hi]; exact ⟨v,u,hy,H⟩
   . have h1:=H.2 j (ready_mono hj hji)
     obtain ⟨hjun,oj,hoj,hall⟩:=mem_ready.1 hj
     have hiun:=(mem_ready.1 hr).1
     have hnot : ∀ e ∈ oj.after,Region.binds .any e = true -> e.on ≠ i:=fun e he hb heq => by
      have h1:=hall e he hb
      rw [heq] at h1
      exact zA6 hiun h1
     have hij : i < j:=by
      rcases Nat.lt_trichotomy i j with h | h | h
      . exact h
      . exact absurd h.symm hji
      . exact (zA6 hjun (hlow j h)).elim
     have hsz : j < ops.size:=(Array.getElem?_eq_some_iff.1 hoj).1
     have hnm : zCt (wr i) (rd j) = true /\ zCt (wr i) (wr j) = true /\ zCt (wr j) (rd i) = true:=by
      have h2:=List.all_eq_true.1 (List.all_eq_true.1 hN j (List.mem_range.2 hsz)) i (List.mem_range.2 hij)
      rw [Bool.or_eq_true] at h2
      rcases h2 with h2 | h2
      . simp only [Bool.and_eq_true] at h2; exact ⟨h2.1.1,h2.1.2,h2.2⟩
      . refine (zA6 hiun (zD4 hcl _ _ (fun k hk => ?_) i (by simpa using h2))).elim
        unfold zFX at hk
        rw [hoj] at hk
        obtain ⟨e,he,rfl⟩:=List.mem_map.1 hk
        obtain ⟨h2,h3⟩:=List.mem_filter.1 he
        exact hall e (by simpa using h2) h3
     have h2:=aOpH_put (i:=i) hoj (hfree j oj hoj hji hjun hnot) hnm hy h1
     have hfree' : ∀ k ok,ops[k]? = some ok -> k ≠ i -> (listed.setIfInBounds j true).getD k true = false ->
      (∀ e ∈ ok.after,Region.binds .any e = true -> e.on ≠ i) -> oi.apart ops ok = true:=fun k ok hk hki hun hno => by
      refine hfree k ok hk hki ?_ hno
      by_cases hjk : j = k
      . subst hjk; exact hjun
      . rw [getD_set_ne true hjk] at hun; exact hun
     refine aOpH_mono (fun st' h3 => ih (listed.setIfInBounds j true) st' (hcl.set hj) (fun k hk => getD_set_true (hlow k hk)) hfree' (ready_mono hr (Ne.symm hji)) h3.1 ?_) h2
     rw [Array.setIfInBounds_comm _ _ hji]
     exact h3.2
def absLexH (X : Cx) (ops : Array Oper) (fr rd wr : Nat -> List Nat) (Q : Vst nn -> Prop) : Nat -> List Oper -> Vst nn -> Prop
 | _,[],st => Q st
 | k,o :: rest,st => ∃ v u,YldA X ops (fr k) (rd k) (wr k) o st v u /\ absLexH X ops fr rd wr Q (k + 1) rest (stp st o.dst v u)
theorem zEs {Q : Vst nn -> Prop} (hN : zDs ops rd wr = true) : ∀ (l : List Oper) (k : Nat) (listed : Array Bool) (st : Vst nn),(∀ j,l[j]? = ops[k + j]?) -> Closed ops listed -> (∀ j,j < k -> listed.getD j false = true) -> listed.size = ops.size ->
 Region.lexFrom .any ops l.length k listed = true -> absLexH X ops fr rd wr Q k l st -> absAnyH X ops fr rd wr Q l.length listed st
 | [],_,_,_,_,_,_,_,hB,h => ⟨by simpa [Region.lexFrom] using hB,h⟩
 | o :: l,k,listed,st,hl,hcl,hlow,hsz,hB,h => by
   have h0 : ops[k]? = some o:=by simpa using (hl 0).symm
   have hk : k < ops.size:=(Array.getElem?_eq_some_iff.1 h0).1
   simp only [List.length_cons,Region.lexFrom,Bool.and_eq_true] at hB
   obtain ⟨⟨hr,hf⟩,hB'⟩:=hB
   have hr : k ∈ Region.ready .any ops listed:=by simpa using hr
   obtain ⟨v,u,hy,hK⟩:=h
   exact zGB h0 hN l.length listed st hcl hlow (Region.free_spec h0 hf) hr hy
    (zEs hN l (k + 1) _ _ (fun j => by have:=hl (j + 1); simpa [Nat.add_assoc,Nat.add_comm 1 j] using this) (hcl.set hr) (fun j hj => by
      by_cases e : j = k
      . subst e; exact zDF (by omega)
      . exact getD_set_true (hlow j (by omega))) (by simpa using hsz) hB' hK)
def frOf (ops : Array Oper) (R : List (Nat × Nat)) (j : Nat) : List Nat:=(R.filter fun p => !(Nat.beq p.1 j) && !(reachS ops ops.size (zFX ops j)).contains p.1).map (·.2)
theorem zC5 (R : List (Nat × Nat)) (hR : ∀ i o t d,ops[i]? = some o -> (o.op = .alloc t \/ o.op = .buildSlice t 0 #[]) -> o.dst = some d -> (i,d) ∈ R) {Q : Vst nn -> Prop} {Q' : Exit -> Act -> World -> Prop} (hP : PQ X nn Q') (hQ : ∀ st' s' w' a',Inv X st' s' w' a' -> Q st' -> Q' .normal a' w') : ∀ (fuel : Nat) (listed : Array Bool) (st : Vst nn) (s : Sg) (w : World) (a : Act),Closed ops listed -> (∀ p ∈ R,listed.getD p.1 true = false -> Fresh st p.2) -> Inv X st s w a ->
 absAnyH X ops (frOf ops R) rd wr Q fuel listed st -> wpAny X.P .any ops Q' fuel listed a w
 | 0,_,_,_,_,_,_,_,hI,h => ⟨h.1,hQ _ _ _ _ hI h.2⟩
 | fuel + 1,listed,st,s,w,a,hcl,hfr,hI,h => ⟨fun h0 => hQ _ _ _ _ hI (h.1 h0),fun i hi => by
   have h1:=h.2 i hi
   obtain ⟨hiun,oi,hoi,hall⟩:=mem_ready.1 hi
   unfold aOpH at h1
   unfold wpOp
   simp only [hoi] at h1 |-
   obtain ⟨v,u,hy,hK⟩:=h1
   have hnf:=hy.nf
   have hfr' : ∀ p ∈ R,(listed.setIfInBounds i true).getD p.1 true = false -> Fresh (stp st oi.dst v u) p.2:=fun p hp hl => by
    have hne : p.1 ≠ i:=fun e => by
     rw [e] at hl
     have hsz : i < listed.size \/ ¬ i < listed.size:=Nat.lt_or_ge i listed.size |>.imp id fun h => by omega
     rw [Array.getD_eq_getD_getElem?,Array.getElem?_setIfInBounds] at hl
     rcases hsz with hsz | hsz
     . simp [hsz] at hl
     . simp [hsz] at hl
    have hl2 : listed.getD p.1 true = false:=by rwa [getD_set_ne true (Ne.symm hne)] at hl
    have hmem : p.2 ∈ frOf ops R i:=by
     refine List.mem_map.2 ⟨p,List.mem_filter.2 ⟨hp,?_⟩,rfl⟩
     rw [Bool.and_eq_true]
     refine ⟨by cases hb : Nat.beq p.1 i; rfl; exact (hne (Nat.eq_of_beq_eq_true hb)).elim,?_⟩
     rw [Bool.not_eq_true']
     cases hq : (reachS ops ops.size (zFX ops i)).contains p.1
     . rfl
     . refine (zA6 hl2 (zD4 hcl _ _ (fun k hk => ?_) p.1 (by simpa using hq))).elim
       unfold zFX at hk
       rw [hoi] at hk
       obtain ⟨e,he,rfl⟩:=List.mem_map.1 hk
       obtain ⟨h2,h3⟩:=List.mem_filter.1 he
       exact hall e (by simpa using h2) h3
    have:=nfB_ok hnf hmem
    exact zGg (hfr p hp hl2) this.1 this.2
   have go : ∀ {st' : Vst nn} {s' w' a'},Inv X st' s' w' a' -> (absAnyH X ops (frOf ops R) rd wr Q fuel (listed.setIfInBounds i true) st' /\ ∀ p ∈ R,(listed.setIfInBounds i true).getD p.1 true = false -> Fresh st' p.2) -> wpAny X.P .any ops Q' fuel (listed.setIfInBounds i true) a' w':=
    fun hI' hK' => zC5 R hR hP hQ fuel _ _ _ _ _ (hcl.set hi) hK'.2 hI' hK'.1
   cases hy with
   | old hy hf =>
     rcases hy with ⟨hg,hy⟩ | ⟨hg,rfl,rfl⟩
     . rw [if_pos (zFt hg hI)]
       exact .inl (zGV (K:=fun st' => absAnyH X ops (frOf ops R) rd wr Q fuel (listed.setIfInBounds i true) st' /\ ∀ p ∈ R,(listed.setIfInBounds i true).getD p.1 true = false -> Fresh st' p.2) hy ⟨hK,hfr'⟩ s w a hI _ _ hP fun st' s' w' a' hI' hK' => go hI' hK')
     . rw [if_neg (by rw [zFt hg hI]; simp)]
       exact go (hI.put oi.dst (by simp [rel])) ⟨hK,hfr'⟩
   | alloc hg ho hd hdl hc hfd hw hf =>
     rename_i t d vs
     rw [if_pos (zFt (by simp [gw,hg]) hI)]
     have hst : stp st oi.dst (.bx d 0) [(d,.box t vs)] = ((st.res d (.box t vs)).put (some d) (.bx d 0)):=by rw [zBh,hd]
     refine .inl (zHF (K:=fun st' => absAnyH X ops (frOf ops R) rd wr Q fuel (listed.setIfInBounds i true) st' /\ ∀ p ∈ R,(listed.setIfInBounds i true).getD p.1 true = false -> Fresh st' p.2) ho hd hdl hc hfd (hfr _ (hR i oi t d hoi (.inl ho) hd) hiun) ?_ s w a hI _ _ hP fun st' s' w' a' hI' hK' => go hI' hK')
     rw [<- hst]
     exact ⟨hK,hfr'⟩
   | lit0 hg ho hd hdl he hw hf =>
     rename_i t e by_ d
     rw [if_pos (zFt (by simp [gw,hg]) hI)]
     have hst : stp st oi.dst (.own d e []) [(d,.tok e 0)] = ((st.res d (.tok e 0)).put (some d) (.own d e [])):=by rw [zBh,hd]
     refine .inl (opOk_lit0F (K:=fun st' => absAnyH X ops (frOf ops R) rd wr Q fuel (listed.setIfInBounds i true) st' /\ ∀ p ∈ R,(listed.setIfInBounds i true).getD p.1 true = false -> Fresh st' p.2) ho hd hdl he (hfr _ (hR i oi t d hoi (.inr ho) hd) hiun) ?_ s w a hI _ _ hP fun st' s' w' a' hI' hK' => go hI' hK')
     rw [<- hst]
     exact ⟨hK,hfr'⟩
   | app hg hw ho he hleaf hx hr hy hp hf =>
     rename_i t e by_ k x y l l2
     rw [if_pos (zFt (by simp [gw,hg]) hI)]
     have hst : stp st oi.dst (.own k e (l ++ l2)) [(k,.tok e (l.length + l2.length))] = ((st.res k (.tok e (l.length + l2.length))).put oi.dst (.own k e (l ++ l2))):=zBh
     refine .inl (zGX (K:=fun st' => absAnyH X ops (frOf ops R) rd wr Q fuel (listed.setIfInBounds i true) st' /\ ∀ p ∈ R,(listed.setIfInBounds i true).getD p.1 true = false -> Fresh st' p.2) ho he hleaf hx hr hy hp.1 hp.2 ?_ s w a hI _ _ hP fun st' s' w' a' hI' hK' => go hI' hK')
     rw [<- hst]
     exact ⟨hK,hfr'⟩⟩
theorem aw_drawH (r w : List (Nat × List Nat)) (R : List (Nat × Nat)) {id : Nat} {l : List Oper} {K : Exit -> Vst nn -> Prop} (hm : X.P.follows .mixedOrders = true) (hB : Region.lexB .any l.toArray = true) (hN : zDs l.toArray (nmf r) (nmf w) = true)
 (hR : ∀ i o t d,l.toArray[i]? = some o -> (o.op = .alloc t \/ o.op = .buildSlice t 0 #[]) -> o.dst = some d -> (i,d) ∈ R) (hF : ∀ p ∈ R,Fresh st p.2) (h : absLexH X l.toArray (frOf l.toArray R) (nmf r) (nmf w) (K .normal) 0 l st) : AW X (.region id l.toArray true) st K:=fun s wd a hI => by
 simp only [Region.lexB,Bool.and_eq_true] at hB
 have hlow : ∀ k,(Array.replicate l.toArray.size false).getD k false = false:=fun k => by
  rw [Array.getD_eq_getD_getElem?,Array.getElem?_replicate]
  split <;> rfl
 refine wp_region_any hm (zC5 R hR (rd:=nmf r) (wr:=nmf w) (Q:=K .normal) (fun pv st' s' w' a' hI' hp => ⟨st',s',hI',.inr ⟨pv,rfl,hp⟩⟩) (fun st' s' w' a' hI' hK => ⟨st',s',hI',.inl hK⟩) _ _ st s _ a (fun k o _ hk => by rw [hlow k] at hk; cases hk) (fun p hp _ => hF p hp) hI.drew ?_)
 have:=zEs (X:=X) (fr:=frOf l.toArray R) (rd:=nmf r) (wr:=nmf w) (Q:=K .normal) hN l 0 (Array.replicate l.toArray.size false) st (by simp) (fun k o _ hk => by rw [hlow k] at hk; cases hk) (fun j hj => absurd hj (Nat.not_lt_zero j)) (by simp) (by simpa using hB.2) h
 simpa using this
def allocsB (ops : Array Oper) (R : List (Nat × Nat)) : Bool:=(List.range ops.size).all fun i => match ops[i]? with
 | some o => (match o.op,o.dst with | .alloc _,some d => R.contains (i,d) | .buildSlice _ _ _,some d => R.contains (i,d) | _,_ => true)
 | none => true
theorem allocsB_ok {R : List (Nat × Nat)} (h : allocsB ops R = true) : ∀ i o t d,ops[i]? = some o -> (o.op = .alloc t \/ o.op = .buildSlice t 0 #[]) -> o.dst = some d -> (i,d) ∈ R:=fun i o t d hi ho hd => by
 have:=List.all_eq_true.1 h i (List.mem_range.2 (Array.getElem?_eq_some_iff.1 hi).1)
 rw [hi] at this
 rcases ho with ho | ho
 . simp only [ho,hd] at this
   simpa using this
 . simp only [ho,hd] at this
   simpa using this
theorem zF8 (r w : List (Nat × List Nat)) (R : List (Nat × Nat)) {id : Nat} {l : List Oper} {K : Exit -> Vst nn -> Prop} (hm : X.P.follows .mixedOrders = true) (hB : Region.lexB .any l.toArray = true) (hN : zDs l.toArray (nmf r) (nmf w) = true)
 (hA : allocsB l.toArray R = true) (hF : ∀ p ∈ R,Fresh st p.2) (h : absLexH X l.toArray (frOf l.toArray R) (nmf r) (nmf w) (K .normal) 0 l st) : AW X (.region id l.toArray true) st K:=
 aw_drawH r w R hm hB hN (allocsB_ok hA) hF h
section
variable {l : List Oper} {Q : Vst nn -> Prop} {d : Option Tmp} {k : Nat}
theorem h_nil (h : Q st) : absLexH X ops fr rd wr Q k [] st:=h
theorem h_val {p : Prop} {v : V} (hg : o.guard = none) (hd : o.dst = d) (h : act1 X.P st.rs (ev st) o.op = .val p v) (hf : nfB (fr k) v [] = true) (hK : absLexH X ops fr rd wr Q (k + 1) l (st.put d v)) (hp : p) (hl : inO (rd k) (loads (ev st) o.op) = true) : absLexH X ops fr rd wr Q k (o :: l) st:=
 ⟨v,[],.old (.inl ⟨by simp [gw,hg],.val h hp hl⟩) hf,by rw [hd]; exact hK⟩
theorem zHT {t : TypeId} {m : Nat} {vs : List V} (hg : o.guard = none) (ho : o.op = .alloc t) (hd : o.dst = some m) (hdl : Nat.ble m 999999 = true) (hc : zEC X.P t = some vs) (hfd : freeL m vs = true) (hw : (wr k).contains m = true) (hf : nfB (fr k) (.bx m 0) [(m,.box t vs)] = true)
 (hK : absLexH X ops fr rd wr Q (k + 1) l ((st.res m (.box t vs)).put (some m) (.bx m 0))) : absLexH X ops fr rd wr Q k (o :: l) st:=
 ⟨_,_,.alloc hg ho hd hdl hc hfd hw hf,by rw [zBh,hd]; exact hK⟩
theorem zHS {t : TypeId} {x y : Operand} {m off : Nat} {t' : TypeId} {vs xs : List V} (hg : o.guard = none) (ho : o.op = .store t x y) (hd : o.dst = none) (hx : ev st x = .bx m off) (hw : (wr k).contains m = true) (hr : st.rs m = some (.box t' vs)) (hc : cellsOf (ev st y) = some xs)
 (hs : X.P.cellsOf t = xs.length /\ (X.P.info? t).isSome) (hl : Nat.ble (off + xs.length) vs.length = true) (hf : nfB (fr k) .any [(m,.box t' (splice vs off xs))] = true) (hK : absLexH X ops fr rd wr Q (k + 1) l (st.res m (.box t' (splice vs off xs)))) : absLexH X ops fr rd wr Q k (o :: l) st:=
 ⟨_,_,.old (.inl ⟨by simp [gw,hg],.store hw ho hd hx hr hc hs (Nat.le_of_ble_eq_true hl)⟩) hf,by rw [hd,zBh]; exact hK⟩
theorem h_lit0 {t e : TypeId} {by_ m : Nat} (hg : o.guard = none) (ho : o.op = .buildSlice t 0 #[]) (hd : o.dst = some m) (hdl : Nat.ble m 999999 = true) (he : zAL X.P t = some (e,by_)) (hw : (wr k).contains m = true) (hf : nfB (fr k) (.own m e []) [(m,.tok e 0)] = true)
 (hK : absLexH X ops fr rd wr Q (k + 1) l ((st.res m (.tok e 0)).put (some m) (.own m e []))) : absLexH X ops fr rd wr Q k (o :: l) st:=
 ⟨_,_,.lit0 hg ho hd hdl he hw hf,by rw [zBh,hd]; exact hK⟩
theorem h_app {t e : TypeId} {by_ q : Nat} {x y : Operand} {l1 l2 : List D} (hg : o.guard = none) (ho : o.op = .call { callee:=.builtin .append,args:=#[x,y],argTypes:=#[t,t] }) (hd : o.dst = d) (he : zAL X.P t = some (e,by_))
 (hleaf : ∀ d,(cellsV X.P 12 e d).all V.leaf = true) (hx : ev st x = .own q e l1) (hw : (wr k).contains q = true) (hr : st.rs q = some (.tok e l1.length)) (hy : (ev st y).out = .sl e l2) (hf : nfB (fr k) (.own q e (l1 ++ l2)) [(q,.tok e (l1 ++ l2).length)] = true)
 (hK : absLexH X ops fr rd wr Q (k + 1) l ((st.res q (.tok e (l1 ++ l2).length)).put d (.own q e (l1 ++ l2))))
 (hp : l1.length + l2.length <= maxLen /\ (l1.length + l2.length) * by_ <= 140737488355328) : absLexH X ops fr rd wr Q k (o :: l) st:=
 ⟨_,_,.app hg hw ho he hleaf hx hr hy hp (by rw [<- List.length_append]; exact hf),by rw [hd,zBh,<- List.length_append]; exact hK⟩
end
end
section
variable {X : Cx} {nn : Nat} {st : Vst nn} {ops : Array Oper} {o : Oper} {l : List Oper} {Q : Vst nn -> Prop} {d : Option Tmp} {k : Nat} {fr rd wr : Nat -> List Nat}
theorem h_call {f : FuncId} {args : List V} {r : V} (hg : o.guard = none) (hd : o.dst = d) (h : act1 X.P st.rs (ev st) o.op = .call f args) (hc : AC X.e X.P f (outL args) r) (hf : nfB (fr k) r [] = true) (hK : absLexH X ops fr rd wr Q (k + 1) l (st.put d r)) : absLexH X ops fr rd wr Q k (o :: l) st:=
 ⟨r,[],.old (.inl ⟨by simp [gw,hg],.call h hc⟩) hf,by rw [hd]; exact hK⟩
end
end Go.Proofs.YthjiclhfhjdjpaaGreatDoor
namespace Go.Proofs.YthjiclhfhjdjpaaGreatDoor
open Go.RowKit
set_option linter.unusedSectionVars false
theorem at31 {i n : Nat} (h : i < n) : 0 <= (i : Int) /\ (i : Int) < (n : Int):=⟨Int.natCast_nonneg i,Int.ofNat_lt.2 h⟩
theorem zHe : Tryz.prog.cellsOf 9 = 1:=by kernel_rfl
theorem zIU {s : Sg} {w w' : World} (hfx : ∀ b o,s.F b o -> (w.cell? ⟨b,o,none⟩).isSome) (hb : Below w.heap.size w w') : ∀ b o,s.F b o -> w'.cell? ⟨b,o,none⟩ = w.cell? ⟨b,o,none⟩:=fun b o hF => by
 obtain ⟨x,hx⟩:=Option.isSome_iff_exists.1 (hfx b o hF)
 exact hb.cell (p:=⟨b,o,none⟩) (block_lt_of_cell hx)
theorem cloneS_ac (E0 : Ge) (l : List D) (hl : l.length * 16 <= 140737488355328) : AC E0 Tryz.prog 264 [.sl 9 l] (.sl 9 l):=by
 intro s w us hus hfx he
 obtain ⟨u,rfl,h⟩:=zCw hus
 rw [rel] at h
 obtain ⟨k,A,c,rfl,h2,h3,h4,h5⟩:=h
 have hcl:=zHe
 cases A with
 | none =>
   have h0 : l.length = 0:=by have:=h4 rfl; omega
   refine (Tryz.slices_Clone_string_nil l.length c w).mono ?_
   rintro e w' ⟨rfl,rfl⟩
   refine ⟨_,s.F,rfl,Frm.refl _ _,Keeps.refl,hfx,fun _ _ _ h => h,?_⟩
   rw [rel]
   exact ⟨1,none,0,by rw [h0],by omega,by decide,fun _ => rfl,fun h => by omega⟩
 | some a =>
   by_cases h0 : l.length = 0
   . rw [h0]
     refine (Tryz.slices_Clone_string_zero a c w).mono ?_
     rintro e w' ⟨v',rfl,hown,hne,hb⟩
     obtain ⟨-,⟨rfl,-⟩ | ⟨g,cap,cur,rfl,q1,q2,q3,q4,q5,q6⟩⟩:=hown
     . exact (hne rfl).elim
     . have hc:=zIU hfx hb
       refine ⟨_,s.F,rfl,Frm.of_below hb,fun b o hF => ⟨hc b o hF,hF⟩,fun b o hF => by rw [hc b o hF]; exact hfx b o hF,fun _ _ _ h => h,?_⟩
       rw [rel]
       exact ⟨1,_,cap,by rw [h0],by omega,q4,(fun h => by cases h),fun h => by omega⟩
   . obtain ⟨b,off,e1,hi⟩:=h5 (by omega) (by rw [hcl]; omega)
     cases e1
     have hst : ∀ i,i < l.length -> w.cell? ⟨b,off + i,none⟩ = some (.string (gD l i).s) /\ (gD l i).s.size <= maxLen:=fun i hil => by
      obtain ⟨ys,y1,y2,y3⟩:=hi i hil
      cases k with
      | zero => exact y3.elim
      | succ k =>
        unfold RepF at y3
        rw [show Tryz.prog.underlying 9 = some .string by kernel_rfl] at y3
        obtain ⟨rfl,y4⟩:=y3
        have:=(y2 0 _ rfl).1
        rw [hcl] at this
        exact ⟨by simpa using this,y4⟩
     refine (Tryz.slices_Clone_string b off l.length c (l.map (·.s)) w (by simp) hl (fun j hj => by
      rw [List.length_map] at hj
      rw [(hst j hj).1,List.getD_eq_getElem?_getD,List.getElem?_map,List.getElem?_eq_getElem hj,zAt hj]
      rfl)).mono ?_
     rintro e w' ⟨v',rfl,hown,hne,hb⟩
     obtain ⟨-,⟨rfl,-⟩ | ⟨g,cap,cur,rfl,q1,q2,q3,q4,q5,q6⟩⟩:=hown
     . exact (hne rfl).elim
     . have hc:=zIU hfx hb
       have hcell : ∀ i,i < l.length -> w'.cell? ⟨g,i,none⟩ = some (.string (gD l i).s):=fun i hil => by
        have hx : (cur.toList.take (l.length * 1))[i]? = some (.string (gD l i).s):=by
         rw [q6]
         simp [List.getElem?_map,List.getElem?_eq_getElem hil,zAt hil,hil]
        rw [List.getElem?_take] at hx
        have hx : cur.toList[i]? = some (.string (gD l i).s):=by rw [if_pos (by omega)] at hx; exact hx
        have hx : cur[i]? = some (.string (gD l i).s):=by simpa using hx
        simp [World.cell?,q2,hx]
       refine ⟨_,fun b o => s.F b o \/ (b = g /\ o < l.length),rfl,Frm.of_below hb,fun b o hF => ⟨hc b o hF,.inl hF⟩,?_,?_,?_⟩
       . rintro b o (hF | ⟨rfl,ho⟩)
         . rw [hc b o hF]; exact hfx b o hF
         . rw [hcell o ho]; rfl
       . rintro b o hbl (hF | ⟨rfl,ho⟩)
         . exact hF
         . omega
       . rw [rel]
         refine ⟨1,_,cap,rfl,by omega,q4,(fun h => by cases h),fun _ _ => ⟨g,0,rfl,fun i hil => ⟨[.string (gD l i).s],hcl.symm,fun j u hj => ?_,?_⟩⟩⟩
         . rw [hcl]
           obtain rfl : j = 0:=by
            cases j with
            | zero => rfl
            | succ j => simp at hj
           simp at hj
           subst hj
           refine ⟨?_,.inr ⟨rfl,by omega⟩⟩
           have:=hcell i hil
           simpa using this
         . unfold RepF
           rw [show Tryz.prog.underlying 9 = some .string by kernel_rfl]
           exact ⟨rfl,(hst i hil).2⟩
attribute [local irreducible] wpList Calls Code.wp AW AWo OpOk seqK zAf zAh loopK endK AC zAD Yld Sub
attribute [local irreducible] ACB ACX absLexG YldG absLexH
theorem zIh : zAL Tryz.prog 82 = some (84,80):=by kernel_rfl
noncomputable def HCp (l : List D) (i : Nat) : Vst 19:=stS 19 [(3,.own 3 84 (l.take i)),(6,.sl 84 l),(7,.c (.int .i64 (l.length : Nat))),(8,.c (.int .i64 (i : Int)))] [(3,.tok 84 (l.take i).length)]
theorem copies_of (E0 : Ge) (l : List D) (hl : l.length <= 1759218604441) (hc : ∀ i,i < l.length -> AC E0 Tryz.prog 190 [.agg (cellsV Tryz.prog 12 84 (gD l i))] (.agg (cellsV Tryz.prog 12 84 (gD l i)))) :
 AC E0 Tryz.prog 263 [.sl 84 l] (.sl 84 l):=by
 refine zO 19 Tryz.func263 rfl rfl rfl rfl ?_
 intro s w he
 repeat' (first
|refine zA9 ?_
|refine zB ?_
|refine zC ?_
|refine zQ ?_
|refine zBP ?_
|apply zAj rfl
 . conv => lhs; whnf
 . conv => lhs; whnf; arg 2; whnf
|exact trivial)
 refine zu (Sub.own (t:=3) (e:=84) rfl rfl) ?_
 refine zv (fun j st => ∃ i,i + j = l.length /\ Sub (cx E0 Tryz.prog s w he) st (HCp l i)) l.length ⟨0,by omega,Sub.live ⟨rfl,rfl,rfl,rfl,trivial⟩ ⟨rfl,trivial⟩⟩ ?_
 rintro j st ⟨i,hij,hs2⟩
 refine zu hs2 ?_
 clear hs2
 by_cases hi : i < l.length
 . have f0 : decide ((i : Int) < (l.length : Nat)) = true:=decide_eq_true (by omega)
   have h1:=hc i hi
   have htk : (l.take i).length = i:=by rw [List.length_take]; omega
   repeat' (first
|apply zAr [gD l i] rfl rfl
 . conv => lhs; whnf
 . first | exact zIh | (conv => lhs; whnf; arg 1; whnf)
 . rfl
 . rfl
 . repeat' (first | exact trivial | apply And.intro | rfl)
|apply zK
 . conv => lhs; whnf
 . assumption
|refine zA9 ?_
|refine zB ?_
|refine zC ?_
|refine zQ ?_
|refine zU ?_
|refine zBP ?_
|refine zBX ?_
|apply zAj rfl
 . conv => lhs; whnf
 . conv => lhs; whnf; arg 2; whnf
|apply zl rfl
 . conv => lhs; whnf
 . conv => lhs; whnf
 . first | exact h1
|apply zAZ rfl rfl rfl rfl
 . conv => lhs; whnf; arg 1; whnf
 . rfl
|apply zz rfl rfl rfl
 . conv => lhs; whnf
 . conv => lhs; whnf; arg 1; whnf
 . conv => lhs; whnf; arg 1; whnf
 . exact ⟨by kernel_rfl,by kernel_rfl⟩
 . rfl
|apply zCC rfl rfl
 . conv => lhs; whnf
 . first | exact zIh | (conv => lhs; whnf; arg 1; whnf)
 . first | exact fun _ => rfl | (intro _; kernel_rfl)
 . conv => lhs; whnf
 . conv => lhs; whnf; arg 1; whnf
 . conv => lhs; whnf
|exact trivial)
   all_goals first
    | exact zo (by omega)
    | exact at31 hi
    | (refine ⟨by simp,?_,?_⟩ <;> simp only [List.length_cons,List.length_nil,maxLen,htk] <;> omega)
    | skip
   refine zF (j':=j - 1) (by omega) ⟨i + 1,by omega,Sub.live ⟨?_,rfl,rfl,rfl,trivial⟩ ⟨?_,trivial⟩⟩
   . show V.own 3 _ (l.take i ++ [gD l i]) = V.own 3 _ (l.take (i + 1))
     rw [List.take_add_one,List.getElem?_eq_getElem hi,zAt hi]; rfl
   . show some (Res.tok _ ((l.take i).length + 1)) = some (Res.tok _ (l.take (i + 1)).length)
     rw [htk,List.length_take,show min (i + 1) l.length = i + 1 by omega]
 . have f0 : decide ((i : Int) < (l.length : Nat)) = false:=decide_eq_false (by omega)
   repeat' (first
|apply zM
 . conv => lhs; whnf
 . assumption
|refine zA9 ?_
|refine zB ?_
|refine zC ?_
|refine zQ ?_
|apply zAj rfl
 . conv => lhs; whnf
 . conv => lhs; whnf; arg 2; whnf
|refine zAQ ?_
|refine zAO ?_
|refine zI ?_
|refine zE rfl ?_
|refine zG ?_
|refine zD ?_
|refine ⟨_,by conv => lhs; whnf; arg 2; whnf,?_⟩; conv => rhs; whnf
|exact trivial)
   rw [List.take_of_length_le (by omega)]
theorem copy_ac (E0 : Ge) : ∀ (k : Nat) (d : D),CpV k d -> AC E0 Tryz.prog 190 [.agg (cellsV Tryz.prog 12 84 d)] (.agg (cellsV Tryz.prog 12 84 d))
 | 0,_,h => h.elim
 | k + 1,d,h => by
   have h1:=copies_of E0 (d.f 3).l h.1 fun i hi => copy_ac E0 k _ (h.2.2 i hi)
   have h2:=cloneS_ac E0 (d.f 4).l (by have:=h.2.1; omega)
   refine zO 12 Tryz.func190 rfl rfl rfl rfl ?_
   intro s w he
   repeat' (first
|refine zA9 ?_
|refine zB ?_
|refine zC ?_
|refine zQ ?_
|apply zAj rfl
 . conv => lhs; whnf
 . conv => lhs; whnf; arg 2; whnf
|apply zl rfl
 . conv => lhs; whnf
 . conv => lhs; whnf
 . first | exact h1 | exact h2
|apply zAN rfl rfl rfl rfl
 . conv => lhs; whnf; arg 1; whnf
 . rfl
|apply zAZ rfl rfl rfl rfl
 . conv => lhs; whnf; arg 1; whnf
 . rfl
|apply zz rfl rfl rfl
 . conv => lhs; whnf
 . conv => lhs; whnf; arg 1; whnf
 . conv => lhs; whnf; arg 1; whnf
 . exact ⟨by kernel_rfl,by kernel_rfl⟩
 . rfl
|refine zAQ ?_
|refine zD ?_
|refine ⟨_,by conv => lhs; whnf; arg 2; whnf,?_⟩; conv => rhs; whnf
|exact trivial)
   rfl
end Go.Proofs.YthjiclhfhjdjpaaGreatDoor
namespace Go.Proofs.YthjiclhfhjdjpaaGreatDoor
open Go.RowKit
set_option linter.unusedSectionVars false
attribute [local irreducible] wpList Calls Code.wp AW AWo OpOk seqK zAf zAh loopK endK AC zAD Yld Sub
attribute [local irreducible] ACB ACX absLexG YldG absLexH
theorem txtP_ac (E0 : Ge) (s : ByteArray) : AC E0 Tryz.prog 170 [.c (.string s)] (.agg (cellsV Tryz.prog 12 84 (vD31 3 0 s))):=by
 refine AC.res ?_ (zIG 3 0 s)
 refine zO 5 Tryz.func170 rfl rfl rfl rfl ?_
 intro w0 w he
 repeat' (first
|refine zA9 ?_
|refine zB ?_
|refine zC ?_
|refine zQ ?_
|refine zU ?_
|refine zAT ?_
|refine zBP ?_
|refine zBX ?_
|refine zCo ?_
|refine zCn ?_
|apply zAj rfl
 . conv => lhs; whnf
 . conv => lhs; whnf; arg 2; whnf
|apply zAZ rfl rfl rfl rfl
 . conv => lhs; whnf; arg 1; whnf
 . rfl
|apply zz rfl rfl rfl
 . conv => lhs; whnf
 . conv => lhs; whnf; arg 1; whnf
 . conv => lhs; whnf; arg 1; whnf
 . exact ⟨by kernel_rfl,by kernel_rfl⟩
 . rfl
|apply zw
 . conv => lhs; whnf; arg 1; arg 1; whnf
|apply z8
 . conv => lhs; whnf; arg 1; arg 1; whnf
|refine zV (by conv => lhs; whnf) ?_ ?_ <;> intro hb
|refine zAQ ?_
|refine zAO ?_
|refine zI ?_
|refine zN ?_
|refine zL ?_
|refine zE rfl ?_
|refine zb rfl ?_
|refine zf ?_
|refine zn ?_
|refine zG ?_
|refine za ?_
|refine zA7 ?_
|refine zD ?_
|refine ⟨_,by conv => lhs; whnf; arg 2; whnf,?_⟩; conv => rhs; whnf
|exact trivial
|intro hg)
 rfl
theorem intP_ac (E0 : Ge) (n : Int) : AC E0 Tryz.prog 248 [.c (.int .i64 n)] (.agg (cellsV Tryz.prog 12 84 (vD31 2 n ⟨#[]⟩))):=by
 refine AC.res ?_ (zIG 2 n ⟨#[]⟩)
 refine zO 5 Tryz.func248 rfl rfl rfl rfl ?_
 intro w0 w he
 repeat' (first
|refine zA9 ?_
|refine zB ?_
|refine zC ?_
|refine zQ ?_
|refine zU ?_
|refine zAT ?_
|refine zBP ?_
|refine zBX ?_
|refine zCo ?_
|refine zCn ?_
|apply zAj rfl
 . conv => lhs; whnf
 . conv => lhs; whnf; arg 2; whnf
|apply zAZ rfl rfl rfl rfl
 . conv => lhs; whnf; arg 1; whnf
 . rfl
|apply zz rfl rfl rfl
 . conv => lhs; whnf
 . conv => lhs; whnf; arg 1; whnf
 . conv => lhs; whnf; arg 1; whnf
 . exact ⟨by kernel_rfl,by kernel_rfl⟩
 . rfl
|apply zw
 . conv => lhs; whnf; arg 1; arg 1; whnf
|apply z8
 . conv => lhs; whnf; arg 1; arg 1; whnf
|refine zV (by conv => lhs; whnf) ?_ ?_ <;> intro hb
|refine zAQ ?_
|refine zAO ?_
|refine zI ?_
|refine zN ?_
|refine zL ?_
|refine zE rfl ?_
|refine zb rfl ?_
|refine zf ?_
|refine zn ?_
|refine zG ?_
|refine za ?_
|refine zA7 ?_
|refine zD ?_
|refine ⟨_,by conv => lhs; whnf; arg 2; whnf,?_⟩; conv => rhs; whnf
|exact trivial
|intro hg)
 rfl
theorem zAI : zAL Tryz.prog 69 = some (86,96):=by kernel_rfl
theorem zAB : zAL Tryz.prog 55 = some (76,128):=by kernel_rfl
noncomputable def fdpV (A : List D) (sub : ByteArray -> List D -> List D) (p : D) (b0 b1 : Bool) : V:=
 .agg [.c (.int .i64 1),.c (.string (bif b0 then (p.f 0).s else ⟨#[]⟩)),.c (.string (p.f 2).s),.c (.string ⟨#[]⟩),.sl 86 A,
  bif b1 then .sl 150 [zBU (p.f 6).n] else .c (.slice none 0 0),.sl 76 (sub ((p.f 4).f 0).s (p.f 7).l)]
theorem fdpV_le (sub : ByteArray -> List D -> List D) (p : D) {b0 b1 : Bool} (h0 : (!(p.f 0).s.toList == (p.f 2).s.toList) = b0) (h1 : ((p.f 6).n != -1) = b1) : VLe (fdpV (p.f 3).l sub p b0 b1) (.agg (cellsV Tryz.prog 12 76 (zBu sub p))):=by
 have e0 : (if (p.f 0).s.toList == (p.f 2).s.toList then (⟨#[]⟩ : ByteArray) else (p.f 0).s) = bif b0 then (p.f 0).s else ⟨#[]⟩:=by
  subst h0
  cases (p.f 0).s.toList == (p.f 2).s.toList <;> rfl
 have e : cellsV Tryz.prog 12 76 (zBu sub p) = [.c (.int .i64 1),.c (.string (if (p.f 0).s.toList == (p.f 2).s.toList then ⟨#[]⟩ else (p.f 0).s)),.c (.string (p.f 2).s),.c (.string ⟨#[]⟩),.sl 86 (p.f 3).l,.sl 150 (if (p.f 6).n = -1 then [] else [zBU (p.f 6).n]),.sl 76 (sub ((p.f 4).f 0).s (p.f 7).l)]:=rfl
 rw [e,e0]
 unfold fdpV
 by_cases hn : (p.f 6).n = -1
 . have : b1 = false:=by rw [<- h1,hn]; rfl
   subst this
   rw [if_pos hn]
   exact .agg (.cons (.refl _) (.cons (.refl _) (.cons (.refl _) (.cons (.refl _) (.cons (.refl _) (.cons (.nil _) (.cons (.refl _) .nil)))))))
 . have : b1 = true:=by rw [<- h1]; simpa using hn
   subst this
   rw [if_neg hn]
   exact .agg (.cons (.refl _) (.cons (.refl _) (.cons (.refl _) (.cons (.refl _) (.cons (.refl _) (.cons (.refl _) (.cons (.refl _) .nil)))))))
noncomputable def HFd (p : D) (al : ByteArray) (sels : List D) (i : Nat) : Vst 56:=
 stS 56 [(1,.bx 1 0),(2,.bx 2 0),(3,.bx 3 0),(24,.sl 86 (p.f 3).l),(25,.c (.int .i64 ((p.f 3).l.length : Nat))),(26,.c (.int .i64 (i : Int)))]
  [(1,.box 73 (cellsV Tryz.prog 12 73 p)),(2,.box 76 [.c (.int .i64 0),.c (.string ⟨#[]⟩),.c (.string ⟨#[]⟩),.c (.string ⟨#[]⟩),.c (.slice none 0 0),.c (.slice none 0 0),.c (.slice none 0 0)]),
   (3,.box 76 [.c (.int .i64 1),.c (.string al),.c (.string (p.f 2).s),.c (.string ⟨#[]⟩),.own 900 86 ((p.f 3).l.take i),.c (.slice none 0 0),.sl 76 sels]),(900,.tok 86 ((p.f 3).l.take i).length)]
noncomputable def HF0 (p : D) : Vst 56:=
 stS 56 [(1,.bx 1 0),(2,.bx 2 0)] [(1,.box 73 (cellsV Tryz.prog 12 73 p)),(2,.box 76 [.c (.int .i64 0),.c (.string ⟨#[]⟩),.c (.string ⟨#[]⟩),.c (.string ⟨#[]⟩),.c (.slice none 0 0),.c (.slice none 0 0),.c (.slice none 0 0)])]
theorem fieldP_ac (E0 : Ge) (sub : ByteArray -> List D -> List D) (p : D) (ha : CpA (p.f 3).l)
 (hs : AC E0 Tryz.prog 87 [.sl 73 (p.f 7).l,.c (.string ((p.f 4).f 0).s)] (.sl 76 (sub ((p.f 4).f 0).s (p.f 7).l))) :
 AC E0 Tryz.prog 169 [.agg (cellsV Tryz.prog 12 73 p)] (.agg (cellsV Tryz.prog 12 76 (zBu sub p))):=by
 have hcp:=fun i (hi : i < (p.f 3).l.length) => copy_ac E0 _ _ (ha.2 i hi).choose_spec
 have hln:=ha.1
 have ht:=txtP_ac E0 ⟨#[115]⟩
 have hn:=intP_ac E0 (p.f 6).n
 rcases h0 : (!(p.f 0).s.toList == (p.f 2).s.toList) with _ | _ <;> rcases h1 : ((p.f 6).n != -1) with _ | _
 let al : ByteArray:=⟨#[]⟩
 rotate_left 1
 let al : ByteArray:=⟨#[]⟩
 rotate_left 1
 let al : ByteArray:=(p.f 0).s
 rotate_left 1
 let al : ByteArray:=(p.f 0).s
 rotate_left 1
 all_goals
  refine AC.res ?_ (fdpV_le sub p h0 h1)
  refine zO 56 Tryz.func169 rfl rfl rfl rfl ?_
  intro s w he
  repeat' (first
|apply zF8 ([(1,[1]),(3,[1]),(6,[1])]) ([(9,[3]),(10,[3])]) ([(9,3)]) rfl (by kernel_rfl) (by kernel_rfl) (by kernel_rfl) (by intro p hp; simp only [List.mem_cons,List.not_mem_nil,or_false] at hp; rcases hp with rfl <;> (repeat' (first | exact fresh_S rfl | refine fresh_put ?_ rfl | refine fresh_res ?_ rfl rfl)))
|apply h_nil
|apply zHT rfl rfl rfl rfl
 . conv => lhs; whnf; arg 1; whnf
 . rfl
 . rfl
 . kernel_rfl
|apply h_val rfl
 . conv => lhs; whnf
 . conv => lhs; whnf; arg 2; whnf
 . kernel_rfl
|apply h_lit0 rfl rfl rfl rfl
 . first | (conv => lhs; whnf; arg 1; whnf)
 . rfl
 . kernel_rfl
|apply h_app rfl rfl
 . conv => lhs; whnf
 . first | (conv => lhs; whnf; arg 1; whnf)
 . first | exact fun _ => rfl | (intro _; kernel_rfl)
 . conv => lhs; whnf
 . rfl
 . first | rfl | (conv => lhs; whnf; arg 1; whnf)
 . conv => lhs; whnf
 . kernel_rfl
|apply zHS rfl rfl rfl
 . conv => lhs; whnf
 . rfl
 . conv => lhs; whnf; arg 1; whnf
 . conv => lhs; whnf; arg 1; whnf
 . exact ⟨by kernel_rfl,by kernel_rfl⟩
 . rfl
 . kernel_rfl
|apply h_call rfl
 . conv => lhs; whnf
 . conv => lhs; whnf
 . first | exact hs
 . kernel_rfl
|show inO _ _ = true; rfl
|apply zK
 . conv => lhs; whnf
 . assumption
|apply zM
 . conv => lhs; whnf
 . assumption
|apply zAv 1 (HF0 p) rfl
|refine zAM ?_
|refine zAE ?_
|refine zBB ?_
|refine zA9 ?_
|refine zB ?_
|refine zC ?_
|refine zQ ?_
|refine zU ?_
|refine zAT ?_
|refine zBP ?_
|refine zBX ?_
|refine zCo ?_
|refine zCn ?_
|apply zAj rfl
 . conv => lhs; whnf
 . conv => lhs; whnf; arg 2; whnf
|apply zl rfl
 . conv => lhs; whnf
 . conv => lhs; whnf
 . first | exact hs
|apply zAN rfl rfl rfl rfl
 . conv => lhs; whnf; arg 1; whnf
 . rfl
|apply zAZ rfl rfl rfl rfl
 . conv => lhs; whnf; arg 1; whnf
 . rfl
|apply zz rfl rfl rfl
 . conv => lhs; whnf
 . conv => lhs; whnf; arg 1; whnf
 . conv => lhs; whnf; arg 1; whnf
 . exact ⟨by kernel_rfl,by kernel_rfl⟩
 . rfl
|apply zCC rfl rfl
 . conv => lhs; whnf
 . first | (conv => lhs; whnf; arg 1; whnf)
 . first | exact fun _ => rfl | (intro _; kernel_rfl)
 . conv => lhs; whnf
 . conv => lhs; whnf; arg 1; whnf
 . conv => lhs; whnf
|apply zCV rfl rfl rfl rfl
 . first | (conv => lhs; whnf; arg 1; whnf)
 . first | exact fun _ => rfl | (intro _; kernel_rfl)
 . conv => lhs; whnf
 . conv => lhs; whnf
|apply zDI rfl rfl
 . conv => lhs; whnf
 . first | (conv => lhs; whnf; arg 1; whnf)
|apply zBQ rfl rfl
 . conv => lhs; whnf
 . first | (conv => lhs; whnf; arg 1; whnf)
 . conv => lhs; whnf; arg 1; whnf
 . rfl
 . rfl
|apply zES rfl rfl
 . conv => lhs; whnf
 . first | (conv => lhs; whnf; arg 1; whnf)
 . first | exact fun _ => rfl | (intro _; kernel_rfl)
 . conv => lhs; whnf
 . conv => lhs; whnf
|apply zAJ (by kernel_rfl) (by kernel_rfl)
|apply zAx
|apply zAw rfl
 . conv => lhs; whnf
 . conv => lhs; whnf; arg 2; whnf
|apply zAq rfl
 . conv => lhs; whnf
 . conv => lhs; whnf
 . first | exact hs
|apply zDX rfl rfl rfl
 . conv => lhs; whnf
 . rfl
 . rfl
 . conv => lhs; whnf; arg 1; whnf
 . conv => lhs; whnf; arg 1; whnf
 . exact ⟨by kernel_rfl,by kernel_rfl⟩
 . rfl
|apply zED rfl rfl
 . conv => lhs; whnf
 . first | (conv => lhs; whnf; arg 1; whnf)
 . first | exact fun _ => rfl | (intro _; kernel_rfl)
 . conv => lhs; whnf
 . rfl
 . rfl
 . conv => lhs; whnf; arg 1; whnf
 . conv => lhs; whnf
|apply zEz rfl rfl
 . conv => lhs; whnf
 . first | (conv => lhs; whnf; arg 1; whnf)
|apply zCO rfl rfl
 . conv => lhs; whnf
 . first | (conv => lhs; whnf; arg 1; whnf)
 . conv => lhs; whnf; arg 1; whnf
 . rfl
 . rfl
|apply zDY rfl rfl
 . conv => lhs; whnf
 . first | (conv => lhs; whnf; arg 1; whnf)
 . first | exact fun _ => rfl | (intro _; kernel_rfl)
 . conv => lhs; whnf
 . conv => lhs; whnf
|exact zd
|exact zy
|exact all_nil
|show List.all _ _ = true; rfl
|show zBH _ _ = true; rfl
|exact ([] : List Nat)
|exact (1000000 : Nat)
|apply zw
 . conv => lhs; whnf; arg 1; arg 1; whnf
|apply z8
 . conv => lhs; whnf; arg 1; arg 1; whnf
|refine zV (by conv => lhs; whnf) ?_ ?_ <;> intro hb
|refine zAQ ?_
|refine zAO ?_
|refine zI ?_
|refine zN ?_
|refine zL ?_
|refine zE rfl ?_
|refine zb rfl ?_
|refine zf ?_
|refine zn ?_
|refine zG ?_
|refine za ?_
|refine zA7 ?_
|refine zD ?_
|refine ⟨_,by conv => lhs; whnf; arg 2; whnf,?_⟩; conv => rhs; whnf
|exact trivial
|intro hg)
  . exact Sub.live ⟨rfl,rfl,trivial⟩ ⟨rfl,rfl,trivial⟩
  refine zu (Sub.ownF (m:=3) (q:=900) (i:=4) (e:=86) rfl (by decide) rfl rfl rfl) ?_
  refine zv (fun j st => ∃ i,i + j = (p.f 3).l.length /\ Sub (cx E0 Tryz.prog s w he) st (HFd p al (sub ((p.f 4).f 0).s (p.f 7).l) i)) (p.f 3).l.length ⟨0,by omega,Sub.live ⟨rfl,rfl,rfl,rfl,rfl,rfl,trivial⟩ ⟨rfl,rfl,rfl,rfl,trivial⟩⟩ ?_
  rintro j st ⟨i,hij,hs2⟩
  refine zu hs2 ?_
  clear hs2
  by_cases hi : i < (p.f 3).l.length
  . have f0 : decide ((i : Int) < ((p.f 3).l.length : Nat)) = true:=decide_eq_true (by omega)
    have h2:=hcp i hi
    have htk : ((p.f 3).l.take i).length = i:=by rw [List.length_take]; omega
    repeat' (first
|apply zBT 12 ([(1,[3]),(3,[5]),(5,[5])]) ([(9,[900]),(11,[3])]) rfl (by kernel_rfl) (by kernel_rfl) (by kernel_rfl)
|apply zGf
|apply zGe rfl
 . conv => lhs; whnf
 . conv => lhs; whnf; arg 2; whnf
|apply zDt rfl
 . conv => lhs; whnf
 . conv => lhs; whnf
 . first | exact h2
|apply g_app rfl rfl
 . conv => lhs; whnf
 . first | exact zAI | (conv => lhs; whnf; arg 1; whnf)
 . first | exact fun _ => rfl | (intro _; kernel_rfl)
 . conv => lhs; whnf
 . rfl
 . conv => lhs; whnf; arg 1; whnf
 . conv => lhs; whnf
|apply zFv rfl rfl rfl
 . conv => lhs; whnf
 . rfl
 . conv => lhs; whnf; arg 1; whnf
 . conv => lhs; whnf; arg 1; whnf
 . exact ⟨by kernel_rfl,by kernel_rfl⟩
 . rfl
|show inO _ _ = true; rfl
|apply zFH (.agg (cellsV Tryz.prog 12 86 (gD (p.f 3).l i))) rfl rfl
 . conv => lhs; whnf; arg 2; whnf
 . repeat' (first | exact VLe.refl _ | exact VLe.nil _ | exact VLe.lit _ _ | exact VLe.own _ _ _ | apply VLe.agg | apply VLeL.cons | exact VLeL.nil)
|apply g_lit [gD (p.f 3).l i] rfl rfl
 . conv => lhs; whnf
 . first | exact zAI | (conv => lhs; whnf; arg 1; whnf)
 . rfl
 . rfl
 . repeat' (first | exact trivial | apply And.intro | rfl)
|apply zK
 . conv => lhs; whnf
 . assumption
|apply zM
 . conv => lhs; whnf
 . assumption
|refine zAM ?_
|refine zAE ?_
|refine zBB ?_
|refine zA9 ?_
|refine zB ?_
|refine zC ?_
|refine zQ ?_
|refine zU ?_
|refine zAT ?_
|refine zBP ?_
|refine zBX ?_
|refine zCo ?_
|refine zCn ?_
|apply zAj rfl
 . conv => lhs; whnf
 . conv => lhs; whnf; arg 2; whnf
|apply zl rfl
 . conv => lhs; whnf
 . conv => lhs; whnf
 . first | exact h2
|apply zAN rfl rfl rfl rfl
 . conv => lhs; whnf; arg 1; whnf
 . rfl
|apply zAZ rfl rfl rfl rfl
 . conv => lhs; whnf; arg 1; whnf
 . rfl
|apply zz rfl rfl rfl
 . conv => lhs; whnf
 . conv => lhs; whnf; arg 1; whnf
 . conv => lhs; whnf; arg 1; whnf
 . exact ⟨by kernel_rfl,by kernel_rfl⟩
 . rfl
|apply zCC rfl rfl
 . conv => lhs; whnf
 . first | exact zAI | (conv => lhs; whnf; arg 1; whnf)
 . first | exact fun _ => rfl | (intro _; kernel_rfl)
 . conv => lhs; whnf
 . conv => lhs; whnf; arg 1; whnf
 . conv => lhs; whnf
|apply zCV rfl rfl rfl rfl
 . first | exact zAI | (conv => lhs; whnf; arg 1; whnf)
 . first | exact fun _ => rfl | (intro _; kernel_rfl)
 . conv => lhs; whnf
 . conv => lhs; whnf
|apply zDI rfl rfl
 . conv => lhs; whnf
 . first | exact zAI | (conv => lhs; whnf; arg 1; whnf)
|apply zBQ rfl rfl
 . conv => lhs; whnf
 . first | exact zAI | (conv => lhs; whnf; arg 1; whnf)
 . conv => lhs; whnf; arg 1; whnf
 . rfl
 . rfl
|apply zES rfl rfl
 . conv => lhs; whnf
 . first | exact zAI | (conv => lhs; whnf; arg 1; whnf)
 . first | exact fun _ => rfl | (intro _; kernel_rfl)
 . conv => lhs; whnf
 . conv => lhs; whnf
|apply zAJ (by kernel_rfl) (by kernel_rfl)
|apply zAx
|apply zAw rfl
 . conv => lhs; whnf
 . conv => lhs; whnf; arg 2; whnf
|apply zAq rfl
 . conv => lhs; whnf
 . conv => lhs; whnf
 . first | exact h2
|apply zDX rfl rfl rfl
 . conv => lhs; whnf
 . rfl
 . rfl
 . conv => lhs; whnf; arg 1; whnf
 . conv => lhs; whnf; arg 1; whnf
 . exact ⟨by kernel_rfl,by kernel_rfl⟩
 . rfl
|apply zED rfl rfl
 . conv => lhs; whnf
 . first | exact zAI | (conv => lhs; whnf; arg 1; whnf)
 . first | exact fun _ => rfl | (intro _; kernel_rfl)
 . conv => lhs; whnf
 . rfl
 . rfl
 . conv => lhs; whnf; arg 1; whnf
 . conv => lhs; whnf
|apply zEz rfl rfl
 . conv => lhs; whnf
 . first | exact zAI | (conv => lhs; whnf; arg 1; whnf)
|apply zCO rfl rfl
 . conv => lhs; whnf
 . first | exact zAI | (conv => lhs; whnf; arg 1; whnf)
 . conv => lhs; whnf; arg 1; whnf
 . rfl
 . rfl
|apply zDY rfl rfl
 . conv => lhs; whnf
 . first | exact zAI | (conv => lhs; whnf; arg 1; whnf)
 . first | exact fun _ => rfl | (intro _; kernel_rfl)
 . conv => lhs; whnf
 . conv => lhs; whnf
|exact zd
|exact zy
|exact all_nil
|show List.all _ _ = true; rfl
|show zBH _ _ = true; rfl
|exact ([] : List Nat)
|exact (1000000 : Nat)
|apply zw
 . conv => lhs; whnf; arg 1; arg 1; whnf
|apply z8
 . conv => lhs; whnf; arg 1; arg 1; whnf
|refine zV (by conv => lhs; whnf) ?_ ?_ <;> intro hb
|refine zAQ ?_
|refine zAO ?_
|refine zI ?_
|refine zN ?_
|refine zL ?_
|refine zE rfl ?_
|refine zb rfl ?_
|refine zf ?_
|refine zn ?_
|refine zG ?_
|refine za ?_
|refine zA7 ?_
|refine zD ?_
|refine ⟨_,by conv => lhs; whnf; arg 2; whnf,?_⟩; conv => rhs; whnf
|exact trivial
|intro hg)
    all_goals first
     | exact zo (by omega)
     | exact at31 hi
     | (refine ⟨by simp,?_,?_⟩ <;> simp only [List.length_cons,List.length_nil,maxLen,htk] <;> omega)
     | skip
    have e1 : (p.f 3).l.take (i + 1) = (p.f 3).l.take i ++ [gD (p.f 3).l i]:=by rw [List.take_add_one,List.getElem?_eq_getElem hi,zAt hi]; rfl
    refine zF (j':=j - 1) (by omega) ⟨i + 1,by omega,Sub.live ⟨rfl,rfl,rfl,rfl,rfl,rfl,trivial⟩ ⟨rfl,rfl,?_,?_,trivial⟩⟩
    . rw [e1]; rfl
    . rw [e1,List.length_append]; rfl
  . have f0 : decide ((i : Int) < ((p.f 3).l.length : Nat)) = false:=decide_eq_false (by omega)
    have e1 : (p.f 3).l.take i = (p.f 3).l:=List.take_of_length_le (by omega)
    repeat' (first
|apply zFH (.agg (cellsV Tryz.prog 12 86 (sArg ⟨#[108,97,98,101,108]⟩ (vD31 3 0 ⟨#[115]⟩)))) rfl rfl
 . conv => lhs; whnf; arg 2; whnf
 . repeat' (first | exact VLe.refl _ | exact VLe.nil _ | exact VLe.lit _ _ | exact VLe.own _ _ _ | apply VLe.agg | apply VLeL.cons | exact VLeL.nil)
|apply zFH (.agg (cellsV Tryz.prog 12 86 (sArg ⟨#[105,110,105,116,105,97,108,67,111,117,110,116]⟩ (vD31 2 (p.f 6).n ⟨#[]⟩)))) rfl rfl
 . conv => lhs; whnf; arg 2; whnf
 . repeat' (first | exact VLe.refl _ | exact VLe.nil _ | exact VLe.lit _ _ | exact VLe.own _ _ _ | apply VLe.agg | apply VLeL.cons | exact VLeL.nil)
|apply zFH (.agg (cellsV Tryz.prog 12 150 (zBU (p.f 6).n))) rfl rfl
 . conv => lhs; whnf; arg 2; whnf
 . repeat' (first | exact VLe.refl _ | exact VLe.nil _ | exact VLe.lit _ _ | exact VLe.own _ _ _ | apply VLe.agg | apply VLeL.cons | exact VLeL.nil)
|apply zBT 11 ([(3,[1])]) ([(10,[3])]) rfl (by kernel_rfl) (by kernel_rfl) (by kernel_rfl)
|apply zGf
|apply zGe rfl
 . conv => lhs; whnf
 . conv => lhs; whnf; arg 2; whnf
|apply zDt rfl
 . conv => lhs; whnf
 . conv => lhs; whnf
 . first | exact ht | exact hn
|apply g_app rfl rfl
 . conv => lhs; whnf
 . first | (conv => lhs; whnf; arg 1; whnf)
 . first | exact fun _ => rfl | (intro _; kernel_rfl)
 . conv => lhs; whnf
 . rfl
 . conv => lhs; whnf; arg 1; whnf
 . conv => lhs; whnf
|apply zFv rfl rfl rfl
 . conv => lhs; whnf
 . rfl
 . conv => lhs; whnf; arg 1; whnf
 . conv => lhs; whnf; arg 1; whnf
 . exact ⟨by kernel_rfl,by kernel_rfl⟩
 . rfl
|show inO _ _ = true; rfl
|apply g_lit [sArg ⟨#[108,97,98,101,108]⟩ (vD31 3 0 ⟨#[115]⟩),sArg ⟨#[105,110,105,116,105,97,108,67,111,117,110,116]⟩ (vD31 2 (p.f 6).n ⟨#[]⟩)] rfl rfl
 . conv => lhs; whnf
 . first | (conv => lhs; whnf; arg 1; whnf)
 . rfl
 . rfl
 . repeat' (first | exact trivial | apply And.intro | rfl)
|apply g_lit [zBU (p.f 6).n] rfl rfl
 . conv => lhs; whnf
 . first | (conv => lhs; whnf; arg 1; whnf)
 . rfl
 . rfl
 . repeat' (first | exact trivial | apply And.intro | rfl)
|apply zK
 . conv => lhs; whnf
 . assumption
|apply zM
 . conv => lhs; whnf
 . assumption
|refine zAM ?_
|refine zAE ?_
|refine zBB ?_
|refine zA9 ?_
|refine zB ?_
|refine zC ?_
|refine zQ ?_
|refine zU ?_
|refine zAT ?_
|refine zBP ?_
|refine zBX ?_
|refine zCo ?_
|refine zCn ?_
|apply zAj rfl
 . conv => lhs; whnf
 . conv => lhs; whnf; arg 2; whnf
|apply zl rfl
 . conv => lhs; whnf
 . conv => lhs; whnf
 . first | exact ht | exact hn
|apply zAN rfl rfl rfl rfl
 . conv => lhs; whnf; arg 1; whnf
 . rfl
|apply zAZ rfl rfl rfl rfl
 . conv => lhs; whnf; arg 1; whnf
 . rfl
|apply zz rfl rfl rfl
 . conv => lhs; whnf
 . conv => lhs; whnf; arg 1; whnf
 . conv => lhs; whnf; arg 1; whnf
 . exact ⟨by kernel_rfl,by kernel_rfl⟩
 . rfl
|apply zCC rfl rfl
 . conv => lhs; whnf
 . first | (conv => lhs; whnf; arg 1; whnf)
 . first | exact fun _ => rfl | (intro _; kernel_rfl)
 . conv => lhs; whnf
 . conv => lhs; whnf; arg 1; whnf
 . conv => lhs; whnf
|apply zCV rfl rfl rfl rfl
 . first | (conv => lhs; whnf; arg 1; whnf)
 . first | exact fun _ => rfl | (intro _; kernel_rfl)
 . conv => lhs; whnf
 . conv => lhs; whnf
|apply zDI rfl rfl
 . conv => lhs; whnf
 . first | (conv => lhs; whnf; arg 1; whnf)
|apply zBQ rfl rfl
 . conv => lhs; whnf
 . first | (conv => lhs; whnf; arg 1; whnf)
 . conv => lhs; whnf; arg 1; whnf
 . rfl
 . rfl
|apply zES rfl rfl
 . conv => lhs; whnf
 . first | (conv => lhs; whnf; arg 1; whnf)
 . first | exact fun _ => rfl | (intro _; kernel_rfl)
 . conv => lhs; whnf
 . conv => lhs; whnf
|apply zAJ (by kernel_rfl) (by kernel_rfl)
|apply zAx
|apply zAw rfl
 . conv => lhs; whnf
 . conv => lhs; whnf; arg 2; whnf
|apply zAq rfl
 . conv => lhs; whnf
 . conv => lhs; whnf
 . first | exact ht | exact hn
|apply zDX rfl rfl rfl
 . conv => lhs; whnf
 . rfl
 . rfl
 . conv => lhs; whnf; arg 1; whnf
 . conv => lhs; whnf; arg 1; whnf
 . exact ⟨by kernel_rfl,by kernel_rfl⟩
 . rfl
|apply zED rfl rfl
 . conv => lhs; whnf
 . first | (conv => lhs; whnf; arg 1; whnf)
 . first | exact fun _ => rfl | (intro _; kernel_rfl)
 . conv => lhs; whnf
 . rfl
 . rfl
 . conv => lhs; whnf; arg 1; whnf
 . conv => lhs; whnf
|apply zEz rfl rfl
 . conv => lhs; whnf
 . first | (conv => lhs; whnf; arg 1; whnf)
|apply zCO rfl rfl
 . conv => lhs; whnf
 . first | (conv => lhs; whnf; arg 1; whnf)
 . conv => lhs; whnf; arg 1; whnf
 . rfl
 . rfl
|apply zDY rfl rfl
 . conv => lhs; whnf
 . first | (conv => lhs; whnf; arg 1; whnf)
 . first | exact fun _ => rfl | (intro _; kernel_rfl)
 . conv => lhs; whnf
 . conv => lhs; whnf
|exact zd
|exact zy
|exact all_nil
|show List.all _ _ = true; rfl
|show zBH _ _ = true; rfl
|exact ([] : List Nat)
|exact (1000000 : Nat)
|apply zw
 . conv => lhs; whnf; arg 1; arg 1; whnf
|apply z8
 . conv => lhs; whnf; arg 1; arg 1; whnf
|refine zV (by conv => lhs; whnf) ?_ ?_ <;> intro hb
|refine zAQ ?_
|refine zAO ?_
|refine zI ?_
|refine zN ?_
|refine zL ?_
|refine zE rfl ?_
|refine zb rfl ?_
|refine zf ?_
|refine zn ?_
|refine zG ?_
|refine za ?_
|refine zA7 ?_
|refine zD ?_
|refine ⟨_,by conv => lhs; whnf; arg 2; whnf,?_⟩; conv => rhs; whnf
|exact trivial
|intro hg)
    all_goals exact (congrArg (fun A => fdpV A sub p _ _) e1.symm).trans rfl
theorem zCN {b : Bool} (h : b = true) : (b == true) = true:=by rw [h]; rfl
theorem zDy {b : Bool} (h : b = false) : (b == true) = false:=by rw [h]; rfl
theorem zHI (s : ByteArray) : (s.toList == (⟨#[]⟩ : ByteArray).toList) = (s.toList == []):=by rw [Lib.toList_data (⟨#[]⟩ : ByteArray)]
noncomputable def HSo31 (on : ByteArray) (l acc : List D) (i : Nat) : Vst 88:=
 stS 88 [(0,.sl 73 l),(1,.c (.string on)),(5,.own 5 76 acc),(6,.c (.int .i64 (i : Int)))] [(5,.tok 76 acc.length)]
noncomputable def inlV (p : D) (b : Bool) (g : List D) : List V:=
 [.c (.int .i64 3),.c (.string ⟨#[]⟩),.c (.string ⟨#[]⟩),.c (.string (p.f 1).s),.c (.slice none 0 0),bif b then .lit 150 [zCa (p.f 5).s] else .c (.slice none 0 0),.own 901 76 g]
noncomputable def HSi31 (on : ByteArray) (l acc : List D) (p : D) (b : Bool) (g : List D) (i : Nat) : Vst 88:=
 stS 88 [(0,.sl 73 l),(1,.c (.string on)),(5,.own 5 76 acc),(6,.c (.int .i64 (i : Int))),(7,.bx 7 0),(8,.bx 8 0)]
  [(5,.tok 76 acc.length),(7,.box 73 (cellsV Tryz.prog 12 73 p)),(8,.box 76 (inlV p b g)),(901,.tok 76 g.length)]
def inlB (b : Bool) (p : D) (fs : List D) : D:=sD31 3 ⟨#[]⟩ ⟨#[]⟩ (p.f 1).s [] (bif b then [zCa (p.f 5).s] else []) fs
theorem zDf {b : Bool} {p : D} (fs : List D) (h : (((p.f 5).s.toList == (⟨#[]⟩ : ByteArray).toList)) = !b) : inlD p fs = inlB b p fs:=by
 rw [zHI] at h
 unfold inlD inlB
 rw [h]
 cases b <;> rfl
theorem zE8 (E0 : Ge) (f : D -> D) (on : ByteArray) (l : List D) (hl : l.length <= 60)
 (hf : ∀ i,i < l.length -> AC E0 Tryz.prog 169 [.agg (cellsV Tryz.prog 12 73 (gD l i))] (.agg (cellsV Tryz.prog 12 76 (f (gD l i))))) :
 AC E0 Tryz.prog 87 [.sl 73 l,.c (.string on)] (.sl 76 (selsI f on l l.length 0)):=by
 generalize hR : selsI f on l l.length 0 = R
 refine zO 88 Tryz.func87 rfl rfl rfl rfl ?_
 intro s w he
 repeat' (first
|refine zB ?_
|refine zC ?_
|refine zQ ?_
|apply aw_1
 conv => whnf
 refine ⟨?_,trivial⟩
|apply s_1
 conv => whnf; arg 1; arg 4; arg 3; whnf
 refine ⟨?_,?_⟩
|exact trivial)
 refine zu (Sub.own (t:=5) (e:=76) rfl rfl) ?_
 refine zv (fun n st => ∃ i acc j,acc ++ selsI f on l j i = R /\ n + i = l.length /\ l.length <= i + j /\ acc.length <= i /\ Sub (cx E0 Tryz.prog s w he) st (HSo31 on l acc i)) l.length ⟨0,[],l.length,hR,by omega,by omega,Nat.le_refl _,Sub.live ⟨rfl,rfl,rfl,rfl,trivial⟩ ⟨rfl,trivial⟩⟩ ?_
 clear hR
 rintro n st ⟨i,acc,j,hR,hn,hj,hac,hs2⟩
 refine zu hs2 ?_
 clear hs2
 by_cases hi : i < l.length
 rotate_left 1
 . have f0 : decide ((i : Int) < (l.length : Nat)) = false:=decide_eq_false (by omega)
   rw [zCT hi,List.append_nil] at hR
   subst hR
   repeat' (first
|apply zM
 . conv => lhs; whnf
 . assumption
|refine zB ?_
|refine zC ?_
|refine zQ ?_
|apply aw_1
 conv => whnf
 refine ⟨?_,trivial⟩
|apply s_1
 conv => whnf; arg 1; arg 4; arg 3; whnf
 refine ⟨?_,?_⟩
|refine zI ?_
|refine zE rfl ?_
|refine zG ?_
|refine zD ?_
|refine ⟨_,by conv => lhs; whnf; arg 2; whnf,?_⟩; conv => rhs; whnf
|exact trivial)
 have f0 : decide ((i : Int) < (l.length : Nat)) = true:=decide_eq_true (by omega)
 obtain ⟨j,rfl⟩ : ∃ q,j = q + 1:=⟨j - 1,by omega⟩
 have hfi:=hf i hi
 have hpp : zBz on (gD l i) = (((gD l i).f 1).s.toList == on.toList && ((gD l i).f 5).s.toList == (⟨#[]⟩ : ByteArray).toList):=by unfold zBz; rw [zHI]
 have htx:=txtP_ac E0 ((gD l i).f 5).s
 rcases h1 : ((gD l i).f 1).s.toList == on.toList with _ | _ <;> rcases h2 : ((gD l i).f 5).s.toList == (⟨#[]⟩ : ByteArray).toList with _ | _
 all_goals
  have g1:=h1
  have g2:=h2
  rw [h1,h2] at hpp
 rotate_left 3
 . have g1:=zCN h1
   rw [zBi hi hpp] at hR
   repeat' (first
|apply zAr [f (gD l i)] rfl rfl
 . conv => lhs; whnf
 . first | exact zAB | (conv => lhs; whnf; arg 1; whnf)
 . rfl
 . rfl
 . repeat' (first | exact trivial | apply And.intro | rfl)
|apply zK
 . conv => lhs; whnf
 . assumption
|refine zB ?_
|refine zC ?_
|refine zQ ?_
|apply aw_1
 conv => whnf
 refine ⟨?_,trivial⟩
|apply ze rfl rfl
 . conv => lhs; whnf
 . conv => lhs; whnf
 . first | exact bT1 ‹_› | exact bT2 ‹_›
|apply s_1
 conv => whnf; arg 1; arg 4; arg 3; whnf
 refine ⟨?_,?_⟩
|apply zl rfl
 . conv => lhs; whnf
 . conv => lhs; whnf
 . first | exact hfi
|apply zz rfl rfl rfl
 . conv => lhs; whnf
 . conv => lhs; whnf; arg 1; whnf
 . conv => lhs; whnf; arg 1; whnf
 . exact ⟨by kernel_rfl,by kernel_rfl⟩
 . rfl
|apply zCC rfl rfl
 . conv => lhs; whnf
 . first | exact zAB | (conv => lhs; whnf; arg 1; whnf)
 . first | exact fun _ => rfl | (intro _; kernel_rfl)
 . conv => lhs; whnf
 . conv => lhs; whnf; arg 1; whnf
 . conv => lhs; whnf
|apply zJ rfl
 . conv => lhs; whnf
 . conv => lhs; whnf
 . first | rfl | assumption
 . conv => lhs; whnf; arg 2; whnf
|refine zI ?_
|refine zE rfl ?_
|exact trivial)
   all_goals first
    | exact zo (by omega)
    | exact at31 hi
    | (refine ⟨by simp,?_,?_⟩ <;> simp only [List.length_cons,List.length_nil,maxLen] <;> omega)
    | skip
   refine zF (j':=n - 1) (by omega) ⟨i + 1,acc ++ [f (gD l i)],j,by rw [List.append_assoc]; exact hR,by omega,by omega,by rw [List.length_append]; simp only [List.length_cons,List.length_nil]; omega,Sub.live ⟨rfl,rfl,rfl,rfl,trivial⟩ ⟨?_,trivial⟩⟩
   rw [List.length_append]; rfl
 all_goals
  rw [zCS hi hpp] at hR
  have hgp:=zIS (f:=f) (l:=l) (i:=i) hi
  have hgi:=zHV (f:=f) (l:=l) (p:=gD l i) (k:=l.length) (i:=i) (by omega)
  generalize hG : grpI f l (gD l i) l.length i = G at *
 let bb:=true
 have hd : (!((gD l i).f 5).s.toList == (⟨#[]⟩ : ByteArray).toList) = true:=by rw [h2]; rfl
 rw [zDf (b:=bb) G (by rw [h2]; rfl)] at hR
 have g1:=zDy h1
 rotate_left 1
 let bb:=false
 have hd : (!((gD l i).f 5).s.toList == (⟨#[]⟩ : ByteArray).toList) = false:=by rw [h2]; rfl
 rw [zDf (b:=bb) G (by rw [h2]; rfl)] at hR
 have g1:=zDy h1
 rotate_left 1
 let bb:=true
 have hd : (!((gD l i).f 5).s.toList == (⟨#[]⟩ : ByteArray).toList) = true:=by rw [h2]; rfl
 rw [zDf (b:=bb) G (by rw [h2]; rfl)] at hR
 have g1:=zCN h1
 rotate_left 1
 all_goals
  repeat' (first
|apply zAc ((.agg (cellsV Tryz.prog 12 86 (sArg ⟨#[108,97,98,101,108]⟩ (vD31 3 0 ((gD l i).f 5).s))))) rfl rfl
 . conv => lhs; whnf; arg 2; whnf
 . repeat' (first | exact VLe.refl _ | exact VLe.nil _ | exact VLe.lit _ _ | exact VLe.own _ _ _ | apply VLe.agg | apply VLeL.cons | exact VLeL.nil)
|apply zAc ((.agg (cellsV Tryz.prog 12 150 (zCa ((gD l i).f 5).s)))) rfl rfl
 . conv => lhs; whnf; arg 2; whnf
 . repeat' (first | exact VLe.refl _ | exact VLe.nil _ | exact VLe.lit _ _ | exact VLe.own _ _ _ | apply VLe.agg | apply VLeL.cons | exact VLeL.nil)
|apply zAr [sArg ⟨#[108,97,98,101,108]⟩ (vD31 3 0 ((gD l i).f 5).s)] rfl rfl
 . conv => lhs; whnf
 . first | exact zAB | (conv => lhs; whnf; arg 1; whnf)
 . rfl
 . rfl
 . repeat' (first | exact trivial | apply And.intro | rfl)
|apply zAr [zCa ((gD l i).f 5).s] rfl rfl
 . conv => lhs; whnf
 . first | exact zAB | (conv => lhs; whnf; arg 1; whnf)
 . rfl
 . rfl
 . repeat' (first | exact trivial | apply And.intro | rfl)
|apply zK
 . conv => lhs; whnf
 . assumption
|apply zM
 . conv => lhs; whnf
 . assumption
|refine zB ?_
|refine zC ?_
|refine zQ ?_
|apply aw_1
 conv => whnf
 refine ⟨?_,trivial⟩
|apply ze rfl rfl
 . conv => lhs; whnf
 . conv => lhs; whnf
 . first | exact bT1 ‹_› | exact bT2 ‹_›
|apply zm rfl rfl
 . conv => lhs; whnf
 . conv => lhs; whnf
 . first | exact bF1 ‹_› | exact bF2 ‹_›
|apply s_1
 conv => whnf; arg 1; arg 4; arg 3; whnf
 refine ⟨?_,?_⟩
|apply zl rfl
 . conv => lhs; whnf
 . conv => lhs; whnf
 . first | exact htx
|apply zz rfl rfl rfl
 . conv => lhs; whnf
 . conv => lhs; whnf; arg 1; whnf
 . conv => lhs; whnf; arg 1; whnf
 . exact ⟨by kernel_rfl,by kernel_rfl⟩
 . rfl
|apply zJ rfl
 . conv => lhs; whnf
 . conv => lhs; whnf
 . first | rfl | assumption
 . conv => lhs; whnf; arg 2; whnf
|apply zAA rfl
 . conv => lhs; whnf
 . conv => lhs; whnf
 . first | rfl | assumption
|exact trivial)
  all_goals first
   | exact zo (by omega)
   | exact at31 hi
   | skip
  refine zu (Sub.ownF (m:=8) (q:=901) (i:=6) (e:=76) rfl (by decide) rfl rfl rfl) ?_
  refine zv (fun m st => ∃ i2 g k,g ++ grpI f l (gD l i) k i2 = G /\ m + i2 = l.length /\ l.length <= i2 + k /\ i + g.length = i2 /\ Sub (cx E0 Tryz.prog s w he) st (HSi31 on l acc (gD l i) bb g i2)) (l.length - i) ⟨i,[],l.length,hG,by omega,by omega,rfl,Sub.live ⟨rfl,rfl,rfl,rfl,rfl,rfl,trivial⟩ ⟨rfl,rfl,rfl,rfl,trivial⟩⟩ ?_
  clear hG
  rintro m st2 ⟨i2,g,k,hG,hm,hk,hgl,hs3⟩
  refine zu hs3 ?_
  clear hs3 htx hd
  have hway : (¬ i2 < l.length) \/ (i2 < l.length /\ (((gD l i2).f 1).s.toList == ((gD l i).f 1).s.toList) = false) \/ (i2 < l.length /\ (((gD l i2).f 1).s.toList == ((gD l i).f 1).s.toList) = true /\ (((gD l i2).f 5).s.toList == ((gD l i).f 5).s.toList) = false) \/ (i2 < l.length /\ (((gD l i2).f 1).s.toList == ((gD l i).f 1).s.toList) = true /\ (((gD l i2).f 5).s.toList == ((gD l i).f 5).s.toList) = true):=by
   by_cases hi2 : i2 < l.length
   . cases q1 : (((gD l i2).f 1).s.toList == ((gD l i).f 1).s.toList) <;> cases q2 : (((gD l i2).f 5).s.toList == ((gD l i).f 5).s.toList)
     . exact .inr (.inl ⟨hi2,rfl⟩)
     . exact .inr (.inl ⟨hi2,rfl⟩)
     . exact .inr (.inr (.inl ⟨hi2,rfl,rfl⟩))
     . exact .inr (.inr (.inr ⟨hi2,rfl,rfl⟩))
   . exact .inl hi2
  rcases hway with hi2 | ⟨hi2,q1⟩ | ⟨hi2,q1,q2⟩ | ⟨hi2,q1,q2⟩
  rotate_left 3
  . have e0 : decide ((i2 : Int) < (l.length : Nat)) = true:=decide_eq_true (by omega)
    have e1:=zCN e0
    have e2:=zCN q1
    have e3:=zCN q2
    obtain ⟨k,rfl⟩ : ∃ q,k = q + 1:=⟨k - 1,by omega⟩
    rw [zDg ⟨hi2,by unfold zBC; rw [q1,q2]; rfl⟩] at hG
    have hf2:=hf i2 hi2
    repeat' (first
|apply zBT 11 ([(1,[8])]) ([(8,[901]),(10,[8])]) rfl (by kernel_rfl) (by kernel_rfl) (by kernel_rfl)
|apply zGf
|apply zGe rfl
 . conv => lhs; whnf
 . conv => lhs; whnf; arg 2; whnf
|apply zDt rfl
 . conv => lhs; whnf
 . conv => lhs; whnf
 . first | exact hf2
|apply g_app rfl rfl
 . conv => lhs; whnf
 . first | exact zAB | (conv => lhs; whnf; arg 1; whnf)
 . first | exact fun _ => rfl | (intro _; kernel_rfl)
 . conv => lhs; whnf
 . rfl
 . conv => lhs; whnf; arg 1; whnf
 . conv => lhs; whnf
|apply zFv rfl rfl rfl
 . conv => lhs; whnf
 . rfl
 . conv => lhs; whnf; arg 1; whnf
 . conv => lhs; whnf; arg 1; whnf
 . exact ⟨by kernel_rfl,by kernel_rfl⟩
 . rfl
|show inO _ _ = true; rfl
|apply g_lit [f (gD l i2)] rfl rfl
 . conv => lhs; whnf
 . first | exact zAB | (conv => lhs; whnf; arg 1; whnf)
 . rfl
 . rfl
 . repeat' (first | exact trivial | apply And.intro | rfl)
|apply zK
 . conv => lhs; whnf
 . assumption
|refine zB ?_
|refine zC ?_
|refine zQ ?_
|refine zU ?_
|apply aw_1
 conv => whnf
 refine ⟨?_,trivial⟩
|apply s_1
 conv => whnf; arg 1; arg 4; arg 3; whnf
 refine ⟨?_,?_⟩
|apply zAJ (by kernel_rfl) (by kernel_rfl)
|apply zAx
|apply zDz rfl rfl
 . conv => lhs; whnf
 . conv => lhs; whnf
 . first | exact bT1 ‹_› | exact bT2 ‹_›
|apply zAw rfl
 . conv => lhs; whnf
 . conv => lhs; whnf; arg 2; whnf
|apply zBo rfl
 . conv => lhs; whnf
 . conv => lhs; whnf
 . first | rfl | assumption
 . conv => lhs; whnf; arg 2; whnf
|exact zd
|exact zy
|exact ([] : List Nat)
|exact (1000000 : Nat)
|exact trivial)
    all_goals first
     | exact zo (by omega)
     | exact at31 hi2
     | (refine ⟨by simp,?_,?_⟩ <;> simp only [List.length_cons,List.length_nil,maxLen] <;> omega)
     | skip
    refine zF (j':=m - 1) (by omega) ⟨i2 + 1,g ++ [f (gD l i2)],k,by rw [List.append_assoc]; exact hG,by omega,by omega,by rw [List.length_append]; simp only [List.length_cons,List.length_nil]; omega,Sub.live ⟨rfl,rfl,rfl,rfl,rfl,rfl,trivial⟩ ⟨rfl,rfl,rfl,?_,trivial⟩⟩
    rw [List.length_append]; rfl
  have e0 : decide ((i2 : Int) < (l.length : Nat)) = false:=decide_eq_false (by omega)
  have e1:=zDy e0
  have hno : ¬ (i2 < l.length /\ zBC (gD l i) (gD l i2) = true):=fun h => hi2 h.1
  rotate_left 1
  have e0 : decide ((i2 : Int) < (l.length : Nat)) = true:=decide_eq_true (by omega)
  have e1:=zCN e0
  have e2:=zDy q1
  have hno : ¬ (i2 < l.length /\ zBC (gD l i) (gD l i2) = true):=fun h => by have:=h.2; unfold zBC at this; rw [q1] at this; cases this
  rotate_left 1
  have e0 : decide ((i2 : Int) < (l.length : Nat)) = true:=decide_eq_true (by omega)
  have e1:=zCN e0
  have e2:=zCN q1
  have e3:=zDy q2
  have hno : ¬ (i2 < l.length /\ zBC (gD l i) (gD l i2) = true):=fun h => by have:=h.2; unfold zBC at this; rw [q1,q2] at this; cases this
  rotate_left 1
  all_goals
   rw [zD8 hno,List.append_nil] at hG
   subst hG
   repeat' (first
|apply zAc ((.agg (cellsV Tryz.prog 12 76 (inlB bb (gD l i) g)))) rfl rfl
 . conv => lhs; whnf; arg 2; whnf
 . repeat' (first | exact VLe.refl _ | exact VLe.nil _ | exact VLe.lit _ _ | exact VLe.own _ _ _ | apply VLe.agg | apply VLeL.cons | exact VLeL.nil)
|apply zAr [inlB bb (gD l i) g] rfl rfl
 . conv => lhs; whnf
 . first | exact zAB | (conv => lhs; whnf; arg 1; whnf)
 . rfl
 . rfl
 . repeat' (first | exact trivial | apply And.intro | rfl)
|apply zM
 . conv => lhs; whnf
 . assumption
|refine zB ?_
|refine zC ?_
|refine zQ ?_
|refine zU ?_
|apply aw_1
 conv => whnf
 refine ⟨?_,trivial⟩
|apply s_1
 conv => whnf; arg 1; arg 4; arg 3; whnf
 refine ⟨?_,?_⟩
|apply zCC rfl rfl
 . conv => lhs; whnf
 . first | exact zAB | (conv => lhs; whnf; arg 1; whnf)
 . first | exact fun _ => rfl | (intro _; kernel_rfl)
 . conv => lhs; whnf
 . conv => lhs; whnf; arg 1; whnf
 . conv => lhs; whnf
|apply zAJ (by kernel_rfl) (by kernel_rfl)
|apply zAx
|apply zDz rfl rfl
 . conv => lhs; whnf
 . conv => lhs; whnf
 . first | exact bT1 ‹_› | exact bT2 ‹_›
|apply zHp rfl rfl
 . conv => lhs; whnf
 . conv => lhs; whnf
 . first | exact bF1 ‹_› | exact bF2 ‹_›
|apply zAw rfl
 . conv => lhs; whnf
 . conv => lhs; whnf; arg 2; whnf
|apply zBo rfl
 . conv => lhs; whnf
 . conv => lhs; whnf
 . first | rfl | assumption
 . conv => lhs; whnf; arg 2; whnf
|apply y_skip rfl
 . conv => lhs; whnf
 . conv => lhs; whnf
 . first | rfl | assumption
|exact zd
|exact zy
|exact ([] : List Nat)
|exact (1000000 : Nat)
|refine zI ?_
|refine zE rfl ?_
|refine zG ?_
|exact trivial)
   all_goals first
    | exact zo (by omega)
    | exact at31 hi2
    | (refine ⟨by simp,?_,?_⟩ <;> simp only [List.length_cons,List.length_nil,maxLen] <;> omega)
    | skip
   refine zF (j':=n - g.length) (by omega) ⟨i2,acc ++ [inlB bb (gD l i) g],j,by rw [<- hgl,List.append_assoc]; exact hR,by omega,by omega,by rw [List.length_append]; simp only [List.length_cons,List.length_nil]; omega,Sub.live ⟨rfl,rfl,rfl,rfl,trivial⟩ ⟨?_,trivial⟩⟩
   rw [List.length_append]; rfl
theorem zE9 (E0 : Ge) : ∀ (k : Nat) (l : List D) (on : ByteArray),CpP k l -> AC E0 Tryz.prog 87 [.sl 73 l,.c (.string on)] (.sl 76 (pkS k on l))
 | 0,l,on,h => by
   have h : l = []:=h
   subst h
   exact zE8 E0 (fun d => d) on [] (by simp) fun i hi => absurd hi (Nat.not_lt_zero i)
 | k + 1,l,on,h => zE8 E0 (zBu (pkS k)) on l h.1 fun i hi => fieldP_ac E0 (pkS k) (gD l i) (h.2 i hi).1 (zE9 E0 k _ _ (h.2 i hi).2)
theorem fdrV_le (sub : ByteArray -> List D -> List D) (p : D) (h0 : (p.f 7).l = [] -> sub ((p.f 4).f 0).s (p.f 7).l = []) : VLe (fdrV sub p) (.agg (cellsV Tryz.prog 12 76 (zBu sub p))):=by
 have e : cellsV Tryz.prog 12 76 (zBu sub p) = [.c (.int .i64 1),.c (.string (if (p.f 0).s.toList == (p.f 2).s.toList then ⟨#[]⟩ else (p.f 0).s)),.c (.string (p.f 2).s),.c (.string ⟨#[]⟩),.sl 86 (p.f 3).l,.sl 150 (if (p.f 6).n = -1 then [] else [zBU (p.f 6).n]),.sl 76 (sub ((p.f 4).f 0).s (p.f 7).l)]:=rfl
 rw [e]
 unfold fdrV
 by_cases hn : (p.f 6).n = -1 <;> by_cases hl : 0 < (p.f 7).l.length
 . rw [if_pos hn,if_pos hn,if_pos hl]
   exact .agg (.cons (.refl _) (.cons (.refl _) (.cons (.refl _) (.cons (.refl _) (.cons (.refl _) (.cons (.nil _) (.cons (.refl _) .nil)))))))
 . rw [if_pos hn,if_pos hn,if_neg hl,h0 (List.length_eq_zero_iff.1 (by omega))]
   exact .agg (.cons (.refl _) (.cons (.refl _) (.cons (.refl _) (.cons (.refl _) (.cons (.refl _) (.cons (.nil _) (.cons (.nil _) .nil)))))))
 . rw [if_neg hn,if_neg hn,if_pos hl]
   exact .agg (.cons (.refl _) (.cons (.refl _) (.cons (.refl _) (.cons (.refl _) (.cons (.refl _) (.cons (.refl _) (.cons (.refl _) .nil)))))))
 . rw [if_neg hn,if_neg hn,if_neg hl,h0 (List.length_eq_zero_iff.1 (by omega))]
   exact .agg (.cons (.refl _) (.cons (.refl _) (.cons (.refl _) (.cons (.refl _) (.cons (.refl _) (.cons (.refl _) (.cons (.nil _) .nil)))))))
noncomputable def HRo31 (on : ByteArray) (l acc : List D) (i : Nat) : Vst 113:=
 stS 113 [(0,.c (.string on)),(1,.sl 73 l),(5,.own 5 76 acc),(6,.c (.int .i64 (i : Int)))] [(5,.tok 76 acc.length)]
noncomputable def HRi31 (on : ByteArray) (l acc : List D) (p : D) (b : Bool) (g : List D) (i i2 : Nat) : Vst 113:=
 stS 113 [(0,.c (.string on)),(1,.sl 73 l),(5,.own 5 76 acc),(6,.c (.int .i64 (i2 : Int))),(8,.bx 8 0),(9,.c (.int .i64 (i : Int)))]
  [(5,.tok 76 acc.length),(8,.box 76 (inlV p b g)),(901,.tok 76 g.length)]
theorem zE6 (E0 : Ge) (f : D -> D) (on : ByteArray) (l : List D) (hl : l.length <= 60)
 (hf : ∀ i,i < l.length -> AC E0 Tryz.prog 171 [.agg (cellsV Tryz.prog 12 73 (gD l i))] (.agg (cellsV Tryz.prog 12 76 (f (gD l i))))) :
 AC E0 Tryz.prog 92 [.c (.string on),.sl 73 l] (.sl 76 (selsI f on l l.length 0)):=by
 generalize hR : selsI f on l l.length 0 = R
 refine zO 113 Tryz.func92 rfl rfl rfl rfl ?_
 intro s w he
 repeat' (first
|refine zB ?_
|refine zC ?_
|refine zQ ?_
|apply aw_1
 conv => whnf
 refine ⟨?_,trivial⟩
|apply s_1
 conv => whnf; arg 1; arg 4; arg 3; whnf
 refine ⟨?_,?_⟩
|exact trivial)
 refine zu (Sub.own (t:=5) (e:=76) rfl rfl) ?_
 refine zv (fun n st => ∃ i acc j,acc ++ selsI f on l j i = R /\ n + i = l.length /\ l.length <= i + j /\ acc.length <= i /\ Sub (cx E0 Tryz.prog s w he) st (HRo31 on l acc i)) l.length ⟨0,[],l.length,hR,by omega,by omega,Nat.le_refl _,Sub.live ⟨rfl,rfl,rfl,rfl,trivial⟩ ⟨rfl,trivial⟩⟩ ?_
 clear hR
 rintro n st ⟨i,acc,j,hR,hn,hj,hac,hs2⟩
 refine zu hs2 ?_
 clear hs2
 by_cases hi : i < l.length
 rotate_left 1
 . have f0 : decide ((i : Int) < (l.length : Nat)) = false:=decide_eq_false (by omega)
   rw [zCT hi,List.append_nil] at hR
   subst hR
   repeat' (first
|apply zM
 . conv => lhs; whnf
 . assumption
|refine zB ?_
|refine zC ?_
|refine zQ ?_
|apply aw_1
 conv => whnf
 refine ⟨?_,trivial⟩
|apply s_1
 conv => whnf; arg 1; arg 4; arg 3; whnf
 refine ⟨?_,?_⟩
|refine zI ?_
|refine zE rfl ?_
|refine zG ?_
|refine zD ?_
|refine ⟨_,by conv => lhs; whnf; arg 2; whnf,?_⟩; conv => rhs; whnf
|exact trivial)
 have f0 : decide ((i : Int) < (l.length : Nat)) = true:=decide_eq_true (by omega)
 obtain ⟨j,rfl⟩ : ∃ q,j = q + 1:=⟨j - 1,by omega⟩
 have hfi:=hf i hi
 have hpp : zBz on (gD l i) = (((gD l i).f 1).s.toList == on.toList && ((gD l i).f 5).s.toList == (⟨#[]⟩ : ByteArray).toList):=by unfold zBz; rw [zHI]
 have htx:=zHv E0 ((gD l i).f 5).s
 rcases h1 : ((gD l i).f 1).s.toList == on.toList with _ | _ <;> rcases h2 : ((gD l i).f 5).s.toList == (⟨#[]⟩ : ByteArray).toList with _ | _
 all_goals
  rw [h1,h2] at hpp
 rotate_left 3
 . have g1:=zCN h1
   have g2:=zCN h2
   rw [zBi hi hpp] at hR
   repeat' (first
|apply zAc ((.agg (cellsV Tryz.prog 12 76 (f (gD l i))))) rfl rfl
 . conv => lhs; whnf; arg 2; whnf
 . repeat' (first | exact VLe.refl _ | exact VLe.nil _ | exact VLe.lit _ _ | exact VLe.own _ _ _ | apply VLe.agg | apply VLeL.cons | exact VLeL.nil)
|apply zAr [f (gD l i)] rfl rfl
 . conv => lhs; whnf
 . first | exact zAB | (conv => lhs; whnf; arg 1; whnf)
 . rfl
 . rfl
 . repeat' (first | exact trivial | apply And.intro | rfl)
|apply zK
 . conv => lhs; whnf
 . assumption
|refine zB ?_
|refine zC ?_
|refine zQ ?_
|apply aw_1
 conv => whnf
 refine ⟨?_,trivial⟩
|apply ze rfl rfl
 . conv => lhs; whnf
 . conv => lhs; whnf
 . first | exact bT1 ‹_› | exact bT2 ‹_›
|apply s_1
 conv => whnf; arg 1; arg 4; arg 3; whnf
 refine ⟨?_,?_⟩
|apply zl rfl
 . conv => lhs; whnf
 . conv => lhs; whnf
 . first | exact hfi
|apply zz rfl rfl rfl
 . conv => lhs; whnf
 . conv => lhs; whnf; arg 1; whnf
 . conv => lhs; whnf; arg 1; whnf
 . exact ⟨by kernel_rfl,by kernel_rfl⟩
 . rfl
|apply zCC rfl rfl
 . conv => lhs; whnf
 . first | exact zAB | (conv => lhs; whnf; arg 1; whnf)
 . first | exact fun _ => rfl | (intro _; kernel_rfl)
 . conv => lhs; whnf
 . conv => lhs; whnf; arg 1; whnf
 . conv => lhs; whnf
|apply zJ rfl
 . conv => lhs; whnf
 . conv => lhs; whnf
 . first | rfl | assumption
 . conv => lhs; whnf; arg 2; whnf
|refine zI ?_
|refine zE rfl ?_
|exact trivial)
   all_goals first
    | exact zo (by omega)
    | exact at31 hi
    | (refine ⟨by simp,?_,?_⟩ <;> simp only [List.length_cons,List.length_nil,maxLen] <;> omega)
    | skip
   refine zF (j':=n - 1) (by omega) ⟨i + 1,acc ++ [f (gD l i)],j,by rw [List.append_assoc]; exact hR,by omega,by omega,by rw [List.length_append]; simp only [List.length_cons,List.length_nil]; omega,Sub.live ⟨rfl,rfl,rfl,rfl,trivial⟩ ⟨?_,trivial⟩⟩
   rw [List.length_append]; rfl
 all_goals
  rw [zCS hi hpp] at hR
  have hgp:=zIS (f:=f) (l:=l) (i:=i) hi
  have hgi:=zHV (f:=f) (l:=l) (p:=gD l i) (k:=l.length) (i:=i) (by omega)
  generalize hG : grpI f l (gD l i) l.length i = G at *
 let bb:=true
 have hd : (!((gD l i).f 5).s.toList == (⟨#[]⟩ : ByteArray).toList) = true:=by rw [h2]; rfl
 rw [zDf (b:=bb) G (by rw [h2]; rfl)] at hR
 have g1:=zDy h1
 rotate_left 1
 let bb:=false
 have hd : (!((gD l i).f 5).s.toList == (⟨#[]⟩ : ByteArray).toList) = false:=by rw [h2]; rfl
 rw [zDf (b:=bb) G (by rw [h2]; rfl)] at hR
 have g1:=zDy h1
 rotate_left 1
 let bb:=true
 have hd : (!((gD l i).f 5).s.toList == (⟨#[]⟩ : ByteArray).toList) = true:=by rw [h2]; rfl
 rw [zDf (b:=bb) G (by rw [h2]; rfl)] at hR
 have g1:=zCN h1
 have g2:=zDy h2
 rotate_left 1
 all_goals
  repeat' (first
|apply zAc ((.agg (cellsV Tryz.prog 12 86 (sArg ⟨#[108,97,98,101,108]⟩ (vD31 3 0 ((gD l i).f 5).s))))) rfl rfl
 . conv => lhs; whnf; arg 2; whnf
 . repeat' (first | exact VLe.refl _ | exact VLe.nil _ | exact VLe.lit _ _ | exact VLe.own _ _ _ | apply VLe.agg | apply VLeL.cons | exact VLeL.nil)
|apply zAc ((.agg (cellsV Tryz.prog 12 150 (zCa ((gD l i).f 5).s)))) rfl rfl
 . conv => lhs; whnf; arg 2; whnf
 . repeat' (first | exact VLe.refl _ | exact VLe.nil _ | exact VLe.lit _ _ | exact VLe.own _ _ _ | apply VLe.agg | apply VLeL.cons | exact VLeL.nil)
|apply zAr [sArg ⟨#[108,97,98,101,108]⟩ (vD31 3 0 ((gD l i).f 5).s)] rfl rfl
 . conv => lhs; whnf
 . first | exact zAB | (conv => lhs; whnf; arg 1; whnf)
 . rfl
 . rfl
 . repeat' (first | exact trivial | apply And.intro | rfl)
|apply zAr [zCa ((gD l i).f 5).s] rfl rfl
 . conv => lhs; whnf
 . first | exact zAB | (conv => lhs; whnf; arg 1; whnf)
 . rfl
 . rfl
 . repeat' (first | exact trivial | apply And.intro | rfl)
|apply zK
 . conv => lhs; whnf
 . assumption
|apply zM
 . conv => lhs; whnf
 . assumption
|refine zB ?_
|refine zC ?_
|refine zQ ?_
|apply aw_1
 conv => whnf
 refine ⟨?_,trivial⟩
|apply ze rfl rfl
 . conv => lhs; whnf
 . conv => lhs; whnf
 . first | exact bT1 ‹_› | exact bT2 ‹_›
|apply zm rfl rfl
 . conv => lhs; whnf
 . conv => lhs; whnf
 . first | exact bF1 ‹_› | exact bF2 ‹_›
|apply s_1
 conv => whnf; arg 1; arg 4; arg 3; whnf
 refine ⟨?_,?_⟩
|apply zl rfl
 . conv => lhs; whnf
 . conv => lhs; whnf
 . first | exact htx
|apply zz rfl rfl rfl
 . conv => lhs; whnf
 . conv => lhs; whnf; arg 1; whnf
 . conv => lhs; whnf; arg 1; whnf
 . exact ⟨by kernel_rfl,by kernel_rfl⟩
 . rfl
|apply zJ rfl
 . conv => lhs; whnf
 . conv => lhs; whnf
 . first | rfl | assumption
 . conv => lhs; whnf; arg 2; whnf
|apply zAA rfl
 . conv => lhs; whnf
 . conv => lhs; whnf
 . first | rfl | assumption
|exact trivial)
  all_goals first
   | exact zo (by omega)
   | exact at31 hi
   | skip
  refine zu (Sub.ownF (m:=8) (q:=901) (i:=6) (e:=76) rfl (by decide) rfl rfl rfl) ?_
  refine zv (fun m st => ∃ i2 g k,g ++ grpI f l (gD l i) k i2 = G /\ m + i2 = l.length /\ l.length <= i2 + k /\ i + g.length = i2 /\ Sub (cx E0 Tryz.prog s w he) st (HRi31 on l acc (gD l i) bb g i i2)) (l.length - i) ⟨i,[],l.length,hG,by omega,by omega,rfl,Sub.live ⟨rfl,rfl,rfl,rfl,rfl,rfl,trivial⟩ ⟨rfl,rfl,rfl,trivial⟩⟩ ?_
  clear hG
  rintro m st2 ⟨i2,g,k,hG,hm,hk,hgl,hs3⟩
  refine zu hs3 ?_
  clear hs3 htx hd
  have hway : (¬ i2 < l.length) \/ (i2 < l.length /\ (((gD l i2).f 1).s.toList == ((gD l i).f 1).s.toList) = false) \/ (i2 < l.length /\ (((gD l i2).f 1).s.toList == ((gD l i).f 1).s.toList) = true /\ (((gD l i2).f 5).s.toList == ((gD l i).f 5).s.toList) = false) \/ (i2 < l.length /\ (((gD l i2).f 1).s.toList == ((gD l i).f 1).s.toList) = true /\ (((gD l i2).f 5).s.toList == ((gD l i).f 5).s.toList) = true):=by
   by_cases hi2 : i2 < l.length
   . cases q1 : (((gD l i2).f 1).s.toList == ((gD l i).f 1).s.toList) <;> cases q2 : (((gD l i2).f 5).s.toList == ((gD l i).f 5).s.toList)
     . exact .inr (.inl ⟨hi2,rfl⟩)
     . exact .inr (.inl ⟨hi2,rfl⟩)
     . exact .inr (.inr (.inl ⟨hi2,rfl,rfl⟩))
     . exact .inr (.inr (.inr ⟨hi2,rfl,rfl⟩))
   . exact .inl hi2
  rcases hway with hi2 | ⟨hi2,q1⟩ | ⟨hi2,q1,q2⟩ | ⟨hi2,q1,q2⟩
  rotate_left 3
  . have e0 : decide ((i2 : Int) < (l.length : Nat)) = true:=decide_eq_true (by omega)
    have e1:=zCN e0
    have e2:=zCN q1
    have e3:=zCN q2
    obtain ⟨k,rfl⟩ : ∃ q,k = q + 1:=⟨k - 1,by omega⟩
    rw [zDg ⟨hi2,by unfold zBC; rw [q1,q2]; rfl⟩] at hG
    have hf2:=hf i2 hi2
    repeat' (first
|apply zAc ((.agg (cellsV Tryz.prog 12 76 (f (gD l i2))))) rfl rfl
 . conv => lhs; whnf; arg 2; whnf
 . repeat' (first | exact VLe.refl _ | exact VLe.nil _ | exact VLe.lit _ _ | exact VLe.own _ _ _ | apply VLe.agg | apply VLeL.cons | exact VLeL.nil)
|apply zAr [f (gD l i2)] rfl rfl
 . conv => lhs; whnf
 . first | exact zAB | (conv => lhs; whnf; arg 1; whnf)
 . rfl
 . rfl
 . repeat' (first | exact trivial | apply And.intro | rfl)
|apply zK
 . conv => lhs; whnf
 . assumption
|refine zB ?_
|refine zC ?_
|refine zQ ?_
|refine zU ?_
|apply aw_1
 conv => whnf
 refine ⟨?_,trivial⟩
|apply s_1
 conv => whnf; arg 1; arg 4; arg 3; whnf
 refine ⟨?_,?_⟩
|apply zl rfl
 . conv => lhs; whnf
 . conv => lhs; whnf
 . first | exact hf2
|apply zz rfl rfl rfl
 . conv => lhs; whnf
 . conv => lhs; whnf; arg 1; whnf
 . conv => lhs; whnf; arg 1; whnf
 . exact ⟨by kernel_rfl,by kernel_rfl⟩
 . rfl
|apply zCC rfl rfl
 . conv => lhs; whnf
 . first | exact zAB | (conv => lhs; whnf; arg 1; whnf)
 . first | exact fun _ => rfl | (intro _; kernel_rfl)
 . conv => lhs; whnf
 . conv => lhs; whnf; arg 1; whnf
 . conv => lhs; whnf
|apply zAJ (by kernel_rfl) (by kernel_rfl)
|apply zAx
|apply zDz rfl rfl
 . conv => lhs; whnf
 . conv => lhs; whnf
 . first | exact bT1 ‹_› | exact bT2 ‹_›
|apply zAw rfl
 . conv => lhs; whnf
 . conv => lhs; whnf; arg 2; whnf
|apply zBo rfl
 . conv => lhs; whnf
 . conv => lhs; whnf
 . first | rfl | assumption
 . conv => lhs; whnf; arg 2; whnf
|exact zd
|exact ([] : List Nat)
|exact (1000000 : Nat)
|exact trivial)
    all_goals first
     | exact zo (by omega)
     | exact at31 hi2
     | exact at31 hi
     | (refine ⟨by simp,?_,?_⟩ <;> simp only [List.length_cons,List.length_nil,maxLen] <;> omega)
     | skip
    refine zF (j':=m - 1) (by omega) ⟨i2 + 1,g ++ [f (gD l i2)],k,by rw [List.append_assoc]; exact hG,by omega,by omega,by rw [List.length_append]; simp only [List.length_cons,List.length_nil]; omega,Sub.live ⟨rfl,rfl,rfl,rfl,rfl,rfl,trivial⟩ ⟨rfl,rfl,?_,trivial⟩⟩
    rw [List.length_append]; rfl
  have e0 : decide ((i2 : Int) < (l.length : Nat)) = false:=decide_eq_false (by omega)
  have e1:=zDy e0
  have hno : ¬ (i2 < l.length /\ zBC (gD l i) (gD l i2) = true):=fun h => hi2 h.1
  rotate_left 1
  have e0 : decide ((i2 : Int) < (l.length : Nat)) = true:=decide_eq_true (by omega)
  have e1:=zCN e0
  have e2:=zDy q1
  have hno : ¬ (i2 < l.length /\ zBC (gD l i) (gD l i2) = true):=fun h => by have:=h.2; unfold zBC at this; rw [q1] at this; cases this
  rotate_left 1
  have e0 : decide ((i2 : Int) < (l.length : Nat)) = true:=decide_eq_true (by omega)
  have e1:=zCN e0
  have e2:=zCN q1
  have e3:=zDy q2
  have hno : ¬ (i2 < l.length /\ zBC (gD l i) (gD l i2) = true):=fun h => by have:=h.2; unfold zBC at this; rw [q1,q2] at this; cases this
  rotate_left 1
  all_goals
   rw [zD8 hno,List.append_nil] at hG
   subst hG
   repeat' (first
|apply zAc ((.agg (cellsV Tryz.prog 12 76 (inlB bb (gD l i) g)))) rfl rfl
 . conv => lhs; whnf; arg 2; whnf
 . repeat' (first | exact VLe.refl _ | exact VLe.nil _ | exact VLe.lit _ _ | exact VLe.own _ _ _ | apply VLe.agg | apply VLeL.cons | exact VLeL.nil)
|apply zAr [inlB bb (gD l i) g] rfl rfl
 . conv => lhs; whnf
 . first | exact zAB | (conv => lhs; whnf; arg 1; whnf)
 . rfl
 . rfl
 . repeat' (first | exact trivial | apply And.intro | rfl)
|apply zM
 . conv => lhs; whnf
 . assumption
|refine zB ?_
|refine zC ?_
|refine zQ ?_
|refine zU ?_
|apply aw_1
 conv => whnf
 refine ⟨?_,trivial⟩
|apply s_1
 conv => whnf; arg 1; arg 4; arg 3; whnf
 refine ⟨?_,?_⟩
|apply zCC rfl rfl
 . conv => lhs; whnf
 . first | exact zAB | (conv => lhs; whnf; arg 1; whnf)
 . first | exact fun _ => rfl | (intro _; kernel_rfl)
 . conv => lhs; whnf
 . conv => lhs; whnf; arg 1; whnf
 . conv => lhs; whnf
|apply zAJ (by kernel_rfl) (by kernel_rfl)
|apply zAx
|apply zDz rfl rfl
 . conv => lhs; whnf
 . conv => lhs; whnf
 . first | exact bT1 ‹_› | exact bT2 ‹_›
|apply zHp rfl rfl
 . conv => lhs; whnf
 . conv => lhs; whnf
 . first | exact bF1 ‹_› | exact bF2 ‹_›
|apply zAw rfl
 . conv => lhs; whnf
 . conv => lhs; whnf; arg 2; whnf
|apply zBo rfl
 . conv => lhs; whnf
 . conv => lhs; whnf
 . first | rfl | assumption
 . conv => lhs; whnf; arg 2; whnf
|apply y_skip rfl
 . conv => lhs; whnf
 . conv => lhs; whnf
 . first | rfl | assumption
|exact zd
|exact zy
|exact ([] : List Nat)
|exact (1000000 : Nat)
|refine zI ?_
|refine zE rfl ?_
|refine zG ?_
|exact trivial)
   all_goals first
    | exact zo (by omega)
    | exact at31 hi2
    | exact at31 hi
    | (refine ⟨by simp,?_,?_⟩ <;> simp only [List.length_cons,List.length_nil,maxLen] <;> omega)
    | skip
   refine zF (j':=n - g.length) (by omega) ⟨i2,acc ++ [inlB bb (gD l i) g],j,by rw [<- hgl,List.append_assoc]; exact hR,by omega,by omega,by rw [List.length_append]; simp only [List.length_cons,List.length_nil]; omega,Sub.live ⟨rfl,rfl,rfl,rfl,trivial⟩ ⟨?_,trivial⟩⟩
   rw [List.length_append]; rfl
theorem pkS_nil : ∀ (k : Nat) (on : ByteArray),pkS k on [] = []
 | 0,_ => rfl
 | k + 1,on => zCT (Nat.lt_irrefl 0)
theorem zE7 (E0 : Ge) : ∀ (k : Nat) (l : List D) (on : ByteArray),CpP k l -> AC E0 Tryz.prog 92 [.c (.string on),.sl 73 l] (.sl 76 (pkS k on l))
 | 0,l,on,h => by
   have h : l = []:=h
   subst h
   exact zE6 E0 (fun d => d) on [] (by simp) fun i hi => absurd hi (Nat.not_lt_zero i)
 | k + 1,l,on,h => zE6 E0 (zBu (pkS k)) on l h.1 fun i hi => by
   have hc:=(h.2 i hi).2
   have hlen : ((gD l i).f 7).l.length <= 60:=by
    cases k with
    | zero => have : ((gD l i).f 7).l = []:=hc; rw [this]; simp
    | succ k => exact hc.1
   exact (fieldR_raw E0 (pkS k) (gD l i) (by omega) fun _ => zE7 E0 k _ _ hc).res (fdrV_le (pkS k) (gD l i) fun h => by rw [h]; exact pkS_nil _ _)
theorem zAz : zAL Tryz.prog 38 = some (57,72):=by kernel_rfl
theorem zAp : zAL Tryz.prog 54 = some (88,144):=by kernel_rfl
theorem rootP_ac (E0 : Ge) (k : Int) : AC E0 Tryz.prog 88 [.c (.int .i64 k)] (.c (.string (zCq k))):=by
 refine zO 10 Tryz.func88 rfl rfl rfl rfl ?_
 intro s w he
 repeat' (first
|refine zA9 ?_
|refine zB ?_
|refine zC ?_
|refine zQ ?_
|refine zU ?_
|refine zBP ?_
|refine zBX ?_
|apply zAj rfl
 . conv => lhs; whnf
 . conv => lhs; whnf; arg 2; whnf
|refine zV (by conv => lhs; whnf) ?_ ?_ <;> intro hb
|refine zAQ ?_
|refine zN ?_
|refine zL ?_
|refine zD ?_
|refine ⟨_,by conv => lhs; whnf; arg 2; whnf,?_⟩; conv => rhs; whnf
|exact trivial)
 all_goals
  unfold zCq
  simp only [beq_iff_eq,beq_eq_false_iff_ne] at *
  simp [*]
theorem rootR_ac (E0 : Ge) (k : Int) : AC E0 Tryz.prog 93 [.c (.int .i64 k)] (.c (.string (zCq k))):=by
 refine zO 10 Tryz.func93 rfl rfl rfl rfl ?_
 intro s w he
 repeat' (first
|refine zA9 ?_
|refine zB ?_
|refine zC ?_
|refine zQ ?_
|refine zU ?_
|refine zBP ?_
|refine zBX ?_
|apply zAj rfl
 . conv => lhs; whnf
 . conv => lhs; whnf; arg 2; whnf
|refine zV (by conv => lhs; whnf) ?_ ?_ <;> intro hb
|refine zAQ ?_
|refine zN ?_
|refine zL ?_
|refine zD ?_
|refine ⟨_,by conv => lhs; whnf; arg 2; whnf,?_⟩; conv => rhs; whnf
|exact trivial)
 all_goals
  unfold zCq
  simp only [beq_iff_eq,beq_eq_false_iff_ne] at *
  simp [*]
theorem yesP_ac (E0 : Ge) : AC E0 Tryz.prog 89 [.c (.bool true)] (.agg (cellsV Tryz.prog 12 84 (vD31 1 1 ⟨#[]⟩))):=by
 refine AC.res ?_ (zIG 1 1 ⟨#[]⟩)
 refine zO 8 Tryz.func89 rfl rfl rfl rfl ?_
 intro w0 w he
 repeat' (first
|refine zA9 ?_
|refine zB ?_
|refine zC ?_
|refine zQ ?_
|apply zAj rfl
 . conv => lhs; whnf
 . conv => lhs; whnf; arg 2; whnf
|apply zAZ rfl rfl rfl rfl
 . conv => lhs; whnf; arg 1; whnf
 . rfl
|apply zz rfl rfl rfl
 . conv => lhs; whnf
 . conv => lhs; whnf; arg 1; whnf
 . conv => lhs; whnf; arg 1; whnf
 . exact ⟨by kernel_rfl,by kernel_rfl⟩
 . rfl
|apply zw
 . conv => lhs; whnf; arg 1; arg 1; whnf
|refine zAQ ?_
|refine zD ?_
|refine ⟨_,by conv => lhs; whnf; arg 2; whnf,?_⟩; conv => rhs; whnf
|exact trivial)
 rfl
def zBA (kind : Int) (vars sels : List D) : D:=.obj [.int kind,.str ⟨#[]⟩,.list vars,.list sels]
def ifA : D:=sArg ⟨#[105,102]⟩ (vD31 1 1 ⟨#[]⟩)
def skipX : D:=dD31 ⟨#[115,107,105,112]⟩ [ifA]
theorem pkS_ne {k : Nat} {on : ByteArray} {l : List D} (h : l ≠ []) : pkS (k + 1) on l ≠ []:=by
 obtain ⟨n,hn⟩ : ∃ n,l.length = n + 1:=⟨l.length - 1,by have : l.length ≠ 0:=fun e => h (List.length_eq_zero_iff.1 e); omega⟩
 unfold pkS
 rw [hn]
 cases hp : zBz on (gD l 0) with
 | true => rw [zBi (by omega) hp]; simp
 | false => rw [zCS (by omega) hp]; simp
noncomputable def HQ0 (kind : Int) (l : List D) : Vst 28:=stS 28 [(1,.bx 1 0),(2,.bx 2 0)] [(1,.box 79 [.c (.int .i64 kind),.sl 73 l]),(2,.box 41 [.c (.slice none 0 0),.c (.slice none 0 0)])]
theorem zIB (E0 : Ge) (k : Nat) (kind : Int) (l : List D) (h : CpP k l) : AC E0 Tryz.prog 41 [.agg [.c (.int .i64 kind),.sl 73 l]] (.agg [.sl 57 [zBA kind [] (opSels k kind l)],.sl 116 []]):=by
 have h1:=rootP_ac E0 kind
 have h2:=zE9 E0 k l (zCq kind) h
 have h3:=yesP_ac E0
 have hres : VLe (.agg [.sl 57 [zBA kind [] (opSels k kind l)],.c (.slice none 0 0)]) (.agg [.sl 57 [zBA kind [] (opSels k kind l)],.sl 116 []]):=.agg (.cons (.refl _) (.cons (.nil _) .nil))
 refine AC.res ?_ hres
 by_cases hl : l = []
 . subst hl
   have e : opSels k kind [] = [zDa]:=rfl
   rw [e]
   refine zO 28 Tryz.func41 rfl rfl rfl rfl ?_
   intro s w he
   repeat' (first
|apply zF8 ([(1,[1]),(3,[1]),(5,[1])]) ([(9,[3]),(10,[3])]) ([(9,3)]) rfl (by kernel_rfl) (by kernel_rfl) (by kernel_rfl) (by intro p hp; simp only [List.mem_cons,List.not_mem_nil,or_false] at hp; rcases hp with rfl <;> (repeat' (first | exact fresh_S rfl | refine fresh_put ?_ rfl | refine fresh_res ?_ rfl rfl)))
|apply h_nil
|apply zHT rfl rfl rfl rfl
 . conv => lhs; whnf; arg 1; whnf
 . rfl
 . rfl
 . kernel_rfl
|apply h_val rfl
 . conv => lhs; whnf
 . conv => lhs; whnf; arg 2; whnf
 . kernel_rfl
|apply zHS rfl rfl rfl
 . conv => lhs; whnf
 . rfl
 . conv => lhs; whnf; arg 1; whnf
 . conv => lhs; whnf; arg 1; whnf
 . exact ⟨by kernel_rfl,by kernel_rfl⟩
 . rfl
 . kernel_rfl
|apply h_call rfl
 . conv => lhs; whnf
 . conv => lhs; whnf
 . first | exact h1 | exact h2 | exact h3
 . kernel_rfl
|show inO _ _ = true; rfl
|apply zAc ((.agg (cellsV Tryz.prog 12 86 ifA))) rfl rfl
 . conv => lhs; whnf; arg 2; whnf
 . repeat' (first | exact VLe.refl _ | exact VLe.nil _ | exact VLe.lit _ _ | exact VLe.own _ _ _ | apply VLe.agg | apply VLeL.cons | exact VLeL.nil)
|apply zAc ((.agg (cellsV Tryz.prog 12 150 skipX))) rfl rfl
 . conv => lhs; whnf; arg 2; whnf
 . repeat' (first | exact VLe.refl _ | exact VLe.nil _ | exact VLe.lit _ _ | exact VLe.own _ _ _ | apply VLe.agg | apply VLeL.cons | exact VLeL.nil)
|apply zAc ((.agg (cellsV Tryz.prog 12 76 zDa))) rfl rfl
 . conv => lhs; whnf; arg 2; whnf
 . repeat' (first | exact VLe.refl _ | exact VLe.nil _ | exact VLe.lit _ _ | exact VLe.own _ _ _ | apply VLe.agg | apply VLeL.cons | exact VLeL.nil)
|apply zAc ((.agg (cellsV Tryz.prog 12 57 (zBA kind [] [zDa])))) rfl rfl
 . conv => lhs; whnf; arg 2; whnf
 . repeat' (first | exact VLe.refl _ | exact VLe.nil _ | exact VLe.lit _ _ | exact VLe.own _ _ _ | apply VLe.agg | apply VLeL.cons | exact VLeL.nil)
|apply zAr [ifA] rfl rfl
 . conv => lhs; whnf
 . first | (conv => lhs; whnf; arg 1; whnf)
 . rfl
 . rfl
 . repeat' (first | exact trivial | apply And.intro | rfl)
|apply zAr [skipX] rfl rfl
 . conv => lhs; whnf
 . first | (conv => lhs; whnf; arg 1; whnf)
 . rfl
 . rfl
 . repeat' (first | exact trivial | apply And.intro | rfl)
|apply zAr [zDa] rfl rfl
 . conv => lhs; whnf
 . first | (conv => lhs; whnf; arg 1; whnf)
 . rfl
 . rfl
 . repeat' (first | exact trivial | apply And.intro | rfl)
|apply zAr [zBA kind [] [zDa]] rfl rfl
 . conv => lhs; whnf
 . first | (conv => lhs; whnf; arg 1; whnf)
 . rfl
 . rfl
 . repeat' (first | exact trivial | apply And.intro | rfl)
|apply zAv 1 (HQ0 kind []) rfl
|refine zBB ?_
|refine zA9 ?_
|refine zB ?_
|refine zC ?_
|refine zQ ?_
|apply zAj rfl
 . conv => lhs; whnf
 . conv => lhs; whnf; arg 2; whnf
|apply zl rfl
 . conv => lhs; whnf
 . conv => lhs; whnf
 . first | exact h1 | exact h2 | exact h3
|apply zAN rfl rfl rfl rfl
 . conv => lhs; whnf; arg 1; whnf
 . rfl
|apply zAZ rfl rfl rfl rfl
 . conv => lhs; whnf; arg 1; whnf
 . rfl
|apply zz rfl rfl rfl
 . conv => lhs; whnf
 . conv => lhs; whnf; arg 1; whnf
 . conv => lhs; whnf; arg 1; whnf
 . exact ⟨by kernel_rfl,by kernel_rfl⟩
 . rfl
|apply zw
 . conv => lhs; whnf; arg 1; arg 1; whnf
|refine zAQ ?_
|refine zD ?_
|refine ⟨_,by conv => lhs; whnf; arg 2; whnf,?_⟩; conv => rhs; whnf
|exact trivial)
   . exact Sub.live ⟨rfl,rfl,trivial⟩ ⟨rfl,rfl,trivial⟩
   all_goals rfl
 . have e : opSels k kind l = pkS k (zCq kind) l:=by unfold opSels; rw [if_neg hl]
   rw [e]
   have hz : (((l.length : Nat) : Int) == 0) = false:=by
    rw [beq_eq_false_iff_ne]
    intro q
    exact hl (List.length_eq_zero_iff.1 (by omega))
   refine zO 28 Tryz.func41 rfl rfl rfl rfl ?_
   intro s w he
   repeat' (first
|apply zF8 ([(1,[1]),(3,[1]),(5,[1])]) ([(9,[3]),(10,[3])]) ([(9,3)]) rfl (by kernel_rfl) (by kernel_rfl) (by kernel_rfl) (by intro p hp; simp only [List.mem_cons,List.not_mem_nil,or_false] at hp; rcases hp with rfl <;> (repeat' (first | exact fresh_S rfl | refine fresh_put ?_ rfl | refine fresh_res ?_ rfl rfl)))
|apply h_nil
|apply zHT rfl rfl rfl rfl
 . conv => lhs; whnf; arg 1; whnf
 . rfl
 . rfl
 . kernel_rfl
|apply h_val rfl
 . conv => lhs; whnf
 . conv => lhs; whnf; arg 2; whnf
 . kernel_rfl
|apply zHS rfl rfl rfl
 . conv => lhs; whnf
 . rfl
 . conv => lhs; whnf; arg 1; whnf
 . conv => lhs; whnf; arg 1; whnf
 . exact ⟨by kernel_rfl,by kernel_rfl⟩
 . rfl
 . kernel_rfl
|apply h_call rfl
 . conv => lhs; whnf
 . conv => lhs; whnf
 . first | exact h1 | exact h2
 . kernel_rfl
|show inO _ _ = true; rfl
|apply zAc ((.agg (cellsV Tryz.prog 12 57 (zBA kind [] (pkS k (zCq kind) l))))) rfl rfl
 . conv => lhs; whnf; arg 2; whnf
 . repeat' (first | exact VLe.refl _ | exact VLe.nil _ | exact VLe.lit _ _ | exact VLe.own _ _ _ | apply VLe.agg | apply VLeL.cons | exact VLeL.nil)
|apply zAr [zBA kind [] (pkS k (zCq kind) l)] rfl rfl
 . conv => lhs; whnf
 . first | (conv => lhs; whnf; arg 1; whnf)
 . rfl
 . rfl
 . repeat' (first | exact trivial | apply And.intro | rfl)
|apply zM
 . conv => lhs; whnf
 . assumption
|apply zAv 1 (HQ0 kind l) rfl
|refine zBB ?_
|refine zA9 ?_
|refine zB ?_
|refine zC ?_
|refine zQ ?_
|refine zBX ?_
|apply zAj rfl
 . conv => lhs; whnf
 . conv => lhs; whnf; arg 2; whnf
|apply zAN rfl rfl rfl rfl
 . conv => lhs; whnf; arg 1; whnf
 . rfl
|apply zAZ rfl rfl rfl rfl
 . conv => lhs; whnf; arg 1; whnf
 . rfl
|apply zz rfl rfl rfl
 . conv => lhs; whnf
 . conv => lhs; whnf; arg 1; whnf
 . conv => lhs; whnf; arg 1; whnf
 . exact ⟨by kernel_rfl,by kernel_rfl⟩
 . rfl
|refine zAQ ?_
|refine zD ?_
|refine ⟨_,by conv => lhs; whnf; arg 2; whnf,?_⟩; conv => rhs; whnf
|exact trivial)
   . exact Sub.live ⟨rfl,rfl,trivial⟩ ⟨rfl,rfl,trivial⟩
   all_goals rfl
theorem zIA (E0 : Ge) (k : Nat) (kind : Int) (l : List D) (h : CpP (k + 1) l) : AC E0 Tryz.prog 45 [.agg [.c (.int .i64 kind),.sl 73 l]] (.agg [.sl 57 [zBA kind [] (opSels (k + 1) kind l)],.sl 116 []]):=by
 have h1:=rootR_ac E0 kind
 have h2:=zE7 E0 (k + 1) l (zCq kind) h
 have hres : VLe (.agg [.sl 57 [zBA kind [] (opSels (k + 1) kind l)],.c (.slice none 0 0)]) (.agg [.sl 57 [zBA kind [] (opSels (k + 1) kind l)],.sl 116 []]):=.agg (.cons (.refl _) (.cons (.nil _) .nil))
 refine AC.res ?_ hres
 by_cases hl : l = []
 . subst hl
   have e : opSels (k + 1) kind [] = [zDa]:=rfl
   rw [pkS_nil] at h2
   rw [e]
   refine zO 28 Tryz.func45 rfl rfl rfl rfl ?_
   intro s w he
   repeat' (first
|apply zAc ((.agg (cellsV Tryz.prog 12 84 (vD31 1 1 ⟨#[]⟩)))) rfl rfl
 . conv => lhs; whnf; arg 2; whnf
 . repeat' (first | exact VLe.refl _ | exact VLe.nil _ | exact VLe.lit _ _ | exact VLe.own _ _ _ | apply VLe.agg | apply VLeL.cons | exact VLeL.nil)
|apply zAc ((.agg (cellsV Tryz.prog 12 86 ifA))) rfl rfl
 . conv => lhs; whnf; arg 2; whnf
 . repeat' (first | exact VLe.refl _ | exact VLe.nil _ | exact VLe.lit _ _ | exact VLe.own _ _ _ | apply VLe.agg | apply VLeL.cons | exact VLeL.nil)
|apply zAc ((.agg (cellsV Tryz.prog 12 150 skipX))) rfl rfl
 . conv => lhs; whnf; arg 2; whnf
 . repeat' (first | exact VLe.refl _ | exact VLe.nil _ | exact VLe.lit _ _ | exact VLe.own _ _ _ | apply VLe.agg | apply VLeL.cons | exact VLeL.nil)
|apply zAc ((.agg (cellsV Tryz.prog 12 76 zDa))) rfl rfl
 . conv => lhs; whnf; arg 2; whnf
 . repeat' (first | exact VLe.refl _ | exact VLe.nil _ | exact VLe.lit _ _ | exact VLe.own _ _ _ | apply VLe.agg | apply VLeL.cons | exact VLeL.nil)
|apply zAc ((.agg (cellsV Tryz.prog 12 57 (zBA kind [] [zDa])))) rfl rfl
 . conv => lhs; whnf; arg 2; whnf
 . repeat' (first | exact VLe.refl _ | exact VLe.nil _ | exact VLe.lit _ _ | exact VLe.own _ _ _ | apply VLe.agg | apply VLeL.cons | exact VLeL.nil)
|apply zAr [ifA] rfl rfl
 . conv => lhs; whnf
 . first | (conv => lhs; whnf; arg 1; whnf)
 . rfl
 . rfl
 . repeat' (first | exact trivial | apply And.intro | rfl)
|apply zAr [skipX] rfl rfl
 . conv => lhs; whnf
 . first | (conv => lhs; whnf; arg 1; whnf)
 . rfl
 . rfl
 . repeat' (first | exact trivial | apply And.intro | rfl)
|apply zAr [zDa] rfl rfl
 . conv => lhs; whnf
 . first | (conv => lhs; whnf; arg 1; whnf)
 . rfl
 . rfl
 . repeat' (first | exact trivial | apply And.intro | rfl)
|apply zAr [zBA kind [] [zDa]] rfl rfl
 . conv => lhs; whnf
 . first | (conv => lhs; whnf; arg 1; whnf)
 . rfl
 . rfl
 . repeat' (first | exact trivial | apply And.intro | rfl)
|refine zA9 ?_
|refine zB ?_
|refine zC ?_
|refine zQ ?_
|apply zAj rfl
 . conv => lhs; whnf
 . conv => lhs; whnf; arg 2; whnf
|apply zAN rfl rfl rfl rfl
 . conv => lhs; whnf; arg 1; whnf
 . rfl
|apply zAZ rfl rfl rfl rfl
 . conv => lhs; whnf; arg 1; whnf
 . rfl
|apply zz rfl rfl rfl
 . conv => lhs; whnf
 . conv => lhs; whnf; arg 1; whnf
 . conv => lhs; whnf; arg 1; whnf
 . exact ⟨by kernel_rfl,by kernel_rfl⟩
 . rfl
|apply zAJ (by kernel_rfl) (by kernel_rfl)
|apply zAx
|apply zAw rfl
 . conv => lhs; whnf
 . conv => lhs; whnf; arg 2; whnf
|apply zAq rfl
 . conv => lhs; whnf
 . conv => lhs; whnf
 . first | exact h1 | exact h2
|exact zd
|exact zy
|exact (1000000 : Nat)
|apply zw
 . conv => lhs; whnf; arg 1; arg 1; whnf
|refine zAQ ?_
|refine zD ?_
|refine ⟨_,by conv => lhs; whnf; arg 2; whnf,?_⟩; conv => rhs; whnf
|exact trivial)
   all_goals rfl
 . have e : opSels (k + 1) kind l = pkS (k + 1) (zCq kind) l:=by unfold opSels; rw [if_neg hl]
   rw [e]
   have hz : (((pkS (k + 1) (zCq kind) l).length : Int) == 0) = false:=by
    rw [beq_eq_false_iff_ne]
    intro q
    exact pkS_ne (k:=k) (on:=zCq kind) hl (List.length_eq_zero_iff.1 (by omega))
   refine zO 28 Tryz.func45 rfl rfl rfl rfl ?_
   intro s w he
   repeat' (first
|apply zAc ((.agg (cellsV Tryz.prog 12 57 (zBA kind [] (pkS (k + 1) (zCq kind) l))))) rfl rfl
 . conv => lhs; whnf; arg 2; whnf
 . repeat' (first | exact VLe.refl _ | exact VLe.nil _ | exact VLe.lit _ _ | exact VLe.own _ _ _ | apply VLe.agg | apply VLeL.cons | exact VLeL.nil)
|apply zAr [zBA kind [] (pkS (k + 1) (zCq kind) l)] rfl rfl
 . conv => lhs; whnf
 . first | (conv => lhs; whnf; arg 1; whnf)
 . rfl
 . rfl
 . repeat' (first | exact trivial | apply And.intro | rfl)
|apply zM
 . conv => lhs; whnf
 . assumption
|refine zA9 ?_
|refine zB ?_
|refine zC ?_
|refine zQ ?_
|refine zBX ?_
|apply zAj rfl
 . conv => lhs; whnf
 . conv => lhs; whnf; arg 2; whnf
|apply zAN rfl rfl rfl rfl
 . conv => lhs; whnf; arg 1; whnf
 . rfl
|apply zAZ rfl rfl rfl rfl
 . conv => lhs; whnf; arg 1; whnf
 . rfl
|apply zz rfl rfl rfl
 . conv => lhs; whnf
 . conv => lhs; whnf; arg 1; whnf
 . conv => lhs; whnf; arg 1; whnf
 . exact ⟨by kernel_rfl,by kernel_rfl⟩
 . rfl
|apply zAJ (by kernel_rfl) (by kernel_rfl)
|apply zAx
|apply zAw rfl
 . conv => lhs; whnf
 . conv => lhs; whnf; arg 2; whnf
|apply zAq rfl
 . conv => lhs; whnf
 . conv => lhs; whnf
 . first | exact h1 | exact h2
|exact zd
|exact zy
|exact (1000000 : Nat)
|refine zAQ ?_
|refine zD ?_
|refine ⟨_,by conv => lhs; whnf; arg 2; whnf,?_⟩; conv => rhs; whnf
|exact trivial)
   all_goals rfl
theorem namedP_ac (E0 : Ge) (s : ByteArray) : AC E0 Tryz.prog 44 [.c (.string s)] (.agg [.c (.string s),.sl 3 []]):=by
 refine AC.res (r:=.agg [.c (.string s),.c (.slice none 0 0)]) ?_ (.agg (.cons (.refl _) (.cons (.nil _) .nil)))
 refine zO 5 Tryz.func44 rfl rfl rfl rfl ?_
 intro w0 w he
 repeat' (first
|refine zB ?_
|refine zC ?_
|refine zQ ?_
|refine zU ?_
|refine zAT ?_
|apply aw_1
 conv => whnf
 refine ⟨?_,trivial⟩
|apply s_1
 conv => whnf; arg 1; arg 4; arg 3; whnf
 refine ⟨?_,?_⟩
|apply zAj rfl
 . conv => lhs; whnf
 . conv => lhs; whnf; arg 2; whnf
|apply zAZ rfl rfl rfl rfl
 . conv => lhs; whnf; arg 1; whnf
 . rfl
|apply zz rfl rfl rfl
 . conv => lhs; whnf
 . conv => lhs; whnf; arg 1; whnf
 . conv => lhs; whnf; arg 1; whnf
 . exact ⟨by kernel_rfl,by kernel_rfl⟩
 . rfl
|apply zw
 . conv => lhs; whnf; arg 1; arg 1; whnf
|apply z8
 . conv => lhs; whnf; arg 1; arg 1; whnf
|refine zV (by conv => lhs; whnf) ?_ ?_ <;> intro hb
|refine zAQ ?_
|refine zAO ?_
|refine zI ?_
|refine zN ?_
|refine zL ?_
|refine zE rfl ?_
|refine zb rfl ?_
|refine zf ?_
|refine zn ?_
|refine zG ?_
|refine za ?_
|refine zA7 ?_
|refine zD ?_
|refine ⟨_,by conv => lhs; whnf; arg 2; whnf,?_⟩; conv => rhs; whnf
|exact trivial
|intro hg)
 rfl
def anyS : ByteArray:=⟨#[95,65,110,121]⟩
theorem isNon0_ac (E0 : Ge) : AC E0 Tryz.prog 90 [.agg [.c (.string anyS),.sl 3 []]] (.c (.bool false)) /\ AC E0 Tryz.prog 90 [.agg [.c (.string anyS),.sl 3 [.int 2,.int 1]]] (.c (.bool false)):=by
 refine ⟨?_,?_⟩
 all_goals
  refine zO 14 Tryz.func90 rfl rfl rfl rfl ?_
  intro w0 w he
  repeat' (first
|apply s_wanted_pick_t rfl rfl rfl
 . conv => lhs; whnf
 . first | rfl | assumption | decide +kernel
 . conv => lhs; whnf
 . first | decide +kernel | rfl
|apply zAi rfl rfl rfl
 . conv => lhs; whnf
 . first | rfl | assumption | decide +kernel
 . conv => lhs; whnf
 . first | decide +kernel | rfl
|apply s_wanted_pick_f rfl rfl rfl
 . conv => lhs; whnf
 . first | rfl | assumption | decide +kernel
 . conv => lhs; whnf
 . first | decide +kernel | rfl
|apply zAg rfl rfl rfl
 . conv => lhs; whnf
 . first | rfl | assumption | decide +kernel
 . conv => lhs; whnf
 . first | decide +kernel | rfl
|apply aw_rounds 7
|refine k_rnd ?_
|refine k_rnd_exit ?_
|refine k_rnd_ret ?_
|apply zK
 . conv => lhs; whnf
 . decide +kernel
|apply zM
 . conv => lhs; whnf
 . decide +kernel
|refine zB ?_
|refine zC ?_
|refine zQ ?_
|refine zU ?_
|refine zAT ?_
|apply aw_1
 conv => whnf
 refine ⟨?_,trivial⟩
|apply ze rfl rfl
 . conv => lhs; whnf
 . conv => lhs; whnf
 . first | decide +kernel
|apply zm rfl rfl
 . conv => lhs; whnf
 . conv => lhs; whnf
 . first | decide +kernel
|apply s_1
 conv => whnf; arg 1; arg 4; arg 3; whnf
 refine ⟨?_,?_⟩
|apply zAj rfl
 . conv => lhs; whnf
 . conv => lhs; whnf; arg 2; whnf
|apply zAN rfl rfl rfl rfl
 . conv => lhs; whnf; arg 1; whnf
 . rfl
|apply zJ rfl
 . conv => lhs; whnf
 . conv => lhs; whnf
 . first | rfl | assumption | decide +kernel
 . conv => lhs; whnf; arg 2; whnf
|apply zX rfl
 . conv => lhs; whnf
 . conv => lhs; whnf
 . first | rfl | assumption | decide +kernel
 . conv => lhs; whnf
 . first | fail
|apply zAA rfl
 . conv => lhs; whnf
 . conv => lhs; whnf
 . first | rfl | assumption | decide +kernel
|apply zCU rfl
 . conv => lhs; whnf
 . rfl
 . rfl
|apply zW rfl
 . conv => lhs; whnf
 . conv => lhs; whnf
 . conv => lhs; whnf; arg 2; whnf
|apply zAa rfl
 . conv => lhs; whnf
 . conv => lhs; whnf
 . conv => lhs; whnf
 . first | fail
|apply zAF rfl
 . conv => lhs; whnf
 . conv => lhs; whnf
 . conv => lhs; whnf; arg 2; whnf
|apply zAV rfl
 . conv => lhs; whnf
 . conv => lhs; whnf
 . conv => lhs; whnf
 . first | fail
|apply zw
 . conv => lhs; whnf; arg 1; arg 1; whnf
|apply z8
 . conv => lhs; whnf; arg 1; arg 1; whnf
|refine zV (by conv => lhs; whnf) ?_ ?_ <;> intro hb
|refine zAQ ?_
|refine zAO ?_
|refine zI ?_
|refine zN ?_
|refine zL ?_
|refine zE rfl ?_
|refine zb rfl ?_
|refine zf ?_
|refine zn ?_
|refine zG ?_
|refine za ?_
|refine zA7 ?_
|refine zD ?_
|refine ⟨_,by conv => lhs; whnf; arg 2; whnf,?_⟩; conv => rhs; whnf
|exact trivial
|intro hg)
  all_goals first
   | kernel_rfl
   | (constructor <;> decide)
theorem zHG (E0 : Ge) : AC E0 Tryz.prog 42 [.agg [.c (.string anyS),.sl 3 []]] (.agg [.c (.string anyS),.sl 3 [.int 1]]) /\ AC E0 Tryz.prog 42 [.agg [.c (.string anyS),.sl 3 [.int 2,.int 1]]] (.agg [.c (.string anyS),.sl 3 [.int 1,.int 2,.int 1]]):=by
 have h:=isNon0_ac E0
 refine ⟨?_,?_⟩
 all_goals
  refine zO 18 Tryz.func42 rfl rfl rfl rfl ?_
  intro w0 w he
  repeat' (first
|apply zAr [.int 1] rfl rfl
 . conv => lhs; whnf
 . first | exact zAY | (conv => lhs; whnf; arg 1; whnf)
 . rfl
 . rfl
 . repeat' (first | exact trivial | apply And.intro | rfl)
|apply aw_rounds 7
|refine k_rnd ?_
|refine k_rnd_exit ?_
|refine k_rnd_ret ?_
|apply zK
 . conv => lhs; whnf
 . decide +kernel
|apply zM
 . conv => lhs; whnf
 . decide +kernel
|refine zB ?_
|refine zC ?_
|refine zQ ?_
|refine zU ?_
|refine zAT ?_
|apply aw_1
 conv => whnf
 refine ⟨?_,trivial⟩
|apply s_1
 conv => whnf; arg 1; arg 4; arg 3; whnf
 refine ⟨?_,?_⟩
|apply zAj rfl
 . conv => lhs; whnf
 . conv => lhs; whnf; arg 2; whnf
|apply zl rfl
 . conv => lhs; whnf
 . conv => lhs; whnf
 . first | exact h.1 | exact h.2
|apply zAN rfl rfl rfl rfl
 . conv => lhs; whnf; arg 1; whnf
 . rfl
|apply zAZ rfl rfl rfl rfl
 . conv => lhs; whnf; arg 1; whnf
 . rfl
|apply zz rfl rfl rfl
 . conv => lhs; whnf
 . conv => lhs; whnf; arg 1; whnf
 . conv => lhs; whnf; arg 1; whnf
 . exact ⟨by kernel_rfl,by kernel_rfl⟩
 . rfl
|apply zCC rfl rfl
 . conv => lhs; whnf
 . first | exact zAY | (conv => lhs; whnf; arg 1; whnf)
 . first | exact fun _ => rfl | (intro _; kernel_rfl)
 . conv => lhs; whnf
 . conv => lhs; whnf; arg 1; whnf
 . conv => lhs; whnf
|apply zCV rfl rfl rfl rfl
 . first | exact zAY | (conv => lhs; whnf; arg 1; whnf)
 . first | exact fun _ => rfl | (intro _; kernel_rfl)
 . conv => lhs; whnf
 . conv => lhs; whnf
|apply zDI rfl rfl
 . conv => lhs; whnf
 . first | exact zAY | (conv => lhs; whnf; arg 1; whnf)
|apply zBQ rfl rfl
 . conv => lhs; whnf
 . first | exact zAY | (conv => lhs; whnf; arg 1; whnf)
 . conv => lhs; whnf; arg 1; whnf
 . rfl
 . rfl
|apply zES rfl rfl
 . conv => lhs; whnf
 . first | exact zAY | (conv => lhs; whnf; arg 1; whnf)
 . first | exact fun _ => rfl | (intro _; kernel_rfl)
 . conv => lhs; whnf
 . conv => lhs; whnf
|apply zAJ (by kernel_rfl) (by kernel_rfl)
|apply zAx
|apply zAw rfl
 . conv => lhs; whnf
 . conv => lhs; whnf; arg 2; whnf
|apply zAq rfl
 . conv => lhs; whnf
 . conv => lhs; whnf
 . first | exact h.1 | exact h.2
|apply zDX rfl rfl rfl
 . conv => lhs; whnf
 . rfl
 . rfl
 . conv => lhs; whnf; arg 1; whnf
 . conv => lhs; whnf; arg 1; whnf
 . exact ⟨by kernel_rfl,by kernel_rfl⟩
 . rfl
|apply zED rfl rfl
 . conv => lhs; whnf
 . first | exact zAY | (conv => lhs; whnf; arg 1; whnf)
 . first | exact fun _ => rfl | (intro _; kernel_rfl)
 . conv => lhs; whnf
 . rfl
 . rfl
 . conv => lhs; whnf; arg 1; whnf
 . conv => lhs; whnf
|apply zEz rfl rfl
 . conv => lhs; whnf
 . first | exact zAY | (conv => lhs; whnf; arg 1; whnf)
|apply zCO rfl rfl
 . conv => lhs; whnf
 . first | exact zAY | (conv => lhs; whnf; arg 1; whnf)
 . conv => lhs; whnf; arg 1; whnf
 . rfl
 . rfl
|apply zDY rfl rfl
 . conv => lhs; whnf
 . first | exact zAY | (conv => lhs; whnf; arg 1; whnf)
 . first | exact fun _ => rfl | (intro _; kernel_rfl)
 . conv => lhs; whnf
 . conv => lhs; whnf
|exact zd
|exact zy
|exact all_nil
|show List.all _ _ = true; rfl
|show zBH _ _ = true; rfl
|exact ([] : List Nat)
|exact (1000000 : Nat)
|apply zw
 . conv => lhs; whnf; arg 1; arg 1; whnf
|apply z8
 . conv => lhs; whnf; arg 1; arg 1; whnf
|refine zV (by conv => lhs; whnf) ?_ ?_ <;> intro hb
|refine zAQ ?_
|refine zAO ?_
|refine zI ?_
|refine zN ?_
|refine zL ?_
|refine zE rfl ?_
|refine zb rfl ?_
|refine zf ?_
|refine zn ?_
|refine zG ?_
|refine za ?_
|refine zA7 ?_
|refine zD ?_
|refine ⟨_,by conv => lhs; whnf; arg 2; whnf,?_⟩; conv => rhs; whnf
|exact trivial
|intro hg)
  all_goals first
   | rfl
   | (constructor <;> decide)
theorem listOf0_ac (E0 : Ge) : AC E0 Tryz.prog 43 [.agg [.c (.string anyS),.sl 3 [.int 1]]] (.agg [.c (.string anyS),.sl 3 [.int 2,.int 1]]):=by
 refine zO 10 Tryz.func43 rfl rfl rfl rfl ?_
 intro w0 w he
 repeat' (first
|apply aw_rounds 7
|refine k_rnd ?_
|refine k_rnd_exit ?_
|refine k_rnd_ret ?_
|apply zK
 . conv => lhs; whnf
 . decide +kernel
|apply zM
 . conv => lhs; whnf
 . decide +kernel
|refine zB ?_
|refine zC ?_
|refine zQ ?_
|refine zU ?_
|refine zAT ?_
|apply aw_1
 conv => whnf
 refine ⟨?_,trivial⟩
|apply s_1
 conv => whnf; arg 1; arg 4; arg 3; whnf
 refine ⟨?_,?_⟩
|apply zAj rfl
 . conv => lhs; whnf
 . conv => lhs; whnf; arg 2; whnf
|apply zAN rfl rfl rfl rfl
 . conv => lhs; whnf; arg 1; whnf
 . rfl
|apply zAZ rfl rfl rfl rfl
 . conv => lhs; whnf; arg 1; whnf
 . rfl
|apply zz rfl rfl rfl
 . conv => lhs; whnf
 . conv => lhs; whnf; arg 1; whnf
 . conv => lhs; whnf; arg 1; whnf
 . exact ⟨by kernel_rfl,by kernel_rfl⟩
 . rfl
|apply zCC rfl rfl
 . conv => lhs; whnf
 . first | exact zAY | (conv => lhs; whnf; arg 1; whnf)
 . first | exact fun _ => rfl | (intro _; kernel_rfl)
 . conv => lhs; whnf
 . conv => lhs; whnf; arg 1; whnf
 . conv => lhs; whnf
|apply zCV rfl rfl rfl rfl
 . first | exact zAY | (conv => lhs; whnf; arg 1; whnf)
 . first | exact fun _ => rfl | (intro _; kernel_rfl)
 . conv => lhs; whnf
 . conv => lhs; whnf
|apply zDI rfl rfl
 . conv => lhs; whnf
 . first | exact zAY | (conv => lhs; whnf; arg 1; whnf)
|apply zBQ rfl rfl
 . conv => lhs; whnf
 . first | exact zAY | (conv => lhs; whnf; arg 1; whnf)
 . conv => lhs; whnf; arg 1; whnf
 . rfl
 . rfl
|apply zES rfl rfl
 . conv => lhs; whnf
 . first | exact zAY | (conv => lhs; whnf; arg 1; whnf)
 . first | exact fun _ => rfl | (intro _; kernel_rfl)
 . conv => lhs; whnf
 . conv => lhs; whnf
|apply zAJ (by kernel_rfl) (by kernel_rfl)
|apply zAx
|apply zAw rfl
 . conv => lhs; whnf
 . conv => lhs; whnf; arg 2; whnf
|apply zDX rfl rfl rfl
 . conv => lhs; whnf
 . rfl
 . rfl
 . conv => lhs; whnf; arg 1; whnf
 . conv => lhs; whnf; arg 1; whnf
 . exact ⟨by kernel_rfl,by kernel_rfl⟩
 . rfl
|apply zED rfl rfl
 . conv => lhs; whnf
 . first | exact zAY | (conv => lhs; whnf; arg 1; whnf)
 . first | exact fun _ => rfl | (intro _; kernel_rfl)
 . conv => lhs; whnf
 . rfl
 . rfl
 . conv => lhs; whnf; arg 1; whnf
 . conv => lhs; whnf
|apply zEz rfl rfl
 . conv => lhs; whnf
 . first | exact zAY | (conv => lhs; whnf; arg 1; whnf)
|apply zCO rfl rfl
 . conv => lhs; whnf
 . first | exact zAY | (conv => lhs; whnf; arg 1; whnf)
 . conv => lhs; whnf; arg 1; whnf
 . rfl
 . rfl
|apply zDY rfl rfl
 . conv => lhs; whnf
 . first | exact zAY | (conv => lhs; whnf; arg 1; whnf)
 . first | exact fun _ => rfl | (intro _; kernel_rfl)
 . conv => lhs; whnf
 . conv => lhs; whnf
|exact zd
|exact zy
|exact all_nil
|show List.all _ _ = true; rfl
|show zBH _ _ = true; rfl
|exact ([] : List Nat)
|exact (1000000 : Nat)
|apply zw
 . conv => lhs; whnf; arg 1; arg 1; whnf
|apply z8
 . conv => lhs; whnf; arg 1; arg 1; whnf
|refine zV (by conv => lhs; whnf) ?_ ?_ <;> intro hb
|refine zAQ ?_
|refine zAO ?_
|refine zI ?_
|refine zN ?_
|refine zL ?_
|refine zE rfl ?_
|refine zb rfl ?_
|refine zf ?_
|refine zn ?_
|refine zG ?_
|refine za ?_
|refine zA7 ?_
|refine zD ?_
|refine ⟨_,by conv => lhs; whnf; arg 2; whnf,?_⟩; conv => rhs; whnf
|exact trivial
|intro hg)
 all_goals first
  | rfl
  | (constructor <;> decide)
def repV : D:=vD31 7 0 ⟨#[114]⟩
def repA : D:=sArg ⟨#[114,101,112,114,101,115,101,110,116,97,116,105,111,110,115]⟩ repV
def fetchO (n : Nat) (f : D) (kind : Int) : List D:=
 if (f.f 2).l.length = 0 then [zBA kind [] (opSels n kind (f.f 6).l)] else [zBA 1 [zBY] [entS (opSels n 1 (f.f 6).l)]]
theorem zIH (l : List D) : ((((l.length : Nat) : Int)) == 0) = decide (l.length = 0):=by rw [Bool.eq_iff_iff]; simp
theorem zGj (E0 : Ge) (k : Nat) (s f : D) (kind : Int) (h : CpP k (f.f 6).l) : AC E0 Tryz.prog 17 [.agg (cellsV Tryz.prog 12 29 s),.agg (cellsV Tryz.prog 12 34 f),.c (.int .i64 kind)] (.agg [.sl 57 (fetchO k f kind),.sl 116 []]):=by
 have h1:=zIB E0 k kind (f.f 6).l h
 have h2:=zIB E0 k 1 (f.f 6).l h
 have h3:=namedP_ac E0 anyS
 have h4:=zHG E0
 have h5:=listOf0_ac E0
 by_cases hz : (f.f 2).l.length = 0
 . have f0 : ((((f.f 2).l.length : Nat) : Int) == 0) = true:=by rw [zIH]; exact decide_eq_true hz
   have e : fetchO k f kind = [zBA kind [] (opSels k kind (f.f 6).l)]:=if_pos hz
   rw [e]
   refine zO 50 Tryz.func17 rfl rfl rfl rfl ?_
   intro w0 w he
   repeat' (first
|apply zK
 . conv => lhs; whnf
 . assumption
|apply zM
 . conv => lhs; whnf
 . assumption
|refine zAM ?_
|refine zAE ?_
|refine zBB ?_
|refine zB ?_
|refine zC ?_
|refine zQ ?_
|refine zU ?_
|refine zAT ?_
|apply aw_1
 conv => whnf
 refine ⟨?_,trivial⟩
|apply s_1
 conv => whnf; arg 1; arg 4; arg 3; whnf
 refine ⟨?_,?_⟩
|apply zAj rfl
 . conv => lhs; whnf
 . conv => lhs; whnf; arg 2; whnf
|apply zl rfl
 . conv => lhs; whnf
 . conv => lhs; whnf
 . first | exact h1
|apply zAN rfl rfl rfl rfl
 . conv => lhs; whnf; arg 1; whnf
 . rfl
|apply zAZ rfl rfl rfl rfl
 . conv => lhs; whnf; arg 1; whnf
 . rfl
|apply zz rfl rfl rfl
 . conv => lhs; whnf
 . conv => lhs; whnf; arg 1; whnf
 . conv => lhs; whnf; arg 1; whnf
 . exact ⟨by kernel_rfl,by kernel_rfl⟩
 . rfl
|apply zDI rfl rfl
 . conv => lhs; whnf
 . first | (conv => lhs; whnf; arg 1; whnf)
|apply zBQ rfl rfl
 . conv => lhs; whnf
 . first | (conv => lhs; whnf; arg 1; whnf)
 . conv => lhs; whnf; arg 1; whnf
 . rfl
 . rfl
|apply zw
 . conv => lhs; whnf; arg 1; arg 1; whnf
|apply z8
 . conv => lhs; whnf; arg 1; arg 1; whnf
|refine zV (by conv => lhs; whnf) ?_ ?_ <;> intro hb
|refine zAQ ?_
|refine zAO ?_
|refine zI ?_
|refine zN ?_
|refine zL ?_
|refine zE rfl ?_
|refine zb rfl ?_
|refine zf ?_
|refine zn ?_
|refine zG ?_
|refine za ?_
|refine zA7 ?_
|refine zD ?_
|refine ⟨_,by conv => lhs; whnf; arg 2; whnf,?_⟩; conv => rhs; whnf
|exact trivial
|intro hg)
   rfl
 . have f0 : ((((f.f 2).l.length : Nat) : Int) == 0) = false:=by rw [zIH]; exact decide_eq_false hz
   have e : fetchO k f kind = [zBA 1 [zBY] [entS (opSels k 1 (f.f 6).l)]]:=if_neg hz
   rw [e]
   generalize opSels k 1 (f.f 6).l = S at h2 |-
   refine AC.res (r:=.agg [.sl 57 [zBA 1 [zBY] [entS S]],.c (.slice none 0 0)]) ?_ (.agg (.cons (.refl _) (.cons (.nil _) .nil)))
   refine zO 50 Tryz.func17 rfl rfl rfl rfl ?_
   intro w0 w he
   repeat' (first
|apply zAc ((.agg (cellsV Tryz.prog 12 84 repV))) rfl rfl
 . conv => lhs; whnf; arg 2; whnf
 . repeat' (first | exact VLe.refl _ | exact VLe.nil _ | exact VLe.lit _ _ | exact VLe.own _ _ _ | apply VLe.agg | apply VLeL.cons | exact VLeL.nil)
|apply zAc ((.agg (cellsV Tryz.prog 12 86 repA))) rfl rfl
 . conv => lhs; whnf; arg 2; whnf
 . repeat' (first | exact VLe.refl _ | exact VLe.nil _ | exact VLe.lit _ _ | exact VLe.own _ _ _ | apply VLe.agg | apply VLeL.cons | exact VLeL.nil)
|apply zAc ((.agg (cellsV Tryz.prog 12 76 (entS S)))) rfl rfl
 . conv => lhs; whnf; arg 2; whnf
 . repeat' (first | exact VLe.refl _ | exact VLe.nil _ | exact VLe.lit _ _ | exact VLe.own _ _ _ | apply VLe.agg | apply VLeL.cons | exact VLeL.nil)
|apply zAc ((.agg (cellsV Tryz.prog 12 88 zBY))) rfl rfl
 . conv => lhs; whnf; arg 2; whnf
 . repeat' (first | exact VLe.refl _ | exact VLe.nil _ | exact VLe.lit _ _ | exact VLe.own _ _ _ | apply VLe.agg | apply VLeL.cons | exact VLeL.nil)
|apply zAc ((.agg (cellsV Tryz.prog 12 57 (zBA 1 [zBY] [entS S])))) rfl rfl
 . conv => lhs; whnf; arg 2; whnf
 . repeat' (first | exact VLe.refl _ | exact VLe.nil _ | exact VLe.lit _ _ | exact VLe.own _ _ _ | apply VLe.agg | apply VLeL.cons | exact VLeL.nil)
|apply zAr [repA] rfl rfl
 . conv => lhs; whnf
 . first | exact zAI | exact zAp | exact zAB | exact zAz | (conv => lhs; whnf; arg 1; whnf)
 . rfl
 . rfl
 . repeat' (first | exact trivial | apply And.intro | rfl)
|apply zAr [zBY] rfl rfl
 . conv => lhs; whnf
 . first | exact zAI | exact zAp | exact zAB | exact zAz | (conv => lhs; whnf; arg 1; whnf)
 . rfl
 . rfl
 . repeat' (first | exact trivial | apply And.intro | rfl)
|apply zAr [entS S] rfl rfl
 . conv => lhs; whnf
 . first | exact zAI | exact zAp | exact zAB | exact zAz | (conv => lhs; whnf; arg 1; whnf)
 . rfl
 . rfl
 . repeat' (first | exact trivial | apply And.intro | rfl)
|apply zAr [zBA 1 [zBY] [entS S]] rfl rfl
 . conv => lhs; whnf
 . first | exact zAI | exact zAp | exact zAB | exact zAz | (conv => lhs; whnf; arg 1; whnf)
 . rfl
 . rfl
 . repeat' (first | exact trivial | apply And.intro | rfl)
|apply zK
 . conv => lhs; whnf
 . assumption
|apply zM
 . conv => lhs; whnf
 . assumption
|refine zAM ?_
|refine zAE ?_
|refine zBB ?_
|refine zB ?_
|refine zC ?_
|refine zQ ?_
|refine zU ?_
|refine zAT ?_
|apply aw_1
 conv => whnf
 refine ⟨?_,trivial⟩
|apply s_1
 conv => whnf; arg 1; arg 4; arg 3; whnf
 refine ⟨?_,?_⟩
|apply zAj rfl
 . conv => lhs; whnf
 . conv => lhs; whnf; arg 2; whnf
|apply zl rfl
 . conv => lhs; whnf
 . conv => lhs; whnf
 . first | exact h2 | exact h3 | exact h4.1 | exact h4.2 | exact h5
|apply zAN rfl rfl rfl rfl
 . conv => lhs; whnf; arg 1; whnf
 . rfl
|apply zAZ rfl rfl rfl rfl
 . conv => lhs; whnf; arg 1; whnf
 . rfl
|apply zz rfl rfl rfl
 . conv => lhs; whnf
 . conv => lhs; whnf; arg 1; whnf
 . conv => lhs; whnf; arg 1; whnf
 . exact ⟨by kernel_rfl,by kernel_rfl⟩
 . rfl
|apply zDI rfl rfl
 . conv => lhs; whnf
 . first | exact zAI | exact zAp | exact zAB | exact zAz | (conv => lhs; whnf; arg 1; whnf)
|apply zBQ rfl rfl
 . conv => lhs; whnf
 . first | exact zAI | exact zAp | exact zAB | exact zAz | (conv => lhs; whnf; arg 1; whnf)
 . conv => lhs; whnf; arg 1; whnf
 . rfl
 . rfl
|apply zw
 . conv => lhs; whnf; arg 1; arg 1; whnf
|apply z8
 . conv => lhs; whnf; arg 1; arg 1; whnf
|refine zV (by conv => lhs; whnf) ?_ ?_ <;> intro hb
|refine zAQ ?_
|refine zAO ?_
|refine zI ?_
|refine zN ?_
|refine zL ?_
|refine zE rfl ?_
|refine zb rfl ?_
|refine zf ?_
|refine zn ?_
|refine zG ?_
|refine za ?_
|refine zA7 ?_
|refine zD ?_
|refine ⟨_,by conv => lhs; whnf; arg 2; whnf,?_⟩; conv => rhs; whnf
|exact trivial
|intro hg)
   all_goals first
    | rfl
    | exact ⟨by decide,by simp⟩
theorem zGi (E0 : Ge) (k : Nat) (s f : D) (kind : Int) (h : CpP (k + 1) (f.f 6).l) : AC E0 Tryz.prog 18 [.agg (cellsV Tryz.prog 12 29 s),.agg (cellsV Tryz.prog 12 34 f),.c (.int .i64 kind)] (.agg [.sl 57 (fetchO (k + 1) f kind),.sl 116 []]):=by
 have h1:=zIA E0 k kind (f.f 6).l h
 have h2:=zIA E0 k 1 (f.f 6).l h
 by_cases hz : (f.f 2).l.length = 0
 . have f0 : ((((f.f 2).l.length : Nat) : Int) == 0) = true:=by rw [zIH]; exact decide_eq_true hz
   have e : fetchO (k + 1) f kind = [zBA kind [] (opSels (k + 1) kind (f.f 6).l)]:=if_pos hz
   rw [e]
   refine zO 47 Tryz.func18 rfl rfl rfl rfl ?_
   intro w0 w he
   repeat' (first
|apply zK
 . conv => lhs; whnf
 . assumption
|apply zM
 . conv => lhs; whnf
 . assumption
|refine zAM ?_
|refine zAE ?_
|refine zBB ?_
|refine zB ?_
|refine zC ?_
|refine zQ ?_
|refine zU ?_
|refine zAT ?_
|apply aw_1
 conv => whnf
 refine ⟨?_,trivial⟩
|apply s_1
 conv => whnf; arg 1; arg 4; arg 3; whnf
 refine ⟨?_,?_⟩
|apply zAj rfl
 . conv => lhs; whnf
 . conv => lhs; whnf; arg 2; whnf
|apply zl rfl
 . conv => lhs; whnf
 . conv => lhs; whnf
 . first | exact h1
|apply zAN rfl rfl rfl rfl
 . conv => lhs; whnf; arg 1; whnf
 . rfl
|apply zAZ rfl rfl rfl rfl
 . conv => lhs; whnf; arg 1; whnf
 . rfl
|apply zz rfl rfl rfl
 . conv => lhs; whnf
 . conv => lhs; whnf; arg 1; whnf
 . conv => lhs; whnf; arg 1; whnf
 . exact ⟨by kernel_rfl,by kernel_rfl⟩
 . rfl
|apply zDI rfl rfl
 . conv => lhs; whnf
 . first | (conv => lhs; whnf; arg 1; whnf)
|apply zBQ rfl rfl
 . conv => lhs; whnf
 . first | (conv => lhs; whnf; arg 1; whnf)
 . conv => lhs; whnf; arg 1; whnf
 . rfl
 . rfl
|apply zw
 . conv => lhs; whnf; arg 1; arg 1; whnf
|apply z8
 . conv => lhs; whnf; arg 1; arg 1; whnf
|refine zV (by conv => lhs; whnf) ?_ ?_ <;> intro hb
|refine zAQ ?_
|refine zAO ?_
|refine zI ?_
|refine zN ?_
|refine zL ?_
|refine zE rfl ?_
|refine zb rfl ?_
|refine zf ?_
|refine zn ?_
|refine zG ?_
|refine za ?_
|refine zA7 ?_
|refine zD ?_
|refine ⟨_,by conv => lhs; whnf; arg 2; whnf,?_⟩; conv => rhs; whnf
|exact trivial
|intro hg)
   rfl
 . have f0 : ((((f.f 2).l.length : Nat) : Int) == 0) = false:=by rw [zIH]; exact decide_eq_false hz
   have e : fetchO (k + 1) f kind = [zBA 1 [zBY] [entS (opSels (k + 1) 1 (f.f 6).l)]]:=if_neg hz
   rw [e]
   generalize opSels (k + 1) 1 (f.f 6).l = S at h2 |-
   refine AC.res (r:=.agg [.sl 57 [zBA 1 [zBY] [entS S]],.c (.slice none 0 0)]) ?_ (.agg (.cons (.refl _) (.cons (.nil _) .nil)))
   refine zO 47 Tryz.func18 rfl rfl rfl rfl ?_
   intro w0 w he
   repeat' (first
|apply zAc ((.agg (cellsV Tryz.prog 12 84 repV))) rfl rfl
 . conv => lhs; whnf; arg 2; whnf
 . repeat' (first | exact VLe.refl _ | exact VLe.nil _ | exact VLe.lit _ _ | exact VLe.own _ _ _ | apply VLe.agg | apply VLeL.cons | exact VLeL.nil)
|apply zAc ((.agg (cellsV Tryz.prog 12 86 repA))) rfl rfl
 . conv => lhs; whnf; arg 2; whnf
 . repeat' (first | exact VLe.refl _ | exact VLe.nil _ | exact VLe.lit _ _ | exact VLe.own _ _ _ | apply VLe.agg | apply VLeL.cons | exact VLeL.nil)
|apply zAc ((.agg (cellsV Tryz.prog 12 76 (entS S)))) rfl rfl
 . conv => lhs; whnf; arg 2; whnf
 . repeat' (first | exact VLe.refl _ | exact VLe.nil _ | exact VLe.lit _ _ | exact VLe.own _ _ _ | apply VLe.agg | apply VLeL.cons | exact VLeL.nil)
|apply zAc ((.agg (cellsV Tryz.prog 12 88 zBY))) rfl rfl
 . conv => lhs; whnf; arg 2; whnf
 . repeat' (first | exact VLe.refl _ | exact VLe.nil _ | exact VLe.lit _ _ | exact VLe.own _ _ _ | apply VLe.agg | apply VLeL.cons | exact VLeL.nil)
|apply zAc ((.agg (cellsV Tryz.prog 12 57 (zBA 1 [zBY] [entS S])))) rfl rfl
 . conv => lhs; whnf; arg 2; whnf
 . repeat' (first | exact VLe.refl _ | exact VLe.nil _ | exact VLe.lit _ _ | exact VLe.own _ _ _ | apply VLe.agg | apply VLeL.cons | exact VLeL.nil)
|apply zAr [.int 1,.int 2,.int 1] rfl rfl
 . conv => lhs; whnf
 . first | exact zAI | exact zAp | exact zAB | exact zAz | exact zAY | (conv => lhs; whnf; arg 1; whnf)
 . rfl
 . rfl
 . repeat' (first | exact trivial | apply And.intro | rfl)
|apply zAr [repA] rfl rfl
 . conv => lhs; whnf
 . first | exact zAI | exact zAp | exact zAB | exact zAz | exact zAY | (conv => lhs; whnf; arg 1; whnf)
 . rfl
 . rfl
 . repeat' (first | exact trivial | apply And.intro | rfl)
|apply zAr [zBY] rfl rfl
 . conv => lhs; whnf
 . first | exact zAI | exact zAp | exact zAB | exact zAz | exact zAY | (conv => lhs; whnf; arg 1; whnf)
 . rfl
 . rfl
 . repeat' (first | exact trivial | apply And.intro | rfl)
|apply zAr [entS S] rfl rfl
 . conv => lhs; whnf
 . first | exact zAI | exact zAp | exact zAB | exact zAz | exact zAY | (conv => lhs; whnf; arg 1; whnf)
 . rfl
 . rfl
 . repeat' (first | exact trivial | apply And.intro | rfl)
|apply zAr [zBA 1 [zBY] [entS S]] rfl rfl
 . conv => lhs; whnf
 . first | exact zAI | exact zAp | exact zAB | exact zAz | exact zAY | (conv => lhs; whnf; arg 1; whnf)
 . rfl
 . rfl
 . repeat' (first | exact trivial | apply And.intro | rfl)
|apply zK
 . conv => lhs; whnf
 . assumption
|apply zM
 . conv => lhs; whnf
 . assumption
|refine zAM ?_
|refine zAE ?_
|refine zBB ?_
|refine zB ?_
|refine zC ?_
|refine zQ ?_
|refine zU ?_
|refine zAT ?_
|apply aw_1
 conv => whnf
 refine ⟨?_,trivial⟩
|apply s_1
 conv => whnf; arg 1; arg 4; arg 3; whnf
 refine ⟨?_,?_⟩
|apply zAj rfl
 . conv => lhs; whnf
 . conv => lhs; whnf; arg 2; whnf
|apply zl rfl
 . conv => lhs; whnf
 . conv => lhs; whnf
 . first | exact h2
|apply zAN rfl rfl rfl rfl
 . conv => lhs; whnf; arg 1; whnf
 . rfl
|apply zAZ rfl rfl rfl rfl
 . conv => lhs; whnf; arg 1; whnf
 . rfl
|apply zz rfl rfl rfl
 . conv => lhs; whnf
 . conv => lhs; whnf; arg 1; whnf
 . conv => lhs; whnf; arg 1; whnf
 . exact ⟨by kernel_rfl,by kernel_rfl⟩
 . rfl
|apply zDI rfl rfl
 . conv => lhs; whnf
 . first | exact zAI | exact zAp | exact zAB | exact zAz | exact zAY | (conv => lhs; whnf; arg 1; whnf)
|apply zBQ rfl rfl
 . conv => lhs; whnf
 . first | exact zAI | exact zAp | exact zAB | exact zAz | exact zAY | (conv => lhs; whnf; arg 1; whnf)
 . conv => lhs; whnf; arg 1; whnf
 . rfl
 . rfl
|apply zw
 . conv => lhs; whnf; arg 1; arg 1; whnf
|apply z8
 . conv => lhs; whnf; arg 1; arg 1; whnf
|refine zV (by conv => lhs; whnf) ?_ ?_ <;> intro hb
|refine zAQ ?_
|refine zAO ?_
|refine zI ?_
|refine zN ?_
|refine zL ?_
|refine zE rfl ?_
|refine zb rfl ?_
|refine zf ?_
|refine zn ?_
|refine zG ?_
|refine za ?_
|refine zA7 ?_
|refine zD ?_
|refine ⟨_,by conv => lhs; whnf; arg 2; whnf,?_⟩; conv => rhs; whnf
|exact trivial
|intro hg)
   all_goals first
    | rfl
    | exact ⟨by decide,by simp⟩
end Go.Proofs.YthjiclhfhjdjpaaGreatDoor
namespace Go.Proofs.YthjiclhfhjdjpaaGreatDoor
open Go.RowKit
attribute [local irreducible] wpList Calls Code.wp AW AWo OpOk seqK zAf zAh loopK endK AC zAD Yld Sub
theorem tail_ac (k : Nat) (l : List D) (h : DirsOk k l) : AC EN Tryz.prog 116 [.sl 150 l] (.c (.string (bs (zCL k l)))):=by
 have hd:=dirsP_ac k l h
 have hds:=zCZ k l h.wide
 have hbk:=h.bulk
 refine zO 9 Tryz.func116 rfl rfl rfl rfl ?_
 intro s w he
 repeat' (first
|refine zB ?_
|refine zC ?_
|refine zQ ?_
|apply aw_1
 conv => whnf
 refine ⟨?_,trivial⟩
|apply s_1
 conv => whnf; arg 1; arg 4; arg 3; whnf
 refine ⟨?_,?_⟩
|apply zl rfl
 . conv => lhs; whnf
 . conv => lhs; whnf
 . first | exact hd
|refine zV (by conv => lhs; whnf) ?_ ?_ <;> intro hb
|refine zN ?_
|refine zD ?_
|refine ⟨_,by conv => lhs; whnf; arg 2; whnf,?_⟩; conv => rhs; whnf
|exact trivial)
 . have e : l.length = 0:=by have : ((l.length : Int)) = 0:=by simpa using hb
                             omega
   rw [zCL,if_pos e]; rfl
 . have e : ¬ l.length = 0:=by have : ¬ ((l.length : Int)) = 0:=by simpa using hb
                               omega
   rw [zCL,if_neg e,<- zR]; rfl
 . exact sz2 hds
noncomputable def HgP (k : Nat) (l : List D) (i : Nat) : Vst 30:=
 stS 30 [(3,.own 3 9 (zq (fun i => argT k (gD l i)) i)),(9,.sl 86 l),(10,.c (.int .i64 l.length)),(11,.c (.int .i64 i))] [(3,.tok 9 (zq (fun i => argT k (gD l i)) i).length)]
theorem argsP_ac (k : Nat) (l : List D) (h : ArgsOk k l) : AC EN Tryz.prog 117 [.sl 86 l] (.c (.string (bs (parT k l)))):=by
 have hlen:=h.len
 have hds:=zDW k l h.wide
 have hbk:=h.bulk
 have hj:=zB1 (zq (fun i => argT k (gD l i)) l.length) [44,32] (by rw [zAC]; omega) (by rw [zAd]; exact Nat.le_trans hds (by omega))
 rw [zAd] at hj
 refine zO 30 Tryz.func117 rfl rfl rfl rfl ?_
 intro s w he
 repeat' (first
|refine zB ?_
|refine zC ?_
|refine zQ ?_
|apply aw_1
 conv => whnf
 refine ⟨?_,trivial⟩
|apply s_1
 conv => whnf; arg 1; arg 4; arg 3; whnf
 refine ⟨?_,?_⟩
|refine zV (by conv => lhs; whnf) ?_ ?_ <;> intro hb
|refine zN ?_
|refine zD ?_
|refine ⟨_,by conv => lhs; whnf; arg 2; whnf,?_⟩; conv => rhs; whnf
|exact trivial)
 . have e : l.length = 0:=by have : ((l.length : Int)) = 0:=by simpa using hb
                             omega
   rw [parT,if_pos e]; rfl
 . have e : ¬ l.length = 0:=by have : ¬ ((l.length : Int)) = 0:=by simpa using hb
                               omega
   refine zu (Sub.own (t:=3) (e:=9) rfl rfl) ?_
   refine zv (fun j st => ∃ i,i + j = l.length /\ Sub (cx EN Tryz.prog s w he) st (HgP k l i)) l.length ⟨0,by omega,?_⟩ ?_
   . exact Sub.live ⟨rfl,rfl,rfl,rfl,trivial⟩ ⟨rfl,trivial⟩
   . rintro j st ⟨i,hij,hs2⟩
     refine zu hs2 ?_
     have htk:=zAC (fun i => argT k (gD l i)) i
     have hj2 : decide ((i : Int) < (l.length : Int)) = false -> AC EN Tryz.prog 59 [.sl 9 (zq (fun i => argT k (gD l i)) i),.c (.string (bs [44,32]))] (.c (.string (bs (zDp k l)))):=fun hh => by
      have e : i = l.length:=by have:=zCK hh; omega
      rw [e]; exact hj
     have hv : decide ((i : Int) < (l.length : Int)) = true -> AC EN Tryz.prog 122 [.agg (cellsV Tryz.prog 12 84 ((gD l i).f 1))] (.c (.string (bs (valT k ((gD l i).f 1))))):=fun hh =>
      zC9 k _ (h.dp i (zAW hh)) ((h.wide i).f 1) (h.good i (zAW hh)) (h.val (zAW hh))
     repeat' (first
|refine zB ?_
|refine zC ?_
|refine zQ ?_
|refine zU ?_
|apply aw_1
 conv => whnf
 refine ⟨?_,trivial⟩
|apply s_1
 conv => whnf; arg 1; arg 4; arg 3; whnf
 refine ⟨?_,?_⟩
|apply zl rfl
 . conv => lhs; whnf
 . conv => lhs; whnf
 . first | exact hv ‹_› | exact hj2 ‹_›
|apply zz rfl rfl rfl
 . conv => lhs; whnf
 . conv => lhs; whnf; arg 1; whnf
 . conv => lhs; whnf; arg 1; whnf
 . exact ⟨by kernel_rfl,by kernel_rfl⟩
 . rfl
|apply zAJ (by kernel_rfl) (by kernel_rfl)
|apply zAx
|apply zAw rfl
 . conv => lhs; whnf
 . conv => lhs; whnf; arg 2; whnf
|apply zAq rfl
 . conv => lhs; whnf
 . conv => lhs; whnf
 . first | exact hv ‹_› | exact hj2 ‹_›
|apply zED rfl rfl
 . conv => lhs; whnf
 . first | exact zAK | (conv => lhs; whnf; arg 1; whnf)
 . first | exact fun _ => rfl | (intro _; kernel_rfl)
 . conv => lhs; whnf
 . rfl
 . rfl
 . conv => lhs; whnf; arg 1; whnf
 . conv => lhs; whnf
|apply zCO rfl rfl
 . conv => lhs; whnf
 . first | exact zAK | (conv => lhs; whnf; arg 1; whnf)
 . conv => lhs; whnf; arg 1; whnf
 . rfl
 . rfl
|exact zd
|show zBH _ _ = true; rfl
|refine zV (by conv => lhs; whnf) ?_ ?_ <;> intro hb
|refine zI ?_
|refine zE rfl ?_
|refine zG ?_
|refine zD ?_
|refine ⟨_,by conv => lhs; whnf; arg 2; whnf,?_⟩; conv => rhs; whnf
|exact trivial)
     . have hi:=zAW hb
       refine zF (j':=j - 1) (by omega) ⟨i + 1,by omega,Sub.live ⟨?_,rfl,rfl,rfl,trivial⟩ ⟨?_,trivial⟩⟩
       . show V.own 3 _ (zq _ i ++ [.str (((gD l i).f 0).s ++ ⟨#[58,32]⟩ ++ bs _)]) = _
         rw [zr,argT,<- zR,<- zR,zA4]; rfl
       . show some (Res.tok _ ((zq _ i).length + 1)) = _
         rw [zr,List.length_append]; rfl
     . exact zo (by have:=zAW hb; omega)
     . exact zBZ (by have:=zAW hb; omega) (by omega)
     . have h1:=h.name (zAW hb)
       have h2:=h.text (zAW hb)
       show (((gD l i).f 0).s ++ ⟨#[58,32]⟩).size + (bs (valT k ((gD l i).f 1))).size <= maxLen
       (simp only [ByteArray.size_append,zS,zT,List.size_toArray,List.length_append,List.length_cons,List.length_nil,maxLen,Nat.reduceAdd,Int.toNat_natCast]; omega)
     . have h1:=h.name (zAW hb)
       show (((gD l i).f 0).s).size + (⟨#[58,32]⟩ : ByteArray).size <= maxLen
       (simp only [ByteArray.size_append,zS,zT,List.size_toArray,List.length_append,List.length_cons,List.length_nil,maxLen,Nat.reduceAdd,Int.toNat_natCast]; omega)
     . exact zC3 hb
     . rw [parT,if_neg e,<- zR,<- zR]; rfl
     . exact sz3 hds
     . exact sz2 hds
def parR (k : Nat) (l : List D) (i : Nat) : List UInt8:=if i = 0 then [] else [40] ++ Lib.join ((l.map (argT k)).take i) commaT
theorem zDO {l : List D} (f : D -> List UInt8) {i : Nat} (h : i < l.length) : (l.map f).take (i + 1) = (l.map f).take i ++ [f (gD l i)]:=by
 rw [List.take_succ_eq_append_getElem (by simpa using h),List.getElem_map,zAt h]
theorem zGU {k : Nat} {l : List D} {i : Nat} (h : i < l.length) : parR k l (i + 1) = (if i = 0 then [40] else parR k l i ++ [44,32]) ++ argT k (gD l i):=by
 unfold parR
 rw [if_neg (by omega),zDO _ h]
 by_cases h0 : i = 0
 . subst h0
   rw [if_pos rfl,List.take_zero,List.nil_append,Lib.join_one]
 . rw [if_neg h0,if_neg h0,zCg _ _ _ (fun e => by have h2:=congrArg List.length e; rw [List.length_take,List.length_map] at h2; simp only [List.length_nil] at h2; omega)]
   simp [commaT]
theorem zH7 (k : Nat) (l : List D) : parR k l l.length ++ (if l.length = 0 then [] else [41]) = parT k l:=by
 unfold parR parT zDp
 by_cases h : l.length = 0
 . rw [if_pos h,if_pos h,if_pos h]; rfl
 . rw [if_neg h,if_neg h,if_neg h,show l.length = (l.map (argT k)).length by simp,List.take_length]
noncomputable def HgR (k : Nat) (l : List D) (i : Nat) : Vst 35:=
 stS 35 [(0,.sl 86 l),(3,.c (.string (bs (parR k l i)))),(4,.c (.int .i64 i))] []
theorem argsR_ac (k : Nat) (l : List D) (h : ArgsOk k l) : AC EN Tryz.prog 198 [.sl 86 l] (.c (.string (bs (parT k l)))):=by
 have hlen:=h.len
 have hbk:=h.bulk
 have hpr : ∀ i,(parR k l i).length <= 240000000:=fun i => by
  have hds:=zDW k l h.wide
  have:=zDR (l.map (argT k)) commaT i
  unfold parR
  unfold zDp at hds
  split
  . simp
  . simp only [List.length_append,List.length_cons,List.length_nil]; omega
 refine zO 35 Tryz.func198 rfl rfl rfl rfl ?_
 intro s w he
 repeat' (first
|refine zB ?_
|refine zC ?_
|refine zQ ?_
|apply aw_1
 conv => whnf
 refine ⟨?_,trivial⟩
|apply s_1
 conv => whnf; arg 1; arg 4; arg 3; whnf
 refine ⟨?_,?_⟩
|exact trivial)
 refine zv (fun j st => ∃ i,i + j = l.length /\ Sub (cx EN Tryz.prog s w he) st (HgR k l i)) l.length ⟨0,by omega,?_⟩ ?_
 . exact Sub.live ⟨rfl,rfl,rfl,trivial⟩ trivial
 . rintro j st ⟨i,hij,hs2⟩
   refine zu hs2 ?_
   have hpi:=hpr i
   have hv : decide ((i : Int) < (l.length : Int)) = true -> AC EN Tryz.prog 125 [.agg (cellsV Tryz.prog 12 84 ((gD l i).f 1))] (.c (.string (bs (valT k ((gD l i).f 1))))):=fun hh =>
    zC7 k _ (h.dp i (zAW hh)) ((h.wide i).f 1) (h.val (zAW hh))
   have hnm : i < l.length -> ((gD l i).f 0).s.size <= 8388608:=fun hi => h.name hi
   have hvl : i < l.length -> (valT k ((gD l i).f 1)).length <= 208000000:=fun hi => h.text hi
   repeat' (first
|refine zB ?_
|refine zC ?_
|refine zQ ?_
|refine zU ?_
|apply aw_1
 conv => whnf
 refine ⟨?_,trivial⟩
|apply s_1
 conv => whnf; arg 1; arg 4; arg 3; whnf
 refine ⟨?_,?_⟩
|apply zAJ (by kernel_rfl) (by kernel_rfl)
|apply zAx
|apply zAw rfl
 . conv => lhs; whnf
 . conv => lhs; whnf; arg 2; whnf
|apply zAq rfl
 . conv => lhs; whnf
 . conv => lhs; whnf
 . first | exact hv ‹_›
|exact zd
|exact zy
|exact (1000000 : Nat)
|refine zV (by conv => lhs; whnf) ?_ ?_ <;> intro hb
|refine zI ?_
|refine zE rfl ?_
|refine zG ?_
|refine zD ?_
|refine ⟨_,by conv => lhs; whnf; arg 2; whnf,?_⟩; conv => rhs; whnf
|exact trivial)
   . rename_i hb0
     have hi : i < l.length:=zAW hb0
     have h0 : i = 0:=by have : (i : Int) = 0:=by simpa using hb
                         omega
     refine zF (j':=j - 1) (by omega) ⟨i + 1,by omega,Sub.live ⟨rfl,?_,rfl,trivial⟩ trivial⟩
     show V.c (.string (⟨#[40]⟩ ++ ((gD l i).f 0).s ++ ⟨#[58,32]⟩ ++ bs _)) = _
     rw [zGU hi,if_pos h0,argT,<- zR,<- zR,<- zR,zA4,ByteArray.append_assoc,ByteArray.append_assoc,ByteArray.append_assoc]; rfl
   . exact zo (by omega)
   . rename_i hb0
     have h1:=hnm (zAW hb0)
     have h2:=hvl (zAW hb0)
     show ((⟨#[40]⟩ : ByteArray) ++ ((gD l i).f 0).s ++ ⟨#[58,32]⟩).size + (bs (valT k ((gD l i).f 1))).size <= maxLen
     (simp only [ByteArray.size_append,zS,zT,List.size_toArray,List.length_append,List.length_cons,List.length_nil,maxLen,Nat.reduceAdd,Int.toNat_natCast]; omega)
   . rename_i hb0; exact zC3 hb0
   . rename_i hb0
     have h1:=hnm (zAW hb0)
     show ((⟨#[40]⟩ : ByteArray) ++ ((gD l i).f 0).s).size + (⟨#[58,32]⟩ : ByteArray).size <= maxLen
     (simp only [ByteArray.size_append,zS,zT,List.size_toArray,List.length_append,List.length_cons,List.length_nil,maxLen,Nat.reduceAdd,Int.toNat_natCast]; omega)
   . rename_i hb0
     have h1:=hnm (zAW hb0)
     show (⟨#[40]⟩ : ByteArray).size + ((gD l i).f 0).s.size <= maxLen
     (simp only [ByteArray.size_append,zS,zT,List.size_toArray,List.length_append,List.length_cons,List.length_nil,maxLen,Nat.reduceAdd,Int.toNat_natCast]; omega)
   . rename_i hb0; exact zC3 hb0
   . rename_i hb0
     have hi : i < l.length:=zAW hb0
     have h0 : ¬ i = 0:=by have : ¬ (i : Int) = 0:=by simpa using hb
                           omega
     refine zF (j':=j - 1) (by omega) ⟨i + 1,by omega,Sub.live ⟨rfl,?_,rfl,trivial⟩ trivial⟩
     show V.c (.string (bs (parR k l i) ++ ⟨#[44,32]⟩ ++ ((gD l i).f 0).s ++ ⟨#[58,32]⟩ ++ bs _)) = _
     rw [zGU hi,if_neg h0,argT,<- zR,<- zR,<- zR,<- zR,zA4]
     simp only [ByteArray.append_assoc]; rfl
   . exact zo (by omega)
   . rename_i hb0
     have h1:=hnm (zAW hb0)
     have h2:=hvl (zAW hb0)
     show (bs (parR k l i) ++ ⟨#[44,32]⟩ ++ ((gD l i).f 0).s ++ ⟨#[58,32]⟩).size + (bs (valT k ((gD l i).f 1))).size <= maxLen
     (simp only [ByteArray.size_append,zS,zT,List.size_toArray,List.length_append,List.length_cons,List.length_nil,maxLen,Nat.reduceAdd,Int.toNat_natCast]; omega)
   . rename_i hb0; exact zC3 hb0
   . rename_i hb0
     have h1:=hnm (zAW hb0)
     show (bs (parR k l i) ++ ⟨#[44,32]⟩ ++ ((gD l i).f 0).s).size + (⟨#[58,32]⟩ : ByteArray).size <= maxLen
     (simp only [ByteArray.size_append,zS,zT,List.size_toArray,List.length_append,List.length_cons,List.length_nil,maxLen,Nat.reduceAdd,Int.toNat_natCast]; omega)
   . rename_i hb0
     have h1:=hnm (zAW hb0)
     show (bs (parR k l i) ++ ⟨#[44,32]⟩).size + ((gD l i).f 0).s.size <= maxLen
     (simp only [ByteArray.size_append,zS,zT,List.size_toArray,List.length_append,List.length_cons,List.length_nil,maxLen,Nat.reduceAdd,Int.toNat_natCast]; omega)
   . rename_i hb0; exact zC3 hb0
   . have:=hpi
     show (bs (parR k l i)).size + (⟨#[44,32]⟩ : ByteArray).size <= maxLen
     (simp only [ByteArray.size_append,zS,zT,List.size_toArray,List.length_append,List.length_cons,List.length_nil,maxLen,Nat.reduceAdd,Int.toNat_natCast]; omega)
   . rename_i hb0
     have e : i = l.length:=by have : l.length <= i:=zCK hb0
                               omega
     subst e
     have h1:=s_ne hb
     rw [zAS] at h1
     have h0 : ¬ l.length = 0:=fun h => h1 (by unfold parR; rw [if_pos h])
     have h2:=zH7 k l
     rw [if_neg h0] at h2
     rw [<- h2,<- zR]; rfl
   . show (bs (parR k l i)).size + (⟨#[41]⟩ : ByteArray).size <= maxLen
     (simp only [ByteArray.size_append,zS,zT,List.size_toArray,List.length_append,List.length_cons,List.length_nil,maxLen,Nat.reduceAdd,Int.toNat_natCast]; omega)
   . rename_i hb0
     have e : i = l.length:=by have : l.length <= i:=zCK hb0
                               omega
     subst e
     have h1:=s_eq hb
     rw [zAS] at h1
     have h0 : l.length = 0:=by
      by_cases h : l.length = 0
      . exact h
      . unfold parR at h1; rw [if_neg h] at h1; simp at h1
     have h2:=zH7 k l
     rw [if_pos h0,List.append_nil] at h2
     rw [<- h2]
theorem zFD (x : D) : AC EN Tryz.prog 202 [.agg (cellsV Tryz.prog 12 71 x)] (.c (.bool (decide (0 < (x.f 1).l.length) && ((gD (x.f 1).l 0).n == 1)))):=by
 refine zO 14 Tryz.func202 rfl rfl rfl rfl ?_
 intro s w he
 repeat' (first
|refine zB ?_
|refine zC ?_
|refine zQ ?_
|apply aw_1
 conv => whnf
 refine ⟨?_,trivial⟩
|apply ze rfl rfl
 . conv => lhs; whnf
 . conv => lhs; whnf
 . first | exact bT1 ‹_› | exact bT2 ‹_›
|apply zm rfl rfl
 . conv => lhs; whnf
 . conv => lhs; whnf
 . first | exact bF1 ‹_› | exact bF2 ‹_›
|apply s_1
 conv => whnf; arg 1; arg 4; arg 3; whnf
 refine ⟨?_,?_⟩
|apply zAN rfl rfl rfl rfl
 . conv => lhs; whnf; arg 1; whnf
 . rfl
|apply zJ rfl
 . conv => lhs; whnf
 . conv => lhs; whnf
 . first | rfl | assumption
 . conv => lhs; whnf; arg 2; whnf
|apply zDH rfl
 . conv => lhs; whnf
 . conv => lhs; whnf
 . first | rfl | assumption
|apply zAF rfl
 . conv => lhs; whnf
 . conv => lhs; whnf
 . conv => lhs; whnf; arg 2; whnf
|refine zD ?_
|refine ⟨_,by conv => lhs; whnf; arg 2; whnf,?_⟩; conv => rhs; whnf
|exact trivial
|intro hg)
 . have hg:=bT1 hg
   simp at hg
   simp [hg]
 . have hg:=bT1 hg
   simpa using hg
 . have hg:=bF1 hg
   simp at hg
   simp [hg]
theorem cut_ac (x : D) (h0 : 0 < (x.f 1).l.length) (h1 : (x.f 1).l.length <= 16000000) : AC EN Tryz.prog 203 [.agg (cellsV Tryz.prog 12 71 x)] (.agg (cellsV Tryz.prog 12 71 (.obj [x.f 0,.list ((x.f 1).l.drop 1)]))):=by
 refine zO 11 Tryz.func203 rfl rfl rfl rfl ?_
 intro s w he
 repeat' (first
|refine zB ?_
|refine zC ?_
|refine zQ ?_
|apply aw_1
 conv => whnf
 refine ⟨?_,trivial⟩
|apply s_1
 conv => whnf; arg 1; arg 4; arg 3; whnf
 refine ⟨?_,?_⟩
|apply zAN rfl rfl rfl rfl
 . conv => lhs; whnf; arg 1; whnf
 . rfl
|apply zAJ (by kernel_rfl) (by kernel_rfl)
|apply zAx
|apply zAw rfl
 . conv => lhs; whnf
 . conv => lhs; whnf; arg 2; whnf
|apply zDX rfl rfl rfl
 . conv => lhs; whnf
 . rfl
 . rfl
 . conv => lhs; whnf; arg 1; whnf
 . conv => lhs; whnf; arg 1; whnf
 . exact ⟨by kernel_rfl,by kernel_rfl⟩
 . rfl
|apply zEz rfl rfl
 . conv => lhs; whnf
 . first | exact zAY | (conv => lhs; whnf; arg 1; whnf)
|apply zDY rfl rfl
 . conv => lhs; whnf
 . first | exact zAY | (conv => lhs; whnf; arg 1; whnf)
 . first | exact fun _ => rfl | (intro _; kernel_rfl)
 . conv => lhs; whnf
 . conv => lhs; whnf
|exact zd
|show zBH _ _ = true; rfl
|refine zD ?_
|refine ⟨_,by conv => lhs; whnf; arg 2; whnf,?_⟩; conv => rhs; whnf
|exact trivial)
 . rfl
 . simp only [List.length_nil,List.length_drop,Nat.zero_add,maxLen]; omega
 . simp only [Nat.zero_add]; omega
def refB (n : List UInt8) : List D -> List UInt8
 | [] => n
 | d :: ds => if d.n == 1 then refB n ds ++ [33] else [91] ++ refB n ds ++ [93]
theorem zCE (n : List UInt8) : ∀ l,(refB n l).length <= n.length + 2 * l.length
 | [] => by simp [refB]
 | d :: ds => by
   have:=zCE n ds
   unfold refB
   split <;> simp <;> omega
theorem refR_ac (n : List UInt8) (hn : n.length <= 16000000) : ∀ (l : List D),l.length <= 16000000 -> AC EN Tryz.prog 124 [.agg [.c (.string (bs n)),.sl 3 l]] (.c (.string (bs (refB n l))))
 | [],_ => by
   refine zO 20 Tryz.func124 rfl rfl rfl rfl ?_
   intro s w he
   have h1 : AC EN Tryz.prog 202 [.agg [.c (.string (bs n)),.sl 3 []]] (.c (.bool false)):=zFD (.obj [.str (bs n),.list []])
   repeat' (first
|refine zB ?_
|refine zC ?_
|refine zQ ?_
|apply aw_1
 conv => whnf
 refine ⟨?_,trivial⟩
|apply s_1
 conv => whnf; arg 1; arg 4; arg 3; whnf
 refine ⟨?_,?_⟩
|apply zl rfl
 . conv => lhs; whnf
 . conv => lhs; whnf
 . first | exact h1
|apply zAN rfl rfl rfl rfl
 . conv => lhs; whnf; arg 1; whnf
 . rfl
|refine zD ?_
|refine ⟨_,by conv => lhs; whnf; arg 2; whnf,?_⟩; conv => rhs; whnf
|exact trivial)
   rfl
 | d :: ds,hl => by
   have ih:=refR_ac n hn ds (by simp at hl; omega)
   have h2 : AC EN Tryz.prog 203 [.agg [.c (.string (bs n)),.sl 3 (d :: ds)]] (.agg [.c (.string (bs n)),.sl 3 ds]):=cut_ac (.obj [.str (bs n),.list (d :: ds)]) (Nat.succ_pos _) hl
   have h1 : AC EN Tryz.prog 202 [.agg [.c (.string (bs n)),.sl 3 (d :: ds)]] (.c (.bool (d.n == 1))):=zFD (.obj [.str (bs n),.list (d :: ds)])
   have hlen:=zCE n ds
   simp only [List.length_cons] at hl
   refine zO 20 Tryz.func124 rfl rfl rfl rfl ?_
   intro s w he
   repeat' (first
|refine zB ?_
|refine zC ?_
|refine zQ ?_
|apply aw_1
 conv => whnf
 refine ⟨?_,trivial⟩
|apply s_1
 conv => whnf; arg 1; arg 4; arg 3; whnf
 refine ⟨?_,?_⟩
|apply zl rfl
 . conv => lhs; whnf
 . conv => lhs; whnf
 . first | exact h1 | exact h2 | exact ih
|apply zAN rfl rfl rfl rfl
 . conv => lhs; whnf; arg 1; whnf
 . rfl
|refine zV (by conv => lhs; whnf) ?_ ?_ <;> intro hb
|refine zN ?_
|refine zD ?_
|refine ⟨_,by conv => lhs; whnf; arg 2; whnf,?_⟩; conv => rhs; whnf
|exact trivial)
   all_goals first
    | (simp only [lit_bs,zR,zS,List.length_append,List.length_cons,List.length_nil,maxLen]; omega)
    | (simp only [lit_bs,zR,refB,‹(d.n == 1) = _›,if_true,if_false,Bool.false_eq_true,↓reduceIte]; done)
    | (exfalso; simp at hb; done)
end Go.Proofs.YthjiclhfhjdjpaaGreatDoor
namespace Go.Proofs.YthjiclhfhjdjpaaGreatDoor
open Go.RowKit
attribute [local irreducible] wpList Calls Code.wp
def LiesB (T : TypeId) : Prop:=liesAt Tryz.prog Tryz.prog.depth T (2 / Tryz.prog.cellsOf T) 0 92 1 = true
theorem zGv {T : TypeId} (hT : LiesB T) (b : Nat) (w : World) (h0 : w.cell? ⟨b,0,none⟩ = some (.pointer none)) (hsh : w.shape? b = some (T,2)) (hfz : w.frozen? ⟨b,0,none⟩ = false) :
 Calls Tryz.prog 94 #[.pointer (some ⟨b,0,none⟩)] w fun e w' => e = .returned (.tuple #[]) /\ w' = w.setCell ⟨b,0,none⟩ (.pointer (some ⟨b,0,none⟩)):=by
 obtain ⟨j,hj,hjs⟩:=Option.map_eq_some_iff.1 bSize
 go_enter Tryz.func94,Tryz.ntmps94
 go_wp2
 rw [Lib.run_to_unsafe w ⟨b,0,none⟩ Tryz.underlying89 Tryz.underlying208 hj (by rw [hjs]; decide) hsh (Nat.zero_lt_succ 1)]
 simp only [Result.andThen]
 rw [Oper.upon_value]
 go_wp2
 rw [run_callFunc_extern Tryz.func173 (by kernel_rfl) (by kernel_rfl) (by kernel_rfl) (e:=Extern.AbiNoEscape.same) (by kernel_rfl)]
 rw [Lib.run_noEscape]
 simp only [Result.andThen]
 rw [Oper.upon_value]
 go_wp2
 rw [Lib.run_from_unsafe w ⟨b,0,none⟩ Tryz.underlying208 Tryz.underlying89 hj hsh hT]
 simp only [Result.andThen]
 rw [Oper.upon_value]
 go_wp2
 go_end0
 exact ⟨rfl,rfl⟩
def BldAtW (T : TypeId) (b : Nat) (l : List UInt8) (v p : Value) (w : World) : Prop:=
 w.heap[b]? = some (.cells #[p,v] T (0,0)) /\ (p = .pointer none \/ p = .pointer (some ⟨b,0,none⟩)) /\ w.ownsRowF 0 5 1 v l.length (Lib.byteCells l) /\ v.ownBlock ≠ some b
def zFS (T : TypeId) (b : Nat) (v : Value) (l : List UInt8) (w w' : World) : Prop:=
 ∃ v' p',BldAtW T b l v' p' w' /\ Frm (fun k => k = b \/ v.ownBlock = some k) w w' /\ ∀ g,v'.ownBlock = some g -> v.ownBlock = some g \/ w.heap.size <= g
theorem zGx {T : TypeId} {e : Ge} {f : FuncId} {cargs : List Value} {l l' : List UInt8} {r : Value} (rv : V) (hr : ∀ s w,rel Tryz.prog s w rv r) (h : ∀ b v p w,BldAtW T b l v p w -> Calls Tryz.prog f (Value.pointer (some ⟨b,0,none⟩) :: cargs).toArray w fun e w' => e = .returned r /\ zFS T b v l' w w') :
 ACB e Tryz.prog f (.bx (pn 0) 0 :: cargs.map .c) [.bld T 5 l] rv [.bld T 5 l']:=by
 intro pas s w us hus hmem _ _
 obtain ⟨b,v,p,h1,h2,h3,h4,h5,h6,h7,h8⟩:=hmem.ho (pn 0) _ (rsOf_pn _ 0)
 have hus2 : us = (Value.pointer (some ⟨b,0,none⟩) :: cargs).toArray:=by
  apply Array.ext'
  simp only [List.toList_toArray]
  cases hl : us.toList with
  | nil => rw [hl] at hus; simp [relL] at hus
  | cons x xs =>
    rw [hl,relL,rel] at hus
    obtain ⟨⟨b',hb',rfl⟩,hxs⟩:=hus
    rw [h1] at hb'; cases hb'
    rw [zCx hxs]
 rw [hus2]
 refine (h b v p w ⟨h2,h3,h4,h5⟩).mono ?_
 rintro e w' ⟨rfl,v',p',⟨q1,q2,q3,q4⟩,hfr,hg⟩
 have hbl : b < w.heap.size:=(Array.getElem?_eq_some_iff.1 h2).1
 have hpb : pas b:=by
  rcases hmem.bs (pn 0) _ b (rsOf_pn _ 0) (.inl h1) with h9 | h9
  . omega
  . exact h9
 have hpg : ∀ g,v.ownBlock = some g -> pas g:=fun g hg' => by
  have:=(h4.lt g hg').2
  rcases hmem.bs (pn 0) _ g (rsOf_pn _ 0) (.inr (h6.trans hg')) with h9 | h9
  . omega
  . exact h9
 have hfr2 : Frm pas w w':=⟨hfr.os,hfr.tape,hfr.output,hfr.size,fun k hk hp => hfr.block k hk fun hh => hp (hh.elim (fun e => by rw [e]; exact hpb) (hpg k))⟩
 have hcell : ∀ k o,s.F k o -> w'.cell? ⟨k,o,none⟩ = w.cell? ⟨k,o,none⟩:=fun k o hF => by
  obtain ⟨x,hx⟩:=Option.isSome_iff_exists.1 (hmem.fx k o hF)
  exact World.cell?_of_block (w:=w) (hfr.block k (block_lt_of_cell hx) fun hh => hh.elim (fun e => by rw [e] at hF; exact h7 o hF) (fun e => h8 k o e hF))
 let s' : Sg:={ s with tb:=fun q => if q = pn 0 then v'.ownBlock else s.tb q }
 have htb : s'.tb (pn 0) = v'.ownBlock:=by show (if pn 0 = pn 0 then v'.ownBlock else s.tb (pn 0)) = _; rw [if_pos rfl]
 refine ⟨r,s',rfl,hfr2,fun k o hF => ⟨hcell k o hF,hF⟩,fun _ _ _ _ h => h,⟨fun k o hF => by rw [hcell k o hF]; exact hmem.fx k o hF,fun n ρ hn => ?_,fun n ρ k hn hk => ?_,fun n m ρ ρ' k hn hm _ _ => ?_⟩,PE.refl _,hr _ _⟩
 . obtain ⟨i,rfl,hi⟩:=zAb hn
   cases i with
   | zero =>
     simp at hi; subst hi
     refine ⟨b,v',p',h1,q1,q2,q3,q4,htb,h7,fun g o hg' hF => ?_⟩
     rcases hg g hg' with h9 | h9
     . exact h8 g o h9 hF
     . obtain ⟨x,hx⟩:=Option.isSome_iff_exists.1 (hmem.fx g o hF)
       have:=block_lt_of_cell hx
       simp at this; omega
   | succ i => simp at hi
 . obtain ⟨i,rfl,hi⟩:=zAb hn
   cases i with
   | zero =>
     simp at hi; subst hi
     rcases hk with hk | hk
     . rw [show s'.bx (pn 0) = s.bx (pn 0) from rfl,h1] at hk; cases hk; exact .inr hpb
     . rw [htb] at hk
       rcases hg k hk with h9 | h9
       . exact .inr (hpg k h9)
       . exact .inl h9
   | succ i => simp at hi
 . obtain ⟨i,rfl,hi⟩:=zAb hn
   obtain ⟨j,rfl,hj⟩:=zAb hm
   cases i with
   | zero => cases j with
     | zero => rfl
     | succ j => simp at hj
   | succ i => simp at hi
theorem bld_acbW {T : TypeId} {e : Ge} {f : FuncId} {cargs : List Value} {l l' : List UInt8} {r : Value} (hr : okV r) (h : ∀ b v p w,BldAtW T b l v p w -> Calls Tryz.prog f (Value.pointer (some ⟨b,0,none⟩) :: cargs).toArray w fun e w' => e = .returned r /\ zFS T b v l' w w') :
 ACB e Tryz.prog f (.bx (pn 0) 0 :: cargs.map .c) [.bld T 5 l] (.c r) [.bld T 5 l']:=
 zGx (.c r) (fun s w => by rw [rel]; exact ⟨rfl,hr⟩) h
theorem check_bW {T : TypeId} (hT : LiesB T) (b : Nat) (l : List UInt8) (v p : Value) (w : World) (h : BldAtW T b l v p w) :
 Calls Tryz.prog 94 #[.pointer (some ⟨b,0,none⟩)] w fun e w' => e = .returned (.tuple #[]) /\ BldAtW T b l v (.pointer (some ⟨b,0,none⟩)) w' /\ Frm (fun k => k = b) w w' /\ w'.heap.size = w.heap.size:=by
 obtain ⟨q1,q2,q3,q4⟩:=h
 have c0 : w.cell? ⟨b,0,none⟩ = some p:=by rw [Lib.cell_of_heap q1]; rfl
 rcases q2 with rfl | rfl
 . refine (zGv hT b w c0 (by simp [World.shape?,q1]) (Lib.frozen_of_heap q1 0)).mono ?_
   rintro e w' ⟨rfl,rfl⟩
   have hb : (w.setCell ⟨b,0,none⟩ (.pointer (some ⟨b,0,none⟩))).heap[b]? = some (.cells #[.pointer (some ⟨b,0,none⟩),v] T (0,0)):=by
    simp [World.setCell,Array.getElem?_modify,q1]
   refine ⟨rfl,⟨hb,.inr rfl,zAl q3 fun g hg => Below.heap_setCell _ _ _ _ fun e => q4 (by rw [hg,e]),q4⟩,⟨rfl,rfl,rfl,by simp [World.setCell],fun k _ hk => Below.heap_setCell _ _ _ _ hk⟩,by simp [World.setCell]⟩
 . refine (zDm b w c0).mono ?_
   rintro e w' ⟨rfl,rfl⟩
   exact ⟨rfl,⟨q1,.inr rfl,q3,q4⟩,Frm.refl _ _,rfl⟩
theorem post_bW {T : TypeId} {w0 w1 w2 : World} {b : Nat} {v v' p : Value} {l l' : List UInt8} (hb : b < w1.heap.size) (hs : w0.heap.size <= w1.heap.size) (h1 : Frm (fun k => k = b) w0 w1) (hb1 : w1.heap[b]? = some (.cells #[.pointer (some ⟨b,0,none⟩),v] T (0,0))) (hne : v.ownBlock ≠ some b)
 (hown : w2.ownsRowF 0 5 1 v' l'.length (Lib.byteCells l')) (hg : w1.grownBy w2 v.ownBlock) (hl : ∀ g,v'.ownBlock = some g -> v.ownBlock = some g \/ w1.heap.size <= g) :
 w2.heap[b]? = some (.cells #[.pointer (some ⟨b,0,none⟩),v] T (0,0)) /\ zFS T b v l' w0 (w2.setCell ⟨b,1,none⟩ v'):=by
 have hb2 : w2.heap[b]? = some (.cells #[.pointer (some ⟨b,0,none⟩),v] T (0,0)):=by rw [hg.block b hb (fun e => hne e.symm)]; exact hb1
 have hne' : v'.ownBlock ≠ some b:=fun e => by
  rcases hl b e with h | h
  . exact hne h
  . omega
 have hb3 : (w2.setCell ⟨b,1,none⟩ v').heap[b]? = some (.cells #[.pointer (some ⟨b,0,none⟩),v'] T (0,0)):=by simp [World.setCell,Array.getElem?_modify,hb2]
 refine ⟨hb2,v',_,⟨hb3,.inr rfl,zAl hown fun g hg' => Below.heap_setCell _ _ _ _ fun e => hne' (by rw [hg',e]),hne'⟩,⟨hg.os.trans h1.os,hg.tape.trans h1.tape,hg.output.trans h1.output,Nat.le_trans hs (Nat.le_trans hg.size (by simp [World.setCell])),fun k hk hnk => ?_⟩,fun g hg' => (hl g hg').imp id fun h => Nat.le_trans hs h⟩
 rw [Below.heap_setCell _ _ _ _ (fun e => hnk (.inl e)),hg.block k (by omega) (fun e => hnk (.inr e.symm)),h1.block k hk fun e => hnk (.inl e)]
theorem zEu {T : TypeId} (hT : LiesB T) (b : Nat) (l : List UInt8) (v p : Value) (w : World) (h : BldAtW T b l v p w) (s : ByteArray) (hlen : l.length + s.size <= 140737488355328) :
 Calls Tryz.prog 46 #[.pointer (some ⟨b,0,none⟩),.string s] w fun e w' => e = .returned (.tuple #[.int .i64 s.size,.nilIface]) /\ zFS T b v (l ++ s.data.toList) w w':=by
 have H:=Lib.hid (check_bW hT b l v p w h)
 clear h
 go_enter Tryz.func46,Tryz.ntmps46
 go_wp2_with fail
 refine H.out.mono ?_
 rintro e w1 ⟨rfl,⟨q1,-,q3,q4⟩,hf,hsz⟩
 have Hsz:=Lib.hid (show w.heap.size <= w1.heap.size by omega); clear hsz
 have hlt : b < w1.heap.size:=(Array.getElem?_eq_some_iff.1 q1).1
 have c1 : w1.cell? ⟨b,1,none⟩ = some v:=by rw [Lib.cell_of_heap q1]; rfl
 go_wp2_with (at_builtin; refine zIv rfl _ _ 90 9 5 rfl Tryz.underlying90 Tryz.underlying9 zGG v l.length (Lib.byteCells l) rfl q3 s rfl (by unfold maxLen; omega) hlen ?_)
 intro v' w2 hown' hgrow hl
 have hcell : Lib.byteCells (l ++ s.data.toList) = Lib.byteCells l ++ Lib.strCells s:=by rw [Lib.byteCells_append,Lib.strCells_eq]
 have hll : l.length + s.size = (l ++ s.data.toList).length:=by rw [List.length_append]; rfl
 rw [<- hcell,hll] at hown'
 obtain ⟨hb2,hpost⟩:=post_bW (l':=l ++ s.data.toList) (l:=l) (p:=p) hlt Hsz.out hf q1 q4 hown' hgrow hl
 have d1 : w2.cell? ⟨b,1,none⟩ = some v:=by rw [Lib.cell_of_heap hb2]; rfl
 have f1 : w2.frozen? ⟨b,1,none⟩ = false:=Lib.frozen_of_heap hb2 1
 obtain ⟨ao,n',cap,rfl⟩ : ∃ ao n' cap,v' = .slice ao n' cap:=by
  rcases hown'.2 with ⟨hv,_⟩ | ⟨g,cap,cur,fz,hv,_⟩
  . exact ⟨_,_,_,hv⟩
  . exact ⟨_,_,_,hv⟩
 have Hp:=Lib.hid hpost
 clear hpost hown' hgrow hl q3 hll hcell
 go_wp2
 go_ret2
 exact ⟨rfl,Hp.out⟩
theorem zFl {T : TypeId} {w w' : World} {b : Nat} {v p : Value} {l : List UInt8} (h : BldAtW T b l v p w) (hf : Frm (fun k => k = b \/ v.ownBlock = some k) w w') (hb : w'.heap[b]? = w.heap[b]?) (hg : w'.ownsRowF 0 5 1 v l.length (Lib.byteCells l)) : zFS T b v l w w':=
 ⟨v,p,⟨hb.trans h.1,h.2.1,hg,h.2.2.2⟩,hf,fun _ hg => .inl hg⟩
theorem string_bW {T : TypeId} (b : Nat) (l : List UInt8) (v p : Value) (w : World) (h : BldAtW T b l v p w) :
 Calls Tryz.prog 49 #[.pointer (some ⟨b,0,none⟩)] w fun e w' => e = .returned (.string ⟨l.toArray⟩) /\ zFS T b v l w w':=by
 have h':=h
 obtain ⟨q1,q2,q3,q4⟩:=h
 have hUS0 : ∀ (W : World) (q : Option Addr),(Builtin.unsafeString_ #[154,3] 9 #[.pointer q,.int .i64 0]).run Tryz.prog W = .ok (.string ByteArray.empty) W:=Any.unsafeString_none Tryz.lays169 Tryz.Builder_Extra_169
 have mixed : Tryz.prog.follows .mixedOrders = true:=by kernel_rfl
 have hbl : b < w.heap.size:=(Array.getElem?_eq_some_iff.1 q1).1
 rcases q3.2 with ⟨rfl,h0⟩ | ⟨g,cap,cur,fz,rfl,hbg,hg,hfz,hnc,hcm,hcs,htake⟩
 . have hl : l = []:=List.eq_nil_of_length_eq_zero h0
   subst hl
   have c1 : w.drew.cell? ⟨b,1,none⟩ = some (.slice none 0 0):=by
    have : w.drew.heap[b]? = some (.cells #[p,.slice none 0 0] T (0,0)):=q1
    rw [Lib.cell_of_heap this]; rfl
   have hSD : (Builtin.unsafeSliceData_ #[90] 154 #[.slice none 0 0]).run Tryz.prog w.drew = .ok (.pointer none) w.drew:=rfl
   have HP:=Lib.hid (zFl (w':=w.drew) h' ⟨rfl,rfl,rfl,Nat.le_refl _,fun _ _ _ => rfl⟩ rfl q3)
   clear h' q3 q4 q1 h0
   go_enter Tryz.func49,Tryz.ntmps49
   go_wp2
   go_region_o
   all_goals (go_wp2; go_ret; exact ⟨rfl,HP.out⟩)
 . have hbg' : b ≠ g:=fun e => q4 (by rw [e]; rfl)
   by_cases hl0 : l = []
   . subst hl0
     by_cases hc0 : cap = 0
     . subst hc0
       have c1 : w.drew.cell? ⟨b,1,none⟩ = some (.slice (some ⟨g,0,none⟩) 0 0):=by
        have : w.drew.heap[b]? = some (.cells #[p,.slice (some ⟨g,0,none⟩) 0 0] T (0,0)):=q1
        rw [Lib.cell_of_heap this]; rfl
       have hSD : (Builtin.unsafeSliceData_ #[90] 154 #[.slice (some ⟨g,0,none⟩) 0 0]).run Tryz.prog w.drew = .ok (.pointer (some ⟨w.drew.heap.size,0,none⟩)) (w.drew.alloc (.view ⟨g,0,none⟩ 5)):=
        Lib.run_unsafeSliceData_zero w.drew _ _ 5 Tryz.underlying154 ⟨g,0,none⟩ 0 (5,cur.size) (by have hg' : w.drew.heap[g]? = some (.cells cur 5 fz):=hg; simp [World.shape?,hg'])
       have c2 : (w.drew.alloc (.view ⟨g,0,none⟩ 5)).cell? ⟨b,1,none⟩ = some (.slice (some ⟨g,0,none⟩) 0 0):=by
        have : (w.drew.alloc (.view ⟨g,0,none⟩ 5)).heap[b]? = _:=(Lib.alloc_old w.drew _ b hbl).trans q1
        rw [Lib.cell_of_heap this]; rfl
       have c3 : (w.alloc (.view ⟨g,0,none⟩ 5)).drew.cell? ⟨b,1,none⟩ = some (.slice (some ⟨g,0,none⟩) 0 0):=c2
       have c0 : w.cell? ⟨b,1,none⟩ = some (.slice (some ⟨g,0,none⟩) 0 0):=c1
       have HP:=Lib.hid (zFl (w':=w.drew.alloc (.view ⟨g,0,none⟩ 5)) h' (zCi w _ _) (Below.heap_alloc w.drew _ b hbl) (zAl q3 fun k hk => Below.heap_alloc w.drew _ k (q3.lt k hk).2))
       clear h' q3 q4 q1 hg htake hcs hbg hbg' hnc hcm hfz
       go_enter Tryz.func49,Tryz.ntmps49
       go_wp2
       go_region_o
       all_goals (go_wp2; go_ret; exact ⟨rfl,HP.out⟩)
     . have c1 : w.drew.cell? ⟨b,1,none⟩ = some (.slice (some ⟨g,0,none⟩) 0 cap):=by
        have : w.drew.heap[b]? = some (.cells #[p,.slice (some ⟨g,0,none⟩) 0 cap] T (0,0)):=q1
        rw [Lib.cell_of_heap this]; rfl
       have hSD : (Builtin.unsafeSliceData_ #[90] 154 #[.slice (some ⟨g,0,none⟩) 0 cap]).run Tryz.prog w.drew = .ok (.pointer (some ⟨g,0,none⟩)) w.drew:=
        Lib.run_unsafeSliceData_row _ _ _ _ _ _ hc0
       have HP:=Lib.hid (zFl (w':=w.drew) h' ⟨rfl,rfl,rfl,Nat.le_refl _,fun _ _ _ => rfl⟩ rfl q3)
       clear h' q3 q4 q1 hg htake hcs hbg hbg' hnc hcm hfz hc0
       go_enter Tryz.func49,Tryz.ntmps49
       go_wp2
       go_region_o
       all_goals (go_wp2; go_ret; exact ⟨rfl,HP.out⟩)
   . have hln : l.length ≠ 0:=by simpa using hl0
     have c1 : w.drew.cell? ⟨b,1,none⟩ = some (.slice (some ⟨g,0,none⟩) l.length cap):=by
      have : w.drew.heap[b]? = some (.cells #[p,.slice (some ⟨g,0,none⟩) l.length cap] T (0,0)):=q1
      rw [Lib.cell_of_heap this]; rfl
     have hSD : (Builtin.unsafeSliceData_ #[90] 154 #[.slice (some ⟨g,0,none⟩) l.length cap]).run Tryz.prog w.drew = .ok (.pointer (some ⟨g,0,none⟩)) w.drew:=
      Lib.run_unsafeSliceData_row _ _ _ _ _ _ (by omega)
     have hUS : (Builtin.unsafeString_ #[154,3] 9 #[.pointer (some ⟨g,0,none⟩),.int .i64 l.length]).run Tryz.prog w.drew = .ok (.string ⟨l.toArray⟩) (w.drew.freeze ⟨g,0,none⟩ l.length):=by
      refine Lib.run_unsafeString_row w.drew 154 3 9 5 Tryz.underlying154 Tryz.Builder_Extra_169.cellsByte g cur.size (by have hg' : w.drew.heap[g]? = some (.cells cur 5 fz):=hg; simp [World.shape?,hg']) l hl0 (by omega) (by unfold maxLen at hcm; omega) ?_
      intro j x hx
      exact q3.cells (g:=g) rfl j (.int .u8 x.toNat) (by simp [Lib.byteCells,hx])
     have hfro : (w.drew.freeze ⟨g,0,none⟩ l.length).ownsRowF 0 5 1 (.slice (some ⟨g,0,none⟩) l.length cap) l.length (Lib.byteCells l):=by
      obtain ⟨lo,hi⟩:=fz
      have hg' : w.drew.heap[g]? = some (.cells cur 5 (lo,hi)):=hg
      have hf2 : (w.drew.freeze ⟨g,0,none⟩ l.length).heap[g]? = some (.cells cur 5 (if lo == hi then (0,0 + l.length) else (min lo 0,max hi (0 + l.length)))):=by
       unfold World.freeze
       rw [if_neg hln]
       simp only [Array.getElem?_modify,if_true,hg']
       rfl
      refine ⟨q3.1,.inr ⟨g,cap,cur,_,rfl,Nat.zero_le _,hf2,?_,hnc,hcm,hcs,htake⟩⟩
      simp only at hfz
      split <;> simp <;> omega
     have HP:=Lib.hid (zFl (w':=w.drew.freeze ⟨g,0,none⟩ l.length) h' ⟨zBK.1,zBK.2.1,zBK.2.2,by rw [zEd]; exact Nat.le_refl _,fun k _ hk => zBt fun e => hk (.inr (by rw [e]; rfl))⟩ (zBt hbg') hfro)
     clear h' q3 q4 q1 hg htake hcs hbg hbg' hnc hcm hfz hfro
     go_enter Tryz.func49,Tryz.ntmps49
     go_wp2
     go_region_o
     all_goals (go_wp2; go_ret; exact ⟨rfl,HP.out⟩)
end Go.Proofs.YthjiclhfhjdjpaaGreatDoor
namespace Go.Proofs.YthjiclhfhjdjpaaGreatDoor
open Go.RowKit
attribute [local irreducible] wpList Calls Code.wp AW AWo OpOk seqK zAf zAh loopK endK AC zAD Yld Sub
attribute [local irreducible] ACB absLexG YldG
theorem zDw {e : Ge} {T : TypeId} (hT : LiesB T) (l : List UInt8) (s : ByteArray) (hlen : l.length + s.size <= 140737488355328) : ACB e Tryz.prog 46 [.bx (pn 0) 0,.c (.string s)] [.bld T 5 l] .any [.bld T 5 (l ++ tx s)]:=
 zGx (cargs:=[.string s]) .any (fun _ _ => by simp [rel]) fun b v p w h => zEu hT b l v p w h s hlen
theorem zG7 {e : Ge} {T : TypeId} (l : List UInt8) (hlen : l.length <= maxLen) : ACB e Tryz.prog 49 [.bx (pn 0) 0] [.bld T 5 l] (.c (.string (bs l))) [.bld T 5 l]:=
 bld_acbW (cargs:=[]) (show l.toArray.size <= maxLen by simpa using hlen) fun b v p w h => string_bW b l v p w h
section
variable {X : Cx} {nn : Nat} {st : Vst nn} {o : Oper} {ops : Array Oper} {l : List Oper} {d : Option Tmp} {KK : Vst nn -> Prop} {Q : Vst nn -> Prop} {rd wr : Nat -> List Nat} {k : Nat}
theorem zFj {f : FuncId} {m : Nat} {vs az : List V} {tb tu : TypeId} {bl bl' : List UInt8} {r : V} (hg : o.guard = none) (hd : o.dst = d) (h : act1 X.P st.rs (ev st) o.op = .call f vs) (hv : vs = .bx m 0 :: az) (hr : st.rs m = some (.bld tb tu bl))
 (hc : ACB X.e X.P f (.bx (pn 0) 0 :: az) [.bld tb tu bl] r [.bld tb tu bl']) (haz : ∀ φ,renL φ az = az) (hrr : ∀ φ,renV φ r = r)
 (hK : AWo X ops l ((st.res m (.bld tb tu bl')).put d r) KK) : AWo X ops (o :: l) st KK:=by
 subst hv
 refine zG9 [m] hg hd h hc (by simp) (by simp only [renL,renV,φin_one,haz]) (by simp [hr,renR]) ?_
 have e : ([Res.bld tb tu bl'].map (renR (φout [m]))) = [Res.bld tb tu bl']:=rfl
 rw [e,zD3,hrr]
 exact hK
theorem zFw {f : FuncId} {m : Nat} {vs az : List V} {tb tu : TypeId} {bl bl' : List UInt8} {r : V} (hg : o.guard = none) (hd : o.dst = d) (h : act1 X.P st.rs (ev st) o.op = .call f vs) (hv : vs = .bx m 0 :: az) (hr : st.rs m = some (.bld tb tu bl))
 (hc : ACB X.e X.P f (.bx (pn 0) 0 :: az) [.bld tb tu bl] r [.bld tb tu bl']) (haz : ∀ φ,renL φ az = az) (hrr : ∀ φ,renV φ r = r) (hl : [m].all (fun n => (wr k).contains n) = true)
 (hK : absLexG X ops rd wr Q (k + 1) l ((st.res m (.bld tb tu bl')).put d r)) : absLexG X ops rd wr Q k (o :: l) st:=by
 subst hv
 refine g_callB [m] hg hd h hc (by simp) (by simp only [renL,renV,φin_one,haz]) (by simp [hr,renR]) rfl hl ?_
 have e : ([Res.bld tb tu bl'].map (renR (φout [m]))) = [Res.bld tb tu bl']:=rfl
 rw [e,zD3,hrr]
 exact hK
theorem res_res {m : Nat} {a b : Res} : (st.res m a).res m b = st.res m b:=by
 unfold Vst.res
 congr 1
 funext q
 unfold updR
 by_cases h : q = m <;> simp [h]
theorem s_bcall0 {f : FuncId} {m : Nat} {vs az : List V} {tb tu : TypeId} {bl' : List UInt8} {r : V} (hg : o.guard = none) (hd : o.dst = d) (h0 : act1 X.P st.rs (ev st) o.op = .call f vs) (hv : vs = .bx m 0 :: az) (hr : st.rs m = some (.box tb [.c (.pointer none),.c (.slice none 0 0)]))
 (hc : ACB X.e X.P f (.bx (pn 0) 0 :: az) [.bld tb tu []] r [.bld tb tu bl']) (h : act1 X.P (st.res m (.bld tb tu [])).rs (ev (st.res m (.bld tb tu []))) o.op = .call f vs) (haz : ∀ φ,renL φ az = az) (hrr : ∀ φ,renV φ r = r)
 (hK : AWo X ops l ((st.res m (.bld tb tu bl')).put d r) KK) : AWo X ops (o :: l) st KK:=by
 refine awo_sub (Sub.bld (e:=tu) hr) ?_
 refine zFj hg hd h hv (by simp [Vst.res,updR]) hc haz hrr ?_
 rw [res_res]
 exact hK
theorem s_bs {m : Nat} {vs : List V} {tb tu : TypeId} {bl : List UInt8} (hg : o.guard = none) (hd : o.dst = d) (h : act1 X.P st.rs (ev st) o.op = .call 49 vs) (hv : vs = [.bx m 0]) (hr : st.rs m = some (.bld tb tu bl)) (ht : tb = tb /\ tu = 5) (hP : X.P = Tryz.prog)
 (hK : AWo X ops l (st.put d (.c (.string (bs bl)))) KK) (hlen : bl.length <= maxLen) : AWo X ops (o :: l) st KK:=by
 obtain ⟨-,rfl⟩:=ht
 have hc:=zG7 (e:=X.e) (T:=tb) bl hlen
 rw [<- hP] at hc
 refine zFj hg hd h hv hr hc (fun _ => rfl) (fun _ => rfl) ?_
 rw [res_same hr]
 exact hK
end
theorem arr_size (l : List UInt8) : (⟨l.toArray⟩ : ByteArray).size = l.length:=zS l
def opens : List D -> List UInt8
 | [] => []
 | d :: ds => if d.n == 1 then opens ds else opens ds ++ [91]
def closes : List D -> List UInt8
 | [] => []
 | d :: ds => if d.n == 1 then closes ds ++ [33] else closes ds ++ [93]
theorem zFB : ∀ l,[91] ++ opens l = opens l ++ [91]
 | [] => rfl
 | d :: ds => by
   have:=zFB ds
   unfold opens
   split
   . exact this
   . rw [<- List.append_assoc,this]
theorem refB_eq (n : List UInt8) : ∀ l,refB n l = opens l ++ n ++ closes l
 | [] => by simp [refB,opens,closes]
 | d :: ds => by
   unfold refB opens closes
   rw [refB_eq n ds]
   split
   . simp
   . rw [<- zFB]; simp
theorem zDr : ∀ l,(opens l).length <= l.length
 | [] => Nat.le_refl _
 | d :: ds => by
   have:=zDr ds
   unfold opens
   split <;> simp <;> omega
theorem zDT : ∀ l,(closes l).length = l.length
 | [] => rfl
 | d :: ds => by
   have:=zDT ds
   unfold closes
   split <;> simp <;> omega
def H150 (n : List UInt8) (l : List D) (j : Nat) : Vst 29:=
 stS 29 [(1,.bx 1 0),(3,.bx 3 0),(4,.bx 4 0),(5,.c (.int .i64 ((j : Int) - 1)))] [(1,.box 71 [.c (.string (bs n)),.sl 3 l]),(3,.bld 92 5 (opens (l.drop j))),(4,.bld 92 5 (closes (l.drop j)))]
theorem refP_ac (n : List UInt8) (l : List D) (hn : n.length <= 16000000) (hl : l.length <= 16000000) : AC EN Tryz.prog 121 [.agg [.c (.string (bs n)),.sl 3 l]] (.c (.string (bs (refB n l)))):=by
 have ho:=zDr
 have hc:=zDT
 refine zO 29 Tryz.func121 rfl rfl rfl rfl ?_
 intro s w he
 repeat' (first
|refine zB ?_
|refine zC ?_
|refine zQ ?_
|apply aw_1
 conv => whnf
 refine ⟨?_,trivial⟩
|apply s_1
 conv => whnf; arg 1; arg 4; arg 3; whnf
 refine ⟨?_,?_⟩
|apply zAN rfl rfl rfl rfl
 . conv => lhs; whnf; arg 1; whnf
 . rfl
|exact trivial)
 . refine zu ((Sub.bld (m:=3) (e:=5) rfl).trans (Sub.bld (m:=4) (e:=5) rfl)) ?_
   refine zv (fun j st => j <= l.length /\ Sub (cx EN Tryz.prog s w he) st (H150 n l j)) l.length ⟨Nat.le_refl _,?_⟩ ?_
   . refine Sub.live ⟨rfl,rfl,rfl,rfl,trivial⟩ ⟨rfl,?_,?_,trivial⟩
     . rw [List.drop_length]; rfl
     . rw [List.drop_length]; rfl
   . rintro j st ⟨hj,hs⟩
     refine zu hs ?_
     have h1:=ho (l.drop j)
     have h2:=hc (l.drop j)
     rw [List.length_drop] at h1 h2
     have hdrop : 0 < j -> l.drop (j - 1) = gD l (j - 1) :: l.drop j:=fun h => by
      have hlt : j - 1 < l.length:=by omega
      rw [List.drop_eq_getElem_cons hlt,show j - 1 + 1 = j by omega]
      congr 1
      unfold gD; rw [List.getD_eq_getElem?_getD,List.getElem?_eq_getElem hlt]; rfl
     have hnat : ((j : Int) - 1).toNat = j - 1:=by omega
     repeat' (first
|apply s_wb rfl
 . conv => lhs; whnf
 . conv => lhs; whnf
 . rfl
 . conv => lhs; whnf; arg 1; whnf
 . rfl
 . rfl
|apply y_bs rfl
 . conv => lhs; whnf
 . conv => lhs; whnf
 . rfl
 . conv => lhs; whnf; arg 1; whnf
 . rfl
|refine zB ?_
|refine zC ?_
|refine zQ ?_
|refine zU ?_
|apply aw_1
 conv => whnf
 refine ⟨?_,trivial⟩
|apply s_1
 conv => whnf; arg 1; arg 4; arg 3; whnf
 refine ⟨?_,?_⟩
|apply zAJ (by kernel_rfl) (by kernel_rfl)
|apply zAx
|apply zAw rfl
 . conv => lhs; whnf
 . conv => lhs; whnf; arg 2; whnf
|exact zd
|exact zy
|exact all_nil
|exact (1000000 : Nat)
|refine zV (by conv => lhs; whnf) ?_ ?_ <;> intro hb
|refine zI ?_
|refine zE rfl ?_
|refine zG ?_
|refine zD ?_
|refine ⟨_,by conv => lhs; whnf; arg 2; whnf,?_⟩; conv => rhs; whnf
|exact trivial)
     . rename_i hb0
       have hj0 : 0 < j:=by simp at hb0; omega
       refine zF (j':=j - 1) (by omega) ⟨by omega,Sub.live ⟨rfl,rfl,rfl,?_,trivial⟩ ⟨rfl,?_,?_,trivial⟩⟩
       . show V.c (.int .i64 ((j : Int) - 1 - 1)) = _
         rw [show ((j - 1 : Nat) : Int) - 1 = (j : Int) - 1 - 1 by omega]
       . show some (Res.bld _ _ (opens (l.drop j))) = _
         rw [hdrop hj0,opens]
         rw [hnat] at hb
         rw [if_pos hb]
       . show some (Res.bld _ _ (closes (l.drop j) ++ [33])) = _
         rw [hdrop hj0,closes]
         rw [hnat] at hb
         rw [if_pos hb]
     . exact zo (by omega)
     . omega
     . rename_i hb0
       have hj0 : 0 < j:=by simp at hb0; omega
       refine zF (j':=j - 1) (by omega) ⟨by omega,Sub.live ⟨rfl,rfl,rfl,?_,trivial⟩ ⟨rfl,?_,?_,trivial⟩⟩
       . show V.c (.int .i64 ((j : Int) - 1 - 1)) = _
         rw [show ((j - 1 : Nat) : Int) - 1 = (j : Int) - 1 - 1 by omega]
       . show some (Res.bld _ _ (opens (l.drop j) ++ [91])) = _
         rw [hdrop hj0,opens]
         rw [hnat] at hb
         rw [if_neg (by rw [hb]; simp)]
       . show some (Res.bld _ _ (closes (l.drop j) ++ [93])) = _
         rw [hdrop hj0,closes]
         rw [hnat] at hb
         rw [if_neg (by rw [hb]; simp)]
     . exact zo (by omega)
     . omega
     . omega
     . simp at hb; omega
     . have hj0 : j = 0:=by simp at hb; omega
       subst hj0
       rw [List.drop_zero,refB_eq,<- zR,<- zR]
       rfl
     all_goals (simp only [ByteArray.size_append,zS,arr_size,maxLen]; omega)
 . exact zo (by omega)
theorem zBe (l : List UInt8) : ∀ n,(Lib.repeatL l n).length = l.length * n
 | 0 => by simp [Lib.repeatL]
 | n + 1 => by rw [Lib.repeatL,List.length_append,zBe l n,Nat.mul_add]; omega
theorem repeat_ac (s : ByteArray) (c : Nat) (hc : c <= 1000000) (hs : s.size <= 1000) : AC EN Tryz.prog 197 [.c (.string s),.c (.int .i64 (c : Int))] (.c (.string (bs (Lib.repeatL (tx s) c)))):=
 zGA fun s1 w us hus he => by
  have hm : s.size * c <= 1000 * 1000000:=Nat.mul_le_mul hs hc
  refine ⟨zHi (by rw [zBe,zAP]; omega),?_⟩
  obtain ⟨u,u2,rfl,h,h2⟩:=zHB hus
  rw [rel] at h h2
  obtain ⟨rfl,-⟩:=h
  obtain ⟨rfl,-⟩:=h2
  exact Tryz.strings_Repeat s c w (by omega) (by omega)
theorem zHK : LiesB 110:=by unfold LiesB; kernel_rfl
def zA1 (n : Nat) (t : List UInt8) : List UInt8:=Lib.repeatL [32,32] n ++ t ++ [10]
theorem zAe (n : Nat) (t : List UInt8) : (zA1 n t).length = 2 * n + t.length + 1:=by
 simp only [zA1,List.length_append,zBe,List.length_cons,List.length_nil]
theorem zCe (l : List UInt8) (n : Nat) (t : ByteArray) (hn : n <= 1000000) (ht : t.size <= 8000000000) (hl : l.length <= 10000000000000) :
 ACB EN Tryz.prog 115 [.bx (pn 0) 0,.c (.int .i64 (n : Int)),.c (.string t)] [.bld 110 5 l] (.tup []) [.bld 110 5 (l ++ zA1 n (tx t))]:=by
 have hr:=repeat_ac ⟨#[32,32]⟩ n hn (by decide)
 have e0 : bs (zA1 n (tx t)) = bs (Lib.repeatL [32,32] n) ++ t ++ ⟨#[10]⟩:=by rw [zA1,<- zR,<- zR,zA4]; rfl
 have hw:=zDw (e:=EN) zHK l (bs (zA1 n (tx t))) (by rw [zS,zAe,zAP]; omega)
 rw [zAS,e0] at hw
 refine zG0 15 Tryz.func115 rfl rfl ?_
 intro pas s w he hp
 have e : (Lib.repeatL (tx ⟨#[32,32]⟩) n).length = 2 * n:=zBe _ n
 repeat' (first
|apply zBT 9 ([]) ([(8,[1000000])]) rfl (by kernel_rfl) (by kernel_rfl) (by kernel_rfl)
|apply zGf
|apply zGe rfl
 . conv => lhs; whnf
 . conv => lhs; whnf; arg 2; whnf
|apply zDt rfl
 . conv => lhs; whnf
 . conv => lhs; whnf
 . first | exact hr
|apply zFw rfl
 . conv => lhs; whnf
 . conv => lhs; whnf
 . rfl
 . conv => lhs; whnf; arg 1; whnf
 . first | exact hw
 . exact fun _ => rfl
 . exact fun _ => rfl
 . rfl
|show inO _ _ = true; rfl
|refine k_endB ⟨?_,?_⟩
|exact (rfl : _ = V.tup [])
|exact trivial)
 . exact ⟨rfl,trivial⟩
 . rw [ByteArray.size_append,zS,e]
   show 2 * n + t.size + 1 <= maxLen
   unfold maxLen; omega
 . rw [zS,e]
   unfold maxLen; omega
end Go.Proofs.YthjiclhfhjdjpaaGreatDoor
namespace Go.Proofs.YthjiclhfhjdjpaaGreatDoor
def zBc (K : Nat) (s : D) : List UInt8:=
 if (s.f 0).n = 2 then [46,46,46] ++ tx (s.f 2).s ++ zCL K (s.f 5).l
 else if (s.f 0).n = 3 then [46,46,46] ++ (if tx (s.f 3).s = [] then [] else [32,111,110,32] ++ tx (s.f 3).s) ++ zCL K (s.f 5).l
 else (if tx (s.f 1).s = [] then [] else tx (s.f 1).s ++ [58,32]) ++ (tx (s.f 2).s ++ parT K (s.f 4).l ++ zCL K (s.f 5).l)
def zB0 (s : D) : Bool:=(s.f 0).n == 3 || ((s.f 0).n != 2 && (s.f 6).l.length != 0)
def selT (K : Nat) (inner : List D -> List UInt8) (n : Nat) (s : D) : List UInt8:=
 if zB0 s = true then zA1 n (zBc K s ++ [32,123]) ++ inner (s.f 6).l ++ zA1 n [125] else zA1 n (zBc K s)
def selsT (K : Nat) : Nat -> Nat -> List D -> List UInt8
 | 0,_,_ => []
 | f + 1,n,l => (l.map (selT K (selsT K f (n + 1)) n)).flatten
structure SelOk (K : Nat) (inner : List D -> Prop) (s : D) : Prop where
 args : ArgsOk K (s.f 4).l
 dirs : DirsOk K (s.f 5).l
 kind : (s.f 0).n = 1 \/ ((s.f 0).n = 2 /\ (s.f 6).l = []) \/ ((s.f 0).n = 3 /\ (s.f 6).l ≠ [])
 sub : inner (s.f 6).l
def SelsOk (K : Nat) : Nat -> List D -> Prop
 | 0,l => l = []
 | f + 1,l => ∀ i,i < l.length -> SelOk K (SelsOk K f) (gD l i)
theorem zEb (K : Nat) (s : D) (h : wideD s) : (zBc K s).length + 60 * (wD (s.f 6)) <= 60 * wD s + 20:=by
 have hf:=zAn s 7
 simp only [sumN] at hf
 have h1:=zAG (s.f 1)
 have h2:=zAG (s.f 2)
 have h3:=zAG (s.f 3)
 have h4:=z7 (s.f 4)
 have h5:=z7 (s.f 5)
 have t1:=zAP (s.f 1).s
 have t2:=zAP (s.f 2).s
 have t3:=zAP (s.f 3).s
 have p:=zD5 K (s.f 4).l fun i => (h.f 4).l i
 have q:=zGJ K (s.f 5).l fun i => (h.f 5).l i
 unfold zBc
 split
 . simp only [List.length_append,List.length_cons,List.length_nil]; omega
 split
 . split <;> simp only [List.length_append,List.length_cons,List.length_nil] <;> omega
 . split <;> simp only [List.length_append,List.length_cons,List.length_nil] <;> omega
theorem flat_le (l : List D) (f : D -> List UInt8) (c : Nat) (h : ∀ i,i < l.length -> (f (gD l i)).length <= c * bulkD (gD l i)) : (l.map f).flatten.length <= c * bulkL l:=by
 induction l with
 | nil => simp
 | cons x r ih =>
   have h0:=h 0 (by simp)
   have h1:=ih fun i hi => h (i + 1) (by simpa using hi)
   simp only [List.map_cons,List.flatten_cons,List.length_append,bulkL,Nat.mul_add]
   have e : gD (x :: r) 0 = x:=rfl
   rw [e] at h0
   omega
theorem zB4 (K : Nat) : ∀ (f n : Nat) (l : List D),(∀ i,wideD (gD l i)) -> (selsT K f n l).length <= (4 * (n + f) + 70) * bulkL l
 | 0,_,_,_ => by simp [selsT]
 | f + 1,n,l,hw => by
   unfold selsT
   refine flat_le l _ _ fun i hi => ?_
   have h:=hw i
   have hh:=zEb K (gD l i) h
   have hb:=zZ (gD l i)
   have h6:=z7 ((gD l i).f 6)
   have hs:=zB4 K f (n + 1) ((gD l i).f 6).l fun j => (h.f 6).l j
   have hf6:=wD_f (gD l i) 6
   rw [show n + 1 + f = n + (f + 1) by omega] at hs
   generalize hc : 4 * (n + (f + 1)) + 70 = c at hs |-
   have hc60 : 60 <= c:=by omega
   have e1 : c * bulkL ((gD l i).f 6).l <= c * wD ((gD l i).f 6):=Nat.mul_le_mul_left c h6
   obtain ⟨q,hq⟩:=Nat.exists_eq_add_of_le hf6
   have e2 : c * bulkD (gD l i) = c * wD ((gD l i).f 6) + c * q + c:=by rw [hb,hq,Nat.mul_add,Nat.mul_add,Nat.mul_one]
   have e3 : 60 * q <= c * q:=Nat.mul_le_mul_right q hc60
   unfold selT
   split
   . simp only [List.length_append,zAe,List.length_cons,List.length_nil]; omega
   . simp only [zAe]; omega
theorem zE5 {K f n : Nat} {l : List D} {i : Nat} (h : i < l.length) : ((l.take (i + 1)).map (selT K (selsT K f (n + 1)) n)).flatten = ((l.take i).map (selT K (selsT K f (n + 1)) n)).flatten ++ selT K (selsT K f (n + 1)) n (gD l i):=by
 rw [List.take_succ_eq_append_getElem h,List.map_append,List.flatten_append,zAt h]
 simp
theorem zBN {K f n : Nat} {l : List D} (i : Nat) : ((l.take i).map (selT K (selsT K f (n + 1)) n)).flatten.length <= (selsT K (f + 1) n l).length:=by
 unfold selsT
 conv => rhs; rw [<- List.take_append_drop i l,List.map_append,List.flatten_append,List.length_append]
 omega
end Go.Proofs.YthjiclhfhjdjpaaGreatDoor
namespace Go.Proofs.YthjiclhfhjdjpaaGreatDoor
open Go.RowKit
attribute [local irreducible] wpList Calls Code.wp AW AWo OpOk seqK zAf zAh loopK endK AC zAD Yld Sub
attribute [local irreducible] ACB absLexG YldG
def befT (K f n : Nat) (l : List D) (i : Nat) : List UInt8:=((l.take i).map (selT K (selsT K f (n + 1)) n)).flatten
noncomputable def HsP (K f n : Nat) (l : List D) (bl : List UInt8) (i : Nat) : Vst 85:=
 stS 85 [(0,.bx 1000000 0),(2,.c (.int .i64 n)),(9,.sl 76 l),(10,.c (.int .i64 l.length)),(11,.c (.int .i64 i))] [(1000000,.bld 110 5 (bl ++ befT K f n l i))]
theorem zGO (K f n : Nat) (l : List D) (bl : List UInt8) (h : SelsOk K (f + 1) l) (hw : ∀ i,wideD (gD l i)) (hb : bulkL l <= 8388608) (hn : n + f <= 300) (hlen : bl.length + (selsT K (f + 1) n l).length <= 80000000000 + 8000000000 * n)
 (ih : ∀ i,i < l.length -> ((gD l i).f 6).l ≠ [] -> ∀ b2 : List UInt8,b2.length + (selsT K f (n + 1) ((gD l i).f 6).l).length <= 80000000000 + 8000000000 * (n + 1) -> ACB EN Tryz.prog 55 [.bx (pn 0) 0,.sl 76 ((gD l i).f 6).l,.c (.int .i64 ((n : Int) + 1))] [.bld 110 5 b2] (.tup []) [.bld 110 5 (b2 ++ selsT K f (n + 1) ((gD l i).f 6).l)]) :
 ACB EN Tryz.prog 55 [.bx (pn 0) 0,.sl 76 l,.c (.int .i64 (n : Int))] [.bld 110 5 bl] (.tup []) [.bld 110 5 (bl ++ selsT K (f + 1) n l)]:=by
 have hll:=zAR l
 refine zG0 85 Tryz.func55 rfl rfl ?_
 intro pas s w he hp
 repeat' (first
|refine zB ?_
|refine zC ?_
|refine zQ ?_
|apply aw_1
 conv => whnf
 refine ⟨?_,trivial⟩
|apply s_1
 conv => whnf; arg 1; arg 4; arg 3; whnf
 refine ⟨?_,?_⟩
|exact trivial)
 refine zv (fun j st => ∃ i,i + j = l.length /\ Sub ⟨Tryz.prog,pas,s,w,EN,he,hp,fun _ _ _ => False,[]⟩ st (HsP K f n l bl i)) l.length ⟨0,by omega,?_⟩ ?_
 . refine Sub.live ⟨rfl,rfl,rfl,rfl,rfl,trivial⟩ ⟨?_,trivial⟩
   show some (Res.bld _ _ bl) = some (Res.bld _ _ (bl ++ []))
   rw [List.append_nil]
 . rintro j st ⟨i,hij,hs2⟩
   refine zu hs2 ?_
   by_cases hi : i < l.length
   . have hok:=h i hi
     have hda:=tail_ac K ((gD l i).f 5).l hok.dirs
     have haa:=argsP_ac K ((gD l i).f 4).l hok.args
     have hbe : (befT K f n l i).length <= (selsT K (f + 1) n l).length:=zBN i
     have hbe1 : (befT K f n l (i + 1)).length <= (selsT K (f + 1) n l).length:=zBN (i + 1)
     have hnx : befT K f n l (i + 1) = befT K f n l i ++ selT K (selsT K f (n + 1)) n (gD l i):=zE5 hi
     have hhl:=zEb K (gD l i) (hw i)
     have hbi:=zAH hi
     have hbw:=zZ (gD l i)
     have hs1 : ((gD l i).f 1).s.size <= 8388608:=by have:=zAG ((gD l i).f 1); have:=wD_f (gD l i) 1; omega
     have hs2 : ((gD l i).f 2).s.size <= 8388608:=by have:=zAG ((gD l i).f 2); have:=wD_f (gD l i) 2; omega
     have hs3 : ((gD l i).f 3).s.size <= 8388608:=by have:=zAG ((gD l i).f 3); have:=wD_f (gD l i) 3; omega
     have hpa : (parT K ((gD l i).f 4).l).length <= 320000000:=by have:=zD5 K _ hok.args.wide; have:=hok.args.bulk; omega
     have hta : (zCL K ((gD l i).f 5).l).length <= 320000000:=by have:=zGJ K _ hok.dirs.wide; have:=hok.dirs.bulk; omega
     have ne3 : (((gD l i).f 0).n == 3) = true -> ((gD l i).f 6).l ≠ []:=fun hk => by
      have hk : ((gD l i).f 0).n = 3:=by simpa using hk
      rcases hok.kind with h1 | ⟨h1,_⟩ | ⟨_,h2⟩
      . omega
      . omega
      . exact h2
     have neL : ((((gD l i).f 6).l.length : Int) == 0) = false -> ((gD l i).f 6).l ≠ []:=fun hk e => by rw [e] at hk; simp at hk
     have hin : zB0 (gD l i) = true -> (befT K f n l i).length + (selsT K f (n + 1) ((gD l i).f 6).l).length <= (selsT K (f + 1) n l).length:=fun ho => by
      have e:=congrArg List.length hnx
      rw [List.length_append,selT,if_pos ho] at e
      simp only [List.length_append] at e
      omega
     have hin3 : (((gD l i).f 0).n == 3) = true -> (befT K f n l i).length + (selsT K f (n + 1) ((gD l i).f 6).l).length <= (selsT K (f + 1) n l).length:=fun hk => hin (by unfold zB0; rw [hk]; rfl)
     have op2 : (((gD l i).f 0).n == 2) = false -> ((((gD l i).f 6).l.length : Int) == 0) = false -> zB0 (gD l i) = true:=fun h2 hk => by
      unfold zB0
      have h0 : (((gD l i).f 6).l.length != 0) = true:=by
       have : ¬ ((((gD l i).f 6).l.length : Int)) = 0:=by simpa using hk
       simp; exact fun e => this (by rw [e]; rfl)
      rw [h0,show (((gD l i).f 0).n != 2) = true by rw [bne,h2]; rfl]; simp
     have hinL : (((gD l i).f 0).n == 2) = false -> ((((gD l i).f 6).l.length : Int) == 0) = false -> (befT K f n l i).length + (selsT K f (n + 1) ((gD l i).f 6).l).length <= (selsT K (f + 1) n l).length:=fun h2 hk => hin (op2 h2 hk)
     repeat' (first
|apply zBT 10 ([(3,[7]),(6,[7])]) ([(9,[1000000])]) rfl (by kernel_rfl) (by kernel_rfl) (by kernel_rfl)
|apply zGf
|apply zGe rfl
 . conv => lhs; whnf
 . conv => lhs; whnf; arg 2; whnf
|apply zDt rfl
 . conv => lhs; whnf
 . conv => lhs; whnf
 . first | exact hda | exact haa
|apply zFw rfl
 . conv => lhs; whnf
 . conv => lhs; whnf
 . rfl
 . conv => lhs; whnf; arg 1; whnf
 . first | exact zCe _ n _ (by omega) (by simp only [ByteArray.size_append,zS,zT,List.size_toArray,List.length_append,List.length_cons,List.length_nil,zAe,zAP,Nat.reduceAdd,Int.toNat_natCast]; omega) (by simp only [ByteArray.size_append,zS,zT,List.size_toArray,List.length_append,List.length_cons,List.length_nil,zAe,zAP,Nat.reduceAdd,Int.toNat_natCast]; omega)
 . exact fun _ => rfl
 . exact fun _ => rfl
 . rfl
|show inO _ _ = true; rfl
|apply zFj rfl
 . conv => lhs; whnf
 . conv => lhs; whnf
 . rfl
 . conv => lhs; whnf; arg 1; whnf
 . first | exact zCe _ n _ (by omega) (by simp only [ByteArray.size_append,zS,zT,List.size_toArray,List.length_append,List.length_cons,List.length_nil,zAe,zAP,Nat.reduceAdd,Int.toNat_natCast]; omega) (by simp only [ByteArray.size_append,zS,zT,List.size_toArray,List.length_append,List.length_cons,List.length_nil,zAe,zAP,Nat.reduceAdd,Int.toNat_natCast]; omega) | exact zCe _ n _ (by omega) (by simp only [ByteArray.size_append,zS,zT,List.size_toArray,List.length_append,List.length_cons,List.length_nil,zAe,zAP,Nat.reduceAdd,Int.toNat_natCast] ; omega) (by have:=hin3 ‹_› ; simp only [ByteArray.size_append,zS,zT,List.size_toArray,List.length_append,List.length_cons,List.length_nil,zAe,zAP,Nat.reduceAdd,Int.toNat_natCast] ; omega) | exact zCe _ n _ (by omega) (by simp only [ByteArray.size_append,zS,zT,List.size_toArray,List.length_append,List.length_cons,List.length_nil,zAe,zAP,Nat.reduceAdd,Int.toNat_natCast] ; omega) (by have:=hinL ‹_› ‹_› ; simp only [ByteArray.size_append,zS,zT,List.size_toArray,List.length_append,List.length_cons,List.length_nil,zAe,zAP,Nat.reduceAdd,Int.toNat_natCast] ; omega) | exact ih i hi (ne3 ‹_›) _ (by have:=hin3 ‹_› ; simp only [ByteArray.size_append,zS,zT,List.size_toArray,List.length_append,List.length_cons,List.length_nil,zAe,zAP,Nat.reduceAdd,Int.toNat_natCast] ; omega) | exact ih i hi (neL ‹_›) _ (by have:=hinL ‹_› ‹_› ; simp only [ByteArray.size_append,zS,zT,List.size_toArray,List.length_append,List.length_cons,List.length_nil,zAe,zAP,Nat.reduceAdd,Int.toNat_natCast] ; omega)
 . exact fun _ => rfl
 . exact fun _ => rfl
|refine zB ?_
|refine zC ?_
|refine zQ ?_
|refine zU ?_
|apply aw_1
 conv => whnf
 refine ⟨?_,trivial⟩
|apply s_1
 conv => whnf; arg 1; arg 4; arg 3; whnf
 refine ⟨?_,?_⟩
|apply zl rfl
 . conv => lhs; whnf
 . conv => lhs; whnf
 . first | exact hda | exact haa
|apply zz rfl rfl rfl
 . conv => lhs; whnf
 . conv => lhs; whnf; arg 1; whnf
 . conv => lhs; whnf; arg 1; whnf
 . exact ⟨by kernel_rfl,by kernel_rfl⟩
 . rfl
|apply zAJ (by kernel_rfl) (by kernel_rfl)
|apply zAx
|apply zAw rfl
 . conv => lhs; whnf
 . conv => lhs; whnf; arg 2; whnf
|apply zAq rfl
 . conv => lhs; whnf
 . conv => lhs; whnf
 . first | exact hda | exact haa
|exact zd
|exact zy
|exact (1000000 : Nat)
|refine zV (by conv => lhs; whnf) ?_ ?_ <;> intro hb
|refine zI ?_
|refine zE rfl ?_
|refine zb rfl ?_
|refine zG ?_
|refine k_endB ⟨?_,?_⟩
|exact (rfl : _ = V.tup [])
|exact trivial)
     all_goals first
      | exact zo (by omega)
      | ((simp only [ByteArray.size_append,zS,zT,List.size_toArray,List.length_append,List.length_cons,List.length_nil,maxLen,Nat.reduceAdd,Int.toNat_natCast]; omega); done)
      | exact zC3 hb
      | skip
     . have hk : ((gD l i).f 0).n = 2:=by simpa using hb
       have ho : zB0 (gD l i) = false:=by simp [zB0,hk]
       refine zF (j':=j - 1) (by omega) ⟨i + 1,by omega,Sub.live ⟨rfl,rfl,rfl,rfl,rfl,trivial⟩ ⟨?_,trivial⟩⟩
       show some (Res.bld _ _ (bl ++ befT K f n l i ++ zA1 n (tx (⟨#[46,46,46]⟩ ++ ((gD l i).f 2).s ++ bs (zCL K ((gD l i).f 5).l))))) = _
       rw [hnx,selT,if_neg (by rw [ho]; decide),zBc,if_pos hk,zY,zY,zAS,List.append_assoc]; rfl
     . rename_i h2 h3
       have hk : ((gD l i).f 0).n = 3:=by simpa using h3
       have ho : zB0 (gD l i) = true:=by simp [zB0,hk]
       have he : tx ((gD l i).f 3).s ≠ []:=s_ne hb
       refine zF (j':=j - 1) (by omega) ⟨i + 1,by omega,Sub.live ⟨rfl,rfl,rfl,rfl,rfl,trivial⟩ ⟨?_,trivial⟩⟩
       show some (Res.bld _ _ (bl ++ befT K f n l i ++ zA1 n (tx (⟨#[46,46,46]⟩ ++ (⟨#[32,111,110,32]⟩ ++ ((gD l i).f 3).s) ++ bs (zCL K ((gD l i).f 5).l) ++ ⟨#[32,123]⟩)) ++ selsT K f (n + 1) ((gD l i).f 6).l ++ zA1 n (tx ⟨#[125]⟩))) = _
       rw [hnx,selT,if_pos ho,zBc,if_neg (by omega),if_pos hk,if_neg he]
       simp only [zY,zAS,List.append_assoc]; rfl
     . rename_i h2 h3
       have hk : ((gD l i).f 0).n = 3:=by simpa using h3
       have ho : zB0 (gD l i) = true:=by simp [zB0,hk]
       have he : tx ((gD l i).f 3).s = []:=s_eq hb
       refine zF (j':=j - 1) (by omega) ⟨i + 1,by omega,Sub.live ⟨rfl,rfl,rfl,rfl,rfl,trivial⟩ ⟨?_,trivial⟩⟩
       show some (Res.bld _ _ (bl ++ befT K f n l i ++ zA1 n (tx (⟨#[46,46,46]⟩ ++ bs (zCL K ((gD l i).f 5).l) ++ ⟨#[32,123]⟩)) ++ selsT K f (n + 1) ((gD l i).f 6).l ++ zA1 n (tx ⟨#[125]⟩))) = _
       rw [hnx,selT,if_pos ho,zBc,if_neg (by omega),if_pos hk,if_pos he]
       simp only [zY,zAS,List.append_assoc]; rfl
     . rename_i h2 h3 ha
       have hk2 : ¬ ((gD l i).f 0).n = 2:=by simpa using h2
       have hk3 : ¬ ((gD l i).f 0).n = 3:=by simpa using h3
       have hl0 : ((gD l i).f 6).l.length = 0:=by have : ((((gD l i).f 6).l.length : Int)) = 0:=by simpa using hb
                                                  omega
       have ho : zB0 (gD l i) = false:=by simp [zB0,hk3,hl0]
       have he : tx ((gD l i).f 1).s ≠ []:=s_ne ha
       refine zF (j':=j - 1) (by omega) ⟨i + 1,by omega,Sub.live ⟨rfl,rfl,rfl,rfl,rfl,trivial⟩ ⟨?_,trivial⟩⟩
       show some (Res.bld _ _ (bl ++ befT K f n l i ++ zA1 n (tx (((gD l i).f 1).s ++ ⟨#[58,32]⟩ ++ (((gD l i).f 2).s ++ bs (parT K ((gD l i).f 4).l) ++ bs (zCL K ((gD l i).f 5).l)))))) = _
       rw [hnx,selT,if_neg (by rw [ho]; decide),zBc,if_neg hk2,if_neg hk3,if_neg he]
       simp only [zY,zAS,List.append_assoc]; rfl
     . rename_i h2 h3 ha
       have hk2 : ¬ ((gD l i).f 0).n = 2:=by simpa using h2
       have hk3 : ¬ ((gD l i).f 0).n = 3:=by simpa using h3
       have ho : zB0 (gD l i) = true:=op2 h2 hb
       have he : tx ((gD l i).f 1).s ≠ []:=s_ne ha
       refine zF (j':=j - 1) (by omega) ⟨i + 1,by omega,Sub.live ⟨rfl,rfl,rfl,rfl,rfl,trivial⟩ ⟨?_,trivial⟩⟩
       show some (Res.bld _ _ (bl ++ befT K f n l i ++ zA1 n (tx (((gD l i).f 1).s ++ ⟨#[58,32]⟩ ++ (((gD l i).f 2).s ++ bs (parT K ((gD l i).f 4).l) ++ bs (zCL K ((gD l i).f 5).l)) ++ ⟨#[32,123]⟩)) ++ selsT K f (n + 1) ((gD l i).f 6).l ++ zA1 n (tx ⟨#[125]⟩))) = _
       rw [hnx,selT,if_pos ho,zBc,if_neg hk2,if_neg hk3,if_neg he]
       simp only [zY,zAS,List.append_assoc]; rfl
     . rename_i h2 h3 ha
       have hk2 : ¬ ((gD l i).f 0).n = 2:=by simpa using h2
       have hk3 : ¬ ((gD l i).f 0).n = 3:=by simpa using h3
       have hl0 : ((gD l i).f 6).l.length = 0:=by have : ((((gD l i).f 6).l.length : Int)) = 0:=by simpa using hb
                                                  omega
       have ho : zB0 (gD l i) = false:=by simp [zB0,hk3,hl0]
       have he : tx ((gD l i).f 1).s = []:=s_eq ha
       refine zF (j':=j - 1) (by omega) ⟨i + 1,by omega,Sub.live ⟨rfl,rfl,rfl,rfl,rfl,trivial⟩ ⟨?_,trivial⟩⟩
       show some (Res.bld _ _ (bl ++ befT K f n l i ++ zA1 n (tx (⟨#[]⟩ ++ (((gD l i).f 2).s ++ bs (parT K ((gD l i).f 4).l) ++ bs (zCL K ((gD l i).f 5).l)))))) = _
       rw [hnx,selT,if_neg (by rw [ho]; decide),zBc,if_neg hk2,if_neg hk3,if_pos he]
       simp only [zY,zAS,List.append_assoc]; rfl
     . rename_i h2 h3 ha
       have hk2 : ¬ ((gD l i).f 0).n = 2:=by simpa using h2
       have hk3 : ¬ ((gD l i).f 0).n = 3:=by simpa using h3
       have ho : zB0 (gD l i) = true:=op2 h2 hb
       have he : tx ((gD l i).f 1).s = []:=s_eq ha
       refine zF (j':=j - 1) (by omega) ⟨i + 1,by omega,Sub.live ⟨rfl,rfl,rfl,rfl,rfl,trivial⟩ ⟨?_,trivial⟩⟩
       show some (Res.bld _ _ (bl ++ befT K f n l i ++ zA1 n (tx (⟨#[]⟩ ++ (((gD l i).f 2).s ++ bs (parT K ((gD l i).f 4).l) ++ bs (zCL K ((gD l i).f 5).l)) ++ ⟨#[32,123]⟩)) ++ selsT K f (n + 1) ((gD l i).f 6).l ++ zA1 n (tx ⟨#[125]⟩))) = _
       rw [hnx,selT,if_pos ho,zBc,if_neg hk2,if_neg hk3,if_pos he]
       simp only [zY,zAS,List.append_assoc]; rfl
     . have : l.length <= i:=zCK hb
       omega
   . have hno : decide ((i : Int) < (l.length : Int)) = true -> False:=fun h => hi (zAW h)
     repeat' (first
|exact (hno ‹_›).elim
|refine zB ?_
|refine zC ?_
|refine zQ ?_
|apply aw_1
 conv => whnf
 refine ⟨?_,trivial⟩
|apply s_1
 conv => whnf; arg 1; arg 4; arg 3; whnf
 refine ⟨?_,?_⟩
|refine zV (by conv => lhs; whnf) ?_ ?_ <;> intro hb
|refine zI ?_
|refine zE rfl ?_
|refine zG ?_
|refine k_endB ⟨?_,?_⟩
|exact (rfl : _ = V.tup [])
|exact trivial)
     refine ⟨?_,trivial⟩
     show some (Res.bld _ _ (bl ++ befT K f n l i)) = _
     have e : i = l.length:=by omega
     rw [e,befT,List.take_length]; rfl
theorem sels_acb (K : Nat) : ∀ (f n : Nat) (l : List D) (bl : List UInt8),SelsOk K (f + 1) l -> (∀ i,wideD (gD l i)) -> bulkL l <= 8388608 -> n + f <= 300 -> bl.length + (selsT K (f + 1) n l).length <= 80000000000 + 8000000000 * n ->
 ACB EN Tryz.prog 55 [.bx (pn 0) 0,.sl 76 l,.c (.int .i64 (n : Int))] [.bld 110 5 bl] (.tup []) [.bld 110 5 (bl ++ selsT K (f + 1) n l)]:=by
 intro f
 induction f with
 | zero =>
   intro n l bl h hw hb hn hlen
   exact zGO K 0 n l bl h hw hb hn hlen fun i hi hne => absurd (h i hi).sub hne
 | succ f ih =>
   intro n l bl h hw hb hn hlen
   refine zGO K (f + 1) n l bl h hw hb hn hlen fun i hi hne b2 hb2 => ?_
   have hbi:=zAH hi
   have h6:=z7 ((gD l i).f 6)
   have hf6:=wD_f (gD l i) 6
   have hbw:=zZ (gD l i)
   exact ih (n + 1) ((gD l i).f 6).l b2 (h i hi).sub (fun j => ((hw i).f 6).l j) (by omega) (by omega) hb2
end Go.Proofs.YthjiclhfhjdjpaaGreatDoor
namespace Go.Proofs.YthjiclhfhjdjpaaGreatDoor
open Go.RowKit
attribute [local irreducible] wpList Calls Code.wp AW AWo OpOk seqK zAf zAh loopK endK AC zAD Yld Sub
theorem zA0 {l : List UInt8} {e : ByteArray} (h : tx e = l) : V.c (.string (bs l)) = V.c (.string e):=by rw [<- h,zA4]
theorem zH5 (l : List UInt8) : ∀ n,Lib.repeatL l (n + 1) = Lib.repeatL l n ++ l
 | 0 => by simp [Lib.repeatL]
 | n + 1 => by
   show l ++ Lib.repeatL l (n + 1) = (l ++ Lib.repeatL l n) ++ l
   rw [zH5 l n,List.append_assoc]
noncomputable def HiR (n i : Nat) : Vst 13:=stS 13 [(0,.c (.int .i64 n)),(3,.c (.string (bs (Lib.repeatL [32,32] i)))),(4,.c (.int .i64 i))] []
theorem indentR_ac (n : Nat) (hn : n <= 1000000) : AC EN Tryz.prog 118 [.c (.int .i64 (n : Int))] (.c (.string (bs (Lib.repeatL [32,32] n)))):=by
 refine zO 13 Tryz.func118 rfl rfl rfl rfl ?_
 intro s w he
 repeat' (first
|refine zB ?_
|refine zC ?_
|refine zQ ?_
|apply aw_1
 conv => whnf
 refine ⟨?_,trivial⟩
|apply s_1
 conv => whnf; arg 1; arg 4; arg 3; whnf
 refine ⟨?_,?_⟩
|exact trivial)
 refine zv (fun j st => ∃ i,i + j = n /\ Sub (cx EN Tryz.prog s w he) st (HiR n i)) n ⟨0,by omega,?_⟩ ?_
 . exact Sub.live ⟨rfl,rfl,rfl,trivial⟩ trivial
 . rintro j st ⟨i,hij,hs2⟩
   refine zu hs2 ?_
   have e : (Lib.repeatL [32,32] i).length = 2 * i:=zBe _ i
   repeat' (first
|refine zB ?_
|refine zC ?_
|refine zQ ?_
|refine zU ?_
|apply aw_1
 conv => whnf
 refine ⟨?_,trivial⟩
|apply s_1
 conv => whnf; arg 1; arg 4; arg 3; whnf
 refine ⟨?_,?_⟩
|refine zV (by conv => lhs; whnf) ?_ ?_ <;> intro hb
|refine zI ?_
|refine zE rfl ?_
|refine zG ?_
|refine zD ?_
|refine ⟨_,by conv => lhs; whnf; arg 2; whnf,?_⟩; conv => rhs; whnf
|exact trivial)
   . have hi:=zAW hb
     refine zF (j':=j - 1) (by omega) ⟨i + 1,by omega,Sub.live ⟨rfl,?_,rfl,trivial⟩ trivial⟩
     show V.c (.string (bs (Lib.repeatL [32,32] i) ++ ⟨#[32,32]⟩)) = _
     rw [zH5,<- zR]; rfl
   . exact zo (by omega)
   . rw [zS,e]
     show 2 * i + 2 <= maxLen
     unfold maxLen; omega
   . have e2 : i = n:=by have:=zCK hb; omega
     rw [e2]
theorem zBM (K : Nat) (l : List D) : zCL K l = if 0 < l.length then [32] ++ zGq K l else []:=by
 unfold zCL
 by_cases h : l.length = 0
 . rw [if_pos h,if_neg (by omega)]
 . rw [if_neg h,if_pos (by omega)]
theorem lineR_ac (K : Nat) (s : D) {Q : List D -> Prop} (h : SelOk K Q s) (hs1 : (s.f 1).s.size <= 8388608) (hs2 : (s.f 2).s.size <= 8388608) (hs3 : (s.f 3).s.size <= 8388608) :
 AC EN Tryz.prog 119 [.agg (cellsV Tryz.prog 12 76 s)] (.c (.string (bs (zBc K s)))):=by
 have hda:=dirsR_ac K (s.f 5).l h.dirs
 have haa:=argsR_ac K (s.f 4).l h.args
 have hpa : (parT K (s.f 4).l).length <= 320000000:=by have:=zD5 K _ h.args.wide; have:=h.args.bulk; omega
 have hta : (zGq K (s.f 5).l).length <= 320000000:=by have:=zCZ K _ h.dirs.wide; have:=h.dirs.bulk; omega
 have hkd:=h.kind
 have hlt : decide (((s.f 5).l.length : Int) > 0) = true -> 0 < (s.f 5).l.length:=fun h => by have:=of_decide_eq_true h; omega
 have hle : decide (((s.f 5).l.length : Int) > 0) = false -> ¬ 0 < (s.f 5).l.length:=fun h => by have:=of_decide_eq_false h; omega
 refine zO 48 Tryz.func119 rfl rfl rfl rfl ?_
 intro s0 w he
 repeat' (first
|refine zB ?_
|refine zC ?_
|refine zQ ?_
|refine zU ?_
|apply aw_1
 conv => whnf
 refine ⟨?_,trivial⟩
|apply s_1
 conv => whnf; arg 1; arg 4; arg 3; whnf
 refine ⟨?_,?_⟩
|apply zl rfl
 . conv => lhs; whnf
 . conv => lhs; whnf
 . first | exact hda | exact haa
|apply zAN rfl rfl rfl rfl
 . conv => lhs; whnf; arg 1; whnf
 . rfl
|apply zAJ (by kernel_rfl) (by kernel_rfl)
|apply zAx
|apply zAw rfl
 . conv => lhs; whnf
 . conv => lhs; whnf; arg 2; whnf
|apply zAq rfl
 . conv => lhs; whnf
 . conv => lhs; whnf
 . first | exact hda | exact haa
|exact zd
|exact zy
|exact (1000000 : Nat)
|refine zV (by conv => lhs; whnf) ?_ ?_ <;> intro hb
|refine zD ?_
|refine ⟨_,by conv => lhs; whnf; arg 2; whnf,?_⟩; conv => rhs; whnf
|exact trivial)
 all_goals first
  | ((simp only [ByteArray.size_append,zS,zT,List.size_toArray,List.length_append,List.length_cons,List.length_nil,maxLen,Nat.reduceAdd,Int.toNat_natCast]; omega); done)
  | skip
 . rename_i h1 ha
   have k1 : (s.f 0).n = 1:=by simpa using h1
   have a1 : ¬ tx (s.f 1).s = []:=s_ne ha
   have t1:=hlt hb
   refine zA0 ?_
   rw [zBc,if_neg (by omega),if_neg (by omega),if_neg a1,zBM,if_pos t1]
   simp only [zY,zAS,List.append_assoc]; rfl
 . rename_i h1 ha
   have k1 : (s.f 0).n = 1:=by simpa using h1
   have a1 : ¬ tx (s.f 1).s = []:=s_ne ha
   have t1:=hle hb
   refine zA0 ?_
   rw [zBc,if_neg (by omega),if_neg (by omega),if_neg a1,zBM,if_neg t1]
   simp only [zY,zAS,List.append_assoc,List.append_nil]; rfl
 . rename_i h1 ha
   have k1 : (s.f 0).n = 1:=by simpa using h1
   have a1 : tx (s.f 1).s = []:=s_eq ha
   have t1:=hlt hb
   refine zA0 ?_
   rw [zBc,if_neg (by omega),if_neg (by omega),if_pos a1,zBM,if_pos t1]
   simp only [zY,zAS,List.append_assoc]; rfl
 . rename_i h1 ha
   have k1 : (s.f 0).n = 1:=by simpa using h1
   have a1 : tx (s.f 1).s = []:=s_eq ha
   have t1:=hle hb
   refine zA0 ?_
   rw [zBc,if_neg (by omega),if_neg (by omega),if_pos a1,zBM,if_neg t1]
   simp only [zY,zAS,List.append_assoc,List.append_nil]; rfl
 . rename_i h1 h2
   have k2 : (s.f 0).n = 2:=by simpa using h2
   have t1:=hlt hb
   refine zA0 ?_
   rw [zBc,if_pos k2,zBM,if_pos t1]
   simp only [zY,zAS,List.append_assoc]; rfl
 . rename_i h1 h2
   have k2 : (s.f 0).n = 2:=by simpa using h2
   have t1:=hle hb
   refine zA0 ?_
   rw [zBc,if_pos k2,zBM,if_neg t1]
   simp only [zY,zAS,List.append_assoc,List.append_nil]; rfl
 . rename_i h1 h2 h3 ha
   have k3 : (s.f 0).n = 3:=by simpa using h3
   have a1 : ¬ tx (s.f 3).s = []:=s_ne ha
   have t1:=hlt hb
   refine zA0 ?_
   rw [zBc,if_neg (by omega),if_pos k3,if_neg a1,zBM,if_pos t1]
   simp only [zY,zAS,List.append_assoc]; rfl
 . rename_i h1 h2 h3 ha
   have k3 : (s.f 0).n = 3:=by simpa using h3
   have a1 : ¬ tx (s.f 3).s = []:=s_ne ha
   have t1:=hle hb
   refine zA0 ?_
   rw [zBc,if_neg (by omega),if_pos k3,if_neg a1,zBM,if_neg t1]
   simp only [zY,zAS,List.append_assoc,List.append_nil]; rfl
 . rename_i h1 h2 h3 ha
   have k3 : (s.f 0).n = 3:=by simpa using h3
   have a1 : tx (s.f 3).s = []:=s_eq ha
   have t1:=hlt hb
   refine zA0 ?_
   rw [zBc,if_neg (by omega),if_pos k3,if_pos a1,zBM,if_pos t1]
   simp only [zY,zAS,List.append_assoc]; rfl
 . rename_i h1 h2 h3 ha
   have k3 : (s.f 0).n = 3:=by simpa using h3
   have a1 : tx (s.f 3).s = []:=s_eq ha
   have t1:=hle hb
   refine zA0 ?_
   rw [zBc,if_neg (by omega),if_pos k3,if_pos a1,zBM,if_neg t1]
   simp only [zY,zAS,List.append_assoc,List.append_nil]; rfl
 all_goals
  exfalso
  rename_i h1 h2 h3
  have k1 : ¬ (s.f 0).n = 1:=by simpa using h1
  have k2 : ¬ (s.f 0).n = 2:=by simpa using h2
  have k3 : ¬ (s.f 0).n = 3:=by simpa using h3
  omega
theorem len0 {n : Nat} (h : decide ((n : Int) > 0) = false) : n = 0:=by have:=of_decide_eq_false h; omega
noncomputable def HlR (K f n : Nat) (l : List D) (i : Nat) : Vst 48:=
 stS 48 [(0,.sl 76 l),(1,.c (.int .i64 n)),(5,.c (.string (bs (befT K f n l i)))),(6,.c (.int .i64 i))] []
theorem zFE (K f n : Nat) (l : List D) (h : SelsOk K (f + 1) l) (hw : ∀ i,wideD (gD l i)) (hb : bulkL l <= 8388608) (hn : n + f <= 300)
 (ih : ∀ i,i < l.length -> ((gD l i).f 6).l ≠ [] -> AC EN Tryz.prog 56 [.sl 76 ((gD l i).f 6).l,.c (.int .i64 ((n : Int) + 1))] (.c (.string (bs (selsT K f (n + 1) ((gD l i).f 6).l))))) :
 AC EN Tryz.prog 56 [.sl 76 l,.c (.int .i64 (n : Int))] (.c (.string (bs (selsT K (f + 1) n l)))):=by
 have hll:=zAR l
 have hind:=indentR_ac n (by omega)
 have hrl : (Lib.repeatL [32,32] n).length = 2 * n:=zBe _ n
 have htot : (selsT K (f + 1) n l).length <= 16000000000:=by
  have h1:=zB4 K (f + 1) n l hw
  have h2 : (4 * (n + (f + 1)) + 70) * bulkL l <= 1300 * 8388608:=Nat.mul_le_mul (by omega) hb
  omega
 refine zO 48 Tryz.func56 rfl rfl rfl rfl ?_
 intro s w he
 repeat' (first
|refine zB ?_
|refine zC ?_
|refine zQ ?_
|apply aw_1
 conv => whnf
 refine ⟨?_,trivial⟩
|apply s_1
 conv => whnf; arg 1; arg 4; arg 3; whnf
 refine ⟨?_,?_⟩
|exact trivial)
 refine zv (fun j st => ∃ i,i + j = l.length /\ Sub (cx EN Tryz.prog s w he) st (HlR K f n l i)) l.length ⟨0,by omega,?_⟩ ?_
 . exact Sub.live ⟨rfl,rfl,rfl,rfl,trivial⟩ trivial
 . rintro j st ⟨i,hij,hs2⟩
   refine zu hs2 ?_
   have hbe : (befT K f n l i).length <= (selsT K (f + 1) n l).length:=zBN i
   by_cases hi : i < l.length
   . have hok:=h i hi
     have hnx : befT K f n l (i + 1) = befT K f n l i ++ selT K (selsT K f (n + 1)) n (gD l i):=zE5 hi
     have hbe1 : (befT K f n l (i + 1)).length <= (selsT K (f + 1) n l).length:=zBN (i + 1)
     have hhl:=zEb K (gD l i) (hw i)
     have hbi:=zAH hi
     have hbw:=zZ (gD l i)
     have hs1 : ((gD l i).f 1).s.size <= 8388608:=by have:=zAG ((gD l i).f 1); have:=wD_f (gD l i) 1; omega
     have hs2 : ((gD l i).f 2).s.size <= 8388608:=by have:=zAG ((gD l i).f 2); have:=wD_f (gD l i) 2; omega
     have hs3 : ((gD l i).f 3).s.size <= 8388608:=by have:=zAG ((gD l i).f 3); have:=wD_f (gD l i) 3; omega
     have hline:=lineR_ac K (gD l i) hok hs1 hs2 hs3
     have hgt : decide ((((gD l i).f 6).l.length : Int) > 0) = true -> ((gD l i).f 6).l ≠ []:=fun h e => by rw [e] at h; simp at h
     have hin : ((gD l i).f 6).l ≠ [] -> zB0 (gD l i) = true:=fun hne => by
      have h0 : (((gD l i).f 6).l.length != 0) = true:=by simpa using hne
      unfold zB0
      rcases hok.kind with h1 | ⟨_,h2⟩ | ⟨h1,_⟩
      . rw [h0,h1]; rfl
      . exact absurd h2 hne
      . rw [h1]; rfl
     have hout : ((gD l i).f 6).l = [] -> zB0 (gD l i) = false:=fun hne => by
      unfold zB0
      rcases hok.kind with h1 | ⟨h1,_⟩ | ⟨_,h2⟩
      . rw [hne,h1]; rfl
      . rw [h1]; rfl
      . exact absurd hne h2
     have hse : ((gD l i).f 6).l ≠ [] -> (selsT K f (n + 1) ((gD l i).f 6).l).length <= 16000000000:=fun hne => by
      have e:=congrArg List.length hnx
      rw [List.length_append,selT,if_pos (hin hne)] at e
      simp only [List.length_append] at e
      omega
     repeat' (first
|refine zB ?_
|refine zC ?_
|refine zQ ?_
|refine zU ?_
|apply aw_1
 conv => whnf
 refine ⟨?_,trivial⟩
|apply s_1
 conv => whnf; arg 1; arg 4; arg 3; whnf
 refine ⟨?_,?_⟩
|apply zl rfl
 . conv => lhs; whnf
 . conv => lhs; whnf
 . first | exact hind | exact hline | exact ih i hi (hgt ‹_›)
|apply zAJ (by kernel_rfl) (by kernel_rfl)
|apply zAx
|apply zAw rfl
 . conv => lhs; whnf
 . conv => lhs; whnf; arg 2; whnf
|apply zAq rfl
 . conv => lhs; whnf
 . conv => lhs; whnf
 . first | exact hind | exact hline | exact ih i hi (hgt ‹_›)
|exact zd
|exact zy
|exact (1000000 : Nat)
|refine zV (by conv => lhs; whnf) ?_ ?_ <;> intro hb
|refine zI ?_
|refine zE rfl ?_
|refine zG ?_
|refine zD ?_
|refine ⟨_,by conv => lhs; whnf; arg 2; whnf,?_⟩; conv => rhs; whnf
|exact trivial)
     all_goals first
      | exact zo (by omega)
      | ((simp only [ByteArray.size_append,zS,zT,List.size_toArray,List.length_append,List.length_cons,List.length_nil,maxLen,Nat.reduceAdd,Int.toNat_natCast]; omega); done)
      | (have:=hse (hgt hb); (simp only [ByteArray.size_append,zS,zT,List.size_toArray,List.length_append,List.length_cons,List.length_nil,maxLen,Nat.reduceAdd,Int.toNat_natCast]; omega); done)
      | exact ⟨by omega,by omega⟩
      | skip
     . have hne:=hgt hb
       refine zF (j':=j - 1) (by omega) ⟨i + 1,by omega,Sub.live ⟨rfl,rfl,?_,rfl,trivial⟩ trivial⟩
       show V.c (.string (bs (befT K f n l i) ++ bs (Lib.repeatL [32,32] n) ++ bs (zBc K (gD l i)) ++ ⟨#[32,123,10]⟩ ++ bs (selsT K f (n + 1) ((gD l i).f 6).l) ++ bs (Lib.repeatL [32,32] n) ++ ⟨#[125]⟩ ++ ⟨#[10]⟩)) = V.c (.string (bs (befT K f n l (i + 1))))
       refine (zA0 ?_).symm
       rw [hnx,selT,if_pos (hin hne),zA1,zA1]
       simp only [zY,zAS,List.append_assoc]; rfl
     . have hne : ((gD l i).f 6).l = []:=List.eq_nil_of_length_eq_zero (len0 hb)
       refine zF (j':=j - 1) (by omega) ⟨i + 1,by omega,Sub.live ⟨rfl,rfl,?_,rfl,trivial⟩ trivial⟩
       show V.c (.string (bs (befT K f n l i) ++ bs (Lib.repeatL [32,32] n) ++ bs (zBc K (gD l i)) ++ ⟨#[10]⟩)) = V.c (.string (bs (befT K f n l (i + 1))))
       refine (zA0 ?_).symm
       rw [hnx,selT,if_neg (by rw [hout hne]; decide),zA1]
       simp only [zY,zAS,List.append_assoc]; rfl
     . have : l.length <= i:=zCK hb
       omega
   . have hno : decide ((i : Int) < (l.length : Int)) = true -> False:=fun h => hi (zAW h)
     repeat' (first
|exact (hno ‹_›).elim
|refine zB ?_
|refine zC ?_
|refine zQ ?_
|apply aw_1
 conv => whnf
 refine ⟨?_,trivial⟩
|apply s_1
 conv => whnf; arg 1; arg 4; arg 3; whnf
 refine ⟨?_,?_⟩
|refine zV (by conv => lhs; whnf) ?_ ?_ <;> intro hb
|refine zI ?_
|refine zE rfl ?_
|refine zG ?_
|refine zD ?_
|refine ⟨_,by conv => lhs; whnf; arg 2; whnf,?_⟩; conv => rhs; whnf
|exact trivial)
     have e : i = l.length:=by omega
     rw [e,befT,List.take_length]; rfl
theorem lines_ac (K : Nat) : ∀ (f n : Nat) (l : List D),SelsOk K (f + 1) l -> (∀ i,wideD (gD l i)) -> bulkL l <= 8388608 -> n + f <= 300 ->
 AC EN Tryz.prog 56 [.sl 76 l,.c (.int .i64 (n : Int))] (.c (.string (bs (selsT K (f + 1) n l)))):=by
 intro f
 induction f with
 | zero =>
   intro n l h hw hb hn
   exact zFE K 0 n l h hw hb hn fun i hi hne => absurd (h i hi).sub hne
 | succ f ih =>
   intro n l h hw hb hn
   refine zFE K (f + 1) n l h hw hb hn fun i hi hne => ?_
   have hbi:=zAH hi
   have h6:=z7 ((gD l i).f 6)
   have hf6:=wD_f (gD l i) 6
   have hbw:=zZ (gD l i)
   exact ih (n + 1) ((gD l i).f 6).l (h i hi).sub (fun j => ((hw i).f 6).l j) (by omega) (by omega)
theorem zH2 (K f : Nat) (l : List D) (h : SelsOk K (f + 1) l) (hw : ∀ i,wideD (gD l i)) (hb : bulkL l <= 8388608) (hf : f <= 299) :
 AC EN Tryz.prog 27 [.sl 76 l] (.c (.string (bs (selsT K (f + 1) 1 l)))):=by
 have hl:=lines_ac K f 1 l h hw hb (by omega)
 refine zO 5 Tryz.func27 rfl rfl rfl rfl ?_
 intro s w he
 repeat' (first
|refine zB ?_
|refine zC ?_
|refine zQ ?_
|apply aw_1
 conv => whnf
 refine ⟨?_,trivial⟩
|apply s_1
 conv => whnf; arg 1; arg 4; arg 3; whnf
 refine ⟨?_,?_⟩
|apply zl rfl
 . conv => lhs; whnf
 . conv => lhs; whnf
 . first | exact hl
|refine zD ?_
|refine ⟨_,by conv => lhs; whnf; arg 2; whnf,?_⟩; conv => rhs; whnf
|exact trivial)
def zCP (k : Int) : List UInt8:=if k = 2 then [109,117,116,97,116,105,111,110] else if k = 3 then [115,117,98,115,99,114,105,112,116,105,111,110] else [113,117,101,114,121]
def varT (K : Nat) (v : D) : List UInt8:=[36] ++ tx (v.f 0).s ++ [58,32] ++ refB (tx ((v.f 1).f 0).s) ((v.f 1).f 1).l ++ (if (v.f 2).b = true then [32,61,32] ++ valT K (v.f 3) else [])
def varsT (K : Nat) (l : List D) : List UInt8:=Lib.join (l.map (varT K)) commaT
def opT (K : Nat) (o : D) : List UInt8:=
 if (o.f 0).n = 1 /\ tx (o.f 1).s = [] /\ (o.f 2).l.length = 0 then [123]
 else zCP (o.f 0).n ++ (if tx (o.f 1).s = [] then [] else [32] ++ tx (o.f 1).s) ++ (if (o.f 2).l.length = 0 then [] else [40] ++ varsT K (o.f 2).l ++ [41]) ++ [32,123]
structure VarsOk (K : Nat) (l : List D) : Prop where
 wide : ∀ i,wideD (gD l i)
 bulk : bulkL l <= 8388608
 dp : ∀ i,i < l.length -> Dp K ((gD l i).f 3)
 good : ∀ i,i < l.length -> goodV K ((gD l i).f 3)
theorem varT_len (K : Nat) (v : D) (h : wideD v) : (varT K v).length + 2 <= 40 * bulkD v:=by
 have h1:=zBL K (v.f 3) (h.f 3)
 have h2:=zZ (v.f 3)
 have h3:=zZ v
 have h4:=zAG (v.f 0)
 have h5:=zAn v 4
 have h6:=zAP (v.f 0).s
 have h7:=zCE (tx ((v.f 1).f 0).s) ((v.f 1).f 1).l
 have h8:=zAn (v.f 1) 2
 have h9:=zAG ((v.f 1).f 0)
 have h10:=zAP ((v.f 1).f 0).s
 have h11:=Nat.le_trans (zAR ((v.f 1).f 1).l) (z7 ((v.f 1).f 1))
 simp only [sumN] at h5 h8
 unfold varT
 split <;> simp only [List.length_append,List.length_cons,List.length_nil] <;> omega
theorem zEH (K : Nat) (l : List D) (h : ∀ i,wideD (gD l i)) : (varsT K l).length <= 40 * bulkL l:=zBJ l _ _ _ fun i _ => varT_len K _ (h i)
theorem refP_d (x : D) (hn : (x.f 0).s.size <= 16000000) (hl : (x.f 1).l.length <= 16000000) : AC EN Tryz.prog 121 [.agg (cellsV Tryz.prog 12 71 x)] (.c (.string (bs (refB (tx (x.f 0).s) (x.f 1).l)))):=by
 have:=refP_ac (tx (x.f 0).s) (x.f 1).l (by rw [zAP]; exact hn) hl
 rw [zA4] at this
 exact this
theorem refR_d (x : D) (hn : (x.f 0).s.size <= 16000000) (hl : (x.f 1).l.length <= 16000000) : AC EN Tryz.prog 124 [.agg (cellsV Tryz.prog 12 71 x)] (.c (.string (bs (refB (tx (x.f 0).s) (x.f 1).l)))):=by
 have:=refR_ac (tx (x.f 0).s) (by rw [zAP]; exact hn) (x.f 1).l hl
 rw [zA4] at this
 exact this
structure VarSz (K : Nat) (v : D) : Prop where
 name : (v.f 0).s.size <= 8388608
 rname : ((v.f 1).f 0).s.size <= 8388608
 wraps : ((v.f 1).f 1).l.length <= 8388608
 rtext : (refB (tx ((v.f 1).f 0).s) ((v.f 1).f 1).l).length <= 32000000
 dflt : bulkD (v.f 3) <= 8388608
 dtext : (valT K (v.f 3)).length <= 208000000
theorem VarsOk.sz {K : Nat} {l : List D} (h : VarsOk K l) {i : Nat} (hi : i < l.length) : VarSz K (gD l i):=by
 have h0:=zAH hi
 have h0':=h.bulk
 have h1:=zBL K ((gD l i).f 3) ((h.wide i).f 3)
 have h2:=zZ ((gD l i).f 3)
 have h3:=zZ (gD l i)
 have h4:=zAG ((gD l i).f 0)
 have h5:=zAn (gD l i) 4
 have h7:=zCE (tx (((gD l i).f 1).f 0).s) (((gD l i).f 1).f 1).l
 have h8:=zAn ((gD l i).f 1) 2
 have h9:=zAG (((gD l i).f 1).f 0)
 have h10:=zAP (((gD l i).f 1).f 0).s
 have h11:=Nat.le_trans (zAR (((gD l i).f 1).f 1).l) (z7 (((gD l i).f 1).f 1))
 simp only [sumN] at h5 h8
 refine ⟨?_,?_,?_,?_,?_,?_⟩ <;> omega
theorem word_ac (k : Int) : AC EN Tryz.prog 120 [.c (.int .i64 k)] (.c (.string (bs (zCP k)))):=by
 refine zO 8 Tryz.func120 rfl rfl rfl rfl ?_
 intro s w he
 repeat' (first
|refine zB ?_
|refine zC ?_
|refine zQ ?_
|refine zU ?_
|apply aw_1
 conv => whnf
 refine ⟨?_,trivial⟩
|apply s_1
 conv => whnf; arg 1; arg 4; arg 3; whnf
 refine ⟨?_,?_⟩
|refine zV (by conv => lhs; whnf) ?_ ?_ <;> intro hb
|refine zN ?_
|refine zL ?_
|refine zD ?_
|refine ⟨_,by conv => lhs; whnf; arg 2; whnf,?_⟩; conv => rhs; whnf
|exact trivial)
 . rw [zCP,if_pos (by simpa using hb)]; rfl
 . rename_i h2
   rw [zCP,if_neg (by simpa using h2),if_pos (by simpa using hb)]; rfl
 . rename_i h2
   rw [zCP,if_neg (by simpa using h2),if_neg (by simpa using hb)]; rfl
theorem zEF (k : Int) : (zCP k).length <= 12:=by
 unfold zCP
 split
 . simp
 . split <;> simp
def zA2 (o : D) : List UInt8:=zCP (o.f 0).n ++ (if tx (o.f 1).s = [] then [] else [32] ++ tx (o.f 1).s)
noncomputable def HhA (o : D) : Vst 72:=stS 72 [(1,.bx 1 0)] [(1,.box 57 (cellsV Tryz.prog 12 57 o))]
noncomputable def HhB (o : D) : Vst 72:=stS 72 [(1,.bx 1 0),(3,.c (.string (bs (zA2 o))))] [(1,.box 57 (cellsV Tryz.prog 12 57 o))]
theorem leq0 {n : Nat} (h : (((n : Int)) == 0) = true) : n = 0:=by
 have : (n : Int) = 0:=by simpa using h
 omega
noncomputable def HhP (K : Nat) (o : D) (i : Nat) : Vst 72:=
 stS 72 [(3,.c (.string (bs (zA2 o)))),(4,.own 4 9 (zq (fun i => varT K (gD (o.f 2).l i)) i)),(34,.sl 88 (o.f 2).l),(35,.c (.int .i64 (o.f 2).l.length)),(36,.c (.int .i64 i))] [(4,.tok 9 (zq (fun i => varT K (gD (o.f 2).l i)) i).length)]
theorem opHead_ac (K : Nat) (o : D) (h : VarsOk K (o.f 2).l) (hn : (o.f 1).s.size <= 8388608) : AC EN Tryz.prog 58 [.agg (cellsV Tryz.prog 12 57 o)] (.c (.string (bs (opT K o)))):=by
 have hw:=word_ac (o.f 0).n
 have hwl:=zEF (o.f 0).n
 have hll:=Nat.le_trans (zAR (o.f 2).l) h.bulk
 have hvl : (varsT K (o.f 2).l).length <= 400000000:=by have:=zEH K _ h.wide; have:=h.bulk; omega
 have hj:=zB1 (zq (fun i => varT K (gD (o.f 2).l i)) (o.f 2).l.length) [44,32] (by rw [zAC]; omega) (by rw [zAd]; exact Nat.le_trans hvl (by omega))
 rw [zAd] at hj
 have hnl : (zA2 o).length <= 8388700:=by
  have:=zAP (o.f 1).s
  unfold zA2
  split <;> simp only [List.length_append,List.length_cons,List.length_nil] <;> omega
 by_cases hc : (o.f 0).n = 1 /\ tx (o.f 1).s = [] /\ (o.f 2).l.length = 0
 . have k1 : (((o.f 0).n == 1) == true) = false -> False:=fun h => by rw [hc.1] at h; cases h
   have k2 : (((o.f 1).s.toList == (⟨#[]⟩ : ByteArray).toList) == true) = false -> False:=fun h => e_ne (bF1 h) hc.2.1
   have k3 : ((((o.f 2).l.length : Int)) == 0) = false -> False:=fun h => by rw [hc.2.2] at h; cases h
   refine zO 72 Tryz.func58 rfl rfl rfl rfl ?_
   intro s w he
   repeat' (first
|exact (k1 ‹_›).elim
|exact (k2 ‹_›).elim
|exact (k3 ‹_›).elim
|refine zB ?_
|refine zC ?_
|refine zQ ?_
|apply aw_1
 conv => whnf
 refine ⟨?_,trivial⟩
|apply ze rfl rfl
 . conv => lhs; whnf
 . conv => lhs; whnf
 . first | exact bT1 ‹_› | exact bT2 ‹_›
|apply s_1
 conv => whnf; arg 1; arg 4; arg 3; whnf
 refine ⟨?_,?_⟩
|apply zAN rfl rfl rfl rfl
 . conv => lhs; whnf; arg 1; whnf
 . rfl
|apply zJ rfl
 . conv => lhs; whnf
 . conv => lhs; whnf
 . first | rfl | assumption
 . conv => lhs; whnf; arg 2; whnf
|apply zAF rfl
 . conv => lhs; whnf
 . conv => lhs; whnf
 . conv => lhs; whnf; arg 2; whnf
|refine zV (by conv => lhs; whnf) ?_ ?_ <;> intro hb
|refine zN ?_
|refine zD ?_
|refine ⟨_,by conv => lhs; whnf; arg 2; whnf,?_⟩; conv => rhs; whnf
|exact trivial
|intro hg)
   rw [opT,if_pos hc]; rfl
 . have kf : (((o.f 0).n == 1) == true) = true -> (((o.f 1).s.toList == (⟨#[]⟩ : ByteArray).toList) == true) = true -> ((((o.f 2).l.length : Int)) == 0) = true -> False:=fun h1 h2 h3 => hc ⟨by simpa using bT1 h1,e_eq (bT1 h2),leq0 h3⟩
   refine zO 72 Tryz.func58 rfl rfl rfl rfl ?_
   intro s w he
   repeat' (first
|apply zAv 3 (HhA o) rfl
|apply zAv 6 (HhB o) rfl
|exact (kf ‹_› ‹_› ‹_›).elim
|refine zBB ?_
|refine zB ?_
|refine zC ?_
|refine zQ ?_
|apply aw_1
 conv => whnf
 refine ⟨?_,trivial⟩
|apply ze rfl rfl
 . conv => lhs; whnf
 . conv => lhs; whnf
 . first | exact bT1 ‹_› | exact bT2 ‹_›
|apply zm rfl rfl
 . conv => lhs; whnf
 . conv => lhs; whnf
 . first | exact bF1 ‹_› | exact bF2 ‹_›
|apply s_1
 conv => whnf; arg 1; arg 4; arg 3; whnf
 refine ⟨?_,?_⟩
|apply zl rfl
 . conv => lhs; whnf
 . conv => lhs; whnf
 . first | exact hw
|apply zAN rfl rfl rfl rfl
 . conv => lhs; whnf; arg 1; whnf
 . rfl
|apply zJ rfl
 . conv => lhs; whnf
 . conv => lhs; whnf
 . first | rfl | assumption
 . conv => lhs; whnf; arg 2; whnf
|apply zDH rfl
 . conv => lhs; whnf
 . conv => lhs; whnf
 . first | rfl | assumption
|apply zAF rfl
 . conv => lhs; whnf
 . conv => lhs; whnf
 . conv => lhs; whnf; arg 2; whnf
|refine zV (by conv => lhs; whnf) ?_ ?_ <;> intro hb
|exact trivial
|intro hg)
   all_goals first
    | exact Sub.live ⟨rfl,trivial⟩ ⟨rfl,trivial⟩
    | ((simp only [ByteArray.size_append,zS,zT,List.size_toArray,List.length_append,List.length_cons,List.length_nil,maxLen,Nat.reduceAdd,Int.toNat_natCast]; omega); done)
    | skip
   . have hne : ¬ tx (o.f 1).s = []:=s_ne hb
     refine Sub.live ⟨rfl,?_,trivial⟩ ⟨rfl,trivial⟩
     show V.c (.string (bs (zCP (o.f 0).n) ++ (⟨#[32]⟩ ++ (o.f 1).s))) = V.c (.string (bs (zA2 o)))
     refine (zA0 ?_).symm
     rw [zA2,if_neg hne]
     simp only [zY,zAS]; rfl
   . have hne : tx (o.f 1).s = []:=s_eq hb
     refine Sub.live ⟨rfl,?_,trivial⟩ ⟨rfl,trivial⟩
     show V.c (.string (bs (zCP (o.f 0).n))) = V.c (.string (bs (zA2 o)))
     rw [zA2,if_pos hne,List.append_nil]
   . refine zu (Sub.own (t:=4) (e:=9) rfl rfl) ?_
     refine zv (fun j st => ∃ i,i + j = (o.f 2).l.length /\ Sub (cx EN Tryz.prog s w he) st (HhP K o i)) (o.f 2).l.length ⟨0,by omega,?_⟩ ?_
     . exact Sub.live ⟨rfl,rfl,rfl,rfl,rfl,trivial⟩ ⟨rfl,trivial⟩
     . rintro j st ⟨i,hij,hs2⟩
       refine zu hs2 ?_
       have htk:=zAC (fun i => varT K (gD (o.f 2).l i)) i
       have hj2 : decide ((i : Int) < ((o.f 2).l.length : Int)) = false -> AC EN Tryz.prog 59 [.sl 9 (zq (fun i => varT K (gD (o.f 2).l i)) i),.c (.string (bs [44,32]))] (.c (.string (bs (varsT K (o.f 2).l)))):=fun hh => by
        have e : i = (o.f 2).l.length:=by have:=zCK hh; omega
        rw [e]; exact hj
       have hv : decide ((i : Int) < ((o.f 2).l.length : Int)) = true -> AC EN Tryz.prog 122 [.agg (cellsV Tryz.prog 12 84 ((gD (o.f 2).l i).f 3))] (.c (.string (bs (valT K ((gD (o.f 2).l i).f 3))))):=fun hh =>
        zC9 K _ (h.dp i (zAW hh)) ((h.wide i).f 3) (h.good i (zAW hh)) (h.sz (zAW hh)).dflt
       have hr : decide ((i : Int) < ((o.f 2).l.length : Int)) = true -> AC EN Tryz.prog 121 [.agg (cellsV Tryz.prog 12 71 ((gD (o.f 2).l i).f 1))] (.c (.string (bs (refB (tx (((gD (o.f 2).l i).f 1).f 0).s) (((gD (o.f 2).l i).f 1).f 1).l)))):=fun hh => by
        have z:=h.sz (zAW hh)
        exact refP_d _ (Nat.le_trans z.rname (by omega)) (Nat.le_trans z.wraps (by omega))
       have z : i < (o.f 2).l.length -> VarSz K (gD (o.f 2).l i):=fun hh => h.sz hh
       by_cases hi : i < (o.f 2).l.length
       . obtain ⟨z1,z2,z3,z4,z5,z6⟩:=z hi
         repeat' (first
|refine zB ?_
|refine zC ?_
|refine zQ ?_
|refine zU ?_
|apply aw_1
 conv => whnf
 refine ⟨?_,trivial⟩
|apply s_1
 conv => whnf; arg 1; arg 4; arg 3; whnf
 refine ⟨?_,?_⟩
|apply zl rfl
 . conv => lhs; whnf
 . conv => lhs; whnf
 . first | exact hv ‹_› | exact hr ‹_› | exact hj2 ‹_›
|apply zz rfl rfl rfl
 . conv => lhs; whnf
 . conv => lhs; whnf; arg 1; whnf
 . conv => lhs; whnf; arg 1; whnf
 . exact ⟨by kernel_rfl,by kernel_rfl⟩
 . rfl
|apply zCC rfl rfl
 . conv => lhs; whnf
 . first | exact zAK | (conv => lhs; whnf; arg 1; whnf)
 . first | exact fun _ => rfl | (intro _; kernel_rfl)
 . conv => lhs; whnf
 . conv => lhs; whnf; arg 1; whnf
 . conv => lhs; whnf
|apply zBQ rfl rfl
 . conv => lhs; whnf
 . first | exact zAK | (conv => lhs; whnf; arg 1; whnf)
 . conv => lhs; whnf; arg 1; whnf
 . rfl
 . rfl
|apply zAJ (by kernel_rfl) (by kernel_rfl)
|apply zAx
|apply zAw rfl
 . conv => lhs; whnf
 . conv => lhs; whnf; arg 2; whnf
|apply zAq rfl
 . conv => lhs; whnf
 . conv => lhs; whnf
 . first | exact hv ‹_› | exact hr ‹_› | exact hj2 ‹_›
|exact zd
|exact zy
|exact (1000000 : Nat)
|refine zV (by conv => lhs; whnf) ?_ ?_ <;> intro hb
|refine zI ?_
|refine zE rfl ?_
|refine zG ?_
|refine zD ?_
|refine ⟨_,by conv => lhs; whnf; arg 2; whnf,?_⟩; conv => rhs; whnf
|exact trivial)
         all_goals first
          | exact zo (by omega)
          | exact zBZ (by omega) (by omega)
          | ((simp only [ByteArray.size_append,zS,zT,List.size_toArray,List.length_append,List.length_cons,List.length_nil,maxLen,Nat.reduceAdd,Int.toNat_natCast]; omega); done)
          | exact zC3 hb
          | skip
         . have hhas : ((gD (o.f 2).l i).f 2).b = true:=hb
           refine zF (j':=j - 1) (by omega) ⟨i + 1,by omega,Sub.live ⟨rfl,?_,rfl,rfl,rfl,trivial⟩ ⟨?_,trivial⟩⟩
           . show V.own 4 _ (zq _ i ++ [.str (⟨#[36]⟩ ++ ((gD (o.f 2).l i).f 0).s ++ ⟨#[58,32]⟩ ++ bs (refB (tx (((gD (o.f 2).l i).f 1).f 0).s) (((gD (o.f 2).l i).f 1).f 1).l) ++ (⟨#[32,61,32]⟩ ++ bs (valT K ((gD (o.f 2).l i).f 3))))]) = _
             rw [zr,varT,if_pos hhas,<- zR,<- zR,<- zR,<- zR,<- zR,zA4]; rfl
           . show some (Res.tok _ ((zq _ i).length + 1)) = _
             rw [zr,List.length_append]; rfl
         . have hhas : ¬ ((gD (o.f 2).l i).f 2).b = true:=by
            have : ((gD (o.f 2).l i).f 2).b = false:=hb
            rw [this]; decide
           refine zF (j':=j - 1) (by omega) ⟨i + 1,by omega,Sub.live ⟨rfl,?_,rfl,rfl,rfl,trivial⟩ ⟨?_,trivial⟩⟩
           . show V.own 4 _ (zq _ i ++ [.str (⟨#[36]⟩ ++ ((gD (o.f 2).l i).f 0).s ++ ⟨#[58,32]⟩ ++ bs (refB (tx (((gD (o.f 2).l i).f 1).f 0).s) (((gD (o.f 2).l i).f 1).f 1).l))]) = _
             rw [zr,varT,if_neg hhas,List.append_nil,<- zR,<- zR,<- zR,zA4]; rfl
           . show some (Res.tok _ ((zq _ i).length + 1)) = _
             rw [zr,List.length_append]; rfl
         all_goals
          rename_i h0
          have:=zCK h0
          omega
       . have hno : decide ((i : Int) < ((o.f 2).l.length : Int)) = true -> False:=fun h => hi (zAW h)
         have e : i = (o.f 2).l.length:=by omega
         repeat' (first
|exact (hno ‹_›).elim
|refine zB ?_
|refine zC ?_
|refine zQ ?_
|apply aw_1
 conv => whnf
 refine ⟨?_,trivial⟩
|apply s_1
 conv => whnf; arg 1; arg 4; arg 3; whnf
 refine ⟨?_,?_⟩
|apply zl rfl
 . conv => lhs; whnf
 . conv => lhs; whnf
 . first | exact hv ‹_› | exact hr ‹_› | exact hj2 ‹_›
|refine zV (by conv => lhs; whnf) ?_ ?_ <;> intro hb
|refine zI ?_
|refine zE rfl ?_
|refine zG ?_
|refine zD ?_
|refine ⟨_,by conv => lhs; whnf; arg 2; whnf,?_⟩; conv => rhs; whnf
|exact trivial)
         all_goals first
          | ((simp only [ByteArray.size_append,zS,zT,List.size_toArray,List.length_append,List.length_cons,List.length_nil,maxLen,Nat.reduceAdd,Int.toNat_natCast]; omega); done)
          | skip
         . have hp : ¬ (o.f 2).l.length = 0:=by rw [htk] at hb; have:=of_decide_eq_true hb; omega
           refine zA0 ?_
           rw [opT,if_neg hc,if_neg hp,<- zA2]
           simp only [zY,zAS,List.append_assoc]; rfl
         . have hp : (o.f 2).l.length = 0:=by rw [htk] at hb; have:=of_decide_eq_false hb; omega
           refine zA0 ?_
           rw [opT,if_neg hc,if_pos hp,<- zA2,List.append_nil]
           simp only [zY,zAS,List.append_assoc]; rfl
end Go.Proofs.YthjiclhfhjdjpaaGreatDoor
