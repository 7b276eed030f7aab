import Derived.Laws.MakeOwn
import Derived.Test.YtdlnnlglmifceaaGreatDoorV30
set_option maxHeartbeats 8000000
set_option maxRecDepth 100000
set_option linter.unusedVariables false
set_option linter.unusedSimpArgs false
namespace Go.Proofs.YtdlnnlglmifceaaGreatDoor
open Go.RowKit
attribute [local irreducible] wpList Calls Code.wp
section
variable {X : Cx} {nn : Nat} {st : Vst nn} {o : Oper} {ops : Array Oper} {l : List Oper} {KK : Vst nn -> Prop}
theorem zEv (s : Sg) (w : World) : Ext (fun _ => False) s w.drew s w:=⟨fun _ _ h => ⟨rfl,h⟩,fun _ _ => rfl,fun _ _ => .inl rfl⟩
theorem MemOk.undrew {P : Program} {pas : Nat -> Prop} {B : Nat} {rs : Nat -> Option Res} {s : Sg} {w : World} (h : MemOk P pas B rs s w.drew) : MemOk P pas B rs s w where
 fx:=h.fx
 ho n ρ hn:=(h.ho n ρ hn).keep (zEv s w) (fun h => h) rfl rfl (fun _ h => h.elim) (fun _ _ => rfl) (fun _ _ _ h => h)
 bs:=h.bs
 dj:=h.dj
theorem Inv.undrew {s : Sg} {w : World} {a : Act} (hI : Inv X st s w.drew a) : Inv X st s w a:=
 hI.go (w':=w) (zEv s w) hI.mem.undrew ⟨rfl,rfl,rfl,Nat.le_refl _,fun _ _ _ => rfl⟩ (fun _ _ _ _ h => h)
theorem opOk_make {K : Vst nn -> Prop} {t e : TypeId} {by_ d n : Nat} {x y : Operand} (ho : o.op = .makeSlice t x y) (hd : o.dst = some d) (hdl : Nat.ble d 999999 = true) (he : zAX X.P t = some (e,by_))
 (hx : ev st x = .c (.int .i64 0)) (hy : ev st y = .c (.int .i64 (n : Int))) (hn : n <= maxLen) (hby : n * by_ <= 140737488355328)
 (hK : K (((st.kill d).res d (.tok e 0)).put (some d) (.own d e []))) : OpOk X o st K:=by
 intro s w a hI N Q hP hN
 obtain ⟨hu,hlay,i,z,hi,hz,hb,hsp,hzs,hsz⟩:=zBe he
 have hxe:=hI.ev x
 have hye:=hI.ev y
 rw [hx,rel] at hxe
 rw [hy,rel] at hye
 have hmx : (n : Int) <= 9223372036854775807:=by simp only [maxLen] at hn; omega
 have hbb : (i.bytes : Int) * (n : Int) <= 281474976710656:=by
  have h : ((i.bytes * n : Nat) : Int) <= 281474976710656:=by rw [hb,Nat.mul_comm]; omega
  rwa [Int.natCast_mul] at h
 have hr:=run_make (P:=X.P) w t e i z hu hi hz .i64 .i64 0 (n : Int) (Int.le_refl _) (by omega) hbb hmx
 simp only [Int.toNat_zero,Int.toNat_natCast] at hr
 have hex : (execOp a.eval o).run X.P w = .ok (.value (.slice (some ⟨w.heap.size,0,none⟩) 0 n)) (w.alloc (.cells (madeCells z.cells (n * i.size)) e)):=by
  simp [execOp,ho,hxe.1,hye.1,hr]
 unfold Oper.wp
 rw [hex,Oper.upon_value,hd]
 have hcur : (madeCells z.cells (n * i.size)).size = n * X.P.cellsOf e:=by rw [size_madeCells,hsz]
 have hI':=hI.kill d
 have hkeep : Keeps s.F (s.tok d w.heap.size (0 * X.P.cellsOf e) (.slice (some ⟨w.heap.size,0,none⟩) 0 n) 0).F w (w.drew.alloc (.cells (madeCells z.cells (n * i.size)) e)):=zCU hI.mem _ e _
 have hext : Ext (fun m => m = d) s w (s.tok d w.heap.size (0 * X.P.cellsOf e) (.slice (some ⟨w.heap.size,0,none⟩) 0 n) 0) (w.drew.alloc (.cells (madeCells z.cells (n * i.size)) e)):=
  ⟨hkeep,fun _ _ => rfl,fun q hq => .inl (by simp only [Sg.tok]; rw [if_neg hq])⟩
 have hmem:=hI'.mem.tokNew hI.base (k:=d) (fun m => m = d) (fun _ h => h) zEA hcur (Nat.zero_le n) hn hext
 refine hN _ _ _ _ (Inv.put (st:=(st.kill d).res d (.tok e 0)) (v:=.own d e []) (Inv.undrew (w:=w.alloc (.cells (madeCells z.cells (n * i.size)) e)) ⟨hI.sz,fun i hi => ?_,hI.df,hI.fr.trans (zCX w _ _) (q:=fun _ => False) (fun _ h => h.elim),hI.kp.trans hkeep,fun b o hb hnp hF => ?_,hmem,hI.pe.ext hext fun m hm => by subst hm; exact Nat.le_of_ble_eq_true hdl⟩) (some d) ?_) hK
 . exact rel.ext hext _ _ (zAw (hI.tm i hi)).1 fun n hn => by subst hn; exact (zAw (hI.tm i hi)).2
 . rcases hF with hF | ⟨rfl,h0⟩
   . exact hI.nf b o hb hnp hF
   . simp at h0
 . rw [rel]
   refine ⟨⟨0,_,n,rfl,Nat.zero_le _,hn,(fun h => by cases h),fun h => by simp at h⟩,by simp [Sg.tok],fun _ => by simp [Sg.tok]⟩
theorem s_make {t e : TypeId} {by_ m n : Nat} {x y : Operand} (hg : o.guard = none) (ho : o.op = .makeSlice t x y) (hd : o.dst = some m) (hdl : Nat.ble m 999999 = true) (he : zAX X.P t = some (e,by_)) (hx : ev st x = .c (.int .i64 0)) (hy : ev st y = .c (.int .i64 (n : Int)))
 (hK : AWo X ops l (((st.kill m).res m (.tok e 0)).put (some m) (.own m e [])) KK) (hp : n <= maxLen /\ n * by_ <= 140737488355328) : AWo X ops (o :: l) st KK:=
 zAs hg (opOk_make ho hd hdl he hx hy hp.1 hp.2 hK)
end
end Go.Proofs.YtdlnnlglmifceaaGreatDoor
namespace Go.Proofs.YtdlnnlglmifceaaGreatDoor
open Go.RowKit
set_option linter.unusedSectionVars false
attribute [local irreducible] wpList Calls Code.wp AW AWo OpOk seqK zAi zAp loopK endK AC zAC Yld Sub
attribute [local irreducible] ACB ACX absLexG YldG absLexH
def hd31 (gs : List D) (i : Int) (f : D) : List UInt8:=ftT ++ Lib.itoa i ++ [58,32] ++ zDb gs (f.f 0).n ++ [44,32,100,101,112,116,104,32] ++ Lib.itoa (f.f 1).n
theorem lineF_eq (gs : List D) (i : Int) (f : D) : zGG gs i f = hd31 gs i f ++ zDF (f.f 7).l ++ pathT f ++ [10]:=by
 unfold zGG restT hd31
 simp only [List.append_assoc]
structure FetOk (gs : List D) (f : D) : Prop where
 nd : i64D (f.f 1).n
 na : ∀ j,j < (f.f 7).l.length -> i64D (gD (f.f 7).l j).n
 la : (f.f 7).l.length <= 1048576
 lp : (f.f 2).l.length <= 1048576
 lk : (f.f 4).l.length <= 1048576
 sg : ∀ j,j < gs.length -> (gD gs j).s.size <= 1048576
 sp : ∀ j,j < (f.f 2).l.length -> ((gD (f.f 2).l j).f 0).s.size <= 1048576 /\ ((gD (f.f 2).l j).f 1).s.size <= 1048576
 st : (f.f 3).s.size <= 1048576
 pj : (Lib.join ((f.f 2).l.map hopT) [47]).length <= 100000000
 kj : (Lib.join (txs (f.f 4).l) [32]).length <= 100000000
 aj : (Lib.join ((f.f 7).l.map fun d => Lib.itoa d.n) [32]).length <= 100000000
theorem graph_len {gs : List D} {f : D} (h : FetOk gs f) (n : Int) : (zDb gs n).length <= 1048576:=by
 unfold zDb
 split
 . rw [zAj]; exact h.sg _ (by omega)
 . simp
noncomputable def HdG31 (s f : D) (i : Int) (g : List UInt8) : Vst 109:=
 stS 109 [(2,.c (.int .i64 i)),(3,.bx 3 0),(4,.bx 4 0),(7,.bx 7 0),(8,.c (.string (bs g)))] [(3,.box 35 (cellsV Tryz.prog 12 35 s)),(4,.box 40 (cellsV Tryz.prog 12 40 f)),(7,.bld 114 5 [])]
noncomputable def HdT31 (s f : D) (t : List UInt8) : Vst 109:=
 stS 109 [(3,.bx 3 0),(4,.bx 4 0),(7,.bx 7 0)] [(3,.box 35 (cellsV Tryz.prog 12 35 s)),(4,.box 40 (cellsV Tryz.prog 12 40 f)),(7,.bld 114 5 t)]
noncomputable def HdA31 (s f : D) (t : List UInt8) (i : Nat) : Vst 109:=
 stS 109 [(3,.bx 3 0),(4,.bx 4 0),(7,.bx 7 0),(9,.own 51 9 (zAH (fun i => Lib.itoa (gD (f.f 7).l i).n) i)),(53,.sl 3 (f.f 7).l),(54,.c (.int .i64 ((f.f 7).l.length : Nat))),(55,.c (.int .i64 (i : Int)))]
  [(3,.box 35 (cellsV Tryz.prog 12 35 s)),(4,.box 40 (cellsV Tryz.prog 12 40 f)),(7,.bld 114 5 t),(51,.tok 9 (zAH (fun i => Lib.itoa (gD (f.f 7).l i).n) i).length)]
noncomputable def HdP31 (s f : D) (t : List UInt8) (i : Nat) : Vst 109:=
 stS 109 [(3,.bx 3 0),(4,.bx 4 0),(7,.bx 7 0),(12,.own 76 9 (zAH (fun i => hopT (gD (f.f 2).l i)) i)),(78,.sl 80 (f.f 2).l),(79,.c (.int .i64 ((f.f 2).l.length : Nat))),(80,.c (.int .i64 (i : Int)))]
  [(3,.box 35 (cellsV Tryz.prog 12 35 s)),(4,.box 40 (cellsV Tryz.prog 12 40 f)),(7,.bld 114 5 t),(76,.tok 9 (zAH (fun i => hopT (gD (f.f 2).l i)) i).length)]
theorem headP_ac (s0 f : D) (i : Int) (hi : i64D i) (h : FetOk (s0.f 0).l f) : AC EN Tryz.prog 60 [.agg (cellsV Tryz.prog 12 35 s0),.agg (cellsV Tryz.prog 12 40 f),.c (.int .i64 i)] (.c (.string (bs (zGG (s0.f 0).l i f)))):=by
 have hd1:=zG0 i hi.1 hi.2
 have hd2:=zG0 (f.f 1).n h.nd.1 h.nd.2
 have z1:=zBu i hi.1 hi.2
 have z2:=zBu (f.f 1).n h.nd.1 h.nd.2
 have zg:=graph_len h (f.f 0).n
 have hlp:=h.lp
 have hla:=h.la
 have hlk:=h.lk
 have hst:=h.st
 have hpj:=h.pj
 have hkj:=h.kj
 have haj:=h.aj
 have hja : AC EN Tryz.prog 98 [.sl 9 (zAH (fun i => Lib.itoa (gD (f.f 7).l i).n) (f.f 7).l.length),.c (.string ⟨#[32]⟩)] (.c (.string (bs (Lib.join ((f.f 7).l.map fun d => Lib.itoa d.n) [32])))):=by
  have e : txs (zAH (fun i => Lib.itoa (gD (f.f 7).l i).n) (f.f 7).l.length) = (f.f 7).l.map fun d => Lib.itoa d.n:=zA3 (fun d => Lib.itoa d.n) (f.f 7).l
  have:=zBp (zAH (fun i => Lib.itoa (gD (f.f 7).l i).n) (f.f 7).l.length) [32] (by rw [zAe]; omega) (by rw [e]; omega)
  rw [e] at this
  exact this
 have hjp : AC EN Tryz.prog 98 [.sl 9 (zAH (fun i => hopT (gD (f.f 2).l i)) (f.f 2).l.length),.c (.string ⟨#[47]⟩)] (.c (.string (bs (Lib.join ((f.f 2).l.map hopT) [47])))):=by
  have e : txs (zAH (fun i => hopT (gD (f.f 2).l i)) (f.f 2).l.length) = (f.f 2).l.map hopT:=zA3 hopT (f.f 2).l
  have:=zBp (zAH (fun i => hopT (gD (f.f 2).l i)) (f.f 2).l.length) [47] (by rw [zAe]; omega) (by rw [e]; omega)
  rw [e] at this
  exact this
 have hjk : AC EN Tryz.prog 98 [.sl 9 (f.f 4).l,.c (.string ⟨#[32]⟩)] (.c (.string (bs (Lib.join (txs (f.f 4).l) [32])))):=zBp (f.f 4).l [32] (by omega) (by omega)
 generalize hA : Lib.join ((f.f 7).l.map fun d => Lib.itoa d.n) [32] = ja at *
 generalize hP : Lib.join ((f.f 2).l.map hopT) [47] = jp at *
 generalize hK : Lib.join (txs (f.f 4).l) [32] = jk at *
 generalize hG : zDb (s0.f 0).l (f.f 0).n = g at *
 -- what is written,piece by piece
 have e1 : hd31 (s0.f 0).l i f = tx ((⟨#[102,101,116,99,104,32]⟩ : ByteArray) ++ bs (Lib.itoa i) ++ ⟨#[58,32]⟩ ++ bs g ++ ⟨#[44,32,100,101,112,116,104,32]⟩ ++ bs (Lib.itoa (f.f 1).n)):=by
  unfold hd31
  rw [hG]
  simp only [zAr,zB9]
  rfl
 have w1:=zBW (e:=EN) [] ((⟨#[102,101,116,99,104,32]⟩ : ByteArray) ++ bs (Lib.itoa i) ++ ⟨#[58,32]⟩ ++ bs g ++ ⟨#[44,32,100,101,112,116,104,32]⟩ ++ bs (Lib.itoa (f.f 1).n)) (by (simp only [ByteArray.size_append,zAJ,zAR,List.size_toArray,List.length_append,List.length_cons,List.length_nil,maxLen,Nat.reduceAdd,Int.toNat_natCast]; omega))
 rw [lineF_eq]
 generalize hT1 : hd31 (s0.f 0).l i f = T1 at *
 have zT1 : T1.length <= 1100000:=by
  rw [e1,zAj]
  (simp only [ByteArray.size_append,zAJ,zAR,List.size_toArray,List.length_append,List.length_cons,List.length_nil,maxLen,Nat.reduceAdd,Int.toNat_natCast]; omega)
 have eA : zDF (f.f 7).l = if (f.f 7).l.length = 0 then [] else [44,32,97,102,116,101,114,32] ++ ja:=by unfold zDF; rw [hA]
 have zA : (zDF (f.f 7).l).length <= 200000000:=by
  rw [eA]
  split
  . simp
  . simp only [List.length_append,List.length_cons,List.length_nil]; omega
 have eP : pathT f = if (f.f 2).l.length = 0 then [] else tx ((⟨#[44,32,97,116,32]⟩ : ByteArray) ++ bs jp ++ ⟨#[44,32,102,111,114,32]⟩ ++ (f.f 3).s ++ ⟨#[44,32,98,121,32]⟩ ++ bs jk):=by
  unfold pathT
  rw [hP,show ((f.f 4).l.map fun d => tx d.s) = txs (f.f 4).l from rfl,hK]
  simp only [zAr,zB9]
  rfl
 have zP : (pathT f).length <= 400000000:=by
  rw [eP]
  split
  . simp
  . rw [zAj]
    (simp only [ByteArray.size_append,zAJ,zAR,List.size_toArray,List.length_append,List.length_cons,List.length_nil,maxLen,Nat.reduceAdd,Int.toNat_natCast]; omega)
 have w2:=zBW (e:=EN) (T1 ++ zDF (f.f 7).l) ((⟨#[44,32,97,116,32]⟩ : ByteArray) ++ bs jp ++ ⟨#[44,32,102,111,114,32]⟩ ++ (f.f 3).s ++ ⟨#[44,32,98,121,32]⟩ ++ bs jk) (by rw [List.length_append]; (simp only [ByteArray.size_append,zAJ,zAR,List.size_toArray,List.length_append,List.length_cons,List.length_nil,maxLen,Nat.reduceAdd,Int.toNat_natCast]; omega))
 refine zh 109 Tryz.func60 rfl rfl rfl rfl ?_
 intro s w he
 repeat' (first
|apply zBC 12 ([(8,[4])]) ([(11,[7])]) rfl (by kernel_rfl) (by kernel_rfl) (by kernel_rfl)
|apply zFa
|apply zFZ rfl
 . conv => lhs; whnf
 . conv => lhs; whnf; arg 2; whnf
|apply zC8 rfl
 . conv => lhs; whnf
 . conv => lhs; whnf
 . first | exact hd1 | exact hd2 | exact hja | exact hjp | exact hjk
|apply zFb rfl rfl
 . conv => lhs; whnf
 . first | exact zZ | (conv => lhs; whnf; arg 1; whnf)
 . first | exact fun _ => rfl | (intro _; kernel_rfl)
 . conv => lhs; whnf
 . rfl
 . conv => lhs; whnf; arg 1; whnf
 . conv => lhs; whnf
|apply zB3 rfl rfl rfl
 . conv => lhs; whnf
 . rfl
 . conv => lhs; whnf; arg 1; whnf
 . conv => lhs; whnf; arg 1; whnf
 . exact ⟨by kernel_rfl,by kernel_rfl⟩
 . rfl
|apply zD8 rfl
 . conv => lhs; whnf
 . conv => lhs; whnf
 . rfl
 . conv => lhs; whnf; arg 1; whnf
 . first | exact w1 | exact w2
 . exact fun _ => rfl
 . exact fun _ => rfl
 . rfl
|show inO _ _ = true; rfl
|apply zBC 13 ([(5,[4]),(9,[4])]) ([(12,[7])]) rfl (by kernel_rfl) (by kernel_rfl) (by kernel_rfl)
|apply zFa
|apply zFZ rfl
 . conv => lhs; whnf
 . conv => lhs; whnf; arg 2; whnf
|apply zC8 rfl
 . conv => lhs; whnf
 . conv => lhs; whnf
 . first | exact hd1 | exact hd2 | exact hja | exact hjp | exact hjk
|apply zFb rfl rfl
 . conv => lhs; whnf
 . first | exact zZ | (conv => lhs; whnf; arg 1; whnf)
 . first | exact fun _ => rfl | (intro _; kernel_rfl)
 . conv => lhs; whnf
 . rfl
 . conv => lhs; whnf; arg 1; whnf
 . conv => lhs; whnf
|apply zB3 rfl rfl rfl
 . conv => lhs; whnf
 . rfl
 . conv => lhs; whnf; arg 1; whnf
 . conv => lhs; whnf; arg 1; whnf
 . exact ⟨by kernel_rfl,by kernel_rfl⟩
 . rfl
|apply zD8 rfl
 . conv => lhs; whnf
 . conv => lhs; whnf
 . rfl
 . conv => lhs; whnf; arg 1; whnf
 . first | exact w1 | exact w2
 . exact fun _ => rfl
 . exact fun _ => rfl
 . rfl
|show inO _ _ = true; rfl
|apply s_ws rfl
 . conv => lhs; whnf
 . conv => lhs; whnf
 . rfl
 . conv => lhs; whnf; arg 1; whnf
 . rfl
|apply s_bs rfl
 . conv => lhs; whnf
 . conv => lhs; whnf
 . rfl
 . conv => lhs; whnf; arg 1; whnf
 . exact ⟨rfl,rfl⟩
 . rfl
|apply s_make rfl rfl rfl rfl
 . first | exact zZ | (conv => lhs; whnf; arg 1; whnf)
 . conv => lhs; whnf
 . conv => lhs; whnf
|apply s_wanted_pick_t rfl rfl rfl
 . conv => lhs; whnf
 . first | rfl | assumption
 . conv => lhs; whnf
 . first | exact bT1 ‹_› | exact bT2 ‹_› | rfl
|apply zAL rfl rfl rfl
 . conv => lhs; whnf
 . first | rfl | assumption
 . conv => lhs; whnf
 . first | exact bT1 ‹_› | exact bT2 ‹_› | rfl
|apply s_wanted_pick_f rfl rfl rfl
 . conv => lhs; whnf
 . first | rfl | assumption
 . conv => lhs; whnf
 . first | exact bF1 ‹_› | exact bF2 ‹_› | rfl
|apply zAM rfl rfl rfl
 . conv => lhs; whnf
 . first | rfl | assumption
 . conv => lhs; whnf
 . first | exact bF1 ‹_› | exact bF2 ‹_› | rfl
|apply zBV 5 (HdG31 s0 f i g) rfl
|apply zBV 6 (HdT31 s0 f T1) rfl
|apply zBV 14 (HdT31 s0 f (T1 ++ zDF (f.f 7).l)) rfl
|apply zBV 22 (HdT31 s0 f (T1 ++ zDF (f.f 7).l ++ pathT f)) rfl
|refine zj ?_
|refine za ?_
|refine zAb ?_
|refine zB ?_
|refine zM ?_
|refine zk ?_
|refine zV ?_
|refine zd ?_
|apply aw_1
 conv => whnf
 refine ⟨?_,trivial⟩
|apply zp rfl rfl
 . conv => lhs; whnf
 . conv => lhs; whnf
 . first | exact bT1 ‹_› | exact bT2 ‹_›
|apply zo rfl rfl
 . conv => lhs; whnf
 . conv => lhs; whnf
 . first | exact bF1 ‹_› | exact bF2 ‹_›
|apply s_1
 conv => whnf; arg 1; arg 4; arg 3; whnf
 refine ⟨?_,?_⟩
|apply z7 rfl
 . conv => lhs; whnf
 . conv => lhs; whnf; arg 2; whnf
|apply zl rfl
 . conv => lhs; whnf
 . conv => lhs; whnf
 . first | exact hd1 | exact hd2 | exact hja | exact hjp | exact hjk
|apply zAV rfl rfl rfl rfl
 . conv => lhs; whnf; arg 1; whnf
 . rfl
|apply zr rfl rfl rfl rfl
 . conv => lhs; whnf; arg 1; whnf
 . rfl
|apply zq rfl rfl rfl
 . conv => lhs; whnf
 . conv => lhs; whnf; arg 1; whnf
 . conv => lhs; whnf; arg 1; whnf
 . exact ⟨by kernel_rfl,by kernel_rfl⟩
 . rfl
|apply zAu rfl rfl
 . conv => lhs; whnf
 . first | exact zZ | (conv => lhs; whnf; arg 1; whnf)
 . first | exact fun _ => rfl | (intro _; kernel_rfl)
 . conv => lhs; whnf
 . conv => lhs; whnf; arg 1; whnf
 . conv => lhs; whnf
|apply zx rfl rfl rfl rfl
 . first | exact zZ | (conv => lhs; whnf; arg 1; whnf)
 . first | exact fun _ => rfl | (intro _; kernel_rfl)
 . conv => lhs; whnf
 . conv => lhs; whnf
|apply zAU rfl rfl
 . conv => lhs; whnf
 . first | exact zZ | (conv => lhs; whnf; arg 1; whnf)
|apply zAT rfl rfl
 . conv => lhs; whnf
 . first | exact zZ | (conv => lhs; whnf; arg 1; whnf)
 . conv => lhs; whnf; arg 1; whnf
 . rfl
 . rfl
|apply zAO rfl rfl
 . conv => lhs; whnf
 . first | exact zZ | (conv => lhs; whnf; arg 1; whnf)
 . first | exact fun _ => rfl | (intro _; kernel_rfl)
 . conv => lhs; whnf
 . conv => lhs; whnf
|apply zS rfl
 . conv => lhs; whnf
 . conv => lhs; whnf
 . first | rfl | assumption
 . conv => lhs; whnf; arg 2; whnf
|apply zR rfl
 . conv => lhs; whnf
 . conv => lhs; whnf
 . first | rfl | assumption
 . conv => lhs; whnf
 . first | exact hd1 | exact hd2 | exact hja | exact hjp | exact hjk
|apply zAI rfl
 . conv => lhs; whnf
 . conv => lhs; whnf
 . first | rfl | assumption
|apply zAy rfl
 . conv => lhs; whnf
 . rfl
 . rfl
|apply zf rfl
 . conv => lhs; whnf
 . conv => lhs; whnf
 . conv => lhs; whnf; arg 2; whnf
|apply zu rfl
 . conv => lhs; whnf
 . conv => lhs; whnf
 . conv => lhs; whnf
 . first | exact hd1 | exact hd2 | exact hja | exact hjp | exact hjk
|apply zm rfl
 . conv => lhs; whnf
 . conv => lhs; whnf
 . conv => lhs; whnf; arg 2; whnf
|apply zi rfl
 . conv => lhs; whnf
 . conv => lhs; whnf
 . conv => lhs; whnf
 . first | exact hd1 | exact hd2 | exact hja | exact hjp | exact hjk
|apply zw (by kernel_rfl) (by kernel_rfl)
|apply zAd
|apply zAg rfl rfl
 . conv => lhs; whnf
 . conv => lhs; whnf
 . first | exact bT1 ‹_› | exact bT2 ‹_›
|apply zAY rfl rfl
 . conv => lhs; whnf
 . conv => lhs; whnf
 . first | exact bF1 ‹_› | exact bF2 ‹_›
|apply zAc rfl
 . conv => lhs; whnf
 . conv => lhs; whnf; arg 2; whnf
|apply zAQ rfl
 . conv => lhs; whnf
 . conv => lhs; whnf
 . first | exact hd1 | exact hd2 | exact hja | exact hjp | exact hjk
|apply zAD rfl rfl rfl
 . conv => lhs; whnf
 . rfl
 . rfl
 . conv => lhs; whnf; arg 1; whnf
 . conv => lhs; whnf; arg 1; whnf
 . exact ⟨by kernel_rfl,by kernel_rfl⟩
 . rfl
|apply zAz rfl rfl
 . conv => lhs; whnf
 . first | exact zZ | (conv => lhs; whnf; arg 1; whnf)
 . first | exact fun _ => rfl | (intro _; kernel_rfl)
 . conv => lhs; whnf
 . rfl
 . rfl
 . conv => lhs; whnf; arg 1; whnf
 . conv => lhs; whnf
|apply zAa rfl rfl
 . conv => lhs; whnf
 . first | exact zZ | (conv => lhs; whnf; arg 1; whnf)
|apply zAZ rfl rfl
 . conv => lhs; whnf
 . first | exact zZ | (conv => lhs; whnf; arg 1; whnf)
 . conv => lhs; whnf; arg 1; whnf
 . rfl
 . rfl
|apply zAS rfl rfl
 . conv => lhs; whnf
 . first | exact zZ | (conv => lhs; whnf; arg 1; whnf)
 . first | exact fun _ => rfl | (intro _; kernel_rfl)
 . conv => lhs; whnf
 . conv => lhs; whnf
|apply zy rfl
 . conv => lhs; whnf
 . conv => lhs; whnf
 . first | rfl | assumption
 . conv => lhs; whnf; arg 2; whnf
|apply zt rfl
 . conv => lhs; whnf
 . conv => lhs; whnf
 . first | rfl | assumption
 . conv => lhs; whnf
 . first | exact hd1 | exact hd2 | exact hja | exact hjp | exact hjk
|apply zA1 rfl
 . conv => lhs; whnf
 . conv => lhs; whnf
 . first | rfl | assumption
|apply zAE rfl
 . conv => lhs; whnf
 . conv => lhs; whnf
 . conv => lhs; whnf; arg 2; whnf
|apply zAA rfl
 . conv => lhs; whnf
 . conv => lhs; whnf
 . conv => lhs; whnf
 . first | exact hd1 | exact hd2 | exact hja | exact hjp | exact hjk
|exact zX
|exact ze
|exact all_nil
|show List.all _ _ = true; rfl
|show zAB _ _ = true; rfl
|exact ([] : List Nat)
|exact (1000000 : Nat)
|apply zN
 . conv => lhs; whnf; arg 1; arg 1; whnf
|apply zO
 . conv => lhs; whnf; arg 1; arg 1; whnf
|refine zW (by conv => lhs; whnf) ?_ ?_ <;> intro hb
|refine zn ?_
|refine zb ?_
|refine zH ?_
|refine zL ?_
|refine zG ?_
|refine zD rfl ?_
|refine zF rfl ?_
|refine zE ?_
|refine zJ ?_
|refine zC ?_
|refine zK ?_
|refine z8 ?_
|refine zI ?_
|refine ⟨_,by conv => lhs; whnf; arg 2; whnf,?_⟩; conv => rhs; whnf
|exact trivial
|intro hg)
 . refine Sub.trans (Sub.bld (m:=7) (e:=5) rfl) (Sub.live ⟨rfl,rfl,rfl,rfl,?_,trivial⟩ ⟨rfl,rfl,rfl,trivial⟩)
   refine congrArg (fun b => V.c (.string b)) ?_
   show (gD (s0.f 0).l ((f.f 0).n).toNat).s = bs g
   have q0 : 0 <= (f.f 0).n:=by simpa using hg
   rw [<- hG]
   unfold zDb
   rw [if_pos ⟨q0,of_decide_eq_true hb⟩,zCM]
 . exact ⟨by simpa using hg,of_decide_eq_true hb⟩
 . refine Sub.trans (Sub.bld (m:=7) (e:=5) rfl) (Sub.live ⟨rfl,rfl,rfl,rfl,?_,trivial⟩ ⟨rfl,rfl,rfl,trivial⟩)
   refine congrArg (fun b => V.c (.string b)) ?_
   have q1:=of_decide_eq_false hb
   rw [<- hG]
   unfold zDb
   rw [if_neg (fun q => q1 q.2)]
   rfl
 . refine Sub.trans (Sub.bld (m:=7) (e:=5) rfl) (Sub.live ⟨rfl,rfl,rfl,rfl,?_,trivial⟩ ⟨rfl,rfl,rfl,trivial⟩)
   refine congrArg (fun b => V.c (.string b)) ?_
   have q1 : ¬ 0 <= (f.f 0).n:=by simpa using hg
   rw [<- hG]
   unfold zDb
   rw [if_neg (fun q => q1 q.1)]
   rfl
 . refine Sub.live ⟨rfl,rfl,rfl,trivial⟩ ⟨rfl,rfl,?_,trivial⟩
   rw [e1]
   rfl
 iterate 5
  . (simp only [ByteArray.size_append,zAJ,zAR,List.size_toArray,List.length_append,List.length_cons,List.length_nil,maxLen,Nat.reduceAdd,Int.toNat_natCast]; omega)
 . refine zAG (fun j st => ∃ i,i + j = (f.f 7).l.length /\ Sub (cx EN Tryz.prog s w he) st (HdA31 s0 f T1 i)) (f.f 7).l.length ⟨0,by omega,Sub.live ⟨rfl,rfl,rfl,rfl,rfl,rfl,rfl,trivial⟩ ⟨rfl,rfl,rfl,rfl,trivial⟩⟩ ?_
   rintro j st ⟨i,hij,hs2⟩
   refine zAF hs2 ?_
   clear hs2
   have htk:=zAe (fun i => Lib.itoa (gD (f.f 7).l i).n) i
   by_cases hi : i < (f.f 7).l.length
   . have f0 : decide ((i : Int) < ((f.f 7).l.length : Nat)) = true:=decide_eq_true (by omega)
     have hx:=zG0 (gD (f.f 7).l i).n (h.na i hi).1 (h.na i hi).2
     repeat' (first
|apply zT
 . conv => lhs; whnf
 . assumption
|apply zQ
 . conv => lhs; whnf
 . assumption
|refine zj ?_
|refine za ?_
|refine zAb ?_
|refine zB ?_
|refine zM ?_
|refine zk ?_
|refine zV ?_
|refine zd ?_
|apply aw_1
 conv => whnf
 refine ⟨?_,trivial⟩
|apply zp rfl rfl
 . conv => lhs; whnf
 . conv => lhs; whnf
 . first | exact bT1 ‹_› | exact bT2 ‹_›
|apply zo rfl rfl
 . conv => lhs; whnf
 . conv => lhs; whnf
 . first | exact bF1 ‹_› | exact bF2 ‹_›
|apply s_1
 conv => whnf; arg 1; arg 4; arg 3; whnf
 refine ⟨?_,?_⟩
|apply z7 rfl
 . conv => lhs; whnf
 . conv => lhs; whnf; arg 2; whnf
|apply zl rfl
 . conv => lhs; whnf
 . conv => lhs; whnf
 . first | exact hx
|apply zAV rfl rfl rfl rfl
 . conv => lhs; whnf; arg 1; whnf
 . rfl
|apply zr rfl rfl rfl rfl
 . conv => lhs; whnf; arg 1; whnf
 . rfl
|apply zq rfl rfl rfl
 . conv => lhs; whnf
 . conv => lhs; whnf; arg 1; whnf
 . conv => lhs; whnf; arg 1; whnf
 . exact ⟨by kernel_rfl,by kernel_rfl⟩
 . rfl
|apply zAu rfl rfl
 . conv => lhs; whnf
 . first | exact zZ | (conv => lhs; whnf; arg 1; whnf)
 . first | exact fun _ => rfl | (intro _; kernel_rfl)
 . conv => lhs; whnf
 . conv => lhs; whnf; arg 1; whnf
 . conv => lhs; whnf
|apply zx rfl rfl rfl rfl
 . first | exact zZ | (conv => lhs; whnf; arg 1; whnf)
 . first | exact fun _ => rfl | (intro _; kernel_rfl)
 . conv => lhs; whnf
 . conv => lhs; whnf
|apply zAU rfl rfl
 . conv => lhs; whnf
 . first | exact zZ | (conv => lhs; whnf; arg 1; whnf)
|apply zAT rfl rfl
 . conv => lhs; whnf
 . first | exact zZ | (conv => lhs; whnf; arg 1; whnf)
 . conv => lhs; whnf; arg 1; whnf
 . rfl
 . rfl
|apply zAO rfl rfl
 . conv => lhs; whnf
 . first | exact zZ | (conv => lhs; whnf; arg 1; whnf)
 . first | exact fun _ => rfl | (intro _; kernel_rfl)
 . conv => lhs; whnf
 . conv => lhs; whnf
|apply zS rfl
 . conv => lhs; whnf
 . conv => lhs; whnf
 . first | rfl | assumption
 . conv => lhs; whnf; arg 2; whnf
|apply zR rfl
 . conv => lhs; whnf
 . conv => lhs; whnf
 . first | rfl | assumption
 . conv => lhs; whnf
 . first | exact hx
|apply zA6 rfl
 . conv => lhs; whnf
 . conv => lhs; whnf
 . first | rfl | assumption
|apply zm rfl
 . conv => lhs; whnf
 . conv => lhs; whnf
 . conv => lhs; whnf; arg 2; whnf
|apply zi rfl
 . conv => lhs; whnf
 . conv => lhs; whnf
 . conv => lhs; whnf
 . first | exact hx
|apply zw (by kernel_rfl) (by kernel_rfl)
|apply zAd
|apply zAg rfl rfl
 . conv => lhs; whnf
 . conv => lhs; whnf
 . first | exact bT1 ‹_› | exact bT2 ‹_›
|apply zAY rfl rfl
 . conv => lhs; whnf
 . conv => lhs; whnf
 . first | exact bF1 ‹_› | exact bF2 ‹_›
|apply zAc rfl
 . conv => lhs; whnf
 . conv => lhs; whnf; arg 2; whnf
|apply zAQ rfl
 . conv => lhs; whnf
 . conv => lhs; whnf
 . first | exact hx
|apply zAD rfl rfl rfl
 . conv => lhs; whnf
 . rfl
 . rfl
 . conv => lhs; whnf; arg 1; whnf
 . conv => lhs; whnf; arg 1; whnf
 . exact ⟨by kernel_rfl,by kernel_rfl⟩
 . rfl
|apply zAz rfl rfl
 . conv => lhs; whnf
 . first | exact zZ | (conv => lhs; whnf; arg 1; whnf)
 . first | exact fun _ => rfl | (intro _; kernel_rfl)
 . conv => lhs; whnf
 . rfl
 . rfl
 . conv => lhs; whnf; arg 1; whnf
 . conv => lhs; whnf
|apply zAa rfl rfl
 . conv => lhs; whnf
 . first | exact zZ | (conv => lhs; whnf; arg 1; whnf)
|apply zAZ rfl rfl
 . conv => lhs; whnf
 . first | exact zZ | (conv => lhs; whnf; arg 1; whnf)
 . conv => lhs; whnf; arg 1; whnf
 . rfl
 . rfl
|apply zAS rfl rfl
 . conv => lhs; whnf
 . first | exact zZ | (conv => lhs; whnf; arg 1; whnf)
 . first | exact fun _ => rfl | (intro _; kernel_rfl)
 . conv => lhs; whnf
 . conv => lhs; whnf
|apply zy rfl
 . conv => lhs; whnf
 . conv => lhs; whnf
 . first | rfl | assumption
 . conv => lhs; whnf; arg 2; whnf
|apply zt rfl
 . conv => lhs; whnf
 . conv => lhs; whnf
 . first | rfl | assumption
 . conv => lhs; whnf
 . first | exact hx
|apply zA1 rfl
 . conv => lhs; whnf
 . conv => lhs; whnf
 . first | rfl | assumption
|apply zAE rfl
 . conv => lhs; whnf
 . conv => lhs; whnf
 . conv => lhs; whnf; arg 2; whnf
|apply zAA rfl
 . conv => lhs; whnf
 . conv => lhs; whnf
 . conv => lhs; whnf
 . first | exact hx
|exact zX
|exact ze
|exact all_nil
|show List.all _ _ = true; rfl
|show zAB _ _ = true; rfl
|exact ([] : List Nat)
|exact (1000000 : Nat)
|apply zN
 . conv => lhs; whnf; arg 1; arg 1; whnf
|apply zO
 . conv => lhs; whnf; arg 1; arg 1; whnf
|refine zW (by conv => lhs; whnf) ?_ ?_ <;> intro hb
|refine zn ?_
|refine zb ?_
|refine zH ?_
|refine zL ?_
|refine zG ?_
|refine zD rfl ?_
|refine zF rfl ?_
|refine zE ?_
|refine zJ ?_
|refine zC ?_
|refine zK ?_
|refine z8 ?_
|refine zI ?_
|refine ⟨_,by conv => lhs; whnf; arg 2; whnf,?_⟩; conv => rhs; whnf
|exact trivial
|intro hg)
     all_goals first
      | exact zAN (by omega)
      | exact at31 hi
      | exact zCO (by omega) (by omega)
      | skip
     refine zY (j':=j - 1) (by omega) ⟨i + 1,by omega,Sub.live ⟨rfl,rfl,rfl,?_,rfl,rfl,rfl,trivial⟩ ⟨rfl,rfl,rfl,?_,trivial⟩⟩
     . show V.own 51 _ (zAH _ i ++ [.str (bs _)]) = _
       rw [zAK]
     . show some (Res.tok _ ((zAH _ i).length + 1)) = _
       rw [zAK,List.length_append]; rfl
   . have f0 : decide ((i : Int) < ((f.f 7).l.length : Nat)) = false:=decide_eq_false (by omega)
     obtain rfl : i = (f.f 7).l.length:=by omega
     have hp : 0 < (f.f 7).l.length:=by have hb : decide ((((f.f 7).l.length : Nat) : Int) > 0) = true:=hb; have:=of_decide_eq_true hb; omega
     repeat' (first
|apply s_ws rfl
 . conv => lhs; whnf
 . conv => lhs; whnf
 . rfl
 . conv => lhs; whnf; arg 1; whnf
 . rfl
|apply zT
 . conv => lhs; whnf
 . assumption
|apply zQ
 . conv => lhs; whnf
 . assumption
|refine zj ?_
|refine za ?_
|refine zAb ?_
|refine zB ?_
|refine zM ?_
|refine zk ?_
|refine zV ?_
|refine zd ?_
|apply aw_1
 conv => whnf
 refine ⟨?_,trivial⟩
|apply zp rfl rfl
 . conv => lhs; whnf
 . conv => lhs; whnf
 . first | exact bT1 ‹_› | exact bT2 ‹_›
|apply zo rfl rfl
 . conv => lhs; whnf
 . conv => lhs; whnf
 . first | exact bF1 ‹_› | exact bF2 ‹_›
|apply s_1
 conv => whnf; arg 1; arg 4; arg 3; whnf
 refine ⟨?_,?_⟩
|apply z7 rfl
 . conv => lhs; whnf
 . conv => lhs; whnf; arg 2; whnf
|apply zl rfl
 . conv => lhs; whnf
 . conv => lhs; whnf
 . first | exact hja
|apply zAV rfl rfl rfl rfl
 . conv => lhs; whnf; arg 1; whnf
 . rfl
|apply zr rfl rfl rfl rfl
 . conv => lhs; whnf; arg 1; whnf
 . rfl
|apply zq rfl rfl rfl
 . conv => lhs; whnf
 . conv => lhs; whnf; arg 1; whnf
 . conv => lhs; whnf; arg 1; whnf
 . exact ⟨by kernel_rfl,by kernel_rfl⟩
 . rfl
|apply zAu rfl rfl
 . conv => lhs; whnf
 . first | (conv => lhs; whnf; arg 1; whnf)
 . first | exact fun _ => rfl | (intro _; kernel_rfl)
 . conv => lhs; whnf
 . conv => lhs; whnf; arg 1; whnf
 . conv => lhs; whnf
|apply zx rfl rfl rfl rfl
 . first | (conv => lhs; whnf; arg 1; whnf)
 . first | exact fun _ => rfl | (intro _; kernel_rfl)
 . conv => lhs; whnf
 . conv => lhs; whnf
|apply zAU rfl rfl
 . conv => lhs; whnf
 . first | (conv => lhs; whnf; arg 1; whnf)
|apply zAT rfl rfl
 . conv => lhs; whnf
 . first | (conv => lhs; whnf; arg 1; whnf)
 . conv => lhs; whnf; arg 1; whnf
 . rfl
 . rfl
|apply zAO rfl rfl
 . conv => lhs; whnf
 . first | (conv => lhs; whnf; arg 1; whnf)
 . first | exact fun _ => rfl | (intro _; kernel_rfl)
 . conv => lhs; whnf
 . conv => lhs; whnf
|apply zS rfl
 . conv => lhs; whnf
 . conv => lhs; whnf
 . first | rfl | assumption
 . conv => lhs; whnf; arg 2; whnf
|apply zR rfl
 . conv => lhs; whnf
 . conv => lhs; whnf
 . first | rfl | assumption
 . conv => lhs; whnf
 . first | exact hja
|apply zA6 rfl
 . conv => lhs; whnf
 . conv => lhs; whnf
 . first | rfl | assumption
|apply zm rfl
 . conv => lhs; whnf
 . conv => lhs; whnf
 . conv => lhs; whnf; arg 2; whnf
|apply zi rfl
 . conv => lhs; whnf
 . conv => lhs; whnf
 . conv => lhs; whnf
 . first | exact hja
|apply zw (by kernel_rfl) (by kernel_rfl)
|apply zAd
|apply zAg rfl rfl
 . conv => lhs; whnf
 . conv => lhs; whnf
 . first | exact bT1 ‹_› | exact bT2 ‹_›
|apply zAY rfl rfl
 . conv => lhs; whnf
 . conv => lhs; whnf
 . first | exact bF1 ‹_› | exact bF2 ‹_›
|apply zAc rfl
 . conv => lhs; whnf
 . conv => lhs; whnf; arg 2; whnf
|apply zAQ rfl
 . conv => lhs; whnf
 . conv => lhs; whnf
 . first | exact hja
|apply zAD rfl rfl rfl
 . conv => lhs; whnf
 . rfl
 . rfl
 . conv => lhs; whnf; arg 1; whnf
 . conv => lhs; whnf; arg 1; whnf
 . exact ⟨by kernel_rfl,by kernel_rfl⟩
 . rfl
|apply zAz rfl rfl
 . conv => lhs; whnf
 . first | (conv => lhs; whnf; arg 1; whnf)
 . first | exact fun _ => rfl | (intro _; kernel_rfl)
 . conv => lhs; whnf
 . rfl
 . rfl
 . conv => lhs; whnf; arg 1; whnf
 . conv => lhs; whnf
|apply zAa rfl rfl
 . conv => lhs; whnf
 . first | (conv => lhs; whnf; arg 1; whnf)
|apply zAZ rfl rfl
 . conv => lhs; whnf
 . first | (conv => lhs; whnf; arg 1; whnf)
 . conv => lhs; whnf; arg 1; whnf
 . rfl
 . rfl
|apply zAS rfl rfl
 . conv => lhs; whnf
 . first | (conv => lhs; whnf; arg 1; whnf)
 . first | exact fun _ => rfl | (intro _; kernel_rfl)
 . conv => lhs; whnf
 . conv => lhs; whnf
|apply zy rfl
 . conv => lhs; whnf
 . conv => lhs; whnf
 . first | rfl | assumption
 . conv => lhs; whnf; arg 2; whnf
|apply zt rfl
 . conv => lhs; whnf
 . conv => lhs; whnf
 . first | rfl | assumption
 . conv => lhs; whnf
 . first | exact hja
|apply zA1 rfl
 . conv => lhs; whnf
 . conv => lhs; whnf
 . first | rfl | assumption
|apply zAE rfl
 . conv => lhs; whnf
 . conv => lhs; whnf
 . conv => lhs; whnf; arg 2; whnf
|apply zAA rfl
 . conv => lhs; whnf
 . conv => lhs; whnf
 . conv => lhs; whnf
 . first | exact hja
|exact zX
|exact ze
|exact all_nil
|show List.all _ _ = true; rfl
|show zAB _ _ = true; rfl
|exact ([] : List Nat)
|exact (1000000 : Nat)
|apply zN
 . conv => lhs; whnf; arg 1; arg 1; whnf
|apply zO
 . conv => lhs; whnf; arg 1; arg 1; whnf
|refine zW (by conv => lhs; whnf) ?_ ?_ <;> intro hb
|refine zn ?_
|refine zb ?_
|refine zH ?_
|refine zL ?_
|refine zG ?_
|refine zD rfl ?_
|refine zF rfl ?_
|refine zE ?_
|refine zJ ?_
|refine zC ?_
|refine zK ?_
|refine z8 ?_
|refine zI ?_
|refine ⟨_,by conv => lhs; whnf; arg 2; whnf,?_⟩; conv => rhs; whnf
|exact trivial
|intro hg)
     . refine Sub.live ⟨rfl,rfl,rfl,trivial⟩ ⟨rfl,rfl,?_,trivial⟩
       rw [eA,if_neg (by omega)]
       rfl
     all_goals (simp only [ByteArray.size_append,zAJ,zAR,List.size_toArray,List.length_append,List.length_cons,List.length_nil,maxLen,Nat.reduceAdd,Int.toNat_natCast]; omega)
 . exact (show (f.f 7).l.length <= maxLen /\ (f.f 7).l.length * 16 <= 140737488355328 from ⟨by unfold maxLen; omega,by omega⟩)
 . have hp : (f.f 7).l.length = 0:=by have hb : decide ((((f.f 7).l.length : Nat) : Int) > 0) = false:=hb; have:=of_decide_eq_false hb; omega
   rw [eA,if_pos hp,List.append_nil]
   exact Sub.live ⟨rfl,rfl,rfl,trivial⟩ ⟨rfl,rfl,rfl,trivial⟩
 . refine zAG (fun j st => ∃ i,i + j = (f.f 2).l.length /\ Sub (cx EN Tryz.prog s w he) st (HdP31 s0 f (T1 ++ zDF (f.f 7).l) i)) (f.f 2).l.length ⟨0,by omega,Sub.live ⟨rfl,rfl,rfl,rfl,rfl,rfl,rfl,trivial⟩ ⟨rfl,rfl,rfl,rfl,trivial⟩⟩ ?_
   rintro j st ⟨i,hij,hs2⟩
   refine zAF hs2 ?_
   clear hs2
   have htk:=zAe (fun i => hopT (gD (f.f 2).l i)) i
   by_cases hi : i < (f.f 2).l.length
   . have f0 : decide ((i : Int) < ((f.f 2).l.length : Nat)) = true:=decide_eq_true (by omega)
     have hsz:=h.sp i hi
     repeat' (first
|apply zT
 . conv => lhs; whnf
 . assumption
|apply zQ
 . conv => lhs; whnf
 . assumption
|refine zj ?_
|refine za ?_
|refine zAb ?_
|refine zB ?_
|refine zM ?_
|refine zk ?_
|refine zV ?_
|refine zd ?_
|apply aw_1
 conv => whnf
 refine ⟨?_,trivial⟩
|apply zp rfl rfl
 . conv => lhs; whnf
 . conv => lhs; whnf
 . first | exact bT1 ‹_› | exact bT2 ‹_›
|apply zo rfl rfl
 . conv => lhs; whnf
 . conv => lhs; whnf
 . first | exact bF1 ‹_› | exact bF2 ‹_›
|apply s_1
 conv => whnf; arg 1; arg 4; arg 3; whnf
 refine ⟨?_,?_⟩
|apply z7 rfl
 . conv => lhs; whnf
 . conv => lhs; whnf; arg 2; whnf
|apply zl rfl
 . conv => lhs; whnf
 . conv => lhs; whnf
 . first | fail
|apply zAV rfl rfl rfl rfl
 . conv => lhs; whnf; arg 1; whnf
 . rfl
|apply zr rfl rfl rfl rfl
 . conv => lhs; whnf; arg 1; whnf
 . rfl
|apply zq rfl rfl rfl
 . conv => lhs; whnf
 . conv => lhs; whnf; arg 1; whnf
 . conv => lhs; whnf; arg 1; whnf
 . exact ⟨by kernel_rfl,by kernel_rfl⟩
 . rfl
|apply zAu rfl rfl
 . conv => lhs; whnf
 . first | exact zZ | (conv => lhs; whnf; arg 1; whnf)
 . first | exact fun _ => rfl | (intro _; kernel_rfl)
 . conv => lhs; whnf
 . conv => lhs; whnf; arg 1; whnf
 . conv => lhs; whnf
|apply zx rfl rfl rfl rfl
 . first | exact zZ | (conv => lhs; whnf; arg 1; whnf)
 . first | exact fun _ => rfl | (intro _; kernel_rfl)
 . conv => lhs; whnf
 . conv => lhs; whnf
|apply zAU rfl rfl
 . conv => lhs; whnf
 . first | exact zZ | (conv => lhs; whnf; arg 1; whnf)
|apply zAT rfl rfl
 . conv => lhs; whnf
 . first | exact zZ | (conv => lhs; whnf; arg 1; whnf)
 . conv => lhs; whnf; arg 1; whnf
 . rfl
 . rfl
|apply zAO rfl rfl
 . conv => lhs; whnf
 . first | exact zZ | (conv => lhs; whnf; arg 1; whnf)
 . first | exact fun _ => rfl | (intro _; kernel_rfl)
 . conv => lhs; whnf
 . conv => lhs; whnf
|apply zS rfl
 . conv => lhs; whnf
 . conv => lhs; whnf
 . first | rfl | assumption
 . conv => lhs; whnf; arg 2; whnf
|apply zR rfl
 . conv => lhs; whnf
 . conv => lhs; whnf
 . first | rfl | assumption
 . conv => lhs; whnf
 . first | fail
|apply zA6 rfl
 . conv => lhs; whnf
 . conv => lhs; whnf
 . first | rfl | assumption
|apply zm rfl
 . conv => lhs; whnf
 . conv => lhs; whnf
 . conv => lhs; whnf; arg 2; whnf
|apply zi rfl
 . conv => lhs; whnf
 . conv => lhs; whnf
 . conv => lhs; whnf
 . first | fail
|apply zw (by kernel_rfl) (by kernel_rfl)
|apply zAd
|apply zAg rfl rfl
 . conv => lhs; whnf
 . conv => lhs; whnf
 . first | exact bT1 ‹_› | exact bT2 ‹_›
|apply zAY rfl rfl
 . conv => lhs; whnf
 . conv => lhs; whnf
 . first | exact bF1 ‹_› | exact bF2 ‹_›
|apply zAc rfl
 . conv => lhs; whnf
 . conv => lhs; whnf; arg 2; whnf
|apply zAQ rfl
 . conv => lhs; whnf
 . conv => lhs; whnf
 . first | fail
|apply zAD rfl rfl rfl
 . conv => lhs; whnf
 . rfl
 . rfl
 . conv => lhs; whnf; arg 1; whnf
 . conv => lhs; whnf; arg 1; whnf
 . exact ⟨by kernel_rfl,by kernel_rfl⟩
 . rfl
|apply zAz rfl rfl
 . conv => lhs; whnf
 . first | exact zZ | (conv => lhs; whnf; arg 1; whnf)
 . first | exact fun _ => rfl | (intro _; kernel_rfl)
 . conv => lhs; whnf
 . rfl
 . rfl
 . conv => lhs; whnf; arg 1; whnf
 . conv => lhs; whnf
|apply zAa rfl rfl
 . conv => lhs; whnf
 . first | exact zZ | (conv => lhs; whnf; arg 1; whnf)
|apply zAZ rfl rfl
 . conv => lhs; whnf
 . first | exact zZ | (conv => lhs; whnf; arg 1; whnf)
 . conv => lhs; whnf; arg 1; whnf
 . rfl
 . rfl
|apply zAS rfl rfl
 . conv => lhs; whnf
 . first | exact zZ | (conv => lhs; whnf; arg 1; whnf)
 . first | exact fun _ => rfl | (intro _; kernel_rfl)
 . conv => lhs; whnf
 . conv => lhs; whnf
|apply zy rfl
 . conv => lhs; whnf
 . conv => lhs; whnf
 . first | rfl | assumption
 . conv => lhs; whnf; arg 2; whnf
|apply zt rfl
 . conv => lhs; whnf
 . conv => lhs; whnf
 . first | rfl | assumption
 . conv => lhs; whnf
 . first | fail
|apply zA1 rfl
 . conv => lhs; whnf
 . conv => lhs; whnf
 . first | rfl | assumption
|apply zAE rfl
 . conv => lhs; whnf
 . conv => lhs; whnf
 . conv => lhs; whnf; arg 2; whnf
|apply zAA rfl
 . conv => lhs; whnf
 . conv => lhs; whnf
 . conv => lhs; whnf
 . first | fail
|exact zX
|exact ze
|exact all_nil
|show List.all _ _ = true; rfl
|show zAB _ _ = true; rfl
|exact ([] : List Nat)
|exact (1000000 : Nat)
|apply zN
 . conv => lhs; whnf; arg 1; arg 1; whnf
|apply zO
 . conv => lhs; whnf; arg 1; arg 1; whnf
|refine zW (by conv => lhs; whnf) ?_ ?_ <;> intro hb
|refine zn ?_
|refine zb ?_
|refine zH ?_
|refine zL ?_
|refine zG ?_
|refine zD rfl ?_
|refine zF rfl ?_
|refine zE ?_
|refine zJ ?_
|refine zC ?_
|refine zK ?_
|refine z8 ?_
|refine zI ?_
|refine ⟨_,by conv => lhs; whnf; arg 2; whnf,?_⟩; conv => rhs; whnf
|exact trivial
|intro hg)
     all_goals first
      | exact zAN (by omega)
      | exact at31 hi
      | exact zCO (by omega) (by omega)
      | ((simp only [ByteArray.size_append,zAJ,zAR,List.size_toArray,List.length_append,List.length_cons,List.length_nil,maxLen,Nat.reduceAdd,Int.toNat_natCast]; omega); done)
      | skip
     refine zY (j':=j - 1) (by omega) ⟨i + 1,by omega,Sub.live ⟨rfl,rfl,rfl,?_,rfl,rfl,rfl,trivial⟩ ⟨rfl,rfl,rfl,?_,trivial⟩⟩
     . rw [zAK]
       refine congrArg (fun b => V.own 76 _ (zAH _ i ++ [.str b])) ?_
       show ((gD (f.f 2).l i).f 0).s ++ (⟨#[46]⟩ : ByteArray) ++ ((gD (f.f 2).l i).f 1).s = bs (hopT _)
       unfold hopT
       rw [<- zz,<- zz,zCM,zCM]
       rfl
     . show some (Res.tok _ ((zAH _ i).length + 1)) = _
       rw [zAK,List.length_append]; rfl
   . have f0 : decide ((i : Int) < ((f.f 2).l.length : Nat)) = false:=decide_eq_false (by omega)
     obtain rfl : i = (f.f 2).l.length:=by omega
     have hp : 0 < (f.f 2).l.length:=by have hb : decide ((((f.f 2).l.length : Nat) : Int) > 0) = true:=hb; have:=of_decide_eq_true hb; omega
     repeat' (first
|apply zBC 13 ([(5,[4]),(9,[4])]) ([(12,[7])]) rfl (by kernel_rfl) (by kernel_rfl) (by kernel_rfl)
|apply zFa
|apply zFZ rfl
 . conv => lhs; whnf
 . conv => lhs; whnf; arg 2; whnf
|apply zC8 rfl
 . conv => lhs; whnf
 . conv => lhs; whnf
 . first | exact hjp | exact hjk
|apply zFb rfl rfl
 . conv => lhs; whnf
 . first | (conv => lhs; whnf; arg 1; whnf)
 . first | exact fun _ => rfl | (intro _; kernel_rfl)
 . conv => lhs; whnf
 . rfl
 . conv => lhs; whnf; arg 1; whnf
 . conv => lhs; whnf
|apply zB3 rfl rfl rfl
 . conv => lhs; whnf
 . rfl
 . conv => lhs; whnf; arg 1; whnf
 . conv => lhs; whnf; arg 1; whnf
 . exact ⟨by kernel_rfl,by kernel_rfl⟩
 . rfl
|apply zD8 rfl
 . conv => lhs; whnf
 . conv => lhs; whnf
 . rfl
 . conv => lhs; whnf; arg 1; whnf
 . first | exact w2
 . exact fun _ => rfl
 . exact fun _ => rfl
 . rfl
|show inO _ _ = true; rfl
|apply zT
 . conv => lhs; whnf
 . assumption
|apply zQ
 . conv => lhs; whnf
 . assumption
|refine zj ?_
|refine za ?_
|refine zAb ?_
|refine zB ?_
|refine zM ?_
|refine zk ?_
|refine zV ?_
|refine zd ?_
|apply aw_1
 conv => whnf
 refine ⟨?_,trivial⟩
|apply zp rfl rfl
 . conv => lhs; whnf
 . conv => lhs; whnf
 . first | exact bT1 ‹_› | exact bT2 ‹_›
|apply zo rfl rfl
 . conv => lhs; whnf
 . conv => lhs; whnf
 . first | exact bF1 ‹_› | exact bF2 ‹_›
|apply s_1
 conv => whnf; arg 1; arg 4; arg 3; whnf
 refine ⟨?_,?_⟩
|apply z7 rfl
 . conv => lhs; whnf
 . conv => lhs; whnf; arg 2; whnf
|apply zl rfl
 . conv => lhs; whnf
 . conv => lhs; whnf
 . first | exact hjp | exact hjk
|apply zAV rfl rfl rfl rfl
 . conv => lhs; whnf; arg 1; whnf
 . rfl
|apply zr rfl rfl rfl rfl
 . conv => lhs; whnf; arg 1; whnf
 . rfl
|apply zq rfl rfl rfl
 . conv => lhs; whnf
 . conv => lhs; whnf; arg 1; whnf
 . conv => lhs; whnf; arg 1; whnf
 . exact ⟨by kernel_rfl,by kernel_rfl⟩
 . rfl
|apply zAu rfl rfl
 . conv => lhs; whnf
 . first | (conv => lhs; whnf; arg 1; whnf)
 . first | exact fun _ => rfl | (intro _; kernel_rfl)
 . conv => lhs; whnf
 . conv => lhs; whnf; arg 1; whnf
 . conv => lhs; whnf
|apply zx rfl rfl rfl rfl
 . first | (conv => lhs; whnf; arg 1; whnf)
 . first | exact fun _ => rfl | (intro _; kernel_rfl)
 . conv => lhs; whnf
 . conv => lhs; whnf
|apply zAU rfl rfl
 . conv => lhs; whnf
 . first | (conv => lhs; whnf; arg 1; whnf)
|apply zAT rfl rfl
 . conv => lhs; whnf
 . first | (conv => lhs; whnf; arg 1; whnf)
 . conv => lhs; whnf; arg 1; whnf
 . rfl
 . rfl
|apply zAO rfl rfl
 . conv => lhs; whnf
 . first | (conv => lhs; whnf; arg 1; whnf)
 . first | exact fun _ => rfl | (intro _; kernel_rfl)
 . conv => lhs; whnf
 . conv => lhs; whnf
|apply zS rfl
 . conv => lhs; whnf
 . conv => lhs; whnf
 . first | rfl | assumption
 . conv => lhs; whnf; arg 2; whnf
|apply zR rfl
 . conv => lhs; whnf
 . conv => lhs; whnf
 . first | rfl | assumption
 . conv => lhs; whnf
 . first | exact hjp | exact hjk
|apply zA6 rfl
 . conv => lhs; whnf
 . conv => lhs; whnf
 . first | rfl | assumption
|apply zm rfl
 . conv => lhs; whnf
 . conv => lhs; whnf
 . conv => lhs; whnf; arg 2; whnf
|apply zi rfl
 . conv => lhs; whnf
 . conv => lhs; whnf
 . conv => lhs; whnf
 . first | exact hjp | exact hjk
|apply zw (by kernel_rfl) (by kernel_rfl)
|apply zAd
|apply zAg rfl rfl
 . conv => lhs; whnf
 . conv => lhs; whnf
 . first | exact bT1 ‹_› | exact bT2 ‹_›
|apply zAY rfl rfl
 . conv => lhs; whnf
 . conv => lhs; whnf
 . first | exact bF1 ‹_› | exact bF2 ‹_›
|apply zAc rfl
 . conv => lhs; whnf
 . conv => lhs; whnf; arg 2; whnf
|apply zAQ rfl
 . conv => lhs; whnf
 . conv => lhs; whnf
 . first | exact hjp | exact hjk
|apply zAD rfl rfl rfl
 . conv => lhs; whnf
 . rfl
 . rfl
 . conv => lhs; whnf; arg 1; whnf
 . conv => lhs; whnf; arg 1; whnf
 . exact ⟨by kernel_rfl,by kernel_rfl⟩
 . rfl
|apply zAz rfl rfl
 . conv => lhs; whnf
 . first | (conv => lhs; whnf; arg 1; whnf)
 . first | exact fun _ => rfl | (intro _; kernel_rfl)
 . conv => lhs; whnf
 . rfl
 . rfl
 . conv => lhs; whnf; arg 1; whnf
 . conv => lhs; whnf
|apply zAa rfl rfl
 . conv => lhs; whnf
 . first | (conv => lhs; whnf; arg 1; whnf)
|apply zAZ rfl rfl
 . conv => lhs; whnf
 . first | (conv => lhs; whnf; arg 1; whnf)
 . conv => lhs; whnf; arg 1; whnf
 . rfl
 . rfl
|apply zAS rfl rfl
 . conv => lhs; whnf
 . first | (conv => lhs; whnf; arg 1; whnf)
 . first | exact fun _ => rfl | (intro _; kernel_rfl)
 . conv => lhs; whnf
 . conv => lhs; whnf
|apply zy rfl
 . conv => lhs; whnf
 . conv => lhs; whnf
 . first | rfl | assumption
 . conv => lhs; whnf; arg 2; whnf
|apply zt rfl
 . conv => lhs; whnf
 . conv => lhs; whnf
 . first | rfl | assumption
 . conv => lhs; whnf
 . first | exact hjp | exact hjk
|apply zA1 rfl
 . conv => lhs; whnf
 . conv => lhs; whnf
 . first | rfl | assumption
|apply zAE rfl
 . conv => lhs; whnf
 . conv => lhs; whnf
 . conv => lhs; whnf; arg 2; whnf
|apply zAA rfl
 . conv => lhs; whnf
 . conv => lhs; whnf
 . conv => lhs; whnf
 . first | exact hjp | exact hjk
|exact zX
|exact ze
|exact all_nil
|show List.all _ _ = true; rfl
|show zAB _ _ = true; rfl
|exact ([] : List Nat)
|exact (1000000 : Nat)
|apply zN
 . conv => lhs; whnf; arg 1; arg 1; whnf
|apply zO
 . conv => lhs; whnf; arg 1; arg 1; whnf
|refine zW (by conv => lhs; whnf) ?_ ?_ <;> intro hb
|refine zn ?_
|refine zb ?_
|refine zH ?_
|refine zL ?_
|refine zG ?_
|refine zD rfl ?_
|refine zF rfl ?_
|refine zE ?_
|refine zJ ?_
|refine zC ?_
|refine zK ?_
|refine z8 ?_
|refine zI ?_
|refine ⟨_,by conv => lhs; whnf; arg 2; whnf,?_⟩; conv => rhs; whnf
|exact trivial
|intro hg)
     . refine Sub.live ⟨rfl,rfl,rfl,trivial⟩ ⟨rfl,rfl,?_,trivial⟩
       rw [eP,if_neg (by omega)]
       rfl
     all_goals (simp only [ByteArray.size_append,zAJ,zAR,List.size_toArray,List.length_append,List.length_cons,List.length_nil,maxLen,Nat.reduceAdd,Int.toNat_natCast]; omega)
 . exact (show (f.f 2).l.length <= maxLen /\ (f.f 2).l.length * 16 <= 140737488355328 from ⟨by unfold maxLen; omega,by omega⟩)
 . have hp : (f.f 2).l.length = 0:=by have hb : decide ((((f.f 2).l.length : Nat) : Int) > 0) = false:=hb; have:=of_decide_eq_false hb; omega
   rw [eP,if_pos hp,List.append_nil]
   exact Sub.live ⟨rfl,rfl,rfl,trivial⟩ ⟨rfl,rfl,rfl,trivial⟩
 . simp only [List.length_append,maxLen]
   show _ + _ + _ + 1 <= _
   omega
 . simp only [List.length_append]
   show _ + _ + _ + 1 <= _
   omega
end Go.Proofs.YtdlnnlglmifceaaGreatDoor
namespace Go.Proofs.YtdlnnlglmifceaaGreatDoor
open Go.RowKit
set_option linter.unusedSectionVars false
attribute [local irreducible] wpList Calls Code.wp AW AWo OpOk seqK zAi zAp loopK endK AC zAC Yld Sub
attribute [local irreducible] ACB ACX absLexG YldG
theorem ext_bs (s : List UInt8) {a b : Nat} (ha : a <= b) (hb : b <= s.length) : (bs s).extract a b = bs ((s.drop a).take (b - a)):=by
 apply ByteArray.ext
 rw [ByteArray.data_extract]
 apply Array.ext'
 rw [Array.toList_extract,zDS,zDS]
section
variable {s : List UInt8} {i : Nat} (hi : i < s.length) (hs : s.length <= 70000)
include hi hs
end
end Go.Proofs.YtdlnnlglmifceaaGreatDoor
namespace Go.Proofs.YtdlnnlglmifceaaGreatDoor
open Go.RowKit
set_option linter.unusedSectionVars false
theorem index_cut : ∀ (u : List UInt8),(Lib.indexByte u 10 = -1 /\ ∀ c ∈ u,c ≠ 10) \/ ∃ a b,u = a ++ 10 :: b /\ (∀ c ∈ a,c ≠ 10) /\ Lib.indexByte u 10 = (a.length : Int)
 | [] => .inl ⟨rfl,by simp⟩
 | c :: u => by
   by_cases hc : c = 10
   . subst hc
     exact .inr ⟨[],u,rfl,by simp,by simp [Lib.indexByte]⟩
   . have hc' : (c == 10) = false:=by simpa using hc
     rcases index_cut u with ⟨h1,h2⟩ | ⟨a,b,h1,h2,h3⟩
     . left
       refine ⟨by simp [Lib.indexByte,hc',h1],fun x hx => ?_⟩
       rcases List.mem_cons.1 hx with rfl | q
       . exact hc
       . exact h2 x q
     . right
       refine ⟨c :: a,b,by rw [h1]; rfl,fun x hx => ?_,?_⟩
       . rcases List.mem_cons.1 hx with rfl | q
         . exact hc
         . exact h2 x q
       . have hn : ((a.length : Int) == -1) = false:=by rw [beq_eq_false_iff_ne]; omega
         simp [Lib.indexByte,hc',h3]
theorem index_no {u : List UInt8} (h : ∀ c ∈ u,c ≠ 10) : Lib.indexByte u 10 = -1:=by
 rcases index_cut u with ⟨h1,-⟩ | ⟨a,b,rfl,-,-⟩
 . exact h1
 . exact absurd rfl (h 10 (by simp))
theorem index_at {a b : List UInt8} (h : ∀ c ∈ a,c ≠ 10) : Lib.indexByte (a ++ 10 :: b) 10 = (a.length : Int):=by
 induction a with
 | nil => simp [Lib.indexByte]
 | cons c a ih =>
   have hc' : (c == 10) = false:=by simpa using h c (by simp)
   have ih:=ih fun x hx => h x (by simp [hx])
   have hn : ((a.length : Int) == -1) = false:=by rw [beq_eq_false_iff_ne]; omega
   simp [Lib.indexByte,hc',ih]
theorem zHq (u : List UInt8) (hu : u.length <= 9000000000000) : AC EN Tryz.prog 137 [.c (.string (bs u)),.c (.string ⟨#[10]⟩)] (.c (.int .i64 (Lib.indexByte u 10))):=
 zHO fun s1 w us hus he => by
  obtain ⟨u1,u2,rfl,h,h2⟩:=zGn hus
  rw [rel] at h h2
  obtain ⟨rfl,-⟩:=h
  obtain ⟨rfl,-⟩:=h2
  refine ⟨?_,?_⟩
  . show (Lit.int .i64 (Lib.indexByte u 10)).wf = true
    rw [zCh]
    simp only [IntKind.min,IntKind.max,IntKind.signed,IntKind.bits]
    rcases index_cut u with ⟨h1,-⟩ | ⟨a,b,hab,-,h3⟩
    . rw [h1]; decide
    . rw [h3]
      have : a.length <= u.length:=by rw [hab]; simp
      simp
      omega
  . refine (Tryz.stringslite_Index_one (bs u) 10 w).mono fun e w' h => ?_
    obtain ⟨rfl,rfl⟩:=h
    exact ⟨by rw [zDS],Below.refl _ _⟩
attribute [local irreducible] wpList Calls Code.wp AW AWo OpOk seqK zAi zAp loopK endK AC zAC Yld Sub
attribute [local irreducible] ACB ACX absLexG YldG absLexH
theorem cutN_ac (u : List UInt8) (hu : u.length <= 9000000000000) (h : ∀ c ∈ u,c ≠ 10) : AC EN Tryz.prog 62 [.c (.string (bs u)),.c (.string ⟨#[10]⟩)] (.tup [.c (.string (bs u)),.c (.string ⟨#[]⟩),.c (.bool false)]):=by
 have h1:=zHq u hu
 rw [index_no h] at h1
 have h2 : AC EN Tryz.prog 100 [.c (.string (bs u)),.c (.string ⟨#[10]⟩)] (.tup [.c (.string (bs u)),.c (.string ⟨#[]⟩),.c (.bool false)]):=by
  refine zh 23 Tryz.func100 rfl rfl rfl rfl ?_
  intro s w he
  repeat' (first
|refine zB ?_
|refine zM ?_
|refine zk ?_
|refine zV ?_
|refine zd ?_
|apply aw_1
 conv => whnf
 refine ⟨?_,trivial⟩
|apply s_1
 conv => whnf; arg 1; arg 4; arg 3; whnf
 refine ⟨?_,?_⟩
|apply z7 rfl
 . conv => lhs; whnf
 . conv => lhs; whnf; arg 2; whnf
|apply zl rfl
 . conv => lhs; whnf
 . conv => lhs; whnf
 . first | exact h1
|apply zw (by kernel_rfl) (by kernel_rfl)
|apply zAd
|apply zAc rfl
 . conv => lhs; whnf
 . conv => lhs; whnf; arg 2; whnf
|apply zAQ rfl
 . conv => lhs; whnf
 . conv => lhs; whnf
 . first | exact h1
|exact zX
|exact ze
|exact all_nil
|show List.all _ _ = true; rfl
|show zAB _ _ = true; rfl
|exact ([] : List Nat)
|exact (1000000 : Nat)
|apply zN
 . conv => lhs; whnf; arg 1; arg 1; whnf
|apply zO
 . conv => lhs; whnf; arg 1; arg 1; whnf
|refine zW (by conv => lhs; whnf) ?_ ?_ <;> intro hb
|refine zn ?_
|refine zb ?_
|refine zH ?_
|refine zL ?_
|refine zG ?_
|refine zD rfl ?_
|refine zF rfl ?_
|refine zE ?_
|refine zJ ?_
|refine zC ?_
|refine zK ?_
|refine z8 ?_
|refine zI ?_
|refine ⟨_,by conv => lhs; whnf; arg 2; whnf,?_⟩; conv => rhs; whnf
|exact trivial
|intro hg)
  exact ⟨_,_,_,rfl,rfl,rfl,rfl⟩
 refine zh 13 Tryz.func62 rfl rfl rfl rfl ?_
 intro s w he
 repeat' (first
|refine zB ?_
|refine zM ?_
|refine zk ?_
|refine zV ?_
|refine zd ?_
|apply aw_1
 conv => whnf
 refine ⟨?_,trivial⟩
|apply s_1
 conv => whnf; arg 1; arg 4; arg 3; whnf
 refine ⟨?_,?_⟩
|apply z7 rfl
 . conv => lhs; whnf
 . conv => lhs; whnf; arg 2; whnf
|apply zl rfl
 . conv => lhs; whnf
 . conv => lhs; whnf
 . first | exact h2
|apply zN
 . conv => lhs; whnf; arg 1; arg 1; whnf
|apply zO
 . conv => lhs; whnf; arg 1; arg 1; whnf
|refine zW (by conv => lhs; whnf) ?_ ?_ <;> intro hb
|refine zn ?_
|refine zb ?_
|refine zH ?_
|refine zL ?_
|refine zG ?_
|refine zD rfl ?_
|refine zF rfl ?_
|refine zE ?_
|refine zJ ?_
|refine zC ?_
|refine zK ?_
|refine z8 ?_
|refine zI ?_
|refine ⟨_,by conv => lhs; whnf; arg 2; whnf,?_⟩; conv => rhs; whnf
|exact trivial
|intro hg)
 exact ⟨_,_,_,rfl,rfl,rfl,rfl⟩
theorem cutY_ac (a b : List UInt8) (hu : (a ++ 10 :: b).length <= 9000000000000) (h : ∀ c ∈ a,c ≠ 10) : AC EN Tryz.prog 62 [.c (.string (bs (a ++ 10 :: b))),.c (.string ⟨#[10]⟩)] (.tup [.c (.string (bs a)),.c (.string (bs b)),.c (.bool true)]):=by
 have h1:=zHq (a ++ 10 :: b) hu
 rw [index_at h] at h1
 have hz:=zAJ (a ++ 10 :: b)
 have hl : (a ++ 10 :: b).length = a.length + b.length + 1:=by simp; omega
 have f0 : decide ((a.length : Int) >= 0) = true:=decide_eq_true (by omega)
 have x0 : (bs (a ++ 10 :: b)).extract 0 ((a.length : Int)).toNat = bs a:=by
  have:=ext_bs (a ++ 10 :: b) (a:=0) (b:=a.length) (by omega) (by omega)
  rw [Int.toNat_natCast,this]
  simp
 have x1 : (bs (a ++ 10 :: b)).extract (((a.length : Int) + 1)).toNat (bs (a ++ 10 :: b)).size = bs b:=by
  have:=ext_bs (a ++ 10 :: b) (a:=a.length + 1) (b:=(a ++ 10 :: b).length) (by omega) (by omega)
  rw [show (((a.length : Int) + 1)).toNat = a.length + 1 by omega,hz,this]
  congr 1
  rw [List.drop_append,List.drop_of_length_le (by omega)]
  simp
  exact List.take_of_length_le (by omega)
 have h2 : AC EN Tryz.prog 100 [.c (.string (bs (a ++ 10 :: b))),.c (.string ⟨#[10]⟩)] (.tup [.c (.string (bs a)),.c (.string (bs b)),.c (.bool true)]):=by
  refine zh 23 Tryz.func100 rfl rfl rfl rfl ?_
  intro s w he
  repeat' (first
|apply zT
 . conv => lhs; whnf
 . assumption
|apply zQ
 . conv => lhs; whnf
 . assumption
|refine zj ?_
|refine za ?_
|refine zAb ?_
|refine zB ?_
|refine zM ?_
|refine zk ?_
|refine zV ?_
|refine zd ?_
|apply aw_1
 conv => whnf
 refine ⟨?_,trivial⟩
|apply s_1
 conv => whnf; arg 1; arg 4; arg 3; whnf
 refine ⟨?_,?_⟩
|apply z7 rfl
 . conv => lhs; whnf
 . conv => lhs; whnf; arg 2; whnf
|apply zl rfl
 . conv => lhs; whnf
 . conv => lhs; whnf
 . first | exact h1
|apply zw (by kernel_rfl) (by kernel_rfl)
|apply zAd
|apply zAc rfl
 . conv => lhs; whnf
 . conv => lhs; whnf; arg 2; whnf
|apply zAQ rfl
 . conv => lhs; whnf
 . conv => lhs; whnf
 . first | exact h1
|exact zX
|exact ze
|exact all_nil
|show List.all _ _ = true; rfl
|show zAB _ _ = true; rfl
|exact ([] : List Nat)
|exact (1000000 : Nat)
|apply zN
 . conv => lhs; whnf; arg 1; arg 1; whnf
|apply zO
 . conv => lhs; whnf; arg 1; arg 1; whnf
|refine zW (by conv => lhs; whnf) ?_ ?_ <;> intro hb
|refine zn ?_
|refine zb ?_
|refine zH ?_
|refine zL ?_
|refine zG ?_
|refine zD rfl ?_
|refine zF rfl ?_
|refine zE ?_
|refine zJ ?_
|refine zC ?_
|refine zK ?_
|refine z8 ?_
|refine zI ?_
|refine ⟨_,by conv => lhs; whnf; arg 2; whnf,?_⟩; conv => rhs; whnf
|exact trivial
|intro hg)
  . refine ⟨_,_,_,rfl,rfl,rfl,?_⟩
    show _ = V.tup [.c (.string ((bs (a ++ 10 :: b)).extract 0 ((a.length : Int)).toNat)),.c (.string ((bs (a ++ 10 :: b)).extract (((a.length : Int) + 1)).toNat (bs (a ++ 10 :: b)).size)),.c (.bool true)]
    rw [x0,x1]
  . exact ⟨by kernel_rfl,(show 0 <= (a.length : Int) + 1 by omega),(show (a.length : Int) + 1 <= ((bs (a ++ 10 :: b)).size : Int) by omega)⟩
  . exact (show -9223372036854775808 <= (a.length : Int) + 1 /\ (a.length : Int) + 1 <= 9223372036854775807 from ⟨by omega,by omega⟩)
  . exact (show Tryz.prog.underlying _ = some TypeDesc.string by kernel_rfl)
  . exact ⟨by kernel_rfl,by omega,by omega⟩
 refine zh 13 Tryz.func62 rfl rfl rfl rfl ?_
 intro s w he
 repeat' (first
|refine zB ?_
|refine zM ?_
|refine zk ?_
|refine zV ?_
|refine zd ?_
|apply aw_1
 conv => whnf
 refine ⟨?_,trivial⟩
|apply s_1
 conv => whnf; arg 1; arg 4; arg 3; whnf
 refine ⟨?_,?_⟩
|apply z7 rfl
 . conv => lhs; whnf
 . conv => lhs; whnf; arg 2; whnf
|apply zl rfl
 . conv => lhs; whnf
 . conv => lhs; whnf
 . first | exact h2
|apply zN
 . conv => lhs; whnf; arg 1; arg 1; whnf
|apply zO
 . conv => lhs; whnf; arg 1; arg 1; whnf
|refine zW (by conv => lhs; whnf) ?_ ?_ <;> intro hb
|refine zn ?_
|refine zb ?_
|refine zH ?_
|refine zL ?_
|refine zG ?_
|refine zD rfl ?_
|refine zF rfl ?_
|refine zE ?_
|refine zJ ?_
|refine zC ?_
|refine zK ?_
|refine z8 ?_
|refine zI ?_
|refine ⟨_,by conv => lhs; whnf; arg 2; whnf,?_⟩; conv => rhs; whnf
|exact trivial
|intro hg)
 exact ⟨_,_,_,rfl,rfl,rfl,rfl⟩
end Go.Proofs.YtdlnnlglmifceaaGreatDoor
namespace Go.Proofs.YtdlnnlglmifceaaGreatDoor
open Go.RowKit
set_option linter.unusedSectionVars false
attribute [local irreducible] wpList Calls Code.wp AW AWo OpOk seqK zAi zAp loopK endK AC zAC Yld Sub
attribute [local irreducible] ACB absLexG YldG
noncomputable def HpO (K f : Nat) (a b : List D) (i : Nat) : Vst 48:=
 stS 48 [(1,.bx 1 0),(3,.own 3 9 (zAH (fun i => opB K f (gD a i)) i)),(9,.sl 47 a),(10,.c (.int .i64 a.length)),(11,.c (.int .i64 i))] [(1,.box 25 [.sl 47 a,.sl 50 b]),(3,.tok 9 (zAH (fun i => opB K f (gD a i)) i).length)]
noncomputable def HpF (K f : Nat) (a b : List D) (i : Nat) : Vst 48:=
 stS 48 [(1,.bx 1 0),(3,.own 3 9 (zAH (fun i => opB K f (gD a i)) a.length ++ zAH (fun i => zCr K f (gD b i)) i)),(25,.sl 50 b),(26,.c (.int .i64 b.length)),(27,.c (.int .i64 i))] [(1,.box 25 [.sl 47 a,.sl 50 b]),(3,.tok 9 (zAH (fun i => opB K f (gD a i)) a.length ++ zAH (fun i => zCr K f (gD b i)) i).length)]
theorem DocOk.op {K f : Nat} {a b : List D} (h : DocOk K f (.obj [.list a,.list b])) {i : Nat} (hi : i < a.length) : VarsOk K ((gD a i).f 2).l /\ SelsOk K (f + 1) ((gD a i).f 3).l /\ wideD (gD a i) /\ bulkD (gD a i) <= 1048576:=
 ⟨h.vars i hi,h.sels i hi,(h.wide.f 0).l i,by
   have h1:=zAf hi
   have h2:=h.bulk
   have : bulkD (.obj [.list a,.list b]) = bulkL a + bulkL b + 3:=by simp [bulkD,bulkL]; omega
   omega⟩
theorem DocOk.frg {K f : Nat} {a b : List D} (h : DocOk K f (.obj [.list a,.list b])) {i : Nat} (hi : i < b.length) : SelsOk K (f + 1) ((gD b i).f 2).l /\ wideD (gD b i) /\ bulkD (gD b i) <= 1048576:=
 ⟨h.frag i hi,(h.wide.f 1).l i,by
   have h1:=zAf hi
   have h2:=h.bulk
   have : bulkD (.obj [.list a,.list b]) = bulkL a + bulkL b + 3:=by simp [bulkD,bulkL]; omega
   omega⟩
theorem fragH_bs (fr : D) : ((⟨#[102,114,97,103,109,101,110,116,32]⟩ : ByteArray) ++ (fr.f 0).s ++ ⟨#[32,111,110,32]⟩ ++ (fr.f 1).s ++ ⟨#[32,123]⟩) = bs (zFc fr):=by
 unfold zFc
 rw [<- zz,<- zz,<- zz,<- zz,zCM,zCM]
 rfl
theorem printP_ac (K f : Nat) (a b : List D) (h : DocOk K f (.obj [.list a,.list b])) : AC EN Tryz.prog 99 [.agg [.sl 47 a,.sl 50 b]] (.c (.string (bs (docT K (f + 1) (.obj [.list a,.list b]))))):=by
 have hbk : bulkD (.obj [.list a,.list b]) = bulkL a + bulkL b + 3:=by simp [bulkD,bulkL]; omega
 have hb0:=h.bulk
 have hdp:=h.deep
 have hla:=zA0 a
 have hlb:=zA0 b
 have hdl:=zH6 K f _ h.wide hdp
 have hj : AC EN Tryz.prog 98 [.sl 9 (zAH (fun i => opB K (f + 1) (gD a i)) a.length ++ zAH (fun i => zCr K (f + 1) (gD b i)) b.length),.c (.string ⟨#[10]⟩)] (.c (.string (bs (docT K (f + 1) (.obj [.list a,.list b]))))):=by
  have e : txs (zAH (fun i => opB K (f + 1) (gD a i)) a.length ++ zAH (fun i => zCr K (f + 1) (gD b i)) b.length) = a.map (opB K (f + 1)) ++ b.map (zCr K (f + 1)):=by
   have h1:=zA3 (opB K (f + 1)) a
   have h2:=zA3 (zCr K (f + 1)) b
   unfold txs at h1 h2 |-
   rw [List.map_append,h1,h2]
  have:=zBp (zAH (fun i => opB K (f + 1) (gD a i)) a.length ++ zAH (fun i => zCr K (f + 1) (gD b i)) b.length) [10] (by rw [List.length_append,zAe,zAe]; omega) (by rw [e]; exact Nat.le_trans hdl (by omega))
  rw [e] at this
  exact this
 refine zh 48 Tryz.func99 rfl rfl rfl rfl ?_
 intro s w he
 repeat' (first
|refine zB ?_
|refine zM ?_
|refine zk ?_
|refine zV ?_
|refine zd ?_
|apply aw_1
 conv => whnf
 refine ⟨?_,trivial⟩
|apply s_1
 conv => whnf; arg 1; arg 4; arg 3; whnf
 refine ⟨?_,?_⟩
|apply z7 rfl
 . conv => lhs; whnf
 . conv => lhs; whnf; arg 2; whnf
|apply zl rfl
 . conv => lhs; whnf
 . conv => lhs; whnf
 . first | fail
|apply zAV rfl rfl rfl rfl
 . conv => lhs; whnf; arg 1; whnf
 . rfl
|apply zr rfl rfl rfl rfl
 . conv => lhs; whnf; arg 1; whnf
 . rfl
|apply zq rfl rfl rfl
 . conv => lhs; whnf
 . conv => lhs; whnf; arg 1; whnf
 . conv => lhs; whnf; arg 1; whnf
 . exact ⟨by kernel_rfl,by kernel_rfl⟩
 . rfl
|apply zAu rfl rfl
 . conv => lhs; whnf
 . first | (conv => lhs; whnf; arg 1; whnf)
 . first | exact fun _ => rfl | (intro _; kernel_rfl)
 . conv => lhs; whnf
 . conv => lhs; whnf; arg 1; whnf
 . conv => lhs; whnf
|apply zx rfl rfl rfl rfl
 . first | (conv => lhs; whnf; arg 1; whnf)
 . first | exact fun _ => rfl | (intro _; kernel_rfl)
 . conv => lhs; whnf
 . conv => lhs; whnf
|apply zAU rfl rfl
 . conv => lhs; whnf
 . first | (conv => lhs; whnf; arg 1; whnf)
|apply zAT rfl rfl
 . conv => lhs; whnf
 . first | (conv => lhs; whnf; arg 1; whnf)
 . conv => lhs; whnf; arg 1; whnf
 . rfl
 . rfl
|apply zAO rfl rfl
 . conv => lhs; whnf
 . first | (conv => lhs; whnf; arg 1; whnf)
 . first | exact fun _ => rfl | (intro _; kernel_rfl)
 . conv => lhs; whnf
 . conv => lhs; whnf
|apply zw (by kernel_rfl) (by kernel_rfl)
|apply zAd
|apply zAc rfl
 . conv => lhs; whnf
 . conv => lhs; whnf; arg 2; whnf
|apply zAQ rfl
 . conv => lhs; whnf
 . conv => lhs; whnf
 . first | fail
|apply zAD rfl rfl rfl
 . conv => lhs; whnf
 . rfl
 . rfl
 . conv => lhs; whnf; arg 1; whnf
 . conv => lhs; whnf; arg 1; whnf
 . exact ⟨by kernel_rfl,by kernel_rfl⟩
 . rfl
|apply zAz rfl rfl
 . conv => lhs; whnf
 . first | (conv => lhs; whnf; arg 1; whnf)
 . first | exact fun _ => rfl | (intro _; kernel_rfl)
 . conv => lhs; whnf
 . rfl
 . rfl
 . conv => lhs; whnf; arg 1; whnf
 . conv => lhs; whnf
|apply zAa rfl rfl
 . conv => lhs; whnf
 . first | (conv => lhs; whnf; arg 1; whnf)
|apply zAZ rfl rfl
 . conv => lhs; whnf
 . first | (conv => lhs; whnf; arg 1; whnf)
 . conv => lhs; whnf; arg 1; whnf
 . rfl
 . rfl
|apply zAS rfl rfl
 . conv => lhs; whnf
 . first | (conv => lhs; whnf; arg 1; whnf)
 . first | exact fun _ => rfl | (intro _; kernel_rfl)
 . conv => lhs; whnf
 . conv => lhs; whnf
|exact zX
|exact ze
|exact all_nil
|show List.all _ _ = true; rfl
|show zAB _ _ = true; rfl
|exact ([] : List Nat)
|exact (1000000 : Nat)
|apply zN
 . conv => lhs; whnf; arg 1; arg 1; whnf
|apply zO
 . conv => lhs; whnf; arg 1; arg 1; whnf
|refine zW (by conv => lhs; whnf) ?_ ?_ <;> intro hb
|refine zn ?_
|refine zb ?_
|refine zH ?_
|refine zL ?_
|refine zG ?_
|refine zD rfl ?_
|refine zF rfl ?_
|refine zE ?_
|refine zJ ?_
|refine zC ?_
|refine zK ?_
|refine z8 ?_
|refine zI ?_
|refine ⟨_,by conv => lhs; whnf; arg 2; whnf,?_⟩; conv => rhs; whnf
|exact trivial
|intro hg)
 refine zAF (Sub.own (t:=3) (e:=9) rfl rfl) ?_
 refine zAG (fun j st => ∃ i,i + j = a.length /\ Sub (cx EN Tryz.prog s w he) st (HpO K (f + 1) a b i)) a.length ⟨0,by omega,Sub.live ⟨rfl,rfl,rfl,rfl,rfl,trivial⟩ ⟨rfl,rfl,trivial⟩⟩ ?_
 rintro j st ⟨i,hij,hs2⟩
 refine zAF hs2 ?_
 clear hs2
 have htk:=zAe (fun i => opB K (f + 1) (gD a i)) i
 by_cases hi : i < a.length
 . have f0 : decide ((i : Int) < (a.length : Nat)) = true:=decide_eq_true (by omega)
   obtain ⟨o1,o2,o3,o4⟩:=h.op hi
   have hn:=zAn ((gD a i).f 1)
   have hnn:=wD_f (gD a i) 1
   have hn3:=wD_f (gD a i) 3
   have hl3:=zAP ((gD a i).f 3)
   have hbd:=zv (gD a i)
   have hhd:=opHead_ac K (gD a i) o1 (by omega)
   have hol:=opT_len K (gD a i) o3
   have hv2:=wD_f (gD a i) 2
   have hl2:=zAP ((gD a i).f 2)
   have hbl : AC EN Tryz.prog 135 [.c (.string (bs (opT K (gD a i)))),.sl 57 ((gD a i).f 3).l] (.c (.string (bs (opB K (f + 1) (gD a i))))):=
    zIE K f (opT K (gD a i)) ((gD a i).f 3).l o2 (fun q => (o3.f 3).l q) (by omega) hdp (by omega)
   repeat' (first
|apply zT
 . conv => lhs; whnf
 . assumption
|apply zQ
 . conv => lhs; whnf
 . assumption
|refine zj ?_
|refine za ?_
|refine zAb ?_
|refine zB ?_
|refine zM ?_
|refine zk ?_
|refine zV ?_
|refine zd ?_
|apply aw_1
 conv => whnf
 refine ⟨?_,trivial⟩
|apply s_1
 conv => whnf; arg 1; arg 4; arg 3; whnf
 refine ⟨?_,?_⟩
|apply z7 rfl
 . conv => lhs; whnf
 . conv => lhs; whnf; arg 2; whnf
|apply zl rfl
 . conv => lhs; whnf
 . conv => lhs; whnf
 . first | exact hhd | exact hbl
|apply zAV rfl rfl rfl rfl
 . conv => lhs; whnf; arg 1; whnf
 . rfl
|apply zr rfl rfl rfl rfl
 . conv => lhs; whnf; arg 1; whnf
 . rfl
|apply zq rfl rfl rfl
 . conv => lhs; whnf
 . conv => lhs; whnf; arg 1; whnf
 . conv => lhs; whnf; arg 1; whnf
 . exact ⟨by kernel_rfl,by kernel_rfl⟩
 . rfl
|apply zAu rfl rfl
 . conv => lhs; whnf
 . first | exact zZ | (conv => lhs; whnf; arg 1; whnf)
 . first | exact fun _ => rfl | (intro _; kernel_rfl)
 . conv => lhs; whnf
 . conv => lhs; whnf; arg 1; whnf
 . conv => lhs; whnf
|apply zx rfl rfl rfl rfl
 . first | exact zZ | (conv => lhs; whnf; arg 1; whnf)
 . first | exact fun _ => rfl | (intro _; kernel_rfl)
 . conv => lhs; whnf
 . conv => lhs; whnf
|apply zAU rfl rfl
 . conv => lhs; whnf
 . first | exact zZ | (conv => lhs; whnf; arg 1; whnf)
|apply zAT rfl rfl
 . conv => lhs; whnf
 . first | exact zZ | (conv => lhs; whnf; arg 1; whnf)
 . conv => lhs; whnf; arg 1; whnf
 . rfl
 . rfl
|apply zAO rfl rfl
 . conv => lhs; whnf
 . first | exact zZ | (conv => lhs; whnf; arg 1; whnf)
 . first | exact fun _ => rfl | (intro _; kernel_rfl)
 . conv => lhs; whnf
 . conv => lhs; whnf
|apply zw (by kernel_rfl) (by kernel_rfl)
|apply zAd
|apply zAc rfl
 . conv => lhs; whnf
 . conv => lhs; whnf; arg 2; whnf
|apply zAQ rfl
 . conv => lhs; whnf
 . conv => lhs; whnf
 . first | exact hhd | exact hbl
|apply zAD rfl rfl rfl
 . conv => lhs; whnf
 . rfl
 . rfl
 . conv => lhs; whnf; arg 1; whnf
 . conv => lhs; whnf; arg 1; whnf
 . exact ⟨by kernel_rfl,by kernel_rfl⟩
 . rfl
|apply zAz rfl rfl
 . conv => lhs; whnf
 . first | exact zZ | (conv => lhs; whnf; arg 1; whnf)
 . first | exact fun _ => rfl | (intro _; kernel_rfl)
 . conv => lhs; whnf
 . rfl
 . rfl
 . conv => lhs; whnf; arg 1; whnf
 . conv => lhs; whnf
|apply zAa rfl rfl
 . conv => lhs; whnf
 . first | exact zZ | (conv => lhs; whnf; arg 1; whnf)
|apply zAZ rfl rfl
 . conv => lhs; whnf
 . first | exact zZ | (conv => lhs; whnf; arg 1; whnf)
 . conv => lhs; whnf; arg 1; whnf
 . rfl
 . rfl
|apply zAS rfl rfl
 . conv => lhs; whnf
 . first | exact zZ | (conv => lhs; whnf; arg 1; whnf)
 . first | exact fun _ => rfl | (intro _; kernel_rfl)
 . conv => lhs; whnf
 . conv => lhs; whnf
|exact zX
|exact ze
|exact all_nil
|show List.all _ _ = true; rfl
|show zAB _ _ = true; rfl
|exact ([] : List Nat)
|exact (1000000 : Nat)
|apply zN
 . conv => lhs; whnf; arg 1; arg 1; whnf
|apply zO
 . conv => lhs; whnf; arg 1; arg 1; whnf
|refine zW (by conv => lhs; whnf) ?_ ?_ <;> intro hb
|refine zn ?_
|refine zb ?_
|refine zH ?_
|refine zL ?_
|refine zG ?_
|refine zD rfl ?_
|refine zF rfl ?_
|refine zE ?_
|refine zJ ?_
|refine zC ?_
|refine zK ?_
|refine z8 ?_
|refine zI ?_
|refine ⟨_,by conv => lhs; whnf; arg 2; whnf,?_⟩; conv => rhs; whnf
|exact trivial
|intro hg)
   all_goals first
    | exact zAN (by omega)
    | exact zBQ hi
    | exact zCO (by omega) (by omega)
    | skip
   refine zY (j':=j - 1) (by omega) ⟨i + 1,by omega,Sub.live ⟨rfl,?_,rfl,rfl,rfl,trivial⟩ ⟨rfl,?_,trivial⟩⟩
   . show V.own 3 _ (zAH _ i ++ [.str (bs _)]) = _
     rw [zAK]
   . show some (Res.tok _ ((zAH _ i).length + 1)) = _
     rw [zAK,List.length_append]; rfl
 . have f0 : decide ((i : Int) < (a.length : Nat)) = false:=decide_eq_false (by omega)
   obtain rfl : i = a.length:=by omega
   repeat' (first
|apply zT
 . conv => lhs; whnf
 . assumption
|apply zQ
 . conv => lhs; whnf
 . assumption
|refine zj ?_
|refine za ?_
|refine zAb ?_
|refine zB ?_
|refine zM ?_
|refine zk ?_
|refine zV ?_
|refine zd ?_
|apply aw_1
 conv => whnf
 refine ⟨?_,trivial⟩
|apply s_1
 conv => whnf; arg 1; arg 4; arg 3; whnf
 refine ⟨?_,?_⟩
|apply z7 rfl
 . conv => lhs; whnf
 . conv => lhs; whnf; arg 2; whnf
|apply zl rfl
 . conv => lhs; whnf
 . conv => lhs; whnf
 . first | fail
|apply zAV rfl rfl rfl rfl
 . conv => lhs; whnf; arg 1; whnf
 . rfl
|apply zr rfl rfl rfl rfl
 . conv => lhs; whnf; arg 1; whnf
 . rfl
|apply zq rfl rfl rfl
 . conv => lhs; whnf
 . conv => lhs; whnf; arg 1; whnf
 . conv => lhs; whnf; arg 1; whnf
 . exact ⟨by kernel_rfl,by kernel_rfl⟩
 . rfl
|apply zAu rfl rfl
 . conv => lhs; whnf
 . first | (conv => lhs; whnf; arg 1; whnf)
 . first | exact fun _ => rfl | (intro _; kernel_rfl)
 . conv => lhs; whnf
 . conv => lhs; whnf; arg 1; whnf
 . conv => lhs; whnf
|apply zx rfl rfl rfl rfl
 . first | (conv => lhs; whnf; arg 1; whnf)
 . first | exact fun _ => rfl | (intro _; kernel_rfl)
 . conv => lhs; whnf
 . conv => lhs; whnf
|apply zAU rfl rfl
 . conv => lhs; whnf
 . first | (conv => lhs; whnf; arg 1; whnf)
|apply zAT rfl rfl
 . conv => lhs; whnf
 . first | (conv => lhs; whnf; arg 1; whnf)
 . conv => lhs; whnf; arg 1; whnf
 . rfl
 . rfl
|apply zAO rfl rfl
 . conv => lhs; whnf
 . first | (conv => lhs; whnf; arg 1; whnf)
 . first | exact fun _ => rfl | (intro _; kernel_rfl)
 . conv => lhs; whnf
 . conv => lhs; whnf
|apply zw (by kernel_rfl) (by kernel_rfl)
|apply zAd
|apply zAc rfl
 . conv => lhs; whnf
 . conv => lhs; whnf; arg 2; whnf
|apply zAQ rfl
 . conv => lhs; whnf
 . conv => lhs; whnf
 . first | fail
|apply zAD rfl rfl rfl
 . conv => lhs; whnf
 . rfl
 . rfl
 . conv => lhs; whnf; arg 1; whnf
 . conv => lhs; whnf; arg 1; whnf
 . exact ⟨by kernel_rfl,by kernel_rfl⟩
 . rfl
|apply zAz rfl rfl
 . conv => lhs; whnf
 . first | (conv => lhs; whnf; arg 1; whnf)
 . first | exact fun _ => rfl | (intro _; kernel_rfl)
 . conv => lhs; whnf
 . rfl
 . rfl
 . conv => lhs; whnf; arg 1; whnf
 . conv => lhs; whnf
|apply zAa rfl rfl
 . conv => lhs; whnf
 . first | (conv => lhs; whnf; arg 1; whnf)
|apply zAZ rfl rfl
 . conv => lhs; whnf
 . first | (conv => lhs; whnf; arg 1; whnf)
 . conv => lhs; whnf; arg 1; whnf
 . rfl
 . rfl
|apply zAS rfl rfl
 . conv => lhs; whnf
 . first | (conv => lhs; whnf; arg 1; whnf)
 . first | exact fun _ => rfl | (intro _; kernel_rfl)
 . conv => lhs; whnf
 . conv => lhs; whnf
|exact zX
|exact ze
|exact all_nil
|show List.all _ _ = true; rfl
|show zAB _ _ = true; rfl
|exact ([] : List Nat)
|exact (1000000 : Nat)
|apply zN
 . conv => lhs; whnf; arg 1; arg 1; whnf
|apply zO
 . conv => lhs; whnf; arg 1; arg 1; whnf
|refine zW (by conv => lhs; whnf) ?_ ?_ <;> intro hb
|refine zn ?_
|refine zb ?_
|refine zH ?_
|refine zL ?_
|refine zG ?_
|refine zD rfl ?_
|refine zF rfl ?_
|refine zE ?_
|refine zJ ?_
|refine zC ?_
|refine zK ?_
|refine z8 ?_
|refine zI ?_
|refine ⟨_,by conv => lhs; whnf; arg 2; whnf,?_⟩; conv => rhs; whnf
|exact trivial
|intro hg)
   refine zAG (fun j st => ∃ i,i + j = b.length /\ Sub (cx EN Tryz.prog s w he) st (HpF K (f + 1) a b i)) b.length ⟨0,by omega,Sub.live ⟨rfl,?_,rfl,rfl,rfl,trivial⟩ ⟨rfl,?_,trivial⟩⟩ ?_
   . show V.own 3 _ (zAH _ a.length) = V.own 3 _ (zAH _ a.length ++ [])
     rw [List.append_nil]
   . show some (Res.tok _ (zAH _ a.length).length) = some (Res.tok _ (zAH _ a.length ++ []).length)
     rw [List.append_nil]
   rintro j2 st2 ⟨q,hqj,hs3⟩
   refine zAF hs3 ?_
   clear hs3
   have htk2:=zAe (fun i => zCr K (f + 1) (gD b i)) q
   have hap : (zAH (fun i => opB K (f + 1) (gD a i)) a.length ++ zAH (fun i => zCr K (f + 1) (gD b i)) q).length = a.length + q:=by rw [List.length_append,htk,htk2]
   by_cases hq : q < b.length
   . have f2 : decide ((q : Int) < (b.length : Nat)) = true:=decide_eq_true (by omega)
     obtain ⟨o2,o3,o4⟩:=h.frg hq
     have hn0:=zAn ((gD b q).f 0)
     have hn1:=zAn ((gD b q).f 1)
     have hf0:=wD_f (gD b q) 0
     have hf1:=wD_f (gD b q) 1
     have hf2:=wD_f (gD b q) 2
     have hl2:=zAP ((gD b q).f 2)
     have hbd:=zv (gD b q)
     have t0:=zAj ((gD b q).f 0).s
     have t1:=zAj ((gD b q).f 1).s
     have hlen : (zFc (gD b q)).length = 15 + ((gD b q).f 0).s.size + ((gD b q).f 1).s.size:=by simp only [zFc,List.length_append,List.length_cons,List.length_nil]; omega
     have hbl : AC EN Tryz.prog 135 [.c (.string ((⟨#[102,114,97,103,109,101,110,116,32]⟩ : ByteArray) ++ ((gD b q).f 0).s ++ ⟨#[32,111,110,32]⟩ ++ ((gD b q).f 1).s ++ ⟨#[32,123]⟩)),.sl 57 ((gD b q).f 2).l] (.c (.string (bs (zCr K (f + 1) (gD b q))))):=by
      rw [fragH_bs]
      exact zIE K f (zFc (gD b q)) ((gD b q).f 2).l o2 (fun z => (o3.f 2).l z) (by omega) hdp (by omega)
     repeat' (first
|apply zT
 . conv => lhs; whnf
 . assumption
|apply zQ
 . conv => lhs; whnf
 . assumption
|refine zj ?_
|refine za ?_
|refine zAb ?_
|refine zB ?_
|refine zM ?_
|refine zk ?_
|refine zV ?_
|refine zd ?_
|apply aw_1
 conv => whnf
 refine ⟨?_,trivial⟩
|apply s_1
 conv => whnf; arg 1; arg 4; arg 3; whnf
 refine ⟨?_,?_⟩
|apply z7 rfl
 . conv => lhs; whnf
 . conv => lhs; whnf; arg 2; whnf
|apply zl rfl
 . conv => lhs; whnf
 . conv => lhs; whnf
 . first | exact hbl
|apply zAV rfl rfl rfl rfl
 . conv => lhs; whnf; arg 1; whnf
 . rfl
|apply zr rfl rfl rfl rfl
 . conv => lhs; whnf; arg 1; whnf
 . rfl
|apply zq rfl rfl rfl
 . conv => lhs; whnf
 . conv => lhs; whnf; arg 1; whnf
 . conv => lhs; whnf; arg 1; whnf
 . exact ⟨by kernel_rfl,by kernel_rfl⟩
 . rfl
|apply zAu rfl rfl
 . conv => lhs; whnf
 . first | exact zZ | (conv => lhs; whnf; arg 1; whnf)
 . first | exact fun _ => rfl | (intro _; kernel_rfl)
 . conv => lhs; whnf
 . conv => lhs; whnf; arg 1; whnf
 . conv => lhs; whnf
|apply zx rfl rfl rfl rfl
 . first | exact zZ | (conv => lhs; whnf; arg 1; whnf)
 . first | exact fun _ => rfl | (intro _; kernel_rfl)
 . conv => lhs; whnf
 . conv => lhs; whnf
|apply zAU rfl rfl
 . conv => lhs; whnf
 . first | exact zZ | (conv => lhs; whnf; arg 1; whnf)
|apply zAT rfl rfl
 . conv => lhs; whnf
 . first | exact zZ | (conv => lhs; whnf; arg 1; whnf)
 . conv => lhs; whnf; arg 1; whnf
 . rfl
 . rfl
|apply zAO rfl rfl
 . conv => lhs; whnf
 . first | exact zZ | (conv => lhs; whnf; arg 1; whnf)
 . first | exact fun _ => rfl | (intro _; kernel_rfl)
 . conv => lhs; whnf
 . conv => lhs; whnf
|apply zw (by kernel_rfl) (by kernel_rfl)
|apply zAd
|apply zAc rfl
 . conv => lhs; whnf
 . conv => lhs; whnf; arg 2; whnf
|apply zAQ rfl
 . conv => lhs; whnf
 . conv => lhs; whnf
 . first | exact hbl
|apply zAD rfl rfl rfl
 . conv => lhs; whnf
 . rfl
 . rfl
 . conv => lhs; whnf; arg 1; whnf
 . conv => lhs; whnf; arg 1; whnf
 . exact ⟨by kernel_rfl,by kernel_rfl⟩
 . rfl
|apply zAz rfl rfl
 . conv => lhs; whnf
 . first | exact zZ | (conv => lhs; whnf; arg 1; whnf)
 . first | exact fun _ => rfl | (intro _; kernel_rfl)
 . conv => lhs; whnf
 . rfl
 . rfl
 . conv => lhs; whnf; arg 1; whnf
 . conv => lhs; whnf
|apply zAa rfl rfl
 . conv => lhs; whnf
 . first | exact zZ | (conv => lhs; whnf; arg 1; whnf)
|apply zAZ rfl rfl
 . conv => lhs; whnf
 . first | exact zZ | (conv => lhs; whnf; arg 1; whnf)
 . conv => lhs; whnf; arg 1; whnf
 . rfl
 . rfl
|apply zAS rfl rfl
 . conv => lhs; whnf
 . first | exact zZ | (conv => lhs; whnf; arg 1; whnf)
 . first | exact fun _ => rfl | (intro _; kernel_rfl)
 . conv => lhs; whnf
 . conv => lhs; whnf
|exact zX
|exact ze
|exact all_nil
|show List.all _ _ = true; rfl
|show zAB _ _ = true; rfl
|exact ([] : List Nat)
|exact (1000000 : Nat)
|apply zN
 . conv => lhs; whnf; arg 1; arg 1; whnf
|apply zO
 . conv => lhs; whnf; arg 1; arg 1; whnf
|refine zW (by conv => lhs; whnf) ?_ ?_ <;> intro hb
|refine zn ?_
|refine zb ?_
|refine zH ?_
|refine zL ?_
|refine zG ?_
|refine zD rfl ?_
|refine zF rfl ?_
|refine zE ?_
|refine zJ ?_
|refine zC ?_
|refine zK ?_
|refine z8 ?_
|refine zI ?_
|refine ⟨_,by conv => lhs; whnf; arg 2; whnf,?_⟩; conv => rhs; whnf
|exact trivial
|intro hg)
     all_goals first
      | exact zAN (by omega)
      | exact zBQ hq
      | exact zCO (by omega) (by omega)
      | ((simp only [ByteArray.size_append,zAJ,zAR,List.size_toArray,List.length_append,List.length_cons,List.length_nil,maxLen,Nat.reduceAdd,Int.toNat_natCast]; omega); done)
      | skip
     refine zY (j':=j2 - 1) (by omega) ⟨q + 1,by omega,Sub.live ⟨rfl,?_,rfl,rfl,rfl,trivial⟩ ⟨rfl,?_,trivial⟩⟩
     . show V.own 3 _ (zAH _ a.length ++ zAH _ q ++ [.str (bs _)]) = V.own 3 _ (zAH _ a.length ++ zAH _ (q + 1))
       rw [zAK,List.append_assoc]
     . show some (Res.tok _ ((zAH _ a.length ++ zAH _ q).length + 1)) = some (Res.tok _ (zAH _ a.length ++ zAH _ (q + 1)).length)
       rw [zAK,<- List.append_assoc,List.length_append (bs:=[_])]; rfl
   . have f2 : decide ((q : Int) < (b.length : Nat)) = false:=decide_eq_false (by omega)
     obtain rfl : q = b.length:=by omega
     repeat' (first
|apply zT
 . conv => lhs; whnf
 . assumption
|apply zQ
 . conv => lhs; whnf
 . assumption
|refine zj ?_
|refine za ?_
|refine zAb ?_
|refine zB ?_
|refine zM ?_
|refine zk ?_
|refine zV ?_
|refine zd ?_
|apply aw_1
 conv => whnf
 refine ⟨?_,trivial⟩
|apply s_1
 conv => whnf; arg 1; arg 4; arg 3; whnf
 refine ⟨?_,?_⟩
|apply z7 rfl
 . conv => lhs; whnf
 . conv => lhs; whnf; arg 2; whnf
|apply zl rfl
 . conv => lhs; whnf
 . conv => lhs; whnf
 . first | exact hj
|apply zAV rfl rfl rfl rfl
 . conv => lhs; whnf; arg 1; whnf
 . rfl
|apply zr rfl rfl rfl rfl
 . conv => lhs; whnf; arg 1; whnf
 . rfl
|apply zq rfl rfl rfl
 . conv => lhs; whnf
 . conv => lhs; whnf; arg 1; whnf
 . conv => lhs; whnf; arg 1; whnf
 . exact ⟨by kernel_rfl,by kernel_rfl⟩
 . rfl
|apply zAu rfl rfl
 . conv => lhs; whnf
 . first | (conv => lhs; whnf; arg 1; whnf)
 . first | exact fun _ => rfl | (intro _; kernel_rfl)
 . conv => lhs; whnf
 . conv => lhs; whnf; arg 1; whnf
 . conv => lhs; whnf
|apply zx rfl rfl rfl rfl
 . first | (conv => lhs; whnf; arg 1; whnf)
 . first | exact fun _ => rfl | (intro _; kernel_rfl)
 . conv => lhs; whnf
 . conv => lhs; whnf
|apply zAU rfl rfl
 . conv => lhs; whnf
 . first | (conv => lhs; whnf; arg 1; whnf)
|apply zAT rfl rfl
 . conv => lhs; whnf
 . first | (conv => lhs; whnf; arg 1; whnf)
 . conv => lhs; whnf; arg 1; whnf
 . rfl
 . rfl
|apply zAO rfl rfl
 . conv => lhs; whnf
 . first | (conv => lhs; whnf; arg 1; whnf)
 . first | exact fun _ => rfl | (intro _; kernel_rfl)
 . conv => lhs; whnf
 . conv => lhs; whnf
|apply zw (by kernel_rfl) (by kernel_rfl)
|apply zAd
|apply zAc rfl
 . conv => lhs; whnf
 . conv => lhs; whnf; arg 2; whnf
|apply zAQ rfl
 . conv => lhs; whnf
 . conv => lhs; whnf
 . first | exact hj
|apply zAD rfl rfl rfl
 . conv => lhs; whnf
 . rfl
 . rfl
 . conv => lhs; whnf; arg 1; whnf
 . conv => lhs; whnf; arg 1; whnf
 . exact ⟨by kernel_rfl,by kernel_rfl⟩
 . rfl
|apply zAz rfl rfl
 . conv => lhs; whnf
 . first | (conv => lhs; whnf; arg 1; whnf)
 . first | exact fun _ => rfl | (intro _; kernel_rfl)
 . conv => lhs; whnf
 . rfl
 . rfl
 . conv => lhs; whnf; arg 1; whnf
 . conv => lhs; whnf
|apply zAa rfl rfl
 . conv => lhs; whnf
 . first | (conv => lhs; whnf; arg 1; whnf)
|apply zAZ rfl rfl
 . conv => lhs; whnf
 . first | (conv => lhs; whnf; arg 1; whnf)
 . conv => lhs; whnf; arg 1; whnf
 . rfl
 . rfl
|apply zAS rfl rfl
 . conv => lhs; whnf
 . first | (conv => lhs; whnf; arg 1; whnf)
 . first | exact fun _ => rfl | (intro _; kernel_rfl)
 . conv => lhs; whnf
 . conv => lhs; whnf
|exact zX
|exact ze
|exact all_nil
|show List.all _ _ = true; rfl
|show zAB _ _ = true; rfl
|exact ([] : List Nat)
|exact (1000000 : Nat)
|apply zN
 . conv => lhs; whnf; arg 1; arg 1; whnf
|apply zO
 . conv => lhs; whnf; arg 1; arg 1; whnf
|refine zW (by conv => lhs; whnf) ?_ ?_ <;> intro hb
|refine zn ?_
|refine zb ?_
|refine zH ?_
|refine zL ?_
|refine zG ?_
|refine zD rfl ?_
|refine zF rfl ?_
|refine zE ?_
|refine zJ ?_
|refine zC ?_
|refine zK ?_
|refine z8 ?_
|refine zI ?_
|refine ⟨_,by conv => lhs; whnf; arg 2; whnf,?_⟩; conv => rhs; whnf
|exact trivial
|intro hg)
end Go.Proofs.YtdlnnlglmifceaaGreatDoor
namespace Go.Proofs.YtdlnnlglmifceaaGreatDoor
open Go.RowKit
set_option linter.unusedSectionVars false
attribute [local irreducible] wpList Calls Code.wp AW AWo OpOk seqK zAi zAp loopK endK AC zAC Yld Sub
attribute [local irreducible] ACB ACX absLexG YldG absLexH
theorem ind_no : ∀ (u cur : List UInt8),(∀ c ∈ u,c ≠ 10) -> indG cur u = if cur ++ u = [] then [] else [32,32] ++ (cur ++ u) ++ [10]
 | [],cur,_ => by rw [indG.eq_1,List.append_nil]
 | c :: u,cur,h => by
   rw [indG.eq_2,if_neg (h c (by simp)),ind_no u (cur ++ [c]) fun x hx => h x (by simp [hx])]
   simp
theorem zHs : ∀ (a cur b : List UInt8),(∀ c ∈ a,c ≠ 10) -> indG cur (a ++ 10 :: b) = [32,32] ++ (cur ++ a) ++ [10] ++ indG [] b
 | [],cur,b,_ => by
   show indG cur (10 :: b) = _
   rw [indG.eq_2,if_pos rfl,List.append_nil]
 | c :: a,cur,b,h => by
   show indG cur (c :: (a ++ 10 :: b)) = _
   rw [indG.eq_2,if_neg (h c (by simp)),zHs a (cur ++ [c]) b fun x hx => h x (by simp [hx])]
   simp
def docF31 (kind : Int) (f : D) : List UInt8:=docT 1048576 (24 + 1) (.obj [.list (fetchO 8 f kind),.list []])
theorem textP_ac (s0 f : D) (kind : Int) (h : CpP 8 (f.f 6).l) (hok : DocOk 1048576 24 (.obj [.list (fetchO 8 f kind),.list []])) :
 AC EN Tryz.prog 61 [.agg (cellsV Tryz.prog 12 35 s0),.agg (cellsV Tryz.prog 12 40 f),.c (.int .i64 kind)] (.c (.string (bs (docF31 kind f)))):=by
 have h1:=zEE EN 8 s0 f kind h
 have h2 : AC EN Tryz.prog 99 [.agg [.sl 47 (fetchO 8 f kind),.sl 50 []]] (.c (.string (bs (docF31 kind f)))):=printP_ac _ _ _ _ hok
 refine zh 12 Tryz.func61 rfl rfl rfl rfl ?_
 intro s w he
 repeat' (first
|refine zB ?_
|refine zM ?_
|refine zk ?_
|refine zV ?_
|refine zd ?_
|apply aw_1
 conv => whnf
 refine ⟨?_,trivial⟩
|apply s_1
 conv => whnf; arg 1; arg 4; arg 3; whnf
 refine ⟨?_,?_⟩
|apply z7 rfl
 . conv => lhs; whnf
 . conv => lhs; whnf; arg 2; whnf
|apply zl rfl
 . conv => lhs; whnf
 . conv => lhs; whnf
 . first | exact h1 | exact h2
|apply zAV rfl rfl rfl rfl
 . conv => lhs; whnf; arg 1; whnf
 . rfl
|apply zN
 . conv => lhs; whnf; arg 1; arg 1; whnf
|apply zO
 . conv => lhs; whnf; arg 1; arg 1; whnf
|refine zW (by conv => lhs; whnf) ?_ ?_ <;> intro hb
|refine zn ?_
|refine zb ?_
|refine zH ?_
|refine zL ?_
|refine zG ?_
|refine zD rfl ?_
|refine zF rfl ?_
|refine zE ?_
|refine zJ ?_
|refine zC ?_
|refine zK ?_
|refine z8 ?_
|refine zI ?_
|refine ⟨_,by conv => lhs; whnf; arg 2; whnf,?_⟩; conv => rhs; whnf
|exact trivial
|intro hg)
theorem show_cons (gs : List D) (doc : D -> List UInt8) {fs : List D} {i : Nat} (h : i < fs.length) : zEV gs doc (fs.drop i) i = zGG gs i (gD fs i) ++ indT (doc (gD fs i)) ++ zEV gs doc (fs.drop (i + 1)) (i + 1):=by
 rw [List.drop_eq_getElem_cons h,zBd h]
 rfl
structure PlanOk (gs : List D) (fs : List D) (kind : Int) : Prop where
 n : fs.length <= 12
 fo : ∀ i,i < fs.length -> FetOk gs (gD fs i)
 cp : ∀ i,i < fs.length -> CpP 8 ((gD fs i).f 6).l
 dk : ∀ i,i < fs.length -> DocOk 1048576 24 (.obj [.list (fetchO 8 (gD fs i) kind),.list []])
 dl : ∀ i,i < fs.length -> (docF31 kind (gD fs i)).length <= 20000000000
 sl : (zEV gs (docF31 kind) fs 0).length <= 10000000000000
end Go.Proofs.YtdlnnlglmifceaaGreatDoor
namespace Go.Proofs.YtdlnnlglmifceaaGreatDoor
open Go.RowKit
theorem strL_bulk {l : List D} {i : Nat} (h : i < l.length) : (gD l i).s.size <= bulkL l:=by
 have h1:=zAf h
 have h2:=zv (gD l i)
 have h3:=zAn (gD l i)
 omega
theorem zFw {l : List D} {i : Nat} (h : i < l.length) (j : Nat) : ((gD l i).f j).s.size <= bulkL l:=by
 have h1:=(zBq h j).1
 have h2:=zv ((gD l i).f j)
 have h3:=zAn ((gD l i).f j)
 omega
theorem zG5 (f : D) (j : Nat) : bulkL (f.f j).l <= bulkD f:=by
 have h1:=zv f
 have h2:=wD_f f j
 have h3:=zAP (f.f j)
 omega
theorem hop_len (h : D) : (hopT h).length + 1 <= 2 * bulkD h:=by
 have h1:=zv h
 have h2:=zAv h 2
 have h3:=zAn (h.f 0)
 have h4:=zAn (h.f 1)
 simp only [sumN] at h2
 unfold hopT
 simp only [List.length_append,zAj,List.length_cons,List.length_nil]
 omega
theorem fetOk_of {gs : List D} {f : D} (hw : wideD f) (hg : bulkL gs <= 1048576) (hf : bulkD f <= 1048576) : FetOk gs f:=by
 have h1:=zA0 gs
 have h2:=zG5 f 4
 have h3:=zA0 (f.f 4).l
 have h4:=zG5 f 2
 have h5:=zA0 (f.f 2).l
 have h6:=zG5 f 7
 have h7:=zA0 (f.f 7).l
 refine ⟨(hw.f 1).n,fun j hj => ((hw.f 7).l j).n,by omega,by omega,by omega,fun j hj => ?_,fun j hj => ⟨?_,?_⟩,?_,?_,?_,?_⟩
 . have:=strL_bulk hj; omega
 . have:=zFw hj 0; omega
 . have:=zFw hj 1; omega
 . have h6:=zv f
   have h7:=wD_f f 3
   have h8:=zAn (f.f 3)
   omega
 . have:=zBI (f.f 2).l hopT [47] 2 fun i _ => hop_len _
   omega
 . have:=zBI (f.f 4).l (fun d => tx d.s) [32] 2 fun i _ => by
    have h1:=zv (gD (f.f 4).l i)
    have h2:=zAn (gD (f.f 4).l i)
    simp only [zAj,List.length_cons,List.length_nil]
    omega
   exact Nat.le_trans this (by omega)
 . have:=zBI (f.f 7).l (fun d => Lib.itoa d.n) [32] 22 fun i _ => by
    have h1:=zv (gD (f.f 7).l i)
    have hn:=((hw.f 7).l i).n
    have h2:=zBu _ hn.1 hn.2
    simp only [List.length_cons,List.length_nil]
    omega
   omega
end Go.Proofs.YtdlnnlglmifceaaGreatDoor
namespace Go.Proofs.YtdlnnlglmifceaaGreatDoor
open Go.RowKit
set_option linter.unusedSectionVars false
attribute [local irreducible] wpList Calls Code.wp AW AWo OpOk seqK zAi zAp loopK endK AC zAC Yld Sub
attribute [local irreducible] ACB ACX absLexG YldG absLexH
theorem bs_ne {u : List UInt8} (h : u ≠ []) : (!((bs u).toList == (⟨#[]⟩ : ByteArray).toList)) = true:=by
 rw [Lib.toList_data,Lib.toList_data,zDS]
 cases u with
 | nil => exact absurd rfl h
 | cons c u => rfl
theorem bs_nil0 : (!((bs []).toList == (⟨#[]⟩ : ByteArray).toList)) = false:=by
 rw [Lib.toList_data,Lib.toList_data,zDS]
 rfl
noncomputable def HsO (s0 p : D) (T : List UInt8) (i : Nat) : Vst 45:=
 stS 45 [(2,.bx 2 0),(3,.bx 3 0),(5,.bx 5 0),(13,.sl 40 (p.f 2).l),(14,.c (.int .i64 ((p.f 2).l.length : Nat))),(15,.c (.int .i64 (i : Int)))]
  [(2,.box 35 (cellsV Tryz.prog 12 35 s0)),(3,.box 86 (cellsV Tryz.prog 12 86 p)),(5,.bld 114 5 T)]
noncomputable def HsI (s0 p : D) (T u : List UInt8) (i : Nat) : Vst 45:=
 stS 45 [(2,.bx 2 0),(3,.bx 3 0),(5,.bx 5 0),(8,.c (.string (bs u))),(13,.sl 40 (p.f 2).l),(14,.c (.int .i64 ((p.f 2).l.length : Nat))),(15,.c (.int .i64 (i : Int)))]
  [(2,.box 35 (cellsV Tryz.prog 12 35 s0)),(3,.box 86 (cellsV Tryz.prog 12 86 p)),(5,.bld 114 5 T)]
theorem showP_ac (s0 p : D) (h : PlanOk (s0.f 0).l (p.f 2).l (p.f 0).n) : AC EN Tryz.prog 32 [.agg (cellsV Tryz.prog 12 35 s0),.agg (cellsV Tryz.prog 12 86 p)] (.c (.string (bs (zEV (s0.f 0).l (docF31 (p.f 0).n) (p.f 2).l 0)))):=by
 have hsl:=h.sl
 have hnn:=h.n
 generalize hS : zEV (s0.f 0).l (docF31 (p.f 0).n) (p.f 2).l 0 = S at *
 refine zh 45 Tryz.func32 rfl rfl rfl rfl ?_
 intro s w he
 repeat' (first
|refine zB ?_
|refine zM ?_
|refine zk ?_
|refine zV ?_
|refine zd ?_
|apply aw_1
 conv => whnf
 refine ⟨?_,trivial⟩
|apply s_1
 conv => whnf; arg 1; arg 4; arg 3; whnf
 refine ⟨?_,?_⟩
|apply z7 rfl
 . conv => lhs; whnf
 . conv => lhs; whnf; arg 2; whnf
|apply zl rfl
 . conv => lhs; whnf
 . conv => lhs; whnf
 . first | fail
|apply zAV rfl rfl rfl rfl
 . conv => lhs; whnf; arg 1; whnf
 . rfl
|apply zr rfl rfl rfl rfl
 . conv => lhs; whnf; arg 1; whnf
 . rfl
|apply zq rfl rfl rfl
 . conv => lhs; whnf
 . conv => lhs; whnf; arg 1; whnf
 . conv => lhs; whnf; arg 1; whnf
 . exact ⟨by kernel_rfl,by kernel_rfl⟩
 . rfl
|apply zN
 . conv => lhs; whnf; arg 1; arg 1; whnf
|apply zO
 . conv => lhs; whnf; arg 1; arg 1; whnf
|refine zW (by conv => lhs; whnf) ?_ ?_ <;> intro hb
|refine zn ?_
|refine zb ?_
|refine zH ?_
|refine zL ?_
|refine zG ?_
|refine zD rfl ?_
|refine zF rfl ?_
|refine zE ?_
|refine zJ ?_
|refine zC ?_
|refine zK ?_
|refine z8 ?_
|refine zI ?_
|refine ⟨_,by conv => lhs; whnf; arg 2; whnf,?_⟩; conv => rhs; whnf
|exact trivial
|intro hg)
 refine zAF (Sub.bld (m:=5) (e:=5) rfl) ?_
 refine zAG (fun j st => ∃ i out,i + j = (p.f 2).l.length /\ out ++ zEV (s0.f 0).l (docF31 (p.f 0).n) ((p.f 2).l.drop i) i = S /\ Sub (cx EN Tryz.prog s w he) st (HsO s0 p out i)) (p.f 2).l.length ⟨0,[],by omega,hS,Sub.live ⟨rfl,rfl,rfl,rfl,rfl,rfl,trivial⟩ ⟨rfl,rfl,rfl,trivial⟩⟩ ?_
 clear hS
 rintro j st ⟨i,out,hij,hR,hs2⟩
 refine zAF hs2 ?_
 clear hs2
 by_cases hi : i < (p.f 2).l.length
 rotate_left 1
 . have f0 : decide ((i : Int) < ((p.f 2).l.length : Nat)) = false:=decide_eq_false (by omega)
   rw [List.drop_of_length_le (by omega)] at hR
   have hR : out = S:=by rw [<- hR]; simp [zEV]
   subst hR
   repeat' (first
|apply s_bs rfl
 . conv => lhs; whnf
 . conv => lhs; whnf
 . rfl
 . conv => lhs; whnf; arg 1; whnf
 . exact ⟨rfl,rfl⟩
 . rfl
|apply zT
 . conv => lhs; whnf
 . assumption
|apply zQ
 . conv => lhs; whnf
 . assumption
|refine zj ?_
|refine za ?_
|refine zAb ?_
|refine zB ?_
|refine zM ?_
|refine zk ?_
|refine zV ?_
|refine zd ?_
|apply aw_1
 conv => whnf
 refine ⟨?_,trivial⟩
|apply s_1
 conv => whnf; arg 1; arg 4; arg 3; whnf
 refine ⟨?_,?_⟩
|apply z7 rfl
 . conv => lhs; whnf
 . conv => lhs; whnf; arg 2; whnf
|apply zl rfl
 . conv => lhs; whnf
 . conv => lhs; whnf
 . first | fail
|apply zAV rfl rfl rfl rfl
 . conv => lhs; whnf; arg 1; whnf
 . rfl
|apply zr rfl rfl rfl rfl
 . conv => lhs; whnf; arg 1; whnf
 . rfl
|apply zq rfl rfl rfl
 . conv => lhs; whnf
 . conv => lhs; whnf; arg 1; whnf
 . conv => lhs; whnf; arg 1; whnf
 . exact ⟨by kernel_rfl,by kernel_rfl⟩
 . rfl
|apply zN
 . conv => lhs; whnf; arg 1; arg 1; whnf
|apply zO
 . conv => lhs; whnf; arg 1; arg 1; whnf
|refine zW (by conv => lhs; whnf) ?_ ?_ <;> intro hb
|refine zn ?_
|refine zb ?_
|refine zH ?_
|refine zL ?_
|refine zG ?_
|refine zD rfl ?_
|refine zF rfl ?_
|refine zE ?_
|refine zJ ?_
|refine zC ?_
|refine zK ?_
|refine z8 ?_
|refine zI ?_
|refine ⟨_,by conv => lhs; whnf; arg 2; whnf,?_⟩; conv => rhs; whnf
|exact trivial
|intro hg)
   all_goals (unfold maxLen; omega)
 have f0 : decide ((i : Int) < ((p.f 2).l.length : Nat)) = true:=decide_eq_true (by omega)
 have h1:=headP_ac s0 (gD (p.f 2).l i) i ⟨by omega,by omega⟩ (h.fo i hi)
 have h2:=textP_ac s0 (gD (p.f 2).l i) (p.f 0).n (h.cp i hi) (h.dk i hi)
 have hdl:=h.dl i hi
 rw [show_cons _ _ hi] at hR
 generalize docF31 (p.f 0).n (gD (p.f 2).l i) = u0 at *
 have hl:=congrArg List.length hR
 simp only [List.length_append] at hl
 repeat' (first
|apply s_ws rfl
 . conv => lhs; whnf
 . conv => lhs; whnf
 . rfl
 . conv => lhs; whnf; arg 1; whnf
 . rfl
|apply zT
 . conv => lhs; whnf
 . assumption
|apply zQ
 . conv => lhs; whnf
 . assumption
|refine zj ?_
|refine za ?_
|refine zAb ?_
|refine zB ?_
|refine zM ?_
|refine zk ?_
|refine zV ?_
|refine zd ?_
|apply aw_1
 conv => whnf
 refine ⟨?_,trivial⟩
|apply s_1
 conv => whnf; arg 1; arg 4; arg 3; whnf
 refine ⟨?_,?_⟩
|apply z7 rfl
 . conv => lhs; whnf
 . conv => lhs; whnf; arg 2; whnf
|apply zl rfl
 . conv => lhs; whnf
 . conv => lhs; whnf
 . first | exact h1 | exact h2
|apply zAV rfl rfl rfl rfl
 . conv => lhs; whnf; arg 1; whnf
 . rfl
|apply zr rfl rfl rfl rfl
 . conv => lhs; whnf; arg 1; whnf
 . rfl
|apply zq rfl rfl rfl
 . conv => lhs; whnf
 . conv => lhs; whnf; arg 1; whnf
 . conv => lhs; whnf; arg 1; whnf
 . exact ⟨by kernel_rfl,by kernel_rfl⟩
 . rfl
|apply zN
 . conv => lhs; whnf; arg 1; arg 1; whnf
|apply zO
 . conv => lhs; whnf; arg 1; arg 1; whnf
|refine zW (by conv => lhs; whnf) ?_ ?_ <;> intro hb
|refine zn ?_
|refine zb ?_
|refine zH ?_
|refine zL ?_
|refine zG ?_
|refine zD rfl ?_
|refine zF rfl ?_
|refine zE ?_
|refine zJ ?_
|refine zC ?_
|refine zK ?_
|refine z8 ?_
|refine zI ?_
|refine ⟨_,by conv => lhs; whnf; arg 2; whnf,?_⟩; conv => rhs; whnf
|exact trivial
|intro hg)
 rotate_left 1
 . rw [zAJ]; omega
 . exact at31 hi
 refine zAG (fun m st => ∃ T u,u.length <= m /\ u.length <= u0.length /\ T ++ indG [] u = out ++ zGG (s0.f 0).l i (gD (p.f 2).l i) ++ indT u0 /\ Sub (cx EN Tryz.prog s w he) st (HsI s0 p T u i)) u0.length ⟨out ++ zGG (s0.f 0).l i (gD (p.f 2).l i),u0,Nat.le_refl _,Nat.le_refl _,rfl,Sub.live ⟨rfl,rfl,rfl,rfl,rfl,rfl,rfl,trivial⟩ ⟨rfl,rfl,?_,trivial⟩⟩ ?_
 . exact congrArg (fun l => some (Res.bld _ _ (out ++ l))) (zB9 _)
 rintro m st2 ⟨T,u,hm,hu0,hT,hs3⟩
 refine zAF hs3 ?_
 clear hs3
 have htl:=congrArg List.length hT
 simp only [List.length_append] at htl
 by_cases hu : u = []
 . subst hu
   have g0:=bs_nil0
   have hT : T = out ++ zGG (s0.f 0).l i (gD (p.f 2).l i) ++ indT u0:=by rw [<- hT,indG.eq_1,if_pos rfl,List.append_nil]
   subst hT
   repeat' (first
|apply zT
 . conv => lhs; whnf
 . assumption
|apply zQ
 . conv => lhs; whnf
 . assumption
|refine zj ?_
|refine za ?_
|refine zAb ?_
|refine zB ?_
|refine zM ?_
|refine zk ?_
|refine zV ?_
|refine zd ?_
|apply aw_1
 conv => whnf
 refine ⟨?_,trivial⟩
|apply s_1
 conv => whnf; arg 1; arg 4; arg 3; whnf
 refine ⟨?_,?_⟩
|apply z7 rfl
 . conv => lhs; whnf
 . conv => lhs; whnf; arg 2; whnf
|apply zl rfl
 . conv => lhs; whnf
 . conv => lhs; whnf
 . first | fail
|apply zAV rfl rfl rfl rfl
 . conv => lhs; whnf; arg 1; whnf
 . rfl
|apply zr rfl rfl rfl rfl
 . conv => lhs; whnf; arg 1; whnf
 . rfl
|apply zq rfl rfl rfl
 . conv => lhs; whnf
 . conv => lhs; whnf; arg 1; whnf
 . conv => lhs; whnf; arg 1; whnf
 . exact ⟨by kernel_rfl,by kernel_rfl⟩
 . rfl
|apply zN
 . conv => lhs; whnf; arg 1; arg 1; whnf
|apply zO
 . conv => lhs; whnf; arg 1; arg 1; whnf
|refine zW (by conv => lhs; whnf) ?_ ?_ <;> intro hb
|refine zn ?_
|refine zb ?_
|refine zH ?_
|refine zL ?_
|refine zG ?_
|refine zD rfl ?_
|refine zF rfl ?_
|refine zE ?_
|refine zJ ?_
|refine zC ?_
|refine zK ?_
|refine z8 ?_
|refine zI ?_
|refine ⟨_,by conv => lhs; whnf; arg 2; whnf,?_⟩; conv => rhs; whnf
|exact trivial
|intro hg)
   all_goals first
    | exact zAN (by omega)
    | exact zY (j':=j - 1) (by omega) ⟨i + 1,_,by omega,by rw [<- hR]; simp only [List.append_assoc],Sub.live ⟨rfl,rfl,rfl,rfl,rfl,rfl,trivial⟩ ⟨rfl,rfl,rfl,trivial⟩⟩
 have g0:=bs_ne hu
 have hup : 0 < u.length:=by cases u with | nil => exact absurd rfl hu | cons c u => simp
 rcases index_cut u with ⟨-,hno⟩ | ⟨a,b,rfl,hno,-⟩
 . have hc:=cutN_ac u (by omega) hno
   have e : indG [] u = [32,32] ++ u ++ [10]:=by rw [ind_no u [] hno,List.nil_append,if_neg hu]
   repeat' (first
|apply s_ws rfl
 . conv => lhs; whnf
 . conv => lhs; whnf
 . rfl
 . conv => lhs; whnf; arg 1; whnf
 . rfl
|apply zT
 . conv => lhs; whnf
 . assumption
|apply zQ
 . conv => lhs; whnf
 . assumption
|refine zj ?_
|refine za ?_
|refine zAb ?_
|refine zB ?_
|refine zM ?_
|refine zk ?_
|refine zV ?_
|refine zd ?_
|apply aw_1
 conv => whnf
 refine ⟨?_,trivial⟩
|apply s_1
 conv => whnf; arg 1; arg 4; arg 3; whnf
 refine ⟨?_,?_⟩
|apply z7 rfl
 . conv => lhs; whnf
 . conv => lhs; whnf; arg 2; whnf
|apply zl rfl
 . conv => lhs; whnf
 . conv => lhs; whnf
 . first | exact hc
|apply zAV rfl rfl rfl rfl
 . conv => lhs; whnf; arg 1; whnf
 . rfl
|apply zr rfl rfl rfl rfl
 . conv => lhs; whnf; arg 1; whnf
 . rfl
|apply zq rfl rfl rfl
 . conv => lhs; whnf
 . conv => lhs; whnf; arg 1; whnf
 . conv => lhs; whnf; arg 1; whnf
 . exact ⟨by kernel_rfl,by kernel_rfl⟩
 . rfl
|apply zN
 . conv => lhs; whnf; arg 1; arg 1; whnf
|apply zO
 . conv => lhs; whnf; arg 1; arg 1; whnf
|refine zW (by conv => lhs; whnf) ?_ ?_ <;> intro hb
|refine zn ?_
|refine zb ?_
|refine zH ?_
|refine zL ?_
|refine zG ?_
|refine zD rfl ?_
|refine zF rfl ?_
|refine zE ?_
|refine zJ ?_
|refine zC ?_
|refine zK ?_
|refine z8 ?_
|refine zI ?_
|refine ⟨_,by conv => lhs; whnf; arg 2; whnf,?_⟩; conv => rhs; whnf
|exact trivial
|intro hg)
   all_goals first
    | (simp only [ByteArray.size_append,zAJ,zAR,List.size_toArray,List.length_cons,List.length_nil,maxLen,Nat.reduceAdd]; omega)
    | skip
   refine zY (j':=m - 1) (by omega) ⟨T ++ ([32,32] ++ u ++ [10]),[],by simp,by simp,by rw [indG.eq_1,if_pos rfl,List.append_nil,<- e]; exact hT,Sub.live ⟨rfl,rfl,rfl,rfl,rfl,rfl,rfl,trivial⟩ ⟨rfl,rfl,?_,trivial⟩⟩
   refine congrArg (fun l => some (Res.bld _ _ (T ++ l))) ?_
   show tx ((⟨#[32,32]⟩ : ByteArray) ++ bs u ++ ⟨#[10]⟩) = _
   simp only [zAr,zB9]
   rfl
 . have hlab : (a ++ 10 :: b).length = a.length + b.length + 1:=by simp; omega
   have hc:=cutY_ac a b (by omega) hno
   have e : indG [] (a ++ 10 :: b) = [32,32] ++ a ++ [10] ++ indG [] b:=by rw [zHs a [] b hno,List.nil_append]
   repeat' (first
|apply s_ws rfl
 . conv => lhs; whnf
 . conv => lhs; whnf
 . rfl
 . conv => lhs; whnf; arg 1; whnf
 . rfl
|apply zT
 . conv => lhs; whnf
 . assumption
|apply zQ
 . conv => lhs; whnf
 . assumption
|refine zj ?_
|refine za ?_
|refine zAb ?_
|refine zB ?_
|refine zM ?_
|refine zk ?_
|refine zV ?_
|refine zd ?_
|apply aw_1
 conv => whnf
 refine ⟨?_,trivial⟩
|apply s_1
 conv => whnf; arg 1; arg 4; arg 3; whnf
 refine ⟨?_,?_⟩
|apply z7 rfl
 . conv => lhs; whnf
 . conv => lhs; whnf; arg 2; whnf
|apply zl rfl
 . conv => lhs; whnf
 . conv => lhs; whnf
 . first | exact hc
|apply zAV rfl rfl rfl rfl
 . conv => lhs; whnf; arg 1; whnf
 . rfl
|apply zr rfl rfl rfl rfl
 . conv => lhs; whnf; arg 1; whnf
 . rfl
|apply zq rfl rfl rfl
 . conv => lhs; whnf
 . conv => lhs; whnf; arg 1; whnf
 . conv => lhs; whnf; arg 1; whnf
 . exact ⟨by kernel_rfl,by kernel_rfl⟩
 . rfl
|apply zN
 . conv => lhs; whnf; arg 1; arg 1; whnf
|apply zO
 . conv => lhs; whnf; arg 1; arg 1; whnf
|refine zW (by conv => lhs; whnf) ?_ ?_ <;> intro hb
|refine zn ?_
|refine zb ?_
|refine zH ?_
|refine zL ?_
|refine zG ?_
|refine zD rfl ?_
|refine zF rfl ?_
|refine zE ?_
|refine zJ ?_
|refine zC ?_
|refine zK ?_
|refine z8 ?_
|refine zI ?_
|refine ⟨_,by conv => lhs; whnf; arg 2; whnf,?_⟩; conv => rhs; whnf
|exact trivial
|intro hg)
   all_goals first
    | (simp only [ByteArray.size_append,zAJ,zAR,List.size_toArray,List.length_cons,List.length_nil,maxLen,Nat.reduceAdd]; omega)
    | skip
   refine zY (j':=m - 1) (by omega) ⟨T ++ ([32,32] ++ a ++ [10]),b,by omega,by omega,by rw [<- hT,e]; simp only [List.append_assoc],Sub.live ⟨rfl,rfl,rfl,rfl,rfl,rfl,rfl,trivial⟩ ⟨rfl,rfl,?_,trivial⟩⟩
   refine congrArg (fun l => some (Res.bld _ _ (T ++ l))) ?_
   show tx ((⟨#[32,32]⟩ : ByteArray) ++ bs a ++ ⟨#[10]⟩) = _
   simp only [zAr,zB9]
   rfl
end Go.Proofs.YtdlnnlglmifceaaGreatDoor
