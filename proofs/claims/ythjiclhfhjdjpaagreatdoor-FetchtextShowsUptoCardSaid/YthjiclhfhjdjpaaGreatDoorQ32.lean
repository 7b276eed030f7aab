import Derived.Laws.MakeOwn
import Derived.Test.YthjiclhfhjdjpaaGreatDoorQ31
set_option maxHeartbeats 20000000
set_option maxRecDepth 100000
set_option linter.unusedVariables false
set_option linter.unusedSimpArgs false
namespace Go.Proofs.YthjiclhfhjdjpaaGreatDoor
open Go.RowKit
attribute [local irreducible] wpList Calls Code.wp
section
variable {X : Cx} {nn : Nat} {st : Vst nn} {o : Oper} {ops : Array Oper} {l : List Oper} {KK : Vst nn -> Prop}
theorem zFK (s : Sg) (w : World) : Ext (fun _ => False) s w.drew s w:=⟨fun _ _ h => ⟨rfl,h⟩,fun _ _ => rfl,fun _ _ => .inl rfl⟩
theorem MemOk.undrew {P : Program} {pas : Nat -> Prop} {B : Nat} {rs : Nat -> Option Res} {s : Sg} {w : World} (h : MemOk P pas B rs s w.drew) : MemOk P pas B rs s w where
 fx:=h.fx
 ho n ρ hn:=(h.ho n ρ hn).keep (zFK s w) (fun h => h) rfl rfl (fun _ h => h.elim) (fun _ _ => rfl) (fun _ _ _ h => h)
 bs:=h.bs
 dj:=h.dj
theorem Inv.undrew {s : Sg} {w : World} {a : Act} (hI : Inv X st s w.drew a) : Inv X st s w a:=
 hI.go (w':=w) (zFK s w) hI.mem.undrew ⟨rfl,rfl,rfl,Nat.le_refl _,fun _ _ _ => rfl⟩ (fun _ _ _ _ h => h)
theorem opOk_make {K : Vst nn -> Prop} {t e : TypeId} {by_ d n : Nat} {x y : Operand} (ho : o.op = .makeSlice t x y) (hd : o.dst = some d) (hdl : Nat.ble d 999999 = true) (he : zAL X.P t = some (e,by_))
 (hx : ev st x = .c (.int .i64 0)) (hy : ev st y = .c (.int .i64 (n : Int))) (hn : n <= maxLen) (hby : n * by_ <= 140737488355328)
 (hK : K (((st.kill d).res d (.tok e 0)).put (some d) (.own d e []))) : OpOk X o st K:=by
 intro s w a hI N Q hP hN
 obtain ⟨hu,hlay,i,z,hi,hz,hb,hsp,hzs,hsz⟩:=zBm he
 have hxe:=hI.ev x
 have hye:=hI.ev y
 rw [hx,rel] at hxe
 rw [hy,rel] at hye
 have hmx : (n : Int) <= 9223372036854775807:=by simp only [maxLen] at hn; omega
 have hbb : (i.bytes : Int) * (n : Int) <= 281474976710656:=by
  have h : ((i.bytes * n : Nat) : Int) <= 281474976710656:=by rw [hb,Nat.mul_comm]; omega
  rwa [Int.natCast_mul] at h
 have hr:=run_make (P:=X.P) w t e i z hu hi hz .i64 .i64 0 (n : Int) (Int.le_refl _) (by omega) hbb hmx
 simp only [Int.toNat_zero,Int.toNat_natCast] at hr
 have hex : (execOp a.eval o).run X.P w = .ok (.value (.slice (some ⟨w.heap.size,0,none⟩) 0 n)) (w.alloc (.cells (madeCells z.cells (n * i.size)) e)):=by
  simp [execOp,ho,hxe.1,hye.1,hr]
 unfold Oper.wp
 rw [hex,Oper.upon_value,hd]
 have hcur : (madeCells z.cells (n * i.size)).size = n * X.P.cellsOf e:=by rw [size_madeCells,hsz]
 have hI':=hI.kill d
 have hkeep : Keeps s.F (s.tok d w.heap.size (0 * X.P.cellsOf e) (.slice (some ⟨w.heap.size,0,none⟩) 0 n) 0).F w (w.drew.alloc (.cells (madeCells z.cells (n * i.size)) e)):=zCf hI.mem _ e _
 have hext : Ext (fun m => m = d) s w (s.tok d w.heap.size (0 * X.P.cellsOf e) (.slice (some ⟨w.heap.size,0,none⟩) 0 n) 0) (w.drew.alloc (.cells (madeCells z.cells (n * i.size)) e)):=
  ⟨hkeep,fun _ _ => rfl,fun q hq => .inl (by simp only [Sg.tok]; rw [if_neg hq])⟩
 have hmem:=hI'.mem.tokNew hI.base (k:=d) (fun m => m = d) (fun _ h => h) zEe hcur (Nat.zero_le n) hn hext
 refine hN _ _ _ _ (Inv.put (st:=(st.kill d).res d (.tok e 0)) (v:=.own d e []) (Inv.undrew (w:=w.alloc (.cells (madeCells z.cells (n * i.size)) e)) ⟨hI.sz,fun i hi => ?_,hI.df,hI.fr.trans (zCi w _ _) (q:=fun _ => False) (fun _ h => h.elim),hI.kp.trans hkeep,fun b o hb hnp hF => ?_,hmem,hI.pe.ext hext fun m hm => by subst hm; exact Nat.le_of_ble_eq_true hdl⟩) (some d) ?_) hK
 . exact rel.ext hext _ _ (zAo (hI.tm i hi)).1 fun n hn => by subst hn; exact (zAo (hI.tm i hi)).2
 . rcases hF with hF | ⟨rfl,h0⟩
   . exact hI.nf b o hb hnp hF
   . simp at h0
 . rw [rel]
   refine ⟨⟨0,_,n,rfl,Nat.zero_le _,hn,(fun h => by cases h),fun h => by simp at h⟩,by simp [Sg.tok],fun _ => by simp [Sg.tok]⟩
theorem s_make {t e : TypeId} {by_ m n : Nat} {x y : Operand} (hg : o.guard = none) (ho : o.op = .makeSlice t x y) (hd : o.dst = some m) (hdl : Nat.ble m 999999 = true) (he : zAL X.P t = some (e,by_)) (hx : ev st x = .c (.int .i64 0)) (hy : ev st y = .c (.int .i64 (n : Int)))
 (hK : AWo X ops l (((st.kill m).res m (.tok e 0)).put (some m) (.own m e [])) KK) (hp : n <= maxLen /\ n * by_ <= 140737488355328) : AWo X ops (o :: l) st KK:=
 zAm hg (opOk_make ho hd hdl he hx hy hp.1 hp.2 hK)
end
end Go.Proofs.YthjiclhfhjdjpaaGreatDoor
namespace Go.Proofs.YthjiclhfhjdjpaaGreatDoor
open Go.RowKit
set_option linter.unusedSectionVars false
attribute [local irreducible] wpList Calls Code.wp AW AWo OpOk seqK zAf zAh loopK endK AC zAD Yld Sub
attribute [local irreducible] ACB ACX absLexG YldG absLexH
def hd31 (gs : List D) (i : Int) (f : D) : List UInt8:=ftT ++ Lib.itoa i ++ [58,32] ++ zB7 gs (f.f 0).n ++ [44,32,100,101,112,116,104,32] ++ Lib.itoa (f.f 1).n
theorem zIF (gs : List D) (i : Int) (f : D) : zC1 gs i f = hd31 gs i f ++ zBx (f.f 7).l ++ zEW f ++ [10]:=by
 unfold zC1 restT hd31
 simp only [List.append_assoc]
structure FetOk (gs : List D) (f : D) : Prop where
 nd : i64D (f.f 1).n
 na : ∀ j,j < (f.f 7).l.length -> i64D (gD (f.f 7).l j).n
 la : (f.f 7).l.length <= 1048576
 lp : (f.f 2).l.length <= 1048576
 lk : (f.f 4).l.length <= 1048576
 sg : ∀ j,j < gs.length -> (gD gs j).s.size <= 1048576
 sp : ∀ j,j < (f.f 2).l.length -> ((gD (f.f 2).l j).f 0).s.size <= 1048576 /\ ((gD (f.f 2).l j).f 1).s.size <= 1048576
 st : (f.f 3).s.size <= 1048576
 pj : (Lib.join ((f.f 2).l.map hopT) [47]).length <= 100000000
 kj : (Lib.join (txs (f.f 4).l) [32]).length <= 100000000
 aj : (Lib.join ((f.f 7).l.map fun d => Lib.itoa d.n) [32]).length <= 100000000
theorem zEc {gs : List D} {f : D} (h : FetOk gs f) (n : Int) : (zB7 gs n).length <= 1048576:=by
 unfold zB7
 split
 . rw [zAP]; exact h.sg _ (by omega)
 . simp
noncomputable def HdG31 (s f : D) (i : Int) (g : List UInt8) : Vst 109:=
 stS 109 [(2,.c (.int .i64 i)),(3,.bx 3 0),(4,.bx 4 0),(7,.bx 7 0),(8,.c (.string (bs g)))] [(3,.box 29 (cellsV Tryz.prog 12 29 s)),(4,.box 34 (cellsV Tryz.prog 12 34 f)),(7,.bld 92 5 [])]
noncomputable def HdT31 (s f : D) (t : List UInt8) : Vst 109:=
 stS 109 [(3,.bx 3 0),(4,.bx 4 0),(7,.bx 7 0)] [(3,.box 29 (cellsV Tryz.prog 12 29 s)),(4,.box 34 (cellsV Tryz.prog 12 34 f)),(7,.bld 92 5 t)]
noncomputable def HdA31 (s f : D) (t : List UInt8) (i : Nat) : Vst 109:=
 stS 109 [(3,.bx 3 0),(4,.bx 4 0),(7,.bx 7 0),(9,.own 51 9 (zq (fun i => Lib.itoa (gD (f.f 7).l i).n) i)),(53,.sl 3 (f.f 7).l),(54,.c (.int .i64 ((f.f 7).l.length : Nat))),(55,.c (.int .i64 (i : Int)))]
  [(3,.box 29 (cellsV Tryz.prog 12 29 s)),(4,.box 34 (cellsV Tryz.prog 12 34 f)),(7,.bld 92 5 t),(51,.tok 9 (zq (fun i => Lib.itoa (gD (f.f 7).l i).n) i).length)]
noncomputable def HdP31 (s f : D) (t : List UInt8) (i : Nat) : Vst 109:=
 stS 109 [(3,.bx 3 0),(4,.bx 4 0),(7,.bx 7 0),(12,.own 76 9 (zq (fun i => hopT (gD (f.f 2).l i)) i)),(78,.sl 68 (f.f 2).l),(79,.c (.int .i64 ((f.f 2).l.length : Nat))),(80,.c (.int .i64 (i : Int)))]
  [(3,.box 29 (cellsV Tryz.prog 12 29 s)),(4,.box 34 (cellsV Tryz.prog 12 34 f)),(7,.bld 92 5 t),(76,.tok 9 (zq (fun i => hopT (gD (f.f 2).l i)) i).length)]
theorem headP_ac (s0 f : D) (i : Int) (hi : i64D i) (h : FetOk (s0.f 0).l f) : AC EN Tryz.prog 47 [.agg (cellsV Tryz.prog 12 29 s0),.agg (cellsV Tryz.prog 12 34 f),.c (.int .i64 i)] (.c (.string (bs (zC1 (s0.f 0).l i f)))):=by
 have hd1:=zHQ i hi.1 hi.2
 have hd2:=zHQ (f.f 1).n h.nd.1 h.nd.2
 have z1:=zAs i hi.1 hi.2
 have z2:=zAs (f.f 1).n h.nd.1 h.nd.2
 have zg:=zEc h (f.f 0).n
 have hlp:=h.lp
 have hla:=h.la
 have hlk:=h.lk
 have hst:=h.st
 have hpj:=h.pj
 have hkj:=h.kj
 have haj:=h.aj
 have hja : AC EN Tryz.prog 59 [.sl 9 (zq (fun i => Lib.itoa (gD (f.f 7).l i).n) (f.f 7).l.length),.c (.string ⟨#[32]⟩)] (.c (.string (bs (Lib.join ((f.f 7).l.map fun d => Lib.itoa d.n) [32])))):=by
  have e : txs (zq (fun i => Lib.itoa (gD (f.f 7).l i).n) (f.f 7).l.length) = (f.f 7).l.map fun d => Lib.itoa d.n:=zAd (fun d => Lib.itoa d.n) (f.f 7).l
  have:=zB1 (zq (fun i => Lib.itoa (gD (f.f 7).l i).n) (f.f 7).l.length) [32] (by rw [zAC]; omega) (by rw [e]; omega)
  rw [e] at this
  exact this
 have hjp : AC EN Tryz.prog 59 [.sl 9 (zq (fun i => hopT (gD (f.f 2).l i)) (f.f 2).l.length),.c (.string ⟨#[47]⟩)] (.c (.string (bs (Lib.join ((f.f 2).l.map hopT) [47])))):=by
  have e : txs (zq (fun i => hopT (gD (f.f 2).l i)) (f.f 2).l.length) = (f.f 2).l.map hopT:=zAd hopT (f.f 2).l
  have:=zB1 (zq (fun i => hopT (gD (f.f 2).l i)) (f.f 2).l.length) [47] (by rw [zAC]; omega) (by rw [e]; omega)
  rw [e] at this
  exact this
 have hjk : AC EN Tryz.prog 59 [.sl 9 (f.f 4).l,.c (.string ⟨#[32]⟩)] (.c (.string (bs (Lib.join (txs (f.f 4).l) [32])))):=zB1 (f.f 4).l [32] (by omega) (by omega)
 generalize hA : Lib.join ((f.f 7).l.map fun d => Lib.itoa d.n) [32] = ja at *
 generalize hP : Lib.join ((f.f 2).l.map hopT) [47] = jp at *
 generalize hK : Lib.join (txs (f.f 4).l) [32] = jk at *
 generalize hG : zB7 (s0.f 0).l (f.f 0).n = g at *
 -- what is written,piece by piece
 have e1 : hd31 (s0.f 0).l i f = tx ((⟨#[102,101,116,99,104,32]⟩ : ByteArray) ++ bs (Lib.itoa i) ++ ⟨#[58,32]⟩ ++ bs g ++ ⟨#[44,32,100,101,112,116,104,32]⟩ ++ bs (Lib.itoa (f.f 1).n)):=by
  unfold hd31
  rw [hG]
  simp only [zY,zAS]
  rfl
 have w1:=zBf (e:=EN) [] ((⟨#[102,101,116,99,104,32]⟩ : ByteArray) ++ bs (Lib.itoa i) ++ ⟨#[58,32]⟩ ++ bs g ++ ⟨#[44,32,100,101,112,116,104,32]⟩ ++ bs (Lib.itoa (f.f 1).n)) (by (simp only [ByteArray.size_append,zS,zT,List.size_toArray,List.length_append,List.length_cons,List.length_nil,maxLen,Nat.reduceAdd,Int.toNat_natCast]; omega))
 rw [zIF]
 generalize hT1 : hd31 (s0.f 0).l i f = T1 at *
 have zT1 : T1.length <= 1100000:=by
  rw [e1,zAP]
  (simp only [ByteArray.size_append,zS,zT,List.size_toArray,List.length_append,List.length_cons,List.length_nil,maxLen,Nat.reduceAdd,Int.toNat_natCast]; omega)
 have eA : zBx (f.f 7).l = if (f.f 7).l.length = 0 then [] else [44,32,97,102,116,101,114,32] ++ ja:=by unfold zBx; rw [hA]
 have zA : (zBx (f.f 7).l).length <= 200000000:=by
  rw [eA]
  split
  . simp
  . simp only [List.length_append,List.length_cons,List.length_nil]; omega
 have eP : zEW f = if (f.f 2).l.length = 0 then [] else tx ((⟨#[44,32,97,116,32]⟩ : ByteArray) ++ bs jp ++ ⟨#[44,32,102,111,114,32]⟩ ++ (f.f 3).s ++ ⟨#[44,32,98,121,32]⟩ ++ bs jk):=by
  unfold zEW
  rw [hP,show ((f.f 4).l.map fun d => tx d.s) = txs (f.f 4).l from rfl,hK]
  simp only [zY,zAS]
  rfl
 have zP : (zEW f).length <= 400000000:=by
  rw [eP]
  split
  . simp
  . rw [zAP]
    (simp only [ByteArray.size_append,zS,zT,List.size_toArray,List.length_append,List.length_cons,List.length_nil,maxLen,Nat.reduceAdd,Int.toNat_natCast]; omega)
 have w2:=zBf (e:=EN) (T1 ++ zBx (f.f 7).l) ((⟨#[44,32,97,116,32]⟩ : ByteArray) ++ bs jp ++ ⟨#[44,32,102,111,114,32]⟩ ++ (f.f 3).s ++ ⟨#[44,32,98,121,32]⟩ ++ bs jk) (by rw [List.length_append]; (simp only [ByteArray.size_append,zS,zT,List.size_toArray,List.length_append,List.length_cons,List.length_nil,maxLen,Nat.reduceAdd,Int.toNat_natCast]; omega))
 refine zO 109 Tryz.func47 rfl rfl rfl rfl ?_
 intro s w he
 repeat' (first
|apply zBT 12 ([(8,[4])]) ([(11,[7])]) rfl (by kernel_rfl) (by kernel_rfl) (by kernel_rfl)
|apply zGf
|apply zGe rfl
 . conv => lhs; whnf
 . conv => lhs; whnf; arg 2; whnf
|apply zDt rfl
 . conv => lhs; whnf
 . conv => lhs; whnf
 . first | exact hd1 | exact hd2 | exact hja | exact hjp | exact hjk
|apply zFw rfl
 . conv => lhs; whnf
 . conv => lhs; whnf
 . rfl
 . conv => lhs; whnf; arg 1; whnf
 . first | exact w1 | exact w2
 . exact fun _ => rfl
 . exact fun _ => rfl
 . rfl
|show inO _ _ = true; rfl
|apply s_ws rfl
 . conv => lhs; whnf
 . conv => lhs; whnf
 . rfl
 . conv => lhs; whnf; arg 1; whnf
 . rfl
|apply s_bs rfl
 . conv => lhs; whnf
 . conv => lhs; whnf
 . rfl
 . conv => lhs; whnf; arg 1; whnf
 . exact ⟨rfl,rfl⟩
 . rfl
|apply s_make rfl rfl rfl rfl
 . first | exact zAK | (conv => lhs; whnf; arg 1; whnf)
 . conv => lhs; whnf
 . conv => lhs; whnf
|apply zAv 5 (HdG31 s0 f i g) rfl
|apply zAv 6 (HdT31 s0 f T1) rfl
|apply zAv 14 (HdT31 s0 f (T1 ++ zBx (f.f 7).l)) rfl
|apply zAv 22 (HdT31 s0 f (T1 ++ zBx (f.f 7).l ++ zEW f)) rfl
|refine zBB ?_
|refine zB ?_
|refine zC ?_
|refine zQ ?_
|apply aw_1
 conv => whnf
 refine ⟨?_,trivial⟩
|apply ze rfl rfl
 . conv => lhs; whnf
 . conv => lhs; whnf
 . first | exact bT1 ‹_› | exact bT2 ‹_›
|apply zm rfl rfl
 . conv => lhs; whnf
 . conv => lhs; whnf
 . first | exact bF1 ‹_› | exact bF2 ‹_›
|apply s_1
 conv => whnf; arg 1; arg 4; arg 3; whnf
 refine ⟨?_,?_⟩
|apply zAN rfl rfl rfl rfl
 . conv => lhs; whnf; arg 1; whnf
 . rfl
|apply zJ rfl
 . conv => lhs; whnf
 . conv => lhs; whnf
 . first | rfl | assumption
 . conv => lhs; whnf; arg 2; whnf
|apply zAA rfl
 . conv => lhs; whnf
 . conv => lhs; whnf
 . first | rfl | assumption
|apply zW rfl
 . conv => lhs; whnf
 . conv => lhs; whnf
 . conv => lhs; whnf; arg 2; whnf
|refine zV (by conv => lhs; whnf) ?_ ?_ <;> intro hb
|refine zD ?_
|refine ⟨_,by conv => lhs; whnf; arg 2; whnf,?_⟩; conv => rhs; whnf
|exact trivial
|intro hg)
 . refine Sub.trans (Sub.bld (m:=7) (e:=5) rfl) (Sub.live ⟨rfl,rfl,rfl,rfl,?_,trivial⟩ ⟨rfl,rfl,rfl,trivial⟩)
   refine congrArg (fun b => V.c (.string b)) ?_
   show (gD (s0.f 0).l ((f.f 0).n).toNat).s = bs g
   have q0 : 0 <= (f.f 0).n:=by simpa using hg
   rw [<- hG]
   unfold zB7
   rw [if_pos ⟨q0,of_decide_eq_true hb⟩,zA4]
 . exact ⟨by simpa using hg,of_decide_eq_true hb⟩
 . refine Sub.trans (Sub.bld (m:=7) (e:=5) rfl) (Sub.live ⟨rfl,rfl,rfl,rfl,?_,trivial⟩ ⟨rfl,rfl,rfl,trivial⟩)
   refine congrArg (fun b => V.c (.string b)) ?_
   have q1:=of_decide_eq_false hb
   rw [<- hG]
   unfold zB7
   rw [if_neg (fun q => q1 q.2)]
   rfl
 . refine Sub.trans (Sub.bld (m:=7) (e:=5) rfl) (Sub.live ⟨rfl,rfl,rfl,rfl,?_,trivial⟩ ⟨rfl,rfl,rfl,trivial⟩)
   refine congrArg (fun b => V.c (.string b)) ?_
   have q1 : ¬ 0 <= (f.f 0).n:=by simpa using hg
   rw [<- hG]
   unfold zB7
   rw [if_neg (fun q => q1 q.1)]
   rfl
 . refine Sub.live ⟨rfl,rfl,rfl,trivial⟩ ⟨rfl,rfl,?_,trivial⟩
   rw [e1]
   rfl
 iterate 5
  . (simp only [ByteArray.size_append,zS,zT,List.size_toArray,List.length_append,List.length_cons,List.length_nil,maxLen,Nat.reduceAdd,Int.toNat_natCast]; omega)
 . refine zv (fun j st => ∃ i,i + j = (f.f 7).l.length /\ Sub (cx EN Tryz.prog s w he) st (HdA31 s0 f T1 i)) (f.f 7).l.length ⟨0,by omega,Sub.live ⟨rfl,rfl,rfl,rfl,rfl,rfl,rfl,trivial⟩ ⟨rfl,rfl,rfl,rfl,trivial⟩⟩ ?_
   rintro j st ⟨i,hij,hs2⟩
   refine zu hs2 ?_
   clear hs2
   have htk:=zAC (fun i => Lib.itoa (gD (f.f 7).l i).n) i
   by_cases hi : i < (f.f 7).l.length
   . have f0 : decide ((i : Int) < ((f.f 7).l.length : Nat)) = true:=decide_eq_true (by omega)
     have hx:=zHQ (gD (f.f 7).l i).n (h.na i hi).1 (h.na i hi).2
     repeat' (first
|apply zK
 . conv => lhs; whnf
 . assumption
|refine zB ?_
|refine zC ?_
|refine zQ ?_
|refine zU ?_
|apply aw_1
 conv => whnf
 refine ⟨?_,trivial⟩
|apply s_1
 conv => whnf; arg 1; arg 4; arg 3; whnf
 refine ⟨?_,?_⟩
|apply zl rfl
 . conv => lhs; whnf
 . conv => lhs; whnf
 . first | exact hx
|apply zCC rfl rfl
 . conv => lhs; whnf
 . first | exact zAK | (conv => lhs; whnf; arg 1; whnf)
 . first | exact fun _ => rfl | (intro _; kernel_rfl)
 . conv => lhs; whnf
 . conv => lhs; whnf; arg 1; whnf
 . conv => lhs; whnf
|apply zBQ rfl rfl
 . conv => lhs; whnf
 . first | exact zAK | (conv => lhs; whnf; arg 1; whnf)
 . conv => lhs; whnf; arg 1; whnf
 . rfl
 . rfl
|exact trivial)
     all_goals first
      | exact zo (by omega)
      | exact at31 hi
      | exact zBZ (by omega) (by omega)
      | skip
     refine zF (j':=j - 1) (by omega) ⟨i + 1,by omega,Sub.live ⟨rfl,rfl,rfl,?_,rfl,rfl,rfl,trivial⟩ ⟨rfl,rfl,rfl,?_,trivial⟩⟩
     . show V.own 51 _ (zq _ i ++ [.str (bs _)]) = _
       rw [zr]
     . show some (Res.tok _ ((zq _ i).length + 1)) = _
       rw [zr,List.length_append]; rfl
   . have f0 : decide ((i : Int) < ((f.f 7).l.length : Nat)) = false:=decide_eq_false (by omega)
     obtain rfl : i = (f.f 7).l.length:=by omega
     have hp : 0 < (f.f 7).l.length:=by have hb : decide ((((f.f 7).l.length : Nat) : Int) > 0) = true:=hb; have:=of_decide_eq_true hb; omega
     repeat' (first
|apply s_ws rfl
 . conv => lhs; whnf
 . conv => lhs; whnf
 . rfl
 . conv => lhs; whnf; arg 1; whnf
 . rfl
|apply zM
 . conv => lhs; whnf
 . assumption
|refine zBB ?_
|refine zB ?_
|refine zC ?_
|refine zQ ?_
|apply aw_1
 conv => whnf
 refine ⟨?_,trivial⟩
|apply s_1
 conv => whnf; arg 1; arg 4; arg 3; whnf
 refine ⟨?_,?_⟩
|apply zl rfl
 . conv => lhs; whnf
 . conv => lhs; whnf
 . first | exact hja
|refine zI ?_
|refine zE rfl ?_
|refine zG ?_
|exact trivial)
     . refine Sub.live ⟨rfl,rfl,rfl,trivial⟩ ⟨rfl,rfl,?_,trivial⟩
       rw [eA,if_neg (by omega)]
       rfl
     all_goals (simp only [ByteArray.size_append,zS,zT,List.size_toArray,List.length_append,List.length_cons,List.length_nil,maxLen,Nat.reduceAdd,Int.toNat_natCast]; omega)
 . exact (show (f.f 7).l.length <= maxLen /\ (f.f 7).l.length * 16 <= 140737488355328 from ⟨by unfold maxLen; omega,by omega⟩)
 . have hp : (f.f 7).l.length = 0:=by have hb : decide ((((f.f 7).l.length : Nat) : Int) > 0) = false:=hb; have:=of_decide_eq_false hb; omega
   rw [eA,if_pos hp,List.append_nil]
   exact Sub.live ⟨rfl,rfl,rfl,trivial⟩ ⟨rfl,rfl,rfl,trivial⟩
 . refine zv (fun j st => ∃ i,i + j = (f.f 2).l.length /\ Sub (cx EN Tryz.prog s w he) st (HdP31 s0 f (T1 ++ zBx (f.f 7).l) i)) (f.f 2).l.length ⟨0,by omega,Sub.live ⟨rfl,rfl,rfl,rfl,rfl,rfl,rfl,trivial⟩ ⟨rfl,rfl,rfl,rfl,trivial⟩⟩ ?_
   rintro j st ⟨i,hij,hs2⟩
   refine zu hs2 ?_
   clear hs2
   have htk:=zAC (fun i => hopT (gD (f.f 2).l i)) i
   by_cases hi : i < (f.f 2).l.length
   . have f0 : decide ((i : Int) < ((f.f 2).l.length : Nat)) = true:=decide_eq_true (by omega)
     have hsz:=h.sp i hi
     repeat' (first
|apply zK
 . conv => lhs; whnf
 . assumption
|refine zB ?_
|refine zC ?_
|refine zQ ?_
|refine zU ?_
|apply aw_1
 conv => whnf
 refine ⟨?_,trivial⟩
|apply s_1
 conv => whnf; arg 1; arg 4; arg 3; whnf
 refine ⟨?_,?_⟩
|apply zz rfl rfl rfl
 . conv => lhs; whnf
 . conv => lhs; whnf; arg 1; whnf
 . conv => lhs; whnf; arg 1; whnf
 . exact ⟨by kernel_rfl,by kernel_rfl⟩
 . rfl
|apply zCC rfl rfl
 . conv => lhs; whnf
 . first | exact zAK | (conv => lhs; whnf; arg 1; whnf)
 . first | exact fun _ => rfl | (intro _; kernel_rfl)
 . conv => lhs; whnf
 . conv => lhs; whnf; arg 1; whnf
 . conv => lhs; whnf
|apply zBQ rfl rfl
 . conv => lhs; whnf
 . first | exact zAK | (conv => lhs; whnf; arg 1; whnf)
 . conv => lhs; whnf; arg 1; whnf
 . rfl
 . rfl
|exact trivial)
     all_goals first
      | exact zo (by omega)
      | exact at31 hi
      | exact zBZ (by omega) (by omega)
      | ((simp only [ByteArray.size_append,zS,zT,List.size_toArray,List.length_append,List.length_cons,List.length_nil,maxLen,Nat.reduceAdd,Int.toNat_natCast]; omega); done)
      | skip
     refine zF (j':=j - 1) (by omega) ⟨i + 1,by omega,Sub.live ⟨rfl,rfl,rfl,?_,rfl,rfl,rfl,trivial⟩ ⟨rfl,rfl,rfl,?_,trivial⟩⟩
     . rw [zr]
       refine congrArg (fun b => V.own 76 _ (zq _ i ++ [.str b])) ?_
       show ((gD (f.f 2).l i).f 0).s ++ (⟨#[46]⟩ : ByteArray) ++ ((gD (f.f 2).l i).f 1).s = bs (hopT _)
       unfold hopT
       rw [<- zR,<- zR,zA4,zA4]
       rfl
     . show some (Res.tok _ ((zq _ i).length + 1)) = _
       rw [zr,List.length_append]; rfl
   . have f0 : decide ((i : Int) < ((f.f 2).l.length : Nat)) = false:=decide_eq_false (by omega)
     obtain rfl : i = (f.f 2).l.length:=by omega
     have hp : 0 < (f.f 2).l.length:=by have hb : decide ((((f.f 2).l.length : Nat) : Int) > 0) = true:=hb; have:=of_decide_eq_true hb; omega
     repeat' (first
|apply zBT 13 ([(5,[4]),(9,[4])]) ([(12,[7])]) rfl (by kernel_rfl) (by kernel_rfl) (by kernel_rfl)
|apply zGf
|apply zGe rfl
 . conv => lhs; whnf
 . conv => lhs; whnf; arg 2; whnf
|apply zDt rfl
 . conv => lhs; whnf
 . conv => lhs; whnf
 . first | exact hjp | exact hjk
|apply zFw rfl
 . conv => lhs; whnf
 . conv => lhs; whnf
 . rfl
 . conv => lhs; whnf; arg 1; whnf
 . first | exact w2
 . exact fun _ => rfl
 . exact fun _ => rfl
 . rfl
|show inO _ _ = true; rfl
|apply zM
 . conv => lhs; whnf
 . assumption
|refine zBB ?_
|refine zB ?_
|refine zC ?_
|refine zQ ?_
|apply aw_1
 conv => whnf
 refine ⟨?_,trivial⟩
|apply s_1
 conv => whnf; arg 1; arg 4; arg 3; whnf
 refine ⟨?_,?_⟩
|refine zI ?_
|refine zE rfl ?_
|refine zG ?_
|exact trivial)
     . refine Sub.live ⟨rfl,rfl,rfl,trivial⟩ ⟨rfl,rfl,?_,trivial⟩
       rw [eP,if_neg (by omega)]
       rfl
     all_goals (simp only [ByteArray.size_append,zS,zT,List.size_toArray,List.length_append,List.length_cons,List.length_nil,maxLen,Nat.reduceAdd,Int.toNat_natCast]; omega)
 . exact (show (f.f 2).l.length <= maxLen /\ (f.f 2).l.length * 16 <= 140737488355328 from ⟨by unfold maxLen; omega,by omega⟩)
 . have hp : (f.f 2).l.length = 0:=by have hb : decide ((((f.f 2).l.length : Nat) : Int) > 0) = false:=hb; have:=of_decide_eq_false hb; omega
   rw [eP,if_pos hp,List.append_nil]
   exact Sub.live ⟨rfl,rfl,rfl,trivial⟩ ⟨rfl,rfl,rfl,trivial⟩
 . simp only [List.length_append,maxLen]
   show _ + _ + _ + 1 <= _
   omega
 . simp only [List.length_append]
   show _ + _ + _ + 1 <= _
   omega
theorem zDQ (f : D -> List UInt8) (l : List D) (sep : List UInt8) {i : Nat} (h : i < l.length) : Lib.join ((l.map f).take (i + 1)) sep = if 0 < i then Lib.join ((l.map f).take i) sep ++ sep ++ f (gD l i) else f (gD l i):=by
 have hx : (l.map f)[i]? = some (f (gD l i)):=by rw [List.getElem?_map,List.getElem?_eq_getElem h,zAt h]; rfl
 rw [List.take_add_one,hx]
 by_cases h0 : 0 < i
 . rw [if_pos h0]
   exact zCg _ _ _ (fun e => by have h2:=congrArg List.length e; rw [List.length_take,List.length_map] at h2; simp only [List.length_nil] at h2; omega)
 . rw [if_neg h0]
   have : i = 0:=by omega
   subst this
   exact Lib.join_one _ _
def afterP (l : List D) (i : Nat) : List UInt8:=if i = 0 then [] else [44,32,97,102,116,101,114,32] ++ Lib.join ((l.map fun d => Lib.itoa d.n).take i) [32]
def zFs (l : List D) (i : Nat) : List UInt8:=if i = 0 then [] else [44,32,97,116,32] ++ Lib.join ((l.map hopT).take i) [47]
theorem afterP_end (l : List D) : afterP l l.length = zBx l:=by
 unfold afterP zBx
 split
 . rfl
 . rw [List.take_of_length_le (by rw [List.length_map]; exact Nat.le_refl _)]
theorem zEr {l : List D} {i : Nat} (h : i < l.length) : afterP l (i + 1) = afterP l i ++ (if i = 0 then [44,32,97,102,116,101,114] else []) ++ [32] ++ Lib.itoa (gD l i).n:=by
 unfold afterP
 rw [if_neg (by omega),zDQ _ _ _ h]
 by_cases h0 : i = 0
 . rw [if_pos h0,if_pos h0,if_neg (by omega)]; simp
 . rw [if_neg h0,if_neg h0,if_pos (by omega)]; simp
theorem zFG {l : List D} {i : Nat} (h : i < l.length) : zFs l (i + 1) = zFs l i ++ (if i = 0 then [44,32,97,116,32] else [47]) ++ hopT (gD l i):=by
 unfold zFs
 rw [if_neg (by omega),zDQ _ _ _ h]
 by_cases h0 : i = 0
 . rw [if_pos h0,if_pos h0,if_neg (by omega)]; simp
 . rw [if_neg h0,if_neg h0,if_pos (by omega)]; simp
theorem zB6 (ls : List (List UInt8)) (sep : List UInt8) {B : Nat} (h : (Lib.join ls sep).length <= B) (i : Nat) : (Lib.join (ls.take i) sep).length <= B:=Nat.le_trans (zDR ls sep i) h
noncomputable def HlG (s f : D) (t : List UInt8) : Vst 123:=
 stS 123 [(3,.bx 3 0),(5,.bx 5 0),(7,.c (.string (bs t)))] [(3,.box 29 (cellsV Tryz.prog 12 29 s)),(5,.box 34 (cellsV Tryz.prog 12 34 f))]
noncomputable def HlA (s f : D) (t : List UInt8) (i : Nat) : Vst 123:=
 stS 123 [(3,.bx 3 0),(5,.bx 5 0),(7,.c (.string (bs t))),(8,.c (.int .i64 (i : Int)))] [(3,.box 29 (cellsV Tryz.prog 12 29 s)),(5,.box 34 (cellsV Tryz.prog 12 34 f))]
noncomputable def HlP (s f : D) (t : List UInt8) (i : Nat) : Vst 123:=
 stS 123 [(3,.bx 3 0),(5,.bx 5 0),(7,.c (.string (bs t))),(9,.c (.int .i64 (i : Int)))] [(3,.box 29 (cellsV Tryz.prog 12 29 s)),(5,.box 34 (cellsV Tryz.prog 12 34 f))]
noncomputable def HlK (s f : D) (t : List UInt8) (i : Nat) : Vst 123:=
 stS 123 [(3,.bx 3 0),(5,.bx 5 0),(7,.c (.string (bs t))),(10,.c (.int .i64 (i : Int)))] [(3,.box 29 (cellsV Tryz.prog 12 29 s)),(5,.box 34 (cellsV Tryz.prog 12 34 f))]
theorem zCR {a b : ByteArray} (h : tx a = tx b) : V.c (.string a) = V.c (.string b):=by rw [<- zA4 a,<- zA4 b,h]
theorem afterP_len (l : List D) (h : (Lib.join (l.map fun d => Lib.itoa d.n) [32]).length <= 100000000) (i : Nat) : (afterP l i).length <= 100000010:=by
 unfold afterP
 split
 . simp
 . have:=zB6 _ _ h i
   simp only [List.length_append,List.length_cons,List.length_nil]; omega
theorem hopsP_len (l : List D) (h : (Lib.join (l.map hopT) [47]).length <= 100000000) (i : Nat) : (zFs l i).length <= 100000010:=by
 unfold zFs
 split
 . simp
 . have:=zB6 _ _ h i
   simp only [List.length_append,List.length_cons,List.length_nil]; omega
theorem zero_b {i : Nat} (h : i = 0) : (((i : Nat) : Int) == 0) = true:=by rw [h]; rfl
theorem zG2 {i : Nat} (h : ¬ i = 0) : (((i : Nat) : Int) == 0) = false:=by rw [beq_eq_false_iff_ne]; omega
theorem ln31R_ac (s0 f : D) (i0 : Int) (hi0 : i64D i0) (h : FetOk (s0.f 0).l f) : AC EN Tryz.prog 50 [.agg (cellsV Tryz.prog 12 29 s0),.c (.int .i64 i0),.agg (cellsV Tryz.prog 12 34 f)] (.c (.string (bs (zC1 (s0.f 0).l i0 f)))):=by
 have hd1:=zCJ i0 hi0.1 hi0.2
 have hd2:=zCJ (f.f 1).n h.nd.1 h.nd.2
 have z1:=zAs i0 hi0.1 hi0.2
 have z2:=zAs (f.f 1).n h.nd.1 h.nd.2
 have zg:=zEc h (f.f 0).n
 have hlp:=h.lp
 have hla:=h.la
 have hlk:=h.lk
 have hst:=h.st
 have zj:=fun i => zB6 _ _ h.aj i
 have zp:=fun i => zB6 _ _ h.pj i
 have zk : ∀ i,(Lib.join ((txs (f.f 4).l).take i) [32]).length <= 100000000:=fun i => zB6 _ _ h.kj i
 generalize hG : zB7 (s0.f 0).l (f.f 0).n = g at *
 have e1 : hd31 (s0.f 0).l i0 f = ftT ++ Lib.itoa i0 ++ [58,32] ++ g ++ [44,32,100,101,112,116,104,32] ++ Lib.itoa (f.f 1).n:=by unfold hd31; rw [hG]
 have zt : (ftT ++ Lib.itoa i0 ++ [58,32] ++ g).length <= 1100000:=by simp only [ftT,List.length_append,List.length_cons,List.length_nil]; omega
 have zT1 : (hd31 (s0.f 0).l i0 f).length <= 1200000:=by
  rw [e1]
  simp only [List.length_append,List.length_cons,List.length_nil] at zt |-
  omega
 rw [zIF]
 generalize hT1 : hd31 (s0.f 0).l i0 f = T1 at *
 refine zO 123 Tryz.func50 rfl rfl rfl rfl ?_
 intro s w he
 repeat' (first
|apply zAv 5 (HlG s0 f (ftT ++ Lib.itoa i0 ++ [58,32] ++ g)) rfl
|refine zBB ?_
|refine zB ?_
|refine zC ?_
|refine zQ ?_
|apply aw_1
 conv => whnf
 refine ⟨?_,trivial⟩
|apply ze rfl rfl
 . conv => lhs; whnf
 . conv => lhs; whnf
 . first | exact bT1 ‹_› | exact bT2 ‹_›
|apply zm rfl rfl
 . conv => lhs; whnf
 . conv => lhs; whnf
 . first | exact bF1 ‹_› | exact bF2 ‹_›
|apply s_1
 conv => whnf; arg 1; arg 4; arg 3; whnf
 refine ⟨?_,?_⟩
|apply zl rfl
 . conv => lhs; whnf
 . conv => lhs; whnf
 . first | exact hd1 | exact hd2
|apply zAN rfl rfl rfl rfl
 . conv => lhs; whnf; arg 1; whnf
 . rfl
|apply zJ rfl
 . conv => lhs; whnf
 . conv => lhs; whnf
 . first | rfl | assumption
 . conv => lhs; whnf; arg 2; whnf
|apply zAA rfl
 . conv => lhs; whnf
 . conv => lhs; whnf
 . first | rfl | assumption
|apply zW rfl
 . conv => lhs; whnf
 . conv => lhs; whnf
 . conv => lhs; whnf; arg 2; whnf
|refine zV (by conv => lhs; whnf) ?_ ?_ <;> intro hb
|exact trivial
|intro hg)
 . refine Sub.live ⟨rfl,rfl,zCR ?_,trivial⟩ ⟨rfl,rfl,trivial⟩
   have q0 : 0 <= (f.f 0).n:=by simpa using hg
   simp only [zY,zAS,<- hG]
   unfold zB7
   rw [if_pos ⟨q0,of_decide_eq_true hb⟩]
   rfl
 . have q0 : 0 <= (f.f 0).n:=by simpa using hg
   have q1:=of_decide_eq_true hb
   have q2:=h.sg ((f.f 0).n).toNat (by omega)
   (simp only [ByteArray.size_append,zS,zT,List.size_toArray,List.length_append,List.length_cons,List.length_nil,maxLen,Nat.reduceAdd,Int.toNat_natCast]; omega)
 . exact ⟨by simpa using hg,of_decide_eq_true hb⟩
 . refine Sub.live ⟨rfl,rfl,zCR ?_,trivial⟩ ⟨rfl,rfl,trivial⟩
   have q1:=of_decide_eq_false hb
   simp only [zY,zAS,<- hG]
   unfold zB7
   rw [if_neg (fun q => q1 q.2)]
   rfl
 . (simp only [ByteArray.size_append,zS,zT,List.size_toArray,List.length_append,List.length_cons,List.length_nil,maxLen,Nat.reduceAdd,Int.toNat_natCast]; omega)
 . refine Sub.live ⟨rfl,rfl,zCR ?_,trivial⟩ ⟨rfl,rfl,trivial⟩
   have q1 : ¬ 0 <= (f.f 0).n:=by simpa using hg
   simp only [zY,zAS,<- hG]
   unfold zB7
   rw [if_neg (fun q => q1 q.1)]
   rfl
 . (simp only [ByteArray.size_append,zS,zT,List.size_toArray,List.length_append,List.length_cons,List.length_nil,maxLen,Nat.reduceAdd,Int.toNat_natCast]; omega)
 rotate_left 1
 . rw [ByteArray.size_append,zS,zS,zT]
   show _ + 8 + _ <= maxLen
   unfold maxLen
   omega
 . rw [zS,zT]
   show _ + 8 <= maxLen
   unfold maxLen
   omega
 . (simp only [ByteArray.size_append,zS,zT,List.size_toArray,List.length_append,List.length_cons,List.length_nil,maxLen,Nat.reduceAdd,Int.toNat_natCast]; omega)
 . (simp only [ByteArray.size_append,zS,zT,List.size_toArray,List.length_append,List.length_cons,List.length_nil,maxLen,Nat.reduceAdd,Int.toNat_natCast]; omega)
 have htl:=zAP (f.f 3).s
 have zA:=afterP_len (f.f 7).l h.aj
 have zH:=hopsP_len (f.f 2).l h.pj
 refine zv (fun j st => ∃ i,i + j = (f.f 7).l.length /\ Sub (cx EN Tryz.prog s w he) st (HlA s0 f (T1 ++ afterP (f.f 7).l i) i)) (f.f 7).l.length ⟨0,by omega,Sub.live ⟨rfl,rfl,zCR (by
  rw [e1]
  simp only [zY,zAS,show afterP (f.f 7).l 0 = [] from rfl,List.append_nil,List.append_assoc]
  rfl),rfl,trivial⟩ ⟨rfl,rfl,trivial⟩⟩ ?_
 rintro j st ⟨i,hij,hs2⟩
 refine zu hs2 ?_
 clear hs2
 have zi:=zA i
 by_cases hi : i < (f.f 7).l.length
 . have f0 : decide ((i : Int) < ((f.f 7).l.length : Nat)) = true:=decide_eq_true (by omega)
   have hx:=zCJ (gD (f.f 7).l i).n (h.na i hi).1 (h.na i hi).2
   have zx:=zAs (gD (f.f 7).l i).n (h.na i hi).1 (h.na i hi).2
   by_cases h0 : i = 0
   . have f1:=zero_b h0
     repeat' (first
|apply zK
 . conv => lhs; whnf
 . assumption
|refine zB ?_
|refine zC ?_
|refine zQ ?_
|refine zU ?_
|apply aw_1
 conv => whnf
 refine ⟨?_,trivial⟩
|apply s_1
 conv => whnf; arg 1; arg 4; arg 3; whnf
 refine ⟨?_,?_⟩
|apply zl rfl
 . conv => lhs; whnf
 . conv => lhs; whnf
 . first | exact hx
|exact trivial)
     all_goals first
      | exact zo (by omega)
      | exact at31 hi
      | ((simp only [ByteArray.size_append,zS,zT,List.size_toArray,List.length_append,List.length_cons,List.length_nil,maxLen,Nat.reduceAdd,Int.toNat_natCast]; omega); done)
      | skip
     refine zF (j':=j - 1) (by omega) ⟨i + 1,by omega,Sub.live ⟨rfl,rfl,zCR ?_,rfl,trivial⟩ ⟨rfl,rfl,trivial⟩⟩
     rw [zEr hi,if_pos h0]
     simp only [zY,zAS,List.append_assoc]
     rfl
   . have f1:=zG2 h0
     repeat' (first
|apply zK
 . conv => lhs; whnf
 . assumption
|apply zM
 . conv => lhs; whnf
 . assumption
|refine zB ?_
|refine zC ?_
|refine zQ ?_
|refine zU ?_
|apply aw_1
 conv => whnf
 refine ⟨?_,trivial⟩
|apply s_1
 conv => whnf; arg 1; arg 4; arg 3; whnf
 refine ⟨?_,?_⟩
|apply zl rfl
 . conv => lhs; whnf
 . conv => lhs; whnf
 . first | exact hx
|exact trivial)
     all_goals first
      | exact zo (by omega)
      | exact at31 hi
      | ((simp only [ByteArray.size_append,zS,zT,List.size_toArray,List.length_append,List.length_cons,List.length_nil,maxLen,Nat.reduceAdd,Int.toNat_natCast]; omega); done)
      | skip
     refine zF (j':=j - 1) (by omega) ⟨i + 1,by omega,Sub.live ⟨rfl,rfl,zCR ?_,rfl,trivial⟩ ⟨rfl,rfl,trivial⟩⟩
     rw [zEr hi,if_neg h0]
     simp only [zY,zAS,List.append_assoc,List.nil_append]
     rfl
 have f0 : decide ((i : Int) < ((f.f 7).l.length : Nat)) = false:=decide_eq_false (by omega)
 obtain rfl : i = (f.f 7).l.length:=by omega
 have eA:=afterP_end (f.f 7).l
 generalize afterP (f.f 7).l (f.f 7).l.length = A at *
 by_cases hp : (f.f 2).l.length = 0
 . have f1:=zero_b hp
   repeat' (first
|apply zK
 . conv => lhs; whnf
 . assumption
|apply zM
 . conv => lhs; whnf
 . assumption
|refine zB ?_
|refine zC ?_
|refine zQ ?_
|apply aw_1
 conv => whnf
 refine ⟨?_,trivial⟩
|apply s_1
 conv => whnf; arg 1; arg 4; arg 3; whnf
 refine ⟨?_,?_⟩
|refine zI ?_
|refine zN ?_
|refine zE rfl ?_
|refine zG ?_
|refine zD ?_
|refine ⟨_,by conv => lhs; whnf; arg 2; whnf,?_⟩; conv => rhs; whnf
|exact trivial)
   . refine zCR ?_
     rw [<- eA]
     unfold zEW
     rw [if_pos hp]
     simp only [zY,zAS,List.append_assoc,List.nil_append]
     rfl
   all_goals (simp only [ByteArray.size_append,zS,zT,List.size_toArray,List.length_append,List.length_cons,List.length_nil,maxLen,Nat.reduceAdd,Int.toNat_natCast]; omega)
 have f1:=zG2 hp
 repeat' (first
|apply zM
 . conv => lhs; whnf
 . assumption
|refine zB ?_
|refine zC ?_
|refine zQ ?_
|apply aw_1
 conv => whnf
 refine ⟨?_,trivial⟩
|apply s_1
 conv => whnf; arg 1; arg 4; arg 3; whnf
 refine ⟨?_,?_⟩
|refine zI ?_
|refine zE rfl ?_
|refine zG ?_
|exact trivial)
 refine zv (fun j st => ∃ i,i + j = (f.f 2).l.length /\ Sub (cx EN Tryz.prog s w he) st (HlP s0 f (T1 ++ A ++ zFs (f.f 2).l i) i)) (f.f 2).l.length ⟨0,by omega,Sub.live ⟨rfl,rfl,zCR (by
  simp only [zY,zAS,show zFs (f.f 2).l 0 = [] from rfl,List.append_nil]),rfl,trivial⟩ ⟨rfl,rfl,trivial⟩⟩ ?_
 rintro j2 st2 ⟨i,hij2,hs2⟩
 refine zu hs2 ?_
 clear hs2
 have zhi:=zH i
 by_cases hi : i < (f.f 2).l.length
 . have g0 : decide ((i : Int) < ((f.f 2).l.length : Nat)) = true:=decide_eq_true (by omega)
   have hsz:=h.sp i hi
   by_cases h0 : i = 0
   . have g1:=zero_b h0
     repeat' (first
|apply zK
 . conv => lhs; whnf
 . assumption
|refine zB ?_
|refine zC ?_
|refine zQ ?_
|refine zU ?_
|apply aw_1
 conv => whnf
 refine ⟨?_,trivial⟩
|apply s_1
 conv => whnf; arg 1; arg 4; arg 3; whnf
 refine ⟨?_,?_⟩
|apply zAJ (by kernel_rfl) (by kernel_rfl)
|apply zAx
|apply zAw rfl
 . conv => lhs; whnf
 . conv => lhs; whnf; arg 2; whnf
|exact zd
|exact zy
|exact (1000000 : Nat)
|exact trivial)
     all_goals first
      | exact zo (by omega)
      | exact at31 hi
      | ((simp only [ByteArray.size_append,zS,zT,List.size_toArray,List.length_append,List.length_cons,List.length_nil,maxLen,Nat.reduceAdd,Int.toNat_natCast]; omega); done)
      | skip
     refine zF (j':=j2 - 1) (by omega) ⟨i + 1,by omega,Sub.live ⟨rfl,rfl,zCR ?_,rfl,trivial⟩ ⟨rfl,rfl,trivial⟩⟩
     rw [zFG hi,if_pos h0]
     unfold hopT
     simp only [zY,zAS,List.append_assoc]
     rfl
   . have g1:=zG2 h0
     repeat' (first
|apply zK
 . conv => lhs; whnf
 . assumption
|apply zM
 . conv => lhs; whnf
 . assumption
|refine zB ?_
|refine zC ?_
|refine zQ ?_
|refine zU ?_
|apply aw_1
 conv => whnf
 refine ⟨?_,trivial⟩
|apply s_1
 conv => whnf; arg 1; arg 4; arg 3; whnf
 refine ⟨?_,?_⟩
|apply zAJ (by kernel_rfl) (by kernel_rfl)
|apply zAx
|apply zAw rfl
 . conv => lhs; whnf
 . conv => lhs; whnf; arg 2; whnf
|exact zd
|exact zy
|exact (1000000 : Nat)
|exact trivial)
     all_goals first
      | exact zo (by omega)
      | exact at31 hi
      | ((simp only [ByteArray.size_append,zS,zT,List.size_toArray,List.length_append,List.length_cons,List.length_nil,maxLen,Nat.reduceAdd,Int.toNat_natCast]; omega); done)
      | skip
     refine zF (j':=j2 - 1) (by omega) ⟨i + 1,by omega,Sub.live ⟨rfl,rfl,zCR ?_,rfl,trivial⟩ ⟨rfl,rfl,trivial⟩⟩
     rw [zFG hi,if_neg h0]
     unfold hopT
     simp only [zY,zAS,List.append_assoc]
     rfl
 have g0 : decide ((i : Int) < ((f.f 2).l.length : Nat)) = false:=decide_eq_false (by omega)
 obtain rfl : i = (f.f 2).l.length:=by omega
 repeat' (first
|apply zM
 . conv => lhs; whnf
 . assumption
|refine zB ?_
|refine zC ?_
|refine zQ ?_
|apply aw_1
 conv => whnf
 refine ⟨?_,trivial⟩
|apply s_1
 conv => whnf; arg 1; arg 4; arg 3; whnf
 refine ⟨?_,?_⟩
|refine zI ?_
|refine zE rfl ?_
|refine zG ?_
|exact trivial)
 refine zv (fun j st => ∃ i,i + j = (f.f 4).l.length /\ Sub (cx EN Tryz.prog s w he) st (HlK s0 f (T1 ++ A ++ zFs (f.f 2).l (f.f 2).l.length ++ [44,32,102,111,114,32] ++ tx (f.f 3).s ++ [44,32,98,121,32] ++ Lib.join ((txs (f.f 4).l).take i) [32]) i)) (f.f 4).l.length ⟨0,by omega,Sub.live ⟨rfl,rfl,zCR (by
  simp only [zY,zAS,List.take_zero,Lib.join_nil,List.append_nil]
  rfl),rfl,trivial⟩ ⟨rfl,rfl,trivial⟩⟩ ?_
 . rintro j3 st3 ⟨i,hij3,hs2⟩
   refine zu hs2 ?_
   clear hs2
   have zki:=zk i
   have zh:=zH (f.f 2).l.length
   by_cases hi : i < (f.f 4).l.length
   . have g1 : decide ((i : Int) < ((f.f 4).l.length : Nat)) = true:=decide_eq_true (by omega)
     have hkx : (gD (f.f 4).l i).s.size <= 100000000:=by
      have hm2:=zk (i + 1)
      rw [zAu _ _ hi] at hm2
      have:=zAP (gD (f.f 4).l i).s
      split at hm2
      . simp only [List.length_append] at hm2; omega
      . omega
     by_cases h0 : 0 < i
     . have g2 : decide ((i : Int) > 0) = true:=decide_eq_true (by omega)
       repeat' (first
|apply zK
 . conv => lhs; whnf
 . assumption
|refine zB ?_
|refine zC ?_
|refine zQ ?_
|refine zU ?_
|apply aw_1
 conv => whnf
 refine ⟨?_,trivial⟩
|apply s_1
 conv => whnf; arg 1; arg 4; arg 3; whnf
 refine ⟨?_,?_⟩
|exact trivial)
       all_goals first
        | exact zo (by omega)
        | exact at31 hi
        | ((simp only [ByteArray.size_append,zS,zT,List.size_toArray,List.length_append,List.length_cons,List.length_nil,maxLen,Nat.reduceAdd,Int.toNat_natCast]; omega); done)
        | (show _ + (gD (f.f 4).l i).s.size <= maxLen; (simp only [ByteArray.size_append,zS,zT,List.size_toArray,List.length_append,List.length_cons,List.length_nil,maxLen,Nat.reduceAdd,Int.toNat_natCast]; omega))
        | skip
       refine zF (j':=j3 - 1) (by omega) ⟨i + 1,by omega,Sub.live ⟨rfl,rfl,zCR ?_,rfl,trivial⟩ ⟨rfl,rfl,trivial⟩⟩
       rw [zAu _ _ hi,if_pos h0]
       simp only [zY,zAS,List.append_assoc]
       rfl
     . have g2 : decide ((i : Int) > 0) = false:=decide_eq_false (by omega)
       obtain rfl : i = 0:=by omega
       repeat' (first
|apply zK
 . conv => lhs; whnf
 . assumption
|apply zM
 . conv => lhs; whnf
 . assumption
|refine zB ?_
|refine zC ?_
|refine zQ ?_
|refine zU ?_
|apply aw_1
 conv => whnf
 refine ⟨?_,trivial⟩
|apply s_1
 conv => whnf; arg 1; arg 4; arg 3; whnf
 refine ⟨?_,?_⟩
|exact trivial)
       all_goals first
        | exact zo (by omega)
        | exact at31 hi
        | ((simp only [ByteArray.size_append,zS,zT,List.size_toArray,List.length_append,List.length_cons,List.length_nil,maxLen,Nat.reduceAdd,Int.toNat_natCast]; omega); done)
        | (show _ + (gD (f.f 4).l 0).s.size <= maxLen; (simp only [ByteArray.size_append,zS,zT,List.size_toArray,List.length_append,List.length_cons,List.length_nil,maxLen,Nat.reduceAdd,Int.toNat_natCast]; omega))
        | skip
       refine zF (j':=j3 - 1) (by omega) ⟨0 + 1,by omega,Sub.live ⟨rfl,rfl,zCR ?_,rfl,trivial⟩ ⟨rfl,rfl,trivial⟩⟩
       rw [zAu _ _ hi,if_neg h0]
       simp only [zY,zAS,List.append_assoc,List.take_zero,Lib.join_nil,List.append_nil,List.nil_append]
       rfl
   . have g1 : decide ((i : Int) < ((f.f 4).l.length : Nat)) = false:=decide_eq_false (by omega)
     have hlt : (txs (f.f 4).l).take i = txs (f.f 4).l:=List.take_of_length_le (by rw [zG6]; omega)
     repeat' (first
|apply zM
 . conv => lhs; whnf
 . assumption
|refine zB ?_
|refine zC ?_
|refine zQ ?_
|apply aw_1
 conv => whnf
 refine ⟨?_,trivial⟩
|apply s_1
 conv => whnf; arg 1; arg 4; arg 3; whnf
 refine ⟨?_,?_⟩
|refine zI ?_
|refine zE rfl ?_
|refine zG ?_
|refine zD ?_
|refine ⟨_,by conv => lhs; whnf; arg 2; whnf,?_⟩; conv => rhs; whnf
|exact trivial)
     . refine zCR ?_
       rw [<- eA]
       unfold zEW zFs
       rw [if_neg hp,if_neg hp,hlt,List.take_of_length_le (by rw [List.length_map]; exact Nat.le_refl _)]
       simp only [zY,zAS,List.append_assoc]
       rfl
     all_goals (simp only [ByteArray.size_append,zS,zT,List.size_toArray,List.length_append,List.length_cons,List.length_nil,maxLen,Nat.reduceAdd,Int.toNat_natCast]; omega)
 all_goals
  have zh:=zH (f.f 2).l.length
  (simp only [ByteArray.size_append,zS,zT,List.size_toArray,List.length_append,List.length_cons,List.length_nil,maxLen,Nat.reduceAdd,Int.toNat_natCast]; omega)
end Go.Proofs.YthjiclhfhjdjpaaGreatDoor
namespace Go.Proofs.YthjiclhfhjdjpaaGreatDoor
open Go.RowKit
set_option linter.unusedSectionVars false
attribute [local irreducible] wpList Calls Code.wp AW AWo OpOk seqK zAf zAh loopK endK AC zAD Yld Sub
attribute [local irreducible] ACB ACX absLexG YldG
theorem zGl (s : List UInt8) {a b : Nat} (ha : a <= b) (hb : b <= s.length) : (bs s).extract a b = bs ((s.drop a).take (b - a)):=by
 apply ByteArray.ext
 rw [ByteArray.data_extract]
 apply Array.ext'
 rw [Array.toList_extract,zCb,zCb]
section
variable {s : List UInt8} {i : Nat} (hi : i < s.length) (hs : s.length <= 70000)
include hi hs
end
end Go.Proofs.YthjiclhfhjdjpaaGreatDoor
namespace Go.Proofs.YthjiclhfhjdjpaaGreatDoor
open Go.RowKit
set_option linter.unusedSectionVars false
attribute [local irreducible] wpList Calls Code.wp AW AWo OpOk seqK zAf zAh loopK endK AC zAD Yld Sub
attribute [local irreducible] ACB ACX absLexG YldG absLexH
theorem bff_of {b : Bool} (h : b = false) : (b == false) = true:=by rw [h]; rfl
theorem bft_of {b : Bool} (h : b = true) : (b == false) = false:=by rw [h]; rfl
theorem zHZ {t : List UInt8} {i : Nat} (h : i < t.length) : t.drop i = t[i] :: t.drop (i + 1):=List.drop_eq_getElem_cons h
theorem zF4 {t : List UInt8} {fr i : Nat} (hf : fr <= i) (h : i < t.length) : (t.drop fr).take (i + 1 - fr) = (t.drop fr).take (i - fr) ++ [t[i]]:=by
 have hd : i - fr < (t.drop fr).length:=by rw [List.length_drop]; omega
 rw [show i + 1 - fr = (i - fr) + 1 by omega,List.take_add_one,List.getElem?_eq_getElem hd]
 simp [show fr + (i - fr) = i by omega]
noncomputable def HIn (t out : List UInt8) (fr i : Nat) : Vst 42:=
 stS 42 [(0,.c (.string (bs t))),(3,.c (.string (bs out))),(4,.c (.int .i64 (fr : Int))),(5,.c (.int .i64 (i : Int)))] []
theorem indR_ac (t : List UInt8) (ht : t.length <= 20000000000) : AC EN Tryz.prog 51 [.c (.string (bs t))] (.c (.string (bs (indT t)))):=by
 have hz:=zS t
 have hil:=zFr t []
 have hil : (indT t).length <= 4 * t.length + 3:=by simpa [indT] using hil
 refine zO 42 Tryz.func51 rfl rfl rfl rfl ?_
 intro s w he
 repeat' (first
|refine zB ?_
|refine zC ?_
|refine zQ ?_
|refine zU ?_
|refine zAT ?_
|apply aw_1
 conv => whnf
 refine ⟨?_,trivial⟩
|apply ze rfl rfl
 . conv => lhs; whnf
 . conv => lhs; whnf
 . first | exact bT1 ‹_› | exact bT2 ‹_›
|apply zm rfl rfl
 . conv => lhs; whnf
 . conv => lhs; whnf
 . first | exact bF1 ‹_› | exact bF2 ‹_›
|apply s_1
 conv => whnf; arg 1; arg 4; arg 3; whnf
 refine ⟨?_,?_⟩
|apply zAj rfl
 . conv => lhs; whnf
 . conv => lhs; whnf; arg 2; whnf
|apply zJ rfl
 . conv => lhs; whnf
 . conv => lhs; whnf
 . first | rfl | assumption
 . conv => lhs; whnf; arg 2; whnf
|apply zX rfl
 . conv => lhs; whnf
 . conv => lhs; whnf
 . first | rfl | assumption
 . conv => lhs; whnf
 . first | fail
|apply zDH rfl
 . conv => lhs; whnf
 . conv => lhs; whnf
 . first | rfl | assumption
|apply zAF rfl
 . conv => lhs; whnf
 . conv => lhs; whnf
 . conv => lhs; whnf; arg 2; whnf
|apply zAV rfl
 . conv => lhs; whnf
 . conv => lhs; whnf
 . conv => lhs; whnf
 . first | fail
|apply zw
 . conv => lhs; whnf; arg 1; arg 1; whnf
|apply z8
 . conv => lhs; whnf; arg 1; arg 1; whnf
|refine zV (by conv => lhs; whnf) ?_ ?_ <;> intro hb
|refine zAQ ?_
|refine zAO ?_
|refine zI ?_
|refine zN ?_
|refine zL ?_
|refine zE rfl ?_
|refine zb rfl ?_
|refine zf ?_
|refine zn ?_
|refine zG ?_
|refine za ?_
|refine zA7 ?_
|refine zD ?_
|refine ⟨_,by conv => lhs; whnf; arg 2; whnf,?_⟩; conv => rhs; whnf
|exact trivial
|intro hg)
 refine zv (fun j st => ∃ i fr out,i + j = t.length /\ fr <= i /\ (i = t.length -> fr = i) /\ out ++ indG ((t.drop fr).take (i - fr)) (t.drop i) = indT t /\ Sub (cx EN Tryz.prog s w he) st (HIn t out fr i)) t.length ⟨0,0,[],by omega,by omega,fun _ => rfl,rfl,Sub.live ⟨rfl,rfl,rfl,rfl,trivial⟩ trivial⟩ ?_
 rintro j st ⟨i,fr,out,hij,hf,hend,hR,hs2⟩
 refine zu hs2 ?_
 clear hs2
 have hol : out.length <= (indT t).length:=by rw [<- hR,List.length_append]; omega
 by_cases hi : i < t.length
 rotate_left 1
 . have f0 : decide ((i : Int) < ((bs t).size : Nat)) = false:=decide_eq_false (by omega)
   have hfr:=hend (by omega)
   have e : out = indT t:=by
    rw [hfr,Nat.sub_self,List.take_zero,List.drop_of_length_le (by omega)] at hR
    simpa [indG] using hR
   subst e
   repeat' (first
|apply zK
 . conv => lhs; whnf
 . assumption
|apply zM
 . conv => lhs; whnf
 . assumption
|refine zAM ?_
|refine zAE ?_
|refine zBB ?_
|refine zB ?_
|refine zC ?_
|refine zQ ?_
|refine zU ?_
|refine zAT ?_
|apply aw_1
 conv => whnf
 refine ⟨?_,trivial⟩
|apply ze rfl rfl
 . conv => lhs; whnf
 . conv => lhs; whnf
 . first | exact bT1 ‹_› | exact bT2 ‹_›
|apply zm rfl rfl
 . conv => lhs; whnf
 . conv => lhs; whnf
 . first | exact bF1 ‹_› | exact bF2 ‹_›
|apply s_1
 conv => whnf; arg 1; arg 4; arg 3; whnf
 refine ⟨?_,?_⟩
|apply zAj rfl
 . conv => lhs; whnf
 . conv => lhs; whnf; arg 2; whnf
|apply zJ rfl
 . conv => lhs; whnf
 . conv => lhs; whnf
 . first | rfl | assumption
 . conv => lhs; whnf; arg 2; whnf
|apply zX rfl
 . conv => lhs; whnf
 . conv => lhs; whnf
 . first | rfl | assumption
 . conv => lhs; whnf
 . first | fail
|apply zDH rfl
 . conv => lhs; whnf
 . conv => lhs; whnf
 . first | rfl | assumption
|apply zAF rfl
 . conv => lhs; whnf
 . conv => lhs; whnf
 . conv => lhs; whnf; arg 2; whnf
|apply zAV rfl
 . conv => lhs; whnf
 . conv => lhs; whnf
 . conv => lhs; whnf
 . first | fail
|apply zw
 . conv => lhs; whnf; arg 1; arg 1; whnf
|apply z8
 . conv => lhs; whnf; arg 1; arg 1; whnf
|refine zV (by conv => lhs; whnf) ?_ ?_ <;> intro hb
|refine zAQ ?_
|refine zAO ?_
|refine zI ?_
|refine zN ?_
|refine zL ?_
|refine zE rfl ?_
|refine zb rfl ?_
|refine zf ?_
|refine zn ?_
|refine zG ?_
|refine za ?_
|refine zA7 ?_
|refine zD ?_
|refine ⟨_,by conv => lhs; whnf; arg 2; whnf,?_⟩; conv => rhs; whnf
|exact trivial
|intro hg)
   all_goals exact (show Tryz.prog.underlying _ = some TypeDesc.string by kernel_rfl)
 have f0 : decide ((i : Int) < ((bs t).size : Nat)) = true:=decide_eq_true (by omega)
 have hbt:=byte_at hi
 have q : ∀ n : Nat,n < 256 -> (zB8 (bs t) ((i : Int)).toNat == (n : Int)) = (t[i] == UInt8.ofNat n):=fun n hn => by rw [hbt]; exact u8_eq _ n hn
 have q10:=q 10 (by omega)
 have hcl : ((t.drop fr).take (i - fr)).length = i - fr:=by rw [List.length_take,List.length_drop]; omega
 have x0 : (bs t).extract ((fr : Int)).toNat ((i : Int)).toNat = bs ((t.drop fr).take (i - fr)):=zGl t hf (by omega)
 have x1 : (bs t).extract ((fr : Int)).toNat (((i : Int) + 1)).toNat = bs ((t.drop fr).take (i - fr) ++ [t[i]]):=by
  rw [show (((i : Int) + 1)).toNat = i + 1 by omega,<- zF4 hf hi]
  exact zGl t (by omega) (by omega)
 rw [zHZ hi] at hR
 have hz0 : ((bs t).extract ((fr : Int)).toNat ((i : Int)).toNat).size = i - fr:=by rw [x0,zS,hcl]
 have hz1 : ((bs t).extract ((fr : Int)).toNat (((i : Int) + 1)).toNat).size = i - fr + 1:=by rw [x1,zS,List.length_append,hcl]; rfl
 by_cases h10 : t[i] = 10
 . have q1 : (zB8 (bs t) ((i : Int)).toNat == 10) = true:=q10.trans (by rw [h10]; rfl)
   have q2:=bft_of q1
   have q3 : (zB8 (bs t) ((i : Int)).toNat != 10) = false:=by show (!(zB8 (bs t) ((i : Int)).toNat == 10)) = false; rw [q1]; rfl
   repeat' (first
|apply s_wanted_pick_t rfl rfl rfl
 . conv => lhs; whnf
 . first | rfl | assumption
 . conv => lhs; whnf
 . first | exact bT1 ‹_› | exact bT2 ‹_› | rfl
|apply zAi rfl rfl rfl
 . conv => lhs; whnf
 . first | rfl | assumption
 . conv => lhs; whnf
 . first | exact bT1 ‹_› | exact bT2 ‹_› | rfl
|apply s_wanted_pick_f rfl rfl rfl
 . conv => lhs; whnf
 . first | rfl | assumption
 . conv => lhs; whnf
 . first | exact bF1 ‹_› | exact bF2 ‹_› | rfl
|apply zAg rfl rfl rfl
 . conv => lhs; whnf
 . first | rfl | assumption
 . conv => lhs; whnf
 . first | exact bF1 ‹_› | exact bF2 ‹_› | rfl
|apply zK
 . conv => lhs; whnf
 . assumption
|apply zM
 . conv => lhs; whnf
 . assumption
|refine zAM ?_
|refine zAE ?_
|refine zBB ?_
|refine zB ?_
|refine zC ?_
|refine zQ ?_
|refine zU ?_
|refine zAT ?_
|apply aw_1
 conv => whnf
 refine ⟨?_,trivial⟩
|apply ze rfl rfl
 . conv => lhs; whnf
 . conv => lhs; whnf
 . first | exact bT1 ‹_› | exact bT2 ‹_›
|apply zm rfl rfl
 . conv => lhs; whnf
 . conv => lhs; whnf
 . first | exact bF1 ‹_› | exact bF2 ‹_›
|apply s_1
 conv => whnf; arg 1; arg 4; arg 3; whnf
 refine ⟨?_,?_⟩
|apply zAj rfl
 . conv => lhs; whnf
 . conv => lhs; whnf; arg 2; whnf
|apply zJ rfl
 . conv => lhs; whnf
 . conv => lhs; whnf
 . first | rfl | assumption
 . conv => lhs; whnf; arg 2; whnf
|apply zX rfl
 . conv => lhs; whnf
 . conv => lhs; whnf
 . first | rfl | assumption
 . conv => lhs; whnf
 . first | fail
|apply zAA rfl
 . conv => lhs; whnf
 . conv => lhs; whnf
 . first | rfl | assumption
|apply zCU rfl
 . conv => lhs; whnf
 . rfl
 . rfl
|apply zW rfl
 . conv => lhs; whnf
 . conv => lhs; whnf
 . conv => lhs; whnf; arg 2; whnf
|apply zAa rfl
 . conv => lhs; whnf
 . conv => lhs; whnf
 . conv => lhs; whnf
 . first | fail
|apply zAF rfl
 . conv => lhs; whnf
 . conv => lhs; whnf
 . conv => lhs; whnf; arg 2; whnf
|apply zAV rfl
 . conv => lhs; whnf
 . conv => lhs; whnf
 . conv => lhs; whnf
 . first | fail
|apply zw
 . conv => lhs; whnf; arg 1; arg 1; whnf
|apply z8
 . conv => lhs; whnf; arg 1; arg 1; whnf
|refine zV (by conv => lhs; whnf) ?_ ?_ <;> intro hb
|refine zAQ ?_
|refine zAO ?_
|refine zI ?_
|refine zN ?_
|refine zL ?_
|refine zE rfl ?_
|refine zb rfl ?_
|refine zf ?_
|refine zn ?_
|refine zG ?_
|refine za ?_
|refine zA7 ?_
|refine zD ?_
|refine ⟨_,by conv => lhs; whnf; arg 2; whnf,?_⟩; conv => rhs; whnf
|exact trivial
|intro hg)
   all_goals first
    | exact zo (by omega)
    | exact ⟨by omega,by omega⟩
    | exact ⟨by omega,by omega,by omega⟩
    | exact (show Tryz.prog.underlying _ = some TypeDesc.string /\ 0 <= (i : Int) /\ (i : Int) < ((bs t).size : Int) from ⟨by kernel_rfl,by omega,by omega⟩)
    | exact ⟨by kernel_rfl,by omega,by omega,by omega⟩
    | exact (show Tryz.prog.underlying _ = some TypeDesc.string by kernel_rfl)
    | (simp only [ByteArray.size_append,hz0,hz1,zS,zT,List.size_toArray,List.length_cons,List.length_nil,maxLen,Nat.reduceAdd]; omega)
    | skip
   refine zF (j':=j - 1) (by omega) ⟨i + 1,i + 1,out ++ ([32,32] ++ (t.drop fr).take (i - fr) ++ [10]),by omega,by omega,fun _ => rfl,?_,Sub.live ⟨rfl,zCR ?_,rfl,rfl,trivial⟩ trivial⟩
   . rw [<- hR,Nat.sub_self,List.take_zero,indG.eq_2,if_pos h10]
     simp only [List.append_assoc]
   . rw [x0]
     simp only [zY,zAS,List.append_assoc]
     rfl
 have q1 : (zB8 (bs t) ((i : Int)).toNat == 10) = false:=q10.trans (by simpa using h10)
 have q2:=bff_of q1
 have q3 : (zB8 (bs t) ((i : Int)).toNat != 10) = true:=by show (!(zB8 (bs t) ((i : Int)).toNat == 10)) = true; rw [q1]; rfl
 have hR : out ++ indG ((t.drop fr).take (i + 1 - fr)) (t.drop (i + 1)) = indT t:=by
  rw [<- hR,indG.eq_2,if_neg h10,zF4 hf hi]
 by_cases hl : i + 1 = t.length
 . have q4 : ((i : Int) == ((bs t).size : Int) - 1) = true:=by rw [beq_iff_eq]; omega
   repeat' (first
|apply s_wanted_pick_t rfl rfl rfl
 . conv => lhs; whnf
 . first | rfl | assumption
 . conv => lhs; whnf
 . first | exact bT1 ‹_› | exact bT2 ‹_› | rfl
|apply zAi rfl rfl rfl
 . conv => lhs; whnf
 . first | rfl | assumption
 . conv => lhs; whnf
 . first | exact bT1 ‹_› | exact bT2 ‹_› | rfl
|apply s_wanted_pick_f rfl rfl rfl
 . conv => lhs; whnf
 . first | rfl | assumption
 . conv => lhs; whnf
 . first | exact bF1 ‹_› | exact bF2 ‹_› | rfl
|apply zAg rfl rfl rfl
 . conv => lhs; whnf
 . first | rfl | assumption
 . conv => lhs; whnf
 . first | exact bF1 ‹_› | exact bF2 ‹_› | rfl
|apply zK
 . conv => lhs; whnf
 . assumption
|apply zM
 . conv => lhs; whnf
 . assumption
|refine zAM ?_
|refine zAE ?_
|refine zBB ?_
|refine zB ?_
|refine zC ?_
|refine zQ ?_
|refine zU ?_
|refine zAT ?_
|apply aw_1
 conv => whnf
 refine ⟨?_,trivial⟩
|apply ze rfl rfl
 . conv => lhs; whnf
 . conv => lhs; whnf
 . first | exact bT1 ‹_› | exact bT2 ‹_›
|apply zm rfl rfl
 . conv => lhs; whnf
 . conv => lhs; whnf
 . first | exact bF1 ‹_› | exact bF2 ‹_›
|apply s_1
 conv => whnf; arg 1; arg 4; arg 3; whnf
 refine ⟨?_,?_⟩
|apply zAj rfl
 . conv => lhs; whnf
 . conv => lhs; whnf; arg 2; whnf
|apply zJ rfl
 . conv => lhs; whnf
 . conv => lhs; whnf
 . first | rfl | assumption
 . conv => lhs; whnf; arg 2; whnf
|apply zX rfl
 . conv => lhs; whnf
 . conv => lhs; whnf
 . first | rfl | assumption
 . conv => lhs; whnf
 . first | fail
|apply zAA rfl
 . conv => lhs; whnf
 . conv => lhs; whnf
 . first | rfl | assumption
|apply zCU rfl
 . conv => lhs; whnf
 . rfl
 . rfl
|apply zW rfl
 . conv => lhs; whnf
 . conv => lhs; whnf
 . conv => lhs; whnf; arg 2; whnf
|apply zAa rfl
 . conv => lhs; whnf
 . conv => lhs; whnf
 . conv => lhs; whnf
 . first | fail
|apply zAF rfl
 . conv => lhs; whnf
 . conv => lhs; whnf
 . conv => lhs; whnf; arg 2; whnf
|apply zAV rfl
 . conv => lhs; whnf
 . conv => lhs; whnf
 . conv => lhs; whnf
 . first | fail
|apply zw
 . conv => lhs; whnf; arg 1; arg 1; whnf
|apply z8
 . conv => lhs; whnf; arg 1; arg 1; whnf
|refine zV (by conv => lhs; whnf) ?_ ?_ <;> intro hb
|refine zAQ ?_
|refine zAO ?_
|refine zI ?_
|refine zN ?_
|refine zL ?_
|refine zE rfl ?_
|refine zb rfl ?_
|refine zf ?_
|refine zn ?_
|refine zG ?_
|refine za ?_
|refine zA7 ?_
|refine zD ?_
|refine ⟨_,by conv => lhs; whnf; arg 2; whnf,?_⟩; conv => rhs; whnf
|exact trivial
|intro hg)
   all_goals first
    | exact zo (by omega)
    | exact ⟨by omega,by omega⟩
    | exact ⟨by omega,by omega,by omega⟩
    | exact (show Tryz.prog.underlying _ = some TypeDesc.string /\ 0 <= (i : Int) /\ (i : Int) < ((bs t).size : Int) from ⟨by kernel_rfl,by omega,by omega⟩)
    | exact ⟨by kernel_rfl,by omega,by omega,by omega⟩
    | exact (show Tryz.prog.underlying _ = some TypeDesc.string by kernel_rfl)
    | (simp only [ByteArray.size_append,hz0,hz1,zS,zT,List.size_toArray,List.length_cons,List.length_nil,maxLen,Nat.reduceAdd]; omega)
    | skip
   refine zF (j':=j - 1) (by omega) ⟨i + 1,i + 1,out ++ ([32,32] ++ ((t.drop fr).take (i - fr) ++ [t[i]]) ++ [10]),by omega,by omega,fun _ => rfl,?_,Sub.live ⟨rfl,zCR ?_,rfl,rfl,trivial⟩ trivial⟩
   . have hd : t.drop (i + 1) = []:=List.drop_of_length_le (by omega)
     rw [<- hR,hd,Nat.sub_self,List.take_zero,zF4 hf hi,indG.eq_1,indG.eq_1,if_pos rfl,if_neg (by simp),List.append_nil]
   . rw [x1]
     simp only [zY,zAS,List.append_assoc]
     rfl
 . have q4 : ((i : Int) == ((bs t).size : Int) - 1) = false:=by rw [beq_eq_false_iff_ne]; omega
   repeat' (first
|apply s_wanted_pick_t rfl rfl rfl
 . conv => lhs; whnf
 . first | rfl | assumption
 . conv => lhs; whnf
 . first | exact bT1 ‹_› | exact bT2 ‹_› | rfl
|apply zAi rfl rfl rfl
 . conv => lhs; whnf
 . first | rfl | assumption
 . conv => lhs; whnf
 . first | exact bT1 ‹_› | exact bT2 ‹_› | rfl
|apply s_wanted_pick_f rfl rfl rfl
 . conv => lhs; whnf
 . first | rfl | assumption
 . conv => lhs; whnf
 . first | exact bF1 ‹_› | exact bF2 ‹_› | rfl
|apply zAg rfl rfl rfl
 . conv => lhs; whnf
 . first | rfl | assumption
 . conv => lhs; whnf
 . first | exact bF1 ‹_› | exact bF2 ‹_› | rfl
|apply zK
 . conv => lhs; whnf
 . assumption
|apply zM
 . conv => lhs; whnf
 . assumption
|refine zAM ?_
|refine zAE ?_
|refine zBB ?_
|refine zB ?_
|refine zC ?_
|refine zQ ?_
|refine zU ?_
|refine zAT ?_
|apply aw_1
 conv => whnf
 refine ⟨?_,trivial⟩
|apply ze rfl rfl
 . conv => lhs; whnf
 . conv => lhs; whnf
 . first | exact bT1 ‹_› | exact bT2 ‹_›
|apply zm rfl rfl
 . conv => lhs; whnf
 . conv => lhs; whnf
 . first | exact bF1 ‹_› | exact bF2 ‹_›
|apply s_1
 conv => whnf; arg 1; arg 4; arg 3; whnf
 refine ⟨?_,?_⟩
|apply zAj rfl
 . conv => lhs; whnf
 . conv => lhs; whnf; arg 2; whnf
|apply zJ rfl
 . conv => lhs; whnf
 . conv => lhs; whnf
 . first | rfl | assumption
 . conv => lhs; whnf; arg 2; whnf
|apply zX rfl
 . conv => lhs; whnf
 . conv => lhs; whnf
 . first | rfl | assumption
 . conv => lhs; whnf
 . first | fail
|apply zAA rfl
 . conv => lhs; whnf
 . conv => lhs; whnf
 . first | rfl | assumption
|apply zCU rfl
 . conv => lhs; whnf
 . rfl
 . rfl
|apply zW rfl
 . conv => lhs; whnf
 . conv => lhs; whnf
 . conv => lhs; whnf; arg 2; whnf
|apply zAa rfl
 . conv => lhs; whnf
 . conv => lhs; whnf
 . conv => lhs; whnf
 . first | fail
|apply zAF rfl
 . conv => lhs; whnf
 . conv => lhs; whnf
 . conv => lhs; whnf; arg 2; whnf
|apply zAV rfl
 . conv => lhs; whnf
 . conv => lhs; whnf
 . conv => lhs; whnf
 . first | fail
|apply zw
 . conv => lhs; whnf; arg 1; arg 1; whnf
|apply z8
 . conv => lhs; whnf; arg 1; arg 1; whnf
|refine zV (by conv => lhs; whnf) ?_ ?_ <;> intro hb
|refine zAQ ?_
|refine zAO ?_
|refine zI ?_
|refine zN ?_
|refine zL ?_
|refine zE rfl ?_
|refine zb rfl ?_
|refine zf ?_
|refine zn ?_
|refine zG ?_
|refine za ?_
|refine zA7 ?_
|refine zD ?_
|refine ⟨_,by conv => lhs; whnf; arg 2; whnf,?_⟩; conv => rhs; whnf
|exact trivial
|intro hg)
   all_goals first
    | exact zo (by omega)
    | exact ⟨by omega,by omega⟩
    | exact ⟨by omega,by omega,by omega⟩
    | exact (show Tryz.prog.underlying _ = some TypeDesc.string /\ 0 <= (i : Int) /\ (i : Int) < ((bs t).size : Int) from ⟨by kernel_rfl,by omega,by omega⟩)
    | exact ⟨by kernel_rfl,by omega,by omega,by omega⟩
    | exact (show Tryz.prog.underlying _ = some TypeDesc.string by kernel_rfl)
    | (simp only [ByteArray.size_append,hz0,hz1,zS,zT,List.size_toArray,List.length_cons,List.length_nil,maxLen,Nat.reduceAdd]; omega)
    | skip
   exact zF (j':=j - 1) (by omega) ⟨i + 1,fr,out,by omega,by omega,fun h => absurd h hl,hR,Sub.live ⟨rfl,rfl,rfl,rfl,trivial⟩ trivial⟩
end Go.Proofs.YthjiclhfhjdjpaaGreatDoor
namespace Go.Proofs.YthjiclhfhjdjpaaGreatDoor
open Go.RowKit
set_option linter.unusedSectionVars false
theorem index_cut : ∀ (u : List UInt8),(Lib.indexByte u 10 = -1 /\ ∀ c ∈ u,c ≠ 10) \/ ∃ a b,u = a ++ 10 :: b /\ (∀ c ∈ a,c ≠ 10) /\ Lib.indexByte u 10 = (a.length : Int)
 | [] => .inl ⟨rfl,by simp⟩
 | c :: u => by
   by_cases hc : c = 10
   . subst hc
     exact .inr ⟨[],u,rfl,by simp,by simp [Lib.indexByte]⟩
   . have hc' : (c == 10) = false:=by simpa using hc
     rcases index_cut u with ⟨h1,h2⟩ | ⟨a,b,h1,h2,h3⟩
     . left
       refine ⟨by simp [Lib.indexByte,hc',h1],fun x hx => ?_⟩
       rcases List.mem_cons.1 hx with rfl | q
       . exact hc
       . exact h2 x q
     . right
       refine ⟨c :: a,b,by rw [h1]; rfl,fun x hx => ?_,?_⟩
       . rcases List.mem_cons.1 hx with rfl | q
         . exact hc
         . exact h2 x q
       . have hn : ((a.length : Int) == -1) = false:=by rw [beq_eq_false_iff_ne]; omega
         simp [Lib.indexByte,hc',h3]
theorem index_no {u : List UInt8} (h : ∀ c ∈ u,c ≠ 10) : Lib.indexByte u 10 = -1:=by
 rcases index_cut u with ⟨h1,-⟩ | ⟨a,b,rfl,-,-⟩
 . exact h1
 . exact absurd rfl (h 10 (by simp))
theorem index_at {a b : List UInt8} (h : ∀ c ∈ a,c ≠ 10) : Lib.indexByte (a ++ 10 :: b) 10 = (a.length : Int):=by
 induction a with
 | nil => simp [Lib.indexByte]
 | cons c a ih =>
   have hc' : (c == 10) = false:=by simpa using h c (by simp)
   have ih:=ih fun x hx => h x (by simp [hx])
   have hn : ((a.length : Int) == -1) = false:=by rw [beq_eq_false_iff_ne]; omega
   simp [Lib.indexByte,hc',ih]
theorem zIL (u : List UInt8) (hu : u.length <= 9000000000000) : AC EN Tryz.prog 175 [.c (.string (bs u)),.c (.string ⟨#[10]⟩)] (.c (.int .i64 (Lib.indexByte u 10))):=
 zGA fun s1 w us hus he => by
  obtain ⟨u1,u2,rfl,h,h2⟩:=zHB hus
  rw [rel] at h h2
  obtain ⟨rfl,-⟩:=h
  obtain ⟨rfl,-⟩:=h2
  refine ⟨?_,?_⟩
  . show (Lit.int .i64 (Lib.indexByte u 10)).wf = true
    rw [zC6]
    simp only [IntKind.min,IntKind.max,IntKind.signed,IntKind.bits]
    rcases index_cut u with ⟨h1,-⟩ | ⟨a,b,hab,-,h3⟩
    . rw [h1]; decide
    . rw [h3]
      have : a.length <= u.length:=by rw [hab]; simp
      simp
      omega
  . refine (Tryz.stringslite_Index_one (bs u) 10 w).mono fun e w' h => ?_
    obtain ⟨rfl,rfl⟩:=h
    exact ⟨by rw [zCb],Below.refl _ _⟩
attribute [local irreducible] wpList Calls Code.wp AW AWo OpOk seqK zAf zAh loopK endK AC zAD Yld Sub
attribute [local irreducible] ACB ACX absLexG YldG absLexH
theorem cutN_ac (u : List UInt8) (hu : u.length <= 9000000000000) (h : ∀ c ∈ u,c ≠ 10) : AC EN Tryz.prog 48 [.c (.string (bs u)),.c (.string ⟨#[10]⟩)] (.tup [.c (.string (bs u)),.c (.string ⟨#[]⟩),.c (.bool false)]):=by
 have h1:=zIL u hu
 rw [index_no h] at h1
 have h2 : AC EN Tryz.prog 96 [.c (.string (bs u)),.c (.string ⟨#[10]⟩)] (.tup [.c (.string (bs u)),.c (.string ⟨#[]⟩),.c (.bool false)]):=by
  refine zO 23 Tryz.func96 rfl rfl rfl rfl ?_
  intro s w he
  repeat' (first
|refine zB ?_
|refine zC ?_
|refine zQ ?_
|apply aw_1
 conv => whnf
 refine ⟨?_,trivial⟩
|apply s_1
 conv => whnf; arg 1; arg 4; arg 3; whnf
 refine ⟨?_,?_⟩
|apply zl rfl
 . conv => lhs; whnf
 . conv => lhs; whnf
 . first | exact h1
|refine zD ?_
|exact trivial)
  exact ⟨_,_,_,rfl,rfl,rfl,rfl⟩
 refine zO 13 Tryz.func48 rfl rfl rfl rfl ?_
 intro s w he
 repeat' (first
|refine zB ?_
|refine zC ?_
|refine zQ ?_
|apply aw_1
 conv => whnf
 refine ⟨?_,trivial⟩
|apply s_1
 conv => whnf; arg 1; arg 4; arg 3; whnf
 refine ⟨?_,?_⟩
|apply zl rfl
 . conv => lhs; whnf
 . conv => lhs; whnf
 . first | exact h2
|refine zD ?_
|exact trivial)
 exact ⟨_,_,_,rfl,rfl,rfl,rfl⟩
theorem cutY_ac (a b : List UInt8) (hu : (a ++ 10 :: b).length <= 9000000000000) (h : ∀ c ∈ a,c ≠ 10) : AC EN Tryz.prog 48 [.c (.string (bs (a ++ 10 :: b))),.c (.string ⟨#[10]⟩)] (.tup [.c (.string (bs a)),.c (.string (bs b)),.c (.bool true)]):=by
 have h1:=zIL (a ++ 10 :: b) hu
 rw [index_at h] at h1
 have hz:=zS (a ++ 10 :: b)
 have hl : (a ++ 10 :: b).length = a.length + b.length + 1:=by simp; omega
 have f0 : decide ((a.length : Int) >= 0) = true:=decide_eq_true (by omega)
 have x0 : (bs (a ++ 10 :: b)).extract 0 ((a.length : Int)).toNat = bs a:=by
  have:=zGl (a ++ 10 :: b) (a:=0) (b:=a.length) (by omega) (by omega)
  rw [Int.toNat_natCast,this]
  simp
 have x1 : (bs (a ++ 10 :: b)).extract (((a.length : Int) + 1)).toNat (bs (a ++ 10 :: b)).size = bs b:=by
  have:=zGl (a ++ 10 :: b) (a:=a.length + 1) (b:=(a ++ 10 :: b).length) (by omega) (by omega)
  rw [show (((a.length : Int) + 1)).toNat = a.length + 1 by omega,hz,this]
  congr 1
  rw [List.drop_append,List.drop_of_length_le (by omega)]
  simp
  exact List.take_of_length_le (by omega)
 have h2 : AC EN Tryz.prog 96 [.c (.string (bs (a ++ 10 :: b))),.c (.string ⟨#[10]⟩)] (.tup [.c (.string (bs a)),.c (.string (bs b)),.c (.bool true)]):=by
  refine zO 23 Tryz.func96 rfl rfl rfl rfl ?_
  intro s w he
  repeat' (first
|apply zK
 . conv => lhs; whnf
 . assumption
|refine zB ?_
|refine zC ?_
|refine zQ ?_
|apply aw_1
 conv => whnf
 refine ⟨?_,trivial⟩
|apply s_1
 conv => whnf; arg 1; arg 4; arg 3; whnf
 refine ⟨?_,?_⟩
|apply zl rfl
 . conv => lhs; whnf
 . conv => lhs; whnf
 . first | exact h1
|apply zAJ (by kernel_rfl) (by kernel_rfl)
|apply zAx
|apply zAw rfl
 . conv => lhs; whnf
 . conv => lhs; whnf; arg 2; whnf
|exact zd
|exact zy
|exact (1000000 : Nat)
|refine zN ?_
|refine zD ?_
|exact trivial)
  . refine ⟨_,_,_,rfl,rfl,rfl,?_⟩
    show _ = V.tup [.c (.string ((bs (a ++ 10 :: b)).extract 0 ((a.length : Int)).toNat)),.c (.string ((bs (a ++ 10 :: b)).extract (((a.length : Int) + 1)).toNat (bs (a ++ 10 :: b)).size)),.c (.bool true)]
    rw [x0,x1]
  . exact ⟨by kernel_rfl,(show 0 <= (a.length : Int) + 1 by omega),(show (a.length : Int) + 1 <= ((bs (a ++ 10 :: b)).size : Int) by omega)⟩
  . exact (show -9223372036854775808 <= (a.length : Int) + 1 /\ (a.length : Int) + 1 <= 9223372036854775807 from ⟨by omega,by omega⟩)
  . exact (show Tryz.prog.underlying _ = some TypeDesc.string by kernel_rfl)
  . exact ⟨by kernel_rfl,by omega,by omega⟩
 refine zO 13 Tryz.func48 rfl rfl rfl rfl ?_
 intro s w he
 repeat' (first
|refine zB ?_
|refine zC ?_
|refine zQ ?_
|apply aw_1
 conv => whnf
 refine ⟨?_,trivial⟩
|apply s_1
 conv => whnf; arg 1; arg 4; arg 3; whnf
 refine ⟨?_,?_⟩
|apply zl rfl
 . conv => lhs; whnf
 . conv => lhs; whnf
 . first | exact h2
|refine zD ?_
|exact trivial)
 exact ⟨_,_,_,rfl,rfl,rfl,rfl⟩
end Go.Proofs.YthjiclhfhjdjpaaGreatDoor
namespace Go.Proofs.YthjiclhfhjdjpaaGreatDoor
open Go.RowKit
set_option linter.unusedSectionVars false
attribute [local irreducible] wpList Calls Code.wp AW AWo OpOk seqK zAf zAh loopK endK AC zAD Yld Sub
attribute [local irreducible] ACB absLexG YldG
noncomputable def HpO (K f : Nat) (a b : List D) (i : Nat) : Vst 48:=
 stS 48 [(1,.bx 1 0),(3,.own 3 9 (zq (fun i => opB K f (gD a i)) i)),(9,.sl 57 a),(10,.c (.int .i64 a.length)),(11,.c (.int .i64 i))] [(1,.box 41 [.sl 57 a,.sl 116 b]),(3,.tok 9 (zq (fun i => opB K f (gD a i)) i).length)]
noncomputable def HpF (K f : Nat) (a b : List D) (i : Nat) : Vst 48:=
 stS 48 [(1,.bx 1 0),(3,.own 3 9 (zq (fun i => opB K f (gD a i)) a.length ++ zq (fun i => zCH K f (gD b i)) i)),(25,.sl 116 b),(26,.c (.int .i64 b.length)),(27,.c (.int .i64 i))] [(1,.box 41 [.sl 57 a,.sl 116 b]),(3,.tok 9 (zq (fun i => opB K f (gD a i)) a.length ++ zq (fun i => zCH K f (gD b i)) i).length)]
theorem DocOk.op {K f : Nat} {a b : List D} (h : DocOk K f (.obj [.list a,.list b])) {i : Nat} (hi : i < a.length) : VarsOk K ((gD a i).f 2).l /\ SelsOk K (f + 1) ((gD a i).f 3).l /\ wideD (gD a i) /\ bulkD (gD a i) <= 8388608:=
 ⟨h.vars i hi,h.sels i hi,(h.wide.f 0).l i,by
   have h1:=zAH hi
   have h2:=h.bulk
   have : bulkD (.obj [.list a,.list b]) = bulkL a + bulkL b + 3:=by simp [bulkD,bulkL]; omega
   omega⟩
theorem DocOk.frg {K f : Nat} {a b : List D} (h : DocOk K f (.obj [.list a,.list b])) {i : Nat} (hi : i < b.length) : SelsOk K (f + 1) ((gD b i).f 2).l /\ wideD (gD b i) /\ bulkD (gD b i) <= 8388608:=
 ⟨h.frag i hi,(h.wide.f 1).l i,by
   have h1:=zAH hi
   have h2:=h.bulk
   have : bulkD (.obj [.list a,.list b]) = bulkL a + bulkL b + 3:=by simp [bulkD,bulkL]; omega
   omega⟩
theorem fragH_bs (fr : D) : ((⟨#[102,114,97,103,109,101,110,116,32]⟩ : ByteArray) ++ (fr.f 0).s ++ ⟨#[32,111,110,32]⟩ ++ (fr.f 1).s ++ ⟨#[32,123]⟩) = bs (zEx fr):=by
 unfold zEx
 rw [<- zR,<- zR,<- zR,<- zR,zA4,zA4]
 rfl
theorem printP_ac (K f : Nat) (a b : List D) (h : DocOk K f (.obj [.list a,.list b])) : AC EN Tryz.prog 28 [.agg [.sl 57 a,.sl 116 b]] (.c (.string (bs (docT K (f + 1) (.obj [.list a,.list b]))))):=by
 have hbk : bulkD (.obj [.list a,.list b]) = bulkL a + bulkL b + 3:=by simp [bulkD,bulkL]; omega
 have hb0:=h.bulk
 have hdp:=h.deep
 have hla:=zAR a
 have hlb:=zAR b
 have hdl:=zEA K f _ h.wide hdp
 have hj : AC EN Tryz.prog 59 [.sl 9 (zq (fun i => opB K (f + 1) (gD a i)) a.length ++ zq (fun i => zCH K (f + 1) (gD b i)) b.length),.c (.string ⟨#[10]⟩)] (.c (.string (bs (docT K (f + 1) (.obj [.list a,.list b]))))):=by
  have e : txs (zq (fun i => opB K (f + 1) (gD a i)) a.length ++ zq (fun i => zCH K (f + 1) (gD b i)) b.length) = a.map (opB K (f + 1)) ++ b.map (zCH K (f + 1)):=by
   have h1:=zAd (opB K (f + 1)) a
   have h2:=zAd (zCH K (f + 1)) b
   unfold txs at h1 h2 |-
   rw [List.map_append,h1,h2]
  have:=zB1 (zq (fun i => opB K (f + 1) (gD a i)) a.length ++ zq (fun i => zCH K (f + 1) (gD b i)) b.length) [10] (by rw [List.length_append,zAC,zAC]; omega) (by rw [e]; exact Nat.le_trans hdl (by omega))
  rw [e] at this
  exact this
 refine zO 48 Tryz.func28 rfl rfl rfl rfl ?_
 intro s w he
 repeat' (first
|refine zB ?_
|refine zC ?_
|refine zQ ?_
|apply aw_1
 conv => whnf
 refine ⟨?_,trivial⟩
|apply s_1
 conv => whnf; arg 1; arg 4; arg 3; whnf
 refine ⟨?_,?_⟩
|apply zAN rfl rfl rfl rfl
 . conv => lhs; whnf; arg 1; whnf
 . rfl
|exact trivial)
 refine zu (Sub.own (t:=3) (e:=9) rfl rfl) ?_
 refine zv (fun j st => ∃ i,i + j = a.length /\ Sub (cx EN Tryz.prog s w he) st (HpO K (f + 1) a b i)) a.length ⟨0,by omega,Sub.live ⟨rfl,rfl,rfl,rfl,rfl,trivial⟩ ⟨rfl,rfl,trivial⟩⟩ ?_
 rintro j st ⟨i,hij,hs2⟩
 refine zu hs2 ?_
 clear hs2
 have htk:=zAC (fun i => opB K (f + 1) (gD a i)) i
 by_cases hi : i < a.length
 . have f0 : decide ((i : Int) < (a.length : Nat)) = true:=decide_eq_true (by omega)
   obtain ⟨o1,o2,o3,o4⟩:=h.op hi
   have hn:=zAG ((gD a i).f 1)
   have hnn:=wD_f (gD a i) 1
   have hn3:=wD_f (gD a i) 3
   have hl3:=z7 ((gD a i).f 3)
   have hbd:=zZ (gD a i)
   have hhd:=opHead_ac K (gD a i) o1 (by omega)
   have hol:=zHE K (gD a i) o3
   have hv2:=wD_f (gD a i) 2
   have hl2:=z7 ((gD a i).f 2)
   have hbl : AC EN Tryz.prog 57 [.c (.string (bs (opT K (gD a i)))),.sl 76 ((gD a i).f 3).l] (.c (.string (bs (opB K (f + 1) (gD a i))))):=
    zIq K f (opT K (gD a i)) ((gD a i).f 3).l o2 (fun q => (o3.f 3).l q) (by omega) hdp (by omega)
   repeat' (first
|apply zK
 . conv => lhs; whnf
 . assumption
|refine zB ?_
|refine zC ?_
|refine zQ ?_
|refine zU ?_
|apply aw_1
 conv => whnf
 refine ⟨?_,trivial⟩
|apply s_1
 conv => whnf; arg 1; arg 4; arg 3; whnf
 refine ⟨?_,?_⟩
|apply zz rfl rfl rfl
 . conv => lhs; whnf
 . conv => lhs; whnf; arg 1; whnf
 . conv => lhs; whnf; arg 1; whnf
 . exact ⟨by kernel_rfl,by kernel_rfl⟩
 . rfl
|apply zAJ (by kernel_rfl) (by kernel_rfl)
|apply zAx
|apply zAw rfl
 . conv => lhs; whnf
 . conv => lhs; whnf; arg 2; whnf
|apply zAq rfl
 . conv => lhs; whnf
 . conv => lhs; whnf
 . first | exact hhd | exact hbl
|apply zED rfl rfl
 . conv => lhs; whnf
 . first | exact zAK | (conv => lhs; whnf; arg 1; whnf)
 . first | exact fun _ => rfl | (intro _; kernel_rfl)
 . conv => lhs; whnf
 . rfl
 . rfl
 . conv => lhs; whnf; arg 1; whnf
 . conv => lhs; whnf
|apply zCO rfl rfl
 . conv => lhs; whnf
 . first | exact zAK | (conv => lhs; whnf; arg 1; whnf)
 . conv => lhs; whnf; arg 1; whnf
 . rfl
 . rfl
|exact zd
|show zBH _ _ = true; rfl
|exact trivial)
   all_goals first
    | exact zo (by omega)
    | exact zCA hi
    | exact zBZ (by omega) (by omega)
    | skip
   refine zF (j':=j - 1) (by omega) ⟨i + 1,by omega,Sub.live ⟨rfl,?_,rfl,rfl,rfl,trivial⟩ ⟨rfl,?_,trivial⟩⟩
   . show V.own 3 _ (zq _ i ++ [.str (bs _)]) = _
     rw [zr]
   . show some (Res.tok _ ((zq _ i).length + 1)) = _
     rw [zr,List.length_append]; rfl
 . have f0 : decide ((i : Int) < (a.length : Nat)) = false:=decide_eq_false (by omega)
   obtain rfl : i = a.length:=by omega
   repeat' (first
|apply zM
 . conv => lhs; whnf
 . assumption
|refine zB ?_
|refine zC ?_
|refine zQ ?_
|apply aw_1
 conv => whnf
 refine ⟨?_,trivial⟩
|apply s_1
 conv => whnf; arg 1; arg 4; arg 3; whnf
 refine ⟨?_,?_⟩
|refine zI ?_
|refine zE rfl ?_
|refine zG ?_
|exact trivial)
   refine zv (fun j st => ∃ i,i + j = b.length /\ Sub (cx EN Tryz.prog s w he) st (HpF K (f + 1) a b i)) b.length ⟨0,by omega,Sub.live ⟨rfl,?_,rfl,rfl,rfl,trivial⟩ ⟨rfl,?_,trivial⟩⟩ ?_
   . show V.own 3 _ (zq _ a.length) = V.own 3 _ (zq _ a.length ++ [])
     rw [List.append_nil]
   . show some (Res.tok _ (zq _ a.length).length) = some (Res.tok _ (zq _ a.length ++ []).length)
     rw [List.append_nil]
   rintro j2 st2 ⟨q,hqj,hs3⟩
   refine zu hs3 ?_
   clear hs3
   have htk2:=zAC (fun i => zCH K (f + 1) (gD b i)) q
   have hap : (zq (fun i => opB K (f + 1) (gD a i)) a.length ++ zq (fun i => zCH K (f + 1) (gD b i)) q).length = a.length + q:=by rw [List.length_append,htk,htk2]
   by_cases hq : q < b.length
   . have f2 : decide ((q : Int) < (b.length : Nat)) = true:=decide_eq_true (by omega)
     obtain ⟨o2,o3,o4⟩:=h.frg hq
     have hn0:=zAG ((gD b q).f 0)
     have hn1:=zAG ((gD b q).f 1)
     have hf0:=wD_f (gD b q) 0
     have hf1:=wD_f (gD b q) 1
     have hf2:=wD_f (gD b q) 2
     have hl2:=z7 ((gD b q).f 2)
     have hbd:=zZ (gD b q)
     have t0:=zAP ((gD b q).f 0).s
     have t1:=zAP ((gD b q).f 1).s
     have hlen : (zEx (gD b q)).length = 15 + ((gD b q).f 0).s.size + ((gD b q).f 1).s.size:=by simp only [zEx,List.length_append,List.length_cons,List.length_nil]; omega
     have hbl : AC EN Tryz.prog 57 [.c (.string ((⟨#[102,114,97,103,109,101,110,116,32]⟩ : ByteArray) ++ ((gD b q).f 0).s ++ ⟨#[32,111,110,32]⟩ ++ ((gD b q).f 1).s ++ ⟨#[32,123]⟩)),.sl 76 ((gD b q).f 2).l] (.c (.string (bs (zCH K (f + 1) (gD b q))))):=by
      rw [fragH_bs]
      exact zIq K f (zEx (gD b q)) ((gD b q).f 2).l o2 (fun z => (o3.f 2).l z) (by omega) hdp (by omega)
     repeat' (first
|apply zK
 . conv => lhs; whnf
 . assumption
|refine zB ?_
|refine zC ?_
|refine zQ ?_
|refine zU ?_
|apply aw_1
 conv => whnf
 refine ⟨?_,trivial⟩
|apply s_1
 conv => whnf; arg 1; arg 4; arg 3; whnf
 refine ⟨?_,?_⟩
|apply zl rfl
 . conv => lhs; whnf
 . conv => lhs; whnf
 . first | exact hbl
|apply zz rfl rfl rfl
 . conv => lhs; whnf
 . conv => lhs; whnf; arg 1; whnf
 . conv => lhs; whnf; arg 1; whnf
 . exact ⟨by kernel_rfl,by kernel_rfl⟩
 . rfl
|apply zCC rfl rfl
 . conv => lhs; whnf
 . first | exact zAK | (conv => lhs; whnf; arg 1; whnf)
 . first | exact fun _ => rfl | (intro _; kernel_rfl)
 . conv => lhs; whnf
 . conv => lhs; whnf; arg 1; whnf
 . conv => lhs; whnf
|apply zBQ rfl rfl
 . conv => lhs; whnf
 . first | exact zAK | (conv => lhs; whnf; arg 1; whnf)
 . conv => lhs; whnf; arg 1; whnf
 . rfl
 . rfl
|exact trivial)
     all_goals first
      | exact zo (by omega)
      | exact zCA hq
      | exact zBZ (by omega) (by omega)
      | ((simp only [ByteArray.size_append,zS,zT,List.size_toArray,List.length_append,List.length_cons,List.length_nil,maxLen,Nat.reduceAdd,Int.toNat_natCast]; omega); done)
      | skip
     refine zF (j':=j2 - 1) (by omega) ⟨q + 1,by omega,Sub.live ⟨rfl,?_,rfl,rfl,rfl,trivial⟩ ⟨rfl,?_,trivial⟩⟩
     . show V.own 3 _ (zq _ a.length ++ zq _ q ++ [.str (bs _)]) = V.own 3 _ (zq _ a.length ++ zq _ (q + 1))
       rw [zr,List.append_assoc]
     . show some (Res.tok _ ((zq _ a.length ++ zq _ q).length + 1)) = some (Res.tok _ (zq _ a.length ++ zq _ (q + 1)).length)
       rw [zr,<- List.append_assoc,List.length_append (bs:=[_])]; rfl
   . have f2 : decide ((q : Int) < (b.length : Nat)) = false:=decide_eq_false (by omega)
     obtain rfl : q = b.length:=by omega
     repeat' (first
|apply zM
 . conv => lhs; whnf
 . assumption
|refine zB ?_
|refine zC ?_
|refine zQ ?_
|apply aw_1
 conv => whnf
 refine ⟨?_,trivial⟩
|apply s_1
 conv => whnf; arg 1; arg 4; arg 3; whnf
 refine ⟨?_,?_⟩
|apply zl rfl
 . conv => lhs; whnf
 . conv => lhs; whnf
 . first | exact hj
|refine zI ?_
|refine zE rfl ?_
|refine zG ?_
|refine zD ?_
|refine ⟨_,by conv => lhs; whnf; arg 2; whnf,?_⟩; conv => rhs; whnf
|exact trivial)
def jr (ts : List (List UInt8)) (i : Nat) : List UInt8:=Lib.join (ts.take i) [10]
theorem jr_succ {ts : List (List UInt8)} {i : Nat} {t : List UInt8} (ht : ts[i]? = some t) : jr ts (i + 1) = jr ts i ++ ((if i = 0 then [] else [10]) ++ t):=by
 obtain ⟨hi,hg⟩:=List.getElem?_eq_some_iff.1 ht
 unfold jr
 rw [List.take_succ_eq_append_getElem hi,hg]
 by_cases h : i = 0
 . subst h
   simp [Lib.join_nil,Lib.join_one]
 . rw [if_neg h,zCg _ _ _ (fun e => by have h2:=congrArg List.length e; rw [List.length_take] at h2; simp only [List.length_nil] at h2; omega)]
   simp
theorem jr_le (ts : List (List UInt8)) (i : Nat) : (jr ts i).length <= (Lib.join ts [10]).length:=zDR ts [10] i
def blks (K f : Nat) (a b : List D) : List (List UInt8):=a.map (opB K f) ++ b.map (zCH K f)
theorem blks_op {K f : Nat} {a b : List D} {i : Nat} (h : i < a.length) : (blks K f a b)[i]? = some (opB K f (gD a i)):=by
 unfold blks
 rw [List.getElem?_append_left (by simpa using h),List.getElem?_map,List.getElem?_eq_getElem h,zAt h]; rfl
theorem blks_fr {K f : Nat} {a b : List D} {i : Nat} (h : i < b.length) : (blks K f a b)[a.length + i]? = some (zCH K f (gD b i)):=by
 unfold blks
 rw [List.getElem?_append_right (by simp),List.length_map,Nat.add_sub_cancel_left,List.getElem?_map,List.getElem?_eq_getElem h,zAt h]; rfl
theorem opB_eq (K f : Nat) (o : D) : opB K f o = opT K o ++ ([10] ++ (selsT K f 1 (o.f 3).l ++ [125,10])):=by
 unfold opB zDv zA1
 simp [Lib.repeatL]
theorem zIV (K f : Nat) (o : D) : zCH K f o = [102,114,97,103,109,101,110,116,32] ++ (tx (o.f 0).s ++ ([32,111,110,32] ++ (tx (o.f 1).s ++ ([32,123,10] ++ (selsT K f 1 (o.f 2).l ++ [125,10]))))):=by
 unfold zCH zDv zEx zA1
 simp [Lib.repeatL]
theorem zFe {a b : ByteArray} (h : tx a = tx b) : V.c (.string a) = V.c (.string b):=by
 have : a = b:=by rw [<- zA4 a,h,zA4]
 rw [this]
noncomputable def HqO (K f : Nat) (a b : List D) (i : Nat) : Vst 72:=
 stS 72 [(1,.bx 1 0),(3,.c (.string (bs (jr (blks K f a b) i)))),(4,.c (.int .i64 i))] [(1,.box 41 [.sl 57 a,.sl 116 b])]
noncomputable def HqF (K f : Nat) (a b : List D) (i : Nat) : Vst 72:=
 stS 72 [(1,.bx 1 0),(3,.c (.string (bs (jr (blks K f a b) (a.length + i))))),(5,.c (.int .i64 i))] [(1,.box 41 [.sl 57 a,.sl 116 b])]
theorem printR_ac (K f : Nat) (a b : List D) (h : DocOk K f (.obj [.list a,.list b])) : AC EN Tryz.prog 29 [.agg [.sl 57 a,.sl 116 b]] (.c (.string (bs (docT K (f + 1) (.obj [.list a,.list b]))))):=by
 have hbk : bulkD (.obj [.list a,.list b]) = bulkL a + bulkL b + 3:=by simp [bulkD,bulkL]; omega
 have hb0:=h.bulk
 have hdp:=h.deep
 have hla:=zAR a
 have hlb:=zAR b
 have hdl:=zEA K f _ h.wide hdp
 have hdoc : docT K (f + 1) (.obj [.list a,.list b]) = Lib.join (blks K (f + 1) a b) [10]:=rfl
 have hjr : ∀ i,(jr (blks K (f + 1) a b) i).length <= 1274 * 8388608:=fun i => by
  have:=jr_le (blks K (f + 1) a b) i
  rw [<- hdoc] at this
  omega
 have hend : jr (blks K (f + 1) a b) (a.length + b.length) = docT K (f + 1) (.obj [.list a,.list b]):=by
  rw [hdoc]
  unfold jr
  rw [List.take_of_length_le (by simp [blks])]
 refine zO 72 Tryz.func29 rfl rfl rfl rfl ?_
 intro s w he
 repeat' (first
|refine zB ?_
|refine zC ?_
|refine zQ ?_
|apply aw_1
 conv => whnf
 refine ⟨?_,trivial⟩
|apply s_1
 conv => whnf; arg 1; arg 4; arg 3; whnf
 refine ⟨?_,?_⟩
|apply zAN rfl rfl rfl rfl
 . conv => lhs; whnf; arg 1; whnf
 . rfl
|exact trivial)
 refine zv (fun j st => ∃ i,i + j = a.length /\ Sub (cx EN Tryz.prog s w he) st (HqO K (f + 1) a b i)) a.length ⟨0,by omega,Sub.live ⟨rfl,rfl,rfl,trivial⟩ ⟨rfl,trivial⟩⟩ ?_
 rintro j st ⟨i,hij,hs2⟩
 refine zu hs2 ?_
 clear hs2
 have hji:=hjr i
 by_cases hi : i < a.length
 . have f0 : decide ((i : Int) < (a.length : Nat)) = true:=decide_eq_true (by omega)
   obtain ⟨o1,o2,o3,o4⟩:=h.op hi
   have hn:=zAG ((gD a i).f 1)
   have hnn:=wD_f (gD a i) 1
   have hn3:=wD_f (gD a i) 3
   have hl3:=z7 ((gD a i).f 3)
   have hbd:=zZ (gD a i)
   have hhd:=opHeadR_ac K (gD a i) o1 (by omega)
   have hol:=zHE K (gD a i) o3
   have hv2:=wD_f (gD a i) 2
   have hl2:=z7 ((gD a i).f 2)
   have hsl:=zB4 K (f + 1) 1 ((gD a i).f 3).l fun q => (o3.f 3).l q
   have hs2 : (4 * (1 + (f + 1)) + 70) * bulkL ((gD a i).f 3).l <= 1274 * 8388608:=Nat.mul_le_mul (by omega) (by omega)
   have hse:=zH2 K f ((gD a i).f 3).l o2 (fun q => (o3.f 3).l q) (by omega) hdp
   have hstep:=jr_succ (blks_op (K:=K) (f:=f + 1) (b:=b) hi)
   by_cases h0 : i = 0
   . have f1 : decide ((i : Int) > 0) = false:=decide_eq_false (by omega)
     rw [if_pos h0,List.nil_append,opB_eq] at hstep
     repeat' (first
|apply zK
 . conv => lhs; whnf
 . assumption
|apply zM
 . conv => lhs; whnf
 . assumption
|refine zB ?_
|refine zC ?_
|refine zQ ?_
|refine zU ?_
|apply aw_1
 conv => whnf
 refine ⟨?_,trivial⟩
|apply s_1
 conv => whnf; arg 1; arg 4; arg 3; whnf
 refine ⟨?_,?_⟩
|apply zAJ (by kernel_rfl) (by kernel_rfl)
|apply zAx
|apply zAw rfl
 . conv => lhs; whnf
 . conv => lhs; whnf; arg 2; whnf
|apply zAq rfl
 . conv => lhs; whnf
 . conv => lhs; whnf
 . first | exact hhd | exact hse
|exact zd
|exact zy
|exact (1000000 : Nat)
|exact trivial)
     all_goals first
      | exact zo (by omega)
      | exact zCA hi
      | ((simp only [ByteArray.size_append,zS,zT,List.size_toArray,List.length_append,List.length_cons,List.length_nil,maxLen,Nat.reduceAdd,Int.toNat_natCast]; omega); done)
      | skip
     refine zF (j':=j - 1) (by omega) ⟨i + 1,by omega,Sub.live ⟨rfl,?_,rfl,trivial⟩ ⟨rfl,trivial⟩⟩
     refine zFe ?_
     rw [zAS,hstep]
     simp only [zY,zAS,List.append_assoc]; rfl
   . have f1 : decide ((i : Int) > 0) = true:=decide_eq_true (by omega)
     rw [if_neg h0,opB_eq] at hstep
     repeat' (first
|apply zK
 . conv => lhs; whnf
 . assumption
|refine zB ?_
|refine zC ?_
|refine zQ ?_
|refine zU ?_
|apply aw_1
 conv => whnf
 refine ⟨?_,trivial⟩
|apply s_1
 conv => whnf; arg 1; arg 4; arg 3; whnf
 refine ⟨?_,?_⟩
|apply zAJ (by kernel_rfl) (by kernel_rfl)
|apply zAx
|apply zAw rfl
 . conv => lhs; whnf
 . conv => lhs; whnf; arg 2; whnf
|apply zAq rfl
 . conv => lhs; whnf
 . conv => lhs; whnf
 . first | exact hhd | exact hse
|exact zd
|exact zy
|exact (1000000 : Nat)
|exact trivial)
     all_goals first
      | exact zo (by omega)
      | exact zCA hi
      | ((simp only [ByteArray.size_append,zS,zT,List.size_toArray,List.length_append,List.length_cons,List.length_nil,maxLen,Nat.reduceAdd,Int.toNat_natCast]; omega); done)
      | skip
     refine zF (j':=j - 1) (by omega) ⟨i + 1,by omega,Sub.live ⟨rfl,?_,rfl,trivial⟩ ⟨rfl,trivial⟩⟩
     refine zFe ?_
     rw [zAS,hstep]
     simp only [zY,zAS,List.append_assoc]; rfl
 . have f0 : decide ((i : Int) < (a.length : Nat)) = false:=decide_eq_false (by omega)
   obtain rfl : i = a.length:=by omega
   repeat' (first
|apply zM
 . conv => lhs; whnf
 . assumption
|refine zB ?_
|refine zC ?_
|refine zQ ?_
|apply aw_1
 conv => whnf
 refine ⟨?_,trivial⟩
|apply s_1
 conv => whnf; arg 1; arg 4; arg 3; whnf
 refine ⟨?_,?_⟩
|refine zI ?_
|refine zE rfl ?_
|refine zG ?_
|exact trivial)
   refine zv (fun j st => ∃ i,i + j = b.length /\ Sub (cx EN Tryz.prog s w he) st (HqF K (f + 1) a b i)) b.length ⟨0,by omega,Sub.live ⟨rfl,rfl,rfl,trivial⟩ ⟨rfl,trivial⟩⟩ ?_
   rintro j2 st2 ⟨q,hqj,hs3⟩
   refine zu hs3 ?_
   clear hs3
   have hjq:=hjr (a.length + q)
   by_cases hq : q < b.length
   . have f2 : decide ((q : Int) < (b.length : Nat)) = true:=decide_eq_true (by omega)
     obtain ⟨o2,o3,o4⟩:=h.frg hq
     have hn0:=zAG ((gD b q).f 0)
     have hn1:=zAG ((gD b q).f 1)
     have hf0:=wD_f (gD b q) 0
     have hf1:=wD_f (gD b q) 1
     have hf2:=wD_f (gD b q) 2
     have hl2:=z7 ((gD b q).f 2)
     have hbd:=zZ (gD b q)
     have hsl:=zB4 K (f + 1) 1 ((gD b q).f 2).l fun z => (o3.f 2).l z
     have hs2 : (4 * (1 + (f + 1)) + 70) * bulkL ((gD b q).f 2).l <= 1274 * 8388608:=Nat.mul_le_mul (by omega) (by omega)
     have hse:=zH2 K f ((gD b q).f 2).l o2 (fun z => (o3.f 2).l z) (by omega) hdp
     have hstep:=jr_succ (blks_fr (K:=K) (f:=f + 1) (a:=a) hq)
     by_cases h0 : a.length + q = 0
     . have f1 : decide ((a.length : Int) + (q : Int) > 0) = false:=decide_eq_false (by omega)
       rw [if_pos h0,List.nil_append,zIV] at hstep
       repeat' (first
|apply zK
 . conv => lhs; whnf
 . assumption
|apply zM
 . conv => lhs; whnf
 . assumption
|refine zB ?_
|refine zC ?_
|refine zQ ?_
|refine zU ?_
|apply aw_1
 conv => whnf
 refine ⟨?_,trivial⟩
|apply s_1
 conv => whnf; arg 1; arg 4; arg 3; whnf
 refine ⟨?_,?_⟩
|apply zz rfl rfl rfl
 . conv => lhs; whnf
 . conv => lhs; whnf; arg 1; whnf
 . conv => lhs; whnf; arg 1; whnf
 . exact ⟨by kernel_rfl,by kernel_rfl⟩
 . rfl
|apply zAJ (by kernel_rfl) (by kernel_rfl)
|apply zAx
|apply zAw rfl
 . conv => lhs; whnf
 . conv => lhs; whnf; arg 2; whnf
|apply zAq rfl
 . conv => lhs; whnf
 . conv => lhs; whnf
 . first | exact hse
|exact zd
|exact zy
|exact (1000000 : Nat)
|exact trivial)
       all_goals first
        | exact zo (by omega)
        | exact zCA hq
        | ((simp only [ByteArray.size_append,zS,zT,List.size_toArray,List.length_append,List.length_cons,List.length_nil,maxLen,Nat.reduceAdd,Int.toNat_natCast]; omega); done)
        | skip
       refine zF (j':=j2 - 1) (by omega) ⟨q + 1,by omega,Sub.live ⟨rfl,?_,rfl,trivial⟩ ⟨rfl,trivial⟩⟩
       refine zFe ?_
       rw [zAS,show a.length + (q + 1) = a.length + q + 1 from rfl,hstep]
       simp only [zY,zAS,List.append_assoc]; rfl
     . have f1 : decide ((a.length : Int) + (q : Int) > 0) = true:=decide_eq_true (by omega)
       rw [if_neg h0,zIV] at hstep
       repeat' (first
|apply zK
 . conv => lhs; whnf
 . assumption
|refine zB ?_
|refine zC ?_
|refine zQ ?_
|refine zU ?_
|apply aw_1
 conv => whnf
 refine ⟨?_,trivial⟩
|apply s_1
 conv => whnf; arg 1; arg 4; arg 3; whnf
 refine ⟨?_,?_⟩
|apply zz rfl rfl rfl
 . conv => lhs; whnf
 . conv => lhs; whnf; arg 1; whnf
 . conv => lhs; whnf; arg 1; whnf
 . exact ⟨by kernel_rfl,by kernel_rfl⟩
 . rfl
|apply zAJ (by kernel_rfl) (by kernel_rfl)
|apply zAx
|apply zAw rfl
 . conv => lhs; whnf
 . conv => lhs; whnf; arg 2; whnf
|apply zAq rfl
 . conv => lhs; whnf
 . conv => lhs; whnf
 . first | exact hse
|exact zd
|exact zy
|exact (1000000 : Nat)
|exact trivial)
       all_goals first
        | exact zo (by omega)
        | exact zCA hq
        | ((simp only [ByteArray.size_append,zS,zT,List.size_toArray,List.length_append,List.length_cons,List.length_nil,maxLen,Nat.reduceAdd,Int.toNat_natCast]; omega); done)
        | skip
       refine zF (j':=j2 - 1) (by omega) ⟨q + 1,by omega,Sub.live ⟨rfl,?_,rfl,trivial⟩ ⟨rfl,trivial⟩⟩
       refine zFe ?_
       rw [zAS,show a.length + (q + 1) = a.length + q + 1 from rfl,hstep]
       simp only [zY,zAS,List.append_assoc]; rfl
   . have f2 : decide ((q : Int) < (b.length : Nat)) = false:=decide_eq_false (by omega)
     obtain rfl : q = b.length:=by omega
     repeat' (first
|apply zM
 . conv => lhs; whnf
 . assumption
|refine zB ?_
|refine zC ?_
|refine zQ ?_
|apply aw_1
 conv => whnf
 refine ⟨?_,trivial⟩
|apply s_1
 conv => whnf; arg 1; arg 4; arg 3; whnf
 refine ⟨?_,?_⟩
|refine zI ?_
|refine zE rfl ?_
|refine zG ?_
|refine zD ?_
|refine ⟨_,by conv => lhs; whnf; arg 2; whnf,?_⟩; conv => rhs; whnf
|exact trivial)
     rw [hend]
end Go.Proofs.YthjiclhfhjdjpaaGreatDoor
namespace Go.Proofs.YthjiclhfhjdjpaaGreatDoor
open Go.RowKit
set_option linter.unusedSectionVars false
attribute [local irreducible] wpList Calls Code.wp AW AWo OpOk seqK zAf zAh loopK endK AC zAD Yld Sub
attribute [local irreducible] ACB ACX absLexG YldG absLexH
theorem ind_no : ∀ (u cur : List UInt8),(∀ c ∈ u,c ≠ 10) -> indG cur u = if cur ++ u = [] then [] else [32,32] ++ (cur ++ u) ++ [10]
 | [],cur,_ => by rw [indG.eq_1,List.append_nil]
 | c :: u,cur,h => by
   rw [indG.eq_2,if_neg (h c (by simp)),ind_no u (cur ++ [c]) fun x hx => h x (by simp [hx])]
   simp
theorem zIN : ∀ (a cur b : List UInt8),(∀ c ∈ a,c ≠ 10) -> indG cur (a ++ 10 :: b) = [32,32] ++ (cur ++ a) ++ [10] ++ indG [] b
 | [],cur,b,_ => by
   show indG cur (10 :: b) = _
   rw [indG.eq_2,if_pos rfl,List.append_nil]
 | c :: a,cur,b,h => by
   show indG cur (c :: (a ++ 10 :: b)) = _
   rw [indG.eq_2,if_neg (h c (by simp)),zIN a (cur ++ [c]) b fun x hx => h x (by simp [hx])]
   simp
def docF31 (kind : Int) (f : D) : List UInt8:=docT 8388608 (24 + 1) (.obj [.list (fetchO 8 f kind),.list []])
theorem textP_ac (s0 f : D) (kind : Int) (h : CpP 8 (f.f 6).l) (hok : DocOk 8388608 24 (.obj [.list (fetchO 8 f kind),.list []])) :
 AC EN Tryz.prog 21 [.agg (cellsV Tryz.prog 12 29 s0),.agg (cellsV Tryz.prog 12 34 f),.c (.int .i64 kind)] (.c (.string (bs (docF31 kind f)))):=by
 have h1:=zGj EN 8 s0 f kind h
 have h2 : AC EN Tryz.prog 28 [.agg [.sl 57 (fetchO 8 f kind),.sl 116 []]] (.c (.string (bs (docF31 kind f)))):=printP_ac _ _ _ _ hok
 refine zO 12 Tryz.func21 rfl rfl rfl rfl ?_
 intro s w he
 repeat' (first
|refine zB ?_
|refine zC ?_
|refine zQ ?_
|apply aw_1
 conv => whnf
 refine ⟨?_,trivial⟩
|apply s_1
 conv => whnf; arg 1; arg 4; arg 3; whnf
 refine ⟨?_,?_⟩
|apply zl rfl
 . conv => lhs; whnf
 . conv => lhs; whnf
 . first | exact h1 | exact h2
|apply zAN rfl rfl rfl rfl
 . conv => lhs; whnf; arg 1; whnf
 . rfl
|refine zD ?_
|refine ⟨_,by conv => lhs; whnf; arg 2; whnf,?_⟩; conv => rhs; whnf
|exact trivial)
theorem textR31_ac (s0 f : D) (kind : Int) (h : CpP 8 (f.f 6).l) (hok : DocOk 8388608 24 (.obj [.list (fetchO 8 f kind),.list []])) :
 AC EN Tryz.prog 22 [.agg (cellsV Tryz.prog 12 29 s0),.agg (cellsV Tryz.prog 12 34 f),.c (.int .i64 kind)] (.c (.string (bs (docF31 kind f)))):=by
 have h1:=zGi EN 7 s0 f kind h
 have h2 : AC EN Tryz.prog 29 [.agg [.sl 57 (fetchO 8 f kind),.sl 116 []]] (.c (.string (bs (docF31 kind f)))):=printR_ac _ _ _ _ hok
 refine zO 12 Tryz.func22 rfl rfl rfl rfl ?_
 intro s w he
 repeat' (first
|refine zB ?_
|refine zC ?_
|refine zQ ?_
|apply aw_1
 conv => whnf
 refine ⟨?_,trivial⟩
|apply s_1
 conv => whnf; arg 1; arg 4; arg 3; whnf
 refine ⟨?_,?_⟩
|apply zl rfl
 . conv => lhs; whnf
 . conv => lhs; whnf
 . first | exact h1 | exact h2
|apply zAN rfl rfl rfl rfl
 . conv => lhs; whnf; arg 1; whnf
 . rfl
|refine zD ?_
|refine ⟨_,by conv => lhs; whnf; arg 2; whnf,?_⟩; conv => rhs; whnf
|exact trivial)
theorem zGN (gs : List D) (doc : D -> List UInt8) {fs : List D} {i : Nat} (h : i < fs.length) : showT gs doc (fs.drop i) i = zC1 gs i (gD fs i) ++ indT (doc (gD fs i)) ++ showT gs doc (fs.drop (i + 1)) (i + 1):=by
 rw [List.drop_eq_getElem_cons h,zAt h]
 rfl
structure PlanOk (gs : List D) (fs : List D) (kind : Int) : Prop where
 n : fs.length <= 12
 fo : ∀ i,i < fs.length -> FetOk gs (gD fs i)
 cp : ∀ i,i < fs.length -> CpP 8 ((gD fs i).f 6).l
 dk : ∀ i,i < fs.length -> DocOk 8388608 24 (.obj [.list (fetchO 8 (gD fs i) kind),.list []])
 dl : ∀ i,i < fs.length -> (docF31 kind (gD fs i)).length <= 20000000000
 sl : (showT gs (docF31 kind) fs 0).length <= 10000000000000
noncomputable def HsR (s0 p : D) (out : List UInt8) (i : Nat) : Vst 36:=
 stS 36 [(2,.bx 2 0),(3,.bx 3 0),(5,.c (.string (bs out))),(6,.c (.int .i64 (i : Int)))] [(2,.box 29 (cellsV Tryz.prog 12 29 s0)),(3,.box 45 (cellsV Tryz.prog 12 45 p))]
theorem showR_ac (s0 p : D) (h : PlanOk (s0.f 0).l (p.f 2).l (p.f 0).n) : AC EN Tryz.prog 20 [.agg (cellsV Tryz.prog 12 29 s0),.agg (cellsV Tryz.prog 12 45 p)] (.c (.string (bs (showT (s0.f 0).l (docF31 (p.f 0).n) (p.f 2).l 0)))):=by
 have hsl:=h.sl
 have hnn:=h.n
 refine zO 36 Tryz.func20 rfl rfl rfl rfl ?_
 intro s w he
 repeat' (first
|refine zB ?_
|refine zC ?_
|refine zQ ?_
|apply aw_1
 conv => whnf
 refine ⟨?_,trivial⟩
|apply s_1
 conv => whnf; arg 1; arg 4; arg 3; whnf
 refine ⟨?_,?_⟩
|apply zAN rfl rfl rfl rfl
 . conv => lhs; whnf; arg 1; whnf
 . rfl
|exact trivial)
 refine zv (fun j st => ∃ i out,i + j = (p.f 2).l.length /\ out ++ showT (s0.f 0).l (docF31 (p.f 0).n) ((p.f 2).l.drop i) i = showT (s0.f 0).l (docF31 (p.f 0).n) (p.f 2).l 0 /\ Sub (cx EN Tryz.prog s w he) st (HsR s0 p out i)) (p.f 2).l.length ⟨0,[],by omega,rfl,Sub.live ⟨rfl,rfl,rfl,rfl,trivial⟩ ⟨rfl,rfl,trivial⟩⟩ ?_
 rintro j st ⟨i,out,hij,hR,hs2⟩
 refine zu hs2 ?_
 clear hs2
 by_cases hi : i < (p.f 2).l.length
 . have f0 : decide ((i : Int) < ((p.f 2).l.length : Nat)) = true:=decide_eq_true (by omega)
   have h1:=ln31R_ac s0 (gD (p.f 2).l i) i ⟨by omega,by omega⟩ (h.fo i hi)
   have h2:=textR31_ac s0 (gD (p.f 2).l i) (p.f 0).n (h.cp i hi) (h.dk i hi)
   have h3:=indR_ac (docF31 (p.f 0).n (gD (p.f 2).l i)) (h.dl i hi)
   rw [zGN _ _ hi] at hR
   have hl:=congrArg List.length hR
   simp only [List.length_append] at hl
   repeat' (first
|apply zK
 . conv => lhs; whnf
 . assumption
|refine zB ?_
|refine zC ?_
|refine zQ ?_
|refine zU ?_
|apply aw_1
 conv => whnf
 refine ⟨?_,trivial⟩
|apply s_1
 conv => whnf; arg 1; arg 4; arg 3; whnf
 refine ⟨?_,?_⟩
|apply zAJ (by kernel_rfl) (by kernel_rfl)
|apply zAx
|apply zAw rfl
 . conv => lhs; whnf
 . conv => lhs; whnf; arg 2; whnf
|apply zAq rfl
 . conv => lhs; whnf
 . conv => lhs; whnf
 . first | exact h1 | exact h2 | exact h3
|exact zd
|exact zy
|exact (1000000 : Nat)
|exact trivial)
   all_goals first
    | exact zo (by omega)
    | exact at31 hi
    | (simp only [ByteArray.size_append,zS,maxLen]; omega)
    | skip
   refine zF (j':=j - 1) (by omega) ⟨i + 1,out ++ zC1 (s0.f 0).l i (gD (p.f 2).l i) ++ indT (docF31 (p.f 0).n (gD (p.f 2).l i)),by omega,?_,Sub.live ⟨rfl,rfl,zCR ?_,rfl,trivial⟩ ⟨rfl,rfl,trivial⟩⟩
   . rw [<- hR]
     simp only [List.append_assoc]
   . simp only [zY,zAS]
 . have f0 : decide ((i : Int) < ((p.f 2).l.length : Nat)) = false:=decide_eq_false (by omega)
   rw [List.drop_of_length_le (by omega)] at hR
   have hR : out = showT (s0.f 0).l (docF31 (p.f 0).n) (p.f 2).l 0:=by rw [<- hR]; simp [showT]
   subst hR
   repeat' (first
|apply zM
 . conv => lhs; whnf
 . assumption
|refine zB ?_
|refine zC ?_
|refine zQ ?_
|apply aw_1
 conv => whnf
 refine ⟨?_,trivial⟩
|apply s_1
 conv => whnf; arg 1; arg 4; arg 3; whnf
 refine ⟨?_,?_⟩
|refine zI ?_
|refine zE rfl ?_
|refine zG ?_
|refine zD ?_
|refine ⟨_,by conv => lhs; whnf; arg 2; whnf,?_⟩; conv => rhs; whnf
|exact trivial)
theorem bff31 {b : Bool} (h : b = false) : (b == false) = true:=by rw [h]; rfl
theorem pos31 (l : List D) : decide (((l.length : Nat) : Int) > 0) = decide (0 < l.length):=by rw [decide_eq_decide]; omega
noncomputable def HLg (l : List D) (k i : Nat) : Vst 36:=stS 36 [(0,.sl 73 l),(1,.c (.int .i64 (k : Int))),(5,.c (.int .i64 (i : Int)))] []
theorem zFF (E0 : Ge) : ∀ (k : Nat) (l : List D),k <= 100 -> AC E0 Tryz.prog 39 [.sl 73 l,.c (.int .i64 (k : Int))] (.c (.bool (largeB k l)))
 | 0,l,_ => by
   refine zO 36 Tryz.func39 rfl rfl rfl rfl ?_
   intro s w he
   repeat' (first
|apply s_wanted_pick_t rfl rfl rfl
 . conv => lhs; whnf
 . first | rfl | assumption | decide +kernel
 . conv => lhs; whnf
 . first | decide +kernel | rfl
|apply zAi rfl rfl rfl
 . conv => lhs; whnf
 . first | rfl | assumption | decide +kernel
 . conv => lhs; whnf
 . first | decide +kernel | rfl
|apply s_wanted_pick_f rfl rfl rfl
 . conv => lhs; whnf
 . first | rfl | assumption | decide +kernel
 . conv => lhs; whnf
 . first | decide +kernel | rfl
|apply zAg rfl rfl rfl
 . conv => lhs; whnf
 . first | rfl | assumption | decide +kernel
 . conv => lhs; whnf
 . first | decide +kernel | rfl
|apply aw_rounds 7
|refine k_rnd ?_
|refine k_rnd_exit ?_
|refine k_rnd_ret ?_
|apply zK
 . conv => lhs; whnf
 . decide +kernel
|apply zM
 . conv => lhs; whnf
 . decide +kernel
|refine zB ?_
|refine zC ?_
|refine zQ ?_
|refine zU ?_
|refine zAT ?_
|apply aw_1
 conv => whnf
 refine ⟨?_,trivial⟩
|apply ze rfl rfl
 . conv => lhs; whnf
 . conv => lhs; whnf
 . first | decide +kernel
|apply zm rfl rfl
 . conv => lhs; whnf
 . conv => lhs; whnf
 . first | decide +kernel
|apply s_1
 conv => whnf; arg 1; arg 4; arg 3; whnf
 refine ⟨?_,?_⟩
|apply zAj rfl
 . conv => lhs; whnf
 . conv => lhs; whnf; arg 2; whnf
|apply zl rfl
 . conv => lhs; whnf
 . conv => lhs; whnf
 . first | fail
|apply zJ rfl
 . conv => lhs; whnf
 . conv => lhs; whnf
 . first | rfl | assumption | decide +kernel
 . conv => lhs; whnf; arg 2; whnf
|apply zX rfl
 . conv => lhs; whnf
 . conv => lhs; whnf
 . first | rfl | assumption | decide +kernel
 . conv => lhs; whnf
 . first | fail
|apply zAA rfl
 . conv => lhs; whnf
 . conv => lhs; whnf
 . first | rfl | assumption | decide +kernel
|apply zCU rfl
 . conv => lhs; whnf
 . rfl
 . rfl
|apply zW rfl
 . conv => lhs; whnf
 . conv => lhs; whnf
 . conv => lhs; whnf; arg 2; whnf
|apply zAa rfl
 . conv => lhs; whnf
 . conv => lhs; whnf
 . conv => lhs; whnf
 . first | fail
|apply zAF rfl
 . conv => lhs; whnf
 . conv => lhs; whnf
 . conv => lhs; whnf; arg 2; whnf
|apply zAV rfl
 . conv => lhs; whnf
 . conv => lhs; whnf
 . conv => lhs; whnf
 . first | fail
|apply zw
 . conv => lhs; whnf; arg 1; arg 1; whnf
|apply z8
 . conv => lhs; whnf; arg 1; arg 1; whnf
|refine zV (by conv => lhs; whnf) ?_ ?_ <;> intro hb
|refine zAQ ?_
|refine zAO ?_
|refine zI ?_
|refine zN ?_
|refine zL ?_
|refine zE rfl ?_
|refine zb rfl ?_
|refine zf ?_
|refine zn ?_
|refine zG ?_
|refine za ?_
|refine zA7 ?_
|refine zD ?_
|refine ⟨_,by conv => lhs; whnf; arg 2; whnf,?_⟩; conv => rhs; whnf
|exact trivial
|intro hg)
   all_goals rfl
 | k + 1,l,hk => by
   have f0 : decide (((k + 1 : Nat) : Int) <= 0) = false:=decide_eq_false (by omega)
   have f1:=bff31 f0
   have ih:=fun (l : List D) => zFF E0 k l (by omega)
   have e1 : (((k + 1 : Nat) : Int) - 1) = (k : Int):=by omega
   rw [<- e1] at ih
   by_cases hl : 60 < l.length
   . have f2 : decide ((l.length : Int) > 60) = true:=decide_eq_true (by omega)
     have e : largeB (k + 1) l = true:=by unfold largeB; rw [decide_eq_true hl]; rfl
     rw [e]
     refine zO 36 Tryz.func39 rfl rfl rfl rfl ?_
     intro s w he
     repeat' (first
|apply s_wanted_pick_t rfl rfl rfl
 . conv => lhs; whnf
 . first | rfl | assumption
 . conv => lhs; whnf
 . first | exact bT1 ‹_› | exact bT2 ‹_› | rfl
|apply zAi rfl rfl rfl
 . conv => lhs; whnf
 . first | rfl | assumption
 . conv => lhs; whnf
 . first | exact bT1 ‹_› | exact bT2 ‹_› | rfl
|apply s_wanted_pick_f rfl rfl rfl
 . conv => lhs; whnf
 . first | rfl | assumption
 . conv => lhs; whnf
 . first | exact bF1 ‹_› | exact bF2 ‹_› | rfl
|apply zAg rfl rfl rfl
 . conv => lhs; whnf
 . first | rfl | assumption
 . conv => lhs; whnf
 . first | exact bF1 ‹_› | exact bF2 ‹_› | rfl
|apply zK
 . conv => lhs; whnf
 . assumption
|apply zM
 . conv => lhs; whnf
 . assumption
|refine zAM ?_
|refine zAE ?_
|refine zBB ?_
|refine zB ?_
|refine zC ?_
|refine zQ ?_
|refine zU ?_
|refine zAT ?_
|apply aw_1
 conv => whnf
 refine ⟨?_,trivial⟩
|apply ze rfl rfl
 . conv => lhs; whnf
 . conv => lhs; whnf
 . first | exact bT1 ‹_› | exact bT2 ‹_›
|apply zm rfl rfl
 . conv => lhs; whnf
 . conv => lhs; whnf
 . first | exact bF1 ‹_› | exact bF2 ‹_›
|apply s_1
 conv => whnf; arg 1; arg 4; arg 3; whnf
 refine ⟨?_,?_⟩
|apply zAj rfl
 . conv => lhs; whnf
 . conv => lhs; whnf; arg 2; whnf
|apply zl rfl
 . conv => lhs; whnf
 . conv => lhs; whnf
 . first | fail
|apply zJ rfl
 . conv => lhs; whnf
 . conv => lhs; whnf
 . first | rfl | assumption
 . conv => lhs; whnf; arg 2; whnf
|apply zX rfl
 . conv => lhs; whnf
 . conv => lhs; whnf
 . first | rfl | assumption
 . conv => lhs; whnf
 . first | fail
|apply zAA rfl
 . conv => lhs; whnf
 . conv => lhs; whnf
 . first | rfl | assumption
|apply zCU rfl
 . conv => lhs; whnf
 . rfl
 . rfl
|apply zW rfl
 . conv => lhs; whnf
 . conv => lhs; whnf
 . conv => lhs; whnf; arg 2; whnf
|apply zAa rfl
 . conv => lhs; whnf
 . conv => lhs; whnf
 . conv => lhs; whnf
 . first | fail
|apply zAF rfl
 . conv => lhs; whnf
 . conv => lhs; whnf
 . conv => lhs; whnf; arg 2; whnf
|apply zAV rfl
 . conv => lhs; whnf
 . conv => lhs; whnf
 . conv => lhs; whnf
 . first | fail
|apply zw
 . conv => lhs; whnf; arg 1; arg 1; whnf
|apply z8
 . conv => lhs; whnf; arg 1; arg 1; whnf
|refine zV (by conv => lhs; whnf) ?_ ?_ <;> intro hb
|refine zAQ ?_
|refine zAO ?_
|refine zI ?_
|refine zN ?_
|refine zL ?_
|refine zE rfl ?_
|refine zb rfl ?_
|refine zf ?_
|refine zn ?_
|refine zG ?_
|refine za ?_
|refine zA7 ?_
|refine zD ?_
|refine ⟨_,by conv => lhs; whnf; arg 2; whnf,?_⟩; conv => rhs; whnf
|exact trivial
|intro hg)
     all_goals rfl
   . have f2 : decide ((l.length : Int) > 60) = false:=decide_eq_false (by omega)
     have e : largeB (k + 1) l = l.any fun p => decide (0 < (p.f 7).l.length) && largeB k (p.f 7).l:=by
      show (decide (60 < l.length) || _) = _
      rw [decide_eq_false hl,Bool.false_or]
     rw [e]
     refine zO 36 Tryz.func39 rfl rfl rfl rfl ?_
     intro s w he
     repeat' (first
|apply s_wanted_pick_t rfl rfl rfl
 . conv => lhs; whnf
 . first | rfl | assumption
 . conv => lhs; whnf
 . first | exact bT1 ‹_› | exact bT2 ‹_› | rfl
|apply zAi rfl rfl rfl
 . conv => lhs; whnf
 . first | rfl | assumption
 . conv => lhs; whnf
 . first | exact bT1 ‹_› | exact bT2 ‹_› | rfl
|apply s_wanted_pick_f rfl rfl rfl
 . conv => lhs; whnf
 . first | rfl | assumption
 . conv => lhs; whnf
 . first | exact bF1 ‹_› | exact bF2 ‹_› | rfl
|apply zAg rfl rfl rfl
 . conv => lhs; whnf
 . first | rfl | assumption
 . conv => lhs; whnf
 . first | exact bF1 ‹_› | exact bF2 ‹_› | rfl
|apply zK
 . conv => lhs; whnf
 . assumption
|apply zM
 . conv => lhs; whnf
 . assumption
|refine zAM ?_
|refine zAE ?_
|refine zBB ?_
|refine zB ?_
|refine zC ?_
|refine zQ ?_
|refine zU ?_
|refine zAT ?_
|apply aw_1
 conv => whnf
 refine ⟨?_,trivial⟩
|apply ze rfl rfl
 . conv => lhs; whnf
 . conv => lhs; whnf
 . first | exact bT1 ‹_› | exact bT2 ‹_›
|apply zm rfl rfl
 . conv => lhs; whnf
 . conv => lhs; whnf
 . first | exact bF1 ‹_› | exact bF2 ‹_›
|apply s_1
 conv => whnf; arg 1; arg 4; arg 3; whnf
 refine ⟨?_,?_⟩
|apply zAj rfl
 . conv => lhs; whnf
 . conv => lhs; whnf; arg 2; whnf
|apply zl rfl
 . conv => lhs; whnf
 . conv => lhs; whnf
 . first | fail
|apply zJ rfl
 . conv => lhs; whnf
 . conv => lhs; whnf
 . first | rfl | assumption
 . conv => lhs; whnf; arg 2; whnf
|apply zX rfl
 . conv => lhs; whnf
 . conv => lhs; whnf
 . first | rfl | assumption
 . conv => lhs; whnf
 . first | fail
|apply zAA rfl
 . conv => lhs; whnf
 . conv => lhs; whnf
 . first | rfl | assumption
|apply zCU rfl
 . conv => lhs; whnf
 . rfl
 . rfl
|apply zW rfl
 . conv => lhs; whnf
 . conv => lhs; whnf
 . conv => lhs; whnf; arg 2; whnf
|apply zAa rfl
 . conv => lhs; whnf
 . conv => lhs; whnf
 . conv => lhs; whnf
 . first | fail
|apply zAF rfl
 . conv => lhs; whnf
 . conv => lhs; whnf
 . conv => lhs; whnf; arg 2; whnf
|apply zAV rfl
 . conv => lhs; whnf
 . conv => lhs; whnf
 . conv => lhs; whnf
 . first | fail
|apply zw
 . conv => lhs; whnf; arg 1; arg 1; whnf
|apply z8
 . conv => lhs; whnf; arg 1; arg 1; whnf
|refine zV (by conv => lhs; whnf) ?_ ?_ <;> intro hb
|refine zAQ ?_
|refine zAO ?_
|refine zI ?_
|refine zN ?_
|refine zL ?_
|refine zE rfl ?_
|refine zb rfl ?_
|refine zf ?_
|refine zn ?_
|refine zG ?_
|refine za ?_
|refine zA7 ?_
|refine zD ?_
|refine ⟨_,by conv => lhs; whnf; arg 2; whnf,?_⟩; conv => rhs; whnf
|exact trivial
|intro hg)
     refine zv (fun j st => ∃ i,i + j = l.length /\ (∀ m,m < i -> (decide (0 < ((gD l m).f 7).l.length) && largeB k ((gD l m).f 7).l) = false) /\ Sub (cx E0 Tryz.prog s w he) st (HLg l (k + 1) i)) l.length ⟨0,by omega,fun m hm => absurd hm (Nat.not_lt_zero m),Sub.live ⟨rfl,rfl,rfl,trivial⟩ trivial⟩ ?_
     rintro j st ⟨i,hij,hno,hs2⟩
     refine zu hs2 ?_
     clear hs2
     by_cases hi : i < l.length
     . have g0 : decide ((i : Int) < (l.length : Nat)) = true:=decide_eq_true (by omega)
       have ih2:=ih ((gD l i).f 7).l
       have hp : decide ((((gD l i).f 7).l.length : Int) > 0) = decide (0 < ((gD l i).f 7).l.length):=pos31 _
       rcases h1 : decide (0 < ((gD l i).f 7).l.length) with _ | _
       . rw [h1] at hp
         have g1:=zDy hp
         repeat' (first
|apply s_wanted_pick_t rfl rfl rfl
 . conv => lhs; whnf
 . first | rfl | assumption
 . conv => lhs; whnf
 . first | exact bT1 ‹_› | exact bT2 ‹_› | rfl
|apply zAi rfl rfl rfl
 . conv => lhs; whnf
 . first | rfl | assumption
 . conv => lhs; whnf
 . first | exact bT1 ‹_› | exact bT2 ‹_› | rfl
|apply s_wanted_pick_f rfl rfl rfl
 . conv => lhs; whnf
 . first | rfl | assumption
 . conv => lhs; whnf
 . first | exact bF1 ‹_› | exact bF2 ‹_› | rfl
|apply zAg rfl rfl rfl
 . conv => lhs; whnf
 . first | rfl | assumption
 . conv => lhs; whnf
 . first | exact bF1 ‹_› | exact bF2 ‹_› | rfl
|apply zK
 . conv => lhs; whnf
 . assumption
|apply zM
 . conv => lhs; whnf
 . assumption
|refine zAM ?_
|refine zAE ?_
|refine zBB ?_
|refine zB ?_
|refine zC ?_
|refine zQ ?_
|refine zU ?_
|refine zAT ?_
|apply aw_1
 conv => whnf
 refine ⟨?_,trivial⟩
|apply ze rfl rfl
 . conv => lhs; whnf
 . conv => lhs; whnf
 . first | exact bT1 ‹_› | exact bT2 ‹_›
|apply zm rfl rfl
 . conv => lhs; whnf
 . conv => lhs; whnf
 . first | exact bF1 ‹_› | exact bF2 ‹_›
|apply s_1
 conv => whnf; arg 1; arg 4; arg 3; whnf
 refine ⟨?_,?_⟩
|apply zAj rfl
 . conv => lhs; whnf
 . conv => lhs; whnf; arg 2; whnf
|apply zl rfl
 . conv => lhs; whnf
 . conv => lhs; whnf
 . first | fail
|apply zJ rfl
 . conv => lhs; whnf
 . conv => lhs; whnf
 . first | rfl | assumption
 . conv => lhs; whnf; arg 2; whnf
|apply zX rfl
 . conv => lhs; whnf
 . conv => lhs; whnf
 . first | rfl | assumption
 . conv => lhs; whnf
 . first | fail
|apply zAA rfl
 . conv => lhs; whnf
 . conv => lhs; whnf
 . first | rfl | assumption
|apply zCU rfl
 . conv => lhs; whnf
 . rfl
 . rfl
|apply zW rfl
 . conv => lhs; whnf
 . conv => lhs; whnf
 . conv => lhs; whnf; arg 2; whnf
|apply zAa rfl
 . conv => lhs; whnf
 . conv => lhs; whnf
 . conv => lhs; whnf
 . first | fail
|apply zAF rfl
 . conv => lhs; whnf
 . conv => lhs; whnf
 . conv => lhs; whnf; arg 2; whnf
|apply zAV rfl
 . conv => lhs; whnf
 . conv => lhs; whnf
 . conv => lhs; whnf
 . first | fail
|apply zw
 . conv => lhs; whnf; arg 1; arg 1; whnf
|apply z8
 . conv => lhs; whnf; arg 1; arg 1; whnf
|refine zV (by conv => lhs; whnf) ?_ ?_ <;> intro hb
|refine zAQ ?_
|refine zAO ?_
|refine zI ?_
|refine zN ?_
|refine zL ?_
|refine zE rfl ?_
|refine zb rfl ?_
|refine zf ?_
|refine zn ?_
|refine zG ?_
|refine za ?_
|refine zA7 ?_
|refine zD ?_
|refine ⟨_,by conv => lhs; whnf; arg 2; whnf,?_⟩; conv => rhs; whnf
|exact trivial
|intro hg)
         all_goals first
          | exact zo (by omega)
          | exact at31 hi
          | skip
         refine zF (j':=j - 1) (by omega) ⟨i + 1,by omega,fun m hm => ?_,Sub.live ⟨rfl,rfl,rfl,trivial⟩ trivial⟩
         by_cases em : m = i
         . subst em; rw [h1]; rfl
         . exact hno m (by omega)
       . rw [h1] at hp
         have g1:=zCN hp
         rcases h2 : largeB k ((gD l i).f 7).l with _ | _
         . rw [h2] at ih2
           repeat' (first
|apply s_wanted_pick_t rfl rfl rfl
 . conv => lhs; whnf
 . first | rfl | assumption
 . conv => lhs; whnf
 . first | exact bT1 ‹_› | exact bT2 ‹_› | rfl
|apply zAi rfl rfl rfl
 . conv => lhs; whnf
 . first | rfl | assumption
 . conv => lhs; whnf
 . first | exact bT1 ‹_› | exact bT2 ‹_› | rfl
|apply s_wanted_pick_f rfl rfl rfl
 . conv => lhs; whnf
 . first | rfl | assumption
 . conv => lhs; whnf
 . first | exact bF1 ‹_› | exact bF2 ‹_› | rfl
|apply zAg rfl rfl rfl
 . conv => lhs; whnf
 . first | rfl | assumption
 . conv => lhs; whnf
 . first | exact bF1 ‹_› | exact bF2 ‹_› | rfl
|apply zK
 . conv => lhs; whnf
 . assumption
|apply zM
 . conv => lhs; whnf
 . assumption
|refine zAM ?_
|refine zAE ?_
|refine zBB ?_
|refine zB ?_
|refine zC ?_
|refine zQ ?_
|refine zU ?_
|refine zAT ?_
|apply aw_1
 conv => whnf
 refine ⟨?_,trivial⟩
|apply ze rfl rfl
 . conv => lhs; whnf
 . conv => lhs; whnf
 . first | exact bT1 ‹_› | exact bT2 ‹_›
|apply zm rfl rfl
 . conv => lhs; whnf
 . conv => lhs; whnf
 . first | exact bF1 ‹_› | exact bF2 ‹_›
|apply s_1
 conv => whnf; arg 1; arg 4; arg 3; whnf
 refine ⟨?_,?_⟩
|apply zAj rfl
 . conv => lhs; whnf
 . conv => lhs; whnf; arg 2; whnf
|apply zl rfl
 . conv => lhs; whnf
 . conv => lhs; whnf
 . first | exact ih2
|apply zJ rfl
 . conv => lhs; whnf
 . conv => lhs; whnf
 . first | rfl | assumption
 . conv => lhs; whnf; arg 2; whnf
|apply zX rfl
 . conv => lhs; whnf
 . conv => lhs; whnf
 . first | rfl | assumption
 . conv => lhs; whnf
 . first | exact ih2
|apply zAA rfl
 . conv => lhs; whnf
 . conv => lhs; whnf
 . first | rfl | assumption
|apply zCU rfl
 . conv => lhs; whnf
 . rfl
 . rfl
|apply zW rfl
 . conv => lhs; whnf
 . conv => lhs; whnf
 . conv => lhs; whnf; arg 2; whnf
|apply zAa rfl
 . conv => lhs; whnf
 . conv => lhs; whnf
 . conv => lhs; whnf
 . first | exact ih2
|apply zAF rfl
 . conv => lhs; whnf
 . conv => lhs; whnf
 . conv => lhs; whnf; arg 2; whnf
|apply zAV rfl
 . conv => lhs; whnf
 . conv => lhs; whnf
 . conv => lhs; whnf
 . first | exact ih2
|apply zw
 . conv => lhs; whnf; arg 1; arg 1; whnf
|apply z8
 . conv => lhs; whnf; arg 1; arg 1; whnf
|refine zV (by conv => lhs; whnf) ?_ ?_ <;> intro hb
|refine zAQ ?_
|refine zAO ?_
|refine zI ?_
|refine zN ?_
|refine zL ?_
|refine zE rfl ?_
|refine zb rfl ?_
|refine zf ?_
|refine zn ?_
|refine zG ?_
|refine za ?_
|refine zA7 ?_
|refine zD ?_
|refine ⟨_,by conv => lhs; whnf; arg 2; whnf,?_⟩; conv => rhs; whnf
|exact trivial
|intro hg)
           all_goals first
            | exact zo (by omega)
            | exact at31 hi
            | skip
           refine zF (j':=j - 1) (by omega) ⟨i + 1,by omega,fun m hm => ?_,Sub.live ⟨rfl,rfl,rfl,trivial⟩ trivial⟩
           by_cases em : m = i
           . subst em; rw [h2,Bool.and_false]
           . exact hno m (by omega)
         . rw [h2] at ih2
           repeat' (first
|apply s_wanted_pick_t rfl rfl rfl
 . conv => lhs; whnf
 . first | rfl | assumption
 . conv => lhs; whnf
 . first | exact bT1 ‹_› | exact bT2 ‹_› | rfl
|apply zAi rfl rfl rfl
 . conv => lhs; whnf
 . first | rfl | assumption
 . conv => lhs; whnf
 . first | exact bT1 ‹_› | exact bT2 ‹_› | rfl
|apply s_wanted_pick_f rfl rfl rfl
 . conv => lhs; whnf
 . first | rfl | assumption
 . conv => lhs; whnf
 . first | exact bF1 ‹_› | exact bF2 ‹_› | rfl
|apply zAg rfl rfl rfl
 . conv => lhs; whnf
 . first | rfl | assumption
 . conv => lhs; whnf
 . first | exact bF1 ‹_› | exact bF2 ‹_› | rfl
|apply zK
 . conv => lhs; whnf
 . assumption
|apply zM
 . conv => lhs; whnf
 . assumption
|refine zAM ?_
|refine zAE ?_
|refine zBB ?_
|refine zB ?_
|refine zC ?_
|refine zQ ?_
|refine zU ?_
|refine zAT ?_
|apply aw_1
 conv => whnf
 refine ⟨?_,trivial⟩
|apply ze rfl rfl
 . conv => lhs; whnf
 . conv => lhs; whnf
 . first | exact bT1 ‹_› | exact bT2 ‹_›
|apply zm rfl rfl
 . conv => lhs; whnf
 . conv => lhs; whnf
 . first | exact bF1 ‹_› | exact bF2 ‹_›
|apply s_1
 conv => whnf; arg 1; arg 4; arg 3; whnf
 refine ⟨?_,?_⟩
|apply zAj rfl
 . conv => lhs; whnf
 . conv => lhs; whnf; arg 2; whnf
|apply zl rfl
 . conv => lhs; whnf
 . conv => lhs; whnf
 . first | exact ih2
|apply zJ rfl
 . conv => lhs; whnf
 . conv => lhs; whnf
 . first | rfl | assumption
 . conv => lhs; whnf; arg 2; whnf
|apply zX rfl
 . conv => lhs; whnf
 . conv => lhs; whnf
 . first | rfl | assumption
 . conv => lhs; whnf
 . first | exact ih2
|apply zAA rfl
 . conv => lhs; whnf
 . conv => lhs; whnf
 . first | rfl | assumption
|apply zCU rfl
 . conv => lhs; whnf
 . rfl
 . rfl
|apply zW rfl
 . conv => lhs; whnf
 . conv => lhs; whnf
 . conv => lhs; whnf; arg 2; whnf
|apply zAa rfl
 . conv => lhs; whnf
 . conv => lhs; whnf
 . conv => lhs; whnf
 . first | exact ih2
|apply zAF rfl
 . conv => lhs; whnf
 . conv => lhs; whnf
 . conv => lhs; whnf; arg 2; whnf
|apply zAV rfl
 . conv => lhs; whnf
 . conv => lhs; whnf
 . conv => lhs; whnf
 . first | exact ih2
|apply zw
 . conv => lhs; whnf; arg 1; arg 1; whnf
|apply z8
 . conv => lhs; whnf; arg 1; arg 1; whnf
|refine zV (by conv => lhs; whnf) ?_ ?_ <;> intro hb
|refine zAQ ?_
|refine zAO ?_
|refine zI ?_
|refine zN ?_
|refine zL ?_
|refine zE rfl ?_
|refine zb rfl ?_
|refine zf ?_
|refine zn ?_
|refine zG ?_
|refine za ?_
|refine zA7 ?_
|refine zD ?_
|refine ⟨_,by conv => lhs; whnf; arg 2; whnf,?_⟩; conv => rhs; whnf
|exact trivial
|intro hg)
           all_goals first
            | exact zo (by omega)
            | exact at31 hi
            | skip
           refine congrArg (fun b => V.c (.bool b)) ?_
           refine (List.any_eq_true.2 ⟨gD l i,by rw [zAt hi]; exact List.getElem_mem hi,?_⟩)
           rw [h1,h2]; rfl
     . have g0 : decide ((i : Int) < (l.length : Nat)) = false:=decide_eq_false (by omega)
       repeat' (first
|apply zK
 . conv => lhs; whnf
 . assumption
|apply zM
 . conv => lhs; whnf
 . assumption
|refine zAM ?_
|refine zAE ?_
|refine zBB ?_
|refine zB ?_
|refine zC ?_
|refine zQ ?_
|refine zU ?_
|refine zAT ?_
|apply aw_1
 conv => whnf
 refine ⟨?_,trivial⟩
|apply ze rfl rfl
 . conv => lhs; whnf
 . conv => lhs; whnf
 . first | exact bT1 ‹_› | exact bT2 ‹_›
|apply zm rfl rfl
 . conv => lhs; whnf
 . conv => lhs; whnf
 . first | exact bF1 ‹_› | exact bF2 ‹_›
|apply s_1
 conv => whnf; arg 1; arg 4; arg 3; whnf
 refine ⟨?_,?_⟩
|apply zAj rfl
 . conv => lhs; whnf
 . conv => lhs; whnf; arg 2; whnf
|apply zl rfl
 . conv => lhs; whnf
 . conv => lhs; whnf
 . first | fail
|apply zJ rfl
 . conv => lhs; whnf
 . conv => lhs; whnf
 . first | rfl | assumption
 . conv => lhs; whnf; arg 2; whnf
|apply zX rfl
 . conv => lhs; whnf
 . conv => lhs; whnf
 . first | rfl | assumption
 . conv => lhs; whnf
 . first | fail
|apply zDH rfl
 . conv => lhs; whnf
 . conv => lhs; whnf
 . first | rfl | assumption
|apply zAF rfl
 . conv => lhs; whnf
 . conv => lhs; whnf
 . conv => lhs; whnf; arg 2; whnf
|apply zAV rfl
 . conv => lhs; whnf
 . conv => lhs; whnf
 . conv => lhs; whnf
 . first | fail
|apply zw
 . conv => lhs; whnf; arg 1; arg 1; whnf
|apply z8
 . conv => lhs; whnf; arg 1; arg 1; whnf
|refine zV (by conv => lhs; whnf) ?_ ?_ <;> intro hb
|refine zAQ ?_
|refine zAO ?_
|refine zI ?_
|refine zN ?_
|refine zL ?_
|refine zE rfl ?_
|refine zb rfl ?_
|refine zf ?_
|refine zn ?_
|refine zG ?_
|refine za ?_
|refine zA7 ?_
|refine zD ?_
|refine ⟨_,by conv => lhs; whnf; arg 2; whnf,?_⟩; conv => rhs; whnf
|exact trivial
|intro hg)
       refine congrArg (fun b => V.c (.bool b)) ?_
       rw [List.any_eq_false]
       intro x hx
       obtain ⟨m,hm,rfl⟩:=List.getElem_of_mem hx
       rw [<- zAt hm,hno m (by omega)]
       decide
def namS (d : D) : Bool:=nameB d.s
def namH (h : D) : Bool:=nameB (h.f 0).s && nameB (h.f 1).s
def zDN (gs : List D) (f : D) : Bool:=gs.all namS && (f.f 4).l.all namS && (f.f 2).l.all namH && nameB (f.f 3).s
theorem all_no {l : List D} {p : D -> Bool} {i : Nat} (hi : i < l.length) (h : p (gD l i) = false) : l.all p = false:=by
 rw [List.all_eq_false]
 exact ⟨gD l i,by rw [zAt hi]; exact List.getElem_mem hi,by rw [h]; decide⟩
theorem zHl {l : List D} {p : D -> Bool} (h : ∀ m,m < l.length -> p (gD l m) = true) : l.all p = true:=by
 rw [List.all_eq_true]
 intro x hx
 obtain ⟨m,hm,rfl⟩:=List.getElem_of_mem hx
 rw [<- zAt hm]
 exact h m hm
structure SzOk (gs : List D) (f : D) : Prop where
 lg : gs.length <= 1000000000
 lk : (f.f 4).l.length <= 1000000000
 lp : (f.f 2).l.length <= 1000000000
 sg : ∀ j,j < gs.length -> (gD gs j).s.size <= 1000000000
 sk : ∀ j,j < (f.f 4).l.length -> (gD (f.f 4).l j).s.size <= 1000000000
 sp : ∀ j,j < (f.f 2).l.length -> ((gD (f.f 2).l j).f 0).s.size <= 1000000000 /\ ((gD (f.f 2).l j).f 1).s.size <= 1000000000
 st : (f.f 3).s.size <= 1000000000
noncomputable def HNm (s f : D) (c : Nat) (i : Nat) : Vst 64:=
 stS 64 [(2,.bx 2 0),(3,.bx 3 0),(c,.c (.int .i64 (i : Int)))] [(2,.box 29 (cellsV Tryz.prog 12 29 s)),(3,.box 34 (cellsV Tryz.prog 12 34 f))]
theorem named31_ac (s0 f : D) (h : SzOk (s0.f 0).l f) : AC EN Tryz.prog 40 [.agg (cellsV Tryz.prog 12 29 s0),.agg (cellsV Tryz.prog 12 34 f)] (.c (.bool (zDN (s0.f 0).l f))):=by
 have hlg:=h.lg
 have hlk:=h.lk
 have hlp:=h.lp
 have hnt:=zAk (f.f 3).s h.st
 refine zO 64 Tryz.func40 rfl rfl rfl rfl ?_
 intro s w he
 repeat' (first
|refine zB ?_
|refine zC ?_
|refine zQ ?_
|apply aw_1
 conv => whnf
 refine ⟨?_,trivial⟩
|apply s_1
 conv => whnf; arg 1; arg 4; arg 3; whnf
 refine ⟨?_,?_⟩
|apply zAN rfl rfl rfl rfl
 . conv => lhs; whnf; arg 1; whnf
 . rfl
|exact trivial)
 refine zv (fun j st => ∃ i,i + j = (s0.f 0).l.length /\ (∀ m,m < i -> namS (gD (s0.f 0).l m) = true) /\ Sub (cx EN Tryz.prog s w he) st (HNm s0 f 5 i)) (s0.f 0).l.length ⟨0,by omega,fun m hm => absurd hm (Nat.not_lt_zero m),Sub.live ⟨rfl,rfl,rfl,trivial⟩ ⟨rfl,rfl,trivial⟩⟩ ?_
 rintro j st ⟨i,hij,hno,hs2⟩
 refine zu hs2 ?_
 clear hs2
 by_cases hi : i < (s0.f 0).l.length
 . have f0 : decide ((i : Int) < ((s0.f 0).l.length : Nat)) = true:=decide_eq_true (by omega)
   have hx:=zAk (gD (s0.f 0).l i).s (h.sg i hi)
   rcases h1 : nameB (gD (s0.f 0).l i).s with _ | _
   . rw [h1] at hx
     repeat' (first
|apply zK
 . conv => lhs; whnf
 . assumption
|refine zB ?_
|refine zC ?_
|refine zQ ?_
|apply aw_1
 conv => whnf
 refine ⟨?_,trivial⟩
|apply s_1
 conv => whnf; arg 1; arg 4; arg 3; whnf
 refine ⟨?_,?_⟩
|apply zl rfl
 . conv => lhs; whnf
 . conv => lhs; whnf
 . first | exact hx
|refine zN ?_
|refine zL ?_
|refine za ?_
|refine zD ?_
|refine ⟨_,by conv => lhs; whnf; arg 2; whnf,?_⟩; conv => rhs; whnf
|exact trivial)
     all_goals first
      | exact at31 hi
      | (refine congrArg (fun b => V.c (.bool b)) ?_
         unfold zDN
         rw [all_no hi h1]; rfl)
   . rw [h1] at hx
     repeat' (first
|apply zK
 . conv => lhs; whnf
 . assumption
|refine zB ?_
|refine zC ?_
|refine zQ ?_
|refine zU ?_
|apply aw_1
 conv => whnf
 refine ⟨?_,trivial⟩
|apply s_1
 conv => whnf; arg 1; arg 4; arg 3; whnf
 refine ⟨?_,?_⟩
|apply zl rfl
 . conv => lhs; whnf
 . conv => lhs; whnf
 . first | exact hx
|exact trivial)
     all_goals first
      | exact zo (by omega)
      | exact at31 hi
      | skip
     refine zF (j':=j - 1) (by omega) ⟨i + 1,by omega,fun m hm => ?_,Sub.live ⟨rfl,rfl,rfl,trivial⟩ ⟨rfl,rfl,trivial⟩⟩
     by_cases em : m = i
     . subst em; exact h1
     . exact hno m (by omega)
 have f0 : decide ((i : Int) < ((s0.f 0).l.length : Nat)) = false:=decide_eq_false (by omega)
 have hA:=zHl (l:=(s0.f 0).l) (p:=namS) fun m hm => hno m (by omega)
 repeat' (first
|apply zM
 . conv => lhs; whnf
 . assumption
|refine zB ?_
|refine zC ?_
|refine zQ ?_
|apply aw_1
 conv => whnf
 refine ⟨?_,trivial⟩
|apply s_1
 conv => whnf; arg 1; arg 4; arg 3; whnf
 refine ⟨?_,?_⟩
|refine zI ?_
|refine zE rfl ?_
|refine zG ?_
|exact trivial)
 refine zv (fun j st => ∃ i,i + j = (f.f 4).l.length /\ (∀ m,m < i -> namS (gD (f.f 4).l m) = true) /\ Sub (cx EN Tryz.prog s w he) st (HNm s0 f 6 i)) (f.f 4).l.length ⟨0,by omega,fun m hm => absurd hm (Nat.not_lt_zero m),Sub.live ⟨rfl,rfl,rfl,trivial⟩ ⟨rfl,rfl,trivial⟩⟩ ?_
 clear hno hi hij f0
 rintro j st ⟨i,hij,hno,hs2⟩
 refine zu hs2 ?_
 clear hs2
 by_cases hi : i < (f.f 4).l.length
 . have f0 : decide ((i : Int) < ((f.f 4).l.length : Nat)) = true:=decide_eq_true (by omega)
   have hx:=zAk (gD (f.f 4).l i).s (h.sk i hi)
   rcases h1 : nameB (gD (f.f 4).l i).s with _ | _
   . rw [h1] at hx
     repeat' (first
|apply zK
 . conv => lhs; whnf
 . assumption
|refine zB ?_
|refine zC ?_
|refine zQ ?_
|apply aw_1
 conv => whnf
 refine ⟨?_,trivial⟩
|apply s_1
 conv => whnf; arg 1; arg 4; arg 3; whnf
 refine ⟨?_,?_⟩
|apply zl rfl
 . conv => lhs; whnf
 . conv => lhs; whnf
 . first | exact hx
|refine zN ?_
|refine zL ?_
|refine za ?_
|refine zD ?_
|refine ⟨_,by conv => lhs; whnf; arg 2; whnf,?_⟩; conv => rhs; whnf
|exact trivial)
     all_goals first
      | exact at31 hi
      | (refine congrArg (fun b => V.c (.bool b)) ?_
         unfold zDN
         rw [all_no (l:=(f.f 4).l) hi h1,Bool.and_false]; rfl)
   . rw [h1] at hx
     repeat' (first
|apply zK
 . conv => lhs; whnf
 . assumption
|refine zB ?_
|refine zC ?_
|refine zQ ?_
|refine zU ?_
|apply aw_1
 conv => whnf
 refine ⟨?_,trivial⟩
|apply s_1
 conv => whnf; arg 1; arg 4; arg 3; whnf
 refine ⟨?_,?_⟩
|apply zl rfl
 . conv => lhs; whnf
 . conv => lhs; whnf
 . first | exact hx
|exact trivial)
     all_goals first
      | exact zo (by omega)
      | exact at31 hi
      | skip
     refine zF (j':=j - 1) (by omega) ⟨i + 1,by omega,fun m hm => ?_,Sub.live ⟨rfl,rfl,rfl,trivial⟩ ⟨rfl,rfl,trivial⟩⟩
     by_cases em : m = i
     . subst em; exact h1
     . exact hno m (by omega)
 have f0 : decide ((i : Int) < ((f.f 4).l.length : Nat)) = false:=decide_eq_false (by omega)
 have hB:=zHl (l:=(f.f 4).l) (p:=namS) fun m hm => hno m (by omega)
 repeat' (first
|apply zM
 . conv => lhs; whnf
 . assumption
|refine zB ?_
|refine zC ?_
|refine zQ ?_
|apply aw_1
 conv => whnf
 refine ⟨?_,trivial⟩
|apply s_1
 conv => whnf; arg 1; arg 4; arg 3; whnf
 refine ⟨?_,?_⟩
|refine zI ?_
|refine zE rfl ?_
|refine zG ?_
|exact trivial)
 refine zv (fun j st => ∃ i,i + j = (f.f 2).l.length /\ (∀ m,m < i -> namH (gD (f.f 2).l m) = true) /\ Sub (cx EN Tryz.prog s w he) st (HNm s0 f 7 i)) (f.f 2).l.length ⟨0,by omega,fun m hm => absurd hm (Nat.not_lt_zero m),Sub.live ⟨rfl,rfl,rfl,trivial⟩ ⟨rfl,rfl,trivial⟩⟩ ?_
 clear hno hi hij f0
 rintro j st ⟨i,hij,hno,hs2⟩
 refine zu hs2 ?_
 clear hs2
 by_cases hi : i < (f.f 2).l.length
 . have f0 : decide ((i : Int) < ((f.f 2).l.length : Nat)) = true:=decide_eq_true (by omega)
   have hx:=zAk ((gD (f.f 2).l i).f 0).s (h.sp i hi).1
   have hy:=zAk ((gD (f.f 2).l i).f 1).s (h.sp i hi).2
   rcases h1 : nameB ((gD (f.f 2).l i).f 0).s with _ | _ <;> rcases h2 : nameB ((gD (f.f 2).l i).f 1).s with _ | _
   all_goals
    have h3 : namH (gD (f.f 2).l i) = (nameB ((gD (f.f 2).l i).f 0).s && nameB ((gD (f.f 2).l i).f 1).s):=rfl
    rw [h1,h2] at h3
    rw [h1] at hx
    rw [h2] at hy
    repeat' (first
|apply zK
 . conv => lhs; whnf
 . assumption
|refine zB ?_
|refine zC ?_
|refine zQ ?_
|refine zU ?_
|apply aw_1
 conv => whnf
 refine ⟨?_,trivial⟩
|apply s_1
 conv => whnf; arg 1; arg 4; arg 3; whnf
 refine ⟨?_,?_⟩
|apply zl rfl
 . conv => lhs; whnf
 . conv => lhs; whnf
 . first | exact hx | exact hy
|apply zX rfl
 . conv => lhs; whnf
 . conv => lhs; whnf
 . first | rfl | assumption
 . conv => lhs; whnf
 . first | exact hx | exact hy
|refine zN ?_
|refine zL ?_
|refine za ?_
|refine zD ?_
|refine ⟨_,by conv => lhs; whnf; arg 2; whnf,?_⟩; conv => rhs; whnf
|exact trivial)
    all_goals first
     | exact zo (by omega)
     | exact at31 hi
     | (refine congrArg (fun b => V.c (.bool b)) ?_
        unfold zDN
        rw [all_no (l:=(f.f 2).l) hi h3,Bool.and_false]; rfl)
     | skip
   refine zF (j':=j - 1) (by omega) ⟨i + 1,by omega,fun m hm => ?_,Sub.live ⟨rfl,rfl,rfl,trivial⟩ ⟨rfl,rfl,trivial⟩⟩
   by_cases em : m = i
   . subst em; exact h3
   . exact hno m (by omega)
 have f0 : decide ((i : Int) < ((f.f 2).l.length : Nat)) = false:=decide_eq_false (by omega)
 have hC:=zHl (l:=(f.f 2).l) (p:=namH) fun m hm => hno m (by omega)
 repeat' (first
|apply zM
 . conv => lhs; whnf
 . assumption
|refine zB ?_
|refine zC ?_
|refine zQ ?_
|apply aw_1
 conv => whnf
 refine ⟨?_,trivial⟩
|apply s_1
 conv => whnf; arg 1; arg 4; arg 3; whnf
 refine ⟨?_,?_⟩
|apply zl rfl
 . conv => lhs; whnf
 . conv => lhs; whnf
 . first | exact hnt
|refine zI ?_
|refine zE rfl ?_
|refine zG ?_
|refine zD ?_
|refine ⟨_,by conv => lhs; whnf; arg 2; whnf,?_⟩; conv => rhs; whnf
|exact trivial)
 refine congrArg (fun b => V.c (.bool b)) ?_
 unfold zDN
 rw [hA,hB,hC]; rfl
def smallB (gs : List D) (f : D) (kind : Int) : Bool:=decide (((gs.length : Nat) : Int) <= 12) && decide ((((f.f 2).l.length : Nat) : Int) <= 30) && decide ((((f.f 4).l.length : Nat) : Int) <= 12) && decide ((((f.f 7).l.length : Nat) : Int) <= 40) && decide (kind >= 1) && decide (kind <= 3)
def fitsB (gs : List D) (f : D) (kind : Int) : Bool:=smallB gs f kind && !largeB 8 (f.f 6).l && zDN gs f && queR (.obj [.list (fetchO 8 f kind),.list []])
theorem fits31_ac (s0 f : D) (kind : Int) (hz : SzOk (s0.f 0).l f) (hcp : largeB 8 (f.f 6).l = false -> CpP 8 (f.f 6).l /\ bulkL (fetchO 8 f kind) <= 1000000000) : AC EN Tryz.prog 14 [.agg (cellsV Tryz.prog 12 29 s0),.agg (cellsV Tryz.prog 12 34 f),.c (.int .i64 kind)] (.c (.bool (fitsB (s0.f 0).l f kind))):=by
 have h1 : AC EN Tryz.prog 39 [.sl 73 (f.f 6).l,.c (.int .i64 8)] (.c (.bool (largeB 8 (f.f 6).l))):=zFF EN 8 (f.f 6).l (by decide)
 have h2:=named31_ac s0 f hz
 unfold fitsB smallB
 cases hL : largeB 8 (f.f 6).l with
 | true =>
   rw [hL] at h1
   refine zO 55 Tryz.func14 rfl rfl rfl rfl ?_
   intro s w he
   repeat' (first
|refine zB ?_
|refine zC ?_
|refine zQ ?_
|apply aw_1
 conv => whnf
 refine ⟨?_,trivial⟩
|apply ze rfl rfl
 . conv => lhs; whnf
 . conv => lhs; whnf
 . first | exact bT1 ‹_› | exact bT2 ‹_›
|apply zm rfl rfl
 . conv => lhs; whnf
 . conv => lhs; whnf
 . first | exact bF1 ‹_› | exact bF2 ‹_›
|apply s_1
 conv => whnf; arg 1; arg 4; arg 3; whnf
 refine ⟨?_,?_⟩
|apply zAN rfl rfl rfl rfl
 . conv => lhs; whnf; arg 1; whnf
 . rfl
|apply zJ rfl
 . conv => lhs; whnf
 . conv => lhs; whnf
 . first | rfl | assumption
 . conv => lhs; whnf; arg 2; whnf
|apply zX rfl
 . conv => lhs; whnf
 . conv => lhs; whnf
 . first | rfl | assumption
 . conv => lhs; whnf
 . first | exact h1
|apply zAA rfl
 . conv => lhs; whnf
 . conv => lhs; whnf
 . first | rfl | assumption
|apply zW rfl
 . conv => lhs; whnf
 . conv => lhs; whnf
 . conv => lhs; whnf; arg 2; whnf
|refine zD ?_
|refine ⟨_,by conv => lhs; whnf; arg 2; whnf,?_⟩; conv => rhs; whnf
|exact trivial
|intro hg)
   all_goals (simp only [beq_true] at *; simp only [*,Bool.true_and,Bool.false_and,Bool.and_false,Bool.not_true])
 | false =>
   rw [hL] at h1
   obtain ⟨hc,hb⟩:=hcp hL
   have h3:=zGi EN 7 s0 f kind hc
   have h4 : AC EN Tryz.prog 32 [.agg [.sl 57 (fetchO (7 + 1) f kind),.sl 116 []]] (.c (.bool (queR (.obj [.list (fetchO 8 f kind),.list []])))):=rightF_ac _ _ hb (by decide)
   refine zO 55 Tryz.func14 rfl rfl rfl rfl ?_
   intro s w he
   repeat' (first
|refine zB ?_
|refine zC ?_
|refine zQ ?_
|apply aw_1
 conv => whnf
 refine ⟨?_,trivial⟩
|apply ze rfl rfl
 . conv => lhs; whnf
 . conv => lhs; whnf
 . first | exact bT1 ‹_› | exact bT2 ‹_›
|apply zm rfl rfl
 . conv => lhs; whnf
 . conv => lhs; whnf
 . first | exact bF1 ‹_› | exact bF2 ‹_›
|apply s_1
 conv => whnf; arg 1; arg 4; arg 3; whnf
 refine ⟨?_,?_⟩
|apply zAN rfl rfl rfl rfl
 . conv => lhs; whnf; arg 1; whnf
 . rfl
|apply zJ rfl
 . conv => lhs; whnf
 . conv => lhs; whnf
 . first | rfl | assumption
 . conv => lhs; whnf; arg 2; whnf
|apply zX rfl
 . conv => lhs; whnf
 . conv => lhs; whnf
 . first | rfl | assumption
 . conv => lhs; whnf
 . first | exact h1 | exact h2 | exact h3 | exact h4
|apply zAA rfl
 . conv => lhs; whnf
 . conv => lhs; whnf
 . first | rfl | assumption
|apply zW rfl
 . conv => lhs; whnf
 . conv => lhs; whnf
 . conv => lhs; whnf; arg 2; whnf
|refine zD ?_
|refine ⟨_,by conv => lhs; whnf; arg 2; whnf,?_⟩; conv => rhs; whnf
|exact trivial
|intro hg)
   all_goals (simp only [beq_true,Bool.not_false,cond_true] at *; simp only [*,Bool.true_and,Bool.false_and,Bool.and_false,Bool.not_true,Bool.not_false])
end Go.Proofs.YthjiclhfhjdjpaaGreatDoor
namespace Go.Proofs.YthjiclhfhjdjpaaGreatDoor
open Go.RowKit
theorem zEL {l : List D} {i : Nat} (h : i < l.length) : (gD l i).s.size <= bulkL l:=by
 have h1:=zAH h
 have h2:=zZ (gD l i)
 have h3:=zAG (gD l i)
 omega
theorem zDC {l : List D} {i : Nat} (h : i < l.length) (j : Nat) : ((gD l i).f j).s.size <= bulkL l:=by
 have h1:=(zB2 h j).1
 have h2:=zZ ((gD l i).f j)
 have h3:=zAG ((gD l i).f j)
 omega
theorem zCI (f : D) (j : Nat) : bulkL (f.f j).l <= bulkD f:=by
 have h1:=zZ f
 have h2:=wD_f f j
 have h3:=z7 (f.f j)
 omega
theorem szOk_of {gs : List D} {f : D} (hg : bulkL gs <= 1048576) (hf : bulkD f <= 1048576) : SzOk gs f:=by
 have h1:=zAR gs
 have h2:=zCI f 4
 have h3:=zAR (f.f 4).l
 have h4:=zCI f 2
 have h5:=zAR (f.f 2).l
 refine ⟨by omega,by omega,by omega,fun j hj => ?_,fun j hj => ?_,fun j hj => ⟨?_,?_⟩,?_⟩
 . have:=zEL hj; omega
 . have:=zEL hj; omega
 . have:=zDC hj 0; omega
 . have:=zDC hj 1; omega
 . have h6:=zZ f
   have h7:=wD_f f 3
   have h8:=zAG (f.f 3)
   omega
theorem hop_len (h : D) : (hopT h).length + 1 <= 2 * bulkD h:=by
 have h1:=zZ h
 have h2:=zAn h 2
 have h3:=zAG (h.f 0)
 have h4:=zAG (h.f 1)
 simp only [sumN] at h2
 unfold hopT
 simp only [List.length_append,zAP,List.length_cons,List.length_nil]
 omega
theorem zFz {gs : List D} {f : D} (hw : wideD f) (hg : bulkL gs <= 1048576) (hf : bulkD f <= 1048576) : FetOk gs f:=by
 have h1:=zAR gs
 have h2:=zCI f 4
 have h3:=zAR (f.f 4).l
 have h4:=zCI f 2
 have h5:=zAR (f.f 2).l
 have h6:=zCI f 7
 have h7:=zAR (f.f 7).l
 refine ⟨(hw.f 1).n,fun j hj => ((hw.f 7).l j).n,by omega,by omega,by omega,fun j hj => ?_,fun j hj => ⟨?_,?_⟩,?_,?_,?_,?_⟩
 . have:=zEL hj; omega
 . have:=zDC hj 0; omega
 . have:=zDC hj 1; omega
 . have h6:=zZ f
   have h7:=wD_f f 3
   have h8:=zAG (f.f 3)
   omega
 . have:=zBJ (f.f 2).l hopT [47] 2 fun i _ => hop_len _
   omega
 . have:=zBJ (f.f 4).l (fun d => tx d.s) [32] 2 fun i _ => by
    have h1:=zZ (gD (f.f 4).l i)
    have h2:=zAG (gD (f.f 4).l i)
    simp only [zAP,List.length_cons,List.length_nil]
    omega
   exact Nat.le_trans this (by omega)
 . have:=zBJ (f.f 7).l (fun d => Lib.itoa d.n) [32] 22 fun i _ => by
    have h1:=zZ (gD (f.f 7).l i)
    have hn:=((hw.f 7).l i).n
    have h2:=zAs _ hn.1 hn.2
    simp only [List.length_cons,List.length_nil]
    omega
   omega
theorem line_len {gs : List D} {f : D} (i : Int) (hi : i64D i) (h : FetOk gs f) : (zC1 gs i f).length <= 400000000:=by
 have h1:=zAs i hi.1 hi.2
 have h2:=zAs (f.f 1).n h.nd.1 h.nd.2
 have h3:=zEc h (f.f 0).n
 have hpj:=h.pj
 have hkj:=h.kj
 have haj:=h.aj
 have hst:=h.st
 have hA : (zBx (f.f 7).l).length <= 100000100:=by
  unfold zBx
  split
  . simp
  . simp only [List.length_append,List.length_cons,List.length_nil]; omega
 have hP : (zEW f).length <= 210000000:=by
  unfold zEW
  split
  . simp
  . simp only [List.length_append,List.length_cons,List.length_nil,zAP]
    have : (Lib.join ((f.f 4).l.map fun d => tx d.s) [32]).length <= 100000000:=hkj
    omega
 unfold zC1 restT ftT
 simp only [List.length_append,List.length_cons,List.length_nil]
 omega
theorem zH0 (gs : List D) (doc : D -> List UInt8) : ∀ (fs : List D) (i : Nat),fs.length + i <= 1000000 -> (∀ f ∈ fs,FetOk gs f /\ (doc f).length <= 20000000000) -> (showT gs doc fs i).length <= 90000000000 * fs.length
 | [],_,_,_ => by simp [showT]
 | f :: r,i,hl,h => by
   obtain ⟨h1,h2⟩:=h f (by simp)
   have h3:=line_len (i : Int) ⟨by omega,by simp at hl; omega⟩ h1
   have h4:=zFr (doc f) []
   have ih:=zH0 gs doc r (i + 1) (by simp at hl; omega) fun x hx => h x (by simp [hx])
   show (zC1 gs i f ++ indT (doc f) ++ showT gs doc r (i + 1)).length <= _
   unfold indT
   simp only [List.length_append,List.length_cons,List.length_nil] at *
   omega
theorem zFx {gs : List D} {f : D} {kind : Int} (h : fitsB gs f kind = true) : largeB 8 (f.f 6).l = false /\ zDN gs f = true /\ queR (.obj [.list (fetchO 8 f kind),.list []]) = true /\ (1 <= kind /\ kind <= 3):=by
 unfold fitsB smallB at h
 simp only [Bool.and_eq_true,Bool.not_eq_true',decide_eq_true_eq] at h
 exact ⟨h.1.1.2,h.1.2,h.2,h.1.1.1.1.2,h.1.1.1.2⟩
theorem named_of {gs : List D} {f : D} (h : zDN gs f = true) : NamedF gs f:=by
 unfold zDN at h
 simp only [Bool.and_eq_true] at h
 obtain ⟨⟨⟨h1,h2⟩,h3⟩,h4⟩:=h
 rw [List.all_eq_true] at h1 h2 h3
 refine ⟨fun i hi => ?_,fun i hi => ?_,fun i hi => ?_,h4⟩
 . have:=h1 (gD gs i) (by rw [zAt hi]; exact List.getElem_mem hi)
   exact this
 . have:=h2 (gD (f.f 4).l i) (by rw [zAt hi]; exact List.getElem_mem hi)
   exact this
 . have:=h3 (gD (f.f 2).l i) (by rw [zAt hi]; exact List.getElem_mem hi)
   unfold namH at this
   rw [Bool.and_eq_true] at this
   exact this
structure FetIn (f : D) : Prop where
 wide : wideD f
 bulk : bulkD f <= 1048576
 pk : ∃ j,∀ i,i < (f.f 6).l.length -> Fits Tryz.prog j 73 (gD (f.f 6).l i)
theorem zDh {f : D} (h : FetIn f) (kind : Int) : bulkL (fetchO 8 f kind) <= 7340232:=by
 have h1:=zHW (j:=0) (f:=f) (kind:=kind) h.pk 8
 have h2:=zCI f 6
 have:=h.bulk
 omega
theorem zIe {f : D} (h : FetIn f) (hl : largeB 8 (f.f 6).l = false) : CpP 8 (f.f 6).l:=cpP_of 8 _ (.inr hl) (by have:=zCI f 6; have:=h.bulk; omega)
theorem fetIn_doc {f : D} {kind : Int} (h : FetIn f) (hk : i64D kind) (hr : queR (.obj [.list (fetchO 8 f kind),.list []]) = true) : DocOk 8388608 24 (.obj [.list (fetchO 8 f kind),.list []]):=
 zIi hr (zC2 hk h.wide 8) (by
  have:=zDh h kind
  simp only [bulkD,bulkL]
  omega)
theorem zGk {f : D} {kind : Int} (h : FetIn f) (hk : i64D kind) : (docF31 kind f).length <= 20000000000:=by
 have h1:=zEA 8388608 24 (.obj [.list (fetchO 8 f kind),.list []]) (zC2 hk h.wide 8) (by decide)
 have h2:=zDh h kind
 have h3 : bulkD (.obj [.list (fetchO 8 f kind),.list []]) = bulkL (fetchO 8 f kind) + 3:=by simp only [bulkD,bulkL]
 unfold docF31
 omega
theorem planOk_of {gs fs : List D} {kind : Int} (hg : bulkL gs <= 1048576) (hk : i64D kind) (hn : fs.length <= 12) (hf : ∀ i,i < fs.length -> FetIn (gD fs i) /\ fitsB gs (gD fs i) kind = true) : PlanOk gs fs kind:=by
 refine ⟨hn,fun i hi => ?_,fun i hi => ?_,fun i hi => ?_,fun i hi => ?_,?_⟩
 . exact zFz (hf i hi).1.wide hg (hf i hi).1.bulk
 . exact zIe (hf i hi).1 (zFx (hf i hi).2).1
 . exact fetIn_doc (hf i hi).1 hk (zFx (hf i hi).2).2.2.1
 . exact zGk (hf i hi).1 hk
 . have:=zH0 gs (docF31 kind) fs 0 (by omega) (zFu (p:=fun f => FetOk gs f /\ (docF31 kind f).length <= 20000000000) fun i hi => ⟨zFz (hf i hi).1.wide hg (hf i hi).1.bulk,zGk (hf i hi).1 hk⟩)
   omega
end Go.Proofs.YthjiclhfhjdjpaaGreatDoor
namespace Go.Proofs.YthjiclhfhjdjpaaGreatDoor
open Go.RowKit
set_option linter.unusedSectionVars false
attribute [local irreducible] wpList Calls Code.wp AW AWo OpOk seqK zAf zAh loopK endK AC zAD Yld Sub
attribute [local irreducible] ACB ACX absLexG YldG absLexH
theorem bs_ne {u : List UInt8} (h : u ≠ []) : (!((bs u).toList == (⟨#[]⟩ : ByteArray).toList)) = true:=by
 rw [Lib.toList_data,Lib.toList_data,zCb]
 cases u with
 | nil => exact absurd rfl h
 | cons c u => rfl
theorem bs_nil0 : (!((bs []).toList == (⟨#[]⟩ : ByteArray).toList)) = false:=by
 rw [Lib.toList_data,Lib.toList_data,zCb]
 rfl
noncomputable def HsO (s0 p : D) (T : List UInt8) (i : Nat) : Vst 45:=
 stS 45 [(2,.bx 2 0),(3,.bx 3 0),(5,.bx 5 0),(13,.sl 34 (p.f 2).l),(14,.c (.int .i64 ((p.f 2).l.length : Nat))),(15,.c (.int .i64 (i : Int)))]
  [(2,.box 29 (cellsV Tryz.prog 12 29 s0)),(3,.box 45 (cellsV Tryz.prog 12 45 p)),(5,.bld 92 5 T)]
noncomputable def HsI (s0 p : D) (T u : List UInt8) (i : Nat) : Vst 45:=
 stS 45 [(2,.bx 2 0),(3,.bx 3 0),(5,.bx 5 0),(8,.c (.string (bs u))),(13,.sl 34 (p.f 2).l),(14,.c (.int .i64 ((p.f 2).l.length : Nat))),(15,.c (.int .i64 (i : Int)))]
  [(2,.box 29 (cellsV Tryz.prog 12 29 s0)),(3,.box 45 (cellsV Tryz.prog 12 45 p)),(5,.bld 92 5 T)]
theorem zH1 (s0 p : D) (h : PlanOk (s0.f 0).l (p.f 2).l (p.f 0).n) : AC EN Tryz.prog 19 [.agg (cellsV Tryz.prog 12 29 s0),.agg (cellsV Tryz.prog 12 45 p)] (.c (.string (bs (showT (s0.f 0).l (docF31 (p.f 0).n) (p.f 2).l 0)))):=by
 have hsl:=h.sl
 have hnn:=h.n
 generalize hS : showT (s0.f 0).l (docF31 (p.f 0).n) (p.f 2).l 0 = S at *
 refine zO 45 Tryz.func19 rfl rfl rfl rfl ?_
 intro s w he
 repeat' (first
|refine zB ?_
|refine zC ?_
|refine zQ ?_
|refine zU ?_
|refine zAT ?_
|apply aw_1
 conv => whnf
 refine ⟨?_,trivial⟩
|apply s_1
 conv => whnf; arg 1; arg 4; arg 3; whnf
 refine ⟨?_,?_⟩
|apply zAj rfl
 . conv => lhs; whnf
 . conv => lhs; whnf; arg 2; whnf
|apply zl rfl
 . conv => lhs; whnf
 . conv => lhs; whnf
 . first | fail
|apply zAN rfl rfl rfl rfl
 . conv => lhs; whnf; arg 1; whnf
 . rfl
|apply zAZ rfl rfl rfl rfl
 . conv => lhs; whnf; arg 1; whnf
 . rfl
|apply zz rfl rfl rfl
 . conv => lhs; whnf
 . conv => lhs; whnf; arg 1; whnf
 . conv => lhs; whnf; arg 1; whnf
 . exact ⟨by kernel_rfl,by kernel_rfl⟩
 . rfl
|apply zw
 . conv => lhs; whnf; arg 1; arg 1; whnf
|apply z8
 . conv => lhs; whnf; arg 1; arg 1; whnf
|refine zV (by conv => lhs; whnf) ?_ ?_ <;> intro hb
|refine zAQ ?_
|refine zAO ?_
|refine zI ?_
|refine zN ?_
|refine zL ?_
|refine zE rfl ?_
|refine zb rfl ?_
|refine zf ?_
|refine zn ?_
|refine zG ?_
|refine za ?_
|refine zA7 ?_
|refine zD ?_
|refine ⟨_,by conv => lhs; whnf; arg 2; whnf,?_⟩; conv => rhs; whnf
|exact trivial
|intro hg)
 refine zu (Sub.bld (m:=5) (e:=5) rfl) ?_
 refine zv (fun j st => ∃ i out,i + j = (p.f 2).l.length /\ out ++ showT (s0.f 0).l (docF31 (p.f 0).n) ((p.f 2).l.drop i) i = S /\ Sub (cx EN Tryz.prog s w he) st (HsO s0 p out i)) (p.f 2).l.length ⟨0,[],by omega,hS,Sub.live ⟨rfl,rfl,rfl,rfl,rfl,rfl,trivial⟩ ⟨rfl,rfl,rfl,trivial⟩⟩ ?_
 clear hS
 rintro j st ⟨i,out,hij,hR,hs2⟩
 refine zu hs2 ?_
 clear hs2
 by_cases hi : i < (p.f 2).l.length
 rotate_left 1
 . have f0 : decide ((i : Int) < ((p.f 2).l.length : Nat)) = false:=decide_eq_false (by omega)
   rw [List.drop_of_length_le (by omega)] at hR
   have hR : out = S:=by rw [<- hR]; simp [showT]
   subst hR
   repeat' (first
|apply s_bs rfl
 . conv => lhs; whnf
 . conv => lhs; whnf
 . rfl
 . conv => lhs; whnf; arg 1; whnf
 . exact ⟨rfl,rfl⟩
 . rfl
|apply zK
 . conv => lhs; whnf
 . assumption
|apply zM
 . conv => lhs; whnf
 . assumption
|refine zAM ?_
|refine zAE ?_
|refine zBB ?_
|refine zB ?_
|refine zC ?_
|refine zQ ?_
|refine zU ?_
|refine zAT ?_
|apply aw_1
 conv => whnf
 refine ⟨?_,trivial⟩
|apply s_1
 conv => whnf; arg 1; arg 4; arg 3; whnf
 refine ⟨?_,?_⟩
|apply zAj rfl
 . conv => lhs; whnf
 . conv => lhs; whnf; arg 2; whnf
|apply zl rfl
 . conv => lhs; whnf
 . conv => lhs; whnf
 . first | fail
|apply zAN rfl rfl rfl rfl
 . conv => lhs; whnf; arg 1; whnf
 . rfl
|apply zAZ rfl rfl rfl rfl
 . conv => lhs; whnf; arg 1; whnf
 . rfl
|apply zz rfl rfl rfl
 . conv => lhs; whnf
 . conv => lhs; whnf; arg 1; whnf
 . conv => lhs; whnf; arg 1; whnf
 . exact ⟨by kernel_rfl,by kernel_rfl⟩
 . rfl
|apply zw
 . conv => lhs; whnf; arg 1; arg 1; whnf
|apply z8
 . conv => lhs; whnf; arg 1; arg 1; whnf
|refine zV (by conv => lhs; whnf) ?_ ?_ <;> intro hb
|refine zAQ ?_
|refine zAO ?_
|refine zI ?_
|refine zN ?_
|refine zL ?_
|refine zE rfl ?_
|refine zb rfl ?_
|refine zf ?_
|refine zn ?_
|refine zG ?_
|refine za ?_
|refine zA7 ?_
|refine zD ?_
|refine ⟨_,by conv => lhs; whnf; arg 2; whnf,?_⟩; conv => rhs; whnf
|exact trivial
|intro hg)
   all_goals (unfold maxLen; omega)
 have f0 : decide ((i : Int) < ((p.f 2).l.length : Nat)) = true:=decide_eq_true (by omega)
 have h1:=headP_ac s0 (gD (p.f 2).l i) i ⟨by omega,by omega⟩ (h.fo i hi)
 have h2:=textP_ac s0 (gD (p.f 2).l i) (p.f 0).n (h.cp i hi) (h.dk i hi)
 have hdl:=h.dl i hi
 rw [zGN _ _ hi] at hR
 generalize docF31 (p.f 0).n (gD (p.f 2).l i) = u0 at *
 have hl:=congrArg List.length hR
 simp only [List.length_append] at hl
 repeat' (first
|apply s_ws rfl
 . conv => lhs; whnf
 . conv => lhs; whnf
 . rfl
 . conv => lhs; whnf; arg 1; whnf
 . rfl
|apply zK
 . conv => lhs; whnf
 . assumption
|apply zM
 . conv => lhs; whnf
 . assumption
|refine zAM ?_
|refine zAE ?_
|refine zBB ?_
|refine zB ?_
|refine zC ?_
|refine zQ ?_
|refine zU ?_
|refine zAT ?_
|apply aw_1
 conv => whnf
 refine ⟨?_,trivial⟩
|apply s_1
 conv => whnf; arg 1; arg 4; arg 3; whnf
 refine ⟨?_,?_⟩
|apply zAj rfl
 . conv => lhs; whnf
 . conv => lhs; whnf; arg 2; whnf
|apply zl rfl
 . conv => lhs; whnf
 . conv => lhs; whnf
 . first | exact h1 | exact h2
|apply zAN rfl rfl rfl rfl
 . conv => lhs; whnf; arg 1; whnf
 . rfl
|apply zAZ rfl rfl rfl rfl
 . conv => lhs; whnf; arg 1; whnf
 . rfl
|apply zz rfl rfl rfl
 . conv => lhs; whnf
 . conv => lhs; whnf; arg 1; whnf
 . conv => lhs; whnf; arg 1; whnf
 . exact ⟨by kernel_rfl,by kernel_rfl⟩
 . rfl
|apply zw
 . conv => lhs; whnf; arg 1; arg 1; whnf
|apply z8
 . conv => lhs; whnf; arg 1; arg 1; whnf
|refine zV (by conv => lhs; whnf) ?_ ?_ <;> intro hb
|refine zAQ ?_
|refine zAO ?_
|refine zI ?_
|refine zN ?_
|refine zL ?_
|refine zE rfl ?_
|refine zb rfl ?_
|refine zf ?_
|refine zn ?_
|refine zG ?_
|refine za ?_
|refine zA7 ?_
|refine zD ?_
|refine ⟨_,by conv => lhs; whnf; arg 2; whnf,?_⟩; conv => rhs; whnf
|exact trivial
|intro hg)
 rotate_left 1
 . rw [zS]; omega
 . exact at31 hi
 refine zv (fun m st => ∃ T u,u.length <= m /\ u.length <= u0.length /\ T ++ indG [] u = out ++ zC1 (s0.f 0).l i (gD (p.f 2).l i) ++ indT u0 /\ Sub (cx EN Tryz.prog s w he) st (HsI s0 p T u i)) u0.length ⟨out ++ zC1 (s0.f 0).l i (gD (p.f 2).l i),u0,Nat.le_refl _,Nat.le_refl _,rfl,Sub.live ⟨rfl,rfl,rfl,rfl,rfl,rfl,rfl,trivial⟩ ⟨rfl,rfl,?_,trivial⟩⟩ ?_
 . exact congrArg (fun l => some (Res.bld _ _ (out ++ l))) (zAS _)
 rintro m st2 ⟨T,u,hm,hu0,hT,hs3⟩
 refine zu hs3 ?_
 clear hs3
 have htl:=congrArg List.length hT
 simp only [List.length_append] at htl
 by_cases hu : u = []
 . subst hu
   have g0:=bs_nil0
   have hT : T = out ++ zC1 (s0.f 0).l i (gD (p.f 2).l i) ++ indT u0:=by rw [<- hT,indG.eq_1,if_pos rfl,List.append_nil]
   subst hT
   repeat' (first
|apply zK
 . conv => lhs; whnf
 . assumption
|apply zM
 . conv => lhs; whnf
 . assumption
|refine zAM ?_
|refine zAE ?_
|refine zBB ?_
|refine zB ?_
|refine zC ?_
|refine zQ ?_
|refine zU ?_
|refine zAT ?_
|apply aw_1
 conv => whnf
 refine ⟨?_,trivial⟩
|apply s_1
 conv => whnf; arg 1; arg 4; arg 3; whnf
 refine ⟨?_,?_⟩
|apply zAj rfl
 . conv => lhs; whnf
 . conv => lhs; whnf; arg 2; whnf
|apply zl rfl
 . conv => lhs; whnf
 . conv => lhs; whnf
 . first | fail
|apply zAN rfl rfl rfl rfl
 . conv => lhs; whnf; arg 1; whnf
 . rfl
|apply zAZ rfl rfl rfl rfl
 . conv => lhs; whnf; arg 1; whnf
 . rfl
|apply zz rfl rfl rfl
 . conv => lhs; whnf
 . conv => lhs; whnf; arg 1; whnf
 . conv => lhs; whnf; arg 1; whnf
 . exact ⟨by kernel_rfl,by kernel_rfl⟩
 . rfl
|apply zw
 . conv => lhs; whnf; arg 1; arg 1; whnf
|apply z8
 . conv => lhs; whnf; arg 1; arg 1; whnf
|refine zV (by conv => lhs; whnf) ?_ ?_ <;> intro hb
|refine zAQ ?_
|refine zAO ?_
|refine zI ?_
|refine zN ?_
|refine zL ?_
|refine zE rfl ?_
|refine zb rfl ?_
|refine zf ?_
|refine zn ?_
|refine zG ?_
|refine za ?_
|refine zA7 ?_
|refine zD ?_
|refine ⟨_,by conv => lhs; whnf; arg 2; whnf,?_⟩; conv => rhs; whnf
|exact trivial
|intro hg)
   all_goals first
    | exact zo (by omega)
    | exact zF (j':=j - 1) (by omega) ⟨i + 1,_,by omega,by rw [<- hR]; simp only [List.append_assoc],Sub.live ⟨rfl,rfl,rfl,rfl,rfl,rfl,trivial⟩ ⟨rfl,rfl,rfl,trivial⟩⟩
 have g0:=bs_ne hu
 have hup : 0 < u.length:=by cases u with | nil => exact absurd rfl hu | cons c u => simp
 rcases index_cut u with ⟨-,hno⟩ | ⟨a,b,rfl,hno,-⟩
 . have hc:=cutN_ac u (by omega) hno
   have e : indG [] u = [32,32] ++ u ++ [10]:=by rw [ind_no u [] hno,List.nil_append,if_neg hu]
   repeat' (first
|apply s_ws rfl
 . conv => lhs; whnf
 . conv => lhs; whnf
 . rfl
 . conv => lhs; whnf; arg 1; whnf
 . rfl
|apply zK
 . conv => lhs; whnf
 . assumption
|apply zM
 . conv => lhs; whnf
 . assumption
|refine zAM ?_
|refine zAE ?_
|refine zBB ?_
|refine zB ?_
|refine zC ?_
|refine zQ ?_
|refine zU ?_
|refine zAT ?_
|apply aw_1
 conv => whnf
 refine ⟨?_,trivial⟩
|apply s_1
 conv => whnf; arg 1; arg 4; arg 3; whnf
 refine ⟨?_,?_⟩
|apply zAj rfl
 . conv => lhs; whnf
 . conv => lhs; whnf; arg 2; whnf
|apply zl rfl
 . conv => lhs; whnf
 . conv => lhs; whnf
 . first | exact hc
|apply zAN rfl rfl rfl rfl
 . conv => lhs; whnf; arg 1; whnf
 . rfl
|apply zAZ rfl rfl rfl rfl
 . conv => lhs; whnf; arg 1; whnf
 . rfl
|apply zz rfl rfl rfl
 . conv => lhs; whnf
 . conv => lhs; whnf; arg 1; whnf
 . conv => lhs; whnf; arg 1; whnf
 . exact ⟨by kernel_rfl,by kernel_rfl⟩
 . rfl
|apply zw
 . conv => lhs; whnf; arg 1; arg 1; whnf
|apply z8
 . conv => lhs; whnf; arg 1; arg 1; whnf
|refine zV (by conv => lhs; whnf) ?_ ?_ <;> intro hb
|refine zAQ ?_
|refine zAO ?_
|refine zI ?_
|refine zN ?_
|refine zL ?_
|refine zE rfl ?_
|refine zb rfl ?_
|refine zf ?_
|refine zn ?_
|refine zG ?_
|refine za ?_
|refine zA7 ?_
|refine zD ?_
|refine ⟨_,by conv => lhs; whnf; arg 2; whnf,?_⟩; conv => rhs; whnf
|exact trivial
|intro hg)
   all_goals first
    | (simp only [ByteArray.size_append,zS,zT,List.size_toArray,List.length_cons,List.length_nil,maxLen,Nat.reduceAdd]; omega)
    | skip
   refine zF (j':=m - 1) (by omega) ⟨T ++ ([32,32] ++ u ++ [10]),[],by simp,by simp,by rw [indG.eq_1,if_pos rfl,List.append_nil,<- e]; exact hT,Sub.live ⟨rfl,rfl,rfl,rfl,rfl,rfl,rfl,trivial⟩ ⟨rfl,rfl,?_,trivial⟩⟩
   refine congrArg (fun l => some (Res.bld _ _ (T ++ l))) ?_
   show tx ((⟨#[32,32]⟩ : ByteArray) ++ bs u ++ ⟨#[10]⟩) = _
   simp only [zY,zAS]
   rfl
 . have hlab : (a ++ 10 :: b).length = a.length + b.length + 1:=by simp; omega
   have hc:=cutY_ac a b (by omega) hno
   have e : indG [] (a ++ 10 :: b) = [32,32] ++ a ++ [10] ++ indG [] b:=by rw [zIN a [] b hno,List.nil_append]
   repeat' (first
|apply s_ws rfl
 . conv => lhs; whnf
 . conv => lhs; whnf
 . rfl
 . conv => lhs; whnf; arg 1; whnf
 . rfl
|apply zK
 . conv => lhs; whnf
 . assumption
|apply zM
 . conv => lhs; whnf
 . assumption
|refine zAM ?_
|refine zAE ?_
|refine zBB ?_
|refine zB ?_
|refine zC ?_
|refine zQ ?_
|refine zU ?_
|refine zAT ?_
|apply aw_1
 conv => whnf
 refine ⟨?_,trivial⟩
|apply s_1
 conv => whnf; arg 1; arg 4; arg 3; whnf
 refine ⟨?_,?_⟩
|apply zAj rfl
 . conv => lhs; whnf
 . conv => lhs; whnf; arg 2; whnf
|apply zl rfl
 . conv => lhs; whnf
 . conv => lhs; whnf
 . first | exact hc
|apply zAN rfl rfl rfl rfl
 . conv => lhs; whnf; arg 1; whnf
 . rfl
|apply zAZ rfl rfl rfl rfl
 . conv => lhs; whnf; arg 1; whnf
 . rfl
|apply zz rfl rfl rfl
 . conv => lhs; whnf
 . conv => lhs; whnf; arg 1; whnf
 . conv => lhs; whnf; arg 1; whnf
 . exact ⟨by kernel_rfl,by kernel_rfl⟩
 . rfl
|apply zw
 . conv => lhs; whnf; arg 1; arg 1; whnf
|apply z8
 . conv => lhs; whnf; arg 1; arg 1; whnf
|refine zV (by conv => lhs; whnf) ?_ ?_ <;> intro hb
|refine zAQ ?_
|refine zAO ?_
|refine zI ?_
|refine zN ?_
|refine zL ?_
|refine zE rfl ?_
|refine zb rfl ?_
|refine zf ?_
|refine zn ?_
|refine zG ?_
|refine za ?_
|refine zA7 ?_
|refine zD ?_
|refine ⟨_,by conv => lhs; whnf; arg 2; whnf,?_⟩; conv => rhs; whnf
|exact trivial
|intro hg)
   all_goals first
    | (simp only [ByteArray.size_append,zS,zT,List.size_toArray,List.length_cons,List.length_nil,maxLen,Nat.reduceAdd]; omega)
    | skip
   refine zF (j':=m - 1) (by omega) ⟨T ++ ([32,32] ++ a ++ [10]),b,by omega,by omega,by rw [<- hT,e]; simp only [List.append_assoc],Sub.live ⟨rfl,rfl,rfl,rfl,rfl,rfl,rfl,trivial⟩ ⟨rfl,rfl,?_,trivial⟩⟩
   refine congrArg (fun l => some (Res.bld _ _ (T ++ l))) ?_
   show tx ((⟨#[32,32]⟩ : ByteArray) ++ bs a ++ ⟨#[10]⟩) = _
   simp only [zY,zAS]
   rfl
def gsX : List D:=[.str ⟨#[117,115,101,114,115]⟩,.str ⟨#[110,97,109,101,115]⟩]
def supX : D:=.obj [.list gsX]
def hopX : D:=.obj [.str ⟨#[81,117,101,114,121]⟩,.str ⟨#[109,101]⟩]
def pkX : D:=.obj [.str ⟨#[110,97,109,101]⟩,.str ⟨#[85,115,101,114]⟩,.str ⟨#[110,97,109,101]⟩,.list [],.obj [],.str ⟨#[]⟩,.int (-1),.list []]
def ftX : D:=.obj [.int 1,.int 2,.list [hopX],.str ⟨#[85,115,101,114]⟩,.list [.str ⟨#[105,100]⟩],.int 1,.list [pkX],.list [.int 0]]
def plX : D:=.obj [.int 1,.list [],.list [ftX]]
theorem zDj : zAL Tryz.prog 30 = some (68,32):=by kernel_rfl
theorem zCk : zAL Tryz.prog 31 = some (73,160):=by kernel_rfl
theorem zDi : zAL Tryz.prog 32 = some (3,8):=by kernel_rfl
theorem zDk : zAL Tryz.prog 43 = some (34,136):=by kernel_rfl
theorem zIT : wideD ftX:=by simp [wideD,wideL,ftX,hopX,pkX,i64D]
def txX : List UInt8:=[102,101,116,99,104,32,48,58,32,110,97,109,101,115,44,32,100,101,112,116,104,32,50,44,32,97,102,116,101,114,32,48,44,32,97,116,32,81,117,101,114,121,46,109,101,44,32,102,111,114,32,85,115,101,114,44,32,98,121,32,105,100,10,32,32,113,117,101,114,121,40,36,114,58,32,91,95,65,110,121,33,93,33,41,32,123,10,32,32,32,32,95,101,110,116,105,116,105,101,115,40,114,101,112,114,101,115,101,110,116,97,116,105,111,110,115,58,32,36,114,41,32,123,10,32,32,32,32,32,32,46,46,46,32,111,110,32,85,115,101,114,32,123,10,32,32,32,32,32,32,32,32,110,97,109,101,10,32,32,32,32,32,32,125,10,32,32,32,32,125,10,32,32,125,10]
theorem tx_eq : showT gsX (docF31 1) [ftX] 0 = txX:=by kernel_rfl
theorem doc_ok : DocOk 8388608 24 (.obj [.list (fetchO 8 ftX 1),.list []]):=zIi (by kernel_rfl) (zC2 ⟨by decide,by decide⟩ zIT 8) (by decide +kernel)
theorem planX : PlanOk gsX [ftX] 1:=by
 refine ⟨by decide,fun i hi => ?_,fun i hi => ?_,fun i hi => ?_,fun i hi => ?_,?_⟩
 . obtain rfl : i = 0:=by simp at hi; omega
   exact zFz zIT (by decide +kernel) (by decide +kernel)
 . obtain rfl : i = 0:=by simp at hi; omega
   exact cpP_of 8 _ (.inr (by decide +kernel)) (by decide +kernel)
 . obtain rfl : i = 0:=by simp at hi; omega
   exact doc_ok
 . obtain rfl : i = 0:=by simp at hi; omega
   have h1:=zEA 8388608 24 _ doc_ok.wide (by decide)
   have h2 : bulkD (.obj [.list (fetchO 8 ftX 1),.list []]) <= 8388608:=doc_ok.bulk
   show (docT 8388608 (24 + 1) _).length <= _
   exact Nat.le_trans h1 (Nat.le_trans (Nat.mul_le_mul_left 1274 h2) (by decide))
 . rw [tx_eq]; decide +kernel
noncomputable def WSu : V:=.agg (cellsV Tryz.prog 12 29 supX)
noncomputable def WHo : V:=.agg (cellsV Tryz.prog 12 68 hopX)
noncomputable def WPk : V:=.agg (cellsV Tryz.prog 12 73 pkX)
noncomputable def WFt : V:=.agg (cellsV Tryz.prog 12 34 ftX)
noncomputable def WPl : V:=.agg (cellsV Tryz.prog 12 45 plX)
def seX : D:=entS (opSels 8 1 (ftX.f 6).l)
def opX : D:=zBA 1 [zBY] [seX]
theorem fetX : fetchO 8 ftX 1 = [opX]:=by kernel_rfl
theorem zGm : AC EN Tryz.prog 15 [] (.c (.bool true)):=by
 have h1 : AC EN Tryz.prog 17 [.agg (cellsV Tryz.prog 12 29 supX),.agg (cellsV Tryz.prog 12 34 ftX),.c (.int .i64 1)] (.agg [.sl 57 [opX],.sl 116 []]):=by
  have:=zGj EN 8 supX ftX 1 (planX.cp 0 (by decide))
  rw [fetX] at this
  exact this
 have h2 : AC EN Tryz.prog 19 [.agg (cellsV Tryz.prog 12 29 supX),.agg (cellsV Tryz.prog 12 45 plX)] (.c (.string ⟨#[102,101,116,99,104,32,48,58,32,110,97,109,101,115,44,32,100,101,112,116,104,32,50,44,32,97,102,116,101,114,32,48,44,32,97,116,32,81,117,101,114,121,46,109,101,44,32,102,111,114,32,85,115,101,114,44,32,98,121,32,105,100,10,32,32,113,117,101,114,121,40,36,114,58,32,91,95,65,110,121,33,93,33,41,32,123,10,32,32,32,32,95,101,110,116,105,116,105,101,115,40,114,101,112,114,101,115,101,110,116,97,116,105,111,110,115,58,32,36,114,41,32,123,10,32,32,32,32,32,32,46,46,46,32,111,110,32,85,115,101,114,32,123,10,32,32,32,32,32,32,32,32,110,97,109,101,10,32,32,32,32,32,32,125,10,32,32,32,32,125,10,32,32,125,10]⟩)):=by
  have:=zH1 supX plX planX
  rw [show showT (supX.f 0).l (docF31 (plX.f 0).n) (plX.f 2).l 0 = txX from tx_eq] at this
  exact this
 have e1 : cellsV Tryz.prog 12 29 supX = [.sl 9 gsX,.sl 360 [],.sl 362 [],.sl 364 []]:=by kernel_rfl
 have e2 : cellsV Tryz.prog 12 34 ftX = [.c (.int .i64 1),.c (.int .i64 2),.sl 68 [hopX],.c (.string ⟨#[85,115,101,114]⟩),.sl 9 [.str ⟨#[105,100]⟩],.c (.int .i64 1),.sl 73 [pkX],.sl 3 [.int 0]]:=by kernel_rfl
 have e3 : cellsV Tryz.prog 12 45 plX = [.c (.int .i64 1),.sl 73 [],.sl 34 [ftX]]:=by kernel_rfl
 rw [e1,e2] at h1
 rw [e1,e3] at h2
 refine zO 62 Tryz.func15 rfl rfl rfl rfl ?_
 intro s w he
 repeat' (first
|apply zAc (WSu) rfl rfl
 . conv => lhs; whnf; arg 2; whnf
 . repeat' (first | exact VLe.refl _ | exact VLe.nil _ | exact VLe.lit _ _ | exact VLe.own _ _ _ | apply VLe.agg | apply VLeL.cons | exact VLeL.nil)
|apply zAc (WHo) rfl rfl
 . conv => lhs; whnf; arg 2; whnf
 . repeat' (first | exact VLe.refl _ | exact VLe.nil _ | exact VLe.lit _ _ | exact VLe.own _ _ _ | apply VLe.agg | apply VLeL.cons | exact VLeL.nil)
|apply zAc (WPk) rfl rfl
 . conv => lhs; whnf; arg 2; whnf
 . repeat' (first | exact VLe.refl _ | exact VLe.nil _ | exact VLe.lit _ _ | exact VLe.own _ _ _ | apply VLe.agg | apply VLeL.cons | exact VLeL.nil)
|apply zAc (WFt) rfl rfl
 . conv => lhs; whnf; arg 2; whnf
 . repeat' (first | exact VLe.refl _ | exact VLe.nil _ | exact VLe.lit _ _ | exact VLe.own _ _ _ | apply VLe.agg | apply VLeL.cons | exact VLeL.nil)
|apply zAc (WPl) rfl rfl
 . conv => lhs; whnf; arg 2; whnf
 . repeat' (first | exact VLe.refl _ | exact VLe.nil _ | exact VLe.lit _ _ | exact VLe.own _ _ _ | apply VLe.agg | apply VLeL.cons | exact VLeL.nil)
|apply zAr [.int 0] rfl rfl
 . conv => lhs; whnf
 . first | exact zAK | exact zDj | exact zCk | exact zDi | exact zDk | (conv => lhs; whnf; arg 1; whnf)
 . rfl
 . rfl
 . repeat' (first | exact trivial | apply And.intro | rfl)
|apply zAr gsX rfl rfl
 . conv => lhs; whnf
 . first | exact zAK | exact zDj | exact zCk | exact zDi | exact zDk | (conv => lhs; whnf; arg 1; whnf)
 . rfl
 . rfl
 . repeat' (first | exact trivial | apply And.intro | rfl)
|apply zAr [hopX] rfl rfl
 . conv => lhs; whnf
 . first | exact zAK | exact zDj | exact zCk | exact zDi | exact zDk | (conv => lhs; whnf; arg 1; whnf)
 . rfl
 . rfl
 . repeat' (first | exact trivial | apply And.intro | rfl)
|apply zAr [.str ⟨#[105,100]⟩] rfl rfl
 . conv => lhs; whnf
 . first | exact zAK | exact zDj | exact zCk | exact zDi | exact zDk | (conv => lhs; whnf; arg 1; whnf)
 . rfl
 . rfl
 . repeat' (first | exact trivial | apply And.intro | rfl)
|apply zAr [pkX] rfl rfl
 . conv => lhs; whnf
 . first | exact zAK | exact zDj | exact zCk | exact zDi | exact zDk | (conv => lhs; whnf; arg 1; whnf)
 . rfl
 . rfl
 . repeat' (first | exact trivial | apply And.intro | rfl)
|apply zAr [ftX] rfl rfl
 . conv => lhs; whnf
 . first | exact zAK | exact zDj | exact zCk | exact zDi | exact zDk | (conv => lhs; whnf; arg 1; whnf)
 . rfl
 . rfl
 . repeat' (first | exact trivial | apply And.intro | rfl)
|refine zB ?_
|refine zC ?_
|refine zQ ?_
|apply aw_1
 conv => whnf
 refine ⟨?_,trivial⟩
|apply ze rfl rfl
 . conv => lhs; whnf
 . conv => lhs; whnf
 . first | decide +kernel
|apply s_1
 conv => whnf; arg 1; arg 4; arg 3; whnf
 refine ⟨?_,?_⟩
|apply zl rfl
 . conv => lhs; whnf
 . conv => lhs; whnf
 . first | exact h1 | exact h2
|apply zz rfl rfl rfl
 . conv => lhs; whnf
 . conv => lhs; whnf; arg 1; whnf
 . conv => lhs; whnf; arg 1; whnf
 . exact ⟨by kernel_rfl,by kernel_rfl⟩
 . rfl
|apply zJ rfl
 . conv => lhs; whnf
 . conv => lhs; whnf
 . first | rfl | assumption | decide +kernel
 . conv => lhs; whnf; arg 2; whnf
|refine zD ?_
|refine ⟨_,by conv => lhs; whnf; arg 2; whnf,?_⟩; conv => rhs; whnf
|exact trivial)
 all_goals first
  | rfl
  | decide
  | exact congrArg (fun b => V.c (Value.bool b)) (by decide +kernel)
  | (refine ⟨(show Tryz.prog.underlying 9 = some .string by kernel_rfl),?_⟩; decide +kernel)
def bAt (T : List UInt8) (i : Nat) : Bool:=decide (i = 0) || (T.getD (i - 1) 0 == 10)
theorem zGu : ∀ (l : List UInt8) (b : Bool),l.length < 6 -> cntF b l = 0
 | [],_,_ => rfl
 | c :: r,b,h => by
   have h1 : hd6 (c :: r) = false:=by
    unfold hd6
    rw [beq_eq_false_iff_ne]
    intro e
    have:=congrArg List.length e
    rw [List.length_take] at this
    simp only [ftT,List.length_cons,List.length_nil] at this h
    omega
   have h2:=zGu r (c == 10) (by simp at h; omega)
   show (if b && hd6 (c :: r) then 1 else 0) + cntF (c == 10) r = 0
   rw [h1,h2,Bool.and_false]
   rfl
theorem cnt_step {T : List UInt8} {i : Nat} (h : i < T.length) (b : Bool) : cntF b (T.drop i) = (if b && hd6 (T.drop i) then 1 else 0) + cntF (bAt T (i + 1)) (T.drop (i + 1)):=by
 have e : bAt T (i + 1) = (T[i] == 10):=by
  unfold bAt
  rw [Nat.add_sub_cancel,List.getD_eq_getElem?_getD,List.getElem?_eq_getElem h]
  simp
 rw [e,List.drop_eq_getElem_cons h]
 rfl
theorem btt_of {b : Bool} (h : b = true) : (b == true) = true:=by rw [h]; rfl
theorem btf_of {b : Bool} (h : b = false) : (b == true) = false:=by rw [h]; rfl
theorem nself31 (b : ByteArray) : (!(b.toList == b.toList)) = false:=by simp
noncomputable def HSa (s p : D) (i : Nat) : Vst 80:=
 stS 80 [(2,.bx 2 0),(3,.bx 3 0),(5,.c (.int .i64 (i : Int)))] [(2,.box 29 (cellsV Tryz.prog 12 29 s)),(3,.box 45 (cellsV Tryz.prog 12 45 p))]
noncomputable def HSb (p : D) (T : List UInt8) (n i : Nat) : Vst 80:=
 stS 80 [(3,.bx 3 0),(6,.c (.string (bs T))),(7,.c (.int .i64 (n : Int))),(8,.c (.int .i64 (i : Int)))] [(3,.box 45 (cellsV Tryz.prog 12 45 p))]
theorem shows_ac (s0 p : D) (hgb : bulkL (s0.f 0).l <= 1048576) (hk : i64D (p.f 0).n) (hlen : (p.f 2).l.length <= 1048576) (hf : ∀ i,i < (p.f 2).l.length -> FetIn (gD (p.f 2).l i)) :
 AC EN Tryz.prog 4 [.agg (cellsV Tryz.prog 12 29 s0),.agg (cellsV Tryz.prog 12 45 p)] (.c (.bool true)):=by
 have h1:=zGm
 have hgl:=zAR (s0.f 0).l
 refine zO 80 Tryz.func4 rfl rfl rfl rfl ?_
 intro s w he
 by_cases hn : (p.f 2).l.length <= 12
 rotate_left 1
 . have f0 : decide ((((p.f 2).l.length : Nat) : Int) > 12) = true:=decide_eq_true (by omega)
   have f0b:=bft_of f0
   repeat' (first
|refine zB ?_
|refine zC ?_
|refine zQ ?_
|apply aw_1
 conv => whnf
 refine ⟨?_,trivial⟩
|apply ze rfl rfl
 . conv => lhs; whnf
 . conv => lhs; whnf
 . first | exact bT1 ‹_› | exact bT2 ‹_›
|apply s_1
 conv => whnf; arg 1; arg 4; arg 3; whnf
 refine ⟨?_,?_⟩
|apply zl rfl
 . conv => lhs; whnf
 . conv => lhs; whnf
 . first | exact h1
|apply zAN rfl rfl rfl rfl
 . conv => lhs; whnf; arg 1; whnf
 . rfl
|apply zAA rfl
 . conv => lhs; whnf
 . conv => lhs; whnf
 . first | rfl | assumption
|refine zN ?_
|refine zD ?_
|refine ⟨_,by conv => lhs; whnf; arg 2; whnf,?_⟩; conv => rhs; whnf
|exact trivial)
   all_goals rfl
 have f0 : decide ((((p.f 2).l.length : Nat) : Int) > 12) = false:=decide_eq_false (by omega)
 have f0b:=bff_of f0
 by_cases hn2 : (s0.f 0).l.length <= 12
 rotate_left 1
 . have f1 : decide ((((s0.f 0).l.length : Nat) : Int) > 12) = true:=decide_eq_true (by omega)
   repeat' (first
|apply zK
 . conv => lhs; whnf
 . assumption
|refine zB ?_
|refine zC ?_
|refine zQ ?_
|apply aw_1
 conv => whnf
 refine ⟨?_,trivial⟩
|apply zm rfl rfl
 . conv => lhs; whnf
 . conv => lhs; whnf
 . first | exact bF1 ‹_› | exact bF2 ‹_›
|apply s_1
 conv => whnf; arg 1; arg 4; arg 3; whnf
 refine ⟨?_,?_⟩
|apply zl rfl
 . conv => lhs; whnf
 . conv => lhs; whnf
 . first | exact h1
|apply zAN rfl rfl rfl rfl
 . conv => lhs; whnf; arg 1; whnf
 . rfl
|apply zJ rfl
 . conv => lhs; whnf
 . conv => lhs; whnf
 . first | rfl | assumption
 . conv => lhs; whnf; arg 2; whnf
|refine zN ?_
|refine zD ?_
|refine ⟨_,by conv => lhs; whnf; arg 2; whnf,?_⟩; conv => rhs; whnf
|exact trivial)
   all_goals rfl
 have f1 : decide ((((s0.f 0).l.length : Nat) : Int) > 12) = false:=decide_eq_false (by omega)
 repeat' (first
|apply zM
 . conv => lhs; whnf
 . assumption
|refine zB ?_
|refine zC ?_
|refine zQ ?_
|apply aw_1
 conv => whnf
 refine ⟨?_,trivial⟩
|apply zm rfl rfl
 . conv => lhs; whnf
 . conv => lhs; whnf
 . first | exact bF1 ‹_› | exact bF2 ‹_›
|apply s_1
 conv => whnf; arg 1; arg 4; arg 3; whnf
 refine ⟨?_,?_⟩
|apply zAN rfl rfl rfl rfl
 . conv => lhs; whnf; arg 1; whnf
 . rfl
|apply zJ rfl
 . conv => lhs; whnf
 . conv => lhs; whnf
 . first | rfl | assumption
 . conv => lhs; whnf; arg 2; whnf
|exact trivial)
 refine zv (fun j st => ∃ i,i + j = (p.f 2).l.length /\ (∀ m,m < i -> fitsB (s0.f 0).l (gD (p.f 2).l m) (p.f 0).n = true) /\ Sub (cx EN Tryz.prog s w he) st (HSa s0 p i)) (p.f 2).l.length ⟨0,by omega,fun m hm => absurd hm (Nat.not_lt_zero m),Sub.live ⟨rfl,rfl,rfl,trivial⟩ ⟨rfl,rfl,trivial⟩⟩ ?_
 rintro j st ⟨i,hij,hno,hs2⟩
 refine zu hs2 ?_
 clear hs2
 by_cases hi : i < (p.f 2).l.length
 . have g0 : decide ((i : Int) < ((p.f 2).l.length : Nat)) = true:=decide_eq_true (by omega)
   have hF:=hf i hi
   have hx:=fits31_ac s0 (gD (p.f 2).l i) (p.f 0).n (szOk_of hgb hF.bulk) fun hl => ⟨zIe hF hl,by have:=zDh hF (p.f 0).n; omega⟩
   rcases hb : fitsB (s0.f 0).l (gD (p.f 2).l i) (p.f 0).n with _ | _
   . rw [hb] at hx
     repeat' (first
|apply zK
 . conv => lhs; whnf
 . assumption
|refine zB ?_
|refine zC ?_
|refine zQ ?_
|apply aw_1
 conv => whnf
 refine ⟨?_,trivial⟩
|apply s_1
 conv => whnf; arg 1; arg 4; arg 3; whnf
 refine ⟨?_,?_⟩
|apply zl rfl
 . conv => lhs; whnf
 . conv => lhs; whnf
 . first | exact hx | exact h1
|apply zAJ (by kernel_rfl) (by kernel_rfl)
|apply zAx
|apply zAw rfl
 . conv => lhs; whnf
 . conv => lhs; whnf; arg 2; whnf
|apply zAq rfl
 . conv => lhs; whnf
 . conv => lhs; whnf
 . first | exact hx | exact h1
|exact zd
|exact zy
|exact (1000000 : Nat)
|refine zN ?_
|refine zL ?_
|refine za ?_
|refine zD ?_
|refine ⟨_,by conv => lhs; whnf; arg 2; whnf,?_⟩; conv => rhs; whnf
|exact trivial)
     all_goals first
      | exact at31 hi
      | rfl
   . rw [hb] at hx
     repeat' (first
|apply zK
 . conv => lhs; whnf
 . assumption
|refine zB ?_
|refine zC ?_
|refine zQ ?_
|refine zU ?_
|apply aw_1
 conv => whnf
 refine ⟨?_,trivial⟩
|apply s_1
 conv => whnf; arg 1; arg 4; arg 3; whnf
 refine ⟨?_,?_⟩
|apply zAJ (by kernel_rfl) (by kernel_rfl)
|apply zAx
|apply zAw rfl
 . conv => lhs; whnf
 . conv => lhs; whnf; arg 2; whnf
|apply zAq rfl
 . conv => lhs; whnf
 . conv => lhs; whnf
 . first | exact hx
|exact zd
|exact zy
|exact (1000000 : Nat)
|exact trivial)
     all_goals first
      | exact zo (by omega)
      | exact at31 hi
      | skip
     refine zF (j':=j - 1) (by omega) ⟨i + 1,by omega,fun m hm => ?_,Sub.live ⟨rfl,rfl,rfl,trivial⟩ ⟨rfl,rfl,trivial⟩⟩
     by_cases em : m = i
     . subst em; exact hb
     . exact hno m (by omega)
 have g0 : decide ((i : Int) < ((p.f 2).l.length : Nat)) = false:=decide_eq_false (by omega)
 have hA : ∀ m,m < (p.f 2).l.length -> fitsB (s0.f 0).l (gD (p.f 2).l m) (p.f 0).n = true:=fun m hm => hno m (by omega)
 clear hno hij f0 f1 f0b
 have hP:=planOk_of hgb hk hn fun m hm => ⟨hf m hm,hA m hm⟩
 have h2:=zH1 s0 p hP
 have h3:=showR_ac s0 p hP
 have hcnt : cntF true (showT (s0.f 0).l (docF31 (p.f 0).n) (p.f 2).l 0) = (p.f 2).l.length:=zIo _ _ _ _ (zFu fun m hm => named_of (zFx (hA m hm)).2.1)
 have hTl:=hP.sl
 generalize showT (s0.f 0).l (docF31 (p.f 0).n) (p.f 2).l 0 = T at *
 have hz:=zS T
 have g1:=nself31 (bs T)
 repeat' (first
|apply zM
 . conv => lhs; whnf
 . assumption
|refine zB ?_
|refine zC ?_
|refine zQ ?_
|apply aw_1
 conv => whnf
 refine ⟨?_,trivial⟩
|apply s_1
 conv => whnf; arg 1; arg 4; arg 3; whnf
 refine ⟨?_,?_⟩
|apply zl rfl
 . conv => lhs; whnf
 . conv => lhs; whnf
 . first | exact h2 | exact h3
|refine zI ?_
|refine zE rfl ?_
|refine zG ?_
|exact trivial)
 clear h2 h3 g0 g1
 refine zv (fun j st => ∃ n k,k + j = T.length + 1 /\ n + cntF (bAt T k) (T.drop k) = (p.f 2).l.length /\ Sub (cx EN Tryz.prog s w he) st (HSb p T n k)) (T.length + 1) ⟨0,0,by omega,by rw [Nat.zero_add]; exact hcnt,Sub.live ⟨rfl,rfl,rfl,rfl,trivial⟩ ⟨rfl,trivial⟩⟩ ?_
 rintro j st ⟨n,k,hkj,hc,hs2⟩
 refine zu hs2 ?_
 clear hs2
 by_cases hi : k + 6 <= T.length
 rotate_left 1
 . have g0 : decide ((k : Int) + 6 <= ((bs T).size : Nat)) = false:=decide_eq_false (by omega)
   rw [zGu _ _ (by rw [List.length_drop]; omega),Nat.add_zero] at hc
   have g2 : ((n : Int) == (((p.f 2).l.length : Nat) : Int)) = true:=by rw [hc]; simp
   have g2b:=btt_of g2
   repeat' (first
|apply zM
 . conv => lhs; whnf
 . assumption
|refine zB ?_
|refine zC ?_
|refine zQ ?_
|apply aw_1
 conv => whnf
 refine ⟨?_,trivial⟩
|apply ze rfl rfl
 . conv => lhs; whnf
 . conv => lhs; whnf
 . first | exact bT1 ‹_› | exact bT2 ‹_›
|apply s_1
 conv => whnf; arg 1; arg 4; arg 3; whnf
 refine ⟨?_,?_⟩
|apply zX rfl
 . conv => lhs; whnf
 . conv => lhs; whnf
 . first | rfl | assumption
 . conv => lhs; whnf
 . first | exact h1
|refine zI ?_
|refine zE rfl ?_
|refine zG ?_
|refine zD ?_
|refine ⟨_,by conv => lhs; whnf; arg 2; whnf,?_⟩; conv => rhs; whnf
|exact trivial)
   all_goals first
    | exact zo (by omega)
    | rfl
 have g0 : decide ((k : Int) + 6 <= ((bs T).size : Nat)) = true:=decide_eq_true (by omega)
 have x0 : (bs T).extract ((k : Int)).toNat (((k : Int) + 6)).toNat = bs ((T.drop k).take 6):=by
  rw [show (((k : Int) + 6)).toNat = k + 6 by omega]
  have:=zGl T (a:=k) (b:=k + 6) (by omega) hi
  rw [show k + 6 - k = 6 by omega] at this
  exact this
 have g3 : (((bs T).extract ((k : Int)).toNat (((k : Int) + 6)).toNat).toList == (⟨#[102,101,116,99,104,32]⟩ : ByteArray).toList) = hd6 (T.drop k):=by
  rw [x0,Lib.toList_data,Lib.toList_data,zCb]
  rfl
 have hst:=cnt_step (T:=T) (i:=k) (by omega) (bAt T k)
 rw [hst] at hc
 have hnl : n <= (p.f 2).l.length:=by omega
 clear hst
 rcases hh : hd6 (T.drop k) with _ | _
 . rw [hh] at g3 hc
   rw [Bool.and_false] at hc
   have g3b:=btf_of g3
   repeat' (first
|apply zK
 . conv => lhs; whnf
 . assumption
|refine zB ?_
|refine zC ?_
|refine zQ ?_
|refine zU ?_
|apply aw_1
 conv => whnf
 refine ⟨?_,trivial⟩
|apply zm rfl rfl
 . conv => lhs; whnf
 . conv => lhs; whnf
 . first | exact bF1 ‹_› | exact bF2 ‹_›
|apply s_1
 conv => whnf; arg 1; arg 4; arg 3; whnf
 refine ⟨?_,?_⟩
|apply zAA rfl
 . conv => lhs; whnf
 . conv => lhs; whnf
 . first | rfl | assumption
|exact trivial)
   all_goals first
    | exact zo (by omega)
    | exact (show Tryz.prog.underlying 9 = some TypeDesc.string by kernel_rfl)
    | exact ⟨by kernel_rfl,by omega,by omega⟩
    | exact ⟨by kernel_rfl,by omega,by omega,by omega⟩
    | exact zF (j':=j - 1) (by omega) ⟨n,k + 1,by omega,by simpa using hc,Sub.live ⟨rfl,rfl,rfl,rfl,trivial⟩ ⟨rfl,trivial⟩⟩
 rw [hh] at g3 hc
 rw [Bool.and_true] at hc
 have g3b:=btt_of g3
 by_cases hk0 : k = 0
 . subst hk0
   have hb : bAt T 0 = true:=rfl
   rw [hb,if_pos rfl] at hc
   have g4 : (((0 : Nat) : Int) == 0) = true:=rfl
   have g5:=bft_of g4
   repeat' (first
|apply zAi rfl rfl rfl
 . conv => lhs; whnf
 . first | rfl | assumption
 . conv => lhs; whnf
 . first | exact bT1 ‹_› | exact bT2 ‹_› | rfl
|apply zK
 . conv => lhs; whnf
 . assumption
|refine zB ?_
|refine zC ?_
|refine zQ ?_
|refine zU ?_
|apply aw_1
 conv => whnf
 refine ⟨?_,trivial⟩
|apply ze rfl rfl
 . conv => lhs; whnf
 . conv => lhs; whnf
 . first | exact bT1 ‹_› | exact bT2 ‹_›
|apply s_1
 conv => whnf; arg 1; arg 4; arg 3; whnf
 refine ⟨?_,?_⟩
|apply zJ rfl
 . conv => lhs; whnf
 . conv => lhs; whnf
 . first | rfl | assumption
 . conv => lhs; whnf; arg 2; whnf
|exact trivial)
   all_goals first
    | exact zo (by omega)
    | exact (show Tryz.prog.underlying 9 = some TypeDesc.string by kernel_rfl)
    | exact ⟨by kernel_rfl,by omega,by omega⟩
    | exact ⟨by kernel_rfl,by omega,by omega,by omega⟩
    | exact zF (j':=j - 1) (by omega) ⟨n + 1,0 + 1,by omega,by omega,Sub.live ⟨rfl,rfl,rfl,rfl,trivial⟩ ⟨rfl,trivial⟩⟩
 have g4 : ((k : Int) == 0) = false:=by simpa using hk0
 have g5:=bff_of g4
 have hbt : (zB8 (bs T) ((k : Int) - 1).toNat == 10) = bAt T k:=by
  have:=byte_at (s:=T) (k:=k - 1) (by omega)
  rw [show ((k : Int) - 1) = ((k - 1 : Nat) : Int) by omega,this]
  refine (u8_eq T[k - 1] 10 (by omega)).trans ?_
  unfold bAt
  rw [List.getD_eq_getElem?_getD,List.getElem?_eq_getElem (by omega)]
  simp [hk0]
 rcases hb : bAt T k with _ | _
 . rw [hb] at hbt hc
   repeat' (first
|apply zAg rfl rfl rfl
 . conv => lhs; whnf
 . first | rfl | assumption
 . conv => lhs; whnf
 . first | exact bF1 ‹_› | exact bF2 ‹_› | rfl
|apply zK
 . conv => lhs; whnf
 . assumption
|apply zM
 . conv => lhs; whnf
 . assumption
|refine zB ?_
|refine zC ?_
|refine zQ ?_
|refine zU ?_
|apply aw_1
 conv => whnf
 refine ⟨?_,trivial⟩
|apply ze rfl rfl
 . conv => lhs; whnf
 . conv => lhs; whnf
 . first | exact bT1 ‹_› | exact bT2 ‹_›
|apply s_1
 conv => whnf; arg 1; arg 4; arg 3; whnf
 refine ⟨?_,?_⟩
|apply zJ rfl
 . conv => lhs; whnf
 . conv => lhs; whnf
 . first | rfl | assumption
 . conv => lhs; whnf; arg 2; whnf
|exact trivial)
   all_goals first
    | exact zo (by omega)
    | exact (show Tryz.prog.underlying 9 = some TypeDesc.string by kernel_rfl)
    | exact ⟨by kernel_rfl,by omega,by omega⟩
    | exact ⟨by kernel_rfl,by omega,by omega,by omega⟩
    | exact zF (j':=j - 1) (by omega) ⟨n,k + 1,by omega,by simpa using hc,Sub.live ⟨rfl,rfl,rfl,rfl,trivial⟩ ⟨rfl,trivial⟩⟩
 . rw [hb] at hbt hc
   rw [if_pos rfl] at hc
   repeat' (first
|apply zAg rfl rfl rfl
 . conv => lhs; whnf
 . first | rfl | assumption
 . conv => lhs; whnf
 . first | exact bF1 ‹_› | exact bF2 ‹_› | rfl
|apply zK
 . conv => lhs; whnf
 . assumption
|refine zB ?_
|refine zC ?_
|refine zQ ?_
|refine zU ?_
|apply aw_1
 conv => whnf
 refine ⟨?_,trivial⟩
|apply ze rfl rfl
 . conv => lhs; whnf
 . conv => lhs; whnf
 . first | exact bT1 ‹_› | exact bT2 ‹_›
|apply s_1
 conv => whnf; arg 1; arg 4; arg 3; whnf
 refine ⟨?_,?_⟩
|apply zJ rfl
 . conv => lhs; whnf
 . conv => lhs; whnf
 . first | rfl | assumption
 . conv => lhs; whnf; arg 2; whnf
|exact trivial)
   all_goals first
    | exact zo (by omega)
    | exact (show Tryz.prog.underlying 9 = some TypeDesc.string by kernel_rfl)
    | exact ⟨by kernel_rfl,by omega,by omega⟩
    | exact ⟨by kernel_rfl,by omega,by omega,by omega⟩
    | exact zF (j':=j - 1) (by omega) ⟨n + 1,k + 1,by omega,by omega,Sub.live ⟨rfl,rfl,rfl,rfl,trivial⟩ ⟨rfl,trivial⟩⟩
end Go.Proofs.YthjiclhfhjdjpaaGreatDoor
namespace Go.Proofs.YthjiclhfhjdjpaaGreatDoor
open Go.ChangeShapes Go.WideShapes Go.ChangeAt Go.RowKit
set_option linter.unusedSectionVars false
attribute [local irreducible] wpList Calls Code.wp AW AWo OpOk seqK zAf zAh loopK endK AC zAD Yld Sub
attribute [local irreducible] ACB ACX absLexG YldG absLexH
def planSet : List TypeId:=[45,43,34,30,68,31,73,69,86,82,84,22,9,71,32,3,4]
theorem zHD : closedB Tryz.prog planSet = true:=by kernel_rfl
theorem fetch_pk {k : Nat} {f : D} (hf : Fits Tryz.prog k 34 f) : ∃ j,∀ i,i < (f.f 6).l.length -> Fits Tryz.prog j 73 (gD (f.f 6).l i):=by
 obtain ⟨j,l,rfl,hl,hfs⟩:=zIZ Tryz.underlying34 hf
 obtain ⟨j6,l6,e6,h6⟩:=zIa Tryz.underlying31 (hfs 6 _ rfl)
 have e : ((D.obj l).f 6).l = l6:=by show (gD l 6).l = l6; rw [e6]; rfl
 rw [e]
 exact ⟨j6,h6⟩
theorem plan_pk {k : Nat} {p : D} (hf : Fits Tryz.prog k 45 p) : ∃ j,∀ i,i < (p.f 2).l.length -> Fits Tryz.prog j 34 (gD (p.f 2).l i):=by
 obtain ⟨j,l,rfl,hl,hfs⟩:=zIZ Tryz.underlying45 hf
 obtain ⟨j6,l6,e6,h6⟩:=zIa Tryz.underlying43 (hfs 2 _ rfl)
 have e : ((D.obj l).f 2).l = l6:=by show (gD l 2).l = l6; rw [e6]; rfl
 rw [e]
 exact ⟨j6,h6⟩
theorem relL2_31 {P : Program} {s : Sg} {w : World} {v v2 : V} {u u2 : Value} (h : rel P s w v u) (h2 : rel P s w v2 u2) : relL P s w [v,v2] (#[u,u2] : Array Value).toList:=by
 show relL P s w [v,v2] [u,u2]
 rw [relL,relL]; exact ⟨h,h2,by simp [relL]⟩
theorem upto_two31 {H : Type} {d d2 : DataW H} {gs : List (DataW H)} (h : Rows.uptoSmall H (d :: d2 :: gs) = true) : Rows.uptoBulk d <= 1048576 /\ Rows.uptoBulk d2 <= 1048576:=by
 have h1 : Rows.uptoBulkAll (d :: d2 :: gs) <= 1048576:=of_decide_eq_true h
 rw [Rows.uptoBulkAll,Rows.uptoBulkAll] at h1
 omega
theorem super_in {H : Type} {enc : TypeId × Value -> H} {W : World} {v : Value} {base : Nat} {dw : DataW H} {ps : List MemPlace} (hv : Value.okWide Tryz.prog W .any base 29 v) (hd : DataW.Trod enc Tryz.prog W 0 (fun _ => true) true 29 v dw ps) (hb : Rows.uptoBulk dw <= 1048576) :
 ∃ (cs : Array Value) (s0 : D),v = .agg cs /\ rel Tryz.prog (sg0 W) W (.agg (cellsV Tryz.prog 12 29 s0)) (.agg cs) /\ bulkL (s0.f 0).l <= 1048576:=by
 obtain ⟨k,cs,d,rfl,hr,hf,hbk⟩:=arg_in Tryz.underlying29 hv hd
 exact ⟨cs,d,rfl,cells0 Tryz.underlying29 (by kernel_rfl) hr,by have:=zCI d 0; omega⟩
theorem plan_in {H : Type} {enc : TypeId × Value -> H} {W : World} {v : Value} {base : Nat} {dw : DataW H} {ps : List MemPlace} (hv : Value.okWide Tryz.prog W .any base 45 v) (hd : DataW.Trod enc Tryz.prog W 0 (fun _ => true) true 45 v dw ps) (hb : Rows.uptoBulk dw <= 1048576) :
 ∃ (cs : Array Value) (p : D),v = .agg cs /\ rel Tryz.prog (sg0 W) W (.agg (cellsV Tryz.prog 12 45 p)) (.agg cs) /\ i64D (p.f 0).n /\ (p.f 2).l.length <= 1048576 /\ ∀ i,i < (p.f 2).l.length -> FetIn (gD (p.f 2).l i):=by
 obtain ⟨k,cs,p,rfl,hr,hf,hbk⟩:=arg_in Tryz.underlying45 hv hd
 have hw:=zG5 zHD (by decide) hr hf
 have h2:=zCI p 2
 have h3:=zAR (p.f 2).l
 refine ⟨cs,p,rfl,cells0 Tryz.underlying45 (by kernel_rfl) hr,(hw.f 0).n,by omega,fun i hi => ⟨(hw.f 2).l i,by have:=zAH hi; omega,?_⟩⟩
 obtain ⟨j,hj⟩:=plan_pk hf
 exact fetch_pk (hj i hi)
theorem rowShows {H : Type} {enc : TypeId × Value -> H} {W : World} {v v2 : Value} {base base2 : Nat} {dw dw2 : DataW H} {ps ps2 : List MemPlace} (hv : Value.okWide Tryz.prog W .any base 29 v) (hd : DataW.Trod enc Tryz.prog W 0 (fun _ => true) true 29 v dw ps)
 (hv2 : Value.okWide Tryz.prog W .any base2 45 v2) (hd2 : DataW.Trod enc Tryz.prog W 0 (fun _ => true) true 45 v2 dw2 ps2) (hb : Rows.uptoBulk dw <= 1048576 /\ Rows.uptoBulk dw2 <= 1048576) (he : EnvT W) :
 Calls Tryz.prog 4 #[v,v2] W fun e W' => e = .returned (.bool true) /\ Below W.heap.size W W':=by
 obtain ⟨cs,s0,rfl,hr,hg⟩:=super_in hv hd hb.1
 obtain ⟨cs2,p,rfl,hr2,hk,hl,hf⟩:=plan_in hv2 hd2 hb.2
 exact zHf (shows_ac s0 p hg hk hl hf) (relL2_31 hr hr2) he
end Go.Proofs.YthjiclhfhjdjpaaGreatDoor
namespace Go.Proofs.YthjiclhfhjdjpaaGreatDoor
open Go.ChangeShapes Go.WideShapes Go.ChangeAt Go.RowKit
attribute [local irreducible] wpList Calls Code.wp
theorem zCM (H : Type) (enc : TypeId × Value -> H) (W : World) (base : Nat) (args : Array Value) (ds gs : List (DataW H)) (before : List MemPlace)
 (hval : ∀ (j : Nat) t v,Tryz.f4.params[j]? = some t -> args[j]? = some v -> Value.okWide Tryz.prog W .any base t v)
 (hW : DataW.Whole enc Tryz.prog Tryz.f4.params.toList Rows.fetchtextShowsSpec.vars false W args.toList ds gs before) (hL : laidMetH Tryz.prog Rows.fetchtextShowsUptoRow.laid W)
 (hcond : ∀ k,(Rows.OpenSpec.upto Rows.fetchtextShowsSpec).cond = some k -> k H (ds ++ gs) = true)
 (hR : (DataW.weightsEach Tryz.prog (Tryz.f4.params.toList ++ (Rows.OpenSpec.upto Rows.fetchtextShowsSpec).bare.plain.varTypes Tryz.prog) (ds ++ gs)).all (· <= reachBytes) = true) :
 Calls Tryz.prog 4 args W fun e W' => ∃ v,e = .returned v /\ Rows.fetchtextShowsSpec.post enc Tryz.prog Tryz.f4 false true false false W args v W':=by
 have hW':=hW
 obtain ⟨p,q,hA0,hV,rfl,hfz,hnd⟩:=hW
 have hA : DataW.TrodAll enc Tryz.prog W 0 (fun _ => true) true Tryz.f4.params.toList args.toList ds p:=hA0
 rw [Tryz.params4] at hA hval hR
 obtain ⟨v0,vs0,d0,ds0,p0,q0,hargs,rfl,rfl,h0,r0⟩:=trodAll_cons hA
 obtain ⟨v1,vs1,d1,ds1,p1,q1,e1,rfl,rfl,h1,r1⟩:=trodAll_cons r0
 subst e1
 obtain ⟨rfl,rfl,rfl⟩:=trodAll_nil r1
 obtain rfl : args = #[v0,v1]:=by cases args; simp_all
 refine (rowShows (hval 0 29 v0 rfl rfl) h0 (hval 1 45 v1 rfl rfl) h1 (upto_two31 (hcond _ rfl)) (zGp hL)).mono fun e W' ⟨he,hbel⟩ => ?_
 subst he
 exact ⟨_,rfl,post_true laidOut' (types_ok _ (by kernel_rfl)) Tryz.underlying4 rfl rfl hW' hbel (fun gs h => by subst h; rfl)⟩
theorem laid_metFetchtextShows (os : Os) : laidMet Tryz.prog Rows.fetchtextShowsUptoRow.laid ((laidWorld os).forCall (fun _ _ => 0) ⟨#[],#[.agg #[.slice none 0 0,.slice none 0 0,.slice none 0 0,.slice none 0 0],.agg #[.int .i64 0,.slice none 0 0,.slice none 0 0]],[]⟩).memory:=
 laidMet_of_run' 8 (by kernel_rfl) (by kernel_rfl)
theorem zCy (os : Os) {H : Type} (enc : TypeId × Value -> H) : ∃ places,DataW.whole enc Tryz.prog ((laidWorld os).forCall (fun _ _ => 0) ⟨#[],#[.agg #[.slice none 0 0,.slice none 0 0,.slice none 0 0,.slice none 0 0],.agg #[.int .i64 0,.slice none 0 0,.slice none 0 0]],[]⟩).memory Tryz.f4.params.toList Rows.fetchtextShowsSpec.vars false (#[.agg #[.slice none 0 0,.slice none 0 0,.slice none 0 0,.slice none 0 0],.agg #[.int .i64 0,.slice none 0 0,.slice none 0 0]] : Array Value).toList 8 = some ([.agg [.nil,.agg [.nil],.nil,.nil],.agg [.lit (.int .i64 0),.nil,.nil]],[],places):=
 ⟨[],by kernel_rfl⟩
theorem zCr (os : Os) (started : os.Started) (H : Type) (enc : TypeId × Value -> H) (F : Stop.Interp) :
 ReturnsInHanded {} Tryz.checked os 4 .any ((Rows.OpenSpec.upto Rows.fetchtextShowsSpec).preRow enc Tryz.prog Tryz.f4 Rows.fetchtextShowsUptoRow.domain false Rows.fetchtextShowsUptoRow.laid) (((Rows.OpenSpec.upto Rows.fetchtextShowsSpec).at F).post enc Tryz.prog Tryz.f4 false true false false):=by
 obtain ⟨places,hx⟩:=zCy os enc
 refine returnsInHanded_of_row (C:=Tryz.checked) (s:=Rows.OpenSpec.upto Rows.fetchtextShowsSpec) own started (by kernel_rfl) Tryz.func4
  (witness_row_at (enc:=enc) (C:=Tryz.checked) false (laidWorld os) #[.agg #[.slice none 0 0,.slice none 0 0,.slice none 0 0,.slice none 0 0],.agg #[.int .i64 0,.slice none 0 0,.slice none 0 0]] rfl (by kernel_rfl) (by kernel_rfl) (by kernel_rfl)
    (OpenSpec.preRow_of_cond 8 hx (by kernel_rfl) (fun k hk => by cases hk; kernel_rfl) (by kernel_rfl) (laid_metFetchtextShows os))) ?_
 intro W base args ds gs before hval hW _ hcond hR hL _ _
 exact zCM H enc W base args ds gs before hval hW hL hcond hR
theorem zC4 {a b : Bool} (h1 : a = true) (h2 : b = true) : (a && b) = true:=by rw [h1,h2]; rfl
theorem zCs : joinedFacts Tryz.prog 4 Tryz.f4 (Rows.OpenSpec.upto Rows.fetchtextShowsSpec).bare Rows.fetchtextShowsUptoRow = true:=by
 unfold joinedFacts
 repeat' (with_reducible apply zC4)
 all_goals as_aux_lemma => kernel_rfl
theorem zDG : Rows.FetchtextShowsUptoSaid:=
 OpenClaim.holds_of_cond 4 Tryz.f4 rfl rfl rfl rfl rfl rfl rfl ⟨rfl,rfl,rfl,rfl,rfl⟩ rfl rfl rfl rfl rfl (by kernel_rfl) Tryz.func4 zCs
  (of_decide_eq_true (by kernel_rfl)) (by unfold Func.isWrapper; first | (rw [if_pos (by decide +kernel)]; kernel_rfl) | (rw [if_neg (by decide +kernel)]; exact ⟨rfl,rfl⟩))
  (fun os started H enc _ F => by rw [OpenClaim.pre_eq_preRow]; exact zCr os started H enc F)
theorem zCz (f : FuncId) (fn : Func) (hf : Tryz.pinned.checked.prog.funcNamed "supergraph/supergraphlaw31.FetchtextShows" = some f) (hfn : Tryz.pinned.checked.prog.funcs[f]? = some fn) :
 true = Tryz.pinned.checked.prog.looks [] /\ ∀ (j : Nat) t,fn.params[j]? = some t -> Tryz.pinned.checked.prog.wantsStandIn t = false:=by
 obtain rfl : f = 4 := Option.some.inj ((show Tryz.prog.funcNamed "supergraph/supergraphlaw31.FetchtextShows" = some 4 by kernel_rfl).symm.trans hf) |>.symm
 obtain rfl : fn = Tryz.f4:=(Option.some.inj (Tryz.func4.symm.trans hfn)).symm
 refine ⟨by kernel_rfl,fun j t ht => ?_⟩
 rw [Tryz.params4] at ht
 have hm:=Array.mem_of_getElem? ht
 simp only [List.mem_toArray,List.mem_cons,List.not_mem_nil,or_false] at hm
 rcases hm with rfl | rfl
 . exact (show Tryz.prog.wantsStandIn 29 = false by kernel_rfl)
 . exact (show Tryz.prog.wantsStandIn 45 = false by kernel_rfl)
end Go.Proofs.YthjiclhfhjdjpaaGreatDoor
