import Derived.Laws.MakeOwn
import Derived.Test.YthjiclhfhjdjpaaGreatDoorQ35
set_option maxHeartbeats 8000000
set_option maxRecDepth 100000
set_option linter.unusedVariables false
set_option linter.unusedSimpArgs false
namespace Go.Proofs.YthjiclhfhjdjpaaGreatDoor
section
open Go.RowKit
attribute [local irreducible] wpList Calls Code.wp
section
variable {X:Cx} {nn:Nat} {st:Vst nn} {o:Oper} {ops:Array Oper} {l:List Oper} {KK:Vst nn->Prop}
theorem zGl (s:Sg) (w:World):Ext (fun _=>False) s w.drew s w:=⟨fun _ _ h=>⟨rfl,h⟩,fun _ _=>rfl,fun _ _ => .inl rfl⟩
theorem MemOk.undrew {P:Program} {pas:Nat->Prop} {B:Nat} {rs:Nat->Option Res} {s:Sg} {w:World} (h:MemOk P pas B rs s w.drew):MemOk P pas B rs s w where
 fx:=h.fx
 ho n ρ hn:=(h.ho n ρ hn).keep (zGl s w) (fun h=>h) rfl rfl (fun _ h=>h.elim) (fun _ _=>rfl) (fun _ _ _ h=>h)
 bs:=h.bs
 dj:=h.dj
theorem Inv.undrew {s:Sg} {w:World} {a:Act} (hI:Inv X st s w.drew a):Inv X st s w a:=
 hI.go (w':=w) (zGl s w) hI.mem.undrew ⟨rfl,rfl,rfl,Nat.le_refl _,fun _ _ _=>rfl⟩ (fun _ _ _ _ h=>h)
theorem opOk_make {K:Vst nn->Prop} {t e:TypeId} {by_ d n:Nat} {x y:Operand} (ho:o.op = .makeSlice t x y) (hd:o.dst=some d) (hdl:Nat.ble d 999999=true) (he:zAB X.P t=some (e,by_))
 (hx:ev st x = .c (.int .i64 0)) (hy:ev st y = .c (.int .i64 (n:Int))) (hn:n<=maxLen) (hby:n*by_<=140737488355328)
 (hK:K (((st.kill d).res d (.tok e 0)).put (some d) (.own d e []))):OpOk X o st K:=by
 intro s w a hI N Q hP hN
 obtain ⟨hu,hlay,i,z,hi,hz,hb,hsp,hzs,hsz⟩:=zCb he
 have hxe:=hI.ev x
 have hye:=hI.ev y
 rw [hx,rel] at hxe
 rw [hy,rel] at hye
 have hmx:(n:Int)<=9223372036854775807:=by simp only [maxLen] at hn;omega
 have hbb:(i.bytes:Int)*(n:Int)<=281474976710656:=by
  have h:((i.bytes*n:Nat):Int)<=281474976710656:=by rw [hb,Nat.mul_comm];omega
  rwa [Int.natCast_mul] at h
 have hr:=run_make (P:=X.P) w t e i z hu hi hz .i64 .i64 0 (n:Int) (Int.le_refl _) (by omega) hbb hmx
 simp only [Int.toNat_zero,Int.toNat_natCast] at hr
 have hex:(execOp a.eval o).run X.P w = .ok (.value (.slice (some ⟨w.heap.size,0,none⟩) 0 n)) (w.alloc (.cells (madeCells z.cells (n*i.size)) e)):=by
  simp [execOp,ho,hxe.1,hye.1,hr]
 unfold Oper.wp
 rw [hex,Oper.upon_value,hd]
 have hcur:(madeCells z.cells (n*i.size)).size=n*X.P.cellsOf e:=by rw [size_madeCells,hsz]
 have hI':=hI.kill d
 have hkeep:Keeps s.F (s.tok d w.heap.size (0*X.P.cellsOf e) (.slice (some ⟨w.heap.size,0,none⟩) 0 n) 0).F w (w.drew.alloc (.cells (madeCells z.cells (n*i.size)) e)):=zEi hI.mem _ e _
 have hext:Ext (fun m=>m=d) s w (s.tok d w.heap.size (0*X.P.cellsOf e) (.slice (some ⟨w.heap.size,0,none⟩) 0 n) 0) (w.drew.alloc (.cells (madeCells z.cells (n*i.size)) e)):=
  ⟨hkeep,fun _ _=>rfl,fun q hq => .inl (by simp only [Sg.tok];rw [if_neg hq])⟩
 have hmem:=hI'.mem.tokNew hI.base (k:=d) (fun m=>m=d) (fun _ h=>h) zIV hcur (Nat.zero_le n) hn hext
 refine hN _ _ _ _ (Inv.put (st:=(st.kill d).res d (.tok e 0)) (v:=.own d e []) (Inv.undrew (w:=w.alloc (.cells (madeCells z.cells (n*i.size)) e)) ⟨hI.sz,fun i hi => ?_,hI.df,hI.fr.trans (zEO w _ _) (q:=fun _=>False) (fun _ h=>h.elim),hI.kp.trans hkeep,fun b o hb hnp hF => ?_,hmem,hI.pe.ext hext fun m hm=>by subst hm;exact Nat.le_of_ble_eq_true hdl⟩) (some d) ?_) hK
 . exact rel.ext hext _ _ (zAn (hI.tm i hi)).1 fun n hn=>by subst hn;exact (zAn (hI.tm i hi)).2
 . rcases hF with hF | ⟨rfl,h0⟩
   . exact hI.nf b o hb hnp hF
   . simp at h0
 . rw [rel]
   refine ⟨⟨0,_,n,rfl,Nat.zero_le _,hn,(fun h=>by cases h),fun h=>by simp at h⟩,by simp [Sg.tok],fun _=>by simp [Sg.tok]⟩
theorem s_make {t e:TypeId} {by_ m n:Nat} {x y:Operand} (hg:o.guard=none) (ho:o.op = .makeSlice t x y) (hd:o.dst=some m) (hdl:Nat.ble m 999999=true) (he:zAB X.P t=some (e,by_)) (hx:ev st x = .c (.int .i64 0)) (hy:ev st y = .c (.int .i64 (n:Int)))
 (hK:AWo X ops l (((st.kill m).res m (.tok e 0)).put (some m) (.own m e [])) KK) (hp:n<=maxLen/\n*by_<=140737488355328):AWo X ops (o::l) st KK:=
 zAO hg (opOk_make ho hd hdl he hx hy hp.1 hp.2 hK)
end
end
section
open Go.RowKit
set_option linter.unusedSectionVars false
attribute [local irreducible] wpList Calls Code.wp AW AWo OpOk seqK zAG zAP loopK endK AC zt Yld Sub
attribute [local irreducible] ACB ACX ACE absLexG YldG absLexH
def hd31 (gs:List D) (i:Int) (f:D):List UInt8:=ftT++Lib.itoa i++[58,32]++zE2 gs (f.f 0).n++[44,32,100,101,112,116,104,32]++Lib.itoa (f.f 1).n
theorem lineF_eq (gs:List D) (i:Int) (f:D):zIO gs i f=hd31 gs i f++zEX (f.f 7).l++pathT f++[10]:=by
 unfold zIO restT hd31
 simp only [List.append_assoc]
structure FetOk (gs:List D) (f:D):Prop where
 nd:i64D (f.f 1).n
 na : ∀ j,j<(f.f 7).l.length->i64D (gD (f.f 7).l j).n
 la:(f.f 7).l.length<=1048576
 lp:(f.f 2).l.length<=1048576
 lk:(f.f 4).l.length<=1048576
 sg : ∀ j,j<gs.length->(gD gs j).s.size<=1048576
 sp : ∀ j,j<(f.f 2).l.length->((gD (f.f 2).l j).f 0).s.size<=1048576/\((gD (f.f 2).l j).f 1).s.size<=1048576
 st:(f.f 3).s.size<=1048576
 pj:(Lib.join ((f.f 2).l.map hopT) [47]).length<=100000000
 kj:(Lib.join (txs (f.f 4).l) [32]).length<=100000000
 aj:(Lib.join ((f.f 7).l.map fun d=>Lib.itoa d.n) [32]).length<=100000000
theorem graph_len {gs:List D} {f:D} (h:FetOk gs f) (n:Int):(zE2 gs n).length<=1048576:=by
 unfold zE2
 split
 . rw [zAF];exact h.sg _ (by omega)
 . simp
noncomputable def HdG31 (s f:D) (i:Int) (g:List UInt8):Vst 109:=
 stS 109 [(2,.c (.int .i64 i)),(3,.bx 3 0),(4,.bx 4 0),(7,.bx 7 0),(8,.c (.string (bs g)))] [(3,.box 29 (cellsV Tryz.prog 12 29 s)),(4,.box 34 (cellsV Tryz.prog 12 34 f)),(7,.bld 92 5 [])]
noncomputable def HdT31 (s f:D) (t:List UInt8):Vst 109:=
 stS 109 [(3,.bx 3 0),(4,.bx 4 0),(7,.bx 7 0)] [(3,.box 29 (cellsV Tryz.prog 12 29 s)),(4,.box 34 (cellsV Tryz.prog 12 34 f)),(7,.bld 92 5 t)]
noncomputable def HdA31 (s f:D) (t:List UInt8) (i:Nat):Vst 109:=
 stS 109 [(3,.bx 3 0),(4,.bx 4 0),(7,.bx 7 0),(9,.own 51 9 (zl (fun i=>Lib.itoa (gD (f.f 7).l i).n) i)),(53,.sl 3 (f.f 7).l),(54,.c (.int .i64 ((f.f 7).l.length:Nat))),(55,.c (.int .i64 (i:Int)))]
  [(3,.box 29 (cellsV Tryz.prog 12 29 s)),(4,.box 34 (cellsV Tryz.prog 12 34 f)),(7,.bld 92 5 t),(51,.tok 9 (zl (fun i=>Lib.itoa (gD (f.f 7).l i).n) i).length)]
noncomputable def HdP31 (s f:D) (t:List UInt8) (i:Nat):Vst 109:=
 stS 109 [(3,.bx 3 0),(4,.bx 4 0),(7,.bx 7 0),(12,.own 76 9 (zl (fun i=>hopT (gD (f.f 2).l i)) i)),(78,.sl 68 (f.f 2).l),(79,.c (.int .i64 ((f.f 2).l.length:Nat))),(80,.c (.int .i64 (i:Int)))]
  [(3,.box 29 (cellsV Tryz.prog 12 29 s)),(4,.box 34 (cellsV Tryz.prog 12 34 f)),(7,.bld 92 5 t),(76,.tok 9 (zl (fun i=>hopT (gD (f.f 2).l i)) i).length)]
theorem headP_ac (s0 f:D) (i:Int) (hi:i64D i) (h:FetOk (s0.f 0).l f):AC EN Tryz.prog 47 [.agg (cellsV Tryz.prog 12 29 s0),.agg (cellsV Tryz.prog 12 34 f),.c (.int .i64 i)] (.c (.string (bs (zIO (s0.f 0).l i f)))):=by
 have hd1:=zJc i hi.1 hi.2
 have hd2:=zJc (f.f 1).n h.nd.1 h.nd.2
 have z1:=zB4 i hi.1 hi.2
 have z2:=zB4 (f.f 1).n h.nd.1 h.nd.2
 have zg:=graph_len h (f.f 0).n
 have hlp:=h.lp
 have hla:=h.la
 have hlk:=h.lk
 have hst:=h.st
 have hpj:=h.pj
 have hkj:=h.kj
 have haj:=h.aj
 have hja:AC EN Tryz.prog 59 [.sl 9 (zl (fun i=>Lib.itoa (gD (f.f 7).l i).n) (f.f 7).l.length),.c (.string ⟨#[32]⟩)] (.c (.string (bs (Lib.join ((f.f 7).l.map fun d=>Lib.itoa d.n) [32])))):=by
  have e:txs (zl (fun i=>Lib.itoa (gD (f.f 7).l i).n) (f.f 7).l.length)=(f.f 7).l.map fun d=>Lib.itoa d.n:=zAT (fun d=>Lib.itoa d.n) (f.f 7).l
  have:=zCR (zl (fun i=>Lib.itoa (gD (f.f 7).l i).n) (f.f 7).l.length) [32] (by rw [zv];omega) (by rw [e];omega)
  rw [e] at this
  exact this
 have hjp:AC EN Tryz.prog 59 [.sl 9 (zl (fun i=>hopT (gD (f.f 2).l i)) (f.f 2).l.length),.c (.string ⟨#[47]⟩)] (.c (.string (bs (Lib.join ((f.f 2).l.map hopT) [47])))):=by
  have e:txs (zl (fun i=>hopT (gD (f.f 2).l i)) (f.f 2).l.length)=(f.f 2).l.map hopT:=zAT hopT (f.f 2).l
  have:=zCR (zl (fun i=>hopT (gD (f.f 2).l i)) (f.f 2).l.length) [47] (by rw [zv];omega) (by rw [e];omega)
  rw [e] at this
  exact this
 have hjk:AC EN Tryz.prog 59 [.sl 9 (f.f 4).l,.c (.string ⟨#[32]⟩)] (.c (.string (bs (Lib.join (txs (f.f 4).l) [32])))):=zCR (f.f 4).l [32] (by omega) (by omega)
 generalize hA:Lib.join ((f.f 7).l.map fun d=>Lib.itoa d.n) [32]=ja at *
 generalize hP:Lib.join ((f.f 2).l.map hopT) [47]=jp at *
 generalize hK:Lib.join (txs (f.f 4).l) [32]=jk at *
 generalize hG:zE2 (s0.f 0).l (f.f 0).n=g at *
 -- what is written,piece by piece
 have e1:hd31 (s0.f 0).l i f=tx ((⟨#[102,101,116,99,104,32]⟩:ByteArray)++bs (Lib.itoa i)++⟨#[58,32]⟩++bs g++⟨#[44,32,100,101,112,116,104,32]⟩++bs (Lib.itoa (f.f 1).n)):=by
  unfold hd31
  rw [hG]
  simp only [zp,zAX]
  rfl
 have w1:=zB0 (e:=EN) [] ((⟨#[102,101,116,99,104,32]⟩:ByteArray)++bs (Lib.itoa i)++⟨#[58,32]⟩++bs g++⟨#[44,32,100,101,112,116,104,32]⟩++bs (Lib.itoa (f.f 1).n)) (by (simp only [ByteArray.size_append,zS,zh,List.size_toArray,List.length_append,List.length_cons,List.length_nil,maxLen,Nat.reduceAdd,Int.toNat_natCast];omega))
 rw [lineF_eq]
 generalize hT1:hd31 (s0.f 0).l i f=T1 at *
 have zT1:T1.length<=1100000:=by
  rw [e1,zAF]
  (simp only [ByteArray.size_append,zS,zh,List.size_toArray,List.length_append,List.length_cons,List.length_nil,maxLen,Nat.reduceAdd,Int.toNat_natCast];omega)
 have eA:zEX (f.f 7).l=if (f.f 7).l.length=0 then [] else [44,32,97,102,116,101,114,32]++ja:=by unfold zEX;rw [hA]
 have zA:(zEX (f.f 7).l).length<=200000000:=by
  rw [eA]
  split
  . simp
  . simp only [List.length_append,List.length_cons,List.length_nil];omega
 have eP:pathT f=if (f.f 2).l.length=0 then [] else tx ((⟨#[44,32,97,116,32]⟩:ByteArray)++bs jp++⟨#[44,32,102,111,114,32]⟩++(f.f 3).s++⟨#[44,32,98,121,32]⟩++bs jk):=by
  unfold pathT
  rw [hP,show ((f.f 4).l.map fun d=>tx d.s)=txs (f.f 4).l from rfl,hK]
  simp only [zp,zAX]
  rfl
 have zP:(pathT f).length<=400000000:=by
  rw [eP]
  split
  . simp
  . rw [zAF]
    (simp only [ByteArray.size_append,zS,zh,List.size_toArray,List.length_append,List.length_cons,List.length_nil,maxLen,Nat.reduceAdd,Int.toNat_natCast];omega)
 have w2:=zB0 (e:=EN) (T1++zEX (f.f 7).l) ((⟨#[44,32,97,116,32]⟩:ByteArray)++bs jp++⟨#[44,32,102,111,114,32]⟩++(f.f 3).s++⟨#[44,32,98,121,32]⟩++bs jk) (by rw [List.length_append];(simp only [ByteArray.size_append,zS,zh,List.size_toArray,List.length_append,List.length_cons,List.length_nil,maxLen,Nat.reduceAdd,Int.toNat_natCast];omega))
 refine zG 109 Tryz.func47 rfl rfl rfl rfl ?_
 intro s w he
 repeat' (first
|apply zBk 12 ([(8,[4])]) ([(11,[7])]) rfl (by kernel_rfl) (by kernel_rfl) (by kernel_rfl)
|apply zDn
|apply zDm rfl
 . conv=>lhs;whnf
 . conv=>lhs;whnf;arg 2;whnf
|apply zE3 rfl
 . conv=>lhs;whnf
 . conv=>lhs;whnf
 . first | exact hd1 | exact hd2 | exact hja | exact hjp | exact hjk
|apply zHT rfl
 . conv=>lhs;whnf
 . conv=>lhs;whnf
 . rfl
 . conv=>lhs;whnf;arg 1;whnf
 . first | exact w1 | exact w2
 . exact fun _=>rfl
 . exact fun _=>rfl
 . rfl
|show inO _ _=true;rfl
|apply s_ws rfl
 . conv=>lhs;whnf
 . conv=>lhs;whnf
 . rfl
 . conv=>lhs;whnf;arg 1;whnf
 . rfl
|apply s_bs rfl
 . conv=>lhs;whnf
 . conv=>lhs;whnf
 . rfl
 . conv=>lhs;whnf;arg 1;whnf
 . exact ⟨rfl,rfl⟩
 . rfl
|apply s_make rfl rfl rfl rfl
 . first | exact zw | (conv=>lhs;whnf;arg 1;whnf)
 . conv=>lhs;whnf
 . conv=>lhs;whnf
|apply zAW 5 (HdG31 s0 f i g) rfl
|apply zAW 6 (HdT31 s0 f T1) rfl
|apply zAW 14 (HdT31 s0 f (T1++zEX (f.f 7).l)) rfl
|apply zAW 22 (HdT31 s0 f (T1++zEX (f.f 7).l++pathT f)) rfl
|refine zEj ?_
|refine zB ?_
|refine zC ?_
|refine zI ?_
|apply aw_1
 conv=>whnf
 refine ⟨?_,trivial⟩
|apply ze rfl rfl
 . conv=>lhs;whnf
 . conv=>lhs;whnf
 . first | exact bT1 ‹_› | exact bT2 ‹_›
|apply zZ rfl rfl
 . conv=>lhs;whnf
 . conv=>lhs;whnf
 . first | exact bF1 ‹_› | exact bF2 ‹_›
|apply s_1
 conv=>whnf;arg 1;arg 4;arg 3;whnf
 refine ⟨?_,?_⟩
|apply zAE rfl rfl rfl rfl
 . conv=>lhs;whnf;arg 1;whnf
 . rfl
|apply zF rfl
 . conv=>lhs;whnf
 . conv=>lhs;whnf
 . first | rfl | assumption
 . conv=>lhs;whnf;arg 2;whnf
|apply zo rfl
 . conv=>lhs;whnf
 . conv=>lhs;whnf
 . first | rfl | assumption
|apply zL rfl
 . conv=>lhs;whnf
 . conv=>lhs;whnf
 . conv=>lhs;whnf;arg 2;whnf
|refine zV (by conv=>lhs;whnf) ?_ ?_<;>intro hb
|refine zD ?_
|refine ⟨_,by conv=>lhs;whnf;arg 2;whnf,?_⟩;conv=>rhs;whnf
|exact trivial
|intro hg)
 . refine Sub.trans (Sub.bld (m:=7) (e:=5) rfl) (Sub.live ⟨rfl,rfl,rfl,rfl,?_,trivial⟩ ⟨rfl,rfl,rfl,trivial⟩)
   refine congrArg (fun b=>V.c (.string b)) ?_
   show (gD (s0.f 0).l ((f.f 0).n).toNat).s=bs g
   have q0:0<=(f.f 0).n:=by simpa using hg
   rw [<- hG]
   unfold zE2
   rw [if_pos ⟨q0,of_decide_eq_true hb⟩,zA8]
 . exact ⟨by simpa using hg,of_decide_eq_true hb⟩
 . refine Sub.trans (Sub.bld (m:=7) (e:=5) rfl) (Sub.live ⟨rfl,rfl,rfl,rfl,?_,trivial⟩ ⟨rfl,rfl,rfl,trivial⟩)
   refine congrArg (fun b=>V.c (.string b)) ?_
   have q1:=of_decide_eq_false hb
   rw [<- hG]
   unfold zE2
   rw [if_neg (fun q=>q1 q.2)]
   rfl
 . refine Sub.trans (Sub.bld (m:=7) (e:=5) rfl) (Sub.live ⟨rfl,rfl,rfl,rfl,?_,trivial⟩ ⟨rfl,rfl,rfl,trivial⟩)
   refine congrArg (fun b=>V.c (.string b)) ?_
   have q1 : ¬ 0<=(f.f 0).n:=by simpa using hg
   rw [<- hG]
   unfold zE2
   rw [if_neg (fun q=>q1 q.1)]
   rfl
 . refine Sub.live ⟨rfl,rfl,rfl,trivial⟩ ⟨rfl,rfl,?_,trivial⟩
   rw [e1]
   rfl
 iterate 5
  . (simp only [ByteArray.size_append,zS,zh,List.size_toArray,List.length_append,List.length_cons,List.length_nil,maxLen,Nat.reduceAdd,Int.toNat_natCast];omega)
 . refine zi (fun j st => ∃ i,i+j=(f.f 7).l.length/\Sub (cx EN Tryz.prog s w he) st (HdA31 s0 f T1 i)) (f.f 7).l.length ⟨0,by omega,Sub.live ⟨rfl,rfl,rfl,rfl,rfl,rfl,rfl,trivial⟩ ⟨rfl,rfl,rfl,rfl,trivial⟩⟩ ?_
   rintro j st ⟨i,hij,hs2⟩
   refine zf hs2 ?_
   clear hs2
   have htk:=zv (fun i=>Lib.itoa (gD (f.f 7).l i).n) i
   by_cases hi:i<(f.f 7).l.length
   . have f0:decide ((i:Int)<((f.f 7).l.length:Nat))=true:=decide_eq_true (by omega)
     have hx:=zJc (gD (f.f 7).l i).n (h.na i hi).1 (h.na i hi).2
     repeat' (first
|apply zM
 . conv=>lhs;whnf
 . assumption
|refine zB ?_
|refine zC ?_
|refine zI ?_
|refine zY ?_
|apply aw_1
 conv=>whnf
 refine ⟨?_,trivial⟩
|apply s_1
 conv=>whnf;arg 1;arg 4;arg 3;whnf
 refine ⟨?_,?_⟩
|apply zd rfl
 . conv=>lhs;whnf
 . conv=>lhs;whnf
 . first | exact hx
|apply zCD rfl rfl
 . conv=>lhs;whnf
 . first | exact zw | (conv=>lhs;whnf;arg 1;whnf)
 . first | exact fun _=>rfl | (intro _;kernel_rfl)
 . conv=>lhs;whnf
 . conv=>lhs;whnf;arg 1;whnf
 . conv=>lhs;whnf
|apply zDb rfl rfl
 . conv=>lhs;whnf
 . first | exact zw | (conv=>lhs;whnf;arg 1;whnf)
 . conv=>lhs;whnf;arg 1;whnf
 . rfl
 . rfl
|exact trivial)
     all_goals first
      |exact za (by omega)
      |exact at31 hi
      |exact zBq (by omega) (by omega)
      |skip
     refine zE (j':=j-1) (by omega) ⟨i+1,by omega,Sub.live ⟨rfl,rfl,rfl,?_,rfl,rfl,rfl,trivial⟩ ⟨rfl,rfl,rfl,?_,trivial⟩⟩
     . show V.own 51 _ (zl _ i++[.str (bs _)])=_
       rw [zn]
     . show some (Res.tok _ ((zl _ i).length+1))=_
       rw [zn,List.length_append];rfl
   . have f0:decide ((i:Int)<((f.f 7).l.length:Nat))=false:=decide_eq_false (by omega)
     obtain rfl:i=(f.f 7).l.length:=by omega
     have hp:0<(f.f 7).l.length:=by have hb:decide ((((f.f 7).l.length:Nat):Int)>0)=true:=hb;have:=of_decide_eq_true hb;omega
     repeat' (first
|apply s_ws rfl
 . conv=>lhs;whnf
 . conv=>lhs;whnf
 . rfl
 . conv=>lhs;whnf;arg 1;whnf
 . rfl
|apply zH
 . conv=>lhs;whnf
 . assumption
|refine zEj ?_
|refine zB ?_
|refine zC ?_
|refine zI ?_
|apply aw_1
 conv=>whnf
 refine ⟨?_,trivial⟩
|apply s_1
 conv=>whnf;arg 1;arg 4;arg 3;whnf
 refine ⟨?_,?_⟩
|apply zd rfl
 . conv=>lhs;whnf
 . conv=>lhs;whnf
 . first | exact hja
|refine zN ?_
|refine zJ rfl ?_
|refine zK ?_
|exact trivial)
     . refine Sub.live ⟨rfl,rfl,rfl,trivial⟩ ⟨rfl,rfl,?_,trivial⟩
       rw [eA,if_neg (by omega)]
       rfl
     all_goals (simp only [ByteArray.size_append,zS,zh,List.size_toArray,List.length_append,List.length_cons,List.length_nil,maxLen,Nat.reduceAdd,Int.toNat_natCast];omega)
 . exact (show (f.f 7).l.length<=maxLen/\(f.f 7).l.length*16<=140737488355328 from ⟨by unfold maxLen;omega,by omega⟩)
 . have hp:(f.f 7).l.length=0:=by have hb:decide ((((f.f 7).l.length:Nat):Int)>0)=false:=hb;have:=of_decide_eq_false hb;omega
   rw [eA,if_pos hp,List.append_nil]
   exact Sub.live ⟨rfl,rfl,rfl,trivial⟩ ⟨rfl,rfl,rfl,trivial⟩
 . refine zi (fun j st => ∃ i,i+j=(f.f 2).l.length/\Sub (cx EN Tryz.prog s w he) st (HdP31 s0 f (T1++zEX (f.f 7).l) i)) (f.f 2).l.length ⟨0,by omega,Sub.live ⟨rfl,rfl,rfl,rfl,rfl,rfl,rfl,trivial⟩ ⟨rfl,rfl,rfl,rfl,trivial⟩⟩ ?_
   rintro j st ⟨i,hij,hs2⟩
   refine zf hs2 ?_
   clear hs2
   have htk:=zv (fun i=>hopT (gD (f.f 2).l i)) i
   by_cases hi:i<(f.f 2).l.length
   . have f0:decide ((i:Int)<((f.f 2).l.length:Nat))=true:=decide_eq_true (by omega)
     have hsz:=h.sp i hi
     repeat' (first
|apply zM
 . conv=>lhs;whnf
 . assumption
|refine zB ?_
|refine zC ?_
|refine zI ?_
|refine zY ?_
|apply aw_1
 conv=>whnf
 refine ⟨?_,trivial⟩
|apply s_1
 conv=>whnf;arg 1;arg 4;arg 3;whnf
 refine ⟨?_,?_⟩
|apply zX rfl rfl rfl
 . conv=>lhs;whnf
 . conv=>lhs;whnf;arg 1;whnf
 . conv=>lhs;whnf;arg 1;whnf
 . exact ⟨by kernel_rfl,by kernel_rfl⟩
 . rfl
|apply zCD rfl rfl
 . conv=>lhs;whnf
 . first | exact zw | (conv=>lhs;whnf;arg 1;whnf)
 . first | exact fun _=>rfl | (intro _;kernel_rfl)
 . conv=>lhs;whnf
 . conv=>lhs;whnf;arg 1;whnf
 . conv=>lhs;whnf
|apply zDb rfl rfl
 . conv=>lhs;whnf
 . first | exact zw | (conv=>lhs;whnf;arg 1;whnf)
 . conv=>lhs;whnf;arg 1;whnf
 . rfl
 . rfl
|exact trivial)
     all_goals first
      |exact za (by omega)
      |exact at31 hi
      |exact zBq (by omega) (by omega)
      |((simp only [ByteArray.size_append,zS,zh,List.size_toArray,List.length_append,List.length_cons,List.length_nil,maxLen,Nat.reduceAdd,Int.toNat_natCast];omega);done)
      |skip
     refine zE (j':=j-1) (by omega) ⟨i+1,by omega,Sub.live ⟨rfl,rfl,rfl,?_,rfl,rfl,rfl,trivial⟩ ⟨rfl,rfl,rfl,?_,trivial⟩⟩
     . rw [zn]
       refine congrArg (fun b=>V.own 76 _ (zl _ i++[.str b])) ?_
       show ((gD (f.f 2).l i).f 0).s++(⟨#[46]⟩:ByteArray)++((gD (f.f 2).l i).f 1).s=bs (hopT _)
       unfold hopT
       rw [<- zU,<- zU,zA8,zA8]
       rfl
     . show some (Res.tok _ ((zl _ i).length+1))=_
       rw [zn,List.length_append];rfl
   . have f0:decide ((i:Int)<((f.f 2).l.length:Nat))=false:=decide_eq_false (by omega)
     obtain rfl:i=(f.f 2).l.length:=by omega
     have hp:0<(f.f 2).l.length:=by have hb:decide ((((f.f 2).l.length:Nat):Int)>0)=true:=hb;have:=of_decide_eq_true hb;omega
     repeat' (first
|apply zBk 13 ([(5,[4]),(9,[4])]) ([(12,[7])]) rfl (by kernel_rfl) (by kernel_rfl) (by kernel_rfl)
|apply zDn
|apply zDm rfl
 . conv=>lhs;whnf
 . conv=>lhs;whnf;arg 2;whnf
|apply zE3 rfl
 . conv=>lhs;whnf
 . conv=>lhs;whnf
 . first | exact hjp | exact hjk
|apply zHT rfl
 . conv=>lhs;whnf
 . conv=>lhs;whnf
 . rfl
 . conv=>lhs;whnf;arg 1;whnf
 . first | exact w2
 . exact fun _=>rfl
 . exact fun _=>rfl
 . rfl
|show inO _ _=true;rfl
|apply zH
 . conv=>lhs;whnf
 . assumption
|refine zEj ?_
|refine zB ?_
|refine zC ?_
|refine zI ?_
|apply aw_1
 conv=>whnf
 refine ⟨?_,trivial⟩
|apply s_1
 conv=>whnf;arg 1;arg 4;arg 3;whnf
 refine ⟨?_,?_⟩
|refine zN ?_
|refine zJ rfl ?_
|refine zK ?_
|exact trivial)
     . refine Sub.live ⟨rfl,rfl,rfl,trivial⟩ ⟨rfl,rfl,?_,trivial⟩
       rw [eP,if_neg (by omega)]
       rfl
     all_goals (simp only [ByteArray.size_append,zS,zh,List.size_toArray,List.length_append,List.length_cons,List.length_nil,maxLen,Nat.reduceAdd,Int.toNat_natCast];omega)
 . exact (show (f.f 2).l.length<=maxLen/\(f.f 2).l.length*16<=140737488355328 from ⟨by unfold maxLen;omega,by omega⟩)
 . have hp:(f.f 2).l.length=0:=by have hb:decide ((((f.f 2).l.length:Nat):Int)>0)=false:=hb;have:=of_decide_eq_false hb;omega
   rw [eP,if_pos hp,List.append_nil]
   exact Sub.live ⟨rfl,rfl,rfl,trivial⟩ ⟨rfl,rfl,rfl,trivial⟩
 . simp only [List.length_append,maxLen]
   show _+_+_+1<=_
   omega
 . simp only [List.length_append]
   show _+_+_+1<=_
   omega
end
section
open Go.RowKit
set_option linter.unusedSectionVars false
attribute [local irreducible] wpList Calls Code.wp AW AWo OpOk seqK zAG zAP loopK endK AC zt Yld Sub
attribute [local irreducible] ACB ACX ACE absLexG YldG
def tupR (t:Tok) (k:Nat) (e:Int):V:=.tup [.agg (tokC t),.c (.int .i64 (k:Int)),.c (.int .i64 e)]
def failR:V:=tupR ⟨0,[],0⟩ 0 3
def readV (l:List UInt8) (i:Nat):V:=
 match l with
 |[] => .any
 |c::r =>
  if zAr c then tupR ⟨1,[c],i⟩ (i+1) 0
  else if c==46 then (if r.take 2=[46,46] then tupR ⟨1,[46,46,46],i⟩ (i+3) 0 else failR)
  else if c==45||digU c then tupR ⟨3,c::r.take (spanN wrdU r),i⟩ (i+1+spanN wrdU r) (nerU (numU (c::r.take (spanN wrdU r))))
  else if wrdU c then (if spanN wrdU r+1>64 then failR else tupR ⟨2,c::r.take (spanN wrdU r),i⟩ (i+1+spanN wrdU r) 0)
  else if c==34 then
   (match litN r with
   |none=>failR
   |some n=>tupR ⟨4,(unquoteU (c::r.take n)).getD [],i⟩ (i+1+n) (uqE (unquoteU (c::r.take n))))
  else failR
theorem zGm (s:List UInt8) {a b:Nat} (ha:a<=b) (hb:b<=s.length):(bs s).extract a b=bs ((s.drop a).take (b-a)):=by
 apply ByteArray.ext
 rw [ByteArray.data_extract]
 apply Array.ext'
 rw [Array.toList_extract,zAi,zAi]
section
variable {s:List UInt8} {i:Nat} (hi:i<s.length) (hs:s.length<=70000)
include hi hs
theorem read_sign (h:zAr s[i]=true):AC EN5 Tryz.prog 85 [.c (.string (bs s)),.c (.int .i64 (i:Int))] (tupR ⟨1,[s[i]],i⟩ (i+1) 0):=by
 have hz:=zS s
 have hbt:=zCm hi
 have hgd:=zFB hi
 have hdr:s.drop i=s[i]::s.drop (i+1):=List.drop_eq_getElem_cons hi
 have q : ∀ n:Nat,n<256->(zk (bs s) ((i:Int)).toNat==(n:Int))=(s[i]==UInt8.ofNat n):=fun n hn=>by rw [hbt];exact zFY _ n hn
 have hsg:=zAR ((bs s).data.toList.getD ((i:Int)).toNat 0)
 have f0:zAr ((bs s).data.toList.getD ((i:Int)).toNat 0)=true:=by rw [Int.toNat_natCast,hgd];exact h
 have hx:(bs s).extract ((i:Int)).toNat (((i:Int)+1)).toNat=bs [s[i]]:=by
  rw [show (((i:Int)+1)).toNat=i+1 by omega,Int.toNat_natCast,zGm s (by omega) (by omega),hdr,Nat.add_sub_cancel_left];rfl
 refine zG 116 Tryz.func85 rfl rfl rfl rfl ?_
 intro s0 w he
 repeat' (first
|apply zM
 . conv=>lhs;whnf
 . assumption
|refine zB ?_
|refine zC ?_
|refine zI ?_
|apply aw_1
 conv=>whnf
 refine ⟨?_,trivial⟩
|apply s_1
 conv=>whnf;arg 1;arg 4;arg 3;whnf
 refine ⟨?_,?_⟩
|apply zd rfl
 . conv=>lhs;whnf
 . conv=>lhs;whnf
 . first | exact hsg
|apply zX rfl rfl rfl
 . conv=>lhs;whnf
 . conv=>lhs;whnf;arg 1;whnf
 . conv=>lhs;whnf;arg 1;whnf
 . exact ⟨by kernel_rfl,by kernel_rfl⟩
 . rfl
|refine zO ?_
|refine zT ?_
|refine zD ?_
|exact trivial)
 . refine ⟨_,_,_,rfl,rfl,rfl,?_⟩
   show _=V.tup [.agg [.c (.int .i64 1),.c (.string ((bs s).extract ((i:Int)).toNat (((i:Int)+1)).toNat)),.c (.int .i64 (i:Int))],.c (.int .i64 ((i:Int)+1)),.c (.int .i64 0)]
   rw [hx];rfl
 all_goals first
  |exact za (by omega)
  |exact ⟨by kernel_rfl,by omega,by omega⟩
  |exact ⟨by kernel_rfl,by omega,by omega,by omega⟩
  |(rw [hbt];exact zAh _)
  |exact (show Tryz.prog.underlying _=some TypeDesc.string by kernel_rfl)
  |skip
theorem read_dots (h0:zAr s[i]=false) (h:s[i]=46) (b:Bool) (hb:Lib.hasPrefix (s.drop i) [46,46,46]=b) (hl:b=true->i+3<=s.length):AC EN5 Tryz.prog 85 [.c (.string (bs s)),.c (.int .i64 (i:Int))] (if b=true then tupR ⟨1,[46,46,46],i⟩ (i+3) 0 else failR):=by
 have hz:=zS s
 have hbt:=zCm hi
 have hgd:=zFB hi
 have hdr:s.drop i=s[i]::s.drop (i+1):=List.drop_eq_getElem_cons hi
 have q : ∀ n:Nat,n<256->(zk (bs s) ((i:Int)).toNat==(n:Int))=(s[i]==UInt8.ofNat n):=fun n hn=>by rw [hbt];exact zFY _ n hn
 have hsg:=zAR ((bs s).data.toList.getD ((i:Int)).toNat 0)
 have f0:zAr ((bs s).data.toList.getD ((i:Int)).toNat 0)=false:=by rw [Int.toNat_natCast,hgd];exact h0
 have f1:(zk (bs s) ((i:Int)).toNat==46)=true:=(q 46 (by omega)).trans (by rw [h];rfl)
 have hpr:=prefix_ac ((bs s).extract ((i:Int)).toNat (bs s).size) { data:=#[46,46,46] }
 rw [zK9] at hpr
 have hb2:Lib.hasPrefix (s.drop i) ({ data:=#[46,46,46] }:ByteArray).data.toList=b:=hb
 rw [hb2] at hpr
 cases b
 . refine zG 116 Tryz.func85 rfl rfl rfl rfl ?_
   intro s0 w he
   repeat' (first
|apply zM
 . conv=>lhs;whnf
 . assumption
|apply zH
 . conv=>lhs;whnf
 . assumption
|refine zB ?_
|refine zC ?_
|refine zI ?_
|apply aw_1
 conv=>whnf
 refine ⟨?_,trivial⟩
|apply s_1
 conv=>whnf;arg 1;arg 4;arg 3;whnf
 refine ⟨?_,?_⟩
|apply zd rfl
 . conv=>lhs;whnf
 . conv=>lhs;whnf
 . first | exact hsg | exact hpr
|apply zX rfl rfl rfl
 . conv=>lhs;whnf
 . conv=>lhs;whnf;arg 1;whnf
 . conv=>lhs;whnf;arg 1;whnf
 . exact ⟨by kernel_rfl,by kernel_rfl⟩
 . rfl
|refine zO ?_
|refine zT ?_
|refine zD ?_
|exact trivial)
   . exact ⟨_,_,_,rfl,rfl,rfl,rfl⟩
   all_goals first
    |exact za (by omega)
    |exact ⟨by kernel_rfl,by omega,by omega⟩
    |exact ⟨by kernel_rfl,by omega,by omega,by omega⟩
    |(rw [hbt];exact zAh _)
    |exact (show Tryz.prog.underlying _=some TypeDesc.string by kernel_rfl)
    |skip
 . have hl2:=hl rfl
   refine zG 116 Tryz.func85 rfl rfl rfl rfl ?_
   intro s0 w he
   repeat' (first
|apply zM
 . conv=>lhs;whnf
 . assumption
|apply zH
 . conv=>lhs;whnf
 . assumption
|refine zB ?_
|refine zC ?_
|refine zI ?_
|apply aw_1
 conv=>whnf
 refine ⟨?_,trivial⟩
|apply s_1
 conv=>whnf;arg 1;arg 4;arg 3;whnf
 refine ⟨?_,?_⟩
|apply zd rfl
 . conv=>lhs;whnf
 . conv=>lhs;whnf
 . first | exact hsg | exact hpr
|apply zX rfl rfl rfl
 . conv=>lhs;whnf
 . conv=>lhs;whnf;arg 1;whnf
 . conv=>lhs;whnf;arg 1;whnf
 . exact ⟨by kernel_rfl,by kernel_rfl⟩
 . rfl
|refine zO ?_
|refine zT ?_
|refine zD ?_
|exact trivial)
   . exact ⟨_,_,_,rfl,rfl,rfl,rfl⟩
   all_goals first
    |exact za (by omega)
    |exact ⟨by kernel_rfl,by omega,by omega⟩
    |exact ⟨by kernel_rfl,by omega,by omega,by omega⟩
    |(rw [hbt];exact zAh _)
    |exact (show Tryz.prog.underlying _=some TypeDesc.string by kernel_rfl)
    |skip
theorem read_num (h0:zAr s[i]=false) (h46:s[i]≠46) (h:s[i]=45\/(s[i]≠45/\digU s[i]=true)) :
 AC EN5 Tryz.prog 85 [.c (.string (bs s)),.c (.int .i64 (i:Int))] (tupR ⟨3,s[i]::(s.drop (i+1)).take (spanN wrdU (s.drop (i+1))),i⟩ (i+1+spanN wrdU (s.drop (i+1))) (nerU (numU (s[i]::(s.drop (i+1)).take (spanN wrdU (s.drop (i+1))))))):=by
 have hz:=zS s
 have hbt:=zCm hi
 have hgd:=zFB hi
 have hdr:s.drop i=s[i]::s.drop (i+1):=List.drop_eq_getElem_cons hi
 have q : ∀ n:Nat,n<256->(zk (bs s) ((i:Int)).toNat==(n:Int))=(s[i]==UInt8.ofNat n):=fun n hn=>by rw [hbt];exact zFY _ n hn
 have hsg:=zAR ((bs s).data.toList.getD ((i:Int)).toNat 0)
 have f0:zAr ((bs s).data.toList.getD ((i:Int)).toNat 0)=false:=by rw [Int.toNat_natCast,hgd];exact h0
 have hle:=zCd wrdU (s.drop (i+1))
 rw [List.length_drop] at hle
 have f1:(zk (bs s) ((i:Int)).toNat==46)=false:=(q 46 (by omega)).trans (by simpa using h46)
 have hsp:=zJD s (i+1) (by omega) (by omega)
 have hx:(bs s).extract ((i:Int)).toNat (((i+1+spanN wrdU (s.drop (i+1)):Nat):Int)).toNat=bs (s[i]::(s.drop (i+1)).take (spanN wrdU (s.drop (i+1)))):=by
  rw [Int.toNat_natCast,Int.toNat_natCast,zGm s (by omega) (by omega),hdr,show i+1+spanN wrdU (s.drop (i+1))-i=spanN wrdU (s.drop (i+1))+1 by omega,List.take_succ_cons]
 have hsz:((bs s).extract ((i:Int)).toNat (((i+1+spanN wrdU (s.drop (i+1)):Nat):Int)).toNat).size<=281474976710656:=by rw [ByteArray.size_extract];omega
 have hnu:=zGa _ hsz
 unfold numVV at hnu
 have htx:tx ((bs s).extract ((i:Int)).toNat (((i+1+spanN wrdU (s.drop (i+1)):Nat):Int)).toNat)=s[i]::(s.drop (i+1)).take (spanN wrdU (s.drop (i+1))):=by rw [hx];exact zAi _
 rw [htx] at hnu
 have k45:s[i]=45->((zk (bs s) ((i:Int)).toNat==45)==false)=true->False:=fun h h2=>by
  have e:(zk (bs s) ((i:Int)).toNat==45)=true:=(q 45 (by omega)).trans (by rw [h];rfl)
  rw [e] at h2;cases h2
 have kn45:s[i]≠45->((zk (bs s) ((i:Int)).toNat==45)==false)=false->False:=fun h h2=>by
  have e:(zk (bs s) ((i:Int)).toNat==45)=false:=(q 45 (by omega)).trans (by simpa using h)
  rw [e] at h2;cases h2
 have kge:48<=s[i].toNat->(decide (zk (bs s) ((i:Int)).toNat>=48)==true)=false->False:=fun h h2=>by
  rw [hbt,decide_eq_true (show ((s[i].toNat:Nat):Int)>=48 by omega)] at h2;cases h2
 have kng:s[i].toNat<48->(decide (zk (bs s) ((i:Int)).toNat>=48)==true)=true->False:=fun h h2=>by
  rw [hbt,decide_eq_false (show ¬ ((s[i].toNat:Nat):Int)>=48 by omega)] at h2;cases h2
 rcases h with h | ⟨h,hd⟩
 . have f2:(zk (bs s) ((i:Int)).toNat==45)=true:=(q 45 (by omega)).trans (by rw [h];rfl)
   have k1:=k45 h
   refine zG 116 Tryz.func85 rfl rfl rfl rfl ?_
   intro s0 w he
   repeat' (first
|apply zH
 . conv=>lhs;whnf
 . assumption
|exact (k1 ‹_›).elim
|refine zB ?_
|refine zC ?_
|refine zI ?_
|apply aw_1
 conv=>whnf
 refine ⟨?_,trivial⟩
|apply ze rfl rfl
 . conv=>lhs;whnf
 . conv=>lhs;whnf
 . first | exact bT1 ‹_› | exact bT2 ‹_›
|apply s_1
 conv=>whnf;arg 1;arg 4;arg 3;whnf
 refine ⟨?_,?_⟩
|apply zd rfl
 . conv=>lhs;whnf
 . conv=>lhs;whnf
 . first | exact hsg | exact hsp | exact hnu
|apply zX rfl rfl rfl
 . conv=>lhs;whnf
 . conv=>lhs;whnf;arg 1;whnf
 . conv=>lhs;whnf;arg 1;whnf
 . exact ⟨by kernel_rfl,by kernel_rfl⟩
 . rfl
|apply zo rfl
 . conv=>lhs;whnf
 . conv=>lhs;whnf
 . first | rfl | assumption
|apply zL rfl
 . conv=>lhs;whnf
 . conv=>lhs;whnf
 . conv=>lhs;whnf;arg 2;whnf
|refine zO ?_
|refine zT ?_
|refine zD ?_
|exact trivial
|intro hg)
   . refine ⟨_,_,_,rfl,rfl,rfl,?_⟩
     show _=V.tup [.agg [.c (.int .i64 3),.c (.string ((bs s).extract ((i:Int)).toNat (((i+1+spanN wrdU (s.drop (i+1)):Nat):Int)).toNat)),.c (.int .i64 (i:Int))],.c (.int .i64 ((i+1+spanN wrdU (s.drop (i+1)):Nat):Int)),.c (.int .i64 (nerU (numU (s[i]::(s.drop (i+1)).take (spanN wrdU (s.drop (i+1)))))))]
     rw [hx];rfl
   all_goals first
    |exact za (by omega)
    |exact ⟨by kernel_rfl,by omega,by omega⟩
    |exact ⟨by kernel_rfl,by omega,by omega,by omega⟩
    |(rw [hbt];exact zAh _)
    |exact (show Tryz.prog.underlying _=some TypeDesc.string by kernel_rfl)
    |skip
 . have f2:(zk (bs s) ((i:Int)).toNat==45)=false:=(q 45 (by omega)).trans (by simpa using h)
   have hd2:48<=s[i].toNat/\s[i].toNat<=57:=by simpa [digU] using hd
   have f3:decide (zk (bs s) ((i:Int)).toNat>=48)=true:=by rw [hbt];exact decide_eq_true (by omega)
   have f4:decide (zk (bs s) ((i:Int)).toNat<=57)=true:=by rw [hbt];exact decide_eq_true (by omega)
   have k1:=kn45 h
   have k2:=kge hd2.1
   refine zG 116 Tryz.func85 rfl rfl rfl rfl ?_
   intro s0 w he
   repeat' (first
|apply zAY rfl rfl rfl
 . conv=>lhs;whnf
 . first | rfl | assumption
 . conv=>lhs;whnf
 . first | exact bT1 ‹_› | exact bT2 ‹_› | rfl
|apply zM
 . conv=>lhs;whnf
 . assumption
|apply zH
 . conv=>lhs;whnf
 . assumption
|exact (k1 ‹_›).elim
|exact (k2 ‹_›).elim
|refine zB ?_
|refine zC ?_
|refine zI ?_
|apply aw_1
 conv=>whnf
 refine ⟨?_,trivial⟩
|apply zZ rfl rfl
 . conv=>lhs;whnf
 . conv=>lhs;whnf
 . first | exact bF1 ‹_› | exact bF2 ‹_›
|apply s_1
 conv=>whnf;arg 1;arg 4;arg 3;whnf
 refine ⟨?_,?_⟩
|apply zd rfl
 . conv=>lhs;whnf
 . conv=>lhs;whnf
 . first | exact hsg | exact hsp | exact hnu
|apply zX rfl rfl rfl
 . conv=>lhs;whnf
 . conv=>lhs;whnf;arg 1;whnf
 . conv=>lhs;whnf;arg 1;whnf
 . exact ⟨by kernel_rfl,by kernel_rfl⟩
 . rfl
|apply zF rfl
 . conv=>lhs;whnf
 . conv=>lhs;whnf
 . first | rfl | assumption
 . conv=>lhs;whnf;arg 2;whnf
|apply zL rfl
 . conv=>lhs;whnf
 . conv=>lhs;whnf
 . conv=>lhs;whnf;arg 2;whnf
|refine zO ?_
|refine zT ?_
|refine zD ?_
|exact trivial
|intro hg)
   . refine ⟨_,_,_,rfl,rfl,rfl,?_⟩
     show _=V.tup [.agg [.c (.int .i64 3),.c (.string ((bs s).extract ((i:Int)).toNat (((i+1+spanN wrdU (s.drop (i+1)):Nat):Int)).toNat)),.c (.int .i64 (i:Int))],.c (.int .i64 ((i+1+spanN wrdU (s.drop (i+1)):Nat):Int)),.c (.int .i64 (nerU (numU (s[i]::(s.drop (i+1)).take (spanN wrdU (s.drop (i+1)))))))]
     rw [hx];rfl
   all_goals first
    |exact za (by omega)
    |exact ⟨by kernel_rfl,by omega,by omega⟩
    |exact ⟨by kernel_rfl,by omega,by omega,by omega⟩
    |(rw [hbt];exact zAh _)
    |exact (show Tryz.prog.underlying _=some TypeDesc.string by kernel_rfl)
    |skip
theorem read_word (h0:zAr s[i]=false) (h46:s[i]≠46) (h45:s[i]≠45) (hr:s[i].toNat<48\/57<s[i].toNat) (hw:wrdU s[i]=true) (hlen:spanN wrdU (s.drop (i+1))+1<=64):AC EN5 Tryz.prog 85 [.c (.string (bs s)),.c (.int .i64 (i:Int))] (tupR ⟨2,s[i]::(s.drop (i+1)).take (spanN wrdU (s.drop (i+1))),i⟩ (i+1+spanN wrdU (s.drop (i+1))) 0):=by
 have hz:=zS s
 have hbt:=zCm hi
 have hgd:=zFB hi
 have hdr:s.drop i=s[i]::s.drop (i+1):=List.drop_eq_getElem_cons hi
 have q : ∀ n:Nat,n<256->(zk (bs s) ((i:Int)).toNat==(n:Int))=(s[i]==UInt8.ofNat n):=fun n hn=>by rw [hbt];exact zFY _ n hn
 have hsg:=zAR ((bs s).data.toList.getD ((i:Int)).toNat 0)
 have f0:zAr ((bs s).data.toList.getD ((i:Int)).toNat 0)=false:=by rw [Int.toNat_natCast,hgd];exact h0
 have hle:=zCd wrdU (s.drop (i+1))
 rw [List.length_drop] at hle
 have f1:(zk (bs s) ((i:Int)).toNat==46)=false:=(q 46 (by omega)).trans (by simpa using h46)
 have k45:s[i]=45->((zk (bs s) ((i:Int)).toNat==45)==false)=true->False:=fun h h2=>by
  have e:(zk (bs s) ((i:Int)).toNat==45)=true:=(q 45 (by omega)).trans (by rw [h];rfl)
  rw [e] at h2;cases h2
 have kn45:s[i]≠45->((zk (bs s) ((i:Int)).toNat==45)==false)=false->False:=fun h h2=>by
  have e:(zk (bs s) ((i:Int)).toNat==45)=false:=(q 45 (by omega)).trans (by simpa using h)
  rw [e] at h2;cases h2
 have kge:48<=s[i].toNat->(decide (zk (bs s) ((i:Int)).toNat>=48)==true)=false->False:=fun h h2=>by
  rw [hbt,decide_eq_true (show ((s[i].toNat:Nat):Int)>=48 by omega)] at h2;cases h2
 have kng:s[i].toNat<48->(decide (zk (bs s) ((i:Int)).toNat>=48)==true)=true->False:=fun h h2=>by
  rw [hbt,decide_eq_false (show ¬ ((s[i].toNat:Nat):Int)>=48 by omega)] at h2;cases h2
 have hlt:=zCZ ((bs s).data.toList.getD ((i:Int)).toNat 0)
 have f5:wrdU ((bs s).data.toList.getD ((i:Int)).toNat 0)=true:=by rw [Int.toNat_natCast,hgd];exact hw
 have hsp:=zJD s i (by omega) (by omega)
 have hse:i+spanN wrdU (s.drop i)=i+1+spanN wrdU (s.drop (i+1)):=by rw [hdr,spanN,if_pos hw];omega
 rw [hse] at hsp
 have hx:(bs s).extract ((i:Int)).toNat (((i+1+spanN wrdU (s.drop (i+1)):Nat):Int)).toNat=bs (s[i]::(s.drop (i+1)).take (spanN wrdU (s.drop (i+1)))):=by
  rw [Int.toNat_natCast,Int.toNat_natCast,zGm s (by omega) (by omega),hdr,show i+1+spanN wrdU (s.drop (i+1))-i=spanN wrdU (s.drop (i+1))+1 by omega,List.take_succ_cons]
 have f6:decide (((i+1+spanN wrdU (s.drop (i+1)):Nat):Int)-(i:Int)>64)=false:=decide_eq_false (by omega)
 rcases hr with hr | hr
 . have f2:(zk (bs s) ((i:Int)).toNat==45)=false:=(q 45 (by omega)).trans (by simpa using h45)
   have k1:=kn45 h45
   have k2:=kng hr
   have f3:decide (zk (bs s) ((i:Int)).toNat>=48)=false:=by rw [hbt];exact decide_eq_false (by omega)
   refine zG 116 Tryz.func85 rfl rfl rfl rfl ?_
   intro s0 w he
   repeat' (first
|apply zAZ rfl rfl rfl
 . conv=>lhs;whnf
 . first | rfl | assumption
 . conv=>lhs;whnf
 . first | exact bF1 ‹_› | exact bF2 ‹_› | rfl
|apply zM
 . conv=>lhs;whnf
 . assumption
|apply zH
 . conv=>lhs;whnf
 . assumption
|exact (k1 ‹_›).elim
|exact (k2 ‹_›).elim
|refine zB ?_
|refine zC ?_
|refine zI ?_
|apply aw_1
 conv=>whnf
 refine ⟨?_,trivial⟩
|apply zZ rfl rfl
 . conv=>lhs;whnf
 . conv=>lhs;whnf
 . first | exact bF1 ‹_› | exact bF2 ‹_›
|apply s_1
 conv=>whnf;arg 1;arg 4;arg 3;whnf
 refine ⟨?_,?_⟩
|apply zd rfl
 . conv=>lhs;whnf
 . conv=>lhs;whnf
 . first | exact hsg | exact hlt | exact hsp
|apply zX rfl rfl rfl
 . conv=>lhs;whnf
 . conv=>lhs;whnf;arg 1;whnf
 . conv=>lhs;whnf;arg 1;whnf
 . exact ⟨by kernel_rfl,by kernel_rfl⟩
 . rfl
|apply zF rfl
 . conv=>lhs;whnf
 . conv=>lhs;whnf
 . first | rfl | assumption
 . conv=>lhs;whnf;arg 2;whnf
|apply zo rfl
 . conv=>lhs;whnf
 . conv=>lhs;whnf
 . first | rfl | assumption
|apply zL rfl
 . conv=>lhs;whnf
 . conv=>lhs;whnf
 . conv=>lhs;whnf;arg 2;whnf
|refine zO ?_
|refine zT ?_
|refine zD ?_
|exact trivial
|intro hg)
   . refine ⟨_,_,_,rfl,rfl,rfl,?_⟩
     show _=V.tup [.agg [.c (.int .i64 2),.c (.string ((bs s).extract ((i:Int)).toNat (((i+1+spanN wrdU (s.drop (i+1)):Nat):Int)).toNat)),.c (.int .i64 (i:Int))],.c (.int .i64 ((i+1+spanN wrdU (s.drop (i+1)):Nat):Int)),.c (.int .i64 0)]
     rw [hx];rfl
   all_goals first
    |exact za (by omega)
    |exact ⟨by kernel_rfl,by omega,by omega⟩
    |exact ⟨by kernel_rfl,by omega,by omega,by omega⟩
    |(rw [hbt];exact zAh _)
    |exact (show Tryz.prog.underlying _=some TypeDesc.string by kernel_rfl)
    |skip
 . have f2:(zk (bs s) ((i:Int)).toNat==45)=false:=(q 45 (by omega)).trans (by simpa using h45)
   have k1:=kn45 h45
   have k2:=kge (by omega)
   have f3:decide (zk (bs s) ((i:Int)).toNat>=48)=true:=by rw [hbt];exact decide_eq_true (by omega)
   have f4:decide (zk (bs s) ((i:Int)).toNat<=57)=false:=by rw [hbt];exact decide_eq_false (by omega)
   refine zG 116 Tryz.func85 rfl rfl rfl rfl ?_
   intro s0 w he
   repeat' (first
|apply zAY rfl rfl rfl
 . conv=>lhs;whnf
 . first | rfl | assumption
 . conv=>lhs;whnf
 . first | exact bT1 ‹_› | exact bT2 ‹_› | rfl
|apply zM
 . conv=>lhs;whnf
 . assumption
|apply zH
 . conv=>lhs;whnf
 . assumption
|exact (k1 ‹_›).elim
|exact (k2 ‹_›).elim
|refine zB ?_
|refine zC ?_
|refine zI ?_
|apply aw_1
 conv=>whnf
 refine ⟨?_,trivial⟩
|apply zZ rfl rfl
 . conv=>lhs;whnf
 . conv=>lhs;whnf
 . first | exact bF1 ‹_› | exact bF2 ‹_›
|apply s_1
 conv=>whnf;arg 1;arg 4;arg 3;whnf
 refine ⟨?_,?_⟩
|apply zd rfl
 . conv=>lhs;whnf
 . conv=>lhs;whnf
 . first | exact hsg | exact hlt | exact hsp
|apply zX rfl rfl rfl
 . conv=>lhs;whnf
 . conv=>lhs;whnf;arg 1;whnf
 . conv=>lhs;whnf;arg 1;whnf
 . exact ⟨by kernel_rfl,by kernel_rfl⟩
 . rfl
|apply zF rfl
 . conv=>lhs;whnf
 . conv=>lhs;whnf
 . first | rfl | assumption
 . conv=>lhs;whnf;arg 2;whnf
|apply zL rfl
 . conv=>lhs;whnf
 . conv=>lhs;whnf
 . conv=>lhs;whnf;arg 2;whnf
|refine zO ?_
|refine zT ?_
|refine zD ?_
|exact trivial
|intro hg)
   . refine ⟨_,_,_,rfl,rfl,rfl,?_⟩
     show _=V.tup [.agg [.c (.int .i64 2),.c (.string ((bs s).extract ((i:Int)).toNat (((i+1+spanN wrdU (s.drop (i+1)):Nat):Int)).toNat)),.c (.int .i64 (i:Int))],.c (.int .i64 ((i+1+spanN wrdU (s.drop (i+1)):Nat):Int)),.c (.int .i64 0)]
     rw [hx];rfl
   all_goals first
    |exact za (by omega)
    |exact ⟨by kernel_rfl,by omega,by omega⟩
    |exact ⟨by kernel_rfl,by omega,by omega,by omega⟩
    |(rw [hbt];exact zAh _)
    |exact (show Tryz.prog.underlying _=some TypeDesc.string by kernel_rfl)
    |skip
theorem read_long (h0:zAr s[i]=false) (h46:s[i]≠46) (h45:s[i]≠45) (hr:s[i].toNat<48\/57<s[i].toNat) (hw:wrdU s[i]=true) (hlen : ¬ spanN wrdU (s.drop (i+1))+1<=64):AC EN5 Tryz.prog 85 [.c (.string (bs s)),.c (.int .i64 (i:Int))] failR:=by
 have hz:=zS s
 have hbt:=zCm hi
 have hgd:=zFB hi
 have hdr:s.drop i=s[i]::s.drop (i+1):=List.drop_eq_getElem_cons hi
 have q : ∀ n:Nat,n<256->(zk (bs s) ((i:Int)).toNat==(n:Int))=(s[i]==UInt8.ofNat n):=fun n hn=>by rw [hbt];exact zFY _ n hn
 have hsg:=zAR ((bs s).data.toList.getD ((i:Int)).toNat 0)
 have f0:zAr ((bs s).data.toList.getD ((i:Int)).toNat 0)=false:=by rw [Int.toNat_natCast,hgd];exact h0
 have hle:=zCd wrdU (s.drop (i+1))
 rw [List.length_drop] at hle
 have f1:(zk (bs s) ((i:Int)).toNat==46)=false:=(q 46 (by omega)).trans (by simpa using h46)
 have k45:s[i]=45->((zk (bs s) ((i:Int)).toNat==45)==false)=true->False:=fun h h2=>by
  have e:(zk (bs s) ((i:Int)).toNat==45)=true:=(q 45 (by omega)).trans (by rw [h];rfl)
  rw [e] at h2;cases h2
 have kn45:s[i]≠45->((zk (bs s) ((i:Int)).toNat==45)==false)=false->False:=fun h h2=>by
  have e:(zk (bs s) ((i:Int)).toNat==45)=false:=(q 45 (by omega)).trans (by simpa using h)
  rw [e] at h2;cases h2
 have kge:48<=s[i].toNat->(decide (zk (bs s) ((i:Int)).toNat>=48)==true)=false->False:=fun h h2=>by
  rw [hbt,decide_eq_true (show ((s[i].toNat:Nat):Int)>=48 by omega)] at h2;cases h2
 have kng:s[i].toNat<48->(decide (zk (bs s) ((i:Int)).toNat>=48)==true)=true->False:=fun h h2=>by
  rw [hbt,decide_eq_false (show ¬ ((s[i].toNat:Nat):Int)>=48 by omega)] at h2;cases h2
 have hlt:=zCZ ((bs s).data.toList.getD ((i:Int)).toNat 0)
 have f5:wrdU ((bs s).data.toList.getD ((i:Int)).toNat 0)=true:=by rw [Int.toNat_natCast,hgd];exact hw
 have hsp:=zJD s i (by omega) (by omega)
 have hse:i+spanN wrdU (s.drop i)=i+1+spanN wrdU (s.drop (i+1)):=by rw [hdr,spanN,if_pos hw];omega
 rw [hse] at hsp
 have f6:decide (((i+1+spanN wrdU (s.drop (i+1)):Nat):Int)-(i:Int)>64)=true:=decide_eq_true (by omega)
 rcases hr with hr | hr
 . have f2:(zk (bs s) ((i:Int)).toNat==45)=false:=(q 45 (by omega)).trans (by simpa using h45)
   have k1:=kn45 h45
   have k2:=kng hr
   have f3:decide (zk (bs s) ((i:Int)).toNat>=48)=false:=by rw [hbt];exact decide_eq_false (by omega)
   refine zG 116 Tryz.func85 rfl rfl rfl rfl ?_
   intro s0 w he
   repeat' (first
|apply zAZ rfl rfl rfl
 . conv=>lhs;whnf
 . first | rfl | assumption
 . conv=>lhs;whnf
 . first | exact bF1 ‹_› | exact bF2 ‹_› | rfl
|apply zM
 . conv=>lhs;whnf
 . assumption
|apply zH
 . conv=>lhs;whnf
 . assumption
|exact (k1 ‹_›).elim
|exact (k2 ‹_›).elim
|refine zB ?_
|refine zC ?_
|refine zI ?_
|apply aw_1
 conv=>whnf
 refine ⟨?_,trivial⟩
|apply zZ rfl rfl
 . conv=>lhs;whnf
 . conv=>lhs;whnf
 . first | exact bF1 ‹_› | exact bF2 ‹_›
|apply s_1
 conv=>whnf;arg 1;arg 4;arg 3;whnf
 refine ⟨?_,?_⟩
|apply zd rfl
 . conv=>lhs;whnf
 . conv=>lhs;whnf
 . first | exact hsg | exact hlt | exact hsp
|apply zX rfl rfl rfl
 . conv=>lhs;whnf
 . conv=>lhs;whnf;arg 1;whnf
 . conv=>lhs;whnf;arg 1;whnf
 . exact ⟨by kernel_rfl,by kernel_rfl⟩
 . rfl
|apply zF rfl
 . conv=>lhs;whnf
 . conv=>lhs;whnf
 . first | rfl | assumption
 . conv=>lhs;whnf;arg 2;whnf
|apply zo rfl
 . conv=>lhs;whnf
 . conv=>lhs;whnf
 . first | rfl | assumption
|apply zL rfl
 . conv=>lhs;whnf
 . conv=>lhs;whnf
 . conv=>lhs;whnf;arg 2;whnf
|refine zO ?_
|refine zT ?_
|refine zD ?_
|exact trivial
|intro hg)
   . exact ⟨_,_,_,rfl,rfl,rfl,rfl⟩
   all_goals first
    |exact za (by omega)
    |exact ⟨by kernel_rfl,by omega,by omega⟩
    |exact ⟨by kernel_rfl,by omega,by omega,by omega⟩
    |(rw [hbt];exact zAh _)
    |exact (show Tryz.prog.underlying _=some TypeDesc.string by kernel_rfl)
    |skip
 . have f2:(zk (bs s) ((i:Int)).toNat==45)=false:=(q 45 (by omega)).trans (by simpa using h45)
   have k1:=kn45 h45
   have k2:=kge (by omega)
   have f3:decide (zk (bs s) ((i:Int)).toNat>=48)=true:=by rw [hbt];exact decide_eq_true (by omega)
   have f4:decide (zk (bs s) ((i:Int)).toNat<=57)=false:=by rw [hbt];exact decide_eq_false (by omega)
   refine zG 116 Tryz.func85 rfl rfl rfl rfl ?_
   intro s0 w he
   repeat' (first
|apply zAY rfl rfl rfl
 . conv=>lhs;whnf
 . first | rfl | assumption
 . conv=>lhs;whnf
 . first | exact bT1 ‹_› | exact bT2 ‹_› | rfl
|apply zM
 . conv=>lhs;whnf
 . assumption
|apply zH
 . conv=>lhs;whnf
 . assumption
|exact (k1 ‹_›).elim
|exact (k2 ‹_›).elim
|refine zB ?_
|refine zC ?_
|refine zI ?_
|apply aw_1
 conv=>whnf
 refine ⟨?_,trivial⟩
|apply zZ rfl rfl
 . conv=>lhs;whnf
 . conv=>lhs;whnf
 . first | exact bF1 ‹_› | exact bF2 ‹_›
|apply s_1
 conv=>whnf;arg 1;arg 4;arg 3;whnf
 refine ⟨?_,?_⟩
|apply zd rfl
 . conv=>lhs;whnf
 . conv=>lhs;whnf
 . first | exact hsg | exact hlt | exact hsp
|apply zX rfl rfl rfl
 . conv=>lhs;whnf
 . conv=>lhs;whnf;arg 1;whnf
 . conv=>lhs;whnf;arg 1;whnf
 . exact ⟨by kernel_rfl,by kernel_rfl⟩
 . rfl
|apply zF rfl
 . conv=>lhs;whnf
 . conv=>lhs;whnf
 . first | rfl | assumption
 . conv=>lhs;whnf;arg 2;whnf
|apply zL rfl
 . conv=>lhs;whnf
 . conv=>lhs;whnf
 . conv=>lhs;whnf;arg 2;whnf
|refine zO ?_
|refine zT ?_
|refine zD ?_
|exact trivial
|intro hg)
   . exact ⟨_,_,_,rfl,rfl,rfl,rfl⟩
   all_goals first
    |exact za (by omega)
    |exact ⟨by kernel_rfl,by omega,by omega⟩
    |exact ⟨by kernel_rfl,by omega,by omega,by omega⟩
    |(rw [hbt];exact zAh _)
    |exact (show Tryz.prog.underlying _=some TypeDesc.string by kernel_rfl)
    |skip
theorem read_none (h0:zAr s[i]=false) (h46:s[i]≠46) (h45:s[i]≠45) (hr:s[i].toNat<48\/57<s[i].toNat) (hw:wrdU s[i]=false) (h34:s[i]≠34):AC EN5 Tryz.prog 85 [.c (.string (bs s)),.c (.int .i64 (i:Int))] failR:=by
 have hz:=zS s
 have hbt:=zCm hi
 have hgd:=zFB hi
 have hdr:s.drop i=s[i]::s.drop (i+1):=List.drop_eq_getElem_cons hi
 have q : ∀ n:Nat,n<256->(zk (bs s) ((i:Int)).toNat==(n:Int))=(s[i]==UInt8.ofNat n):=fun n hn=>by rw [hbt];exact zFY _ n hn
 have hsg:=zAR ((bs s).data.toList.getD ((i:Int)).toNat 0)
 have f0:zAr ((bs s).data.toList.getD ((i:Int)).toNat 0)=false:=by rw [Int.toNat_natCast,hgd];exact h0
 have hle:=zCd wrdU (s.drop (i+1))
 rw [List.length_drop] at hle
 have f1:(zk (bs s) ((i:Int)).toNat==46)=false:=(q 46 (by omega)).trans (by simpa using h46)
 have k45:s[i]=45->((zk (bs s) ((i:Int)).toNat==45)==false)=true->False:=fun h h2=>by
  have e:(zk (bs s) ((i:Int)).toNat==45)=true:=(q 45 (by omega)).trans (by rw [h];rfl)
  rw [e] at h2;cases h2
 have kn45:s[i]≠45->((zk (bs s) ((i:Int)).toNat==45)==false)=false->False:=fun h h2=>by
  have e:(zk (bs s) ((i:Int)).toNat==45)=false:=(q 45 (by omega)).trans (by simpa using h)
  rw [e] at h2;cases h2
 have kge:48<=s[i].toNat->(decide (zk (bs s) ((i:Int)).toNat>=48)==true)=false->False:=fun h h2=>by
  rw [hbt,decide_eq_true (show ((s[i].toNat:Nat):Int)>=48 by omega)] at h2;cases h2
 have kng:s[i].toNat<48->(decide (zk (bs s) ((i:Int)).toNat>=48)==true)=true->False:=fun h h2=>by
  rw [hbt,decide_eq_false (show ¬ ((s[i].toNat:Nat):Int)>=48 by omega)] at h2;cases h2
 have hlt:=zCZ ((bs s).data.toList.getD ((i:Int)).toNat 0)
 have f5:wrdU ((bs s).data.toList.getD ((i:Int)).toNat 0)=false:=by rw [Int.toNat_natCast,hgd];exact hw
 have f6:(zk (bs s) ((i:Int)).toNat==34)=false:=(q 34 (by omega)).trans (by simpa using h34)
 rcases hr with hr | hr
 . have f2:(zk (bs s) ((i:Int)).toNat==45)=false:=(q 45 (by omega)).trans (by simpa using h45)
   have k1:=kn45 h45
   have k2:=kng hr
   have f3:decide (zk (bs s) ((i:Int)).toNat>=48)=false:=by rw [hbt];exact decide_eq_false (by omega)
   refine zG 116 Tryz.func85 rfl rfl rfl rfl ?_
   intro s0 w he
   repeat' (first
|apply zAZ rfl rfl rfl
 . conv=>lhs;whnf
 . first | rfl | assumption
 . conv=>lhs;whnf
 . first | exact bF1 ‹_› | exact bF2 ‹_› | rfl
|apply zH
 . conv=>lhs;whnf
 . assumption
|exact (k1 ‹_›).elim
|exact (k2 ‹_›).elim
|refine zB ?_
|refine zC ?_
|refine zI ?_
|refine zY ?_
|apply aw_1
 conv=>whnf
 refine ⟨?_,trivial⟩
|apply zZ rfl rfl
 . conv=>lhs;whnf
 . conv=>lhs;whnf
 . first | exact bF1 ‹_› | exact bF2 ‹_›
|apply s_1
 conv=>whnf;arg 1;arg 4;arg 3;whnf
 refine ⟨?_,?_⟩
|apply zd rfl
 . conv=>lhs;whnf
 . conv=>lhs;whnf
 . first | exact hsg | exact hlt
|apply zX rfl rfl rfl
 . conv=>lhs;whnf
 . conv=>lhs;whnf;arg 1;whnf
 . conv=>lhs;whnf;arg 1;whnf
 . exact ⟨by kernel_rfl,by kernel_rfl⟩
 . rfl
|apply zF rfl
 . conv=>lhs;whnf
 . conv=>lhs;whnf
 . first | rfl | assumption
 . conv=>lhs;whnf;arg 2;whnf
|apply zo rfl
 . conv=>lhs;whnf
 . conv=>lhs;whnf
 . first | rfl | assumption
|apply zL rfl
 . conv=>lhs;whnf
 . conv=>lhs;whnf
 . conv=>lhs;whnf;arg 2;whnf
|refine zD ?_
|exact trivial
|intro hg)
   . exact ⟨_,_,_,rfl,rfl,rfl,rfl⟩
   all_goals first
    |exact za (by omega)
    |exact ⟨by kernel_rfl,by omega,by omega⟩
    |exact ⟨by kernel_rfl,by omega,by omega,by omega⟩
    |(rw [hbt];exact zAh _)
    |exact (show Tryz.prog.underlying _=some TypeDesc.string by kernel_rfl)
    |skip
 . have f2:(zk (bs s) ((i:Int)).toNat==45)=false:=(q 45 (by omega)).trans (by simpa using h45)
   have k1:=kn45 h45
   have k2:=kge (by omega)
   have f3:decide (zk (bs s) ((i:Int)).toNat>=48)=true:=by rw [hbt];exact decide_eq_true (by omega)
   have f4:decide (zk (bs s) ((i:Int)).toNat<=57)=false:=by rw [hbt];exact decide_eq_false (by omega)
   refine zG 116 Tryz.func85 rfl rfl rfl rfl ?_
   intro s0 w he
   repeat' (first
|apply zAY rfl rfl rfl
 . conv=>lhs;whnf
 . first | rfl | assumption
 . conv=>lhs;whnf
 . first | exact bT1 ‹_› | exact bT2 ‹_› | rfl
|apply zH
 . conv=>lhs;whnf
 . assumption
|exact (k1 ‹_›).elim
|exact (k2 ‹_›).elim
|refine zB ?_
|refine zC ?_
|refine zI ?_
|refine zY ?_
|apply aw_1
 conv=>whnf
 refine ⟨?_,trivial⟩
|apply zZ rfl rfl
 . conv=>lhs;whnf
 . conv=>lhs;whnf
 . first | exact bF1 ‹_› | exact bF2 ‹_›
|apply s_1
 conv=>whnf;arg 1;arg 4;arg 3;whnf
 refine ⟨?_,?_⟩
|apply zd rfl
 . conv=>lhs;whnf
 . conv=>lhs;whnf
 . first | exact hsg | exact hlt
|apply zX rfl rfl rfl
 . conv=>lhs;whnf
 . conv=>lhs;whnf;arg 1;whnf
 . conv=>lhs;whnf;arg 1;whnf
 . exact ⟨by kernel_rfl,by kernel_rfl⟩
 . rfl
|apply zF rfl
 . conv=>lhs;whnf
 . conv=>lhs;whnf
 . first | rfl | assumption
 . conv=>lhs;whnf;arg 2;whnf
|apply zL rfl
 . conv=>lhs;whnf
 . conv=>lhs;whnf
 . conv=>lhs;whnf;arg 2;whnf
|refine zD ?_
|exact trivial
|intro hg)
   . exact ⟨_,_,_,rfl,rfl,rfl,rfl⟩
   all_goals first
    |exact za (by omega)
    |exact ⟨by kernel_rfl,by omega,by omega⟩
    |exact ⟨by kernel_rfl,by omega,by omega,by omega⟩
    |(rw [hbt];exact zAh _)
    |exact (show Tryz.prog.underlying _=some TypeDesc.string by kernel_rfl)
    |skip
end
end
section
open Go.RowKit
set_option linter.unusedSectionVars false
theorem index_cut : ∀ (u:List UInt8),(Lib.indexByte u 10 = -1 /\ ∀ c∈u,c≠10) \/ ∃ a b,u=a++10::b/\(∀ c∈a,c≠10)/\Lib.indexByte u 10=(a.length:Int)
 |[] => .inl ⟨rfl,by simp⟩
 |c::u=>by
  by_cases hc:c=10
  . subst hc
    exact .inr ⟨[],u,rfl,by simp,by simp [Lib.indexByte]⟩
  . have hc':(c==10)=false:=by simpa using hc
    rcases index_cut u with ⟨h1,h2⟩ | ⟨a,b,h1,h2,h3⟩
    . left
      refine ⟨by simp [Lib.indexByte,hc',h1],fun x hx => ?_⟩
      rcases List.mem_cons.1 hx with rfl | q
      . exact hc
      . exact h2 x q
    . right
      refine ⟨c::a,b,by rw [h1];rfl,fun x hx => ?_,?_⟩
      . rcases List.mem_cons.1 hx with rfl | q
        . exact hc
        . exact h2 x q
      . have hn:((a.length:Int) == -1)=false:=by rw [beq_eq_false_iff_ne];omega
        simp [Lib.indexByte,hc',h3]
theorem index_no {u:List UInt8} (h : ∀ c∈u,c≠10):Lib.indexByte u 10 = -1:=by
 rcases index_cut u with ⟨h1,-⟩ | ⟨a,b,rfl,-,-⟩
 . exact h1
 . exact absurd rfl (h 10 (by simp))
theorem index_at {a b:List UInt8} (h : ∀ c∈a,c≠10):Lib.indexByte (a++10::b) 10=(a.length:Int):=by
 induction a with
 |nil=>simp [Lib.indexByte]
 |cons c a ih =>
  have hc':(c==10)=false:=by simpa using h c (by simp)
  have ih:=ih fun x hx=>h x (by simp [hx])
  have hn:((a.length:Int) == -1)=false:=by rw [beq_eq_false_iff_ne];omega
  simp [Lib.indexByte,hc',ih]
theorem zKq (u:List UInt8) (hu:u.length<=9000000000000):AC EN Tryz.prog 175 [.c (.string (bs u)),.c (.string ⟨#[10]⟩)] (.c (.int .i64 (Lib.indexByte u 10))):=
 zHj fun s1 w us hus he=>by
  obtain ⟨u1,u2,rfl,h,h2⟩:=zJO hus
  rw [rel] at h h2
  obtain ⟨rfl,-⟩:=h
  obtain ⟨rfl,-⟩:=h2
  refine ⟨?_,?_⟩
  . show (Lit.int .i64 (Lib.indexByte u 10)).wf=true
    rw [zDa]
    simp only [IntKind.min,IntKind.max,IntKind.signed,IntKind.bits]
    rcases index_cut u with ⟨h1,-⟩ | ⟨a,b,hab,-,h3⟩
    . rw [h1];decide
    . rw [h3]
      have:a.length<=u.length:=by rw [hab];simp
      simp
      omega
  . refine (Tryz.stringslite_Index_one (bs u) 10 w).mono fun e w' h => ?_
    obtain ⟨rfl,rfl⟩:=h
    exact ⟨by rw [zAi],Below.refl _ _⟩
attribute [local irreducible] wpList Calls Code.wp AW AWo OpOk seqK zAG zAP loopK endK AC zt Yld Sub
attribute [local irreducible] ACB ACX ACE absLexG YldG absLexH
theorem cutN_ac (u:List UInt8) (hu:u.length<=9000000000000) (h : ∀ c∈u,c≠10):AC EN Tryz.prog 48 [.c (.string (bs u)),.c (.string ⟨#[10]⟩)] (.tup [.c (.string (bs u)),.c (.string ⟨#[]⟩),.c (.bool false)]):=by
 have h1:=zKq u hu
 rw [index_no h] at h1
 have h2:AC EN Tryz.prog 96 [.c (.string (bs u)),.c (.string ⟨#[10]⟩)] (.tup [.c (.string (bs u)),.c (.string ⟨#[]⟩),.c (.bool false)]):=by
  refine zG 23 Tryz.func96 rfl rfl rfl rfl ?_
  intro s w he
  repeat' (first
|refine zB ?_
|refine zC ?_
|refine zI ?_
|apply aw_1
 conv=>whnf
 refine ⟨?_,trivial⟩
|apply s_1
 conv=>whnf;arg 1;arg 4;arg 3;whnf
 refine ⟨?_,?_⟩
|apply zd rfl
 . conv=>lhs;whnf
 . conv=>lhs;whnf
 . first | exact h1
|refine zD ?_
|exact trivial)
  exact ⟨_,_,_,rfl,rfl,rfl,rfl⟩
 refine zG 13 Tryz.func48 rfl rfl rfl rfl ?_
 intro s w he
 repeat' (first
|refine zB ?_
|refine zC ?_
|refine zI ?_
|apply aw_1
 conv=>whnf
 refine ⟨?_,trivial⟩
|apply s_1
 conv=>whnf;arg 1;arg 4;arg 3;whnf
 refine ⟨?_,?_⟩
|apply zd rfl
 . conv=>lhs;whnf
 . conv=>lhs;whnf
 . first | exact h2
|refine zD ?_
|exact trivial)
 exact ⟨_,_,_,rfl,rfl,rfl,rfl⟩
theorem cutY_ac (a b:List UInt8) (hu:(a++10::b).length<=9000000000000) (h : ∀ c∈a,c≠10):AC EN Tryz.prog 48 [.c (.string (bs (a++10::b))),.c (.string ⟨#[10]⟩)] (.tup [.c (.string (bs a)),.c (.string (bs b)),.c (.bool true)]):=by
 have h1:=zKq (a++10::b) hu
 rw [index_at h] at h1
 have hz:=zS (a++10::b)
 have hl:(a++10::b).length=a.length+b.length+1:=by simp;omega
 have f0:decide ((a.length:Int)>=0)=true:=decide_eq_true (by omega)
 have x0:(bs (a++10::b)).extract 0 ((a.length:Int)).toNat=bs a:=by
  have:=zGm (a++10::b) (a:=0) (b:=a.length) (by omega) (by omega)
  rw [Int.toNat_natCast,this]
  simp
 have x1:(bs (a++10::b)).extract (((a.length:Int)+1)).toNat (bs (a++10::b)).size=bs b:=by
  have:=zGm (a++10::b) (a:=a.length+1) (b:=(a++10::b).length) (by omega) (by omega)
  rw [show (((a.length:Int)+1)).toNat=a.length+1 by omega,hz,this]
  congr 1
  rw [List.drop_append,List.drop_of_length_le (by omega)]
  simp
  exact List.take_of_length_le (by omega)
 have h2:AC EN Tryz.prog 96 [.c (.string (bs (a++10::b))),.c (.string ⟨#[10]⟩)] (.tup [.c (.string (bs a)),.c (.string (bs b)),.c (.bool true)]):=by
  refine zG 23 Tryz.func96 rfl rfl rfl rfl ?_
  intro s w he
  repeat' (first
|apply zM
 . conv=>lhs;whnf
 . assumption
|refine zB ?_
|refine zC ?_
|refine zI ?_
|apply aw_1
 conv=>whnf
 refine ⟨?_,trivial⟩
|apply s_1
 conv=>whnf;arg 1;arg 4;arg 3;whnf
 refine ⟨?_,?_⟩
|apply zd rfl
 . conv=>lhs;whnf
 . conv=>lhs;whnf
 . first | exact h1
|apply zAD (by kernel_rfl) (by kernel_rfl)
|apply zAq
|apply zAp rfl
 . conv=>lhs;whnf
 . conv=>lhs;whnf;arg 2;whnf
|exact zj
|exact zx
|exact (1000000:Nat)
|refine zO ?_
|refine zD ?_
|exact trivial)
  . refine ⟨_,_,_,rfl,rfl,rfl,?_⟩
    show _=V.tup [.c (.string ((bs (a++10::b)).extract 0 ((a.length:Int)).toNat)),.c (.string ((bs (a++10::b)).extract (((a.length:Int)+1)).toNat (bs (a++10::b)).size)),.c (.bool true)]
    rw [x0,x1]
  . exact ⟨by kernel_rfl,(show 0<=(a.length:Int)+1 by omega),(show (a.length:Int)+1<=((bs (a++10::b)).size:Int) by omega)⟩
  . exact (show -9223372036854775808<=(a.length:Int)+1/\(a.length:Int)+1<=9223372036854775807 from ⟨by omega,by omega⟩)
  . exact (show Tryz.prog.underlying _=some TypeDesc.string by kernel_rfl)
  . exact ⟨by kernel_rfl,by omega,by omega⟩
 refine zG 13 Tryz.func48 rfl rfl rfl rfl ?_
 intro s w he
 repeat' (first
|refine zB ?_
|refine zC ?_
|refine zI ?_
|apply aw_1
 conv=>whnf
 refine ⟨?_,trivial⟩
|apply s_1
 conv=>whnf;arg 1;arg 4;arg 3;whnf
 refine ⟨?_,?_⟩
|apply zd rfl
 . conv=>lhs;whnf
 . conv=>lhs;whnf
 . first | exact h2
|refine zD ?_
|exact trivial)
 exact ⟨_,_,_,rfl,rfl,rfl,rfl⟩
end
section
open Go.RowKit
set_option linter.unusedSectionVars false
attribute [local irreducible] wpList Calls Code.wp AW AWo OpOk seqK zAG zAP loopK endK AC zt Yld Sub
attribute [local irreducible] ACB absLexG YldG
noncomputable def HpO (K f:Nat) (a b:List D) (i:Nat):Vst 48:=
 stS 48 [(1,.bx 1 0),(3,.own 3 9 (zl (fun i=>opB K f (gD a i)) i)),(9,.sl 57 a),(10,.c (.int .i64 a.length)),(11,.c (.int .i64 i))] [(1,.box 41 [.sl 57 a,.sl 116 b]),(3,.tok 9 (zl (fun i=>opB K f (gD a i)) i).length)]
noncomputable def HpF (K f:Nat) (a b:List D) (i:Nat):Vst 48:=
 stS 48 [(1,.bx 1 0),(3,.own 3 9 (zl (fun i=>opB K f (gD a i)) a.length++zl (fun i=>zCT K f (gD b i)) i)),(25,.sl 116 b),(26,.c (.int .i64 b.length)),(27,.c (.int .i64 i))] [(1,.box 41 [.sl 57 a,.sl 116 b]),(3,.tok 9 (zl (fun i=>opB K f (gD a i)) a.length++zl (fun i=>zCT K f (gD b i)) i).length)]
theorem DocOk.op {K f:Nat} {a b:List D} (h:DocOk K f (.obj [.list a,.list b])) {i:Nat} (hi:i<a.length):VarsOk K ((gD a i).f 2).l/\SelsOk K (f+1) ((gD a i).f 3).l/\wideD (gD a i)/\bulkD (gD a i)<=8388608:=
 ⟨h.vars i hi,h.sels i hi,(h.wide.f 0).l i,by
   have h1:=zu hi
   have h2:=h.bulk
   have:bulkD (.obj [.list a,.list b])=bulkL a+bulkL b+3:=by simp [bulkD,bulkL];omega
   omega⟩
theorem DocOk.frg {K f:Nat} {a b:List D} (h:DocOk K f (.obj [.list a,.list b])) {i:Nat} (hi:i<b.length):SelsOk K (f+1) ((gD b i).f 2).l/\wideD (gD b i)/\bulkD (gD b i)<=8388608:=
 ⟨h.frag i hi,(h.wide.f 1).l i,by
   have h1:=zu hi
   have h2:=h.bulk
   have:bulkD (.obj [.list a,.list b])=bulkL a+bulkL b+3:=by simp [bulkD,bulkL];omega
   omega⟩
theorem fragH_bs (fr:D):((⟨#[102,114,97,103,109,101,110,116,32]⟩:ByteArray)++(fr.f 0).s++⟨#[32,111,110,32]⟩++(fr.f 1).s++⟨#[32,123]⟩)=bs (zE9 fr):=by
 unfold zE9
 rw [<- zU,<- zU,<- zU,<- zU,zA8,zA8]
 rfl
theorem printP_ac (K f:Nat) (a b:List D) (h:DocOk K f (.obj [.list a,.list b])):AC EN Tryz.prog 28 [.agg [.sl 57 a,.sl 116 b]] (.c (.string (bs (docT K (f+1) (.obj [.list a,.list b]))))):=by
 have hbk:bulkD (.obj [.list a,.list b])=bulkL a+bulkL b+3:=by simp [bulkD,bulkL];omega
 have hb0:=h.bulk
 have hdp:=h.deep
 have hla:=zAK a
 have hlb:=zAK b
 have hdl:=zFN K f _ h.wide hdp
 have hj:AC EN Tryz.prog 59 [.sl 9 (zl (fun i=>opB K (f+1) (gD a i)) a.length++zl (fun i=>zCT K (f+1) (gD b i)) b.length),.c (.string ⟨#[10]⟩)] (.c (.string (bs (docT K (f+1) (.obj [.list a,.list b]))))):=by
  have e:txs (zl (fun i=>opB K (f+1) (gD a i)) a.length++zl (fun i=>zCT K (f+1) (gD b i)) b.length)=a.map (opB K (f+1))++b.map (zCT K (f+1)):=by
   have h1:=zAT (opB K (f+1)) a
   have h2:=zAT (zCT K (f+1)) b
   unfold txs at h1 h2 |-
   rw [List.map_append,h1,h2]
  have:=zCR (zl (fun i=>opB K (f+1) (gD a i)) a.length++zl (fun i=>zCT K (f+1) (gD b i)) b.length) [10] (by rw [List.length_append,zv,zv];omega) (by rw [e];exact Nat.le_trans hdl (by omega))
  rw [e] at this
  exact this
 refine zG 48 Tryz.func28 rfl rfl rfl rfl ?_
 intro s w he
 repeat' (first
|refine zB ?_
|refine zC ?_
|refine zI ?_
|apply aw_1
 conv=>whnf
 refine ⟨?_,trivial⟩
|apply s_1
 conv=>whnf;arg 1;arg 4;arg 3;whnf
 refine ⟨?_,?_⟩
|apply zAE rfl rfl rfl rfl
 . conv=>lhs;whnf;arg 1;whnf
 . rfl
|exact trivial)
 refine zf (Sub.own (t:=3) (e:=9) rfl rfl) ?_
 refine zi (fun j st => ∃ i,i+j=a.length/\Sub (cx EN Tryz.prog s w he) st (HpO K (f+1) a b i)) a.length ⟨0,by omega,Sub.live ⟨rfl,rfl,rfl,rfl,rfl,trivial⟩ ⟨rfl,rfl,trivial⟩⟩ ?_
 rintro j st ⟨i,hij,hs2⟩
 refine zf hs2 ?_
 clear hs2
 have htk:=zv (fun i=>opB K (f+1) (gD a i)) i
 by_cases hi:i<a.length
 . have f0:decide ((i:Int)<(a.length:Nat))=true:=decide_eq_true (by omega)
   obtain ⟨o1,o2,o3,o4⟩:=h.op hi
   have hn:=zy ((gD a i).f 1)
   have hnn:=wD_f (gD a i) 1
   have hn3:=wD_f (gD a i) 3
   have hl3:=zr ((gD a i).f 3)
   have hbd:=zW (gD a i)
   have hhd:=opHead_ac K (gD a i) o1 (by omega)
   have hol:=zJT K (gD a i) o3
   have hv2:=wD_f (gD a i) 2
   have hl2:=zr ((gD a i).f 2)
   have hbl:AC EN Tryz.prog 57 [.c (.string (bs (opT K (gD a i)))),.sl 76 ((gD a i).f 3).l] (.c (.string (bs (opB K (f+1) (gD a i))))):=
    zLQ K f (opT K (gD a i)) ((gD a i).f 3).l o2 (fun q=>(o3.f 3).l q) (by omega) hdp (by omega)
   repeat' (first
|apply zM
 . conv=>lhs;whnf
 . assumption
|refine zB ?_
|refine zC ?_
|refine zI ?_
|refine zY ?_
|apply aw_1
 conv=>whnf
 refine ⟨?_,trivial⟩
|apply s_1
 conv=>whnf;arg 1;arg 4;arg 3;whnf
 refine ⟨?_,?_⟩
|apply zX rfl rfl rfl
 . conv=>lhs;whnf
 . conv=>lhs;whnf;arg 1;whnf
 . conv=>lhs;whnf;arg 1;whnf
 . exact ⟨by kernel_rfl,by kernel_rfl⟩
 . rfl
|apply zAD (by kernel_rfl) (by kernel_rfl)
|apply zAq
|apply zAp rfl
 . conv=>lhs;whnf
 . conv=>lhs;whnf;arg 2;whnf
|apply zA9 rfl
 . conv=>lhs;whnf
 . conv=>lhs;whnf
 . first | exact hhd | exact hbl
|apply y_app rfl rfl
 . conv=>lhs;whnf
 . first | exact zw | (conv=>lhs;whnf;arg 1;whnf)
 . first | exact fun _=>rfl | (intro _;kernel_rfl)
 . conv=>lhs;whnf
 . rfl
 . rfl
 . conv=>lhs;whnf;arg 1;whnf
 . conv=>lhs;whnf
|apply zEw rfl rfl
 . conv=>lhs;whnf
 . first | exact zw | (conv=>lhs;whnf;arg 1;whnf)
 . conv=>lhs;whnf;arg 1;whnf
 . rfl
 . rfl
|exact zj
|show zBr _ _=true;rfl
|exact trivial)
   all_goals first
    |exact za (by omega)
    |exact zBL hi
    |exact zBq (by omega) (by omega)
    |skip
   refine zE (j':=j-1) (by omega) ⟨i+1,by omega,Sub.live ⟨rfl,?_,rfl,rfl,rfl,trivial⟩ ⟨rfl,?_,trivial⟩⟩
   . show V.own 3 _ (zl _ i++[.str (bs _)])=_
     rw [zn]
   . show some (Res.tok _ ((zl _ i).length+1))=_
     rw [zn,List.length_append];rfl
 . have f0:decide ((i:Int)<(a.length:Nat))=false:=decide_eq_false (by omega)
   obtain rfl:i=a.length:=by omega
   repeat' (first
|apply zH
 . conv=>lhs;whnf
 . assumption
|refine zB ?_
|refine zC ?_
|refine zI ?_
|apply aw_1
 conv=>whnf
 refine ⟨?_,trivial⟩
|apply s_1
 conv=>whnf;arg 1;arg 4;arg 3;whnf
 refine ⟨?_,?_⟩
|refine zN ?_
|refine zJ rfl ?_
|refine zK ?_
|exact trivial)
   refine zi (fun j st => ∃ i,i+j=b.length/\Sub (cx EN Tryz.prog s w he) st (HpF K (f+1) a b i)) b.length ⟨0,by omega,Sub.live ⟨rfl,?_,rfl,rfl,rfl,trivial⟩ ⟨rfl,?_,trivial⟩⟩ ?_
   . show V.own 3 _ (zl _ a.length)=V.own 3 _ (zl _ a.length++[])
     rw [List.append_nil]
   . show some (Res.tok _ (zl _ a.length).length)=some (Res.tok _ (zl _ a.length++[]).length)
     rw [List.append_nil]
   rintro j2 st2 ⟨q,hqj,hs3⟩
   refine zf hs3 ?_
   clear hs3
   have htk2:=zv (fun i=>zCT K (f+1) (gD b i)) q
   have hap:(zl (fun i=>opB K (f+1) (gD a i)) a.length++zl (fun i=>zCT K (f+1) (gD b i)) q).length=a.length+q:=by rw [List.length_append,htk,htk2]
   by_cases hq:q<b.length
   . have f2:decide ((q:Int)<(b.length:Nat))=true:=decide_eq_true (by omega)
     obtain ⟨o2,o3,o4⟩:=h.frg hq
     have hn0:=zy ((gD b q).f 0)
     have hn1:=zy ((gD b q).f 1)
     have hf0:=wD_f (gD b q) 0
     have hf1:=wD_f (gD b q) 1
     have hf2:=wD_f (gD b q) 2
     have hl2:=zr ((gD b q).f 2)
     have hbd:=zW (gD b q)
     have t0:=zAF ((gD b q).f 0).s
     have t1:=zAF ((gD b q).f 1).s
     have hlen:(zE9 (gD b q)).length=15+((gD b q).f 0).s.size+((gD b q).f 1).s.size:=by simp only [zE9,List.length_append,List.length_cons,List.length_nil];omega
     have hbl:AC EN Tryz.prog 57 [.c (.string ((⟨#[102,114,97,103,109,101,110,116,32]⟩:ByteArray)++((gD b q).f 0).s++⟨#[32,111,110,32]⟩++((gD b q).f 1).s++⟨#[32,123]⟩)),.sl 76 ((gD b q).f 2).l] (.c (.string (bs (zCT K (f+1) (gD b q))))):=by
      rw [fragH_bs]
      exact zLQ K f (zE9 (gD b q)) ((gD b q).f 2).l o2 (fun z=>(o3.f 2).l z) (by omega) hdp (by omega)
     repeat' (first
|apply zM
 . conv=>lhs;whnf
 . assumption
|refine zB ?_
|refine zC ?_
|refine zI ?_
|refine zY ?_
|apply aw_1
 conv=>whnf
 refine ⟨?_,trivial⟩
|apply s_1
 conv=>whnf;arg 1;arg 4;arg 3;whnf
 refine ⟨?_,?_⟩
|apply zd rfl
 . conv=>lhs;whnf
 . conv=>lhs;whnf
 . first | exact hbl
|apply zX rfl rfl rfl
 . conv=>lhs;whnf
 . conv=>lhs;whnf;arg 1;whnf
 . conv=>lhs;whnf;arg 1;whnf
 . exact ⟨by kernel_rfl,by kernel_rfl⟩
 . rfl
|apply zCD rfl rfl
 . conv=>lhs;whnf
 . first | exact zw | (conv=>lhs;whnf;arg 1;whnf)
 . first | exact fun _=>rfl | (intro _;kernel_rfl)
 . conv=>lhs;whnf
 . conv=>lhs;whnf;arg 1;whnf
 . conv=>lhs;whnf
|apply zDb rfl rfl
 . conv=>lhs;whnf
 . first | exact zw | (conv=>lhs;whnf;arg 1;whnf)
 . conv=>lhs;whnf;arg 1;whnf
 . rfl
 . rfl
|exact trivial)
     all_goals first
      |exact za (by omega)
      |exact zBL hq
      |exact zBq (by omega) (by omega)
      |((simp only [ByteArray.size_append,zS,zh,List.size_toArray,List.length_append,List.length_cons,List.length_nil,maxLen,Nat.reduceAdd,Int.toNat_natCast];omega);done)
      |skip
     refine zE (j':=j2-1) (by omega) ⟨q+1,by omega,Sub.live ⟨rfl,?_,rfl,rfl,rfl,trivial⟩ ⟨rfl,?_,trivial⟩⟩
     . show V.own 3 _ (zl _ a.length++zl _ q++[.str (bs _)])=V.own 3 _ (zl _ a.length++zl _ (q+1))
       rw [zn,List.append_assoc]
     . show some (Res.tok _ ((zl _ a.length++zl _ q).length+1))=some (Res.tok _ (zl _ a.length++zl _ (q+1)).length)
       rw [zn,<- List.append_assoc,List.length_append (bs:=[_])];rfl
   . have f2:decide ((q:Int)<(b.length:Nat))=false:=decide_eq_false (by omega)
     obtain rfl:q=b.length:=by omega
     repeat' (first
|apply zH
 . conv=>lhs;whnf
 . assumption
|refine zB ?_
|refine zC ?_
|refine zI ?_
|apply aw_1
 conv=>whnf
 refine ⟨?_,trivial⟩
|apply s_1
 conv=>whnf;arg 1;arg 4;arg 3;whnf
 refine ⟨?_,?_⟩
|apply zd rfl
 . conv=>lhs;whnf
 . conv=>lhs;whnf
 . first | exact hj
|refine zN ?_
|refine zJ rfl ?_
|refine zK ?_
|refine zD ?_
|refine ⟨_,by conv=>lhs;whnf;arg 2;whnf,?_⟩;conv=>rhs;whnf
|exact trivial)
def jr (ts:List (List UInt8)) (i:Nat):List UInt8:=Lib.join (ts.take i) [10]
theorem jr_succ {ts:List (List UInt8)} {i:Nat} {t:List UInt8} (ht:ts[i]? = some t):jr ts (i+1)=jr ts i++((if i=0 then [] else [10])++t):=by
 obtain ⟨hi,hg⟩:=List.getElem?_eq_some_iff.1 ht
 unfold jr
 rw [List.take_succ_eq_append_getElem hi,hg]
 by_cases h:i=0
 . subst h
   simp [Lib.join_nil,Lib.join_one]
 . rw [if_neg h,zEK _ _ _ (fun e=>by have h2:=congrArg List.length e;rw [List.length_take] at h2;simp only [List.length_nil] at h2;omega)]
   simp
theorem jr_le (ts:List (List UInt8)) (i:Nat):(jr ts i).length<=(Lib.join ts [10]).length:=zFK ts [10] i
def blks (K f:Nat) (a b:List D):List (List UInt8):=a.map (opB K f)++b.map (zCT K f)
theorem blks_op {K f:Nat} {a b:List D} {i:Nat} (h:i<a.length):(blks K f a b)[i]? = some (opB K f (gD a i)):=by
 unfold blks
 rw [List.getElem?_append_left (by simpa using h),List.getElem?_map,List.getElem?_eq_getElem h,zAQ h];rfl
theorem blks_fr {K f:Nat} {a b:List D} {i:Nat} (h:i<b.length):(blks K f a b)[a.length+i]? = some (zCT K f (gD b i)):=by
 unfold blks
 rw [List.getElem?_append_right (by simp),List.length_map,Nat.add_sub_cancel_left,List.getElem?_map,List.getElem?_eq_getElem h,zAQ h];rfl
theorem opB_eq (K f:Nat) (o:D):opB K f o=opT K o++([10]++(selsT K f 1 (o.f 3).l++[125,10])):=by
 unfold opB zDE zAl
 simp [Lib.repeatL]
theorem zK0 (K f:Nat) (o:D):zCT K f o=[102,114,97,103,109,101,110,116,32]++(tx (o.f 0).s++([32,111,110,32]++(tx (o.f 1).s++([32,123,10]++(selsT K f 1 (o.f 2).l++[125,10]))))):=by
 unfold zCT zDE zE9 zAl
 simp [Lib.repeatL]
theorem zG9 {a b:ByteArray} (h:tx a=tx b):V.c (.string a)=V.c (.string b):=by
 have:a=b:=by rw [<- zA8 a,h,zA8]
 rw [this]
noncomputable def HqO (K f:Nat) (a b:List D) (i:Nat):Vst 72:=
 stS 72 [(1,.bx 1 0),(3,.c (.string (bs (jr (blks K f a b) i)))),(4,.c (.int .i64 i))] [(1,.box 41 [.sl 57 a,.sl 116 b])]
noncomputable def HqF (K f:Nat) (a b:List D) (i:Nat):Vst 72:=
 stS 72 [(1,.bx 1 0),(3,.c (.string (bs (jr (blks K f a b) (a.length+i))))),(5,.c (.int .i64 i))] [(1,.box 41 [.sl 57 a,.sl 116 b])]
theorem printR_ac (K f:Nat) (a b:List D) (h:DocOk K f (.obj [.list a,.list b])):AC EN Tryz.prog 29 [.agg [.sl 57 a,.sl 116 b]] (.c (.string (bs (docT K (f+1) (.obj [.list a,.list b]))))):=by
 have hbk:bulkD (.obj [.list a,.list b])=bulkL a+bulkL b+3:=by simp [bulkD,bulkL];omega
 have hb0:=h.bulk
 have hdp:=h.deep
 have hla:=zAK a
 have hlb:=zAK b
 have hdl:=zFN K f _ h.wide hdp
 have hdoc:docT K (f+1) (.obj [.list a,.list b])=Lib.join (blks K (f+1) a b) [10]:=rfl
 have hjr : ∀ i,(jr (blks K (f+1) a b) i).length<=1274*8388608:=fun i=>by
  have:=jr_le (blks K (f+1) a b) i
  rw [<- hdoc] at this
  omega
 have hend:jr (blks K (f+1) a b) (a.length+b.length)=docT K (f+1) (.obj [.list a,.list b]):=by
  rw [hdoc]
  unfold jr
  rw [List.take_of_length_le (by simp [blks])]
 refine zG 72 Tryz.func29 rfl rfl rfl rfl ?_
 intro s w he
 repeat' (first
|refine zB ?_
|refine zC ?_
|refine zI ?_
|apply aw_1
 conv=>whnf
 refine ⟨?_,trivial⟩
|apply s_1
 conv=>whnf;arg 1;arg 4;arg 3;whnf
 refine ⟨?_,?_⟩
|apply zAE rfl rfl rfl rfl
 . conv=>lhs;whnf;arg 1;whnf
 . rfl
|exact trivial)
 refine zi (fun j st => ∃ i,i+j=a.length/\Sub (cx EN Tryz.prog s w he) st (HqO K (f+1) a b i)) a.length ⟨0,by omega,Sub.live ⟨rfl,rfl,rfl,trivial⟩ ⟨rfl,trivial⟩⟩ ?_
 rintro j st ⟨i,hij,hs2⟩
 refine zf hs2 ?_
 clear hs2
 have hji:=hjr i
 by_cases hi:i<a.length
 . have f0:decide ((i:Int)<(a.length:Nat))=true:=decide_eq_true (by omega)
   obtain ⟨o1,o2,o3,o4⟩:=h.op hi
   have hn:=zy ((gD a i).f 1)
   have hnn:=wD_f (gD a i) 1
   have hn3:=wD_f (gD a i) 3
   have hl3:=zr ((gD a i).f 3)
   have hbd:=zW (gD a i)
   have hhd:=opHeadR_ac K (gD a i) o1 (by omega)
   have hol:=zJT K (gD a i) o3
   have hv2:=wD_f (gD a i) 2
   have hl2:=zr ((gD a i).f 2)
   have hsl:=zCV K (f+1) 1 ((gD a i).f 3).l fun q=>(o3.f 3).l q
   have hs2:(4*(1+(f+1))+70)*bulkL ((gD a i).f 3).l<=1274*8388608:=Nat.mul_le_mul (by omega) (by omega)
   have hse:=zKO K f ((gD a i).f 3).l o2 (fun q=>(o3.f 3).l q) (by omega) hdp
   have hstep:=jr_succ (blks_op (K:=K) (f:=f+1) (b:=b) hi)
   by_cases h0:i=0
   . have f1:decide ((i:Int)>0)=false:=decide_eq_false (by omega)
     rw [if_pos h0,List.nil_append,opB_eq] at hstep
     repeat' (first
|apply zM
 . conv=>lhs;whnf
 . assumption
|apply zH
 . conv=>lhs;whnf
 . assumption
|refine zB ?_
|refine zC ?_
|refine zI ?_
|refine zY ?_
|apply aw_1
 conv=>whnf
 refine ⟨?_,trivial⟩
|apply s_1
 conv=>whnf;arg 1;arg 4;arg 3;whnf
 refine ⟨?_,?_⟩
|apply zAD (by kernel_rfl) (by kernel_rfl)
|apply zAq
|apply zAp rfl
 . conv=>lhs;whnf
 . conv=>lhs;whnf;arg 2;whnf
|apply zA9 rfl
 . conv=>lhs;whnf
 . conv=>lhs;whnf
 . first | exact hhd | exact hse
|exact zj
|exact zx
|exact (1000000:Nat)
|exact trivial)
     all_goals first
      |exact za (by omega)
      |exact zBL hi
      |((simp only [ByteArray.size_append,zS,zh,List.size_toArray,List.length_append,List.length_cons,List.length_nil,maxLen,Nat.reduceAdd,Int.toNat_natCast];omega);done)
      |skip
     refine zE (j':=j-1) (by omega) ⟨i+1,by omega,Sub.live ⟨rfl,?_,rfl,trivial⟩ ⟨rfl,trivial⟩⟩
     refine zG9 ?_
     rw [zAX,hstep]
     simp only [zp,zAX,List.append_assoc];rfl
   . have f1:decide ((i:Int)>0)=true:=decide_eq_true (by omega)
     rw [if_neg h0,opB_eq] at hstep
     repeat' (first
|apply zM
 . conv=>lhs;whnf
 . assumption
|refine zB ?_
|refine zC ?_
|refine zI ?_
|refine zY ?_
|apply aw_1
 conv=>whnf
 refine ⟨?_,trivial⟩
|apply s_1
 conv=>whnf;arg 1;arg 4;arg 3;whnf
 refine ⟨?_,?_⟩
|apply zAD (by kernel_rfl) (by kernel_rfl)
|apply zAq
|apply zAp rfl
 . conv=>lhs;whnf
 . conv=>lhs;whnf;arg 2;whnf
|apply zA9 rfl
 . conv=>lhs;whnf
 . conv=>lhs;whnf
 . first | exact hhd | exact hse
|exact zj
|exact zx
|exact (1000000:Nat)
|exact trivial)
     all_goals first
      |exact za (by omega)
      |exact zBL hi
      |((simp only [ByteArray.size_append,zS,zh,List.size_toArray,List.length_append,List.length_cons,List.length_nil,maxLen,Nat.reduceAdd,Int.toNat_natCast];omega);done)
      |skip
     refine zE (j':=j-1) (by omega) ⟨i+1,by omega,Sub.live ⟨rfl,?_,rfl,trivial⟩ ⟨rfl,trivial⟩⟩
     refine zG9 ?_
     rw [zAX,hstep]
     simp only [zp,zAX,List.append_assoc];rfl
 . have f0:decide ((i:Int)<(a.length:Nat))=false:=decide_eq_false (by omega)
   obtain rfl:i=a.length:=by omega
   repeat' (first
|apply zH
 . conv=>lhs;whnf
 . assumption
|refine zB ?_
|refine zC ?_
|refine zI ?_
|apply aw_1
 conv=>whnf
 refine ⟨?_,trivial⟩
|apply s_1
 conv=>whnf;arg 1;arg 4;arg 3;whnf
 refine ⟨?_,?_⟩
|refine zN ?_
|refine zJ rfl ?_
|refine zK ?_
|exact trivial)
   refine zi (fun j st => ∃ i,i+j=b.length/\Sub (cx EN Tryz.prog s w he) st (HqF K (f+1) a b i)) b.length ⟨0,by omega,Sub.live ⟨rfl,rfl,rfl,trivial⟩ ⟨rfl,trivial⟩⟩ ?_
   rintro j2 st2 ⟨q,hqj,hs3⟩
   refine zf hs3 ?_
   clear hs3
   have hjq:=hjr (a.length+q)
   by_cases hq:q<b.length
   . have f2:decide ((q:Int)<(b.length:Nat))=true:=decide_eq_true (by omega)
     obtain ⟨o2,o3,o4⟩:=h.frg hq
     have hn0:=zy ((gD b q).f 0)
     have hn1:=zy ((gD b q).f 1)
     have hf0:=wD_f (gD b q) 0
     have hf1:=wD_f (gD b q) 1
     have hf2:=wD_f (gD b q) 2
     have hl2:=zr ((gD b q).f 2)
     have hbd:=zW (gD b q)
     have hsl:=zCV K (f+1) 1 ((gD b q).f 2).l fun z=>(o3.f 2).l z
     have hs2:(4*(1+(f+1))+70)*bulkL ((gD b q).f 2).l<=1274*8388608:=Nat.mul_le_mul (by omega) (by omega)
     have hse:=zKO K f ((gD b q).f 2).l o2 (fun z=>(o3.f 2).l z) (by omega) hdp
     have hstep:=jr_succ (blks_fr (K:=K) (f:=f+1) (a:=a) hq)
     by_cases h0:a.length+q=0
     . have f1:decide ((a.length:Int)+(q:Int)>0)=false:=decide_eq_false (by omega)
       rw [if_pos h0,List.nil_append,zK0] at hstep
       repeat' (first
|apply zM
 . conv=>lhs;whnf
 . assumption
|apply zH
 . conv=>lhs;whnf
 . assumption
|refine zB ?_
|refine zC ?_
|refine zI ?_
|refine zY ?_
|apply aw_1
 conv=>whnf
 refine ⟨?_,trivial⟩
|apply s_1
 conv=>whnf;arg 1;arg 4;arg 3;whnf
 refine ⟨?_,?_⟩
|apply zX rfl rfl rfl
 . conv=>lhs;whnf
 . conv=>lhs;whnf;arg 1;whnf
 . conv=>lhs;whnf;arg 1;whnf
 . exact ⟨by kernel_rfl,by kernel_rfl⟩
 . rfl
|apply zAD (by kernel_rfl) (by kernel_rfl)
|apply zAq
|apply zAp rfl
 . conv=>lhs;whnf
 . conv=>lhs;whnf;arg 2;whnf
|apply zA9 rfl
 . conv=>lhs;whnf
 . conv=>lhs;whnf
 . first | exact hse
|exact zj
|exact zx
|exact (1000000:Nat)
|exact trivial)
       all_goals first
        |exact za (by omega)
        |exact zBL hq
        |((simp only [ByteArray.size_append,zS,zh,List.size_toArray,List.length_append,List.length_cons,List.length_nil,maxLen,Nat.reduceAdd,Int.toNat_natCast];omega);done)
        |skip
       refine zE (j':=j2-1) (by omega) ⟨q+1,by omega,Sub.live ⟨rfl,?_,rfl,trivial⟩ ⟨rfl,trivial⟩⟩
       refine zG9 ?_
       rw [zAX,show a.length+(q+1)=a.length+q+1 from rfl,hstep]
       simp only [zp,zAX,List.append_assoc];rfl
     . have f1:decide ((a.length:Int)+(q:Int)>0)=true:=decide_eq_true (by omega)
       rw [if_neg h0,zK0] at hstep
       repeat' (first
|apply zM
 . conv=>lhs;whnf
 . assumption
|refine zB ?_
|refine zC ?_
|refine zI ?_
|refine zY ?_
|apply aw_1
 conv=>whnf
 refine ⟨?_,trivial⟩
|apply s_1
 conv=>whnf;arg 1;arg 4;arg 3;whnf
 refine ⟨?_,?_⟩
|apply zX rfl rfl rfl
 . conv=>lhs;whnf
 . conv=>lhs;whnf;arg 1;whnf
 . conv=>lhs;whnf;arg 1;whnf
 . exact ⟨by kernel_rfl,by kernel_rfl⟩
 . rfl
|apply zAD (by kernel_rfl) (by kernel_rfl)
|apply zAq
|apply zAp rfl
 . conv=>lhs;whnf
 . conv=>lhs;whnf;arg 2;whnf
|apply zA9 rfl
 . conv=>lhs;whnf
 . conv=>lhs;whnf
 . first | exact hse
|exact zj
|exact zx
|exact (1000000:Nat)
|exact trivial)
       all_goals first
        |exact za (by omega)
        |exact zBL hq
        |((simp only [ByteArray.size_append,zS,zh,List.size_toArray,List.length_append,List.length_cons,List.length_nil,maxLen,Nat.reduceAdd,Int.toNat_natCast];omega);done)
        |skip
       refine zE (j':=j2-1) (by omega) ⟨q+1,by omega,Sub.live ⟨rfl,?_,rfl,trivial⟩ ⟨rfl,trivial⟩⟩
       refine zG9 ?_
       rw [zAX,show a.length+(q+1)=a.length+q+1 from rfl,hstep]
       simp only [zp,zAX,List.append_assoc];rfl
   . have f2:decide ((q:Int)<(b.length:Nat))=false:=decide_eq_false (by omega)
     obtain rfl:q=b.length:=by omega
     repeat' (first
|apply zH
 . conv=>lhs;whnf
 . assumption
|refine zB ?_
|refine zC ?_
|refine zI ?_
|apply aw_1
 conv=>whnf
 refine ⟨?_,trivial⟩
|apply s_1
 conv=>whnf;arg 1;arg 4;arg 3;whnf
 refine ⟨?_,?_⟩
|refine zN ?_
|refine zJ rfl ?_
|refine zK ?_
|refine zD ?_
|refine ⟨_,by conv=>lhs;whnf;arg 2;whnf,?_⟩;conv=>rhs;whnf
|exact trivial)
     rw [hend]
end
section
open Go.RowKit
set_option linter.unusedSectionVars false
attribute [local irreducible] wpList Calls Code.wp AW AWo OpOk seqK zAG zAP loopK endK AC zt Yld Sub
attribute [local irreducible] ACB ACX ACE absLexG YldG absLexH
theorem ind_no : ∀ (u cur:List UInt8),(∀ c∈u,c≠10)->indG cur u=if cur++u=[] then [] else [32,32]++(cur++u)++[10]
 |[],cur,_=>by rw [indG.eq_1,List.append_nil]
 |c::u,cur,h=>by
  rw [indG.eq_2,if_neg (h c (by simp)),ind_no u (cur++[c]) fun x hx=>h x (by simp [hx])]
  simp
theorem zKs : ∀ (a cur b:List UInt8),(∀ c∈a,c≠10)->indG cur (a++10::b)=[32,32]++(cur++a)++[10]++indG [] b
 |[],cur,b,_=>by
  show indG cur (10::b)=_
  rw [indG.eq_2,if_pos rfl,List.append_nil]
 |c::a,cur,b,h=>by
  show indG cur (c::(a++10::b))=_
  rw [indG.eq_2,if_neg (h c (by simp)),zKs a (cur++[c]) b fun x hx=>h x (by simp [hx])]
  simp
def docF31 (kind:Int) (f:D):List UInt8:=docT 8388608 (24+1) (.obj [.list (fetchO 8 f kind),.list []])
theorem zKE (s0 f:D) (kind:Int) (h:CpP 8 (f.f 6).l) (hok:DocOk 8388608 24 (.obj [.list (fetchO 8 f kind),.list []])) :
 AC EN Tryz.prog 21 [.agg (cellsV Tryz.prog 12 29 s0),.agg (cellsV Tryz.prog 12 34 f),.c (.int .i64 kind)] (.c (.string (bs (docF31 kind f)))):=by
 have h1:=zIZ EN 8 s0 f kind h
 have h2:AC EN Tryz.prog 28 [.agg [.sl 57 (fetchO 8 f kind),.sl 116 []]] (.c (.string (bs (docF31 kind f)))):=printP_ac _ _ _ _ hok
 refine zG 12 Tryz.func21 rfl rfl rfl rfl ?_
 intro s w he
 repeat' (first
|refine zB ?_
|refine zC ?_
|refine zI ?_
|apply aw_1
 conv=>whnf
 refine ⟨?_,trivial⟩
|apply s_1
 conv=>whnf;arg 1;arg 4;arg 3;whnf
 refine ⟨?_,?_⟩
|apply zd rfl
 . conv=>lhs;whnf
 . conv=>lhs;whnf
 . first | exact h1 | exact h2
|apply zAE rfl rfl rfl rfl
 . conv=>lhs;whnf;arg 1;whnf
 . rfl
|refine zD ?_
|refine ⟨_,by conv=>lhs;whnf;arg 2;whnf,?_⟩;conv=>rhs;whnf
|exact trivial)
theorem textR31_ac (s0 f:D) (kind:Int) (h:CpP 8 (f.f 6).l) (hok:DocOk 8388608 24 (.obj [.list (fetchO 8 f kind),.list []])) :
 AC EN Tryz.prog 22 [.agg (cellsV Tryz.prog 12 29 s0),.agg (cellsV Tryz.prog 12 34 f),.c (.int .i64 kind)] (.c (.string (bs (docF31 kind f)))):=by
 have h1:=zF0 EN 7 s0 f kind h
 have h2:AC EN Tryz.prog 29 [.agg [.sl 57 (fetchO 8 f kind),.sl 116 []]] (.c (.string (bs (docF31 kind f)))):=printR_ac _ _ _ _ hok
 refine zG 12 Tryz.func22 rfl rfl rfl rfl ?_
 intro s w he
 repeat' (first
|refine zB ?_
|refine zC ?_
|refine zI ?_
|apply aw_1
 conv=>whnf
 refine ⟨?_,trivial⟩
|apply s_1
 conv=>whnf;arg 1;arg 4;arg 3;whnf
 refine ⟨?_,?_⟩
|apply zd rfl
 . conv=>lhs;whnf
 . conv=>lhs;whnf
 . first | exact h1 | exact h2
|apply zAE rfl rfl rfl rfl
 . conv=>lhs;whnf;arg 1;whnf
 . rfl
|refine zD ?_
|refine ⟨_,by conv=>lhs;whnf;arg 2;whnf,?_⟩;conv=>rhs;whnf
|exact trivial)
theorem show_cons (gs:List D) (doc:D->List UInt8) {fs:List D} {i:Nat} (h:i<fs.length):zGE gs doc (fs.drop i) i=zIO gs i (gD fs i)++indT (doc (gD fs i))++zGE gs doc (fs.drop (i+1)) (i+1):=by
 rw [List.drop_eq_getElem_cons h,zAQ h]
 rfl
structure PlanOk (gs:List D) (fs:List D) (kind:Int):Prop where
 n:fs.length<=12
 fo : ∀ i,i<fs.length->FetOk gs (gD fs i)
 cp : ∀ i,i<fs.length->CpP 8 ((gD fs i).f 6).l
 dk : ∀ i,i<fs.length->DocOk 8388608 24 (.obj [.list (fetchO 8 (gD fs i) kind),.list []])
 dl : ∀ i,i<fs.length->(docF31 kind (gD fs i)).length<=20000000000
 sl:(zGE gs (docF31 kind) fs 0).length<=10000000000000
theorem bff31 {b:Bool} (h:b=false):(b==false)=true:=by rw [h];rfl
theorem pos31 (l:List D):decide (((l.length:Nat):Int)>0)=decide (0<l.length):=by rw [decide_eq_decide];omega
noncomputable def HLg (l:List D) (k i:Nat):Vst 36:=stS 36 [(0,.sl 73 l),(1,.c (.int .i64 (k:Int))),(5,.c (.int .i64 (i:Int)))] []
theorem zGe (E0:Ge) : ∀ (k:Nat) (l:List D),k<=100->AC E0 Tryz.prog 39 [.sl 73 l,.c (.int .i64 (k:Int))] (.c (.bool (largeB k l)))
 |0,l,_=>by
  refine zG 36 Tryz.func39 rfl rfl rfl rfl ?_
  intro s w he
  repeat' (first
|apply zM
 . conv=>lhs;whnf
 . decide +kernel
|refine zB ?_
|refine zC ?_
|refine zI ?_
|apply aw_1
 conv=>whnf
 refine ⟨?_,trivial⟩
|apply ze rfl rfl
 . conv=>lhs;whnf
 . conv=>lhs;whnf
 . first | decide +kernel
|apply s_1
 conv=>whnf;arg 1;arg 4;arg 3;whnf
 refine ⟨?_,?_⟩
|refine zO ?_
|refine zD ?_
|refine ⟨_,by conv=>lhs;whnf;arg 2;whnf,?_⟩;conv=>rhs;whnf
|exact trivial)
  all_goals rfl
 |k+1,l,hk=>by
  have f0:decide (((k+1:Nat):Int)<=0)=false:=decide_eq_false (by omega)
  have f1:=bff31 f0
  have ih:=fun (l:List D)=>zGe E0 k l (by omega)
  have e1:(((k+1:Nat):Int)-1)=(k:Int):=by omega
  rw [<- e1] at ih
  by_cases hl:60<l.length
  . have f2:decide ((l.length:Int)>60)=true:=decide_eq_true (by omega)
    have e:largeB (k+1) l=true:=by unfold largeB;rw [decide_eq_true hl];rfl
    rw [e]
    refine zG 36 Tryz.func39 rfl rfl rfl rfl ?_
    intro s w he
    repeat' (first
|apply zM
 . conv=>lhs;whnf
 . assumption
|refine zB ?_
|refine zC ?_
|refine zI ?_
|apply aw_1
 conv=>whnf
 refine ⟨?_,trivial⟩
|apply zZ rfl rfl
 . conv=>lhs;whnf
 . conv=>lhs;whnf
 . first | exact bF1 ‹_› | exact bF2 ‹_›
|apply s_1
 conv=>whnf;arg 1;arg 4;arg 3;whnf
 refine ⟨?_,?_⟩
|refine zO ?_
|refine zD ?_
|refine ⟨_,by conv=>lhs;whnf;arg 2;whnf,?_⟩;conv=>rhs;whnf
|exact trivial)
    all_goals rfl
  . have f2:decide ((l.length:Int)>60)=false:=decide_eq_false (by omega)
    have e:largeB (k+1) l=l.any fun p=>decide (0<(p.f 7).l.length)&&largeB k (p.f 7).l:=by
     show (decide (60<l.length)||_)=_
     rw [decide_eq_false hl,Bool.false_or]
    rw [e]
    refine zG 36 Tryz.func39 rfl rfl rfl rfl ?_
    intro s w he
    repeat' (first
|apply zH
 . conv=>lhs;whnf
 . assumption
|refine zB ?_
|refine zC ?_
|refine zI ?_
|apply aw_1
 conv=>whnf
 refine ⟨?_,trivial⟩
|apply zZ rfl rfl
 . conv=>lhs;whnf
 . conv=>lhs;whnf
 . first | exact bF1 ‹_› | exact bF2 ‹_›
|apply s_1
 conv=>whnf;arg 1;arg 4;arg 3;whnf
 refine ⟨?_,?_⟩
|exact trivial)
    refine zi (fun j st => ∃ i,i+j=l.length/\(∀ m,m<i->(decide (0<((gD l m).f 7).l.length)&&largeB k ((gD l m).f 7).l)=false)/\Sub (cx E0 Tryz.prog s w he) st (HLg l (k+1) i)) l.length ⟨0,by omega,fun m hm=>absurd hm (Nat.not_lt_zero m),Sub.live ⟨rfl,rfl,rfl,trivial⟩ trivial⟩ ?_
    rintro j st ⟨i,hij,hno,hs2⟩
    refine zf hs2 ?_
    clear hs2
    by_cases hi:i<l.length
    . have g0:decide ((i:Int)<(l.length:Nat))=true:=decide_eq_true (by omega)
      have ih2:=ih ((gD l i).f 7).l
      have hp:decide ((((gD l i).f 7).l.length:Int)>0)=decide (0<((gD l i).f 7).l.length):=pos31 _
      rcases h1:decide (0<((gD l i).f 7).l.length) with _ | _
      . rw [h1] at hp
        have g1:=zFA hp
        repeat' (first
|apply zM
 . conv=>lhs;whnf
 . assumption
|apply zH
 . conv=>lhs;whnf
 . assumption
|refine zB ?_
|refine zC ?_
|refine zI ?_
|refine zY ?_
|apply aw_1
 conv=>whnf
 refine ⟨?_,trivial⟩
|apply zZ rfl rfl
 . conv=>lhs;whnf
 . conv=>lhs;whnf
 . first | exact bF1 ‹_› | exact bF2 ‹_›
|apply s_1
 conv=>whnf;arg 1;arg 4;arg 3;whnf
 refine ⟨?_,?_⟩
|apply zo rfl
 . conv=>lhs;whnf
 . conv=>lhs;whnf
 . first | rfl | assumption
|exact trivial)
        all_goals first
         |exact za (by omega)
         |exact at31 hi
         |skip
        refine zE (j':=j-1) (by omega) ⟨i+1,by omega,fun m hm => ?_,Sub.live ⟨rfl,rfl,rfl,trivial⟩ trivial⟩
        by_cases em:m=i
        . subst em;rw [h1];rfl
        . exact hno m (by omega)
      . rw [h1] at hp
        have g1:=zCv hp
        rcases h2:largeB k ((gD l i).f 7).l with _ | _
        . rw [h2] at ih2
          repeat' (first
|apply zM
 . conv=>lhs;whnf
 . assumption
|apply zH
 . conv=>lhs;whnf
 . assumption
|refine zB ?_
|refine zC ?_
|refine zI ?_
|refine zY ?_
|apply aw_1
 conv=>whnf
 refine ⟨?_,trivial⟩
|apply ze rfl rfl
 . conv=>lhs;whnf
 . conv=>lhs;whnf
 . first | exact bT1 ‹_› | exact bT2 ‹_›
|apply s_1
 conv=>whnf;arg 1;arg 4;arg 3;whnf
 refine ⟨?_,?_⟩
|apply zF rfl
 . conv=>lhs;whnf
 . conv=>lhs;whnf
 . first | rfl | assumption
 . conv=>lhs;whnf;arg 2;whnf
|apply zm rfl
 . conv=>lhs;whnf
 . conv=>lhs;whnf
 . first | rfl | assumption
 . conv=>lhs;whnf
 . first | exact ih2
|exact trivial)
          all_goals first
           |exact za (by omega)
           |exact at31 hi
           |skip
          refine zE (j':=j-1) (by omega) ⟨i+1,by omega,fun m hm => ?_,Sub.live ⟨rfl,rfl,rfl,trivial⟩ trivial⟩
          by_cases em:m=i
          . subst em;rw [h2,Bool.and_false]
          . exact hno m (by omega)
        . rw [h2] at ih2
          repeat' (first
|apply zM
 . conv=>lhs;whnf
 . assumption
|refine zB ?_
|refine zC ?_
|refine zI ?_
|apply aw_1
 conv=>whnf
 refine ⟨?_,trivial⟩
|apply ze rfl rfl
 . conv=>lhs;whnf
 . conv=>lhs;whnf
 . first | exact bT1 ‹_› | exact bT2 ‹_›
|apply s_1
 conv=>whnf;arg 1;arg 4;arg 3;whnf
 refine ⟨?_,?_⟩
|apply zF rfl
 . conv=>lhs;whnf
 . conv=>lhs;whnf
 . first | rfl | assumption
 . conv=>lhs;whnf;arg 2;whnf
|apply zm rfl
 . conv=>lhs;whnf
 . conv=>lhs;whnf
 . first | rfl | assumption
 . conv=>lhs;whnf
 . first | exact ih2
|refine zO ?_
|refine zT ?_
|refine zAC ?_
|refine zD ?_
|refine ⟨_,by conv=>lhs;whnf;arg 2;whnf,?_⟩;conv=>rhs;whnf
|exact trivial)
          all_goals first
           |exact za (by omega)
           |exact at31 hi
           |skip
          refine congrArg (fun b=>V.c (.bool b)) ?_
          refine (List.any_eq_true.2 ⟨gD l i,by rw [zAQ hi];exact List.getElem_mem hi,?_⟩)
          rw [h1,h2];rfl
    . have g0:decide ((i:Int)<(l.length:Nat))=false:=decide_eq_false (by omega)
      repeat' (first
|apply zH
 . conv=>lhs;whnf
 . assumption
|refine zB ?_
|refine zC ?_
|refine zI ?_
|apply aw_1
 conv=>whnf
 refine ⟨?_,trivial⟩
|apply s_1
 conv=>whnf;arg 1;arg 4;arg 3;whnf
 refine ⟨?_,?_⟩
|refine zN ?_
|refine zJ rfl ?_
|refine zK ?_
|refine zD ?_
|refine ⟨_,by conv=>lhs;whnf;arg 2;whnf,?_⟩;conv=>rhs;whnf
|exact trivial)
      refine congrArg (fun b=>V.c (.bool b)) ?_
      rw [List.any_eq_false]
      intro x hx
      obtain ⟨m,hm,rfl⟩:=List.getElem_of_mem hx
      rw [<- zAQ hm,hno m (by omega)]
      decide
def namS (d:D):Bool:=nameB d.s
def namH (h:D):Bool:=nameB (h.f 0).s&&nameB (h.f 1).s
def zFq (gs:List D) (f:D):Bool:=gs.all namS&&(f.f 4).l.all namS&&(f.f 2).l.all namH&&nameB (f.f 3).s
theorem all_no {l:List D} {p:D->Bool} {i:Nat} (hi:i<l.length) (h:p (gD l i)=false):l.all p=false:=by
 rw [List.all_eq_false]
 exact ⟨gD l i,by rw [zAQ hi];exact List.getElem_mem hi,by rw [h];decide⟩
theorem zJ1 {l:List D} {p:D->Bool} (h : ∀ m,m<l.length->p (gD l m)=true):l.all p=true:=by
 rw [List.all_eq_true]
 intro x hx
 obtain ⟨m,hm,rfl⟩:=List.getElem_of_mem hx
 rw [<- zAQ hm]
 exact h m hm
structure SzOk (gs:List D) (f:D):Prop where
 lg:gs.length<=1000000000
 lk:(f.f 4).l.length<=1000000000
 lp:(f.f 2).l.length<=1000000000
 sg : ∀ j,j<gs.length->(gD gs j).s.size<=1000000000
 sk : ∀ j,j<(f.f 4).l.length->(gD (f.f 4).l j).s.size<=1000000000
 sp : ∀ j,j<(f.f 2).l.length->((gD (f.f 2).l j).f 0).s.size<=1000000000/\((gD (f.f 2).l j).f 1).s.size<=1000000000
 st:(f.f 3).s.size<=1000000000
noncomputable def HNm (s f:D) (c:Nat) (i:Nat):Vst 64:=
 stS 64 [(2,.bx 2 0),(3,.bx 3 0),(c,.c (.int .i64 (i:Int)))] [(2,.box 29 (cellsV Tryz.prog 12 29 s)),(3,.box 34 (cellsV Tryz.prog 12 34 f))]
theorem named31_ac (s0 f:D) (h:SzOk (s0.f 0).l f):AC EN Tryz.prog 40 [.agg (cellsV Tryz.prog 12 29 s0),.agg (cellsV Tryz.prog 12 34 f)] (.c (.bool (zFq (s0.f 0).l f))):=by
 have hlg:=h.lg
 have hlk:=h.lk
 have hlp:=h.lp
 have hnt:=zAa (f.f 3).s h.st
 refine zG 64 Tryz.func40 rfl rfl rfl rfl ?_
 intro s w he
 repeat' (first
|refine zB ?_
|refine zC ?_
|refine zI ?_
|apply aw_1
 conv=>whnf
 refine ⟨?_,trivial⟩
|apply s_1
 conv=>whnf;arg 1;arg 4;arg 3;whnf
 refine ⟨?_,?_⟩
|apply zAE rfl rfl rfl rfl
 . conv=>lhs;whnf;arg 1;whnf
 . rfl
|exact trivial)
 refine zi (fun j st => ∃ i,i+j=(s0.f 0).l.length/\(∀ m,m<i->namS (gD (s0.f 0).l m)=true)/\Sub (cx EN Tryz.prog s w he) st (HNm s0 f 5 i)) (s0.f 0).l.length ⟨0,by omega,fun m hm=>absurd hm (Nat.not_lt_zero m),Sub.live ⟨rfl,rfl,rfl,trivial⟩ ⟨rfl,rfl,trivial⟩⟩ ?_
 rintro j st ⟨i,hij,hno,hs2⟩
 refine zf hs2 ?_
 clear hs2
 by_cases hi:i<(s0.f 0).l.length
 . have f0:decide ((i:Int)<((s0.f 0).l.length:Nat))=true:=decide_eq_true (by omega)
   have hx:=zAa (gD (s0.f 0).l i).s (h.sg i hi)
   rcases h1:nameB (gD (s0.f 0).l i).s with _ | _
   . rw [h1] at hx
     repeat' (first
|apply zM
 . conv=>lhs;whnf
 . assumption
|refine zB ?_
|refine zC ?_
|refine zI ?_
|apply aw_1
 conv=>whnf
 refine ⟨?_,trivial⟩
|apply s_1
 conv=>whnf;arg 1;arg 4;arg 3;whnf
 refine ⟨?_,?_⟩
|apply zd rfl
 . conv=>lhs;whnf
 . conv=>lhs;whnf
 . first | exact hx
|refine zO ?_
|refine zT ?_
|refine zAC ?_
|refine zD ?_
|refine ⟨_,by conv=>lhs;whnf;arg 2;whnf,?_⟩;conv=>rhs;whnf
|exact trivial)
     all_goals first
      |exact at31 hi
      |(refine congrArg (fun b=>V.c (.bool b)) ?_
        unfold zFq
        rw [all_no hi h1];rfl)
   . rw [h1] at hx
     repeat' (first
|apply zM
 . conv=>lhs;whnf
 . assumption
|refine zB ?_
|refine zC ?_
|refine zI ?_
|refine zY ?_
|apply aw_1
 conv=>whnf
 refine ⟨?_,trivial⟩
|apply s_1
 conv=>whnf;arg 1;arg 4;arg 3;whnf
 refine ⟨?_,?_⟩
|apply zd rfl
 . conv=>lhs;whnf
 . conv=>lhs;whnf
 . first | exact hx
|exact trivial)
     all_goals first
      |exact za (by omega)
      |exact at31 hi
      |skip
     refine zE (j':=j-1) (by omega) ⟨i+1,by omega,fun m hm => ?_,Sub.live ⟨rfl,rfl,rfl,trivial⟩ ⟨rfl,rfl,trivial⟩⟩
     by_cases em:m=i
     . subst em;exact h1
     . exact hno m (by omega)
 have f0:decide ((i:Int)<((s0.f 0).l.length:Nat))=false:=decide_eq_false (by omega)
 have hA:=zJ1 (l:=(s0.f 0).l) (p:=namS) fun m hm=>hno m (by omega)
 repeat' (first
|apply zH
 . conv=>lhs;whnf
 . assumption
|refine zB ?_
|refine zC ?_
|refine zI ?_
|apply aw_1
 conv=>whnf
 refine ⟨?_,trivial⟩
|apply s_1
 conv=>whnf;arg 1;arg 4;arg 3;whnf
 refine ⟨?_,?_⟩
|refine zN ?_
|refine zJ rfl ?_
|refine zK ?_
|exact trivial)
 refine zi (fun j st => ∃ i,i+j=(f.f 4).l.length/\(∀ m,m<i->namS (gD (f.f 4).l m)=true)/\Sub (cx EN Tryz.prog s w he) st (HNm s0 f 6 i)) (f.f 4).l.length ⟨0,by omega,fun m hm=>absurd hm (Nat.not_lt_zero m),Sub.live ⟨rfl,rfl,rfl,trivial⟩ ⟨rfl,rfl,trivial⟩⟩ ?_
 clear hno hi hij f0
 rintro j st ⟨i,hij,hno,hs2⟩
 refine zf hs2 ?_
 clear hs2
 by_cases hi:i<(f.f 4).l.length
 . have f0:decide ((i:Int)<((f.f 4).l.length:Nat))=true:=decide_eq_true (by omega)
   have hx:=zAa (gD (f.f 4).l i).s (h.sk i hi)
   rcases h1:nameB (gD (f.f 4).l i).s with _ | _
   . rw [h1] at hx
     repeat' (first
|apply zM
 . conv=>lhs;whnf
 . assumption
|refine zB ?_
|refine zC ?_
|refine zI ?_
|apply aw_1
 conv=>whnf
 refine ⟨?_,trivial⟩
|apply s_1
 conv=>whnf;arg 1;arg 4;arg 3;whnf
 refine ⟨?_,?_⟩
|apply zd rfl
 . conv=>lhs;whnf
 . conv=>lhs;whnf
 . first | exact hx
|refine zO ?_
|refine zT ?_
|refine zAC ?_
|refine zD ?_
|refine ⟨_,by conv=>lhs;whnf;arg 2;whnf,?_⟩;conv=>rhs;whnf
|exact trivial)
     all_goals first
      |exact at31 hi
      |(refine congrArg (fun b=>V.c (.bool b)) ?_
        unfold zFq
        rw [all_no (l:=(f.f 4).l) hi h1,Bool.and_false];rfl)
   . rw [h1] at hx
     repeat' (first
|apply zM
 . conv=>lhs;whnf
 . assumption
|refine zB ?_
|refine zC ?_
|refine zI ?_
|refine zY ?_
|apply aw_1
 conv=>whnf
 refine ⟨?_,trivial⟩
|apply s_1
 conv=>whnf;arg 1;arg 4;arg 3;whnf
 refine ⟨?_,?_⟩
|apply zd rfl
 . conv=>lhs;whnf
 . conv=>lhs;whnf
 . first | exact hx
|exact trivial)
     all_goals first
      |exact za (by omega)
      |exact at31 hi
      |skip
     refine zE (j':=j-1) (by omega) ⟨i+1,by omega,fun m hm => ?_,Sub.live ⟨rfl,rfl,rfl,trivial⟩ ⟨rfl,rfl,trivial⟩⟩
     by_cases em:m=i
     . subst em;exact h1
     . exact hno m (by omega)
 have f0:decide ((i:Int)<((f.f 4).l.length:Nat))=false:=decide_eq_false (by omega)
 have hB:=zJ1 (l:=(f.f 4).l) (p:=namS) fun m hm=>hno m (by omega)
 repeat' (first
|apply zH
 . conv=>lhs;whnf
 . assumption
|refine zB ?_
|refine zC ?_
|refine zI ?_
|apply aw_1
 conv=>whnf
 refine ⟨?_,trivial⟩
|apply s_1
 conv=>whnf;arg 1;arg 4;arg 3;whnf
 refine ⟨?_,?_⟩
|refine zN ?_
|refine zJ rfl ?_
|refine zK ?_
|exact trivial)
 refine zi (fun j st => ∃ i,i+j=(f.f 2).l.length/\(∀ m,m<i->namH (gD (f.f 2).l m)=true)/\Sub (cx EN Tryz.prog s w he) st (HNm s0 f 7 i)) (f.f 2).l.length ⟨0,by omega,fun m hm=>absurd hm (Nat.not_lt_zero m),Sub.live ⟨rfl,rfl,rfl,trivial⟩ ⟨rfl,rfl,trivial⟩⟩ ?_
 clear hno hi hij f0
 rintro j st ⟨i,hij,hno,hs2⟩
 refine zf hs2 ?_
 clear hs2
 by_cases hi:i<(f.f 2).l.length
 . have f0:decide ((i:Int)<((f.f 2).l.length:Nat))=true:=decide_eq_true (by omega)
   have hx:=zAa ((gD (f.f 2).l i).f 0).s (h.sp i hi).1
   have hy:=zAa ((gD (f.f 2).l i).f 1).s (h.sp i hi).2
   rcases h1:nameB ((gD (f.f 2).l i).f 0).s with _ | _<;>rcases h2:nameB ((gD (f.f 2).l i).f 1).s with _ | _
   all_goals
    have h3:namH (gD (f.f 2).l i)=(nameB ((gD (f.f 2).l i).f 0).s&&nameB ((gD (f.f 2).l i).f 1).s):=rfl
    rw [h1,h2] at h3
    rw [h1] at hx
    rw [h2] at hy
    repeat' (first
|apply zM
 . conv=>lhs;whnf
 . assumption
|refine zB ?_
|refine zC ?_
|refine zI ?_
|refine zY ?_
|apply aw_1
 conv=>whnf
 refine ⟨?_,trivial⟩
|apply s_1
 conv=>whnf;arg 1;arg 4;arg 3;whnf
 refine ⟨?_,?_⟩
|apply zd rfl
 . conv=>lhs;whnf
 . conv=>lhs;whnf
 . first | exact hx | exact hy
|apply zm rfl
 . conv=>lhs;whnf
 . conv=>lhs;whnf
 . first | rfl | assumption
 . conv=>lhs;whnf
 . first | exact hx | exact hy
|refine zO ?_
|refine zT ?_
|refine zAC ?_
|refine zD ?_
|refine ⟨_,by conv=>lhs;whnf;arg 2;whnf,?_⟩;conv=>rhs;whnf
|exact trivial)
    all_goals first
     |exact za (by omega)
     |exact at31 hi
     |(refine congrArg (fun b=>V.c (.bool b)) ?_
       unfold zFq
       rw [all_no (l:=(f.f 2).l) hi h3,Bool.and_false];rfl)
     |skip
   refine zE (j':=j-1) (by omega) ⟨i+1,by omega,fun m hm => ?_,Sub.live ⟨rfl,rfl,rfl,trivial⟩ ⟨rfl,rfl,trivial⟩⟩
   by_cases em:m=i
   . subst em;exact h3
   . exact hno m (by omega)
 have f0:decide ((i:Int)<((f.f 2).l.length:Nat))=false:=decide_eq_false (by omega)
 have hC:=zJ1 (l:=(f.f 2).l) (p:=namH) fun m hm=>hno m (by omega)
 repeat' (first
|apply zH
 . conv=>lhs;whnf
 . assumption
|refine zB ?_
|refine zC ?_
|refine zI ?_
|apply aw_1
 conv=>whnf
 refine ⟨?_,trivial⟩
|apply s_1
 conv=>whnf;arg 1;arg 4;arg 3;whnf
 refine ⟨?_,?_⟩
|apply zd rfl
 . conv=>lhs;whnf
 . conv=>lhs;whnf
 . first | exact hnt
|refine zN ?_
|refine zJ rfl ?_
|refine zK ?_
|refine zD ?_
|refine ⟨_,by conv=>lhs;whnf;arg 2;whnf,?_⟩;conv=>rhs;whnf
|exact trivial)
 refine congrArg (fun b=>V.c (.bool b)) ?_
 unfold zFq
 rw [hA,hB,hC];rfl
def smallB (gs:List D) (f:D) (kind:Int):Bool:=decide (((gs.length:Nat):Int)<=12)&&decide ((((f.f 2).l.length:Nat):Int)<=30)&&decide ((((f.f 4).l.length:Nat):Int)<=12)&&decide ((((f.f 7).l.length:Nat):Int)<=40)&&decide (kind>=1)&&decide (kind<=3)
def fitsB (gs:List D) (f:D) (kind:Int):Bool:=smallB gs f kind && !largeB 8 (f.f 6).l&&zFq gs f&&queR (.obj [.list (fetchO 8 f kind),.list []])
theorem fits31_ac (s0 f:D) (kind:Int) (hz:SzOk (s0.f 0).l f) (hcp:largeB 8 (f.f 6).l=false->CpP 8 (f.f 6).l/\bulkL (fetchO 8 f kind)<=1000000000):AC EN Tryz.prog 14 [.agg (cellsV Tryz.prog 12 29 s0),.agg (cellsV Tryz.prog 12 34 f),.c (.int .i64 kind)] (.c (.bool (fitsB (s0.f 0).l f kind))):=by
 have h1:AC EN Tryz.prog 39 [.sl 73 (f.f 6).l,.c (.int .i64 8)] (.c (.bool (largeB 8 (f.f 6).l))):=zGe EN 8 (f.f 6).l (by decide)
 have h2:=named31_ac s0 f hz
 unfold fitsB smallB
 cases hL:largeB 8 (f.f 6).l with
 |true =>
  rw [hL] at h1
  refine zG 55 Tryz.func14 rfl rfl rfl rfl ?_
  intro s w he
  repeat' (first
|refine zB ?_
|refine zC ?_
|refine zI ?_
|apply aw_1
 conv=>whnf
 refine ⟨?_,trivial⟩
|apply ze rfl rfl
 . conv=>lhs;whnf
 . conv=>lhs;whnf
 . first | exact bT1 ‹_› | exact bT2 ‹_›
|apply zZ rfl rfl
 . conv=>lhs;whnf
 . conv=>lhs;whnf
 . first | exact bF1 ‹_› | exact bF2 ‹_›
|apply s_1
 conv=>whnf;arg 1;arg 4;arg 3;whnf
 refine ⟨?_,?_⟩
|apply zAE rfl rfl rfl rfl
 . conv=>lhs;whnf;arg 1;whnf
 . rfl
|apply zF rfl
 . conv=>lhs;whnf
 . conv=>lhs;whnf
 . first | rfl | assumption
 . conv=>lhs;whnf;arg 2;whnf
|apply zm rfl
 . conv=>lhs;whnf
 . conv=>lhs;whnf
 . first | rfl | assumption
 . conv=>lhs;whnf
 . first | exact h1
|apply zo rfl
 . conv=>lhs;whnf
 . conv=>lhs;whnf
 . first | rfl | assumption
|apply zL rfl
 . conv=>lhs;whnf
 . conv=>lhs;whnf
 . conv=>lhs;whnf;arg 2;whnf
|refine zD ?_
|refine ⟨_,by conv=>lhs;whnf;arg 2;whnf,?_⟩;conv=>rhs;whnf
|exact trivial
|intro hg)
  all_goals (simp only [beq_true] at *;simp only [*,Bool.true_and,Bool.false_and,Bool.and_false,Bool.not_true])
 |false =>
  rw [hL] at h1
  obtain ⟨hc,hb⟩:=hcp hL
  have h3:=zF0 EN 7 s0 f kind hc
  have h4:AC EN Tryz.prog 32 [.agg [.sl 57 (fetchO (7+1) f kind),.sl 116 []]] (.c (.bool (queR (.obj [.list (fetchO 8 f kind),.list []])))):=rightF_ac _ _ hb (by decide)
  refine zG 55 Tryz.func14 rfl rfl rfl rfl ?_
  intro s w he
  repeat' (first
|refine zB ?_
|refine zC ?_
|refine zI ?_
|apply aw_1
 conv=>whnf
 refine ⟨?_,trivial⟩
|apply ze rfl rfl
 . conv=>lhs;whnf
 . conv=>lhs;whnf
 . first | exact bT1 ‹_› | exact bT2 ‹_›
|apply zZ rfl rfl
 . conv=>lhs;whnf
 . conv=>lhs;whnf
 . first | exact bF1 ‹_› | exact bF2 ‹_›
|apply s_1
 conv=>whnf;arg 1;arg 4;arg 3;whnf
 refine ⟨?_,?_⟩
|apply zAE rfl rfl rfl rfl
 . conv=>lhs;whnf;arg 1;whnf
 . rfl
|apply zF rfl
 . conv=>lhs;whnf
 . conv=>lhs;whnf
 . first | rfl | assumption
 . conv=>lhs;whnf;arg 2;whnf
|apply zm rfl
 . conv=>lhs;whnf
 . conv=>lhs;whnf
 . first | rfl | assumption
 . conv=>lhs;whnf
 . first | exact h1 | exact h2 | exact h3 | exact h4
|apply zo rfl
 . conv=>lhs;whnf
 . conv=>lhs;whnf
 . first | rfl | assumption
|apply zL rfl
 . conv=>lhs;whnf
 . conv=>lhs;whnf
 . conv=>lhs;whnf;arg 2;whnf
|refine zD ?_
|refine ⟨_,by conv=>lhs;whnf;arg 2;whnf,?_⟩;conv=>rhs;whnf
|exact trivial
|intro hg)
  all_goals (simp only [beq_true,Bool.not_false,cond_true] at *;simp only [*,Bool.true_and,Bool.false_and,Bool.and_false,Bool.not_true,Bool.not_false])
end
section
open Go.RowKit
theorem zFa {l:List D} {i:Nat} (h:i<l.length):(gD l i).s.size<=bulkL l:=by
 have h1:=zu h
 have h2:=zW (gD l i)
 have h3:=zy (gD l i)
 omega
theorem zD5 {l:List D} {i:Nat} (h:i<l.length) (j:Nat):((gD l i).f j).s.size<=bulkL l:=by
 have h1:=(zCS h j).1
 have h2:=zW ((gD l i).f j)
 have h3:=zy ((gD l i).f j)
 omega
theorem zC7 (f:D) (j:Nat):bulkL (f.f j).l<=bulkD f:=by
 have h1:=zW f
 have h2:=wD_f f j
 have h3:=zr (f.f j)
 omega
theorem szOk_of {gs:List D} {f:D} (hg:bulkL gs<=1048576) (hf:bulkD f<=1048576):SzOk gs f:=by
 have h1:=zAK gs
 have h2:=zC7 f 4
 have h3:=zAK (f.f 4).l
 have h4:=zC7 f 2
 have h5:=zAK (f.f 2).l
 refine ⟨by omega,by omega,by omega,fun j hj => ?_,fun j hj => ?_,fun j hj=>⟨?_,?_⟩,?_⟩
 . have:=zFa hj;omega
 . have:=zFa hj;omega
 . have:=zD5 hj 0;omega
 . have:=zD5 hj 1;omega
 . have h6:=zW f
   have h7:=wD_f f 3
   have h8:=zy (f.f 3)
   omega
theorem hop_len (h:D):(hopT h).length+1<=2*bulkD h:=by
 have h1:=zW h
 have h2:=zAd h 2
 have h3:=zy (h.f 0)
 have h4:=zy (h.f 1)
 simp only [sumN] at h2
 unfold hopT
 simp only [List.length_append,zAF,List.length_cons,List.length_nil]
 omega
theorem fetOk_of {gs:List D} {f:D} (hw:wideD f) (hg:bulkL gs<=1048576) (hf:bulkD f<=1048576):FetOk gs f:=by
 have h1:=zAK gs
 have h2:=zC7 f 4
 have h3:=zAK (f.f 4).l
 have h4:=zC7 f 2
 have h5:=zAK (f.f 2).l
 have h6:=zC7 f 7
 have h7:=zAK (f.f 7).l
 refine ⟨(hw.f 1).n,fun j hj=>((hw.f 7).l j).n,by omega,by omega,by omega,fun j hj => ?_,fun j hj=>⟨?_,?_⟩,?_,?_,?_,?_⟩
 . have:=zFa hj;omega
 . have:=zD5 hj 0;omega
 . have:=zD5 hj 1;omega
 . have h6:=zW f
   have h7:=wD_f f 3
   have h8:=zy (f.f 3)
   omega
 . have:=zBU (f.f 2).l hopT [47] 2 fun i _=>hop_len _
   omega
 . have:=zBU (f.f 4).l (fun d=>tx d.s) [32] 2 fun i _=>by
    have h1:=zW (gD (f.f 4).l i)
    have h2:=zy (gD (f.f 4).l i)
    simp only [zAF,List.length_cons,List.length_nil]
    omega
   exact Nat.le_trans this (by omega)
 . have:=zBU (f.f 7).l (fun d=>Lib.itoa d.n) [32] 22 fun i _=>by
    have h1:=zW (gD (f.f 7).l i)
    have hn:=((hw.f 7).l i).n
    have h2:=zB4 _ hn.1 hn.2
    simp only [List.length_cons,List.length_nil]
    omega
   omega
theorem fitsB_of {gs:List D} {f:D} {kind:Int} (h:fitsB gs f kind=true):largeB 8 (f.f 6).l=false/\zFq gs f=true/\queR (.obj [.list (fetchO 8 f kind),.list []])=true/\(1<=kind/\kind<=3):=by
 unfold fitsB smallB at h
 simp only [Bool.and_eq_true,Bool.not_eq_true',decide_eq_true_eq] at h
 exact ⟨h.1.1.2,h.1.2,h.2,h.1.1.1.1.2,h.1.1.1.2⟩
structure FetIn (f:D):Prop where
 wide:wideD f
 bulk:bulkD f<=1048576
 pk : ∃ j,∀ i,i<(f.f 6).l.length->Fits Tryz.prog j 73 (gD (f.f 6).l i)
theorem zDN {f:D} (h:FetIn f) (kind:Int):bulkL (fetchO 8 f kind)<=7340232:=by
 have h1:=zJi (j:=0) (f:=f) (kind:=kind) h.pk 8
 have h2:=zC7 f 6
 have:=h.bulk
 omega
theorem zK7 {f:D} (h:FetIn f) (hl:largeB 8 (f.f 6).l=false):CpP 8 (f.f 6).l:=cpP_of 8 _ (.inr hl) (by have:=zC7 f 6;have:=h.bulk;omega)
theorem zIa {f:D} {kind:Int} (h:FetIn f) (hk:i64D kind) (hr:queR (.obj [.list (fetchO 8 f kind),.list []])=true):DocOk 8388608 24 (.obj [.list (fetchO 8 f kind),.list []]):=
 zLE hr (zDp hk h.wide 8) (by
  have:=zDN h kind
  simp only [bulkD,bulkL]
  omega)
theorem fetIn_len {f:D} {kind:Int} (h:FetIn f) (hk:i64D kind):(docF31 kind f).length<=20000000000:=by
 have h1:=zFN 8388608 24 (.obj [.list (fetchO 8 f kind),.list []]) (zDp hk h.wide 8) (by decide)
 have h2:=zDN h kind
 have h3:bulkD (.obj [.list (fetchO 8 f kind),.list []])=bulkL (fetchO 8 f kind)+3:=by simp only [bulkD,bulkL]
 unfold docF31
 omega
end
section
open Go.RowKit
set_option linter.unusedSectionVars false
attribute [local irreducible] wpList Calls Code.wp AW AWo OpOk seqK zAG zAP loopK endK AC zt Yld Sub
attribute [local irreducible] ACB ACX ACE absLexG YldG absLexH
theorem bs_ne {u:List UInt8} (h:u≠[]):(!((bs u).toList==(⟨#[]⟩:ByteArray).toList))=true:=by
 rw [Lib.toList_data,Lib.toList_data,zAi]
 cases u with
 |nil=>exact absurd rfl h
 |cons c u=>rfl
theorem bs_nil0:(!((bs []).toList==(⟨#[]⟩:ByteArray).toList))=false:=by
 rw [Lib.toList_data,Lib.toList_data,zAi]
 rfl
noncomputable def HsO (s0 p:D) (T:List UInt8) (i:Nat):Vst 45:=
 stS 45 [(2,.bx 2 0),(3,.bx 3 0),(5,.bx 5 0),(13,.sl 34 (p.f 2).l),(14,.c (.int .i64 ((p.f 2).l.length:Nat))),(15,.c (.int .i64 (i:Int)))]
  [(2,.box 29 (cellsV Tryz.prog 12 29 s0)),(3,.box 45 (cellsV Tryz.prog 12 45 p)),(5,.bld 92 5 T)]
noncomputable def HsI (s0 p:D) (T u:List UInt8) (i:Nat):Vst 45:=
 stS 45 [(2,.bx 2 0),(3,.bx 3 0),(5,.bx 5 0),(8,.c (.string (bs u))),(13,.sl 34 (p.f 2).l),(14,.c (.int .i64 ((p.f 2).l.length:Nat))),(15,.c (.int .i64 (i:Int)))]
  [(2,.box 29 (cellsV Tryz.prog 12 29 s0)),(3,.box 45 (cellsV Tryz.prog 12 45 p)),(5,.bld 92 5 T)]
theorem showP_ac (s0 p:D) (h:PlanOk (s0.f 0).l (p.f 2).l (p.f 0).n):AC EN Tryz.prog 19 [.agg (cellsV Tryz.prog 12 29 s0),.agg (cellsV Tryz.prog 12 45 p)] (.c (.string (bs (zGE (s0.f 0).l (docF31 (p.f 0).n) (p.f 2).l 0)))):=by
 have hsl:=h.sl
 have hnn:=h.n
 generalize hS:zGE (s0.f 0).l (docF31 (p.f 0).n) (p.f 2).l 0=S at *
 refine zG 45 Tryz.func19 rfl rfl rfl rfl ?_
 intro s w he
 repeat' (first
|refine zB ?_
|refine zC ?_
|refine zI ?_
|apply aw_1
 conv=>whnf
 refine ⟨?_,trivial⟩
|apply s_1
 conv=>whnf;arg 1;arg 4;arg 3;whnf
 refine ⟨?_,?_⟩
|apply zAE rfl rfl rfl rfl
 . conv=>lhs;whnf;arg 1;whnf
 . rfl
|exact trivial)
 refine zf (Sub.bld (m:=5) (e:=5) rfl) ?_
 refine zi (fun j st => ∃ i out,i+j=(p.f 2).l.length/\out++zGE (s0.f 0).l (docF31 (p.f 0).n) ((p.f 2).l.drop i) i=S/\Sub (cx EN Tryz.prog s w he) st (HsO s0 p out i)) (p.f 2).l.length ⟨0,[],by omega,hS,Sub.live ⟨rfl,rfl,rfl,rfl,rfl,rfl,trivial⟩ ⟨rfl,rfl,rfl,trivial⟩⟩ ?_
 clear hS
 rintro j st ⟨i,out,hij,hR,hs2⟩
 refine zf hs2 ?_
 clear hs2
 by_cases hi:i<(p.f 2).l.length
 rotate_left 1
 . have f0:decide ((i:Int)<((p.f 2).l.length:Nat))=false:=decide_eq_false (by omega)
   rw [List.drop_of_length_le (by omega)] at hR
   have hR:out=S:=by rw [<- hR];simp [zGE]
   subst hR
   repeat' (first
|apply s_bs rfl
 . conv=>lhs;whnf
 . conv=>lhs;whnf
 . rfl
 . conv=>lhs;whnf;arg 1;whnf
 . exact ⟨rfl,rfl⟩
 . rfl
|apply zH
 . conv=>lhs;whnf
 . assumption
|refine zB ?_
|refine zC ?_
|refine zI ?_
|apply aw_1
 conv=>whnf
 refine ⟨?_,trivial⟩
|apply s_1
 conv=>whnf;arg 1;arg 4;arg 3;whnf
 refine ⟨?_,?_⟩
|refine zN ?_
|refine zJ rfl ?_
|refine zK ?_
|refine zD ?_
|refine ⟨_,by conv=>lhs;whnf;arg 2;whnf,?_⟩;conv=>rhs;whnf
|exact trivial)
   all_goals (unfold maxLen;omega)
 have f0:decide ((i:Int)<((p.f 2).l.length:Nat))=true:=decide_eq_true (by omega)
 have h1:=headP_ac s0 (gD (p.f 2).l i) i ⟨by omega,by omega⟩ (h.fo i hi)
 have h2:=zKE s0 (gD (p.f 2).l i) (p.f 0).n (h.cp i hi) (h.dk i hi)
 have hdl:=h.dl i hi
 rw [show_cons _ _ hi] at hR
 generalize docF31 (p.f 0).n (gD (p.f 2).l i)=u0 at *
 have hl:=congrArg List.length hR
 simp only [List.length_append] at hl
 repeat' (first
|apply s_ws rfl
 . conv=>lhs;whnf
 . conv=>lhs;whnf
 . rfl
 . conv=>lhs;whnf;arg 1;whnf
 . rfl
|apply zM
 . conv=>lhs;whnf
 . assumption
|refine zB ?_
|refine zC ?_
|refine zI ?_
|apply aw_1
 conv=>whnf
 refine ⟨?_,trivial⟩
|apply s_1
 conv=>whnf;arg 1;arg 4;arg 3;whnf
 refine ⟨?_,?_⟩
|apply zd rfl
 . conv=>lhs;whnf
 . conv=>lhs;whnf
 . first | exact h1 | exact h2
|apply zX rfl rfl rfl
 . conv=>lhs;whnf
 . conv=>lhs;whnf;arg 1;whnf
 . conv=>lhs;whnf;arg 1;whnf
 . exact ⟨by kernel_rfl,by kernel_rfl⟩
 . rfl
|exact trivial)
 rotate_left 1
 . rw [zS];omega
 . exact at31 hi
 refine zi (fun m st => ∃ T u,u.length<=m/\u.length<=u0.length/\T++indG [] u=out++zIO (s0.f 0).l i (gD (p.f 2).l i)++indT u0/\Sub (cx EN Tryz.prog s w he) st (HsI s0 p T u i)) u0.length ⟨out++zIO (s0.f 0).l i (gD (p.f 2).l i),u0,Nat.le_refl _,Nat.le_refl _,rfl,Sub.live ⟨rfl,rfl,rfl,rfl,rfl,rfl,rfl,trivial⟩ ⟨rfl,rfl,?_,trivial⟩⟩ ?_
 . exact congrArg (fun l=>some (Res.bld _ _ (out++l))) (zAX _)
 rintro m st2 ⟨T,u,hm,hu0,hT,hs3⟩
 refine zf hs3 ?_
 clear hs3
 have htl:=congrArg List.length hT
 simp only [List.length_append] at htl
 by_cases hu:u=[]
 . subst hu
   have g0:=bs_nil0
   have hT:T=out++zIO (s0.f 0).l i (gD (p.f 2).l i)++indT u0:=by rw [<- hT,indG.eq_1,if_pos rfl,List.append_nil]
   subst hT
   repeat' (first
|apply zH
 . conv=>lhs;whnf
 . assumption
|refine zB ?_
|refine zC ?_
|refine zI ?_
|refine zY ?_
|apply aw_1
 conv=>whnf
 refine ⟨?_,trivial⟩
|apply s_1
 conv=>whnf;arg 1;arg 4;arg 3;whnf
 refine ⟨?_,?_⟩
|refine zN ?_
|refine zJ rfl ?_
|refine zK ?_
|exact trivial)
   all_goals first
    |exact za (by omega)
    |exact zE (j':=j-1) (by omega) ⟨i+1,_,by omega,by rw [<- hR];simp only [List.append_assoc],Sub.live ⟨rfl,rfl,rfl,rfl,rfl,rfl,trivial⟩ ⟨rfl,rfl,rfl,trivial⟩⟩
 have g0:=bs_ne hu
 have hup:0<u.length:=by cases u with | nil=>exact absurd rfl hu | cons c u=>simp
 rcases index_cut u with ⟨-,hno⟩ | ⟨a,b,rfl,hno,-⟩
 . have hc:=cutN_ac u (by omega) hno
   have e:indG [] u=[32,32]++u++[10]:=by rw [ind_no u [] hno,List.nil_append,if_neg hu]
   repeat' (first
|apply s_ws rfl
 . conv=>lhs;whnf
 . conv=>lhs;whnf
 . rfl
 . conv=>lhs;whnf;arg 1;whnf
 . rfl
|apply zM
 . conv=>lhs;whnf
 . assumption
|refine zB ?_
|refine zC ?_
|refine zI ?_
|refine zY ?_
|apply aw_1
 conv=>whnf
 refine ⟨?_,trivial⟩
|apply s_1
 conv=>whnf;arg 1;arg 4;arg 3;whnf
 refine ⟨?_,?_⟩
|apply zd rfl
 . conv=>lhs;whnf
 . conv=>lhs;whnf
 . first | exact hc
|exact trivial)
   all_goals first
    |(simp only [ByteArray.size_append,zS,zh,List.size_toArray,List.length_cons,List.length_nil,maxLen,Nat.reduceAdd];omega)
    |skip
   refine zE (j':=m-1) (by omega) ⟨T++([32,32]++u++[10]),[],by simp,by simp,by rw [indG.eq_1,if_pos rfl,List.append_nil,<- e];exact hT,Sub.live ⟨rfl,rfl,rfl,rfl,rfl,rfl,rfl,trivial⟩ ⟨rfl,rfl,?_,trivial⟩⟩
   refine congrArg (fun l=>some (Res.bld _ _ (T++l))) ?_
   show tx ((⟨#[32,32]⟩:ByteArray)++bs u++⟨#[10]⟩)=_
   simp only [zp,zAX]
   rfl
 . have hlab:(a++10::b).length=a.length+b.length+1:=by simp;omega
   have hc:=cutY_ac a b (by omega) hno
   have e:indG [] (a++10::b)=[32,32]++a++[10]++indG [] b:=by rw [zKs a [] b hno,List.nil_append]
   repeat' (first
|apply s_ws rfl
 . conv=>lhs;whnf
 . conv=>lhs;whnf
 . rfl
 . conv=>lhs;whnf;arg 1;whnf
 . rfl
|apply zM
 . conv=>lhs;whnf
 . assumption
|refine zB ?_
|refine zC ?_
|refine zI ?_
|refine zY ?_
|apply aw_1
 conv=>whnf
 refine ⟨?_,trivial⟩
|apply s_1
 conv=>whnf;arg 1;arg 4;arg 3;whnf
 refine ⟨?_,?_⟩
|apply zd rfl
 . conv=>lhs;whnf
 . conv=>lhs;whnf
 . first | exact hc
|exact trivial)
   all_goals first
    |(simp only [ByteArray.size_append,zS,zh,List.size_toArray,List.length_cons,List.length_nil,maxLen,Nat.reduceAdd];omega)
    |skip
   refine zE (j':=m-1) (by omega) ⟨T++([32,32]++a++[10]),b,by omega,by omega,by rw [<- hT,e];simp only [List.append_assoc],Sub.live ⟨rfl,rfl,rfl,rfl,rfl,rfl,rfl,trivial⟩ ⟨rfl,rfl,?_,trivial⟩⟩
   refine congrArg (fun l=>some (Res.bld _ _ (T++l))) ?_
   show tx ((⟨#[32,32]⟩:ByteArray)++bs a++⟨#[10]⟩)=_
   simp only [zp,zAX]
   rfl
def gsX:List D:=[.str ⟨#[117,115,101,114,115]⟩,.str ⟨#[110,97,109,101,115]⟩]
def supX:D:=.obj [.list gsX]
def hopX:D:=.obj [.str ⟨#[81,117,101,114,121]⟩,.str ⟨#[109,101]⟩]
def pkX:D:=.obj [.str ⟨#[110,97,109,101]⟩,.str ⟨#[85,115,101,114]⟩,.str ⟨#[110,97,109,101]⟩,.list [],.obj [],.str ⟨#[]⟩,.int (-1),.list []]
def ftX:D:=.obj [.int 1,.int 2,.list [hopX],.str ⟨#[85,115,101,114]⟩,.list [.str ⟨#[105,100]⟩],.int 1,.list [pkX],.list [.int 0]]
def plX:D:=.obj [.int 1,.list [],.list [ftX]]
theorem zEr:zAB Tryz.prog 30=some (68,32):=by kernel_rfl
theorem zDO:zAB Tryz.prog 31=some (73,160):=by kernel_rfl
theorem zEq:zAB Tryz.prog 32=some (3,8):=by kernel_rfl
theorem zEs:zAB Tryz.prog 43=some (34,136):=by kernel_rfl
theorem zKy:wideD ftX:=by simp [wideD,wideL,ftX,hopX,pkX,i64D]
def txX:List UInt8:=[102,101,116,99,104,32,48,58,32,110,97,109,101,115,44,32,100,101,112,116,104,32,50,44,32,97,102,116,101,114,32,48,44,32,97,116,32,81,117,101,114,121,46,109,101,44,32,102,111,114,32,85,115,101,114,44,32,98,121,32,105,100,10,32,32,113,117,101,114,121,40,36,114,58,32,91,95,65,110,121,33,93,33,41,32,123,10,32,32,32,32,95,101,110,116,105,116,105,101,115,40,114,101,112,114,101,115,101,110,116,97,116,105,111,110,115,58,32,36,114,41,32,123,10,32,32,32,32,32,32,46,46,46,32,111,110,32,85,115,101,114,32,123,10,32,32,32,32,32,32,32,32,110,97,109,101,10,32,32,32,32,32,32,125,10,32,32,32,32,125,10,32,32,125,10]
theorem tx_eq:zGE gsX (docF31 1) [ftX] 0=txX:=by kernel_rfl
theorem doc_ok:DocOk 8388608 24 (.obj [.list (fetchO 8 ftX 1),.list []]):=zLE (by kernel_rfl) (zDp ⟨by decide,by decide⟩ zKy 8) (by decide +kernel)
theorem planX:PlanOk gsX [ftX] 1:=by
 refine ⟨by decide,fun i hi => ?_,fun i hi => ?_,fun i hi => ?_,fun i hi => ?_,?_⟩
 . obtain rfl:i=0:=by simp at hi;omega
   exact fetOk_of zKy (by decide +kernel) (by decide +kernel)
 . obtain rfl:i=0:=by simp at hi;omega
   exact cpP_of 8 _ (.inr (by decide +kernel)) (by decide +kernel)
 . obtain rfl:i=0:=by simp at hi;omega
   exact doc_ok
 . obtain rfl:i=0:=by simp at hi;omega
   have h1:=zFN 8388608 24 _ doc_ok.wide (by decide)
   have h2:bulkD (.obj [.list (fetchO 8 ftX 1),.list []])<=8388608:=doc_ok.bulk
   show (docT 8388608 (24+1) _).length<=_
   exact Nat.le_trans h1 (Nat.le_trans (Nat.mul_le_mul_left 1274 h2) (by decide))
 . rw [tx_eq];decide +kernel
noncomputable def WSu:V:=.agg (cellsV Tryz.prog 12 29 supX)
noncomputable def WHo:V:=.agg (cellsV Tryz.prog 12 68 hopX)
noncomputable def WPk:V:=.agg (cellsV Tryz.prog 12 73 pkX)
noncomputable def WFt:V:=.agg (cellsV Tryz.prog 12 34 ftX)
noncomputable def WPl:V:=.agg (cellsV Tryz.prog 12 45 plX)
def seX:D:=entS (opSels 8 1 (ftX.f 6).l)
def opX:D:=zA7 1 [zBn] [seX]
theorem fetX:fetchO 8 ftX 1=[opX]:=by kernel_rfl
theorem example31_ac:AC EN Tryz.prog 15 [] (.c (.bool true)):=by
 have h1:AC EN Tryz.prog 17 [.agg (cellsV Tryz.prog 12 29 supX),.agg (cellsV Tryz.prog 12 34 ftX),.c (.int .i64 1)] (.agg [.sl 57 [opX],.sl 116 []]):=by
  have:=zIZ EN 8 supX ftX 1 (planX.cp 0 (by decide))
  rw [fetX] at this
  exact this
 have h2:AC EN Tryz.prog 19 [.agg (cellsV Tryz.prog 12 29 supX),.agg (cellsV Tryz.prog 12 45 plX)] (.c (.string ⟨#[102,101,116,99,104,32,48,58,32,110,97,109,101,115,44,32,100,101,112,116,104,32,50,44,32,97,102,116,101,114,32,48,44,32,97,116,32,81,117,101,114,121,46,109,101,44,32,102,111,114,32,85,115,101,114,44,32,98,121,32,105,100,10,32,32,113,117,101,114,121,40,36,114,58,32,91,95,65,110,121,33,93,33,41,32,123,10,32,32,32,32,95,101,110,116,105,116,105,101,115,40,114,101,112,114,101,115,101,110,116,97,116,105,111,110,115,58,32,36,114,41,32,123,10,32,32,32,32,32,32,46,46,46,32,111,110,32,85,115,101,114,32,123,10,32,32,32,32,32,32,32,32,110,97,109,101,10,32,32,32,32,32,32,125,10,32,32,32,32,125,10,32,32,125,10]⟩)):=by
  have:=showP_ac supX plX planX
  rw [show zGE (supX.f 0).l (docF31 (plX.f 0).n) (plX.f 2).l 0=txX from tx_eq] at this
  exact this
 have e1:cellsV Tryz.prog 12 29 supX=[.sl 9 gsX,.sl 360 [],.sl 362 [],.sl 364 []]:=by kernel_rfl
 have e2:cellsV Tryz.prog 12 34 ftX=[.c (.int .i64 1),.c (.int .i64 2),.sl 68 [hopX],.c (.string ⟨#[85,115,101,114]⟩),.sl 9 [.str ⟨#[105,100]⟩],.c (.int .i64 1),.sl 73 [pkX],.sl 3 [.int 0]]:=by kernel_rfl
 have e3:cellsV Tryz.prog 12 45 plX=[.c (.int .i64 1),.sl 73 [],.sl 34 [ftX]]:=by kernel_rfl
 rw [e1,e2] at h1
 rw [e1,e3] at h2
 refine zG 62 Tryz.func15 rfl rfl rfl rfl ?_
 intro s w he
 repeat' (first
|apply z7 (WSu) rfl rfl
 . conv=>lhs;whnf;arg 2;whnf
 . repeat' (first | exact VLe.refl _ | exact VLe.nil _ | exact VLe.lit _ _ | exact VLe.own _ _ _ | apply VLe.agg | apply VLeL.cons | exact VLeL.nil)
|apply z7 (WHo) rfl rfl
 . conv=>lhs;whnf;arg 2;whnf
 . repeat' (first | exact VLe.refl _ | exact VLe.nil _ | exact VLe.lit _ _ | exact VLe.own _ _ _ | apply VLe.agg | apply VLeL.cons | exact VLeL.nil)
|apply z7 (WPk) rfl rfl
 . conv=>lhs;whnf;arg 2;whnf
 . repeat' (first | exact VLe.refl _ | exact VLe.nil _ | exact VLe.lit _ _ | exact VLe.own _ _ _ | apply VLe.agg | apply VLeL.cons | exact VLeL.nil)
|apply z7 (WFt) rfl rfl
 . conv=>lhs;whnf;arg 2;whnf
 . repeat' (first | exact VLe.refl _ | exact VLe.nil _ | exact VLe.lit _ _ | exact VLe.own _ _ _ | apply VLe.agg | apply VLeL.cons | exact VLeL.nil)
|apply z7 (WPl) rfl rfl
 . conv=>lhs;whnf;arg 2;whnf
 . repeat' (first | exact VLe.refl _ | exact VLe.nil _ | exact VLe.lit _ _ | exact VLe.own _ _ _ | apply VLe.agg | apply VLeL.cons | exact VLeL.nil)
|apply zAc [.int 0] rfl rfl
 . conv=>lhs;whnf
 . first | exact zw | exact zEr | exact zDO | exact zEq | exact zEs | (conv=>lhs;whnf;arg 1;whnf)
 . rfl
 . rfl
 . repeat' (first | exact trivial | apply And.intro | rfl)
|apply zAc gsX rfl rfl
 . conv=>lhs;whnf
 . first | exact zw | exact zEr | exact zDO | exact zEq | exact zEs | (conv=>lhs;whnf;arg 1;whnf)
 . rfl
 . rfl
 . repeat' (first | exact trivial | apply And.intro | rfl)
|apply zAc [hopX] rfl rfl
 . conv=>lhs;whnf
 . first | exact zw | exact zEr | exact zDO | exact zEq | exact zEs | (conv=>lhs;whnf;arg 1;whnf)
 . rfl
 . rfl
 . repeat' (first | exact trivial | apply And.intro | rfl)
|apply zAc [.str ⟨#[105,100]⟩] rfl rfl
 . conv=>lhs;whnf
 . first | exact zw | exact zEr | exact zDO | exact zEq | exact zEs | (conv=>lhs;whnf;arg 1;whnf)
 . rfl
 . rfl
 . repeat' (first | exact trivial | apply And.intro | rfl)
|apply zAc [pkX] rfl rfl
 . conv=>lhs;whnf
 . first | exact zw | exact zEr | exact zDO | exact zEq | exact zEs | (conv=>lhs;whnf;arg 1;whnf)
 . rfl
 . rfl
 . repeat' (first | exact trivial | apply And.intro | rfl)
|apply zAc [ftX] rfl rfl
 . conv=>lhs;whnf
 . first | exact zw | exact zEr | exact zDO | exact zEq | exact zEs | (conv=>lhs;whnf;arg 1;whnf)
 . rfl
 . rfl
 . repeat' (first | exact trivial | apply And.intro | rfl)
|refine zB ?_
|refine zC ?_
|refine zI ?_
|apply aw_1
 conv=>whnf
 refine ⟨?_,trivial⟩
|apply ze rfl rfl
 . conv=>lhs;whnf
 . conv=>lhs;whnf
 . first | decide +kernel
|apply s_1
 conv=>whnf;arg 1;arg 4;arg 3;whnf
 refine ⟨?_,?_⟩
|apply zd rfl
 . conv=>lhs;whnf
 . conv=>lhs;whnf
 . first | exact h1 | exact h2
|apply zX rfl rfl rfl
 . conv=>lhs;whnf
 . conv=>lhs;whnf;arg 1;whnf
 . conv=>lhs;whnf;arg 1;whnf
 . exact ⟨by kernel_rfl,by kernel_rfl⟩
 . rfl
|apply zF rfl
 . conv=>lhs;whnf
 . conv=>lhs;whnf
 . first | rfl | assumption | decide +kernel
 . conv=>lhs;whnf;arg 2;whnf
|refine zD ?_
|refine ⟨_,by conv=>lhs;whnf;arg 2;whnf,?_⟩;conv=>rhs;whnf
|exact trivial)
 all_goals first
  |rfl
  |decide
  |exact congrArg (fun b=>V.c (Value.bool b)) (by decide +kernel)
  |(refine ⟨(show Tryz.prog.underlying 9=some .string by kernel_rfl),?_⟩;decide +kernel)
theorem nself31 (b:ByteArray):(!(b.toList==b.toList))=false:=by simp
end
section
open Go.ChangeShapes Go.WideShapes Go.ChangeAt Go.RowKit
set_option linter.unusedSectionVars false
attribute [local irreducible] wpList Calls Code.wp AW AWo OpOk seqK zAG zAP loopK endK AC zt Yld Sub
attribute [local irreducible] ACB ACX ACE absLexG YldG absLexH
def planSet:List TypeId:=[45,43,34,30,68,31,73,69,86,82,84,22,9,71,32,3,4]
theorem zJR:closedB Tryz.prog planSet=true:=by kernel_rfl
theorem fetch_pk {k:Nat} {f:D} (hf:Fits Tryz.prog k 34 f) : ∃ j,∀ i,i<(f.f 6).l.length->Fits Tryz.prog j 73 (gD (f.f 6).l i):=by
 obtain ⟨j,l,rfl,hl,hfs⟩:=zCa Tryz.underlying34 hf
 obtain ⟨j6,l6,e6,h6⟩:=zBp Tryz.underlying31 (hfs 6 _ rfl)
 have e:((D.obj l).f 6).l=l6:=by show (gD l 6).l=l6;rw [e6];rfl
 rw [e]
 exact ⟨j6,h6⟩
theorem upto_two31 {H:Type} {d d2:DataW H} {gs:List (DataW H)} (h:Rows.uptoSmall H (d::d2::gs)=true):Rows.uptoBulk d<=1048576/\Rows.uptoBulk d2<=1048576:=by
 have h1:Rows.uptoBulkAll (d::d2::gs)<=1048576:=of_decide_eq_true h
 rw [Rows.uptoBulkAll,Rows.uptoBulkAll] at h1
 omega
theorem super_in {H:Type} {enc:TypeId × Value->H} {W:World} {v:Value} {base:Nat} {dw:DataW H} {ps:List MemPlace} (hv:Value.okWide Tryz.prog W .any base 29 v) (hd:DataW.Trod enc Tryz.prog W 0 (fun _=>true) true 29 v dw ps) (hb:Rows.uptoBulk dw<=1048576) :
 ∃ (cs:Array Value) (s0:D),v = .agg cs/\rel Tryz.prog (sg0 W) W (.agg (cellsV Tryz.prog 12 29 s0)) (.agg cs)/\bulkL (s0.f 0).l<=1048576:=by
 obtain ⟨k,cs,d,rfl,hr,hf,hbk⟩:=arg_in Tryz.underlying29 hv hd
 exact ⟨cs,d,rfl,cells0 Tryz.underlying29 (by kernel_rfl) hr,by have:=zC7 d 0;omega⟩
theorem fetch_in {H:Type} {enc:TypeId × Value->H} {W:World} {v:Value} {base:Nat} {dw:DataW H} {ps:List MemPlace} (hv:Value.okWide Tryz.prog W .any base 34 v) (hd:DataW.Trod enc Tryz.prog W 0 (fun _=>true) true 34 v dw ps) (hb:Rows.uptoBulk dw<=1048576) :
 ∃ (k:Nat) (cs:Array Value) (f:D),v = .agg cs/\rel Tryz.prog (sg0 W) W (.agg (cellsV Tryz.prog 12 34 f)) (.agg cs)/\Fits Tryz.prog k 34 f/\FetIn f:=by
 obtain ⟨k,cs,f,rfl,hr,hf,hbk⟩:=arg_in Tryz.underlying34 hv hd
 exact ⟨k,cs,f,rfl,cells0 Tryz.underlying34 (by kernel_rfl) hr,hf,zI5 zJR (by decide) hr hf,by omega,fetch_pk hf⟩
end
section
open Go.RowKit
theorem zK3 {P:Program} {t:TypeId} {d:D} {k:Nat} (h:Fits P k t d) : ∀ m,Fits P (k+m) t d
 |0=>h
 |m+1=>(zK3 h m).up
theorem zIX {P:Program} {t:TypeId} {d:D} {k j:Nat} (h:Fits P k t d) (hj:k<=j):Fits P j t d:=by
 obtain ⟨m,rfl⟩:=Nat.le.dest hj
 exact zK3 h m
def FE (t:TypeId) (d:D):Prop:=∃ k,∀ j,k<=j->Fits Tryz.prog j t d
theorem fe_of {t:TypeId} {d:D} {k:Nat} (h:Fits Tryz.prog k t d):FE t d:=
 ⟨k,fun _ hj=>zIX h hj⟩
theorem fe_i (n:Int):FE 3 (.int n):=fe_of (k:=1) (by unfold Fits;rw [Tryz.underlying3];exact ⟨n,rfl⟩)
theorem fe_s (s:ByteArray):FE 9 (.str s):=fe_of (k:=1) (by unfold Fits;rw [Tryz.underlying9];exact ⟨s,rfl⟩)
theorem fe_b (b:Bool):FE 4 (.bool b):=fe_of (k:=1) (by unfold Fits;rw [Tryz.underlying4];exact ⟨b,rfl⟩)
theorem fe_get {e:TypeId} : ∀ (l:List D),(∀ i,i<l.length->FE e (gD l i)) -> ∃ k,∀ j,k<=j -> ∀ i,i<l.length->Fits Tryz.prog j e (gD l i)
 |[],_=>⟨0,fun _ _ i hi=>absurd hi (Nat.not_lt_zero i)⟩
 |d::l,h=>by
  obtain ⟨k1,h1⟩:=h 0 (by simp)
  obtain ⟨k2,h2⟩:=fe_get l fun i hi=>h (i+1) (by simpa using hi)
  refine ⟨k1+k2,fun j hj i hi => ?_⟩
  cases i with
  |zero=>exact h1 j (by omega)
  |succ i=>exact h2 j (by omega) i (by simpa using hi)
theorem zEo {t e:TypeId} (hu:Tryz.prog.underlying t=some (.slice e)) {l:List D} (h : ∀ i,i<l.length->FE e (gD l i)):FE t (.list l):=by
 obtain ⟨k,hk⟩:=fe_get l h
 refine fe_of (k:=k+1) ?_
 unfold Fits
 rw [hu]
 exact ⟨l,rfl,hk k (Nat.le_refl k)⟩
theorem zIc {e:TypeId} {l:List D} (h : ∀ d∈l,FE e d) : ∀ i,i<l.length->FE e (gD l i):=fun i hi=>h _ (by rw [zAQ hi];exact List.getElem_mem hi)
def FEs:List Field->List D->Prop
 |[],[]=>True
 |f::fs,d::ds=>FE f.type d/\FEs fs ds
 |_,_=>False
theorem fes_get : ∀ (fs:List Field) (l:List D),FEs fs l->l.length=fs.length /\ ∃ k,∀ i f,fs[i]? = some f->Fits Tryz.prog k f.type (gD l i)
 |[],[],_=>⟨rfl,0,fun i f h=>by simp at h⟩
 |f::fs,d::ds,h=>by
  obtain ⟨⟨k1,h1⟩,h2⟩:=h
  obtain ⟨e,k2,h3⟩:=fes_get fs ds h2
  refine ⟨by simp [e],k1+k2,fun i g hg => ?_⟩
  cases i with
  |zero =>
   obtain rfl:f=g:=by simpa using hg
   exact h1 _ (by omega)
  |succ i =>
   exact zIX (h3 i g (by simpa using hg)) (Nat.le_add_left _ _)
 |[],_::_,h=>h.elim
 |_::_,[],h=>h.elim
theorem zBF {t:TypeId} {fs:Array Field} (hu:Tryz.prog.underlying t=some (.struct fs)) {l:List D} (h:FEs fs.toList l):FE t (.obj l):=by
 obtain ⟨e,k,hk⟩:=fes_get _ _ h
 refine fe_of (k:=k+1) ?_
 unfold Fits
 rw [hu]
 exact ⟨l,rfl,by simpa using e,fun i f hf=>hk i f (by simpa using hf)⟩
theorem zDA {t e:TypeId} (hu:Tryz.prog.underlying t=some (.slice e)):FE t (.list []):=zEo hu fun i hi=>absurd hi (Nat.not_lt_zero i)
theorem zC9 {t e:TypeId} (hu:Tryz.prog.underlying t=some (.slice e)) {d:D} (h:FE e d):FE t (.list [d]):=zEo hu (zIc fun x hx=>by
 obtain rfl:x=d:=by simpa using hx
 exact h)
theorem zGk (k n:Int) (u:ByteArray):FE 84 (vD31 k n u):=zBF Tryz.underlying84 ⟨fe_i k,fe_i n,fe_s u,zDA Tryz.underlying82,zDA Tryz.underlying22,trivial⟩
theorem zIb (s:ByteArray) {v:D} (h:FE 84 v):FE 86 (sArg s v):=zBF Tryz.underlying86 ⟨fe_s s,h,trivial⟩
theorem fe_dir (s:ByteArray) {a:List D} (h:FE 69 (.list a)):FE 150 (dD31 s a):=zBF Tryz.underlying150 ⟨fe_s s,h,trivial⟩
theorem zK8 (k:Int) (a n o:ByteArray) {x y z:List D} (hx:FE 69 (.list x)) (hy:FE 74 (.list y)) (hz:FE 55 (.list z)):FE 76 (sD31 k a n o x y z):=
 zBF Tryz.underlying76 ⟨fe_i k,fe_s a,fe_s n,fe_s o,hx,hy,hz,trivial⟩
theorem fe_stream (n:Int):FE 150 (zBP n):=fe_dir _ (zEo Tryz.underlying69 (zIc fun x hx=>by
 simp only [List.mem_cons,List.not_mem_nil,or_false] at hx
 rcases hx with rfl | rfl
 . exact zIb _ (zGk _ _ _)
 . exact zIb _ (zGk _ _ _)))
theorem fe_defer (u:ByteArray):FE 150 (zCs u):=fe_dir _ (zC9 Tryz.underlying69 (zIb _ (zGk _ _ _)))
theorem fe_skip:FE 76 zD8:=zK8 _ _ _ _ (zDA Tryz.underlying69) (zC9 Tryz.underlying74 (fe_dir _ (zC9 Tryz.underlying69 (zIb _ (zGk _ _ _))))) (zDA Tryz.underlying55)
theorem pick_args {j:Nat} {p:D} (hf:Fits Tryz.prog j 73 p):FE 69 (.list (p.f 3).l):=by
 obtain ⟨j,l,rfl,hl,hfs⟩:=zCa Tryz.underlying73 hf
 have h3:Fits Tryz.prog j 69 (gD l 3):=hfs 3 _ rfl
 obtain ⟨j3,l3,e3,-⟩:=zBp Tryz.underlying69 h3
 have e:((D.obj l).f 3).l=l3:=by show (gD l 3).l=l3;rw [e3];rfl
 rw [e,<- e3]
 exact fe_of h3
theorem fe_field {sub:ByteArray->List D->List D} {p:D} (ha:FE 69 (.list (p.f 3).l)) (hs:FE 55 (.list (sub ((p.f 4).f 0).s (p.f 7).l))):FE 76 (zBi sub p):=by
 unfold zBi
 refine zK8 _ _ _ _ ha ?_ hs
 split
 . exact zDA Tryz.underlying74
 . exact zC9 Tryz.underlying74 (fe_stream _)
theorem fe_inl {p:D} {fs:List D} (h:FE 55 (.list fs)):FE 76 (inlD p fs):=by
 unfold inlD
 refine zK8 _ _ _ _ (zDA Tryz.underlying69) ?_ h
 split
 . exact zDA Tryz.underlying74
 . exact zC9 Tryz.underlying74 (fe_defer _)
section
variable {f:D->D} {l:List D} (hF : ∀ m,m<l.length->FE 76 (f (gD l m)))
include hF
theorem grp_fe (p:D) : ∀ (k i:Nat),∀ d∈grpI f l p k i,FE 76 d
 |0,_=>by simp [grpI]
 |k+1,i=>by
  by_cases h:i<l.length/\zA5 p (gD l i)=true
  . rw [zDl h]
    intro d hd
    rcases List.mem_cons.1 hd with rfl | hd
    . exact hF i h.1
    . exact grp_fe p k (i+1) d hd
  . rw [zEM h];simp
theorem zJH (on:ByteArray) : ∀ (j i:Nat),∀ d∈selsI f on l j i,FE 76 d
 |0,_=>by simp [selsI]
 |j+1,i=>by
  by_cases hi:i<l.length
  . cases hp:zB2 on (gD l i) with
    |true =>
     rw [zBQ hi hp]
     intro d hd
     rcases List.mem_cons.1 hd with rfl | hd
     . exact hF i hi
     . exact zJH on j _ d hd
    |false =>
     rw [zCW hi hp]
     intro d hd
     rcases List.mem_cons.1 hd with rfl | hd
     . exact fe_inl (zEo Tryz.underlying55 (zIc (grp_fe hF _ _ _)))
     . exact zJH on j _ d hd
  . rw [zCX hi];simp
end
theorem pk_fe : ∀ (k:Nat) (on:ByteArray) (l:List D),(∃ j,∀ i,i<l.length->Fits Tryz.prog j 73 (gD l i))->FE 55 (.list (pkS k on l))
 |0,_,_,_=>zDA Tryz.underlying55
 |k+1,on,l,⟨j,h⟩=>zEo Tryz.underlying55 (zIc (zJH (f:=zBi (pkS k)) (fun m hm=>fe_field (pick_args (h m hm)) (pk_fe k _ _ (zIE (h m hm)).2)) on l.length 0))
theorem fetchO_fe {f:D} {kind:Int} (hp : ∃ j,∀ i,i<(f.f 6).l.length->Fits Tryz.prog j 73 (gD (f.f 6).l i)) (k:Nat):FE 41 (.obj [.list (fetchO k f kind),.list []]):=by
 have ho : ∀ q,FE 55 (.list (opSels k q (f.f 6).l)):=fun q=>by
  unfold opSels
  split
  . exact zC9 Tryz.underlying55 fe_skip
  . exact pk_fe k _ _ hp
 refine zBF Tryz.underlying41 ⟨?_,zDA Tryz.underlying39,trivial⟩
 unfold fetchO
 split
 . exact zC9 Tryz.underlying38 (zBF Tryz.underlying57 ⟨fe_i _,fe_s _,zDA Tryz.underlying54,ho kind,trivial⟩)
 . refine zC9 Tryz.underlying38 (zBF Tryz.underlying57 ⟨fe_i _,fe_s _,zC9 Tryz.underlying54 (zBF Tryz.underlying88 ⟨fe_s _,?_,fe_b _,zGk 0 0 _,trivial⟩),zC9 Tryz.underlying55 (zK8 _ _ _ _ (zC9 Tryz.underlying69 (zIb _ (zGk _ _ _))) (zDA Tryz.underlying74) (ho 1)),trivial⟩)
   refine zBF Tryz.underlying71 ⟨fe_s _,zEo Tryz.underlying32 (zIc fun x hx => ?_),trivial⟩
   simp only [List.mem_cons,List.not_mem_nil,or_false] at hx
   rcases hx with rfl | rfl | rfl<;>exact fe_i _
end
section
open Go.RowKit
set_option linter.unusedSectionVars false
attribute [local irreducible] wpList Calls Code.wp AW AWo OpOk seqK zAG zAP loopK endK AC zt Yld Sub
attribute [local irreducible] ACB ACX ACE absLexG YldG
section
variable {s:List UInt8} {i:Nat} (hi:i<s.length) (hs:s.length<=70000)
include hi hs
theorem read_open (h:s[i]=34) (hn:litN (s.drop (i+1))=none):AC EN5 Tryz.prog 85 [.c (.string (bs s)),.c (.int .i64 (i:Int))] failR:=by
 have hz:=zS s
 have hbt:=zCm hi
 have hgd:=zFB hi
 have hdr:s.drop i=s[i]::s.drop (i+1):=List.drop_eq_getElem_cons hi
 have q : ∀ n:Nat,n<256->(zk (bs s) ((i:Int)).toNat==(n:Int))=(s[i]==UInt8.ofNat n):=fun n hn=>by rw [hbt];exact zFY _ n hn
 have hsg:=zAR ((bs s).data.toList.getD ((i:Int)).toNat 0)
 have f0:zAr ((bs s).data.toList.getD ((i:Int)).toNat 0)=false:=by rw [Int.toNat_natCast,hgd,h];rfl
 have f1:(zk (bs s) ((i:Int)).toNat==46)=false:=(q 46 (by omega)).trans (by rw [h];rfl)
 have f2:(zk (bs s) ((i:Int)).toNat==45)=false:=(q 45 (by omega)).trans (by rw [h];rfl)
 have f3:decide (zk (bs s) ((i:Int)).toNat>=48)=false:=by rw [hbt,h];rfl
 have k1:((zk (bs s) ((i:Int)).toNat==45)==false)=false->False:=fun h2=>by rw [f2] at h2;cases h2
 have k2:(decide (zk (bs s) ((i:Int)).toNat>=48)==true)=true->False:=fun h2=>by rw [f3] at h2;cases h2
 have hlt:=zCZ ((bs s).data.toList.getD ((i:Int)).toNat 0)
 have f5:wrdU ((bs s).data.toList.getD ((i:Int)).toNat 0)=false:=by rw [Int.toNat_natCast,hgd,h];rfl
 have f6:(zk (bs s) ((i:Int)).toNat==34)=true:=(q 34 (by omega)).trans (by rw [h];rfl)
 have hll:=zGc s i hi (by omega)
 have hv:litV s i = -1:=by unfold litV;rw [hn]
 rw [hv] at hll
 refine zG 116 Tryz.func85 rfl rfl rfl rfl ?_
 intro s0 w he
 repeat' (first
|apply zAZ rfl rfl rfl
 . conv=>lhs;whnf
 . first | rfl | assumption
 . conv=>lhs;whnf
 . first | exact bF1 ‹_› | exact bF2 ‹_› | rfl
|apply zM
 . conv=>lhs;whnf
 . assumption
|apply zH
 . conv=>lhs;whnf
 . assumption
|exact (k1 ‹_›).elim
|exact (k2 ‹_›).elim
|refine zB ?_
|refine zC ?_
|refine zI ?_
|apply aw_1
 conv=>whnf
 refine ⟨?_,trivial⟩
|apply zZ rfl rfl
 . conv=>lhs;whnf
 . conv=>lhs;whnf
 . first | exact bF1 ‹_› | exact bF2 ‹_›
|apply s_1
 conv=>whnf;arg 1;arg 4;arg 3;whnf
 refine ⟨?_,?_⟩
|apply zd rfl
 . conv=>lhs;whnf
 . conv=>lhs;whnf
 . first | exact hsg | exact hlt | exact hll
|apply zX rfl rfl rfl
 . conv=>lhs;whnf
 . conv=>lhs;whnf;arg 1;whnf
 . conv=>lhs;whnf;arg 1;whnf
 . exact ⟨by kernel_rfl,by kernel_rfl⟩
 . rfl
|apply zF rfl
 . conv=>lhs;whnf
 . conv=>lhs;whnf
 . first | rfl | assumption
 . conv=>lhs;whnf;arg 2;whnf
|apply zo rfl
 . conv=>lhs;whnf
 . conv=>lhs;whnf
 . first | rfl | assumption
|apply zL rfl
 . conv=>lhs;whnf
 . conv=>lhs;whnf
 . conv=>lhs;whnf;arg 2;whnf
|refine zO ?_
|refine zT ?_
|refine zD ?_
|exact trivial
|intro hg)
 . exact ⟨_,_,_,rfl,rfl,rfl,rfl⟩
 all_goals first
  |exact za (by omega)
  |exact ⟨by kernel_rfl,by omega,by omega⟩
  |exact ⟨by kernel_rfl,by omega,by omega,by omega⟩
  |(rw [hbt];exact zAh _)
  |exact (show Tryz.prog.underlying _=some TypeDesc.string by kernel_rfl)
  |skip
theorem read_text (h:s[i]=34) (n:Nat) (hn:litN (s.drop (i+1))=some n):AC EN5 Tryz.prog 85 [.c (.string (bs s)),.c (.int .i64 (i:Int))] (tupR ⟨4,(unquoteU (s[i]::(s.drop (i+1)).take n)).getD [],i⟩ (i+1+n) (uqE (unquoteU (s[i]::(s.drop (i+1)).take n)))):=by
 have hz:=zS s
 have hbt:=zCm hi
 have hgd:=zFB hi
 have hdr:s.drop i=s[i]::s.drop (i+1):=List.drop_eq_getElem_cons hi
 have q : ∀ n:Nat,n<256->(zk (bs s) ((i:Int)).toNat==(n:Int))=(s[i]==UInt8.ofNat n):=fun n hn=>by rw [hbt];exact zFY _ n hn
 have hsg:=zAR ((bs s).data.toList.getD ((i:Int)).toNat 0)
 have f0:zAr ((bs s).data.toList.getD ((i:Int)).toNat 0)=false:=by rw [Int.toNat_natCast,hgd,h];rfl
 have f1:(zk (bs s) ((i:Int)).toNat==46)=false:=(q 46 (by omega)).trans (by rw [h];rfl)
 have f2:(zk (bs s) ((i:Int)).toNat==45)=false:=(q 45 (by omega)).trans (by rw [h];rfl)
 have f3:decide (zk (bs s) ((i:Int)).toNat>=48)=false:=by rw [hbt,h];rfl
 have k1:((zk (bs s) ((i:Int)).toNat==45)==false)=false->False:=fun h2=>by rw [f2] at h2;cases h2
 have k2:(decide (zk (bs s) ((i:Int)).toNat>=48)==true)=true->False:=fun h2=>by rw [f3] at h2;cases h2
 have hlt:=zCZ ((bs s).data.toList.getD ((i:Int)).toNat 0)
 have f5:wrdU ((bs s).data.toList.getD ((i:Int)).toNat 0)=false:=by rw [Int.toNat_natCast,hgd,h];rfl
 have f6:(zk (bs s) ((i:Int)).toNat==34)=true:=(q 34 (by omega)).trans (by rw [h];rfl)
 have hll:=zGc s i hi (by omega)
 have hln:=zHN _ n hn
 rw [List.length_drop] at hln
 have hv:litV s i=((i+1+n:Nat):Int):=by unfold litV;rw [hn]
 rw [hv] at hll
 have f7:decide (((i+1+n:Nat):Int)<0)=false:=decide_eq_false (by omega)
 have hx:(bs s).extract ((i:Int)).toNat (((i+1+n:Nat):Int)).toNat=bs (s[i]::(s.drop (i+1)).take n):=by
  rw [Int.toNat_natCast,Int.toNat_natCast,zGm s (by omega) (by omega),hdr,show i+1+n-i=n+1 by omega,List.take_succ_cons]
 have hsz:((bs s).extract ((i:Int)).toNat (((i+1+n:Nat):Int)).toNat).size<=100000:=by rw [ByteArray.size_extract];omega
 have huq:=zI8 _ hsz
 unfold uqVV at huq
 have htx:tx ((bs s).extract ((i:Int)).toNat (((i+1+n:Nat):Int)).toNat)=s[i]::(s.drop (i+1)).take n:=by rw [hx];exact zAi _
 rw [htx] at huq
 refine zG 116 Tryz.func85 rfl rfl rfl rfl ?_
 intro s0 w he
 repeat' (first
|apply zAZ rfl rfl rfl
 . conv=>lhs;whnf
 . first | rfl | assumption
 . conv=>lhs;whnf
 . first | exact bF1 ‹_› | exact bF2 ‹_› | rfl
|apply zM
 . conv=>lhs;whnf
 . assumption
|apply zH
 . conv=>lhs;whnf
 . assumption
|exact (k1 ‹_›).elim
|exact (k2 ‹_›).elim
|refine zB ?_
|refine zC ?_
|refine zI ?_
|apply aw_1
 conv=>whnf
 refine ⟨?_,trivial⟩
|apply zZ rfl rfl
 . conv=>lhs;whnf
 . conv=>lhs;whnf
 . first | exact bF1 ‹_› | exact bF2 ‹_›
|apply s_1
 conv=>whnf;arg 1;arg 4;arg 3;whnf
 refine ⟨?_,?_⟩
|apply zd rfl
 . conv=>lhs;whnf
 . conv=>lhs;whnf
 . first | exact hsg | exact hlt | exact hll | exact huq
|apply zX rfl rfl rfl
 . conv=>lhs;whnf
 . conv=>lhs;whnf;arg 1;whnf
 . conv=>lhs;whnf;arg 1;whnf
 . exact ⟨by kernel_rfl,by kernel_rfl⟩
 . rfl
|apply zF rfl
 . conv=>lhs;whnf
 . conv=>lhs;whnf
 . first | rfl | assumption
 . conv=>lhs;whnf;arg 2;whnf
|apply zo rfl
 . conv=>lhs;whnf
 . conv=>lhs;whnf
 . first | rfl | assumption
|apply zL rfl
 . conv=>lhs;whnf
 . conv=>lhs;whnf
 . conv=>lhs;whnf;arg 2;whnf
|refine zO ?_
|refine zT ?_
|refine zD ?_
|exact trivial
|intro hg)
 . exact ⟨_,_,_,rfl,rfl,rfl,rfl⟩
 all_goals first
  |exact za (by omega)
  |exact ⟨by kernel_rfl,by omega,by omega⟩
  |exact ⟨by kernel_rfl,by omega,by omega,by omega⟩
  |(rw [hbt];exact zAh _)
  |exact (show Tryz.prog.underlying _=some TypeDesc.string by kernel_rfl)
  |skip
theorem read_ac:AC EN5 Tryz.prog 85 [.c (.string (bs s)),.c (.int .i64 (i:Int))] (readV (s.drop i) i):=by
 have hdr:s.drop i=s[i]::s.drop (i+1):=List.drop_eq_getElem_cons hi
 rw [hdr]
 unfold readV
 simp only []
 by_cases h0:zAr s[i]=true
 . rw [if_pos h0];exact read_sign hi hs h0
 rw [if_neg h0]
 have h0:zAr s[i]=false:=by simpa using h0
 by_cases h46:s[i]=46
 . rw [if_pos (by simp [h46])]
   have hp:Lib.hasPrefix (s.drop i) [46,46,46]=decide ((s.drop (i+1)).take 2=[46,46]):=by
    rw [hdr,h46]
    show List.isPrefixOf [46,46] (s.drop (i+1))=_
    rw [Bool.eq_iff_iff]
    simp only [List.isPrefixOf_iff_prefix,decide_eq_true_eq,List.prefix_iff_eq_take]
    exact eq_comm
   have:=read_dots hi hs h0 h46 _ hp (fun hd=>by
    have:=congrArg List.length (of_decide_eq_true hd)
    rw [List.length_take,List.length_drop] at this
    simp at this;omega)
   simpa using this
 rw [if_neg (by simpa using h46)]
 by_cases hd:(s[i]==45||digU s[i])=true
 . rw [if_pos hd]
   refine read_num hi hs h0 h46 ?_
   by_cases h45:s[i]=45
   . exact .inl h45
   . exact .inr ⟨h45,by simpa [h45] using hd⟩
 rw [if_neg hd]
 have hd:(s[i]==45||digU s[i])=false:=by simpa using hd
 rw [Bool.or_eq_false_iff] at hd
 have h45:s[i]≠45:=by simpa using hd.1
 have hr:s[i].toNat<48\/57<s[i].toNat:=by
  have:=hd.2
  simp only [digU,decide_eq_false_iff_not] at this
  omega
 by_cases hw:wrdU s[i]=true
 . rw [if_pos hw]
   by_cases hl:spanN wrdU (s.drop (i+1))+1>64
   . rw [if_pos hl];exact read_long hi hs h0 h46 h45 hr hw (by omega)
   . rw [if_neg hl];exact read_word hi hs h0 h46 h45 hr hw (by omega)
 rw [if_neg hw]
 have hw:wrdU s[i]=false:=by simpa using hw
 by_cases h34:s[i]=34
 . rw [if_pos (by simp [h34])]
   cases hn:litN (s.drop (i+1)) with
   |none=>exact read_open hi hs h34 hn
   |some n=>exact read_text hi hs h34 n hn
 . rw [if_neg (by simpa using h34)]
   exact read_none hi hs h0 h46 h45 hr hw h34
end
theorem rd_split (c:UInt8) (r:List UInt8) (i:Nat) :
 (∀ k t n,readU (c::r) = .ok (k,t,n)->readV (c::r) i=tupR ⟨k,t,i⟩ (i+n) 0)/\(∀ e,readU (c::r) = .error e->e≠0 /\ ∃ t k,readV (c::r) i=tupR t k e):=by
 unfold readU readV
 simp only []
 have f3 : ∀ e:Int,(3:Int)=e->e≠0 /\ ∃ t k,failR=tupR t k e:=fun e he=>by subst he;exact ⟨by decide,_,_,rfl⟩
 by_cases h0:zAr c=true
 . rw [if_pos h0,if_pos h0]
   exact ⟨fun k t n h=>by cases h;rfl,fun e h=>by cases h⟩
 rw [if_neg h0,if_neg h0]
 by_cases h46:(c==46)=true
 . rw [if_pos h46,if_pos h46]
   by_cases hp:r.take 2=[46,46]
   . rw [if_pos hp,if_pos hp]
     exact ⟨fun k t n h=>by cases h;rfl,fun e h=>by cases h⟩
   . rw [if_neg hp,if_neg hp]
     exact ⟨fun k t n h=>(by cases h),fun e h=>by cases h;exact f3 _ rfl⟩
 rw [if_neg h46,if_neg h46]
 by_cases hd:(c==45||digU c)=true
 . rw [if_pos hd,if_pos hd]
   by_cases hn:nerU (numU (c::r.take (spanN wrdU r)))=0
   . rw [if_pos hn]
     refine ⟨fun k t n h => ?_,fun e h=>by cases h⟩
     cases h
     rw [hn,show i+1+spanN wrdU r=i+(spanN wrdU r+1) by omega]
   . rw [if_neg hn]
     exact ⟨fun k t n h=>(by cases h),fun e h=>by cases h;exact ⟨hn,_,_,rfl⟩⟩
 rw [if_neg hd,if_neg hd]
 have hd:(c==45||digU c)=false:=by simpa using hd
 rw [Bool.or_eq_false_iff] at hd
 have hwl:wrdU c=letU c:=by unfold wrdU;rw [hd.2,Bool.or_false]
 rw [hwl]
 by_cases hw:letU c=true
 . rw [if_pos hw,if_pos hw]
   by_cases hl:spanN wrdU r+1>64
   . rw [if_pos hl,if_pos hl]
     exact ⟨fun k t n h=>(by cases h),fun e h=>by cases h;exact f3 _ rfl⟩
   . rw [if_neg hl,if_neg hl]
     refine ⟨fun k t n h => ?_,fun e h=>by cases h⟩
     cases h
     rw [show i+1+spanN wrdU r=i+(spanN wrdU r+1) by omega]
 rw [if_neg hw,if_neg hw]
 by_cases h34:(c==34)=true
 . rw [if_pos h34,if_pos h34]
   cases hn:litN r with
   |none=>exact ⟨fun k t n h=>(by cases h),fun e h=>by cases h;exact f3 _ rfl⟩
   |some n =>
    dsimp only
    cases hu:unquoteU (c::r.take n) with
    |none=>exact ⟨fun k t n h=>(by cases h),fun e h=>by cases h;exact ⟨by decide,_,_,rfl⟩⟩
    |some t =>
     refine ⟨fun k t n h => ?_,fun e h=>by cases h⟩
     cases h
     show tupR ⟨4,t,i⟩ (i+1+n) 0=tupR ⟨4,t,i⟩ (i+(n+1)) 0
     rw [show i+1+n=i+(n+1) by omega]
 . rw [if_neg h34,if_neg h34]
   exact ⟨fun k t n h=>(by cases h),fun e h=>by cases h;exact f3 _ rfl⟩
theorem zHW:zAB Tryz.prog 61=some (143,32):=by kernel_rfl
def scanG (f:Nat) (l:List UInt8) (k:Nat):Except (Nat × Int) (List Tok):=
 match l with
 |[] => .ok [⟨5,[],k⟩]
 |c::r=>match zFo (c::r) k with
  |.error e => .error (k,e)
  |.ok (t,n)=>match scanF f ((c::r).drop n) (k+n) with
   |.error e => .error e
   |.ok ts => .ok (t::ts)
theorem scan_G (f:Nat) (l:List UInt8) (i:Nat):scanF (f+1) l i=scanG f (l.drop (skipM false l)) (i+skipM false l):=by
 have hle:=zBu false l
 rw [scanF]
 unfold scanG
 cases h:l.drop (skipM false l) with
 |nil =>
  have:=congrArg List.length h
  rw [List.length_drop] at this
  have e:skipM false l=l.length:=by simp at this;omega
  rw [e]
 |cons c r=>rfl
def ahead (acc:List Tok):Except (Nat × Int) (List Tok)->Except (Nat × Int) (List Tok)
 |.error e => .error e
 |.ok ts => .ok (acc++ts)
noncomputable def scanW:Except (Nat × Int) (List Tok)->V
 |.ok ts => .tup [.sl 143 (ts.map tokD),.c (.int .i64 0),.c (.int .i64 0)]
 |.error x => .tup [.c (.slice none 0 0),.c (.int .i64 (x.1:Int)),.c (.int .i64 x.2)]
theorem zGV (r:Except (Nat × Int) (List Tok)):(scanW r).pure=true:=by cases r<;>rfl
noncomputable def HSn (s:List UInt8) (k:Nat) (acc:List Tok):Vst 44:=
 stS 44 [(0,.c (.string (bs s))),(5,.own 5 143 (acc.map tokD)),(6,.c (.int .i64 (k:Int)))] [(5,.tok 143 (acc.map tokD).length)]
theorem scan_big (s:List UInt8) (hs:65536<s.length) (hs2:s.length<=4000000000):AC EN5 Tryz.prog 37 [.c (.string (bs s))] (scanW (zEA s)):=by
 have hz:=zS s
 have e:zEA s = .error (65536,4):=by unfold zEA;rw [if_pos hs]
 have f0:decide (((bs s).size:Int)>65536)=true:=decide_eq_true (by omega)
 rw [e]
 refine zG 44 Tryz.func37 rfl rfl rfl (zGV _) ?_
 intro s0 w he
 repeat' (first
|apply zM
 . conv=>lhs;whnf
 . assumption
|refine zB ?_
|refine zC ?_
|refine zI ?_
|apply aw_1
 conv=>whnf
 refine ⟨?_,trivial⟩
|apply s_1
 conv=>whnf;arg 1;arg 4;arg 3;whnf
 refine ⟨?_,?_⟩
|refine zO ?_
|refine zD ?_
|exact trivial)
 . exact ⟨_,_,_,rfl,rfl,rfl,rfl⟩
 all_goals exact (show Tryz.prog.underlying _=some TypeDesc.string by kernel_rfl)
theorem scan_ac (s:List UInt8) (hs:s.length<=4000000000):AC EN5 Tryz.prog 37 [.c (.string (bs s))] (scanW (zEA s)):=by
 by_cases hbig:65536<s.length
 . exact scan_big s hbig hs
 have hz:=zS s
 have f0:decide (((bs s).size:Int)>65536)=false:=decide_eq_false (by omega)
 have hsk0:=skip_ac s 0 (by omega) (by omega)
 rw [Nat.zero_add,List.drop_zero] at hsk0
 have hkl:=zBu false s
 have e0:zEA s=ahead [] (scanG s.length (s.drop (skipM false s)) (skipM false s)):=by
  unfold zEA
  rw [if_neg hbig,scan_G,Nat.zero_add]
  cases scanG s.length (s.drop (skipM false s)) (skipM false s)<;>rfl
 refine zG 44 Tryz.func37 rfl rfl rfl (zGV _) ?_
 intro s0 w he
 repeat' (first
|apply zH
 . conv=>lhs;whnf
 . assumption
|refine zB ?_
|refine zC ?_
|refine zI ?_
|apply aw_1
 conv=>whnf
 refine ⟨?_,trivial⟩
|apply s_1
 conv=>whnf;arg 1;arg 4;arg 3;whnf
 refine ⟨?_,?_⟩
|apply zd rfl
 . conv=>lhs;whnf
 . conv=>lhs;whnf
 . first | exact hsk0
|exact trivial)
 refine zf (Sub.own (t:=5) (e:=143) rfl rfl) ?_
 refine zi (fun j st => ∃ k acc f,k+j=s.length/\acc.length<=k/\s.length<f+k+1/\zEA s=ahead acc (scanG f (s.drop k) k)/\Sub (cx EN5 Tryz.prog s0 w he) st (HSn s k acc)) (s.length-skipM false s) ⟨skipM false s,[],s.length,by omega,by simp,by omega,e0,?_⟩ ?_
 . exact Sub.live ⟨rfl,rfl,rfl,trivial⟩ ⟨rfl,trivial⟩
 rintro j st ⟨k,acc,f,hkj,hacc,hf,hI,hs2⟩
 refine zf hs2 ?_
 clear hs2 hsk0
 rw [hI]
 clear hI e0
 by_cases hk:k<s.length
 . have f1:decide ((k:Int)<((bs s).size:Nat))=true:=decide_eq_true (by omega)
   have hrd:=read_ac hk (by omega)
   have hdr:s.drop k=s[k]::s.drop (k+1):=List.drop_eq_getElem_cons hk
   obtain ⟨r1,r2⟩:=rd_split s[k] (s.drop (k+1)) k
   rw [hdr] at hrd |-
   cases hr:readU (s[k]::s.drop (k+1)) with
   |error e =>
    obtain ⟨he0,t',k',ht⟩:=r2 e hr
    rw [ht] at hrd
    unfold tupR at hrd
    have hrt:zFo (s[k]::s.drop (k+1)) k = .error e:=by unfold zFo;rw [hr]
    have eG:scanG f (s[k]::s.drop (k+1)) k = .error (k,e):=by unfold scanG;simp only [hrt]
    rw [eG]
    have f2:(e != 0)=true:=by simpa using he0
    repeat' (first
|apply zM
 . conv=>lhs;whnf
 . assumption
|refine zB ?_
|refine zC ?_
|refine zI ?_
|apply aw_1
 conv=>whnf
 refine ⟨?_,trivial⟩
|apply s_1
 conv=>whnf;arg 1;arg 4;arg 3;whnf
 refine ⟨?_,?_⟩
|apply zd rfl
 . conv=>lhs;whnf
 . conv=>lhs;whnf
 . first | exact hrd
|apply zX rfl rfl rfl
 . conv=>lhs;whnf
 . conv=>lhs;whnf;arg 1;whnf
 . conv=>lhs;whnf;arg 1;whnf
 . exact ⟨by kernel_rfl,by kernel_rfl⟩
 . rfl
|refine zO ?_
|refine zT ?_
|refine zAC ?_
|refine zD ?_
|exact trivial)
    . exact ⟨_,_,_,rfl,rfl,rfl,rfl⟩
    all_goals exact (show Tryz.prog.underlying _=some TypeDesc.string by kernel_rfl)
   |ok p =>
    obtain ⟨kk,t,n⟩:=p
    have hn:=zHG hr
    have hdl:(s[k]::s.drop (k+1)).length=s.length-k:=by rw [<- hdr,List.length_drop]
    rw [hdl] at hn
    rw [r1 kk t n hr] at hrd
    unfold tupR at hrd
    have hsk:=skip_ac s (k+n) (by omega) (by omega)
    have hsl:=zBu false (s.drop (k+n))
    rw [List.length_drop] at hsl
    have hrt:zFo (s[k]::s.drop (k+1)) k = .ok (⟨kk,t,k⟩,n):=by unfold zFo;rw [hr]
    obtain ⟨f',rfl⟩ : ∃ f',f=f'+1:=⟨f-1,by omega⟩
    have hdn:(s[k]::s.drop (k+1)).drop n=s.drop (k+n):=by rw [<- hdr,List.drop_drop]
    have eG:ahead acc (scanG (f'+1) (s[k]::s.drop (k+1)) k)=ahead (acc++[⟨kk,t,k⟩]) (scanG f' (s.drop (k+n+skipM false (s.drop (k+n)))) (k+n+skipM false (s.drop (k+n)))):=by
     conv=>lhs;unfold scanG
     simp only [hrt,hdn]
     rw [scan_G,List.drop_drop]
     cases scanG f' (s.drop (k+n+skipM false (s.drop (k+n)))) (k+n+skipM false (s.drop (k+n))) with
     |error x=>rfl
     |ok ts=>show Except.ok (acc++_::ts)=Except.ok ((acc++[_])++ts);rw [List.append_assoc];rfl
    rw [eG]
    repeat' (first
|apply zAc [tokD ⟨kk,t,k⟩] rfl rfl
 . conv=>lhs;whnf
 . first | exact zHW | (conv=>lhs;whnf;arg 1;whnf)
 . rfl
 . rfl
 . repeat' (first | exact trivial | apply And.intro | rfl)
|apply zM
 . conv=>lhs;whnf
 . assumption
|refine zB ?_
|refine zC ?_
|refine zI ?_
|refine zY ?_
|apply aw_1
 conv=>whnf
 refine ⟨?_,trivial⟩
|apply s_1
 conv=>whnf;arg 1;arg 4;arg 3;whnf
 refine ⟨?_,?_⟩
|apply zd rfl
 . conv=>lhs;whnf
 . conv=>lhs;whnf
 . first | exact hrd | exact hsk
|apply zX rfl rfl rfl
 . conv=>lhs;whnf
 . conv=>lhs;whnf;arg 1;whnf
 . conv=>lhs;whnf;arg 1;whnf
 . exact ⟨by kernel_rfl,by kernel_rfl⟩
 . rfl
|apply zCD rfl rfl
 . conv=>lhs;whnf
 . first | exact zHW | (conv=>lhs;whnf;arg 1;whnf)
 . first | exact fun _=>rfl | (intro _;kernel_rfl)
 . conv=>lhs;whnf
 . conv=>lhs;whnf;arg 1;whnf
 . conv=>lhs;whnf
|exact trivial)
    . refine zE (j':=j-(n+skipM false (s.drop (k+n)))) (by omega) ⟨k+n+skipM false (s.drop (k+n)),acc++[⟨kk,t,k⟩],f',by omega,by rw [List.length_append];simp only [List.length_cons,List.length_nil];omega,by omega,rfl,Sub.live ⟨rfl,?_,rfl,trivial⟩ ⟨?_,trivial⟩⟩
      . show V.own 5 _ (acc.map tokD++[tokD ⟨kk,t,k⟩])=V.own 5 _ ((acc++[(⟨kk,t,k⟩:Tok)]).map tokD)
        rw [List.map_append];rfl
      . show some (Res.tok _ ((acc.map tokD).length+1))=some (Res.tok _ ((acc++[(⟨kk,t,k⟩:Tok)]).map tokD).length)
        simp
    . refine ⟨by simp,?_,?_⟩<;>simp only [List.length_cons,List.length_nil,List.length_map,maxLen]<;>omega
    . exact (show Tryz.prog.underlying _=some TypeDesc.string by kernel_rfl)
 . have f1:decide ((k:Int)<((bs s).size:Nat))=false:=decide_eq_false (by omega)
   have hdr:s.drop k=[]:=List.drop_of_length_le (by omega)
   rw [hdr]
   have ek:k=s.length:=by omega
   repeat' (first
|apply zAc [tokD ⟨5,[],(bs s).size⟩] rfl rfl
 . conv=>lhs;whnf
 . first | exact zHW | (conv=>lhs;whnf;arg 1;whnf)
 . rfl
 . rfl
 . repeat' (first | exact trivial | apply And.intro | rfl)
|apply zH
 . conv=>lhs;whnf
 . assumption
|refine zB ?_
|refine zC ?_
|refine zI ?_
|apply aw_1
 conv=>whnf
 refine ⟨?_,trivial⟩
|apply s_1
 conv=>whnf;arg 1;arg 4;arg 3;whnf
 refine ⟨?_,?_⟩
|apply zCD rfl rfl
 . conv=>lhs;whnf
 . first | exact zHW | (conv=>lhs;whnf;arg 1;whnf)
 . first | exact fun _=>rfl | (intro _;kernel_rfl)
 . conv=>lhs;whnf
 . conv=>lhs;whnf;arg 1;whnf
 . conv=>lhs;whnf
|refine zN ?_
|refine zJ rfl ?_
|refine zK ?_
|refine zD ?_
|exact trivial)
   . refine ⟨_,_,_,rfl,rfl,rfl,?_⟩
     show V.tup [.sl 143 ((acc++[(⟨5,[],k⟩:Tok)]).map tokD),.c (.int .i64 0),.c (.int .i64 0)]=V.tup [.sl 143 (acc.map tokD++[tokD ⟨5,[],(bs s).size⟩]),.c (.int .i64 0),.c (.int .i64 0)]
     rw [ek,hz,List.map_append];rfl
   . refine ⟨by simp,?_,?_⟩<;>simp only [List.length_cons,List.length_nil,List.length_map,maxLen]<;>omega
   all_goals exact (show Tryz.prog.underlying _=some TypeDesc.string by kernel_rfl)
 exact (show Tryz.prog.underlying _=some TypeDesc.string by kernel_rfl)
end
section
open Go.RowKit
attribute [local irreducible] wpList Calls Code.wp AW AWo OpOk seqK zAG zAP loopK endK AC zt Yld Sub
attribute [local irreducible] ACB ACX ACE absLexG YldG
section
variable {s:List UInt8}
theorem kq_1 (h:s=zID):zBw s=1:=if_pos h
theorem kq_2 (h1:s≠zID) (h:s=mutT):zBw s=2:=(if_neg h1).trans (if_pos h)
theorem kq_3 (h1:s≠zID) (h2:s≠mutT) (h:s=subT):zBw s=3:=(if_neg h1).trans ((if_neg h2).trans (if_pos h))
theorem kq_4 (h1:s≠zID) (h2:s≠mutT) (h:s≠subT):zBw s=0:=(if_neg h1).trans ((if_neg h2).trans (if_neg h))
end
theorem kind_ac (s:List UInt8):AC EN5 Tryz.prog 98 [.c (.string (bs s))] (.c (.int .i64 (zBw s))):=by
 refine zG 10 Tryz.func98 rfl rfl rfl rfl ?_
 intro s0 w he
 repeat' (first
|refine zB ?_
|refine zC ?_
|refine zI ?_
|refine zY ?_
|apply aw_1
 conv=>whnf
 refine ⟨?_,trivial⟩
|apply s_1
 conv=>whnf;arg 1;arg 4;arg 3;whnf
 refine ⟨?_,?_⟩
|refine zV (by conv=>lhs;whnf) ?_ ?_<;>intro hb
|refine zO ?_
|refine zT ?_
|refine zD ?_
|refine ⟨_,by conv=>lhs;whnf;arg 2;whnf,?_⟩;conv=>rhs;whnf
|exact trivial)
 . rw [kq_1 (zEa hb)]
 . rw [kq_2 (zBv ‹_›) (zEa hb)]
 . rw [kq_3 (zBv ‹_›) (zBv ‹_›) (zEa hb)]
 . rw [kq_4 (zBv ‹_›) (zBv ‹_›) (zBv hb)]
theorem zIg:zAB Tryz.prog 38=some (57,72):=by kernel_rfl
theorem zHX:zAB Tryz.prog 39=some (116,56):=by kernel_rfl
noncomputable def VQ (d:D):V:=.agg (cellsV Tryz.prog 12 41 d)
noncomputable def HdQ (n:Nat) (ops frs:List D) (z:PS):Vst 89:=
 stS 89 [(0,.bx (pn 0) 0),(2,.bx 2 0),(3,.bx 3 0),(4,.c (.int .i64 (n:Int)))] [(pn 0,boxP z),(2,.box 41 [.c (.slice none 0 0),.c (.slice none 0 0)]),(3,.box 41 [.own 903 57 ops,.own 904 116 frs]),(903,.tok 57 ops.length),(904,.tok 116 frs.length)]
section
variable {f n:Nat} {ops frs:List D} {x:PS}
def wordQ (x:PS):Prop:=(hdT x).k=2/\(0<zBw (hdT x).s\/(hdT x).s=zIW)
theorem dc_end (h:n≠0/\(hdT x).k=5):docF (f+1) n ops frs x = .ok ((ops,frs),x):=by rw [docF,if_pos h]
theorem dc_un (h : ¬ (n≠0/\(hdT x).k=5)) (hw : ¬ wordQ x) (hs:isS x [123]=false):docF (f+1) n ops frs x = .error ((hdT x).i,3):=by
 rw [docF,if_neg h];exact if_pos ⟨hw,by rw [hs];decide⟩
theorem dc_lim (h : ¬ (n≠0/\(hdT x).k=5)) (hw:wordQ x\/isS x [123]=true) (hn:64<=n):docF (f+1) n ops frs x = .error ((hdT x).i,4):=by
 rw [docF,if_neg h]
 exact (if_neg (fun g=>hw.elim g.1 g.2)).trans (if_pos hn)
theorem dc_set (h : ¬ (n≠0/\(hdT x).k=5)) (hw : ¬ wordQ x) (hs:isS x [123]=true) (hn:n<64):docF (f+1) n ops frs x=thenQ (setQ x) fun ss y=>docF f (n+1) (ops++[opD 1 [] [] ss]) frs y:=by
 rw [docF,if_neg h]
 exact (if_neg (fun g=>g.2 hs)).trans ((if_neg (by omega)).trans (if_pos hw))
theorem dc_op (h : ¬ (n≠0/\(hdT x).k=5)) (hw:wordQ x) (hn:n<64) (hk:0<zBw (hdT x).s):docF (f+1) n ops frs x=thenQ (opQ (zBw (hdT x).s) (nxT x)) fun o y=>docF f (n+1) (ops++[o]) frs y:=by
 rw [docF,if_neg h]
 exact (if_neg (fun g=>g.1 hw)).trans ((if_neg (by omega)).trans ((if_neg (fun g=>g hw)).trans (if_pos hk)))
theorem dc_frag (h : ¬ (n≠0/\(hdT x).k=5)) (hw:wordQ x) (hn:n<64) (hk : ¬ 0<zBw (hdT x).s):docF (f+1) n ops frs x=thenQ (fragQ (nxT x)) fun o y=>docF f (n+1) ops (frs++[o]) y:=by
 rw [docF,if_neg h]
 exact (if_neg (fun g=>g.1 hw)).trans ((if_neg (by omega)).trans ((if_neg (fun g=>g hw)).trans (if_neg hk)))
end
theorem doc_ace (x:PS) (h:En x) (hlen:x.ts.length<=100000):ACE EN5 Tryz.prog 53 [.bx (pn 0) 0] [boxP x] (outQ (fun p=>VQ (queD p.1 p.2)) (docF (x.ts.length+1) 0 [] [] x)):=by
 refine zAS (fn:=Tryz.f53) 89 Tryz.func53 rfl rfl ?_
 intro pas w0 w he hp
 repeat' (first
|refine zB ?_
|refine zC ?_
|refine zI ?_
|apply aw_1
 conv=>whnf
 refine ⟨?_,trivial⟩
|apply s_1
 conv=>whnf;arg 1;arg 4;arg 3;whnf
 refine ⟨?_,?_⟩
|exact trivial)
 refine zf ((Sub.ownF (m:=3) (q:=903) (i:=0) (e:=57) rfl (by decide) rfl rfl rfl).trans (Sub.ownF (m:=3) (q:=904) (i:=1) (e:=116) rfl (by decide) rfl rfl rfl)) ?_
 refine zi (fun j st => ∃ z n ops frs,En z/\z.ts.length<j/\z.ts.length<=x.ts.length/\ops.length+frs.length=n/\n<=64/\docF (x.ts.length+1) 0 [] [] x=docF j n ops frs z/\Sub (cxE EN5 Tryz.prog pas w0 w he hp (outQ (fun p=>VQ (queD p.1 p.2)) (docF (x.ts.length+1) 0 [] [] x))) st (HdQ n ops frs z)) (x.ts.length+1) ⟨x,0,[],[],h,by omega,by omega,rfl,by omega,rfl,?_⟩ ?_
 . exact Sub.live ⟨rfl,rfl,rfl,rfl,trivial⟩ ⟨rfl,rfl,rfl,rfl,rfl,trivial⟩
 rintro j st ⟨z,n,ops,frs,hz,hzj,hzl,hof,hn64,hI,hsub⟩
 refine zf hsub ?_
 clear hsub
 rw [hI]
 clear hI
 cases j with
 |zero=>omega
 |succ j =>
 have hs:=zAw hz [123]
 have hli:=zEh hz n 64
 have hf:=zBG (hdT z) 3
 have hnx:=zBN hz
 have hse:=zHD z hz (by omega)
 have hkd:=kind_ac
 have hop : ∀ k,ACE EN5 Tryz.prog 104 [.bx (pn 0) 0,.c (.int .i64 k)] [boxP (nxT z)] (outQ VO (opQ k (nxT z))):=fun k=>op_ace k (nxT z) hz.nx0 (by have:=zBg z;omega)
 have hfr:=frag_ace (nxT z) hz.nx0 (by have:=zBg z;omega)
 obtain ⟨t,r,ht⟩:=hz.cons
 have hh:=zAt ht
 rw [hh] at hf
 by_cases hE:n≠0/\(hdT z).k=5
 . rw [dc_end hE]
   rw [hh] at hE
   have K1:(((n:Int)==0)==false)=false->False:=fun h=>hE.1 (by simpa using h)
   have K2:(t.k != 5)=true->False:=fun h=>by rw [hE.2] at h;cases h
   obtain ⟨zts,zvr,znd⟩:=z
   cases ht
   repeat' (first
|apply z7 (VQ (queD ops frs)) rfl rfl
 . conv=>lhs;whnf;arg 2;whnf
 . repeat' (first | exact VLe.refl _ | exact VLe.nil _ | exact VLe.lit _ _ | exact VLe.own _ _ _ | apply VLe.agg | apply VLeL.cons | exact VLeL.nil)
|exact (K1 ‹_›).elim
|exact (K2 ‹_›).elim
|refine zB ?_
|refine zC ?_
|refine zI ?_
|apply aw_1
 conv=>whnf
 refine ⟨?_,trivial⟩
|apply zZ rfl rfl
 . conv=>lhs;whnf
 . conv=>lhs;whnf
 . first | exact bF1 ‹_› | exact bF2 ‹_›
|apply s_1
 conv=>whnf;arg 1;arg 4;arg 3;whnf
 refine ⟨?_,?_⟩
|apply zX rfl rfl rfl
 . conv=>lhs;whnf
 . conv=>lhs;whnf;arg 1;whnf
 . conv=>lhs;whnf;arg 1;whnf
 . exact ⟨by kernel_rfl,by kernel_rfl⟩
 . rfl
|apply zF rfl
 . conv=>lhs;whnf
 . conv=>lhs;whnf
 . first | rfl | assumption
 . conv=>lhs;whnf;arg 2;whnf
|apply zL rfl
 . conv=>lhs;whnf
 . conv=>lhs;whnf
 . conv=>lhs;whnf;arg 2;whnf
|refine zV (by conv=>lhs;whnf) ?_ ?_<;>intro hb
|refine zN ?_
|refine zJ rfl ?_
|refine zK ?_
|apply zAV rfl
 . conv=>lhs;whnf;arg 2;whnf
 . conv=>lhs;whnf;arg 1;whnf
|exact trivial
|intro hg)
   all_goals first
    |exact zCE _ _
    |rfl
    |skip
 . have hE2 : ¬ (n≠0/\t.k=5):=by rw [<- hh];exact hE
   have K0:(((n:Int)==0)==false)=true->(t.k != 5)=false->False:=fun h1 h2=>hE2 ⟨fun h=>(by rw [h] at h1;cases h1),by simpa using h2⟩
   have hop:=hop (zBw t.s)
   by_cases hW:wordQ z
   . by_cases hK:0<zBw (hdT z).s
     . have e1:n<64->docF (j+1) n ops frs z=thenQ (opQ (zBw (hdT z).s) (nxT z)) fun o y=>docF j (n+1) (ops++[o]) frs y:=fun hn=>dc_op hE hW hn hK
       have e2:64<=n->docF (j+1) n ops frs z = .error ((hdT z).i,4):=fun hn=>dc_lim hE (.inl hW) hn
       have hW1:=hW.1
       rw [hh] at hW1 hK e1 e2
       have K1:((t.k==2)==true)=false->False:=fun h=>by rw [hW1] at h;cases h
       have K2:decide (zBw t.s>0)=false->False:=fun h=>by simp at h;omega
       have K3:(decide (zBw t.s>0)==false)=true->False:=fun h=>by simp at h;omega
       obtain ⟨zts,zvr,znd⟩:=z
       cases ht
       repeat' (first
|apply zAY rfl rfl rfl
 . conv=>lhs;whnf
 . first | rfl | assumption
 . conv=>lhs;whnf
 . first | exact bT1 ‹_› | exact bT2 ‹_› | rfl
|apply zCB 9 ([(1,[3])]) ([(4,[1000000]),(6,[903]),(8,[3])]) rfl (by kernel_rfl) (by kernel_rfl) (by kernel_rfl)
|apply zDn
|apply zDm rfl
 . conv=>lhs;whnf
 . conv=>lhs;whnf;arg 2;whnf
|apply zJg rfl rfl
 . conv=>lhs;whnf
 . first | exact zIg | (conv=>lhs;whnf;arg 1;whnf)
 . first | exact fun _=>rfl | (intro _;kernel_rfl)
 . conv=>lhs;whnf
 . rfl
 . conv=>lhs;whnf;arg 1;whnf
 . conv=>lhs;whnf
|apply zB6 rfl rfl rfl
 . conv=>lhs;whnf
 . rfl
 . conv=>lhs;whnf;arg 1;whnf
 . conv=>lhs;whnf;arg 1;whnf
 . exact ⟨by kernel_rfl,by kernel_rfl⟩
 . rfl
|exact Or.inl ⟨pn 0,_,rfl⟩
|refine Or.inr ?_
|apply g_pr zq zR (default:D) rfl
 . conv=>lhs;whnf
 . conv=>lhs;whnf
 . rfl
 . conv=>lhs;whnf;arg 1;whnf
 . first | exact zAH _
 . first | exact hop
 . exact fun _=>rfl
 . first | (intro _ _;simp only [renL,renV,ren_cells];done) | exact fun _ _=>rfl
 . rfl
 refine fun ee hq tm rs => ?_
 change _=Out.die _
 rotate_left 1
 refine fun aa xx hq => ?_
 rotate_left 1
 refine fun ee hq => ?_
|show inO _ _=true;rfl
|apply zDo [aa] rfl rfl
 . conv=>lhs;whnf
 . first | exact zIg | (conv=>lhs;whnf;arg 1;whnf)
 . rfl
 . rfl
 . repeat' (first | exact trivial | apply And.intro | rfl)
|apply zDo [default] rfl rfl
 . conv=>lhs;whnf
 . first | exact zIg | (conv=>lhs;whnf;arg 1;whnf)
 . rfl
 . rfl
 . repeat' (first | exact trivial | apply And.intro | rfl)
|apply s_m zq zR rfl
 . conv=>lhs;whnf
 . conv=>lhs;whnf
 . rfl
 . conv=>lhs;whnf;arg 1;whnf
 . first | exact zAH _
 . first | exact hs | exact hnx
 . exact fun _=>rfl
 . exact fun _=>rfl
|apply zo rfl
 . conv=>lhs;whnf
 . conv=>lhs;whnf
 . first | rfl | assumption
|apply zFi rfl
 . conv=>lhs;whnf
 . rfl
 . rfl
|apply s_pr zq zR rfl
 . conv=>lhs;whnf
 . conv=>lhs;whnf
 . rfl
 . conv=>lhs;whnf;arg 1;whnf
 . first | exact zAH _
 . first | exact hli
 . exact fun _=>rfl
 . first | (intro _ _;simp only [renL,renV,ren_cells];done) | exact fun _ _=>rfl
 refine fun ee hq => ?_
 change _=Out.die _
 rotate_left 1
 refine fun aa xx hq => ?_
 first | (replace hq:=zAm hq;obtain ⟨hq,rfl⟩:=hq) | (cases hq;have hq:=True.intro) | skip
|exact (K0 ‹_› ‹_›).elim
|exact (K1 ‹_›).elim
|exact (K2 ‹_›).elim
|exact (K3 ‹_›).elim
|refine zB ?_
|refine zC ?_
|refine zI ?_
|refine zY ?_
|apply aw_1
 conv=>whnf
 refine ⟨?_,trivial⟩
|apply ze rfl rfl
 . conv=>lhs;whnf
 . conv=>lhs;whnf
 . first | exact bT1 ‹_› | exact bT2 ‹_›
|apply zZ rfl rfl
 . conv=>lhs;whnf
 . conv=>lhs;whnf
 . first | exact bF1 ‹_› | exact bF2 ‹_›
|apply s_1
 conv=>whnf;arg 1;arg 4;arg 3;whnf
 refine ⟨?_,?_⟩
|apply zd rfl
 . conv=>lhs;whnf
 . conv=>lhs;whnf
 . first | exact hkd _
|apply zX rfl rfl rfl
 . conv=>lhs;whnf
 . conv=>lhs;whnf;arg 1;whnf
 . conv=>lhs;whnf;arg 1;whnf
 . exact ⟨by kernel_rfl,by kernel_rfl⟩
 . rfl
|apply zF rfl
 . conv=>lhs;whnf
 . conv=>lhs;whnf
 . first | rfl | assumption
 . conv=>lhs;whnf;arg 2;whnf
|apply zL rfl
 . conv=>lhs;whnf
 . conv=>lhs;whnf
 . conv=>lhs;whnf;arg 2;whnf
|refine zV (by conv=>lhs;whnf) ?_ ?_<;>intro hb
|exact trivial
|intro hg)
       all_goals first
        |exact zCE _ _
        |exact za (by omega)
        |(refine ⟨by simp,?_,?_⟩<;>simp only [List.length_cons,List.length_nil,maxLen]<;>omega)
        |(rw [e2 (zA3 hq).1,(zA3 hq).2];rfl)
        |(rw [e1 ‹_›,then_err hq];rfl)
        |(have hx:=hz.nx0.op hq
          have hnl:=zBg ⟨t::r,zvr,znd⟩
          refine zE (j':=j) (by omega) ⟨xx,n+1,ops++[aa],frs,hx.1,by omega,by omega,by rw [List.length_append];simp only [List.length_cons,List.length_nil];omega,by omega,by rw [e1 ‹_›,zb hq],Sub.live ⟨rfl,rfl,rfl,rfl,trivial⟩ ⟨rfl,rfl,rfl,?_,rfl,trivial⟩⟩
          show some (Res.tok _ (ops.length+1))=some (Res.tok _ (ops++[aa]).length)
          rw [List.length_append];rfl)
        |skip
     . have e1:n<64->docF (j+1) n ops frs z=thenQ (fragQ (nxT z)) fun o y=>docF j (n+1) ops (frs++[o]) y:=fun hn=>dc_frag hE hW hn hK
       have e2:64<=n->docF (j+1) n ops frs z = .error ((hdT z).i,4):=fun hn=>dc_lim hE (.inl hW) hn
       have hW1:=hW.1
       have hW2:(hdT z).s=zIW:=hW.2.resolve_left hK
       rw [hh] at hW1 hW2 hK e2
       have K1:((t.k==2)==true)=false->False:=fun h=>by rw [hW1] at h;cases h
       have K2:decide (zBw t.s>0)=true->False:=fun h=>by simp at h;omega
       have K3:(decide (zBw t.s>0)==false)=false->False:=fun h=>by simp at h;omega
       have K4:((bs t.s).toList==(⟨#[102,114,97,103,109,101,110,116]⟩:ByteArray).toList)=false->False:=fun h=>zBv h hW2
       have K5:(!((bs t.s).toList==(⟨#[102,114,97,103,109,101,110,116]⟩:ByteArray).toList))=true->False:=fun h=>seq_nt h hW2
       have K6:((!((bs t.s).toList==(⟨#[102,114,97,103,109,101,110,116]⟩:ByteArray).toList))==true)=true->False:=fun h=>seq_nt (by simpa using h) hW2
       obtain ⟨zts,zvr,znd⟩:=z
       cases ht
       repeat' (first
|apply zAY rfl rfl rfl
 . conv=>lhs;whnf
 . first | rfl | assumption
 . conv=>lhs;whnf
 . first | exact bT1 ‹_› | exact bT2 ‹_› | rfl
|apply zAZ rfl rfl rfl
 . conv=>lhs;whnf
 . first | rfl | assumption
 . conv=>lhs;whnf
 . first | exact bF1 ‹_› | exact bF2 ‹_› | rfl
|apply zCB 8 ([(1,[3])]) ([(3,[1000000]),(5,[904]),(7,[3])]) rfl (by kernel_rfl) (by kernel_rfl) (by kernel_rfl)
|apply zDn
|apply zDm rfl
 . conv=>lhs;whnf
 . conv=>lhs;whnf;arg 2;whnf
|apply zJg rfl rfl
 . conv=>lhs;whnf
 . first | exact zHX | (conv=>lhs;whnf;arg 1;whnf)
 . first | exact fun _=>rfl | (intro _;kernel_rfl)
 . conv=>lhs;whnf
 . rfl
 . conv=>lhs;whnf;arg 1;whnf
 . conv=>lhs;whnf
|apply zB6 rfl rfl rfl
 . conv=>lhs;whnf
 . rfl
 . conv=>lhs;whnf;arg 1;whnf
 . conv=>lhs;whnf;arg 1;whnf
 . exact ⟨by kernel_rfl,by kernel_rfl⟩
 . rfl
|exact Or.inl ⟨pn 0,_,rfl⟩
|refine Or.inr ?_
|apply g_pr zq zR (default:D) rfl
 . conv=>lhs;whnf
 . conv=>lhs;whnf
 . rfl
 . conv=>lhs;whnf;arg 1;whnf
 . first | exact zAH _
 . first | exact hfr
 . exact fun _=>rfl
 . first | (intro _ _;simp only [renL,renV,ren_cells];done) | exact fun _ _=>rfl
 . rfl
 refine fun ee hq tm rs => ?_
 change _=Out.die _
 rotate_left 1
 refine fun aa xx hq => ?_
 rotate_left 1
 refine fun ee hq => ?_
|show inO _ _=true;rfl
|apply zDo [aa] rfl rfl
 . conv=>lhs;whnf
 . first | exact zHX | (conv=>lhs;whnf;arg 1;whnf)
 . rfl
 . rfl
 . repeat' (first | exact trivial | apply And.intro | rfl)
|apply zDo [default] rfl rfl
 . conv=>lhs;whnf
 . first | exact zHX | (conv=>lhs;whnf;arg 1;whnf)
 . rfl
 . rfl
 . repeat' (first | exact trivial | apply And.intro | rfl)
|apply s_m zq zR rfl
 . conv=>lhs;whnf
 . conv=>lhs;whnf
 . rfl
 . conv=>lhs;whnf;arg 1;whnf
 . first | exact zAH _
 . first | exact hs | exact hnx
 . exact fun _=>rfl
 . exact fun _=>rfl
|apply zAk zq zR rfl
 . conv=>lhs;whnf
 . conv=>lhs;whnf
 . first | rfl | assumption
 . conv=>lhs;whnf
 . rfl
 . conv=>lhs;whnf;arg 1;whnf
 . first | exact zAH _
 . first | exact hs | exact hnx
 . exact fun _=>rfl
 . exact fun _=>rfl
|apply zo rfl
 . conv=>lhs;whnf
 . conv=>lhs;whnf
 . first | rfl | assumption
|apply zFi rfl
 . conv=>lhs;whnf
 . rfl
 . rfl
|apply s_pr zq zR rfl
 . conv=>lhs;whnf
 . conv=>lhs;whnf
 . rfl
 . conv=>lhs;whnf;arg 1;whnf
 . first | exact zAH _
 . first | exact hli
 . exact fun _=>rfl
 . first | (intro _ _;simp only [renL,renV,ren_cells];done) | exact fun _ _=>rfl
 refine fun ee hq => ?_
 change _=Out.die _
 rotate_left 1
 refine fun aa xx hq => ?_
 first | (replace hq:=zAm hq;obtain ⟨hq,rfl⟩:=hq) | (cases hq;have hq:=True.intro) | skip
|exact (K0 ‹_› ‹_›).elim
|exact (K1 ‹_›).elim
|exact (K2 ‹_›).elim
|exact (K3 ‹_›).elim
|exact (K5 ‹_›).elim
|exact (K6 ‹_›).elim
|refine zB ?_
|refine zC ?_
|refine zI ?_
|refine zY ?_
|apply aw_1
 conv=>whnf
 refine ⟨?_,trivial⟩
|apply ze rfl rfl
 . conv=>lhs;whnf
 . conv=>lhs;whnf
 . first | exact bT1 ‹_› | exact bT2 ‹_›
|apply zZ rfl rfl
 . conv=>lhs;whnf
 . conv=>lhs;whnf
 . first | exact bF1 ‹_› | exact bF2 ‹_›
|apply s_1
 conv=>whnf;arg 1;arg 4;arg 3;whnf
 refine ⟨?_,?_⟩
|apply zd rfl
 . conv=>lhs;whnf
 . conv=>lhs;whnf
 . first | exact hkd _
|apply zX rfl rfl rfl
 . conv=>lhs;whnf
 . conv=>lhs;whnf;arg 1;whnf
 . conv=>lhs;whnf;arg 1;whnf
 . exact ⟨by kernel_rfl,by kernel_rfl⟩
 . rfl
|apply zF rfl
 . conv=>lhs;whnf
 . conv=>lhs;whnf
 . first | rfl | assumption
 . conv=>lhs;whnf;arg 2;whnf
|apply zL rfl
 . conv=>lhs;whnf
 . conv=>lhs;whnf
 . conv=>lhs;whnf;arg 2;whnf
|refine zV (by conv=>lhs;whnf) ?_ ?_<;>intro hb
|exact trivial
|intro hg)
       all_goals first
        |exact zCE _ _
        |exact za (by omega)
        |(refine ⟨by simp,?_,?_⟩<;>simp only [List.length_cons,List.length_nil,maxLen]<;>omega)
        |(rw [e2 (zA3 hq).1,(zA3 hq).2];rfl)
        |(rw [e1 ‹_›,then_err hq];rfl)
        |(have hx:=hz.nx0.frag hq
          have hnl:=zBg ⟨t::r,zvr,znd⟩
          refine zE (j':=j) (by omega) ⟨xx,n+1,ops,frs++[aa],hx.1,by omega,by omega,by rw [List.length_append];simp only [List.length_cons,List.length_nil];omega,by omega,by rw [e1 ‹_›,zb hq],Sub.live ⟨rfl,rfl,rfl,rfl,trivial⟩ ⟨rfl,rfl,rfl,rfl,?_,trivial⟩⟩
          show some (Res.tok _ (frs.length+1))=some (Res.tok _ (frs++[aa]).length)
          rw [List.length_append];rfl)
        |skip
   . have hW2 : ¬ (t.k=2/\(0<zBw t.s\/t.s=zIW)):=by rw [<- hh];exact hW
     have K1:((t.k==2)==true)=true->decide (zBw t.s>0)=true->False:=fun h1 h2=>hW2 ⟨by simpa using h1,.inl (by simpa using h2)⟩
     have K2:((t.k==2)==true)=true->(decide (zBw t.s>0)==false)=false->False:=fun h1 h2=>hW2 ⟨by simpa using h1,.inl (by simpa using h2)⟩
     have K3:((t.k==2)==true)=true->((bs t.s).toList==(⟨#[102,114,97,103,109,101,110,116]⟩:ByteArray).toList)=true->False:=fun h1 h2=>hW2 ⟨by simpa using h1,.inr (zEa h2)⟩
     have K4:((t.k==2)==true)=true->(!((bs t.s).toList==(⟨#[102,114,97,103,109,101,110,116]⟩:ByteArray).toList))=false->False:=fun h1 h2=>hW2 ⟨by simpa using h1,.inr (zH5 h2)⟩
     have K5:((t.k==2)==true)=true->((!((bs t.s).toList==(⟨#[102,114,97,103,109,101,110,116]⟩:ByteArray).toList))==true)=false->False:=fun h1 h2=>hW2 ⟨by simpa using h1,.inr (zH5 (by simpa using h2))⟩
     by_cases hS:isS z [123]=true
     . have e1:n<64->docF (j+1) n ops frs z=thenQ (setQ z) fun ss y=>docF j (n+1) (ops++[opD 1 [] [] ss]) frs y:=fun hn=>dc_set hE hW hS hn
       have e2:64<=n->docF (j+1) n ops frs z = .error ((hdT z).i,4):=fun hn=>dc_lim hE (.inr hS) hn
       have K6:isS z [123]=false->False:=fun h=>by rw [hS] at h;cases h
       have K7:(!isS z [123])=true->False:=fun h=>by rw [hS] at h;cases h
       rw [hh] at e2
       obtain ⟨zts,zvr,znd⟩:=z
       cases ht
       repeat' (first
|apply zAY rfl rfl rfl
 . conv=>lhs;whnf
 . first | rfl | assumption
 . conv=>lhs;whnf
 . first | exact bT1 ‹_› | exact bT2 ‹_› | rfl
|apply zAZ rfl rfl rfl
 . conv=>lhs;whnf
 . first | rfl | assumption
 . conv=>lhs;whnf
 . first | exact bF1 ‹_› | exact bF2 ‹_› | rfl
|apply zGf (VO (opD 1 [] [] _)) rfl rfl
 . conv=>lhs;whnf;arg 2;whnf
 . repeat' (first | exact VLe.refl _ | exact VLe.nil _ | exact VLe.lit _ _ | exact VLe.own _ _ _ | apply VLe.agg | apply VLeL.cons | exact VLeL.nil)
|apply zCB 9 ([(1,[3])]) ([(3,[1000000]),(6,[903]),(8,[3])]) rfl (by kernel_rfl) (by kernel_rfl) (by kernel_rfl)
|apply zDn
|apply zDm rfl
 . conv=>lhs;whnf
 . conv=>lhs;whnf;arg 2;whnf
|apply zJg rfl rfl
 . conv=>lhs;whnf
 . first | exact zIg | (conv=>lhs;whnf;arg 1;whnf)
 . first | exact fun _=>rfl | (intro _;kernel_rfl)
 . conv=>lhs;whnf
 . rfl
 . conv=>lhs;whnf;arg 1;whnf
 . conv=>lhs;whnf
|apply zB6 rfl rfl rfl
 . conv=>lhs;whnf
 . rfl
 . conv=>lhs;whnf;arg 1;whnf
 . conv=>lhs;whnf;arg 1;whnf
 . exact ⟨by kernel_rfl,by kernel_rfl⟩
 . rfl
|exact Or.inl ⟨pn 0,_,rfl⟩
|refine Or.inr ?_
|apply g_pr zq zR ([]:List D) rfl
 . conv=>lhs;whnf
 . conv=>lhs;whnf
 . rfl
 . conv=>lhs;whnf;arg 1;whnf
 . first | exact zAH _
 . first | exact hse
 . exact fun _=>rfl
 . first | (intro _ _;simp only [renL,renV,ren_cells];done) | exact fun _ _=>rfl
 . rfl
 refine fun ee hq tm rs => ?_
 change _=Out.die _
 rotate_left 1
 refine fun aa xx hq => ?_
 rotate_left 1
 refine fun ee hq => ?_
|show inO _ _=true;rfl
|apply zDo [opD 1 [] [] _] rfl rfl
 . conv=>lhs;whnf
 . first | exact zIg | (conv=>lhs;whnf;arg 1;whnf)
 . rfl
 . rfl
 . repeat' (first | exact trivial | apply And.intro | rfl)
|apply zAk zq zR rfl
 . conv=>lhs;whnf
 . conv=>lhs;whnf
 . first | rfl | assumption
 . conv=>lhs;whnf
 . rfl
 . conv=>lhs;whnf;arg 1;whnf
 . first | exact zAH _
 . first | exact hs | exact hnx
 . exact fun _=>rfl
 . exact fun _=>rfl
|apply zo rfl
 . conv=>lhs;whnf
 . conv=>lhs;whnf
 . first | rfl | assumption
|apply zFi rfl
 . conv=>lhs;whnf
 . rfl
 . rfl
|apply s_pr zq zR rfl
 . conv=>lhs;whnf
 . conv=>lhs;whnf
 . rfl
 . conv=>lhs;whnf;arg 1;whnf
 . first | exact zAH _
 . first | exact hli
 . exact fun _=>rfl
 . first | (intro _ _;simp only [renL,renV,ren_cells];done) | exact fun _ _=>rfl
 refine fun ee hq => ?_
 change _=Out.die _
 rotate_left 1
 refine fun aa xx hq => ?_
 first | (replace hq:=zAm hq;obtain ⟨hq,rfl⟩:=hq) | (cases hq;have hq:=True.intro) | skip
|exact (K0 ‹_› ‹_›).elim
|exact (K2 ‹_› ‹_›).elim
|exact (K4 ‹_› ‹_›).elim
|exact (K5 ‹_› ‹_›).elim
|exact (K7 ‹_›).elim
|refine zB ?_
|refine zC ?_
|refine zI ?_
|refine zY ?_
|apply aw_1
 conv=>whnf
 refine ⟨?_,trivial⟩
|apply ze rfl rfl
 . conv=>lhs;whnf
 . conv=>lhs;whnf
 . first | exact bT1 ‹_› | exact bT2 ‹_›
|apply zZ rfl rfl
 . conv=>lhs;whnf
 . conv=>lhs;whnf
 . first | exact bF1 ‹_› | exact bF2 ‹_›
|apply s_1
 conv=>whnf;arg 1;arg 4;arg 3;whnf
 refine ⟨?_,?_⟩
|apply zd rfl
 . conv=>lhs;whnf
 . conv=>lhs;whnf
 . first | exact hkd _
|apply zX rfl rfl rfl
 . conv=>lhs;whnf
 . conv=>lhs;whnf;arg 1;whnf
 . conv=>lhs;whnf;arg 1;whnf
 . exact ⟨by kernel_rfl,by kernel_rfl⟩
 . rfl
|apply zF rfl
 . conv=>lhs;whnf
 . conv=>lhs;whnf
 . first | rfl | assumption
 . conv=>lhs;whnf;arg 2;whnf
|apply zL rfl
 . conv=>lhs;whnf
 . conv=>lhs;whnf
 . conv=>lhs;whnf;arg 2;whnf
|refine zV (by conv=>lhs;whnf) ?_ ?_<;>intro hb
|exact trivial
|intro hg)
       all_goals first
        |exact zCE _ _
        |exact za (by omega)
        |(refine ⟨by simp,?_,?_⟩<;>simp only [List.length_cons,List.length_nil,maxLen]<;>omega)
        |(rw [e2 (zA3 hq).1,(zA3 hq).2];rfl)
        |(rw [e1 ‹_›,then_err hq];rfl)
        |(have hx:=hz.sels hq
          have hnl:=zBg ⟨t::r,zvr,znd⟩
          refine zE (j':=j) (by omega) ⟨xx,n+1,ops++[opD 1 [] [] aa],frs,hx.1,by omega,by omega,by rw [List.length_append];simp only [List.length_cons,List.length_nil];omega,by omega,by rw [e1 ‹_›,zb hq],Sub.live ⟨rfl,rfl,rfl,rfl,trivial⟩ ⟨rfl,rfl,rfl,?_,rfl,trivial⟩⟩
          show some (Res.tok _ (ops.length+1))=some (Res.tok _ (ops++[opD 1 [] [] aa]).length)
          rw [List.length_append];rfl)
        |skip
     . have hS:isS z [123]=false:=by simpa using hS
       have e1:=dc_un (f:=j) (n:=n) (ops:=ops) (frs:=frs) hE hW hS
       have K6:isS z [123]=true->False:=fun h=>by rw [hS] at h;cases h
       have K7:(!isS z [123])=false->False:=fun h=>by rw [hS] at h;cases h
       rw [e1,hh]
       obtain ⟨zts,zvr,znd⟩:=z
       cases ht
       repeat' (first
|apply zAY rfl rfl rfl
 . conv=>lhs;whnf
 . first | rfl | assumption
 . conv=>lhs;whnf
 . first | exact bT1 ‹_› | exact bT2 ‹_› | rfl
|apply zAZ rfl rfl rfl
 . conv=>lhs;whnf
 . first | rfl | assumption
 . conv=>lhs;whnf
 . first | exact bF1 ‹_› | exact bF2 ‹_› | rfl
|apply zAk zq zR rfl
 . conv=>lhs;whnf
 . conv=>lhs;whnf
 . first | rfl | assumption
 . conv=>lhs;whnf
 . rfl
 . conv=>lhs;whnf;arg 1;whnf
 . first | exact zAH _
 . first | exact hs | exact hnx
 . exact fun _=>rfl
 . exact fun _=>rfl
|apply zo rfl
 . conv=>lhs;whnf
 . conv=>lhs;whnf
 . first | rfl | assumption
|apply zFi rfl
 . conv=>lhs;whnf
 . rfl
 . rfl
|apply zC1 rfl
 . conv=>lhs;whnf
 . first | exact hf
 . first | exact fun _=>rfl | (intro _;simp only [renL,renV,ren_cells])
 change _=Out.die _
|exact (K0 ‹_› ‹_›).elim
|exact (K2 ‹_› ‹_›).elim
|exact (K5 ‹_› ‹_›).elim
|exact (K7 ‹_›).elim
|refine zB ?_
|refine zC ?_
|refine zI ?_
|apply aw_1
 conv=>whnf
 refine ⟨?_,trivial⟩
|apply ze rfl rfl
 . conv=>lhs;whnf
 . conv=>lhs;whnf
 . first | exact bT1 ‹_› | exact bT2 ‹_›
|apply zZ rfl rfl
 . conv=>lhs;whnf
 . conv=>lhs;whnf
 . first | exact bF1 ‹_› | exact bF2 ‹_›
|apply s_1
 conv=>whnf;arg 1;arg 4;arg 3;whnf
 refine ⟨?_,?_⟩
|apply zd rfl
 . conv=>lhs;whnf
 . conv=>lhs;whnf
 . first | exact hkd _
|apply zX rfl rfl rfl
 . conv=>lhs;whnf
 . conv=>lhs;whnf;arg 1;whnf
 . conv=>lhs;whnf;arg 1;whnf
 . exact ⟨by kernel_rfl,by kernel_rfl⟩
 . rfl
|apply zF rfl
 . conv=>lhs;whnf
 . conv=>lhs;whnf
 . first | rfl | assumption
 . conv=>lhs;whnf;arg 2;whnf
|apply zL rfl
 . conv=>lhs;whnf
 . conv=>lhs;whnf
 . conv=>lhs;whnf;arg 2;whnf
|refine zV (by conv=>lhs;whnf) ?_ ?_<;>intro hb
|exact trivial
|intro hg)
       all_goals first
        |exact zCE _ _
        |rfl
        |skip
end
end Go.Proofs.YthjiclhfhjdjpaaGreatDoor
