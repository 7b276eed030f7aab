import Derived.Maps.OwnOps
import Derived.Maps.Views
import Derived.Test.YthppafnlnnpciaaGreatDoorW29
set_option maxHeartbeats 8000000
set_option maxRecDepth 100000
set_option linter.unusedVariables false
set_option linter.unusedSimpArgs false
namespace Go.Proofs.YthppafnlnnpciaaGreatDoor
section
open Go.RowKit Go.WideMaps Go.Maps
attribute [local irreducible] wpList Calls Code.wp
def Rs (w:World) (e:TypeId) (A:Option Addr) (l:List D):Prop:=∃ k,Sl Tryz.prog w (fun b=>b<w.heap.size) k e A l
theorem klawS:Keyed Tryz.prog 9:=string_keyed Tryz.underlying9
theorem zeroB (w:World):(zeroValue 4).run Tryz.prog w = .ok (.bool false) w:=by kernel_rfl
theorem zDd {H:Type} {P:Program} {e:TypeId} (he:P.underlying e=some .bool) {v:Value} {z:DataW H × List MemPlace} (h:plainElem P e v=some z) : ∃ b,v = .bool b/\z=(.lit (.bool b),[]):=by
 unfold plainElem at h
 rw [he] at h
 cases v<;>simp at h
 exact ⟨_,rfl,h.symm⟩
def SetIs (M:DataW Unit) (l:List (List UInt8)):Prop:=IsMap M /\ ∀ u:List UInt8,M.atKey (.string u) (.lit (.bool false)) = .lit (.bool (decide (u∈l)))
theorem setIs_nil:SetIs (.map []) []:=⟨isMap_empty,fun u=>by
 rw [decide_eq_false (by simp)];rfl⟩
theorem setIs_put {M:DataW Unit} {l:List (List UInt8)} (h:SetIs M l) (u:List UInt8):SetIs (M.put (.string u) (.lit (.bool true))) (l++[u]):=
 ⟨h.1.put _ _,fun v=>by
   by_cases e:v=u
   . subst e
     rw [atKey_put_same h.1 (show WideAt.IsKeyLit (.string v) from trivial),decide_eq_true (by simp)]
   . rw [atKey_put_other (fun hh=>e (by injection hh)),h.2 v]
     congr 2
     simp [e]⟩
theorem zA6 {P:Program} (w:World) {ops:Array Oper} {rest:List Oper} {o:Oper} {a:Act} {Q:Exit->Act->World->Prop}
 (hg:o.guard=none) (m x:Operand) (t:TypeId) (hop:o.op=Op.lookup t m x false)
 (k e:TypeId) (K:Keyed P k) (ht:P.underlying t=some (.map k e)) (he:P.underlying e=some .bool) (hz:(zeroValue e).run P w = .ok (.bool false) w) (b n:Nat) (M:DataW Unit) (l:List (List UInt8)) (hD:SetIs M l)
 (hm:a.eval m = .map (some b)) (hown:w.ownsMap P k (plainElem P e) b n M) (u:ByteArray) (hx:a.eval x = .string u) (hkey:keyOf P k (.string u)=some (.string u.data.toList))
 (hK:wpList P ops Q rest (a.put o.dst (.bool (decide (u.data.toList∈l)))) w) :
 wpList P ops Q (o::rest) a w:=by
 refine wpList_plain hg fun K' hK' => ?_
 obtain ⟨v,ps,hrun,hv⟩:=hown.lookup K ht hz (plainElem_bool he false) hkey
 obtain ⟨c,rfl,hc⟩:=zDd he hv
 simp only [Prod.mk.injEq] at hc
 have hat:=hD.2 u.data.toList
 rw [hc.1] at hat
 have hcc:c=decide (u.data.toList∈l):=by injection hat with h1;injection h1
 subst hcc
 unfold Oper.wp
 simp [execOp,hop,hm,hx,hrun,Result.andThen]
 exact hK' _ _ (by simpa using hK)
def su (d:D):List UInt8:=d.s.data.toList
def twiceB:List (List UInt8)->List D->Bool
 |_,[]=>false
 |seen,x::r=>decide (su x∈seen)||twiceB (seen++[su x]) r
theorem str_at {w:World} {A:Option Addr} {l:List D} (h:Rs w 9 A l) (hp:0<l.length) : ∃ b off,A=some ⟨b,off,none⟩/\b<w.heap.size /\ ∀ i,i<l.length->w.cell? ⟨b,off+i,none⟩=some (.string (gD l i).s)/\(gD l i).s.size<=maxLen:=by
 obtain ⟨k,h⟩:=h
 obtain ⟨b,off,hA,hb,hi⟩:=h hp (by rw [show Tryz.prog.cellsOf 9=1 by kernel_rfl];omega)
 refine ⟨b,off,hA,hb,fun i hil => ?_⟩
 obtain ⟨ys,y1,y2,y3⟩:=hi i hil
 rw [show Tryz.prog.cellsOf 9=1 by kernel_rfl] at y2
 obtain ⟨rfl,hs⟩:=y3.str Tryz.underlying9
 have:=y2 0 _ rfl
 rw [Nat.mul_one,Nat.add_zero] at this
 exact ⟨this,hs⟩
theorem seen_at (l:List D) (m:Nat) (h:m<l.length):(l.map su).take (m+1)=(l.map su).take m++[su (gD l m)]:=by
 rw [List.take_succ_eq_append_getElem (by simpa using h),List.getElem_map,zB2 h]
theorem twice_go {l:List D} {m:Nat} (h:m<l.length):twiceB ((l.map su).take m) (l.drop m)=(decide (su (gD l m)∈(l.map su).take m)||twiceB ((l.map su).take (m+1)) (l.drop (m+1))):=by
 have e:l.drop m=gD l m::l.drop (m+1):=by rw [List.drop_eq_getElem_cons h,zB2 h]
 rw [e,twiceB,seen_at l m h]
theorem twiceP (A:Option Addr) (l:List D) (c:Nat) (w0 w:World) (h0:Below w0.heap.size w0 w) (h:Rs w0 9 A l) (hl:l.length<=9223372036854775807) :
 Calls Tryz.prog 251 #[.slice A l.length c] w fun e w'=>e = .returned (.bool (twiceB [] l))/\Below w.heap.size w w':=by
 have H:=Lib.hid h;have H0:=Lib.hid h0
 clear h h0
 have hmm:=@run_makeMap Tryz.prog
 go_enter Tryz.func251,Tryz.ntmps251
 go_wp2
 go_loopg [9] l.length (fun j i wr => ∃ m:Nat,m+j=l.length/\i = .int .i64 m/\(∃ M,SetIs M ((l.map su).take m)/\wr.ownsMap Tryz.prog 9 (plainElem Tryz.prog 4) w.heap.size m M)/\twiceB ((l.map su).take m) (l.drop m)=twiceB [] l/\Below w.heap.size w wr)
 case atStart=>exact ⟨0,by omega,rfl,⟨_,setIs_nil,World.ownsMap_made _ _ _ _⟩,rfl,(Below.refl _ _).alloc (Nat.le_refl _) _⟩
 case round =>
  obtain ⟨m,hmj,rfl,⟨M,hset,hown⟩,htw,hb⟩:=hrel
  have Hb:=Lib.hid hb
  have Hmj:=Lib.hid hmj;have hmn:m<=l.length:=by omega
  have Htw:=Lib.hid htw
  clear hmj hb htw
  by_cases hlt:m<l.length
  . obtain ⟨b,off,rfl,hI,hat⟩:=str_at H.out (by omega)
    obtain ⟨e0,hsz⟩:=hat m hlt
    replace e0:=((H0.out.trans (Hb.out.mono H0.out.size)).cell (p:=⟨b,_,none⟩) hI).trans e0
    have hkey:keyOf Tryz.prog 9 (.string (gD l m).s)=some (.string (su (gD l m))):=keyOf_string_mk Tryz.underlying9 hsz
    have z1:(m:Int)<(l.length:Int):=by omega
    have hgo:=Lib.hid (twice_go hlt)
    cases hq:decide (su (gD l m)∈(l.map su).take m)
    . go_wp2_with (first
       |(at_lookup;refine zA6 _ rfl _ _ 235 rfl 9 4 klawS Tryz.underlying235 Tryz.underlying4 (zeroB _) w.heap.size m _ _ hset rfl hown _ rfl hkey ?_;rw [show decide ((gD l m).s.data.toList∈(l.map su).take m)=false from hq])
       |(at_mapUpdate;refine wpList_mapUpdate_own _ rfl _ _ _ 235 rfl 9 4 klawS Tryz.underlying235 _ w.heap.size m _ rfl hown (by unfold maxLen;omega) _ _ _ rfl rfl hkey _ [] (plainElem_bool Tryz.underlying4 true) ?_)
       |go_in)
      intro w1 hown1 hgrow1
      have R1 : ∃ M,SetIs M ((l.map su).take (m+1))/\w1.ownsMap Tryz.prog 9 (plainElem Tryz.prog 4) w.heap.size (m+1) M:=⟨_,by rw [seen_at l m hlt];exact setIs_put hset _,hown1⟩
      have R2:=Hb.out.grown hgrow1 Hb.out.size (fun j hj=>by cases hj;exact Nat.le_refl _)
      have R3:twiceB ((l.map su).take (m+1)) (l.drop (m+1))=twiceB [] l:=by
       have:=hgo.out
       rw [hq,Bool.false_or,Htw.out] at this
       exact this.symm
      have R1:=Lib.hid R1;have R3:=Lib.hid R3
      clear hown1 hgrow1 hown hset hq hkey hat e0
      go_wp2
      go_roundg (l.length-m-1)
      case measure=>have:=Hmj.out;omega
      case rel=>exact ⟨m+1,by have:=Hmj.out;omega,by go_num,R1.out,R3.out,R2⟩
    . go_wp2_with (first
       |(at_lookup;refine zA6 _ rfl _ _ 235 rfl 9 4 klawS Tryz.underlying235 Tryz.underlying4 (zeroB _) w.heap.size m _ _ hset rfl hown _ rfl hkey ?_;rw [show decide ((gD l m).s.data.toList∈(l.map su).take m)=true from hq])
       |go_in)
      go_ret
      have:=hgo.out
      rw [hq,Bool.true_or,Htw.out] at this
      exact ⟨by rw [this];rfl,Hb.out⟩
  . go_wp2
    go_ret
    refine ⟨?_,Hb.out⟩
    have:=Htw.out
    rw [List.drop_eq_nil_of_le (by omega)] at this
    rw [<- this];rfl
theorem zEo : ∀ (l:List D) (seen:List (List UInt8)),seen.Nodup->twiceB seen l = !decide (seen++l.map su).Nodup
 |[],seen,h=>by simp [twiceB,h]
 |x::r,seen,h=>by
  rw [twiceB]
  by_cases e:su x∈seen
  . have : ¬ (seen++(x::r).map su).Nodup:=fun hh=>by
     rw [List.nodup_append] at hh
     exact hh.2.2 _ e (su x) (by simp) rfl
    rw [decide_eq_true e,decide_eq_false this];rfl
  . rw [decide_eq_false e,Bool.false_or,zEo r (seen++[su x]) (by
     rw [List.nodup_append]
     refine ⟨h,by simp,?_⟩
     intro a ha b hb he
     rw [List.mem_singleton.1 hb] at he
     exact e (he ▸ ha))]
    simp
theorem twice_strs (d:D):twiceB [] (d.f 4).l = !decide (strsR d).Nodup:=by
 rw [zEo _ [] List.nodup_nil];rfl
end
section
open Go.RowKit
set_option linter.unusedSectionVars false
section
variable {X:Cx} {nn:Nat} {st:Vst nn} {o:Oper} {ops:Array Oper} {l:List Oper} {dst:Option Tmp} {KK:Vst nn->Prop}
theorem s_max {k:IntKind} {a b:Int} {x y:Operand} {ts:Array TypeId} (hg:o.guard=none) (ho:o.op = .call { callee:=.builtin .max,args:=#[x,y],argTypes:=ts }) (hd:o.dst=dst) (hx:ev st x = .c (.int k a)) (hy:ev st y = .c (.int k b)) (hK:AWo X ops l (st.put dst (.c (.int k (if a<b then b else a)))) KK):AWo X ops (o::l) st KK:=by
 refine zAB hg ?_
 intro s w a' hI N Q hP hN
 have r1:=hI.ev x
 have r2:=hI.ev y
 rw [hx,rel] at r1
 rw [hy,rel] at r2
 have h1:(execOp a'.eval o).run X.P w = .ok (.value (.int k (if a<b then b else a))) w:=by
  simp [execOp,ho,resolve,invoke,builtin,Builtin.max_,Builtin.max2,r1.1,r2.1]
 unfold Oper.wp
 rw [h1,Oper.upon_value]
 refine hN _ _ _ _ (hI.put o.dst ?_) (by rw [hd];exact hK)
 rw [rel]
 refine ⟨rfl,?_⟩
 split
 . exact r2.2
 . exact r1.2
end
attribute [local irreducible] wpList Calls Code.wp AW AWo OpOk seqK zq zu loopK endK AC zf Yld Sub
attribute [local irreducible] ACB ACX ACE absLexG YldG
structure BkIn (d:D) (B:Nat):Prop where
 text:(d.f 2).s.size<=B
 keys:(d.f 4).l.length<=B
 items:(d.f 3).l.length<=B
 at_ : ∀ i,i<(d.f 3).l.length->bulkD (gD (d.f 3).l i)<bulkD d
 key : ∀ i,i<(d.f 4).l.length->(gD (d.f 4).l i).s.size<=B
theorem maxN_le {g:Nat->Nat} {B:Nat} : ∀ {n:Nat},(∀ i,i<n->g i<=B)->maxN g n<=B
 |0,_=>Nat.zero_le _
 |n+1,h=>Nat.max_le.2 ⟨maxN_le fun i hi=>h i (by omega),h n (by omega)⟩
theorem max_i (a b:Nat):(if (a:Int)<(b:Int) then (b:Int) else (a:Int))=((max a b:Nat):Int):=by
 split<;>omega
end
section
open Go.RowKit
set_option linter.unusedSectionVars false
attribute [local irreducible] wpList Calls Code.wp AW AWo OpOk seqK zq zu loopK endK AC zf Yld Sub
attribute [local irreducible] ACB ACX ACE absLexG YldG absLexU YldU
def refC (n:List UInt8) (w:List Int):List V:=[.c (.string (bs n)),.sl 3 (w.map .int)]
theorem namedF_ac (n:List UInt8):AC EN5 Tryz.prog 205 [.c (.string (bs n))] (.agg (refC n [])):=by
 refine zP 5 Tryz.func205 rfl rfl rfl rfl ?_
 intro s0 w0 he
 repeat' (first
|apply zAD ((fun d:D=>V.agg (refC n [])) (default:D)) rfl rfl
 . conv=>lhs;whnf;arg 2;whnf
 . repeat' (first | exact VLe.refl _ | exact VLe.nil _ | exact VLe.lit _ _ | exact VLe.own _ _ _ | apply VLe.agg | apply VLeL.cons | exact VLeL.nil)
|refine zA ?_
|refine zB ?_
|refine zF ?_
|apply aw_1
 conv=>whnf
 refine ⟨?_,trivial⟩
|apply s_1
 conv=>whnf;arg 1;arg 4;arg 3;whnf
 refine ⟨?_,?_⟩
|apply zI rfl rfl rfl
 . conv=>lhs;whnf
 . conv=>lhs;whnf;arg 1;whnf
 . conv=>lhs;whnf;arg 1;whnf
 . exact ⟨by kernel_rfl,by kernel_rfl⟩
 . rfl
|refine zE ?_
|refine ⟨_,by conv=>lhs;whnf;arg 2;whnf,?_⟩;conv=>rhs;whnf
|exact trivial)
 all_goals first
  |rfl
  |skip
theorem zJg (k:Int) (n:List UInt8) (w:List Int) (hw:w.length<=1000000):AC EN5 Tryz.prog 232 [.c (.int .i64 k),.agg (refC n w)] (.agg (refC n (k::w))):=by
 refine zP 13 Tryz.func232 rfl rfl rfl rfl ?_
 intro s0 w0 he
 repeat' (first
|refine zA ?_
|refine zB ?_
|refine zF ?_
|apply aw_1
 conv=>whnf
 refine ⟨?_,trivial⟩
|apply s_1
 conv=>whnf;arg 1;arg 4;arg 3;whnf
 refine ⟨?_,?_⟩
|apply zAW rfl rfl rfl rfl
 . conv=>lhs;whnf;arg 1;whnf
 . rfl
|apply zA3 (by kernel_rfl) (by kernel_rfl)
|apply zDT
|apply zDS rfl
 . conv=>lhs;whnf
 . conv=>lhs;whnf;arg 2;whnf
|apply y_store rfl rfl rfl
 . conv=>lhs;whnf
 . rfl
 . rfl
 . conv=>lhs;whnf;arg 1;whnf
 . conv=>lhs;whnf;arg 1;whnf
 . exact ⟨by kernel_rfl,by kernel_rfl⟩
 . rfl
|apply y_lit1 rfl rfl
 . conv=>lhs;whnf
 . first | exact elemInt | (conv=>lhs;whnf;arg 1;whnf)
 . conv=>lhs;whnf;arg 1;whnf
 . rfl
 . rfl
|apply y_onlit rfl rfl
 . conv=>lhs;whnf
 . first | exact elemInt | (conv=>lhs;whnf;arg 1;whnf)
 . first | exact fun _=>rfl | (intro _;kernel_rfl)
 . conv=>lhs;whnf
 . conv=>lhs;whnf
|exact zAC
|show zCr _ _=true;rfl
|refine zE ?_
|refine ⟨_,by conv=>lhs;whnf;arg 2;whnf,?_⟩;conv=>rhs;whnf
|exact trivial)
 all_goals first
  |rfl
  |(refine ⟨?_,?_⟩<;>simp only [List.length_map,List.length_cons,List.length_nil,maxLen]<;>omega)
  |skip
theorem listOfF_ac (n:List UInt8) (w:List Int) (hw:w.length<=1000000):AC EN5 Tryz.prog 204 [.agg (refC n w)] (.agg (refC n (2::w))):=by
 have h1:=zJg 2 n w hw
 refine zP 5 Tryz.func204 rfl rfl rfl rfl ?_
 intro s0 w0 he
 repeat' (first
|refine zA ?_
|refine zB ?_
|refine zF ?_
|apply aw_1
 conv=>whnf
 refine ⟨?_,trivial⟩
|apply s_1
 conv=>whnf;arg 1;arg 4;arg 3;whnf
 refine ⟨?_,?_⟩
|apply zi rfl
 . conv=>lhs;whnf
 . conv=>lhs;whnf
 . first | exact h1
|apply zAW rfl rfl rfl rfl
 . conv=>lhs;whnf;arg 1;whnf
 . rfl
|apply zI rfl rfl rfl
 . conv=>lhs;whnf
 . conv=>lhs;whnf;arg 1;whnf
 . conv=>lhs;whnf;arg 1;whnf
 . exact ⟨by kernel_rfl,by kernel_rfl⟩
 . rfl
|refine zE ?_
|refine ⟨_,by conv=>lhs;whnf;arg 2;whnf,?_⟩;conv=>rhs;whnf
|exact trivial)
 all_goals first
  |rfl
  |skip
theorem isNonF_ac (n:List UInt8) (w:List Int) (h:w.head? ≠ some 1):AC EN5 Tryz.prog 143 [.agg (refC n w)] (.c (.bool false)):=by
 cases w with
 |nil =>
  refine zP 14 Tryz.func143 rfl rfl rfl rfl ?_
  intro s0 w0 he
  repeat' (first
|refine zA ?_
|refine zB ?_
|refine zF ?_
|apply aw_1
 conv=>whnf
 refine ⟨?_,trivial⟩
|apply s_1
 conv=>whnf;arg 1;arg 4;arg 3;whnf
 refine ⟨?_,?_⟩
|apply zAW rfl rfl rfl rfl
 . conv=>lhs;whnf;arg 1;whnf
 . rfl
|refine zE ?_
|refine ⟨_,by conv=>lhs;whnf;arg 2;whnf,?_⟩;conv=>rhs;whnf
|exact trivial)
  all_goals first
   |rfl
   |skip
 |cons a r =>
  have ha:(a==1)=false:=by
   have:a≠1:=fun e=>h (by rw [e];rfl)
   simpa using this
  have hl:decide (((((a::r).map D.int).length:Nat):Int)>0)=true:=decide_eq_true (by simp only [List.length_map,List.length_cons];omega)
  have g1:(decide (((((a::r).map D.int).length:Nat):Int)>0)==true)=true:=by rw [hl];rfl
  have g2:(decide (((((a::r).map D.int).length:Nat):Int)>0)==true)=false->False:=fun h=>by rw [g1] at h;cases h
  refine zP 14 Tryz.func143 rfl rfl rfl rfl ?_
  intro s0 w0 he
  repeat' (first
|refine zA ?_
|refine zB ?_
|refine zF ?_
|apply aw_1
 conv=>whnf
 refine ⟨?_,trivial⟩
|apply zX rfl rfl
 . conv=>lhs;whnf
 . conv=>lhs;whnf
 . first | exact bT1 ‹_› | exact bT2 ‹_›
|apply s_1
 conv=>whnf;arg 1;arg 4;arg 3;whnf
 refine ⟨?_,?_⟩
|apply zAW rfl rfl rfl rfl
 . conv=>lhs;whnf;arg 1;whnf
 . rfl
|apply zC rfl
 . conv=>lhs;whnf
 . conv=>lhs;whnf
 . first | rfl | assumption
 . conv=>lhs;whnf;arg 2;whnf
|refine zE ?_
|refine ⟨_,by conv=>lhs;whnf;arg 2;whnf,?_⟩;conv=>rhs;whnf
|exact trivial)
  all_goals first
   |(show _=V.c (.bool (a==1));rw [ha])
   |exact ⟨by omega,by simp only [List.length_map,List.length_cons];omega⟩
   |skip
theorem zE2 (n:List UInt8) (w:List Int) (hw:w.length<=1000000) (h:w.head? ≠ some 1):AC EN5 Tryz.prog 206 [.agg (refC n w)] (.agg (refC n (1::w))):=by
 have h1:=zJg 1 n w hw
 have h2:=isNonF_ac n w h
 refine zP 14 Tryz.func206 rfl rfl rfl rfl ?_
 intro s0 w0 he
 repeat' (first
|refine zA ?_
|refine zB ?_
|refine zF ?_
|apply aw_1
 conv=>whnf
 refine ⟨?_,trivial⟩
|apply s_1
 conv=>whnf;arg 1;arg 4;arg 3;whnf
 refine ⟨?_,?_⟩
|apply zi rfl
 . conv=>lhs;whnf
 . conv=>lhs;whnf
 . first | exact h1 | exact h2
|apply zAW rfl rfl rfl rfl
 . conv=>lhs;whnf;arg 1;whnf
 . rfl
|apply zI rfl rfl rfl
 . conv=>lhs;whnf
 . conv=>lhs;whnf;arg 1;whnf
 . conv=>lhs;whnf;arg 1;whnf
 . exact ⟨by kernel_rfl,by kernel_rfl⟩
 . rfl
|refine zE ?_
|refine ⟨_,by conv=>lhs;whnf;arg 2;whnf,?_⟩;conv=>rhs;whnf
|exact trivial)
 all_goals first
  |rfl
  |skip
noncomputable def HHs (ks:List (List UInt8)) (k:List UInt8) (i:Nat):Vst 18:=stS 18 [(0,.sl 9 (ks.map strD)),(1,.c (.string (bs k))),(5,.c (.int .i64 (i:Int)))] []
theorem has2_ac (ks:List (List UInt8)) (k:List UInt8) (hk:ks.length<=1000000):AC EN5 Tryz.prog 233 [.sl 9 (ks.map strD),.c (.string (bs k))] (.c (.bool (ks.contains k))):=by
 have hR:ks.contains k=(ks.drop 0).contains k:=rfl
 generalize ks.contains k=R at hR |-
 refine zP 18 Tryz.func233 rfl rfl rfl rfl ?_
 intro s0 w he
 repeat' (first
|refine zA ?_
|refine zB ?_
|refine zF ?_
|apply aw_1
 conv=>whnf
 refine ⟨?_,trivial⟩
|apply s_1
 conv=>whnf;arg 1;arg 4;arg 3;whnf
 refine ⟨?_,?_⟩
|exact trivial)
 refine zn (fun j st => ∃ i,i+j=ks.length/\R=(ks.drop i).contains k/\Sub (cx EN5 Tryz.prog s0 w he) st (HHs ks k i)) ks.length ⟨0,by omega,hR,Sub.live ⟨rfl,rfl,rfl,trivial⟩ trivial⟩ ?_
 clear hR
 rintro j st ⟨i,hij,hR,hs2⟩
 refine zg hs2 ?_
 clear hs2
 by_cases hi:i<ks.length
 . have f0:decide ((i:Int)<(((ks.map strD).length:Nat):Int))=true:=decide_eq_true (by rw [List.length_map];omega)
   have hd:ks.drop i=ks[i]::ks.drop (i+1):=List.drop_eq_getElem_cons hi
   rw [hd,List.contains_cons] at hR
   have hq:((gD (ks.map strD) ((i:Int)).toNat).s.toList==(bs k).toList)=(k==ks[i]):=by
    have e:gD (ks.map strD) ((i:Int)).toNat=strD ks[i]:=by
     show gD (ks.map strD) i=_
     unfold gD
     rw [List.getD_eq_getElem?_getD,List.getElem?_map,List.getElem?_eq_getElem hi];rfl
    rw [e]
    show ((bs ks[i]).toList==_)=_
    rw [Lib.toList_data,Lib.toList_data,zAH,zAH,Bool.eq_iff_iff,beq_iff_eq,beq_iff_eq]
    exact eq_comm
   generalize (k==ks[i])=a at hq hR
   repeat' (first
|apply zG
 . conv=>lhs;whnf
 . assumption
|refine zA ?_
|refine zB ?_
|refine zF ?_
|refine zZ ?_
|apply aw_1
 conv=>whnf
 refine ⟨?_,trivial⟩
|apply s_1
 conv=>whnf;arg 1;arg 4;arg 3;whnf
 refine ⟨?_,?_⟩
|refine ze (by conv=>lhs;whnf) ?_ ?_<;>intro hb
|refine zQ ?_
|refine zV ?_
|refine zw ?_
|refine zE ?_
|refine ⟨_,by conv=>lhs;whnf;arg 2;whnf,?_⟩;conv=>rhs;whnf
|exact trivial)
   all_goals first
    |exact zU (by omega)
    |exact ⟨by omega,by rw [List.length_map];omega⟩
    |(have e:a=true:=by rw [<- hq];assumption
      rw [hR,e];rfl)
    |(have e:a=false:=by rw [<- hq];assumption
      exact zJ (j':=j-1) (by omega) ⟨i+1,by omega,by rw [hR,e,Bool.false_or],Sub.live ⟨rfl,rfl,rfl,trivial⟩ trivial⟩)
    |skip
 . have f0:decide ((i:Int)<(((ks.map strD).length:Nat):Int))=false:=decide_eq_false (by rw [List.length_map];omega)
   have e:ks.drop i=[]:=List.drop_of_length_le (by omega)
   rw [e] at hR
   repeat' (first
|apply zD
 . conv=>lhs;whnf
 . assumption
|refine zA ?_
|refine zB ?_
|refine zF ?_
|apply aw_1
 conv=>whnf
 refine ⟨?_,trivial⟩
|apply s_1
 conv=>whnf;arg 1;arg 4;arg 3;whnf
 refine ⟨?_,?_⟩
|refine zO ?_
|refine zL rfl ?_
|refine zM ?_
|refine zE ?_
|refine ⟨_,by conv=>lhs;whnf;arg 2;whnf,?_⟩;conv=>rhs;whnf
|exact trivial)
   all_goals first
    |(rw [hR];rfl)
    |skip
section
variable (t:Tok) (ht:t.s.length<=100000)
include ht
theorem simp3_ac (h:t.k=3):AC EN5 Tryz.prog 207 [.agg (tokC t)] (.tup [VV (simpV t),.c (.bool (simpB t))]):=by
 have f3:(t.k==3)=true:=by rw [h];rfl
 have e1:simpV t=valD 2 (numQ t.s) [] [] []:=by unfold simpV;rw [if_pos h]
 have e2:simpB t=true:=by unfold simpB;rw [h];rfl
 have hnu:=zDs (bs t.s) (by rw [zk];omega)
 unfold zJH at hnu
 rw [tx_bs] at hnu
 rw [e1,e2]
 refine zP 40 Tryz.func207 rfl rfl rfl rfl ?_
 intro s0 w he
 repeat' (first
|apply zAD (VV (valD 2 (numQ t.s) [] [] [])) rfl rfl
 . conv=>lhs;whnf;arg 2;whnf
 . repeat' (first | exact VLe.refl _ | exact VLe.nil _ | exact VLe.lit _ _ | exact VLe.own _ _ _ | apply VLe.agg | apply VLeL.cons | exact VLeL.nil)
|apply zG
 . conv=>lhs;whnf
 . assumption
|refine zA ?_
|refine zB ?_
|refine zF ?_
|apply aw_1
 conv=>whnf
 refine ⟨?_,trivial⟩
|apply s_1
 conv=>whnf;arg 1;arg 4;arg 3;whnf
 refine ⟨?_,?_⟩
|apply zi rfl
 . conv=>lhs;whnf
 . conv=>lhs;whnf
 . first | exact hnu
|apply zAW rfl rfl rfl rfl
 . conv=>lhs;whnf;arg 1;whnf
 . rfl
|apply zI rfl rfl rfl
 . conv=>lhs;whnf
 . conv=>lhs;whnf;arg 1;whnf
 . conv=>lhs;whnf;arg 1;whnf
 . exact ⟨by kernel_rfl,by kernel_rfl⟩
 . rfl
|refine zQ ?_
|refine zV ?_
|refine zE ?_
|exact trivial)
 all_goals first
  |exact ⟨_,_,rfl,rfl,rfl⟩
  |skip
theorem simp4_ac (h:t.k=4):AC EN5 Tryz.prog 207 [.agg (tokC t)] (.tup [VV (simpV t),.c (.bool (simpB t))]):=by
 have f3:(t.k==3)=false:=by rw [h];rfl
 have f4:(t.k==4)=true:=by rw [h];rfl
 have e1:simpV t=valD 3 0 t.s [] []:=by unfold simpV;rw [if_neg (by rw [h];decide),if_pos h]
 have e2:simpB t=true:=by unfold simpB;rw [h];rfl
 rw [e1,e2]
 refine zP 40 Tryz.func207 rfl rfl rfl rfl ?_
 intro s0 w he
 repeat' (first
|apply zAD (VV (valD 3 0 t.s [] [])) rfl rfl
 . conv=>lhs;whnf;arg 2;whnf
 . repeat' (first | exact VLe.refl _ | exact VLe.nil _ | exact VLe.lit _ _ | exact VLe.own _ _ _ | apply VLe.agg | apply VLeL.cons | exact VLeL.nil)
|apply zG
 . conv=>lhs;whnf
 . assumption
|apply zD
 . conv=>lhs;whnf
 . assumption
|refine zA ?_
|refine zB ?_
|refine zF ?_
|apply aw_1
 conv=>whnf
 refine ⟨?_,trivial⟩
|apply s_1
 conv=>whnf;arg 1;arg 4;arg 3;whnf
 refine ⟨?_,?_⟩
|apply zAW rfl rfl rfl rfl
 . conv=>lhs;whnf;arg 1;whnf
 . rfl
|apply zI rfl rfl rfl
 . conv=>lhs;whnf
 . conv=>lhs;whnf;arg 1;whnf
 . conv=>lhs;whnf;arg 1;whnf
 . exact ⟨by kernel_rfl,by kernel_rfl⟩
 . rfl
|refine zQ ?_
|refine zV ?_
|refine zE ?_
|exact trivial)
 all_goals first
  |exact ⟨_,_,rfl,rfl,rfl⟩
  |skip
theorem simp2_ac (h:t.k=2):AC EN5 Tryz.prog 207 [.agg (tokC t)] (.tup [VV (simpV t),.c (.bool (simpB t))]):=by
 have f3:(t.k==3)=false:=by rw [h];rfl
 have f4:(t.k==4)=false:=by rw [h];rfl
 have f2:(t.k==2)=true:=by rw [h];rfl
 have e1:simpV t=zB6 t.s:=by unfold simpV;rw [if_neg (by rw [h];decide),if_neg (by rw [h];decide),if_pos h]
 have e2:simpB t=true:=by unfold simpB;rw [h];rfl
 rw [e1,e2]
 refine zP 40 Tryz.func207 rfl rfl rfl rfl ?_
 intro s0 w he
 repeat' (first
|apply zAD (VV (valD 1 1 [] [] [])) rfl rfl
 . conv=>lhs;whnf;arg 2;whnf
 . repeat' (first | exact VLe.refl _ | exact VLe.nil _ | exact VLe.lit _ _ | exact VLe.own _ _ _ | apply VLe.agg | apply VLeL.cons | exact VLeL.nil)
|apply zAD (VV (valD 1 0 [] [] [])) rfl rfl
 . conv=>lhs;whnf;arg 2;whnf
 . repeat' (first | exact VLe.refl _ | exact VLe.nil _ | exact VLe.lit _ _ | exact VLe.own _ _ _ | apply VLe.agg | apply VLeL.cons | exact VLeL.nil)
|apply zAD (VV (valD 4 0 t.s [] [])) rfl rfl
 . conv=>lhs;whnf;arg 2;whnf
 . repeat' (first | exact VLe.refl _ | exact VLe.nil _ | exact VLe.lit _ _ | exact VLe.own _ _ _ | apply VLe.agg | apply VLeL.cons | exact VLeL.nil)
|apply zAD (VV zA5) rfl rfl
 . conv=>lhs;whnf;arg 2;whnf
 . repeat' (first | exact VLe.refl _ | exact VLe.nil _ | exact VLe.lit _ _ | exact VLe.own _ _ _ | apply VLe.agg | apply VLeL.cons | exact VLeL.nil)
|apply zG
 . conv=>lhs;whnf
 . assumption
|apply zD
 . conv=>lhs;whnf
 . assumption
|refine zA ?_
|refine zB ?_
|refine zF ?_
|refine zZ ?_
|apply aw_1
 conv=>whnf
 refine ⟨?_,trivial⟩
|apply s_1
 conv=>whnf;arg 1;arg 4;arg 3;whnf
 refine ⟨?_,?_⟩
|apply zAW rfl rfl rfl rfl
 . conv=>lhs;whnf;arg 1;whnf
 . rfl
|apply zI rfl rfl rfl
 . conv=>lhs;whnf
 . conv=>lhs;whnf;arg 1;whnf
 . conv=>lhs;whnf;arg 1;whnf
 . exact ⟨by kernel_rfl,by kernel_rfl⟩
 . rfl
|refine ze (by conv=>lhs;whnf) ?_ ?_<;>intro hb
|refine zQ ?_
|refine zV ?_
|refine zE ?_
|exact trivial)
 all_goals first
  |(rw [show zB6 t.s=zA5 by rw [zEG (by assumption:((bs t.s).toList==(⟨#[110,117,108,108]⟩:ByteArray).toList)=true)];rfl];exact ⟨_,_,rfl,rfl,rfl⟩)
  |(rw [w_true ‹_›,if_pos ‹_›];exact ⟨_,_,rfl,rfl,rfl⟩)
  |(rw [w_false ‹_› ‹_›,if_neg (by simp only [Bool.not_eq_true];assumption)];exact ⟨_,_,rfl,rfl,rfl⟩)
  |(rw [w_enum ‹_› ‹_› ‹_›];exact ⟨_,_,rfl,rfl,rfl⟩)
  |skip
theorem simpN_ac (h3:t.k≠3) (h4:t.k≠4) (h2:t.k≠2):AC EN5 Tryz.prog 207 [.agg (tokC t)] (.tup [VV (simpV t),.c (.bool (simpB t))]):=by
 have f3:(t.k==3)=false:=by simpa using h3
 have f4:(t.k==4)=false:=by simpa using h4
 have f2:(t.k==2)=false:=by simpa using h2
 have e1:simpV t=zA5:=by unfold simpV;rw [if_neg h3,if_neg h4,if_neg h2]
 have e2:simpB t=false:=by unfold simpB;rw [f3,f4,f2];rfl
 rw [e1,e2]
 refine zP 40 Tryz.func207 rfl rfl rfl rfl ?_
 intro s0 w he
 repeat' (first
|apply zAD (VV zA5) rfl rfl
 . conv=>lhs;whnf;arg 2;whnf
 . repeat' (first | exact VLe.refl _ | exact VLe.nil _ | exact VLe.lit _ _ | exact VLe.own _ _ _ | apply VLe.agg | apply VLeL.cons | exact VLeL.nil)
|apply zD
 . conv=>lhs;whnf
 . assumption
|refine zA ?_
|refine zB ?_
|refine zF ?_
|refine zZ ?_
|apply aw_1
 conv=>whnf
 refine ⟨?_,trivial⟩
|apply s_1
 conv=>whnf;arg 1;arg 4;arg 3;whnf
 refine ⟨?_,?_⟩
|apply zAW rfl rfl rfl rfl
 . conv=>lhs;whnf;arg 1;whnf
 . rfl
|apply zI rfl rfl rfl
 . conv=>lhs;whnf
 . conv=>lhs;whnf;arg 1;whnf
 . conv=>lhs;whnf;arg 1;whnf
 . exact ⟨by kernel_rfl,by kernel_rfl⟩
 . rfl
|refine zE ?_
|exact trivial)
 all_goals first
  |exact ⟨_,_,rfl,rfl,rfl⟩
  |skip
end
end
section
open Go.RowKit
set_option linter.unusedSectionVars false
attribute [local irreducible] wpList Calls Code.wp AW AWo OpOk seqK zq zu loopK endK AC zf Yld Sub
attribute [local irreducible] ACB ACX ACE absLexG YldG absLexU YldU
theorem zKA (l:List Tok) : ∀ (f:Nat) (x:RS),(refZ l f x).1.2.length<=2*f
 |0,_=>Nat.le_refl _
 |f+1,x=>by
  have h:=zKA l f (upZ x)
  have hb:(zCL l (refZ l f) x).1.2.length<=2*f+1:=by
   unfold zCL
   split
   . show (refZ l f (upZ x)).1.2.length+1<=_;omega
   . exact Nat.zero_le _
  show (zD5 l (zCL l (refZ l f) x)).1.2.length<=_
  unfold zD5
  split
  . show (zCL l (refZ l f) x).1.2.length+1<=_;omega
  . omega
section
variable (l:List Tok) (hE:Ed l) (hl:l.length<=100000)
include hE hl
theorem zKB : ∀ (f:Nat) (x:RS),x.at'<l.length->l.length-x.at'<f->f<=200000->ACB EN5 Tryz.prog 180 [.bx (pn 0) 0] [boxF l x] (.agg (refC (refZ l f x).1.1 (refZ l f x).1.2)) [boxF l (refZ l f x).2]
 |0,_,_,h,_=>by omega
 |f+1,x,hx,hf,hf2=>by
  have h1:=zAa l x hx [91]
  show ACB _ _ _ _ _ (.agg (refC (zD5 l (zCL l (refZ l f) x)).1.1 (zD5 l (zCL l (refZ l f) x)).1.2)) [boxF l (zD5 l (zCL l (refZ l f) x)).2]
  by_cases hs:sgZ l [91] x=true
  . have hu:=zAZ hE hx hs
    have eb:zCL l (refZ l f) x=(((refZ l f (upZ x)).1.1,2::(refZ l f (upZ x)).1.2),needZ l [93] (refZ l f (upZ x)).2):=by unfold zCL;rw [if_pos hs]
    have ih:=zKB f (upZ x) hu.mv.hi (by show l.length-(x.at'+1)<f;omega) (by omega)
    have m1:=zFz hE f (upZ x) hu.mv.hi
    have hlen:=zKA l f (upZ x)
    rw [eb]
    generalize refZ l f (upZ x)=R at ih m1 hlen |-
    obtain ⟨⟨n,w⟩,y⟩:=R
    dsimp only at ih m1 hlen |-
    have h2:=zAJ l y m1.hi hl [93]
    have m2:=(zAA hE [93] m1.hi).mv
    generalize needZ l [93] y=z at h2 m2 |-
    have h3:=zAa l z m2.hi [33]
    have hzz:=m2.hi
    have h4:=listOfF_ac n w (by omega)
    have h5:=zE2 n (2::w) (by simp only [List.length_cons];omega) (by simp)
    unfold zD5
    dsimp only
    by_cases hb:sgZ l [33] z=true
    . rw [if_pos hb]
      refine zb (fn:=Tryz.f180) 33 Tryz.func180 rfl rfl ?_
      intro pas w0 w' he hp
      repeat' (first
|apply s_m (zj l) (zN l) rfl
 . conv=>lhs;whnf
 . conv=>lhs;whnf
 . rfl
 . conv=>lhs;whnf;arg 1;whnf
 . first | exact z6 _ _ | exact zBh _ _
 . first | exact h1 | exact ih | exact h2 | exact h3
 . exact fun _=>rfl
 . exact fun _=>rfl
|apply zG
 . conv=>lhs;whnf
 . assumption
|refine zA ?_
|refine zB ?_
|refine zF ?_
|apply aw_1
 conv=>whnf
 refine ⟨?_,trivial⟩
|apply s_1
 conv=>whnf;arg 1;arg 4;arg 3;whnf
 refine ⟨?_,?_⟩
|apply zi rfl
 . conv=>lhs;whnf
 . conv=>lhs;whnf
 . first | exact h4 | exact h5
|apply zI rfl rfl rfl
 . conv=>lhs;whnf
 . conv=>lhs;whnf;arg 1;whnf
 . conv=>lhs;whnf;arg 1;whnf
 . exact ⟨by kernel_rfl,by kernel_rfl⟩
 . rfl
|refine zx ⟨?_,?_⟩
|refine ⟨_,by conv=>lhs;whnf;arg 2;whnf,?_⟩;conv=>rhs;whnf
|exact trivial)
      all_goals first
       |exact zU (by omega)
       |exact ⟨rfl,trivial⟩
       |rfl
       |skip
    . have hb:sgZ l [33] z=false:=by simpa using hb
      rw [if_neg (by rw [hb];decide)]
      refine zb (fn:=Tryz.f180) 33 Tryz.func180 rfl rfl ?_
      intro pas w0 w' he hp
      repeat' (first
|apply s_m (zj l) (zN l) rfl
 . conv=>lhs;whnf
 . conv=>lhs;whnf
 . rfl
 . conv=>lhs;whnf;arg 1;whnf
 . first | exact z6 _ _ | exact zBh _ _
 . first | exact h1 | exact ih | exact h2 | exact h3
 . exact fun _=>rfl
 . exact fun _=>rfl
|apply zG
 . conv=>lhs;whnf
 . assumption
|apply zD
 . conv=>lhs;whnf
 . assumption
|refine zA ?_
|refine zB ?_
|refine zF ?_
|apply aw_1
 conv=>whnf
 refine ⟨?_,trivial⟩
|apply s_1
 conv=>whnf;arg 1;arg 4;arg 3;whnf
 refine ⟨?_,?_⟩
|apply zi rfl
 . conv=>lhs;whnf
 . conv=>lhs;whnf
 . first | exact h4 | exact h5
|apply zI rfl rfl rfl
 . conv=>lhs;whnf
 . conv=>lhs;whnf;arg 1;whnf
 . conv=>lhs;whnf;arg 1;whnf
 . exact ⟨by kernel_rfl,by kernel_rfl⟩
 . rfl
|refine zx ⟨?_,?_⟩
|refine ⟨_,by conv=>lhs;whnf;arg 2;whnf,?_⟩;conv=>rhs;whnf
|exact trivial)
      all_goals first
       |exact zU (by omega)
       |exact ⟨rfl,trivial⟩
       |rfl
       |skip
  . have hs:sgZ l [91] x=false:=by simpa using hs
    have eb:zCL l (refZ l f) x=(((nameZ l x).1,[]),(nameZ l x).2):=by unfold zCL;rw [if_neg (by rw [hs];decide)]
    have h2:=zAN l x hx hl
    have m1:=(zy hE hx).mv
    rw [eb]
    generalize nameZ l x=R at h2 m1 |-
    obtain ⟨n,z⟩:=R
    dsimp only at h2 m1 |-
    have h3:=zAa l z m1.hi [33]
    have hzz:=m1.hi
    have h4:AC EN5 Tryz.prog 205 [.c (.string (bs n))] (.agg (refC n [])):=namedF_ac n
    have h5:=zE2 n [] (by simp) (by simp)
    unfold zD5
    dsimp only
    by_cases hb:sgZ l [33] z=true
    . rw [if_pos hb]
      refine zb (fn:=Tryz.f180) 33 Tryz.func180 rfl rfl ?_
      intro pas w0 w' he hp
      repeat' (first
|apply s_m (zj l) (zN l) rfl
 . conv=>lhs;whnf
 . conv=>lhs;whnf
 . rfl
 . conv=>lhs;whnf;arg 1;whnf
 . first | exact z6 _ _ | exact zBh _ _
 . first | exact h1 | exact h2 | exact h3
 . exact fun _=>rfl
 . exact fun _=>rfl
|apply zG
 . conv=>lhs;whnf
 . assumption
|apply zD
 . conv=>lhs;whnf
 . assumption
|refine zA ?_
|refine zB ?_
|refine zF ?_
|apply aw_1
 conv=>whnf
 refine ⟨?_,trivial⟩
|apply s_1
 conv=>whnf;arg 1;arg 4;arg 3;whnf
 refine ⟨?_,?_⟩
|apply zi rfl
 . conv=>lhs;whnf
 . conv=>lhs;whnf
 . first | exact h4 | exact h5
|apply zI rfl rfl rfl
 . conv=>lhs;whnf
 . conv=>lhs;whnf;arg 1;whnf
 . conv=>lhs;whnf;arg 1;whnf
 . exact ⟨by kernel_rfl,by kernel_rfl⟩
 . rfl
|refine zx ⟨?_,?_⟩
|refine ⟨_,by conv=>lhs;whnf;arg 2;whnf,?_⟩;conv=>rhs;whnf
|exact trivial)
      all_goals first
       |exact zU (by omega)
       |exact ⟨rfl,trivial⟩
       |rfl
       |skip
    . have hb:sgZ l [33] z=false:=by simpa using hb
      rw [if_neg (by rw [hb];decide)]
      refine zb (fn:=Tryz.f180) 33 Tryz.func180 rfl rfl ?_
      intro pas w0 w' he hp
      repeat' (first
|apply s_m (zj l) (zN l) rfl
 . conv=>lhs;whnf
 . conv=>lhs;whnf
 . rfl
 . conv=>lhs;whnf;arg 1;whnf
 . first | exact z6 _ _ | exact zBh _ _
 . first | exact h1 | exact h2 | exact h3
 . exact fun _=>rfl
 . exact fun _=>rfl
|apply zD
 . conv=>lhs;whnf
 . assumption
|refine zA ?_
|refine zB ?_
|refine zF ?_
|apply aw_1
 conv=>whnf
 refine ⟨?_,trivial⟩
|apply s_1
 conv=>whnf;arg 1;arg 4;arg 3;whnf
 refine ⟨?_,?_⟩
|apply zi rfl
 . conv=>lhs;whnf
 . conv=>lhs;whnf
 . first | exact h4 | exact h5
|apply zI rfl rfl rfl
 . conv=>lhs;whnf
 . conv=>lhs;whnf;arg 1;whnf
 . conv=>lhs;whnf;arg 1;whnf
 . exact ⟨by kernel_rfl,by kernel_rfl⟩
 . rfl
|refine zx ⟨?_,?_⟩
|refine ⟨_,by conv=>lhs;whnf;arg 2;whnf,?_⟩;conv=>rhs;whnf
|exact trivial)
      all_goals first
       |exact zU (by omega)
       |exact ⟨rfl,trivial⟩
       |rfl
       |skip
theorem zGZ (x:RS) (hx:x.at'<l.length):ACB EN5 Tryz.prog 127 [.bx (pn 0) 0] [boxF l x] (.agg (refC (typZ l x).1.1 (typZ l x).1.2)) [boxF l (typZ l x).2]:=by
 have h1:=zKB l hE hl (l.length+1-x.at') x hx (by omega) (by omega)
 have m1:=zFz hE (l.length+1-x.at') x hx
 unfold typZ
 generalize refZ l (l.length+1-x.at') x=R at h1 m1 |-
 obtain ⟨⟨n,w⟩,y⟩:=R
 dsimp only at h1 m1 |-
 have h2:=zGI l y 5 x.at' hx
 by_cases hw:w.length>24
 . have f1:decide ((((w.map D.int).length:Nat):Int)>24)=true:=decide_eq_true (by rw [List.length_map];omega)
   rw [if_pos hw]
   refine zb (fn:=Tryz.f127) 19 Tryz.func127 rfl rfl ?_
   intro pas w0 w' he hp
   repeat' (first
|apply s_m (zj l) (zN l) rfl
 . conv=>lhs;whnf
 . conv=>lhs;whnf
 . rfl
 . conv=>lhs;whnf;arg 1;whnf
 . first | exact z6 _ _
 . first | exact h1 | exact h2
 . exact fun _=>rfl
 . exact fun _=>rfl
|apply zG
 . conv=>lhs;whnf
 . assumption
|refine zA ?_
|refine zB ?_
|refine zF ?_
|apply aw_1
 conv=>whnf
 refine ⟨?_,trivial⟩
|apply s_1
 conv=>whnf;arg 1;arg 4;arg 3;whnf
 refine ⟨?_,?_⟩
|apply zI rfl rfl rfl
 . conv=>lhs;whnf
 . conv=>lhs;whnf;arg 1;whnf
 . conv=>lhs;whnf;arg 1;whnf
 . exact ⟨by kernel_rfl,by kernel_rfl⟩
 . rfl
|refine zx ⟨?_,?_⟩
|refine ⟨_,by conv=>lhs;whnf;arg 2;whnf,?_⟩;conv=>rhs;whnf
|exact trivial)
   all_goals first
    |exact ⟨rfl,trivial⟩
    |rfl
    |skip
 . have f1:decide ((((w.map D.int).length:Nat):Int)>24)=false:=decide_eq_false (by rw [List.length_map];omega)
   rw [if_neg hw]
   refine zb (fn:=Tryz.f127) 19 Tryz.func127 rfl rfl ?_
   intro pas w0 w' he hp
   repeat' (first
|apply s_m (zj l) (zN l) rfl
 . conv=>lhs;whnf
 . conv=>lhs;whnf
 . rfl
 . conv=>lhs;whnf;arg 1;whnf
 . first | exact z6 _ _
 . first | exact h1 | exact h2
 . exact fun _=>rfl
 . exact fun _=>rfl
|apply zD
 . conv=>lhs;whnf
 . assumption
|refine zA ?_
|refine zB ?_
|refine zF ?_
|apply aw_1
 conv=>whnf
 refine ⟨?_,trivial⟩
|apply s_1
 conv=>whnf;arg 1;arg 4;arg 3;whnf
 refine ⟨?_,?_⟩
|apply zI rfl rfl rfl
 . conv=>lhs;whnf
 . conv=>lhs;whnf;arg 1;whnf
 . conv=>lhs;whnf;arg 1;whnf
 . exact ⟨by kernel_rfl,by kernel_rfl⟩
 . rfl
|refine zx ⟨?_,?_⟩
|refine ⟨_,by conv=>lhs;whnf;arg 2;whnf,?_⟩;conv=>rhs;whnf
|exact trivial)
   all_goals first
    |exact ⟨rfl,trivial⟩
    |rfl
    |skip
end
end
section
open Go.RowKit
set_option linter.unusedSectionVars false
attribute [local irreducible] wpList Calls Code.wp AW AWo OpOk seqK zq zu loopK endK AC zf Yld Sub
attribute [local irreducible] ACB ACX ACE absLexG YldG absLexU YldU
def zK (k:Int):List V:=[.c (.int .i64 k),.c (.int .i64 0),.c (.string ⟨#[]⟩),.c (.slice none 0 0),.c (.slice none 0 0)]
theorem zKt {l:List Tok} {val:RS->D × RS} {ob:Bool} {e:List UInt8} {j:Nat} {ks:List (List UInt8)} {vs:List D} {y:RS} (h : ¬ (y.er=0/\sgZ l e y=false)):elemsZ l val ob e (j+1) ks vs y=((ks,vs),needZ l e y):=by
 conv=>lhs;unfold elemsZ
 rw [if_neg h]
theorem el_go {l:List Tok} {val:RS->D × RS} {ob:Bool} {e:List UInt8} {j:Nat} {ks:List (List UInt8)} {vs:List D} {y:RS} (h:y.er=0) (h2:sgZ l e y=false):elemsZ l val ob e (j+1) ks vs y=elemsZ l val ob e j (keyZ l ob ks y).1 (vs++[(val (keyZ l ob ks y).2).1]) (val (keyZ l ob ks y).2).2:=by
 conv=>lhs;unfold elemsZ
 rw [if_pos ⟨h,h2⟩]
noncomputable def HEl (l:List Tok) (kk:Int) (e:List UInt8) (lv:Nat) (y:RS) (ks:List (List UInt8)) (vs:List D):Vst 67:=
 stS 67 [(0,.bx (pn 0) 0),(2,.c (.string (bs e))),(3,.c (.int .i64 (lv:Int))),(5,.bx 5 0),(8,.bx 8 0)]
  [(pn 0,boxF l y),(8,.box 53 (zK 0)),(5,.box 53 [.c (.int .i64 kk),.c (.int .i64 0),.c (.string ⟨#[]⟩),.own 901 53 vs,.own 902 9 (ks.map strD)]),(901,.tok 53 vs.length),(902,.tok 9 (ks.map strD).length)]
theorem app80 {n:Nat} (h:n<=200000):n+1<=maxLen/\(n+1)*80<=140737488355328:=by unfold maxLen;omega
theorem app16 {n:Nat} (h:n<=200000):n+1<=maxLen/\(n+1)*16<=140737488355328:=by unfold maxLen;omega
section
variable (l:List Tok) (hE:Ed l) (hl:l.length<=100000) (val:RS->D × RS) (lv:Nat) (hlv:lv<=1000) (hm : ∀ y,y.at'<l.length->Mw l y (val y).2) (hg : ∀ y,y.at'<l.length->(val y).2.er=0->y.at'<(val y).2.at')
 (hc : ∀ y,y.at'<l.length->Ck y->ACB EN5 Tryz.prog 181 [.bx (pn 0) 0,.c (.int .i64 ((lv:Int)+1))] [boxF l y] (VV (val y).1) [boxF l (val y).2])
include hE hl hlv hm hg hc
theorem listF_acb (e:List UInt8) (x:RS) (hx:x.at'<l.length) (hk:Ck x):ACB EN5 Tryz.prog 208 [.bx (pn 0) 0,.agg (zK 5),.c (.string (bs e)),.c (.int .i64 (lv:Int))] [boxF l x]
 (VV (valD 5 0 [] (elemsZ l val false e (l.length+1-x.at') [] [] x).1.2 (elemsZ l val false e (l.length+1-x.at') [] [] x).1.1)) [boxF l (elemsZ l val false e (l.length+1-x.at') [] [] x).2]:=by
 generalize hR:elemsZ l val false e (l.length+1-x.at') [] [] x=R
 refine zb (fn:=Tryz.f208) 67 Tryz.func208 rfl rfl ?_
 intro pas w0 w he hp
 repeat' (first
|refine zA ?_
|refine zB ?_
|refine zF ?_
|apply aw_1
 conv=>whnf
 refine ⟨?_,trivial⟩
|apply s_1
 conv=>whnf;arg 1;arg 4;arg 3;whnf
 refine ⟨?_,?_⟩
|apply zAW rfl rfl rfl rfl
 . conv=>lhs;whnf;arg 1;whnf
 . rfl
|exact trivial)
 refine zg (Sub.ownF (m:=5) (q:=901) (i:=3) (e:=53) rfl (by decide) rfl rfl rfl) ?_
 refine zg (Sub.ownF (m:=5) (q:=902) (i:=4) (e:=9) rfl (by decide) rfl rfl rfl) ?_
 refine zn (fun j st => ∃ y vs,elemsZ l val false e j [] vs y=R/\y.at'<l.length/\Ck y/\0<j/\(y.er=0->l.length-y.at'<j)/\vs.length+j<=l.length+1/\Sub ⟨Tryz.prog,pas,w0,w,EN5,he,hp,fun _ _ _=>False,[]⟩ st (HEl l 5 e lv y [] vs)) (l.length+1-x.at') ⟨x,[],hR,hx,hk,by omega,fun _=>by omega,by simp only [List.length_nil];omega,?_⟩ ?_
 . exact Sub.live ⟨rfl,rfl,rfl,rfl,rfl,trivial⟩ ⟨rfl,rfl,rfl,rfl,rfl,trivial⟩
 clear hR
 rintro j st ⟨y,vs,hR,hy,hky,hj0,hj,hv,hs2⟩
 refine zg hs2 ?_
 clear hs2
 obtain ⟨j,rfl⟩ : ∃ q,j=q+1:=⟨j-1,by omega⟩
 have h1:=zAa l y hy e
 have h2:=zAJ l y hy hl e
 by_cases g0:y.er=0
 . have f0:(y.er==0)=true:=by rw [g0];rfl
   have g1:((y.er==0)==true)=true:=by rw [f0];rfl
   by_cases gs:sgZ l e y=true
   . have hex:((y.er==0)==true)=false->False:=fun h=>by rw [g1] at h;cases h
     rw [zKt (fun h=>by rw [gs] at h;cases h.2)] at hR
     subst hR
     have f2:(!sgZ l e y)=false:=by rw [gs];rfl
     repeat' (first
|apply s_m (zj l) (zN l) rfl
 . conv=>lhs;whnf
 . conv=>lhs;whnf
 . rfl
 . conv=>lhs;whnf;arg 1;whnf
 . first | exact z6 _ _
 . first | exact h1 | exact h2
 . exact fun _=>rfl
 . exact fun _=>rfl
|apply zl (zj l) (zN l) rfl
 . conv=>lhs;whnf
 . conv=>lhs;whnf
 . first | rfl | assumption
 . conv=>lhs;whnf
 . rfl
 . conv=>lhs;whnf;arg 1;whnf
 . first | exact z6 _ _
 . first | exact h1 | exact h2
 . exact fun _=>rfl
 . exact fun _=>rfl
|apply zD
 . conv=>lhs;whnf
 . assumption
|refine zA ?_
|refine zB ?_
|refine zF ?_
|apply aw_1
 conv=>whnf
 refine ⟨?_,trivial⟩
|apply zX rfl rfl
 . conv=>lhs;whnf
 . conv=>lhs;whnf
 . first | exact bT1 ‹_› | exact bT2 ‹_›
|apply s_1
 conv=>whnf;arg 1;arg 4;arg 3;whnf
 refine ⟨?_,?_⟩
|apply zI rfl rfl rfl
 . conv=>lhs;whnf
 . conv=>lhs;whnf;arg 1;whnf
 . conv=>lhs;whnf;arg 1;whnf
 . exact ⟨by kernel_rfl,by kernel_rfl⟩
 . rfl
|apply zC rfl
 . conv=>lhs;whnf
 . conv=>lhs;whnf
 . first | rfl | assumption
 . conv=>lhs;whnf;arg 2;whnf
|refine zO ?_
|refine zL rfl ?_
|refine zM ?_
|refine zx ⟨?_,?_⟩
|refine ⟨_,by conv=>lhs;whnf;arg 2;whnf,?_⟩;conv=>rhs;whnf
|exact trivial)
     all_goals first
      |exact ⟨rfl,trivial⟩
      |rfl
      |skip
   . have gs:sgZ l e y=false:=by simpa using gs
     have f2:(!sgZ l e y)=true:=by rw [gs];rfl
     rw [el_go g0 gs] at hR
     have e0:keyZ l false [] y=([],y):=rfl
     rw [e0] at hR
     have hm1:=hm y hy
     have hhi:=hm1.hi
     have hlo:=hm1.lo
     have hg1:=hg y hy
     have hc1:=hc y hy hky
     repeat' (first
|apply s_m (zj l) (zN l) rfl
 . conv=>lhs;whnf
 . conv=>lhs;whnf
 . rfl
 . conv=>lhs;whnf;arg 1;whnf
 . first | exact z6 _ _
 . first | exact h1 | exact hc1
 . exact fun _=>rfl
 . exact fun _=>rfl
|apply zl (zj l) (zN l) rfl
 . conv=>lhs;whnf
 . conv=>lhs;whnf
 . first | rfl | assumption
 . conv=>lhs;whnf
 . rfl
 . conv=>lhs;whnf;arg 1;whnf
 . first | exact z6 _ _
 . first | exact h1 | exact hc1
 . exact fun _=>rfl
 . exact fun _=>rfl
|apply zBW [(val y).1] rfl rfl
 . conv=>lhs;whnf
 . first | (conv=>lhs;whnf;arg 1;whnf)
 . rfl
 . rfl
 . repeat' (first | exact trivial | apply And.intro | rfl)
|apply zG
 . conv=>lhs;whnf
 . assumption
|refine zA ?_
|refine zB ?_
|refine zF ?_
|refine zZ ?_
|apply aw_1
 conv=>whnf
 refine ⟨?_,trivial⟩
|apply zX rfl rfl
 . conv=>lhs;whnf
 . conv=>lhs;whnf
 . first | exact bT1 ‹_› | exact bT2 ‹_›
|apply s_1
 conv=>whnf;arg 1;arg 4;arg 3;whnf
 refine ⟨?_,?_⟩
|apply zI rfl rfl rfl
 . conv=>lhs;whnf
 . conv=>lhs;whnf;arg 1;whnf
 . conv=>lhs;whnf;arg 1;whnf
 . exact ⟨by kernel_rfl,by kernel_rfl⟩
 . rfl
|apply zBK rfl rfl
 . conv=>lhs;whnf
 . first | (conv=>lhs;whnf;arg 1;whnf)
 . first | exact fun _=>rfl | (intro _;kernel_rfl)
 . conv=>lhs;whnf
 . conv=>lhs;whnf;arg 1;whnf
 . conv=>lhs;whnf
|apply zC rfl
 . conv=>lhs;whnf
 . conv=>lhs;whnf
 . first | rfl | assumption
 . conv=>lhs;whnf;arg 2;whnf
|exact trivial)
     all_goals first
      |exact zU (by omega)
      |exact zJ (Nat.lt_succ_self j) ⟨(val y).2,vs++[(val y).1],hR,hhi,hm1.ct hky,by have:=hj g0;omega,fun h=>by have:=hg1 h;have:=hj g0;omega,by rw [List.length_append];simp only [List.length_cons,List.length_nil];omega,Sub.live ⟨rfl,rfl,rfl,rfl,rfl,trivial⟩ ⟨rfl,rfl,rfl,by rw [List.length_append];rfl,rfl,trivial⟩⟩
      |exact ⟨by simp,app80 (by omega)⟩
      |skip
 . have f0:(y.er==0)=false:=by simpa using g0
   have g1:((y.er==0)==true)=false:=by rw [f0];rfl
   rw [zKt (fun h=>g0 h.1)] at hR
   subst hR
   repeat' (first
|apply s_m (zj l) (zN l) rfl
 . conv=>lhs;whnf
 . conv=>lhs;whnf
 . rfl
 . conv=>lhs;whnf;arg 1;whnf
 . first | exact z6 _ _
 . first | exact h1 | exact h2
 . exact fun _=>rfl
 . exact fun _=>rfl
|apply zW rfl
 . conv=>lhs;whnf
 . conv=>lhs;whnf
 . first | rfl | assumption
|refine zA ?_
|refine zB ?_
|refine zF ?_
|apply aw_1
 conv=>whnf
 refine ⟨?_,trivial⟩
|apply zT rfl rfl
 . conv=>lhs;whnf
 . conv=>lhs;whnf
 . first | exact bF1 ‹_› | exact bF2 ‹_›
|apply s_1
 conv=>whnf;arg 1;arg 4;arg 3;whnf
 refine ⟨?_,?_⟩
|apply zI rfl rfl rfl
 . conv=>lhs;whnf
 . conv=>lhs;whnf;arg 1;whnf
 . conv=>lhs;whnf;arg 1;whnf
 . exact ⟨by kernel_rfl,by kernel_rfl⟩
 . rfl
|refine zO ?_
|refine zL rfl ?_
|refine zM ?_
|refine zx ⟨?_,?_⟩
|refine ⟨_,by conv=>lhs;whnf;arg 2;whnf,?_⟩;conv=>rhs;whnf
|exact trivial)
   all_goals first
    |exact ⟨rfl,trivial⟩
    |rfl
    |skip
end
end
section
open Go.RowKit
set_option linter.unusedSectionVars false
attribute [local irreducible] wpList Calls Code.wp AW AWo OpOk seqK zq zu loopK endK AC zf Yld Sub
attribute [local irreducible] ACB ACX ACE absLexG YldG absLexU YldU
section
variable (l:List Tok) (hE:Ed l) (hl:l.length<=100000) (val:RS->D × RS) (lv:Nat) (hlv:lv<=1000) (hm : ∀ y,y.at'<l.length->Mw l y (val y).2) (hg : ∀ y,y.at'<l.length->(val y).2.er=0->y.at'<(val y).2.at')
 (hc : ∀ y,y.at'<l.length->Ck y->ACB EN5 Tryz.prog 181 [.bx (pn 0) 0,.c (.int .i64 ((lv:Int)+1))] [boxF l y] (VV (val y).1) [boxF l (val y).2])
include hE hl hlv hm hg hc
theorem objF_acb (e:List UInt8) (x:RS) (hx:x.at'<l.length) (hk:Ck x):ACB EN5 Tryz.prog 208 [.bx (pn 0) 0,.agg (zK 6),.c (.string (bs e)),.c (.int .i64 (lv:Int))] [boxF l x]
 (VV (valD 6 0 [] (elemsZ l val true e (l.length+1-x.at') [] [] x).1.2 (elemsZ l val true e (l.length+1-x.at') [] [] x).1.1)) [boxF l (elemsZ l val true e (l.length+1-x.at') [] [] x).2]:=by
 generalize hR:elemsZ l val true e (l.length+1-x.at') [] [] x=R
 refine zb (fn:=Tryz.f208) 67 Tryz.func208 rfl rfl ?_
 intro pas w0 w he hp
 repeat' (first
|refine zA ?_
|refine zB ?_
|refine zF ?_
|apply aw_1
 conv=>whnf
 refine ⟨?_,trivial⟩
|apply s_1
 conv=>whnf;arg 1;arg 4;arg 3;whnf
 refine ⟨?_,?_⟩
|apply zAW rfl rfl rfl rfl
 . conv=>lhs;whnf;arg 1;whnf
 . rfl
|exact trivial)
 refine zg (Sub.ownF (m:=5) (q:=901) (i:=3) (e:=53) rfl (by decide) rfl rfl rfl) ?_
 refine zg (Sub.ownF (m:=5) (q:=902) (i:=4) (e:=9) rfl (by decide) rfl rfl rfl) ?_
 refine zn (fun j st => ∃ y ks vs,elemsZ l val true e j ks vs y=R/\y.at'<l.length/\Ck y/\0<j/\(y.er=0->l.length-y.at'<j)/\vs.length+j<=l.length+1/\ks.length=vs.length/\Sub ⟨Tryz.prog,pas,w0,w,EN5,he,hp,fun _ _ _=>False,[]⟩ st (HEl l 6 e lv y ks vs)) (l.length+1-x.at') ⟨x,[],[],hR,hx,hk,by omega,fun _=>by omega,by simp only [List.length_nil];omega,rfl,?_⟩ ?_
 . exact Sub.live ⟨rfl,rfl,rfl,rfl,rfl,trivial⟩ ⟨rfl,rfl,rfl,rfl,rfl,trivial⟩
 clear hR
 rintro j st ⟨y,ks,vs,hR,hy,hky,hj0,hj,hv,hkv,hs2⟩
 refine zg hs2 ?_
 clear hs2
 obtain ⟨j,rfl⟩ : ∃ q,j=q+1:=⟨j-1,by omega⟩
 have h1:=zAa l y hy e
 have h2:=zAJ l y hy hl e
 by_cases g0:y.er=0
 . have f0:(y.er==0)=true:=by rw [g0];rfl
   have g1:((y.er==0)==true)=true:=by rw [f0];rfl
   by_cases gs:sgZ l e y=true
   . rw [zKt (fun h=>by rw [gs] at h;cases h.2)] at hR
     subst hR
     have f2:(!sgZ l e y)=false:=by rw [gs];rfl
     repeat' (first
|apply s_m (zj l) (zN l) rfl
 . conv=>lhs;whnf
 . conv=>lhs;whnf
 . rfl
 . conv=>lhs;whnf;arg 1;whnf
 . first | exact z6 _ _
 . first | exact h1 | exact h2
 . exact fun _=>rfl
 . exact fun _=>rfl
|apply zl (zj l) (zN l) rfl
 . conv=>lhs;whnf
 . conv=>lhs;whnf
 . first | rfl | assumption
 . conv=>lhs;whnf
 . rfl
 . conv=>lhs;whnf;arg 1;whnf
 . first | exact z6 _ _
 . first | exact h1 | exact h2
 . exact fun _=>rfl
 . exact fun _=>rfl
|apply zD
 . conv=>lhs;whnf
 . assumption
|refine zA ?_
|refine zB ?_
|refine zF ?_
|apply aw_1
 conv=>whnf
 refine ⟨?_,trivial⟩
|apply zX rfl rfl
 . conv=>lhs;whnf
 . conv=>lhs;whnf
 . first | exact bT1 ‹_› | exact bT2 ‹_›
|apply s_1
 conv=>whnf;arg 1;arg 4;arg 3;whnf
 refine ⟨?_,?_⟩
|apply zI rfl rfl rfl
 . conv=>lhs;whnf
 . conv=>lhs;whnf;arg 1;whnf
 . conv=>lhs;whnf;arg 1;whnf
 . exact ⟨by kernel_rfl,by kernel_rfl⟩
 . rfl
|apply zC rfl
 . conv=>lhs;whnf
 . conv=>lhs;whnf
 . first | rfl | assumption
 . conv=>lhs;whnf;arg 2;whnf
|refine zO ?_
|refine zL rfl ?_
|refine zM ?_
|refine zx ⟨?_,?_⟩
|refine ⟨_,by conv=>lhs;whnf;arg 2;whnf,?_⟩;conv=>rhs;whnf
|exact trivial)
     all_goals first
      |exact ⟨rfl,trivial⟩
      |rfl
      |skip
   . have gs:sgZ l e y=false:=by simpa using gs
     have f2:(!sgZ l e y)=true:=by rw [gs];rfl
     rw [el_go g0 gs] at hR
     have h4:=zCb l y hy
     have h5:=zBR l y 7 hy
     have hh:AC EN5 Tryz.prog 233 [.sl 9 (ks.map strD),.c (.string ((gD (l.map tokD) ((y.at':Int)).toNat).f 1).s)] (.c (.bool (ks.contains (tkZ l y).s))):=by
      have e1:gD (l.map tokD) ((y.at':Int)).toNat=tokD (tkZ l y):=zA1 l hy
      rw [e1]
      exact has2_ac ks (tkZ l y).s (by omega)
     cases hN:nmZ l y with
     |false =>
      have gN:(nmZ l y==true)=false:=by rw [hN];rfl
      have e0:keyZ l true ks y=(ks++[(nameZ l y).1],needZ l [58] (nameZ l y).2):=by
       unfold keyZ;rw [if_pos rfl,if_neg (by rw [hN,Bool.false_and];decide)]
      rw [e0] at hR
      rw [hN] at gN h4
      have m1:Mw l y (y):=.refl hy
      have hn2:=zAN l (y) m1.hi hl
      have m2:=(zy hE m1.hi).mv
      have h3:=zAJ l (nameZ l (y)).2 m2.hi hl [58]
      have m3:=(zAA hE [58] m2.hi).mv
      have m13:=(m1.trans m2).trans m3
      have hc1:=hc (needZ l [58] (nameZ l (y)).2) m3.hi (m13.ct hky)
      have hm1:=hm (needZ l [58] (nameZ l (y)).2) m3.hi
      have hg1:=hg (needZ l [58] (nameZ l (y)).2) m3.hi
      have hhi:=hm1.hi
      have hlo:=hm1.lo
      have hlo3:=m13.lo
      have hckv:=hm1.ct (m13.ct hky)
      repeat' (first
|apply zAR 18 ([(1,[1000000]),(4,[5]),(8,[1000000]),(12,[1000000])]) ([]) rfl (by kernel_rfl) (by kernel_rfl) (by kernel_rfl)
|apply zFf
|apply zJr rfl
 . conv=>lhs;whnf
 . conv=>lhs;whnf
 . rfl
 . conv=>lhs;whnf;arg 1;whnf
 . exact fun _=>rfl
 . first | exact h4
 . exact fun _=>rfl
 . exact fun _=>rfl
 . rfl
|apply zJq rfl
 . conv=>lhs;whnf
 . conv=>lhs;whnf
 . first | rfl | assumption
|apply u_m (zj l) (zN l) rfl
 . conv=>lhs;whnf
 . conv=>lhs;whnf
 . rfl
 . conv=>lhs;whnf;arg 1;whnf
 . first | exact z6 _ _
 . first | exact hn2
 . exact fun _=>rfl
 . exact fun _=>rfl
 . rfl
|apply u_lit [strD (nameZ l (y)).1] rfl rfl
 . conv=>lhs;whnf
 . first | (conv=>lhs;whnf;arg 1;whnf)
 . rfl
 . rfl
 . repeat' (first | exact trivial | apply And.intro | rfl)
|apply zGY rfl rfl
 . conv=>lhs;whnf
 . conv=>lhs;whnf
 . first | exact bF1 ‹_› | exact bF2 ‹_›
|apply zFe rfl
 . conv=>lhs;whnf
 . conv=>lhs;whnf;arg 2;whnf
|apply u_app rfl rfl
 . conv=>lhs;whnf
 . first | (conv=>lhs;whnf;arg 1;whnf)
 . first | exact fun _=>rfl | (intro _;kernel_rfl)
 . conv=>lhs;whnf
 . rfl
 . conv=>lhs;whnf;arg 1;whnf
 . conv=>lhs;whnf
|apply zCU rfl rfl rfl
 . conv=>lhs;whnf
 . rfl
 . conv=>lhs;whnf;arg 1;whnf
 . conv=>lhs;whnf;arg 1;whnf
 . exact ⟨by kernel_rfl,by kernel_rfl⟩
 . rfl
|show inO _ _=true;rfl
|apply zAR 8 ([(1,[5])]) ([(3,[1000000]),(5,[902]),(7,[5])]) rfl (by kernel_rfl) (by kernel_rfl) (by kernel_rfl)
|apply s_m (zj l) (zN l) rfl
 . conv=>lhs;whnf
 . conv=>lhs;whnf
 . rfl
 . conv=>lhs;whnf;arg 1;whnf
 . first | exact z6 _ _
 . first | exact h1 | exact h5 | exact h3 | exact hc1
 . exact fun _=>rfl
 . exact fun _=>rfl
|apply zl (zj l) (zN l) rfl
 . conv=>lhs;whnf
 . conv=>lhs;whnf
 . first | rfl | assumption
 . conv=>lhs;whnf
 . rfl
 . conv=>lhs;whnf;arg 1;whnf
 . first | exact z6 _ _
 . first | exact h1 | exact h5 | exact h3 | exact hc1
 . exact fun _=>rfl
 . exact fun _=>rfl
|apply zBW [(val (needZ l [58] (nameZ l (y)).2)).1] rfl rfl
 . conv=>lhs;whnf
 . first | (conv=>lhs;whnf;arg 1;whnf)
 . rfl
 . rfl
 . repeat' (first | exact trivial | apply And.intro | rfl)
|apply zG
 . conv=>lhs;whnf
 . assumption
|apply zD
 . conv=>lhs;whnf
 . assumption
|refine zA ?_
|refine zB ?_
|refine zF ?_
|refine zZ ?_
|apply aw_1
 conv=>whnf
 refine ⟨?_,trivial⟩
|apply zX rfl rfl
 . conv=>lhs;whnf
 . conv=>lhs;whnf
 . first | exact bT1 ‹_› | exact bT2 ‹_›
|apply s_1
 conv=>whnf;arg 1;arg 4;arg 3;whnf
 refine ⟨?_,?_⟩
|apply zI rfl rfl rfl
 . conv=>lhs;whnf
 . conv=>lhs;whnf;arg 1;whnf
 . conv=>lhs;whnf;arg 1;whnf
 . exact ⟨by kernel_rfl,by kernel_rfl⟩
 . rfl
|apply zBK rfl rfl
 . conv=>lhs;whnf
 . first | (conv=>lhs;whnf;arg 1;whnf)
 . first | exact fun _=>rfl | (intro _;kernel_rfl)
 . conv=>lhs;whnf
 . conv=>lhs;whnf;arg 1;whnf
 . conv=>lhs;whnf
|apply zC rfl
 . conv=>lhs;whnf
 . conv=>lhs;whnf
 . first | rfl | assumption
 . conv=>lhs;whnf;arg 2;whnf
|exact trivial)
      all_goals first
       |exact zU (by omega)
       |exact zAr l hy
       |exact ⟨by simp,app80 (by omega)⟩
       |exact ⟨by simp,by rw [List.length_map];exact app16 (by omega)⟩
       |skip
      . refine zJ (Nat.lt_succ_self j) ⟨(val (needZ l [58] (nameZ l (y)).2)).2,ks++[(nameZ l (y)).1],vs++[(val (needZ l [58] (nameZ l (y)).2)).1],hR,hhi,hckv,?_,?_,?_,?_,Sub.live ⟨rfl,rfl,rfl,rfl,rfl,trivial⟩ ⟨rfl,rfl,?_,?_,?_,trivial⟩⟩
        . have:=hj g0;omega
        . intro h;have:=hg1 h;have:=hj g0;omega
        . rw [List.length_append];simp only [List.length_cons,List.length_nil];omega
        . rw [List.length_append,List.length_append,hkv];rfl
        . rw [List.map_append];rfl
        . rw [List.length_append];rfl
        . rw [List.map_append,List.length_append];rfl
     |true =>
     have gN:(nmZ l y==true)=true:=by rw [hN];rfl
     rw [hN] at gN h4
     cases hC:ks.contains (tkZ l y).s with
     |true =>
      have e0:keyZ l true ks y=(ks++[(nameZ l (zAG l 7 y)).1],needZ l [58] (nameZ l (zAG l 7 y)).2):=by
       unfold keyZ;rw [if_pos rfl,if_pos (by rw [hN,hC];rfl)]
      rw [e0] at hR
      rw [hC] at hh
      have m1:Mw l y (zAG l 7 y):=zDj hy (by decide)
      have hn2:=zAN l (zAG l 7 y) m1.hi hl
      have m2:=(zy hE m1.hi).mv
      have h3:=zAJ l (nameZ l (zAG l 7 y)).2 m2.hi hl [58]
      have m3:=(zAA hE [58] m2.hi).mv
      have m13:=(m1.trans m2).trans m3
      have hc1:=hc (needZ l [58] (nameZ l (zAG l 7 y)).2) m3.hi (m13.ct hky)
      have hm1:=hm (needZ l [58] (nameZ l (zAG l 7 y)).2) m3.hi
      have hg1:=hg (needZ l [58] (nameZ l (zAG l 7 y)).2) m3.hi
      have hhi:=hm1.hi
      have hlo:=hm1.lo
      have hlo3:=m13.lo
      have hckv:=hm1.ct (m13.ct hky)
      repeat' (first
|apply zAR 18 ([(1,[1000000]),(4,[5]),(8,[1000000]),(12,[1000000])]) ([]) rfl (by kernel_rfl) (by kernel_rfl) (by kernel_rfl)
|apply zFf
|apply zJr rfl
 . conv=>lhs;whnf
 . conv=>lhs;whnf
 . rfl
 . conv=>lhs;whnf;arg 1;whnf
 . exact fun _=>rfl
 . first | exact h4
 . exact fun _=>rfl
 . exact fun _=>rfl
 . rfl
|apply u_m (zj l) (zN l) rfl
 . conv=>lhs;whnf
 . conv=>lhs;whnf
 . rfl
 . conv=>lhs;whnf;arg 1;whnf
 . first | exact z6 _ _
 . first | exact hn2
 . exact fun _=>rfl
 . exact fun _=>rfl
 . rfl
|apply u_lit [strD (nameZ l (zAG l 7 y)).1] rfl rfl
 . conv=>lhs;whnf
 . first | (conv=>lhs;whnf;arg 1;whnf)
 . rfl
 . rfl
 . repeat' (first | exact trivial | apply And.intro | rfl)
|apply zEQ rfl rfl
 . conv=>lhs;whnf
 . conv=>lhs;whnf
 . first | exact bT1 ‹_› | exact bT2 ‹_›
|apply zFe rfl
 . conv=>lhs;whnf
 . conv=>lhs;whnf;arg 2;whnf
|apply u_app rfl rfl
 . conv=>lhs;whnf
 . first | (conv=>lhs;whnf;arg 1;whnf)
 . first | exact fun _=>rfl | (intro _;kernel_rfl)
 . conv=>lhs;whnf
 . rfl
 . conv=>lhs;whnf;arg 1;whnf
 . conv=>lhs;whnf
|apply zCU rfl rfl rfl
 . conv=>lhs;whnf
 . rfl
 . conv=>lhs;whnf;arg 1;whnf
 . conv=>lhs;whnf;arg 1;whnf
 . exact ⟨by kernel_rfl,by kernel_rfl⟩
 . rfl
|apply zBF rfl
 . conv=>lhs;whnf
 . conv=>lhs;whnf
 . first | rfl | assumption
 . conv=>lhs;whnf;arg 2;whnf
|apply zDW rfl
 . conv=>lhs;whnf
 . conv=>lhs;whnf
 . first | rfl | assumption
 . conv=>lhs;whnf
 . first | exact hh
|show inO _ _=true;rfl
|apply zAR 8 ([(1,[5])]) ([(3,[1000000]),(5,[902]),(7,[5])]) rfl (by kernel_rfl) (by kernel_rfl) (by kernel_rfl)
|apply s_m (zj l) (zN l) rfl
 . conv=>lhs;whnf
 . conv=>lhs;whnf
 . rfl
 . conv=>lhs;whnf;arg 1;whnf
 . first | exact z6 _ _
 . first | exact h1 | exact h5 | exact h3 | exact hc1
 . exact fun _=>rfl
 . exact fun _=>rfl
|apply zl (zj l) (zN l) rfl
 . conv=>lhs;whnf
 . conv=>lhs;whnf
 . first | rfl | assumption
 . conv=>lhs;whnf
 . rfl
 . conv=>lhs;whnf;arg 1;whnf
 . first | exact z6 _ _
 . first | exact h1 | exact h5 | exact h3 | exact hc1
 . exact fun _=>rfl
 . exact fun _=>rfl
|apply zBW [(val (needZ l [58] (nameZ l (zAG l 7 y)).2)).1] rfl rfl
 . conv=>lhs;whnf
 . first | (conv=>lhs;whnf;arg 1;whnf)
 . rfl
 . rfl
 . repeat' (first | exact trivial | apply And.intro | rfl)
|apply zG
 . conv=>lhs;whnf
 . assumption
|refine zA ?_
|refine zB ?_
|refine zF ?_
|refine zZ ?_
|apply aw_1
 conv=>whnf
 refine ⟨?_,trivial⟩
|apply zX rfl rfl
 . conv=>lhs;whnf
 . conv=>lhs;whnf
 . first | exact bT1 ‹_› | exact bT2 ‹_›
|apply s_1
 conv=>whnf;arg 1;arg 4;arg 3;whnf
 refine ⟨?_,?_⟩
|apply zI rfl rfl rfl
 . conv=>lhs;whnf
 . conv=>lhs;whnf;arg 1;whnf
 . conv=>lhs;whnf;arg 1;whnf
 . exact ⟨by kernel_rfl,by kernel_rfl⟩
 . rfl
|apply zBK rfl rfl
 . conv=>lhs;whnf
 . first | (conv=>lhs;whnf;arg 1;whnf)
 . first | exact fun _=>rfl | (intro _;kernel_rfl)
 . conv=>lhs;whnf
 . conv=>lhs;whnf;arg 1;whnf
 . conv=>lhs;whnf
|apply zC rfl
 . conv=>lhs;whnf
 . conv=>lhs;whnf
 . first | rfl | assumption
 . conv=>lhs;whnf;arg 2;whnf
|exact trivial)
      all_goals first
       |exact zU (by omega)
       |exact zAr l hy
       |exact ⟨by simp,app80 (by omega)⟩
       |exact ⟨by simp,by rw [List.length_map];exact app16 (by omega)⟩
       |skip
      . refine zJ (Nat.lt_succ_self j) ⟨(val (needZ l [58] (nameZ l (zAG l 7 y)).2)).2,ks++[(nameZ l (zAG l 7 y)).1],vs++[(val (needZ l [58] (nameZ l (zAG l 7 y)).2)).1],hR,hhi,hckv,?_,?_,?_,?_,Sub.live ⟨rfl,rfl,rfl,rfl,rfl,trivial⟩ ⟨rfl,rfl,?_,?_,?_,trivial⟩⟩
        . have:=hj g0;omega
        . intro h;have:=hg1 h;have:=hj g0;omega
        . rw [List.length_append];simp only [List.length_cons,List.length_nil];omega
        . rw [List.length_append,List.length_append,hkv];rfl
        . rw [List.map_append];rfl
        . rw [List.length_append];rfl
        . rw [List.map_append,List.length_append];rfl
     |false =>
      have e0:keyZ l true ks y=(ks++[(nameZ l y).1],needZ l [58] (nameZ l y).2):=by
       unfold keyZ;rw [if_pos rfl,if_neg (by rw [hN,hC];decide)]
      rw [e0] at hR
      rw [hC] at hh
      have m1:Mw l y (y):=.refl hy
      have hn2:=zAN l (y) m1.hi hl
      have m2:=(zy hE m1.hi).mv
      have h3:=zAJ l (nameZ l (y)).2 m2.hi hl [58]
      have m3:=(zAA hE [58] m2.hi).mv
      have m13:=(m1.trans m2).trans m3
      have hc1:=hc (needZ l [58] (nameZ l (y)).2) m3.hi (m13.ct hky)
      have hm1:=hm (needZ l [58] (nameZ l (y)).2) m3.hi
      have hg1:=hg (needZ l [58] (nameZ l (y)).2) m3.hi
      have hhi:=hm1.hi
      have hlo:=hm1.lo
      have hlo3:=m13.lo
      have hckv:=hm1.ct (m13.ct hky)
      repeat' (first
|apply zAR 18 ([(1,[1000000]),(4,[5]),(8,[1000000]),(12,[1000000])]) ([]) rfl (by kernel_rfl) (by kernel_rfl) (by kernel_rfl)
|apply zFf
|apply zJr rfl
 . conv=>lhs;whnf
 . conv=>lhs;whnf
 . rfl
 . conv=>lhs;whnf;arg 1;whnf
 . exact fun _=>rfl
 . first | exact h4
 . exact fun _=>rfl
 . exact fun _=>rfl
 . rfl
|apply u_m (zj l) (zN l) rfl
 . conv=>lhs;whnf
 . conv=>lhs;whnf
 . rfl
 . conv=>lhs;whnf;arg 1;whnf
 . first | exact z6 _ _
 . first | exact hn2
 . exact fun _=>rfl
 . exact fun _=>rfl
 . rfl
|apply u_lit [strD (nameZ l (y)).1] rfl rfl
 . conv=>lhs;whnf
 . first | (conv=>lhs;whnf;arg 1;whnf)
 . rfl
 . rfl
 . repeat' (first | exact trivial | apply And.intro | rfl)
|apply zEQ rfl rfl
 . conv=>lhs;whnf
 . conv=>lhs;whnf
 . first | exact bT1 ‹_› | exact bT2 ‹_›
|apply zFe rfl
 . conv=>lhs;whnf
 . conv=>lhs;whnf;arg 2;whnf
|apply u_app rfl rfl
 . conv=>lhs;whnf
 . first | (conv=>lhs;whnf;arg 1;whnf)
 . first | exact fun _=>rfl | (intro _;kernel_rfl)
 . conv=>lhs;whnf
 . rfl
 . conv=>lhs;whnf;arg 1;whnf
 . conv=>lhs;whnf
|apply zCU rfl rfl rfl
 . conv=>lhs;whnf
 . rfl
 . conv=>lhs;whnf;arg 1;whnf
 . conv=>lhs;whnf;arg 1;whnf
 . exact ⟨by kernel_rfl,by kernel_rfl⟩
 . rfl
|apply zBF rfl
 . conv=>lhs;whnf
 . conv=>lhs;whnf
 . first | rfl | assumption
 . conv=>lhs;whnf;arg 2;whnf
|apply zDW rfl
 . conv=>lhs;whnf
 . conv=>lhs;whnf
 . first | rfl | assumption
 . conv=>lhs;whnf
 . first | exact hh
|show inO _ _=true;rfl
|apply zAR 8 ([(1,[5])]) ([(3,[1000000]),(5,[902]),(7,[5])]) rfl (by kernel_rfl) (by kernel_rfl) (by kernel_rfl)
|apply s_m (zj l) (zN l) rfl
 . conv=>lhs;whnf
 . conv=>lhs;whnf
 . rfl
 . conv=>lhs;whnf;arg 1;whnf
 . first | exact z6 _ _
 . first | exact h1 | exact h5 | exact h3 | exact hc1
 . exact fun _=>rfl
 . exact fun _=>rfl
|apply zl (zj l) (zN l) rfl
 . conv=>lhs;whnf
 . conv=>lhs;whnf
 . first | rfl | assumption
 . conv=>lhs;whnf
 . rfl
 . conv=>lhs;whnf;arg 1;whnf
 . first | exact z6 _ _
 . first | exact h1 | exact h5 | exact h3 | exact hc1
 . exact fun _=>rfl
 . exact fun _=>rfl
|apply zBW [(val (needZ l [58] (nameZ l (y)).2)).1] rfl rfl
 . conv=>lhs;whnf
 . first | (conv=>lhs;whnf;arg 1;whnf)
 . rfl
 . rfl
 . repeat' (first | exact trivial | apply And.intro | rfl)
|apply zG
 . conv=>lhs;whnf
 . assumption
|refine zA ?_
|refine zB ?_
|refine zF ?_
|refine zZ ?_
|apply aw_1
 conv=>whnf
 refine ⟨?_,trivial⟩
|apply zX rfl rfl
 . conv=>lhs;whnf
 . conv=>lhs;whnf
 . first | exact bT1 ‹_› | exact bT2 ‹_›
|apply s_1
 conv=>whnf;arg 1;arg 4;arg 3;whnf
 refine ⟨?_,?_⟩
|apply zI rfl rfl rfl
 . conv=>lhs;whnf
 . conv=>lhs;whnf;arg 1;whnf
 . conv=>lhs;whnf;arg 1;whnf
 . exact ⟨by kernel_rfl,by kernel_rfl⟩
 . rfl
|apply zBK rfl rfl
 . conv=>lhs;whnf
 . first | (conv=>lhs;whnf;arg 1;whnf)
 . first | exact fun _=>rfl | (intro _;kernel_rfl)
 . conv=>lhs;whnf
 . conv=>lhs;whnf;arg 1;whnf
 . conv=>lhs;whnf
|apply zC rfl
 . conv=>lhs;whnf
 . conv=>lhs;whnf
 . first | rfl | assumption
 . conv=>lhs;whnf;arg 2;whnf
|exact trivial)
      all_goals first
       |exact zU (by omega)
       |exact zAr l hy
       |exact ⟨by simp,app80 (by omega)⟩
       |exact ⟨by simp,by rw [List.length_map];exact app16 (by omega)⟩
       |skip
      . refine zJ (Nat.lt_succ_self j) ⟨(val (needZ l [58] (nameZ l (y)).2)).2,ks++[(nameZ l (y)).1],vs++[(val (needZ l [58] (nameZ l (y)).2)).1],hR,hhi,hckv,?_,?_,?_,?_,Sub.live ⟨rfl,rfl,rfl,rfl,rfl,trivial⟩ ⟨rfl,rfl,?_,?_,?_,trivial⟩⟩
        . have:=hj g0;omega
        . intro h;have:=hg1 h;have:=hj g0;omega
        . rw [List.length_append];simp only [List.length_cons,List.length_nil];omega
        . rw [List.length_append,List.length_append,hkv];rfl
        . rw [List.map_append];rfl
        . rw [List.length_append];rfl
        . rw [List.map_append,List.length_append];rfl
 . have f0:(y.er==0)=false:=by simpa using g0
   have g1:((y.er==0)==true)=false:=by rw [f0];rfl
   rw [zKt (fun h=>g0 h.1)] at hR
   subst hR
   repeat' (first
|apply s_m (zj l) (zN l) rfl
 . conv=>lhs;whnf
 . conv=>lhs;whnf
 . rfl
 . conv=>lhs;whnf;arg 1;whnf
 . first | exact z6 _ _
 . first | exact h1 | exact h2
 . exact fun _=>rfl
 . exact fun _=>rfl
|apply zW rfl
 . conv=>lhs;whnf
 . conv=>lhs;whnf
 . first | rfl | assumption
|refine zA ?_
|refine zB ?_
|refine zF ?_
|apply aw_1
 conv=>whnf
 refine ⟨?_,trivial⟩
|apply zT rfl rfl
 . conv=>lhs;whnf
 . conv=>lhs;whnf
 . first | exact bF1 ‹_› | exact bF2 ‹_›
|apply s_1
 conv=>whnf;arg 1;arg 4;arg 3;whnf
 refine ⟨?_,?_⟩
|apply zI rfl rfl rfl
 . conv=>lhs;whnf
 . conv=>lhs;whnf;arg 1;whnf
 . conv=>lhs;whnf;arg 1;whnf
 . exact ⟨by kernel_rfl,by kernel_rfl⟩
 . rfl
|refine zO ?_
|refine zL rfl ?_
|refine zM ?_
|refine zx ⟨?_,?_⟩
|refine ⟨_,by conv=>lhs;whnf;arg 2;whnf,?_⟩;conv=>rhs;whnf
|exact trivial)
   all_goals first
    |exact ⟨rfl,trivial⟩
    |rfl
    |skip
end
end
section
def fxT (x:RS):RS:={ x with fx:=true }
theorem fxT_id {x:RS} (h:x.fx=true):fxT x=x:=by
 cases x
 simp only at h
 subst h;rfl
section
variable {l:List Tok}
theorem failA_fx (e:Int) (a:Nat) (x:RS):(zBg l e a x).fx=x.fx:=by unfold zBg;split<;>rfl
theorem zC4 (e:Int) (x:RS):(zAG l e x).fx=x.fx:=failA_fx e x.at' x
theorem need_fx (s:List UInt8) (x:RS):(needZ l s x).fx=x.fx:=by unfold needZ;split;rfl;exact zC4 _ _
theorem name_fx (x:RS):(nameZ l x).2.fx=x.fx:=by unfold nameZ;split;rfl;exact zC4 _ _
theorem key_fx (ob:Bool) (ks:List (List UInt8)) (x:RS):(keyZ l ob ks x).2.fx=x.fx:=by
 unfold keyZ
 split
 . dsimp only
   rw [need_fx,name_fx]
   split
   . exact zC4 _ _
   . rfl
 . rfl
theorem zGN (lv:Nat) (x:RS):(chkZ l lv x).fx=x.fx:=by
 have h1:(chk1 l x).fx=x.fx:=by unfold chk1;split;exact zC4 _ _;rfl
 have h2:(chk2 l lv (chk1 l x)).fx=x.fx:=by
  unfold chk2
  split
  . rw [zC4,h1]
  . exact h1
 unfold chkZ chk3
 split
 . rw [zC4];exact h2
 . exact h2
theorem zHG {val:RS->D × RS} (hv : ∀ y,(val y).2.fx=y.fx) (ob:Bool) (e:List UInt8) : ∀ (j:Nat) (ks:List (List UInt8)) (vs:List D) (y:RS),(elemsZ l val ob e j ks vs y).2.fx=y.fx
 |0,_,_,_=>rfl
 |j+1,ks,vs,y=>by
  unfold elemsZ
  split
  . rw [zHG hv ob e j,hv,key_fx]
  . exact need_fx _ _
theorem zGW : ∀ (f lv:Nat) (x:RS),(valueZ l f lv x).2.fx=x.fx
 |0,_,_=>rfl
 |f+1,lv,x=>by
  unfold valueZ
  split
  . rfl
  split
  . exact zGN _ _
  split
  . dsimp only;rw [name_fx];exact zGN _ _
  split
  . dsimp only;rw [zHG (zGW f (lv+1))];exact zGN _ _
  split
  . dsimp only;rw [zHG (zGW f (lv+1))];exact zGN _ _
  . exact zGN _ _
theorem zIX {val val':RS->D × RS} (hv : ∀ y,(val y).2.fx=y.fx) (he : ∀ y,y.fx=true->val' y=val y) (ob:Bool) (e:List UInt8) : ∀ (j:Nat) (ks:List (List UInt8)) (vs:List D) (y:RS),y.fx=true->elemsZ l val' ob e j ks vs y=elemsZ l val ob e j ks vs y
 |0,_,_,_,_=>rfl
 |j+1,ks,vs,y,h=>by
  have hk:(keyZ l ob ks y).2.fx=true:=by rw [key_fx];exact h
  unfold elemsZ
  rw [he _ hk,zIX hv he ob e j _ _ _ (by rw [hv];exact hk)]
def zEl (l:List Tok) (f lv:Nat) (y:RS):D × RS:=valueZ l f lv (fxT y)
theorem elems_T (f lv:Nat) (ob:Bool) (e:List UInt8) (j:Nat) (ks:List (List UInt8)) (vs:List D) (y:RS) (h:y.fx=true):elemsZ l (zEl l f lv) ob e j ks vs y=elemsZ l (valueZ l f lv) ob e j ks vs y:=
 zIX (zGW f lv) (fun z hz=>by unfold zEl;rw [fxT_id hz]) ob e j ks vs y h
end
end
section
open Go.RowKit
attribute [local irreducible] wpList Calls Code.wp
section
variable {P:Program} {s:Sg} {w w':World} {pas:Nat->Prop} {B:Nat} {rs:Nat->Option Res}
theorem zJM (h:MemOk P pas B rs s w) (cur:Array Value) (e:TypeId) (n:Nat):Keeps s.F (fun b o=>s.F b o\/(b=w.heap.size/\o<n)) w (w.alloc (.cells cur e)):=fun b o hF =>
 ⟨(zAj (w:=w) (h.fx b o hF)).trans rfl,.inl hF⟩
theorem MemOk.tokNew0 (h:MemOk P pas B rs s w) (hB:B<=w.heap.size) {k:Nat} (X:Nat->Prop) (hX : ∀ q,X q->q=k) (hf : ∀ q ρ,q≠k->rs q=some ρ -> ∀ n,X n->ρ.free n=true) {cur:Array Value} {e:TypeId} {c m:Nat} (hc:cur.size=c*P.cellsOf e) (hm:m<=c) (hmx:c<=maxLen)
 (hx:Ext X s w (s.tok k w.heap.size (m*P.cellsOf e) (.slice (some ⟨w.heap.size,0,none⟩) m c) m) (w.alloc (.cells cur e))) :
 MemOk P pas B (updR rs k (.tok e m)) (s.tok k w.heap.size (m*P.cellsOf e) (.slice (some ⟨w.heap.size,0,none⟩) m c) m) (w.alloc (.cells cur e)) where
 fx b o hF:=by
  rcases hF with hF | ⟨rfl,hF⟩
  . rw [zAj (w:=w) (h.fx b o hF)];exact h.fx b o hF
  . have:o<cur.size:=by rw [hc];exact Nat.lt_of_lt_of_le hF (Nat.mul_le_mul_right _ hm)
    have h2:=zCK (w:=w) (t:=e) (Array.getElem?_eq_getElem this)
    exact Option.isSome_iff_exists.2 ⟨_,h2⟩
 ho q ρ hq:=by
  by_cases e':q=k
  . subst e'
    simp only [updR,if_true] at hq
    cases hq
    refine ⟨by simp [Sg.tok],.inr ⟨w.heap.size,c,cur,by simp [Sg.tok],by simp [Sg.tok],heap_alloc_new w _,hm,hmx,hc,fun o ho hF => ?_⟩⟩
    rcases hF with hF | ⟨_,hF⟩
    . obtain ⟨v,hv⟩:=Option.isSome_iff_exists.1 (h.fx _ o hF)
      have:=block_lt_of_cell hv
      simp at this
    . omega
  . simp only [updR,if_neg e'] at hq
    refine (h.ho q ρ hq).keep hx (fun hXq=>e' (hX q hXq)) (by simp [Sg.tok,e']) (by simp [Sg.tok,e']) (fun n hn=>hf q ρ e' hq n hn) (fun b hb=>Below.heap_alloc w _ _ ((h.ho q ρ hq).lt hb)) (fun b o hb hF => ?_)
    rcases hF with hF | ⟨rfl,_⟩
    . exact hF
    . have:=(h.ho q ρ hq).lt hb;omega
 bs q ρ b hq hb:=by
  by_cases e':q=k
  . subst e'
    simp only [updR,if_true] at hq
    cases hq
    simp only [Sg.bk,Sg.tok,if_true] at hb
    cases hb;exact .inl hB
  . simp only [updR,if_neg e'] at hq
    rw [zBM e'] at hb
    exact h.bs q ρ b hq hb
 dj q r ρ ρ' b hq hr hqb hrb:=by
  by_cases e1:q=k<;>by_cases e2:r=k
  . rw [e1,e2]
  . simp only [updR,if_neg e2] at hr
    rw [zBM e2] at hrb
    subst e1
    simp only [updR,if_true] at hq
    cases hq
    simp only [Sg.bk,Sg.tok,if_true] at hqb
    cases hqb
    have:=(h.ho r ρ' hr).lt hrb
    omega
  . simp only [updR,if_neg e1] at hq
    rw [zBM e1] at hqb
    subst e2
    simp only [updR,if_true] at hr
    cases hr
    simp only [Sg.bk,Sg.tok,if_true] at hrb
    cases hrb
    have:=(h.ho q ρ hq).lt hqb
    omega
  . simp only [updR,if_neg e1] at hq
    simp only [updR,if_neg e2] at hr
    rw [zBM e1] at hqb
    rw [zBM e2] at hrb
    exact h.dj q r ρ ρ' b hq hr hqb hrb
end
section
variable {X:Cx} {nn:Nat} {st:Vst nn} {o:Oper} {K:Vst nn->Prop}
theorem opOk_lit0 {t e:TypeId} {by_ d:Nat} (ho:o.op = .buildSlice t 0 #[]) (hd:o.dst=some d) (hdl:Nat.ble d 999999=true) (he:z8 X.P t=some (e,by_))
 (hK:K (((st.kill d).res d (.tok e 0)).put (some d) (.own d e []))):OpOk X o st K:=by
 intro s w a hI N Q hP hN
 obtain ⟨hu,hlay,i,z,hi,hz,hb,hpos,hzs,hsz⟩:=zCl he
 have ha:(Instr.buildSlice t 0 #[]).run X.P w = .ok (.slice (some ⟨w.heap.size,0,none⟩) 0 0) (w.alloc (.cells #[] e)):=by
  simp [Instr.buildSlice,run_underlying hu,sizeOf,typeInfo,hi,Instr.fill,newRow]
  have hr0:Array.map (fun _:Nat=>(default:Value)) (Array.range 0) = #[]:=by apply Array.ext<;>simp
  rw [hr0]
 unfold Oper.wp
 have hrun:(execOp a.eval o).run X.P w = .ok (.value (.slice (some ⟨w.heap.size,0,none⟩) 0 0)) (w.alloc (.cells #[] e)):=by simp [execOp,ho,ha]
 rw [hrun,Oper.upon_value,hd]
 have hI':=hI.kill d
 have hkeep:Keeps s.F (s.tok d w.heap.size (0*X.P.cellsOf e) (.slice (some ⟨w.heap.size,0,none⟩) 0 0) 0).F w (w.alloc (.cells #[] e)):=zJM hI.mem _ e _
 have hext:Ext (fun m=>m=d) s w (s.tok d w.heap.size (0*X.P.cellsOf e) (.slice (some ⟨w.heap.size,0,none⟩) 0 0) 0) (w.alloc (.cells #[] e)):=
  ⟨hkeep,fun _ _=>rfl,fun q hq => .inl (by simp only [Sg.tok];rw [if_neg hq])⟩
 have hmem:=hI'.mem.tokNew0 hI.base (k:=d) (fun m=>m=d) (fun _ h=>h) free_kill (cur:=#[]) (c:=0) (m:=0) (by simp) (Nat.le_refl _) (Nat.zero_le _) hext
 refine hN _ _ _ _ (Inv.put (st:=(st.kill d).res d (.tok e 0)) (v:=.own d e []) ⟨hI.sz,fun i hi => ?_,hI.df,hI.fr.trans (zCh w _ _) (q:=fun _=>False) (fun _ h=>h.elim),hI.kp.trans hkeep,fun b o hb hnp hF => ?_,hmem,hI.pe.ext hext fun m hm=>by subst hm;exact Nat.le_of_ble_eq_true hdl⟩ (some d) ?_) hK
 . exact rel.ext hext _ _ (zAe (hI.tm i hi)).1 fun n hn=>by subst hn;exact (zAe (hI.tm i hi)).2
 . rcases hF with hF | ⟨rfl,_⟩
   . exact hI.nf b o hb hnp hF
   . have:=hI.base;omega
 . rw [rel]
   exact ⟨zBr (l:=[]) (Nat.le_refl _) (Nat.zero_le _) fun k hk=>absurd hk (Nat.not_lt_zero k),by simp [Sg.tok],fun _=>by simp [Sg.tok]⟩
theorem zEI {t e:TypeId} {by_ k:Nat} {x y:Operand} {l:List D} (ho:o.op = .call { callee:=.builtin .append,args:=#[x,y],argTypes:=#[t,t] }) (he:z8 X.P t=some (e,by_))
 (hx:ev st x = .own k e l) (hy:(ev st y).out = .sl e []) (hK:K (st.put o.dst (.own k e l))):OpOk X o st K:=by
 intro s w a hI N Q hP hN
 obtain ⟨hu,hlay,i,z,hi,hz,hb,hsp,hzs,hsz⟩:=zCl he
 have hxe:=hI.ev x
 rw [hx,rel] at hxe
 obtain ⟨k1,A,c1,hA,hc1,-,-,-⟩:=id hxe.1
 unfold Oper.wp
 have hye:=rel.out _ _ (hI.ev y)
 rw [hy,rel] at hye
 obtain ⟨k2,A2,c2,hy2,-,-,-,-⟩:=hye
 have hrun:(Builtin.append_ #[t,t] o.type #[a.eval x,a.eval y]).run X.P w = .ok (a.eval x) w:=by
  rw [hA,hy2]
  have hsz:(sizeOf e).run X.P w = .ok (X.P.cellsOf e) w:=by simp [sizeOf,typeInfo,hi,hsz]
  have hld : ∀ q,(loadCells q 0).run X.P w = .ok #[] w:=fun q=>by simp [loadCells,loadCellsFrom]
  cases A<;>cases A2<;>simp [Builtin.append_,run_underlying hu,hsz,Builtin.lenOf,Builtin.firstCells,storeCells,hld,Nat.not_lt.2 hc1]
 rw [zBT ho hrun,Oper.upon_value]
 refine hN _ _ _ _ (hI.put o.dst ?_) hK
 rw [rel]
 exact hxe
theorem res_same0 {k:Nat} {ρ:Res} (h:st.rs k=some ρ):st.res k ρ=st:=by
 have e:(st.res k ρ).rs=st.rs:=funext fun m=>by
  show updR st.rs k ρ m=_
  unfold updR
  split
  . rename_i e;rw [e,h]
  . rfl
 calc st.res k ρ=⟨(st.res k ρ).tm,(st.res k ρ).rs⟩:=rfl
  _=st:=by rw [e];rfl
theorem zH5 {t e:TypeId} {by_ k:Nat} {x y:Operand} {l l2:List D} (ho:o.op = .call { callee:=.builtin .append,args:=#[x,y],argTypes:=#[t,t] }) (he:z8 X.P t=some (e,by_))
 (hleaf : ∀ d,(cellsV X.P 12 e d).all V.leaf=true) (hx:ev st x = .own k e l) (hr:st.rs k=some (.tok e l.length)) (hy:(ev st y).out = .sl e l2) (hlen:l.length+l2.length<=maxLen) (hby:(l.length+l2.length)*by_<=140737488355328)
 (hK:K ((st.res k (.tok e (l.length+l2.length))).put o.dst (.own k e (l++l2)))):OpOk X o st K:=by
 rcases Nat.eq_zero_or_pos l2.length with h0 | h0
 . have hl0:l2=[]:=List.eq_nil_of_length_eq_zero h0
   subst hl0
   rw [List.length_nil,Nat.add_zero,res_same0 hr,List.append_nil] at hK
   exact zEI ho he hx hy hK
 . exact zAc ho he hleaf hx hr hy h0 hlen hby hK
end
end
section
open Go.RowKit
attribute [local irreducible] wpList Calls Code.wp
section
variable {X:Cx} {nn:Nat} {st:Vst nn} {ops:Array Oper} {o:Oper}
def Fresh (st:Vst nn) (d:Nat):Prop:=(∀ i,(st.tm i).free d=true) /\ ∀ m ρ,st.rs m=some ρ->m≠d/\ρ.free d=true
theorem zGF {d:Nat} (h:Fresh st d):st.kill d=st:=by
 have e1:(st.kill d).tm=st.tm:=funext fun i=>by
  show zJL d (st.tm i)=_
  unfold zJL;rw [if_pos (h.1 i)]
 have e2:(st.kill d).rs=st.rs:=funext fun m=>by
  unfold Vst.kill
  dsimp only
  cases hm:st.rs m with
  |none=>split<;>rfl
  |some ρ =>
   have:=h.2 m ρ hm
   rw [if_neg this.1]
   simp [this.2]
 calc st.kill d=⟨(st.kill d).tm,(st.kill d).rs⟩:=rfl
  _=st:=by rw [e1,e2]
theorem zJG {t:TypeId} {d:Nat} {vs:List V} {K:Vst nn->Prop} (ho:o.op = .alloc t) (hd:o.dst=some d) (hdl:Nat.ble d 999999=true) (hc:zFc X.P t=some vs) (hf:freeL d vs=true) (hfr:Fresh st d)
 (hK:K ((st.res d (.box t vs)).put (some d) (.bx d 0))):OpOk X o st K:=by
 refine zF4 ho hd hdl hc hf ?_
 rw [zGF hfr];exact hK
theorem zIM {d:Nat} {t:Option Tmp} {v:V} {u:List (Nat × Res)} (h:Fresh st d) (hv:v.free d=true) (hu : ∀ p∈u,p.1≠d/\p.2.free d=true):Fresh (stp st t v u) d:=by
 unfold stp
 have hr : ∀ m ρ,updL st.rs u m=some ρ->m≠d/\ρ.free d=true:=by
  intro m ρ hm
  induction u with
  |nil=>exact h.2 m ρ hm
  |cons x u ih =>
   obtain ⟨k,ρ'⟩:=x
   change (if m=k then some ρ' else updL st.rs u m)=some ρ at hm
   split at hm
   . rename_i e
     cases hm
     have:=hu (k,ρ) (List.mem_cons_self ..)
     exact ⟨by rw [e];exact this.1,this.2⟩
   . exact ih (fun p hp=>hu p (List.mem_cons_of_mem _ hp)) hm
 cases t with
 |none=>exact ⟨h.1,hr⟩
 |some t =>
  refine ⟨fun i => ?_,hr⟩
  show (if i=t then v else st.tm i).free d=true
  split
  . exact hv
  . exact h.1 i
theorem fresh_put {d:Nat} {t:Option Tmp} {v:V} (h:Fresh st d) (hv:v.free d=true):Fresh (st.put t v) d:=zIM (u:=[]) h hv (fun _ hp=>by cases hp)
theorem fresh_res {d m:Nat} {ρ:Res} (h:Fresh st d) (hm:Nat.beq m d=false) (hv:ρ.free d=true):Fresh (st.res m ρ) d:=by
 refine ⟨h.1,fun q ρ' hq => ?_⟩
 change updR st.rs m ρ q=some ρ' at hq
 unfold updR at hq
 split at hq
 . rename_i e
   cases hq
   subst e
   exact ⟨fun e2=>by rw [e2] at hm;simp at hm,hv⟩
 . exact h.2 q ρ' hq
theorem fresh_S {d:Nat} {cs:List (Nat × V)} {R:List (Nat × Res)} (h:(cs.all (fun p=>p.2.free d)&&R.all fun p => !(Nat.beq p.1 d)&&p.2.free d)=true):Fresh (stS nn cs R) d:=by
 rw [Bool.and_eq_true,List.all_eq_true,List.all_eq_true] at h
 refine ⟨fun i => ?_,fun m ρ hm => ?_⟩
 . simp only [stS]
   split
   . rename_i p hp;exact h.1 p (List.mem_of_find?_eq_some hp)
   . rfl
 . simp only [stS] at hm
   split at hm
   . rename_i p hp
     have he:=List.find?_some hp
     simp at he
     cases hm
     have:=h.2 p (List.mem_of_find?_eq_some hp)
     rw [Bool.and_eq_true] at this
     refine ⟨fun e => ?_,this.2⟩
     rw [he,e] at this
     simp at this
   . cases hm
theorem opOk_lit0F {t e:TypeId} {by_ d:Nat} {K:Vst nn->Prop} (ho:o.op = .buildSlice t 0 #[]) (hd:o.dst=some d) (hdl:Nat.ble d 999999=true) (he:z8 X.P t=some (e,by_)) (hfr:Fresh st d)
 (hK:K ((st.res d (.tok e 0)).put (some d) (.own d e []))):OpOk X o st K:=by
 refine opOk_lit0 ho hd hdl he ?_
 rw [zGF hfr];exact hK
def nfB (fr:List Nat) (v:V) (u:List (Nat × Res)):Bool:=fr.all fun d=>v.free d&&u.all fun p => !(Nat.beq p.1 d)&&p.2.free d
inductive YldA (X:Cx) (ops:Array Oper) (fr rd wr:List Nat) (o:Oper) (st:Vst nn):V->List (Nat × Res)->Prop where
 |old {v:V} {u:List (Nat × Res)} (h:YldG X ops rd wr o st v u) (hf:nfB fr v u=true):YldA X ops fr rd wr o st v u
 |alloc {t:TypeId} {d:Nat} {vs:List V} (hg:o.guard=none) (ho:o.op = .alloc t) (hd:o.dst=some d) (hdl:Nat.ble d 999999=true) (hc:zFc X.P t=some vs) (hfd:freeL d vs=true) (hw:wr.contains d=true) (hf:nfB fr (.bx d 0) [(d,.box t vs)]=true):YldA X ops fr rd wr o st (.bx d 0) [(d,.box t vs)]
 |lit0 {t e:TypeId} {by_ d:Nat} (hg:o.guard=none) (ho:o.op = .buildSlice t 0 #[]) (hd:o.dst=some d) (hdl:Nat.ble d 999999=true) (he:z8 X.P t=some (e,by_)) (hw:wr.contains d=true) (hf:nfB fr (.own d e []) [(d,.tok e 0)]=true):YldA X ops fr rd wr o st (.own d e []) [(d,.tok e 0)]
 |app {t e:TypeId} {by_ k:Nat} {x y:Operand} {l l2:List D} (hg:o.guard=none) (hw:wr.contains k=true) (ho:o.op = .call { callee:=.builtin .append,args:=#[x,y],argTypes:=#[t,t] }) (he:z8 X.P t=some (e,by_)) (hleaf : ∀ d,(cellsV X.P 12 e d).all V.leaf=true)
   (hx:ev st x = .own k e l) (hr:st.rs k=some (.tok e l.length)) (hy:(ev st y).out = .sl e l2) (hp:l.length+l2.length<=maxLen/\(l.length+l2.length)*by_<=140737488355328) (hf:nfB fr (.own k e (l++l2)) [(k,.tok e (l.length+l2.length))]=true) :
   YldA X ops fr rd wr o st (.own k e (l++l2)) [(k,.tok e (l.length+l2.length))]
theorem YldA.of {fr rd wr:List Nat} {d:Option Tmp} {v v':V} {u u':List (Nat × Res)} (hd : ∀ t,d=some t->t ∉ o.looksAt ops) (hu:Off rd wr u') :
 YldA X ops fr rd wr o (stp st d v' u') v u ↔ YldA X ops fr rd wr o st v u:=by
 have evs : ∀ x∈o.op.operands,ev (stp st d v' u') x=ev st x:=fun x hx=>zFJ fun t ht hxt=>hd t ht (by
  subst hxt
  exact List.mem_append_left _ (List.mem_filterMap.2 ⟨.tmp t,by simpa using hx,rfl⟩))
 have hrs : ∀ n,wr.contains n=true->(stp st d v' u').rs n=st.rs n:=fun n hn=>by
  rw [zCW];exact zEO hu (.inr hn)
 constructor
 . intro h
   cases h with
   |old h hf=>exact .old ((YldG.of hd hu).1 h) hf
   |alloc hg ho hd' hdl hc hfd hw hf=>exact .alloc hg ho hd' hdl hc hfd hw hf
   |lit0 hg ho hd' hdl he hw hf=>exact .lit0 hg ho hd' hdl he hw hf
   |app hg hw ho he hleaf hx hr hy hp hf =>
    rw [evs _ (by rw [ho];simp [Op.operands,Call.operands])] at hx
    rw [evs _ (by rw [ho];simp [Op.operands,Call.operands])] at hy
    rw [hrs _ hw] at hr
    exact .app hg hw ho he hleaf hx hr hy hp hf
 . intro h
   cases h with
   |old h hf=>exact .old ((YldG.of hd hu).2 h) hf
   |alloc hg ho hd' hdl hc hfd hw hf=>exact .alloc hg ho hd' hdl hc hfd hw hf
   |lit0 hg ho hd' hdl he hw hf=>exact .lit0 hg ho hd' hdl he hw hf
   |app hg hw ho he hleaf hx hr hy hp hf =>
    rw [<- evs _ (by rw [ho];simp [Op.operands,Call.operands])] at hx
    rw [<- evs _ (by rw [ho];simp [Op.operands,Call.operands])] at hy
    rw [<- hrs _ hw] at hr
    exact .app hg hw ho he hleaf hx hr hy hp hf
theorem YldA.names {fr rd wr:List Nat} {v:V} {u:List (Nat × Res)} (h:YldA X ops fr rd wr o st v u) : ∀ p∈u,wr.contains p.1=true:=by
 cases h with
 |old h hf=>exact h.names
 |alloc hg ho hd' hdl hc hfd hw hf=>exact fun p hp=>by simp at hp;subst hp;exact hw
 |lit0 hg ho hd' hdl he hw hf=>exact fun p hp=>by simp at hp;subst hp;exact hw
 |app hg hw ho he hleaf hx hr hy hp hf=>exact fun p hp=>by simp at hp;subst hp;exact hw
theorem YldA.nf {fr rd wr:List Nat} {v:V} {u:List (Nat × Res)} (h:YldA X ops fr rd wr o st v u):nfB fr v u=true:=by
 cases h with
 |old h hf=>exact hf
 |alloc hg ho hd' hdl hc hfd hw hf=>exact hf
 |lit0 hg ho hd' hdl he hw hf=>exact hf
 |app hg hw ho he hleaf hx hr hy hp hf=>exact hf
theorem nfB_ok {fr:List Nat} {v:V} {u:List (Nat × Res)} (h:nfB fr v u=true) {d:Nat} (hd:d∈fr):v.free d=true /\ ∀ p∈u,p.1≠d/\p.2.free d=true:=by
 have:=List.all_eq_true.1 h d hd
 rw [Bool.and_eq_true,List.all_eq_true] at this
 refine ⟨this.1,fun p hp => ?_⟩
 have h2:=this.2 p hp
 rw [Bool.and_eq_true] at h2
 exact ⟨fun e=>by rw [e] at h2;simp at h2,h2.2⟩
variable {fr rd wr:Nat->List Nat}
def aOpH (X:Cx) (ops:Array Oper) (fr rd wr:Nat->List Nat) (i:Nat) (K:Vst nn->Prop) (st:Vst nn):Prop:=
 match ops[i]? with
 |none=>K st
 |some o => ∃ v u,YldA X ops (fr i) (rd i) (wr i) o st v u/\K (stp st o.dst v u)
theorem aOpH_mono {i:Nat} {K K':Vst nn->Prop} (h : ∀ st,K st->K' st) (hh:aOpH X ops fr rd wr i K st):aOpH X ops fr rd wr i K' st:=by
 unfold aOpH at *
 split
 . rename_i hn;simp only [hn] at hh;exact h _ hh
 . rename_i o ho
   simp only [ho] at hh
   obtain ⟨v,u,h1,h2⟩:=hh
   exact ⟨v,u,h1,h _ h2⟩
def absAnyH (X:Cx) (ops:Array Oper) (fr rd wr:Nat->List Nat) (Q:Vst nn->Prop):Nat->Array Bool->Vst nn->Prop
 |0,listed,st=>Region.ready .any ops listed=[]/\Q st
 |fuel+1,listed,st=>(Region.ready .any ops listed=[]->Q st) /\ ∀ i∈Region.ready .any ops listed,aOpH X ops fr rd wr i (absAnyH X ops fr rd wr Q fuel (listed.setIfInBounds i true)) st
theorem aOpH_put {i j:Nat} {oi oj:Oper} {v:V} {u:List (Nat × Res)} (hj:ops[j]? = some oj) (hap:oi.apart ops oj=true) (hn:zBi (wr i) (rd j)=true/\zBi (wr i) (wr j)=true/\zBi (wr j) (rd i)=true) {K:Vst nn->Prop} (hy:YldA X ops (fr i) (rd i) (wr i) oi st v u) (h:aOpH X ops fr rd wr j K (stp st oi.dst v u)) :
 aOpH X ops fr rd wr j (fun st'=>YldA X ops (fr i) (rd i) (wr i) oi st' v u/\K (stp st' oi.dst v u)) st:=by
 obtain ⟨h1,h2,h3⟩:=Oper.apart_spec hap
 unfold aOpH at *
 simp only [hj] at *
 obtain ⟨v',u',hy',hK⟩:=h
 have hu:Off (rd j) (wr j) u:=fun p hp=>by
  have hw:=hy.names p hp
  refine ⟨?_,?_⟩
  . cases hq:(rd j).contains p.1
    . rfl
    . exact (zAU hn.1 hw hq).elim
  . cases hq:(wr j).contains p.1
    . rfl
    . exact (zAU hn.2.1 hw hq).elim
 have hyj:YldA X ops (fr j) (rd j) (wr j) oj st v' u':=(YldA.of h1 hu).1 hy'
 have hu':Off (rd i) (wr i) u':=fun p hp=>by
  have hw:=hyj.names p hp
  refine ⟨?_,?_⟩
  . cases hq:(rd i).contains p.1
    . rfl
    . exact (zAU hn.2.2 hw hq).elim
  . cases hq:(wr i).contains p.1
    . rfl
    . exact (zAU hn.2.1 hq hw).elim
 have huu : ∀ p∈u,∀ q∈u',p.1≠q.1:=fun p hp q hq e=>by
  have h5:=hy.names p hp
  have h6:=hyj.names q hq
  rw [<- e] at h6
  exact zAU hn.2.1 h5 h6
 exact ⟨v',u',hyj,(YldA.of h3 hu').2 hy,by rw [<- zEr h2 huu];exact hK⟩
theorem zHZ {Q:Vst nn->Prop} {i:Nat} {oi:Oper} {v:V} {u:List (Nat × Res)} (hi:ops[i]? = some oi) (hN:zB0 ops rd wr=true) :
 ∀ (fuel:Nat) (listed:Array Bool) (st:Vst nn),Closed ops listed->(∀ j,j<i->listed.getD j false=true) ->
   (∀ j oj,ops[j]? = some oj->j≠i->listed.getD j true=false->(∀ e∈oj.after,Region.binds .any e=true->e.on≠i)->oi.apart ops oj=true) ->
   i∈Region.ready .any ops listed->YldA X ops (fr i) (rd i) (wr i) oi st v u ->
   absAnyH X ops fr rd wr Q fuel (listed.setIfInBounds i true) (stp st oi.dst v u)->absAnyH X ops fr rd wr Q (fuel+1) listed st:=by
 intro fuel
 induction fuel with
 |zero =>
  intro listed st _ _ _ hr hy H
  refine ⟨fun h=>(by rw [h] at hr;cases hr),fun j hj => ?_⟩
  by_cases hji:j=i
  . subst hji;unfold aOpH;simp only [hi];exact ⟨v,u,hy,H⟩
  . have:=ready_mono hj hji
    rw [H.1] at this
    cases this
 |succ fuel ih =>
  intro listed st hcl hlow hfree hr hy H
  refine ⟨fun h=>(by rw [h] at hr;cases hr),fun j hj => ?_⟩
  by_cases hji:j=i
  . subst hji;unfold aOpH;simp only [hi];exact ⟨v,u,hy,H⟩
  . have h1:=H.2 j (ready_mono hj hji)
    obtain ⟨hjun,oj,hoj,hall⟩:=mem_ready.1 hj
    have hiun:=(mem_ready.1 hr).1
    have hnot : ∀ e∈oj.after,Region.binds .any e=true->e.on≠i:=fun e he hb heq=>by
     have h1:=hall e he hb
     rw [heq] at h1
     exact zAP hiun h1
    have hij:i<j:=by
     rcases Nat.lt_trichotomy i j with h | h | h
     . exact h
     . exact absurd h.symm hji
     . exact (zAP hjun (hlow j h)).elim
    have hsz:j<ops.size:=(Array.getElem?_eq_some_iff.1 hoj).1
    have hnm:zBi (wr i) (rd j)=true/\zBi (wr i) (wr j)=true/\zBi (wr j) (rd i)=true:=by
     have h2:=List.all_eq_true.1 (List.all_eq_true.1 hN j (List.mem_range.2 hsz)) i (List.mem_range.2 hij)
     rw [Bool.or_eq_true] at h2
     rcases h2 with h2 | h2
     . simp only [Bool.and_eq_true] at h2;exact ⟨h2.1.1,h2.1.2,h2.2⟩
     . refine (zAP hiun (zDc hcl _ _ (fun k hk => ?_) i (by simpa using h2))).elim
       unfold zFd at hk
       rw [hoj] at hk
       obtain ⟨e,he,rfl⟩:=List.mem_map.1 hk
       obtain ⟨h2,h3⟩:=List.mem_filter.1 he
       exact hall e (by simpa using h2) h3
    have h2:=aOpH_put (i:=i) hoj (hfree j oj hoj hji hjun hnot) hnm hy h1
    have hfree' : ∀ k ok,ops[k]? = some ok->k≠i->(listed.setIfInBounds j true).getD k true=false ->
     (∀ e∈ok.after,Region.binds .any e=true->e.on≠i)->oi.apart ops ok=true:=fun k ok hk hki hun hno=>by
     refine hfree k ok hk hki ?_ hno
     by_cases hjk:j=k
     . subst hjk;exact hjun
     . rw [getD_set_ne true hjk] at hun;exact hun
    refine aOpH_mono (fun st' h3=>ih (listed.setIfInBounds j true) st' (hcl.set hj) (fun k hk=>getD_set_true (hlow k hk)) hfree' (ready_mono hr (Ne.symm hji)) h3.1 ?_) h2
    rw [Array.setIfInBounds_comm _ _ hji]
    exact h3.2
def absLexH (X:Cx) (ops:Array Oper) (fr rd wr:Nat->List Nat) (Q:Vst nn->Prop):Nat->List Oper->Vst nn->Prop
 |_,[],st=>Q st
 |k,o::rest,st => ∃ v u,YldA X ops (fr k) (rd k) (wr k) o st v u/\absLexH X ops fr rd wr Q (k+1) rest (stp st o.dst v u)
theorem zFb {Q:Vst nn->Prop} (hN:zB0 ops rd wr=true) : ∀ (l:List Oper) (k:Nat) (listed:Array Bool) (st:Vst nn),(∀ j,l[j]? = ops[k+j]?)->Closed ops listed->(∀ j,j<k->listed.getD j false=true)->listed.size=ops.size ->
 Region.lexFrom .any ops l.length k listed=true->absLexH X ops fr rd wr Q k l st->absAnyH X ops fr rd wr Q l.length listed st
 |[],_,_,_,_,_,_,_,hB,h=>⟨by simpa [Region.lexFrom] using hB,h⟩
 |o::l,k,listed,st,hl,hcl,hlow,hsz,hB,h=>by
  have h0:ops[k]? = some o:=by simpa using (hl 0).symm
  have hk:k<ops.size:=(Array.getElem?_eq_some_iff.1 h0).1
  simp only [List.length_cons,Region.lexFrom,Bool.and_eq_true] at hB
  obtain ⟨⟨hr,hf⟩,hB'⟩:=hB
  have hr:k∈Region.ready .any ops listed:=by simpa using hr
  obtain ⟨v,u,hy,hK⟩:=h
  exact zHZ h0 hN l.length listed st hcl hlow (Region.free_spec h0 hf) hr hy
   (zFb hN l (k+1) _ _ (fun j=>by have:=hl (j+1);simpa [Nat.add_assoc,Nat.add_comm 1 j] using this) (hcl.set hr) (fun j hj=>by
     by_cases e:j=k
     . subst e;exact zCC (by omega)
     . exact getD_set_true (hlow j (by omega))) (by simpa using hsz) hB' hK)
def frOf (ops:Array Oper) (R:List (Nat × Nat)) (j:Nat):List Nat:=(R.filter fun p => !(Nat.beq p.1 j) && !(reachS ops ops.size (zFd ops j)).contains p.1).map (·.2)
theorem zDU (R:List (Nat × Nat)) (hR : ∀ i o t d,ops[i]? = some o->(o.op = .alloc t\/o.op = .buildSlice t 0 #[])->o.dst=some d->(i,d)∈R) {Q:Vst nn->Prop} {Q':Exit->Act->World->Prop} (hP:PQ X nn Q') (hQ : ∀ st' s' w' a',Inv X st' s' w' a'->Q st'->Q' .normal a' w') : ∀ (fuel:Nat) (listed:Array Bool) (st:Vst nn) (s:Sg) (w:World) (a:Act),Closed ops listed->(∀ p∈R,listed.getD p.1 true=false->Fresh st p.2)->Inv X st s w a ->
 absAnyH X ops (frOf ops R) rd wr Q fuel listed st->wpAny X.P .any ops Q' fuel listed a w
 |0,_,_,_,_,_,_,_,hI,h=>⟨h.1,hQ _ _ _ _ hI h.2⟩
 |fuel+1,listed,st,s,w,a,hcl,hfr,hI,h=>⟨fun h0=>hQ _ _ _ _ hI (h.1 h0),fun i hi=>by
  have h1:=h.2 i hi
  obtain ⟨hiun,oi,hoi,hall⟩:=mem_ready.1 hi
  unfold aOpH at h1
  unfold wpOp
  simp only [hoi] at h1 |-
  obtain ⟨v,u,hy,hK⟩:=h1
  have hnf:=hy.nf
  have hfr' : ∀ p∈R,(listed.setIfInBounds i true).getD p.1 true=false->Fresh (stp st oi.dst v u) p.2:=fun p hp hl=>by
   have hne:p.1≠i:=fun e=>by
    rw [e] at hl
    have hsz:i<listed.size \/ ¬ i<listed.size:=Nat.lt_or_ge i listed.size |>.imp id fun h=>by omega
    rw [Array.getD_eq_getD_getElem?,Array.getElem?_setIfInBounds] at hl
    rcases hsz with hsz | hsz
    . simp [hsz] at hl
    . simp [hsz] at hl
   have hl2:listed.getD p.1 true=false:=by rwa [getD_set_ne true (Ne.symm hne)] at hl
   have hmem:p.2∈frOf ops R i:=by
    refine List.mem_map.2 ⟨p,List.mem_filter.2 ⟨hp,?_⟩,rfl⟩
    rw [Bool.and_eq_true]
    refine ⟨by cases hb:Nat.beq p.1 i;rfl;exact (hne (Nat.eq_of_beq_eq_true hb)).elim,?_⟩
    rw [Bool.not_eq_true']
    cases hq:(reachS ops ops.size (zFd ops i)).contains p.1
    . rfl
    . refine (zAP hl2 (zDc hcl _ _ (fun k hk => ?_) p.1 (by simpa using hq))).elim
      unfold zFd at hk
      rw [hoi] at hk
      obtain ⟨e,he,rfl⟩:=List.mem_map.1 hk
      obtain ⟨h2,h3⟩:=List.mem_filter.1 he
      exact hall e (by simpa using h2) h3
   have:=nfB_ok hnf hmem
   exact zIM (hfr p hp hl2) this.1 this.2
  have go : ∀ {st':Vst nn} {s' w' a'},Inv X st' s' w' a'->(absAnyH X ops (frOf ops R) rd wr Q fuel (listed.setIfInBounds i true) st' /\ ∀ p∈R,(listed.setIfInBounds i true).getD p.1 true=false->Fresh st' p.2)->wpAny X.P .any ops Q' fuel (listed.setIfInBounds i true) a' w':=
   fun hI' hK'=>zDU R hR hP hQ fuel _ _ _ _ _ (hcl.set hi) hK'.2 hI' hK'.1
  cases hy with
  |old hy hf =>
   rcases hy with ⟨hg,hy⟩ | ⟨hg,rfl,rfl⟩
   . rw [if_pos (zHA hg hI)]
     exact .inl (zH3 (K:=fun st'=>absAnyH X ops (frOf ops R) rd wr Q fuel (listed.setIfInBounds i true) st' /\ ∀ p∈R,(listed.setIfInBounds i true).getD p.1 true=false->Fresh st' p.2) hy ⟨hK,hfr'⟩ s w a hI _ _ hP fun st' s' w' a' hI' hK'=>go hI' hK')
   . rw [if_neg (by rw [zHA hg hI];simp)]
     exact go (hI.put oi.dst (by simp [rel])) ⟨hK,hfr'⟩
  |alloc hg ho hd hdl hc hfd hw hf =>
   rename_i t d vs
   rw [if_pos (zHA (by simp [gw,hg]) hI)]
   have hst:stp st oi.dst (.bx d 0) [(d,.box t vs)]=((st.res d (.box t vs)).put (some d) (.bx d 0)):=by rw [zBq,hd]
   refine .inl (zJG (K:=fun st'=>absAnyH X ops (frOf ops R) rd wr Q fuel (listed.setIfInBounds i true) st' /\ ∀ p∈R,(listed.setIfInBounds i true).getD p.1 true=false->Fresh st' p.2) ho hd hdl hc hfd (hfr _ (hR i oi t d hoi (.inl ho) hd) hiun) ?_ s w a hI _ _ hP fun st' s' w' a' hI' hK'=>go hI' hK')
   rw [<- hst]
   exact ⟨hK,hfr'⟩
  |lit0 hg ho hd hdl he hw hf =>
   rename_i t e by_ d
   rw [if_pos (zHA (by simp [gw,hg]) hI)]
   have hst:stp st oi.dst (.own d e []) [(d,.tok e 0)]=((st.res d (.tok e 0)).put (some d) (.own d e [])):=by rw [zBq,hd]
   refine .inl (opOk_lit0F (K:=fun st'=>absAnyH X ops (frOf ops R) rd wr Q fuel (listed.setIfInBounds i true) st' /\ ∀ p∈R,(listed.setIfInBounds i true).getD p.1 true=false->Fresh st' p.2) ho hd hdl he (hfr _ (hR i oi t d hoi (.inr ho) hd) hiun) ?_ s w a hI _ _ hP fun st' s' w' a' hI' hK'=>go hI' hK')
   rw [<- hst]
   exact ⟨hK,hfr'⟩
  |app hg hw ho he hleaf hx hr hy hp hf =>
   rename_i t e by_ k x y l l2
   rw [if_pos (zHA (by simp [gw,hg]) hI)]
   have hst:stp st oi.dst (.own k e (l++l2)) [(k,.tok e (l.length+l2.length))]=((st.res k (.tok e (l.length+l2.length))).put oi.dst (.own k e (l++l2))):=zBq
   refine .inl (zH5 (K:=fun st'=>absAnyH X ops (frOf ops R) rd wr Q fuel (listed.setIfInBounds i true) st' /\ ∀ p∈R,(listed.setIfInBounds i true).getD p.1 true=false->Fresh st' p.2) ho he hleaf hx hr hy hp.1 hp.2 ?_ s w a hI _ _ hP fun st' s' w' a' hI' hK'=>go hI' hK')
   rw [<- hst]
   exact ⟨hK,hfr'⟩⟩
theorem aw_drawH (r w:List (Nat × List Nat)) (R:List (Nat × Nat)) {id:Nat} {l:List Oper} {K:Exit->Vst nn->Prop} (hm:X.P.follows .mixedOrders=true) (hB:Region.lexB .any l.toArray=true) (hN:zB0 l.toArray (nmf r) (nmf w)=true)
 (hR : ∀ i o t d,l.toArray[i]? = some o->(o.op = .alloc t\/o.op = .buildSlice t 0 #[])->o.dst=some d->(i,d)∈R) (hF : ∀ p∈R,Fresh st p.2) (h:absLexH X l.toArray (frOf l.toArray R) (nmf r) (nmf w) (K .normal) 0 l st):AW X (.region id l.toArray true) st K:=fun s wd a hI=>by
 simp only [Region.lexB,Bool.and_eq_true] at hB
 have hlow : ∀ k,(Array.replicate l.toArray.size false).getD k false=false:=fun k=>by
  rw [Array.getD_eq_getD_getElem?,Array.getElem?_replicate]
  split<;>rfl
 refine wp_region_any hm (zDU R hR (rd:=nmf r) (wr:=nmf w) (Q:=K .normal) (fun pv st' s' w' a' hI' hp=>⟨st',s',hI',.inr ⟨pv,rfl,hp⟩⟩) (fun st' s' w' a' hI' hK=>⟨st',s',hI',.inl hK⟩) _ _ st s _ a (fun k o _ hk=>by rw [hlow k] at hk;cases hk) (fun p hp _=>hF p hp) hI.drew ?_)
 have:=zFb (X:=X) (fr:=frOf l.toArray R) (rd:=nmf r) (wr:=nmf w) (Q:=K .normal) hN l 0 (Array.replicate l.toArray.size false) st (by simp) (fun k o _ hk=>by rw [hlow k] at hk;cases hk) (fun j hj=>absurd hj (Nat.not_lt_zero j)) (by simp) (by simpa using hB.2) h
 simpa using this
def allocsB (ops:Array Oper) (R:List (Nat × Nat)):Bool:=(List.range ops.size).all fun i=>match ops[i]? with
 |some o=>(match o.op,o.dst with | .alloc _,some d=>R.contains (i,d) | .buildSlice _ _ _,some d=>R.contains (i,d) | _,_=>true)
 |none=>true
theorem allocsB_ok {R:List (Nat × Nat)} (h:allocsB ops R=true) : ∀ i o t d,ops[i]? = some o->(o.op = .alloc t\/o.op = .buildSlice t 0 #[])->o.dst=some d->(i,d)∈R:=fun i o t d hi ho hd=>by
 have:=List.all_eq_true.1 h i (List.mem_range.2 (Array.getElem?_eq_some_iff.1 hi).1)
 rw [hi] at this
 rcases ho with ho | ho
 . simp only [ho,hd] at this
   simpa using this
 . simp only [ho,hd] at this
   simpa using this
theorem zBp (r w:List (Nat × List Nat)) (R:List (Nat × Nat)) {id:Nat} {l:List Oper} {K:Exit->Vst nn->Prop} (hm:X.P.follows .mixedOrders=true) (hB:Region.lexB .any l.toArray=true) (hN:zB0 l.toArray (nmf r) (nmf w)=true)
 (hA:allocsB l.toArray R=true) (hF : ∀ p∈R,Fresh st p.2) (h:absLexH X l.toArray (frOf l.toArray R) (nmf r) (nmf w) (K .normal) 0 l st):AW X (.region id l.toArray true) st K:=
 aw_drawH r w R hm hB hN (allocsB_ok hA) hF h
section
variable {l:List Oper} {Q:Vst nn->Prop} {d:Option Tmp} {k:Nat}
theorem zIK (h:Q st):absLexH X ops fr rd wr Q k [] st:=h
theorem zIJ {p:Prop} {v:V} (hg:o.guard=none) (hd:o.dst=d) (h:act1 X.P st.rs (ev st) o.op = .val p v) (hf:nfB (fr k) v []=true) (hK:absLexH X ops fr rd wr Q (k+1) l (st.put d v)) (hp:p) (hl:inO (rd k) (loads (ev st) o.op)=true):absLexH X ops fr rd wr Q k (o::l) st:=
 ⟨v,[],.old (.inl ⟨by simp [gw,hg],.val h hp hl⟩) hf,by rw [hd];exact hK⟩
theorem zCg {t:TypeId} {m:Nat} {vs:List V} (hg:o.guard=none) (ho:o.op = .alloc t) (hd:o.dst=some m) (hdl:Nat.ble m 999999=true) (hc:zFc X.P t=some vs) (hfd:freeL m vs=true) (hw:(wr k).contains m=true) (hf:nfB (fr k) (.bx m 0) [(m,.box t vs)]=true)
 (hK:absLexH X ops fr rd wr Q (k+1) l ((st.res m (.box t vs)).put (some m) (.bx m 0))):absLexH X ops fr rd wr Q k (o::l) st:=
 ⟨_,_,.alloc hg ho hd hdl hc hfd hw hf,by rw [zBq,hd];exact hK⟩
theorem zCf {t:TypeId} {x y:Operand} {m off:Nat} {t':TypeId} {vs xs:List V} (hg:o.guard=none) (ho:o.op = .store t x y) (hd:o.dst=none) (hx:ev st x = .bx m off) (hw:(wr k).contains m=true) (hr:st.rs m=some (.box t' vs)) (hc:cellsOf (ev st y)=some xs)
 (hs:X.P.cellsOf t=xs.length/\(X.P.info? t).isSome) (hl:Nat.ble (off+xs.length) vs.length=true) (hf:nfB (fr k) .any [(m,.box t' (splice vs off xs))]=true) (hK:absLexH X ops fr rd wr Q (k+1) l (st.res m (.box t' (splice vs off xs)))):absLexH X ops fr rd wr Q k (o::l) st:=
 ⟨_,_,.old (.inl ⟨by simp [gw,hg],.store hw ho hd hx hr hc hs (Nat.le_of_ble_eq_true hl)⟩) hf,by rw [hd,zBq];exact hK⟩
end
end
end
section
open Go.RowKit
attribute [local irreducible] wpList Calls Code.wp
section
variable {X:Cx} {nn:Nat} {st:Vst nn} {ops:Array Oper} {o:Oper} {l:List Oper} {Q:Vst nn->Prop} {d:Option Tmp} {k:Nat} {fr rd wr:Nat->List Nat}
theorem zFE {f:FuncId} {args:List V} {r:V} (hg:o.guard=none) (hd:o.dst=d) (h:act1 X.P st.rs (ev st) o.op = .call f args) (hc:AC X.e X.P f (outL args) r) (hf:nfB (fr k) r []=true) (hK:absLexH X ops fr rd wr Q (k+1) l (st.put d r)):absLexH X ops fr rd wr Q k (o::l) st:=
 ⟨r,[],.old (.inl ⟨by simp [gw,hg],.call h hc⟩) hf,by rw [hd];exact hK⟩
end
end
section
open Go.RowKit
set_option linter.unusedSectionVars false
attribute [local irreducible] wpList Calls Code.wp AW AWo OpOk seqK zq zu loopK endK AC zf Yld Sub
attribute [local irreducible] ACB ACX ACE absLexG YldG absLexU YldU absLexH
def ctZ (x:RS):RS:={ x with ct:=x.ct+1 }
theorem etaF3 (l:List Tok) (x:RS):[V.sl 70 (l.map tokD),.c (.int .i64 (x.at':Int)),.c (.int .i64 ((x.ct:Int)+1)),.c (.int .i64 x.er),.c (.int .i64 (x.wr:Int))]=zj l (ctZ x):=rfl
section
variable (l:List Tok) (hE:Ed l) (hl:l.length<=100000) (hS : ∀ i,i<l.length->(l.getD i ⟨5,[],0⟩).s.length<=100000)
include hE hl hS
theorem simpF_ac (t:Tok) (ht:t.s.length<=100000):AC EN5 Tryz.prog 207 [.agg (tokC t)] (.tup [VV (simpV t),.c (.bool (simpB t))]):=by
 by_cases h3:t.k=3
 . exact simp3_ac t ht h3
 by_cases h4:t.k=4
 . exact simp4_ac t ht h4
 by_cases h2:t.k=2
 . exact simp2_ac t ht h2
 exact simpN_ac t ht h3 h4 h2
theorem valueE_acb (f lv:Nat) (x:RS) (h0:x.er≠0):ACB EN5 Tryz.prog 181 [.bx (pn 0) 0,.c (.int .i64 (lv:Int))] [boxF l x] (VV (valueZ l (f+1) lv x).1) [boxF l (valueZ l (f+1) lv x).2]:=by
 have e:valueZ l (f+1) lv x=(zA5,x):=by
  conv=>lhs;unfold valueZ
  rw [if_pos h0]
 have f0:(x.er != 0)=true:=by simpa using h0
 rw [e]
 refine zb (fn:=Tryz.f181) 87 Tryz.func181 rfl rfl ?_
 intro pas w0 w he hp
 repeat' (first
|apply zAD (VV zA5) rfl rfl
 . conv=>lhs;whnf;arg 2;whnf
 . repeat' (first | exact VLe.refl _ | exact VLe.nil _ | exact VLe.lit _ _ | exact VLe.own _ _ _ | apply VLe.agg | apply VLeL.cons | exact VLeL.nil)
|apply zG
 . conv=>lhs;whnf
 . assumption
|refine zA ?_
|refine zB ?_
|refine zF ?_
|apply aw_1
 conv=>whnf
 refine ⟨?_,trivial⟩
|apply s_1
 conv=>whnf;arg 1;arg 4;arg 3;whnf
 refine ⟨?_,?_⟩
|apply zI rfl rfl rfl
 . conv=>lhs;whnf
 . conv=>lhs;whnf;arg 1;whnf
 . conv=>lhs;whnf;arg 1;whnf
 . exact ⟨by kernel_rfl,by kernel_rfl⟩
 . rfl
|refine zQ ?_
|refine zx ⟨?_,?_⟩
|refine ⟨_,by conv=>lhs;whnf;arg 2;whnf,?_⟩;conv=>rhs;whnf
|exact trivial)
 all_goals first
  |exact ⟨rfl,trivial⟩
  |rfl
  |skip
def kindY6 (bv a b:Bool):Prop:=(bv=true/\a=false/\b=false)\/(bv=false/\a=true/\b=false)\/(bv=false/\a=false/\b=true)\/(bv=false/\a=false/\b=false)
theorem kind_of6 (x:RS) (h0:x.er=0):kindY6 (simpB (tkZ l x)) (sgZ l [91] x) (sgZ l [123] x):=by
 unfold kindY6 simpB sgZ
 rw [h0]
 generalize (tkZ l x).s=s
 by_cases h1:(tkZ l x).k=1
 . rw [h1]
   by_cases s1:s=[91]
   . subst s1;right;left;exact ⟨rfl,rfl,rfl⟩
   by_cases s2:s=[123]
   . subst s2;right;right;left;exact ⟨rfl,rfl,rfl⟩
   right;right;right
   simp [s1,s2]
 . cases hb:((tkZ l x).k==3||(tkZ l x).k==4||(tkZ l x).k==2) with
   |true=>left;simp [h1]
   |false=>right;right;right;simp [h1]
end
noncomputable def Hv3 (l:List Tok) (x:RS) (lv:Nat):Vst 87:=stS 87 [(0,.bx (pn 0) 0),(1,.c (.int .i64 (lv:Int))),(4,.bx 4 0)] [(pn 0,boxF l x),(4,.box 53 (zK 0))]
noncomputable def Hv5 (l:List Tok) (y:RS) (lv:Nat) (dv:D) (bv a b:Bool):Vst 87:=
 stS 87 [(0,.bx (pn 0) 0),(1,.c (.int .i64 (lv:Int))),(4,.bx 4 0),(5,.bx 5 0),(6,.c (.bool bv)),(7,.c (.bool a)),(8,.c (.bool b))]
  [(pn 0,boxF l y),(4,.box 53 (zK 0)),(5,.box 53 (cellsV Tryz.prog 12 53 dv))]
section
variable (l:List Tok) (hE:Ed l) (hl:l.length<=100000) (hS : ∀ i,i<l.length->(l.getD i ⟨5,[],0⟩).s.length<=100000)
include hE hl hS
theorem valueA_acb (f lv:Nat) (hlv:lv<=25) (x:RS) (hx:x.at'<l.length) (h0:x.er=0) (hk:Ck x) (hfx:x.fx=true)
 (hc:(chkZ l lv x).er=0 -> ∀ y,y.at'<l.length->Ck y->ACB EN5 Tryz.prog 181 [.bx (pn 0) 0,.c (.int .i64 ((lv:Int)+1))] [boxF l y] (VV (zEl l f (lv+1) y).1) [boxF l (zEl l f (lv+1) y).2])
 (hf:(chkZ l lv x).er=0->0<f):ACB EN5 Tryz.prog 181 [.bx (pn 0) 0,.c (.int .i64 (lv:Int))] [boxF l x] (VV (valueZ l (f+1) lv x).1) [boxF l (valueZ l (f+1) lv x).2]:=by
 have hkind:=kind_of6 l hE hl hS x h0
 have f0:(x.er != 0)=false:=by rw [h0];rfl
 have hgd:gD (l.map tokD) ((x.at':Int)).toNat=tokD (tkZ l x):=zA1 l hx
 have hsi:AC EN5 Tryz.prog 207 [.agg (cellsV Tryz.prog 12 70 (gD (l.map tokD) ((x.at':Int)).toNat))] (.tup [VV (simpV (tkZ l x)),.c (.bool (simpB (tkZ l x)))]):=by
  rw [hgd]
  exact simpF_ac l hE hl hS (tkZ l x) (hS _ hx)
 have h1:=zAa l x hx [91]
 have h2:=zAa l x hx [123]
 have hch:=chk_mw (l:=l) lv hx h0
 have hcx:(upZ (chkZ l lv x)).fx=true:=(zGN lv x).trans hfx
 have hup:(chkZ l lv x).er=0->(upZ (chkZ l lv x)).at'<l.length/\Ck (upZ (chkZ l lv x)):=fun h =>
  ⟨(up_pg hE hch.hi (chk_k h0 h)).mv.hi,hch.ct hk⟩
 have hmT : ∀ y:RS,y.at'<l.length->Mw l y (zEl l f (lv+1) y).2:=fun y hy=>by
  have:=(zBl hE f (lv+1) (fxT y) hy).1
  exact ⟨this.lo,this.hi,this.er,this.ct⟩
 have hgT:0<f -> ∀ y:RS,y.at'<l.length->(zEl l f (lv+1) y).2.er=0->y.at'<(zEl l f (lv+1) y).2.at':=fun h y hy=>(zBl hE f (lv+1) (fxT y) hy).2 h
 have hL:=fun (h:((chkZ l lv x).er != 0)=false)=>by
  have q:=listF_acb l hE hl (zEl l f (lv+1)) lv (by omega) hmT (hgT (hf (by simpa using h))) (hc (by simpa using h)) [93] (upZ (chkZ l lv x)) (hup (by simpa using h)).1 (hup (by simpa using h)).2
  rw [elems_T f (lv+1) false [93] _ _ _ _ hcx] at q
  exact q
 have hO:=fun (h:((chkZ l lv x).er != 0)=false)=>by
  have q:=objF_acb l hE hl (zEl l f (lv+1)) lv (by omega) hmT (hgT (hf (by simpa using h))) (hc (by simpa using h)) [125] (upZ (chkZ l lv x)) (hup (by simpa using h)).1 (hup (by simpa using h)).2
  rw [elems_T f (lv+1) true [125] _ _ _ _ hcx] at q
  exact q
 have hat:(chkZ l lv x).at'+1<=100000:=by have:=hch.hi;omega
 have e:valueZ l (f+1) lv x=(if (chkZ l lv x).er≠0 then (zA5,chkZ l lv x)
  else if sgZ l [91] x=true then
   (valD 5 0 [] (elemsZ l (valueZ l f (lv+1)) false [93] (l.length+1-(upZ (chkZ l lv x)).at') [] [] (upZ (chkZ l lv x))).1.2 (elemsZ l (valueZ l f (lv+1)) false [93] (l.length+1-(upZ (chkZ l lv x)).at') [] [] (upZ (chkZ l lv x))).1.1,(elemsZ l (valueZ l f (lv+1)) false [93] (l.length+1-(upZ (chkZ l lv x)).at') [] [] (upZ (chkZ l lv x))).2)
  else if sgZ l [123] x=true then
   (valD 6 0 [] (elemsZ l (valueZ l f (lv+1)) true [125] (l.length+1-(upZ (chkZ l lv x)).at') [] [] (upZ (chkZ l lv x))).1.2 (elemsZ l (valueZ l f (lv+1)) true [125] (l.length+1-(upZ (chkZ l lv x)).at') [] [] (upZ (chkZ l lv x))).1.1,(elemsZ l (valueZ l f (lv+1)) true [125] (l.length+1-(upZ (chkZ l lv x)).at') [] [] (upZ (chkZ l lv x))).2)
  else (simpV (tkZ l x),upZ (chkZ l lv x))):=by
  conv=>lhs;unfold valueZ
  rw [if_neg (fun h=>h h0)]
  have hn : ¬ (sgZ l [36] x && !x.fx)=true:=by rw [hfx];simp
  rw [if_neg hn]
 rw [e]
 clear e hch hup hc hf hgd hmT hgT hcx
 have e1:chk1 l x=if simpB (tkZ l x)=false/\sgZ l [91] x=false/\sgZ l [123] x=false then zAG l 3 x else x:=by
  unfold chk1
  rw [hfx]
  simp
 have hx1:(chk1 l x).at'<l.length:=by rw [chk1_at];exact hx
 have e2:chk2 l lv (chk1 l x)=if 24<lv then zAG l 5 (chk1 l x) else chk1 l x:=rfl
 have hx2:(chk2 l lv (chk1 l x)).at'<l.length:=by rw [chk2_at];exact hx1
 have hct:(chk2 l lv (chk1 l x)).ct=x.ct:=by rw [chk2_ct,chk1_ct]
 have hct2:x.ct<=4096:=hk.2 h0
 have e4:chkZ l lv x=if 4096<(ctZ (chk2 l lv (chk1 l x))).ct then zAG l 4 (ctZ (chk2 l lv (chk1 l x))) else ctZ (chk2 l lv (chk1 l x)):=rfl
 have hf1:=zBR l x 3 hx
 have hf2:=zBR l (chk1 l x) 5 hx1
 have hf3:=zBR l (ctZ (chk2 l lv (chk1 l x))) 4 hx2
 have hct3:(ctZ (chk2 l lv (chk1 l x))).ct=x.ct+1:=by rw [<- hct];rfl
 generalize chkZ l lv x=Y4 at *
 generalize chk2 l lv (chk1 l x)=Y2 at *
 generalize chk1 l x=Y1 at *
 generalize simpV (tkZ l x)=dv at *
 generalize simpB (tkZ l x)=bv at *
 generalize sgZ l [91] x=a at *
 generalize sgZ l [123] x=b at *
 rcases hkind with ⟨rfl,rfl,rfl⟩ | ⟨rfl,rfl,rfl⟩ | ⟨rfl,rfl,rfl⟩ | ⟨rfl,rfl,rfl⟩
 let B1:=true
 let B2:=false
 let B3:=false
 have hY1:Y1=x:=by rw [e1,if_neg (fun h=>by cases h.1)]
 rw [if_neg (show ¬ (false=true) by decide),if_neg (show ¬ (false=true) by decide)]
 rotate_left 1
 let B1:=false
 let B2:=true
 let B3:=false
 have hY1:Y1=x:=by rw [e1,if_neg (fun h=>by cases h.2.1)]
 rw [if_pos (show true=true from rfl)]
 rotate_left 1
 let B1:=false
 let B2:=false
 let B3:=true
 have hY1:Y1=x:=by rw [e1,if_neg (fun h=>by cases h.2.2)]
 rw [if_neg (show ¬ (false=true) by decide),if_pos (show true=true from rfl)]
 rotate_left 1
 let B1:=false
 let B2:=false
 let B3:=false
 have hY1:Y1=zAG l 3 x:=by rw [e1,if_pos ⟨rfl,rfl,rfl⟩]
 rw [if_neg (show ¬ (false=true) by decide),if_neg (show ¬ (false=true) by decide)]
 rotate_left 1
 all_goals
  refine zb (fn:=Tryz.f181) 87 Tryz.func181 rfl rfl ?_
  intro pas w0 w he hp
  repeat' (first
|apply zBp ([(3,[1000000]),(7,[1000000])]) ([(14,[5]),(15,[5])]) ([(14,5)]) rfl (by kernel_rfl) (by kernel_rfl) (by kernel_rfl) (by intro p hp;simp only [List.mem_cons,List.not_mem_nil,or_false] at hp;rcases hp with rfl<;>(repeat' (first | exact fresh_S rfl | refine fresh_put ?_ rfl | refine fresh_res ?_ rfl rfl)))
|apply zIK
|apply zCg rfl rfl rfl rfl
 . conv=>lhs;whnf;arg 1;whnf
 . rfl
 . rfl
 . kernel_rfl
|apply zIJ rfl
 . conv=>lhs;whnf
 . conv=>lhs;whnf;arg 2;whnf
 . kernel_rfl
|apply zCf rfl rfl rfl
 . conv=>lhs;whnf
 . rfl
 . conv=>lhs;whnf;arg 1;whnf
 . conv=>lhs;whnf;arg 1;whnf
 . exact ⟨by kernel_rfl,by kernel_rfl⟩
 . rfl
 . kernel_rfl
|apply zFE rfl
 . conv=>lhs;whnf
 . conv=>lhs;whnf
 . first | exact hsi
 . kernel_rfl
|show inO _ _=true;rfl
|apply zAD (VV zA5) rfl rfl
 . conv=>lhs;whnf;arg 2;whnf
 . repeat' (first | exact VLe.refl _ | exact VLe.nil _ | exact VLe.lit _ _ | exact VLe.own _ _ _ | apply VLe.agg | apply VLeL.cons | exact VLeL.nil)
|apply s_m (zj l) (zN l) rfl
 . conv=>lhs;whnf
 . conv=>lhs;whnf
 . rfl
 . conv=>lhs;whnf;arg 1;whnf
 . first | exact z6 _ _ | exact etaF3 _ _ | exact zBh _ _
 . first | exact h1 | exact h2 | exact hf1 | exact hf2 | exact hf3 | exact hL ‹_› | exact hO ‹_›
 . exact fun _=>rfl
 . exact fun _=>rfl
|apply zW rfl
 . conv=>lhs;whnf
 . conv=>lhs;whnf
 . first | rfl | assumption
|apply zD
 . conv=>lhs;whnf
 . assumption
|apply zo 3 (Hv3 l x lv) rfl
|apply zo 7 (Hv5 l Y1 lv dv B1 B2 B3) rfl
|apply zo 9 (Hv5 l Y2 lv dv B1 B2 B3) rfl
|apply zo 12 (Hv5 l Y4 lv dv B1 B2 B3) rfl
|refine zBA ?_
|refine zA ?_
|refine zB ?_
|refine zF ?_
|apply aw_1
 conv=>whnf
 refine ⟨?_,trivial⟩
|apply s_1
 conv=>whnf;arg 1;arg 4;arg 3;whnf
 refine ⟨?_,?_⟩
|apply zI rfl rfl rfl
 . conv=>lhs;whnf
 . conv=>lhs;whnf;arg 1;whnf
 . conv=>lhs;whnf;arg 1;whnf
 . exact ⟨by kernel_rfl,by kernel_rfl⟩
 . rfl
|refine ze (by conv=>lhs;whnf) ?_ ?_<;>intro hb
|refine zQ ?_
|refine zx ⟨?_,?_⟩
|refine ⟨_,by conv=>lhs;whnf;arg 2;whnf,?_⟩;conv=>rhs;whnf
|exact trivial)
  all_goals first
   |exact zU (by omega)
   |exact zAr l hx
   |exact Sub.live ⟨rfl,rfl,rfl,trivial⟩ ⟨rfl,rfl,trivial⟩
   |(have q:=of_decide_eq_true (by assumption:decide ((lv:Int)>24)=true)
     have q2:Y2=zAG l 5 Y1:=by rw [e2,if_pos (by omega)]
     exact Sub.live ⟨rfl,rfl,rfl,rfl,rfl,rfl,rfl,trivial⟩ ⟨by rw [q2];rfl,rfl,rfl,trivial⟩)
   |(have q:=of_decide_eq_false (by assumption:decide ((lv:Int)>24)=false)
     have q2:Y2=Y1:=by rw [e2,if_neg (by omega)]
     exact Sub.live ⟨rfl,rfl,rfl,rfl,rfl,rfl,rfl,trivial⟩ ⟨by rw [q2];rfl,rfl,rfl,trivial⟩)
   |(have q:=of_decide_eq_true (by assumption:decide ((Y2.ct:Int)+1>4096)=true)
     have q2:Y4=zAG l 4 (ctZ Y2):=by rw [e4,if_pos (by omega)]
     exact Sub.live ⟨rfl,rfl,rfl,rfl,rfl,rfl,rfl,trivial⟩ ⟨by rw [q2];rfl,rfl,rfl,trivial⟩)
   |(have q:=of_decide_eq_false (by assumption:decide ((Y2.ct:Int)+1>4096)=false)
     have q2:Y4=ctZ Y2:=by rw [e4,if_neg (by omega)]
     exact Sub.live ⟨rfl,rfl,rfl,rfl,rfl,rfl,rfl,trivial⟩ ⟨by rw [q2];rfl,rfl,rfl,trivial⟩)
   |exact Sub.live ⟨rfl,rfl,rfl,rfl,rfl,rfl,rfl,trivial⟩ ⟨by rw [hY1];rfl,rfl,rfl,trivial⟩
   |(rw [if_pos (show Y4.er≠0 by simpa using (by assumption:(Y4.er != 0)=true))];first | exact ⟨rfl,trivial⟩ | rfl)
   |(rw [if_neg (show ¬ Y4.er≠0 by simpa using (by assumption:(Y4.er != 0)=false))];first | exact ⟨rfl,trivial⟩ | rfl)
   |skip
end
end
section
open Go.RowKit
set_option linter.unusedSectionVars false
attribute [local irreducible] wpList Calls Code.wp AW AWo OpOk seqK zq zu loopK endK AC zf Yld Sub
attribute [local irreducible] ACB ACX ACE absLexG YldG absLexU YldU absLexH
theorem etaF4 (l:List Tok) (x:RS):[V.sl 70 (l.map tokD),.c (.int .i64 (x.at':Int)),.c (.int .i64 0),.c (.int .i64 x.er),.c (.int .i64 (x.wr:Int))]=zj l { x with ct:=0,fx:=true }:=rfl
section
variable (l:List Tok) (hE:Ed l) (hl:l.length<=100000) (hS : ∀ i,i<l.length->(l.getD i ⟨5,[],0⟩).s.length<=100000)
include hE hl hS
theorem zFp : ∀ (f lv:Nat) (x:RS),x.at'<l.length->Ck x->x.fx=true->f+lv=25->ACB EN5 Tryz.prog 181 [.bx (pn 0) 0,.c (.int .i64 (lv:Int))] [boxF l x] (VV (valueZ l (f+1) lv x).1) [boxF l (valueZ l (f+1) lv x).2]
 |f,lv,x,hx,hk,hfx,hf=>by
  by_cases h0:x.er=0
  . have hlv:(chkZ l lv x).er=0->lv<=24:=fun h=>(chk_ok h0 h).2.1
    have hc:(chkZ l lv x).er=0 -> ∀ y,y.at'<l.length->Ck y->ACB EN5 Tryz.prog 181 [.bx (pn 0) 0,.c (.int .i64 ((lv:Int)+1))] [boxF l y] (VV (zEl l f (lv+1) y).1) [boxF l (zEl l f (lv+1) y).2]:=fun h y hy hky=>by
     have:=hlv h
     cases f with
     |zero=>omega
     |succ g=>exact zFp g (lv+1) (fxT y) hy hky rfl (by omega)
    have hf0:(chkZ l lv x).er=0->0<f:=fun h=>by have:=hlv h;omega
    exact valueA_acb l hE hl hS f lv (by omega) x hx h0 hk hfx hc hf0
  . exact valueE_acb l hE hl hS f lv x h0
theorem zFo (x:RS) (hx:x.at'<l.length):ACB EN5 Tryz.prog 128 [.bx (pn 0) 0] [boxF l x] (VV (wholeZ l true x).1) [boxF l (wholeZ l true x).2]:=by
 have h1:ACB EN5 Tryz.prog 181 [.bx (pn 0) 0,.c (.int .i64 1)] [boxF l { x with ct:=0,fx:=true }] (VV (wholeZ l true x).1) [boxF l (wholeZ l true x).2]:=
  zFp l hE hl hS 24 1 { x with ct:=0,fx:=true } hx ⟨Nat.zero_le _,fun _=>Nat.zero_le _⟩ rfl rfl
 generalize wholeZ l true x=R at h1 |-
 refine zb (fn:=Tryz.f128) 8 Tryz.func128 rfl rfl ?_
 intro pas w0 w he hp
 repeat' (first
|apply s_m (zj l) (zN l) rfl
 . conv=>lhs;whnf
 . conv=>lhs;whnf
 . rfl
 . conv=>lhs;whnf;arg 1;whnf
 . first | exact z6 _ _ | exact etaF4 _ _
 . first | exact h1
 . exact fun _=>rfl
 . exact fun _=>rfl
|refine zA ?_
|refine zB ?_
|refine zF ?_
|apply aw_1
 conv=>whnf
 refine ⟨?_,trivial⟩
|apply s_1
 conv=>whnf;arg 1;arg 4;arg 3;whnf
 refine ⟨?_,?_⟩
|apply zI rfl rfl rfl
 . conv=>lhs;whnf
 . conv=>lhs;whnf;arg 1;whnf
 . conv=>lhs;whnf;arg 1;whnf
 . exact ⟨by kernel_rfl,by kernel_rfl⟩
 . rfl
|refine zx ⟨?_,?_⟩
|refine ⟨_,by conv=>lhs;whnf;arg 2;whnf,?_⟩;conv=>rhs;whnf
|exact trivial)
 all_goals first
  |exact ⟨rfl,trivial⟩
  |rfl
  |skip
end
end
section
open Go.RowKit
attribute [local irreducible] wpList Calls Code.wp AW AWo OpOk seqK zq zu loopK endK endKB AC ACB ACX zf absLexG Yld YldG Sub
def zH2 {ε α S:Type} (bsf:S->List Res) (toV:α->V) (toP:ε->Value):Except ε (α × S)->Out
 |.ok (a,x) => .ret (toV a) (bsf x)
 |.error e => .die (toP e)
section
variable {X:Cx} {nn:Nat} {st:Vst nn} {o:Oper} {ops:Array Oper} {l:List Oper} {d:Option Tmp} {KK:Vst nn->Prop} {Q:Vst nn->Prop} {rd wr:Nat->List Nat} {k:Nat}
theorem zGj {ε α S:Type} {f:FuncId} {vs args:List V} {bs:List Res} {spec:Except ε (α × S)} {toV:α->V} {toP:ε->Value} {bsf:S->List Res} (ns:List Nat) (hg:o.guard=none) (hd:o.dst=d) (h:act1 X.P st.rs (ev st) o.op = .call f vs)
 (hc:ACE X.e X.P f args bs (zH2 bsf toV toP spec)) (hnd:ns.Nodup) (ha:renL (φin ns) vs=args) (hb:ns.map (fun n=>(st.rs n).map (renR (φin ns)))=bs.map some)
 (hE : ∀ e,spec = .error e->X.pk (toP e) st.tm (forgetN st.rs ns)) (hK : ∀ a x',spec = .ok (a,x')->AWo X ops l ((st.resN ns ((bsf x').map (renR (φout ns)))).put d (renV (φout ns) (toV a))) KK):AWo X ops (o::l) st KK:=by
 refine zAB hg (zF3 ns h hc hnd ha hb (fun r bs' e => ?_) fun pv e => ?_)
 . cases hs:spec with
   |error q=>rw [hs] at e;simp [zH2] at e
   |ok q =>
    obtain ⟨a,x'⟩:=q
    rw [hs] at e
    simp only [zH2,Out.ret.injEq] at e
    obtain ⟨rfl,rfl⟩:=e
    rw [hd]
    exact hK a x' hs
 . cases hs:spec with
   |error q=>rw [hs] at e;simp only [zH2,Out.die.injEq] at e;subst e;exact hE q hs
   |ok q=>rw [hs] at e;simp [zH2] at e
theorem zBz {f:FuncId} {vs args:List V} {bs:List Res} {pv:Value} (ns:List Nat) (hg:o.guard=none) (h:act1 X.P st.rs (ev st) o.op = .call f vs) (hc:ACE X.e X.P f args bs (.die pv)) (hnd:ns.Nodup) (ha:renL (φin ns) vs=args) (hb:ns.map (fun n=>(st.rs n).map (renR (φin ns)))=bs.map some)
 (hK:X.pk pv st.tm (forgetN st.rs ns)):AWo X ops (o::l) st KK:=
 zAB hg (zDr ns h hc hnd ha hb hK)
theorem g_prN {ε α S:Type} {f:FuncId} {vs args:List V} {bs:List Res} {spec:Except ε (α × S)} {toV:α->V} {toP:ε->Value} {bsf:S->List Res} (ns:List Nat) (dv:α) (ρs:List Res) (hg:o.guard=none) (hd:o.dst=d) (h:act1 X.P st.rs (ev st) o.op = .call f vs)
 (hc:ACE X.e X.P f args bs (zH2 bsf toV toP spec)) (hnd:ns.Nodup) (ha:renL (φin ns) vs=args) (hb:ns.map (fun n=>(st.rs n).map (renR (φin ns)))=bs.map some) (hlen : ∀ x,(bsf x).length=ns.length) (hlen2:ρs.length=ns.length) (hl:ns.all (fun n=>(wr k).contains n)=true)
 (hE : ∀ e,spec = .error e -> ∀ tm rs,X.pk (toP e) tm rs) (hK : ∀ a x',spec = .ok (a,x')->absLexG X ops rd wr Q (k+1) l ((st.resN ns ((bsf x').map (renR (φout ns)))).put d (renV (φout ns) (toV a))))
 (hD : ∀ e,spec = .error e->absLexG X ops rd wr Q (k+1) l ((st.resN ns ρs).put d (toV dv))):absLexG X ops rd wr Q k (o::l) st:=by
 cases hs:spec with
 |error e =>
  rw [hs] at hc
  exact zJP ns (toV dv) ρs hg hd h hc hnd ha hb hlen2 hl (hE e hs) (hD e hs)
 |ok q =>
  obtain ⟨a,x'⟩:=q
  rw [hs] at hc
  exact g_callB ns hg hd h hc hnd ha hb (hlen x') hl (hK a x' hs)
theorem zG5 {P:Program} {rs:Array ResultVar} {x:ResultVar} {out:Out} {v:V} (hx:rs.toList=[x]) (h:res1 P st x = .val True v) (ho : ∃ bs',out = .ret v.out bs'/\zEJ st 0 bs'):zFK P rs out .normal st:=by
 obtain ⟨bs',h1,h2⟩:=ho
 exact zKT h1 (by rw [hx];exact ⟨v,h,rfl⟩) h2
theorem zCd {P:Program} {rs:Array ResultVar} {out:Out} (hx:rs.toList=[]) (ho : ∃ bs',out = .ret (.tup []) bs'/\zEJ st 0 bs'):zFK P rs out .normal st:=by
 obtain ⟨bs',h1,h2⟩:=ho
 exact zKT h1 (by rw [hx];rfl) h2
end
end
section
open Go.RowKit
set_option linter.unusedSectionVars false
attribute [local irreducible] wpList Calls Code.wp AW AWo OpOk seqK zq zu loopK endK AC zf Yld Sub
attribute [local irreducible] ACB ACX ACE absLexG YldG absLexU YldU
def clS (al:List Tok) (x:PS):List V:=[.sl 89 (al.map tokD),.c (.int .i64 ((al.length-x.ts.length:Nat):Int))]
theorem zS (al:List Tok) (φ:Nat->Option Nat) (x:PS):renL φ (clS al x)=clS al x:=rfl
def boxS (al:List Tok) (x:PS):Res:=.box 64 (clS al x)
def zEs (e:Nat × Int):Value:=.iface 60 (.agg #[.int .i64 (e.1:Int),.int .i64 e.2])
def outS {α:Type} (al:List Tok) (toV:α->V) (r:PR α):Out:=outP 64 (clS al) toV zEs r
theorem zr (al:List Tok) (x:PS):clS al x=clS al x:=rfl
section
variable {al:List Tok} {x:PS} (h:Sx al x)
include h
theorem etaS1 (hk:(hdT x).k≠5):[V.sl 89 (al.map tokD),.c (.int .i64 (((al.length-x.ts.length:Nat):Int)+1))]=clS al (nxT x):=by
 have h1:=(h.nx hk).2
 have h2:=h.len
 unfold clS
 rw [show ((al.length-(nxT x).ts.length:Nat):Int)=((al.length-x.ts.length:Nat):Int)+1 by omega]
theorem atS:0<=((al.length-x.ts.length:Nat):Int)/\((al.length-x.ts.length:Nat):Int)<((al.map tokD).length:Int):=by
 have h1:=h.pos
 have h2:=h.len
 rw [List.length_map]
 omega
theorem gdS:gD (al.map tokD) (((al.length-x.ts.length:Nat):Int)).toNat=tokD (hdT x):=by
 have h1:=h.pos
 have h2:=h.len
 rw [<- h.hd,Int.toNat_natCast]
 unfold gD
 rw [List.getD_eq_getElem?_getD,List.getD_eq_getElem?_getD,List.getElem?_map,List.getElem?_eq_getElem (by omega)];rfl
variable (hal:al.length<=100000)
include hal
theorem zGs:ACB EN5 Tryz.prog 48 [.bx (pn 0) 0] [boxS al x] (.agg (tokC (hdT x))) [boxS al x]:=by
 have hgd:=gdS h
 refine zb (fn:=Tryz.f48) 13 Tryz.func48 rfl rfl ?_
 intro pas w0 w he hp
 repeat' (first
|refine zA ?_
|refine zB ?_
|refine zF ?_
|apply aw_1
 conv=>whnf
 refine ⟨?_,trivial⟩
|apply s_1
 conv=>whnf;arg 1;arg 4;arg 3;whnf
 refine ⟨?_,?_⟩
|apply zA3 (by kernel_rfl) (by kernel_rfl)
|apply zDT
|apply zDS rfl
 . conv=>lhs;whnf
 . conv=>lhs;whnf;arg 2;whnf
|apply y_store rfl rfl rfl
 . conv=>lhs;whnf
 . rfl
 . rfl
 . conv=>lhs;whnf;arg 1;whnf
 . conv=>lhs;whnf;arg 1;whnf
 . exact ⟨by kernel_rfl,by kernel_rfl⟩
 . rfl
|exact zAC
|show zCr _ _=true;rfl
|refine zx ⟨?_,?_⟩
|refine ⟨_,by conv=>lhs;whnf;arg 2;whnf,?_⟩;conv=>rhs;whnf
|exact trivial)
 all_goals first
  |exact atS h
  |exact ⟨rfl,trivial⟩
  |skip
 . rw [hgd];rfl
theorem zDq:ACB EN5 Tryz.prog 49 [.bx (pn 0) 0] [boxS al x] (.c (.bool ((hdT x).k==2))) [boxS al x]:=by
 have hn:=zGs h hal
 refine zb (fn:=Tryz.f49) 7 Tryz.func49 rfl rfl ?_
 intro pas w0 w he hp
 repeat' (first
|apply s_m (clS al) (zS al) rfl
 . conv=>lhs;whnf
 . conv=>lhs;whnf
 . rfl
 . conv=>lhs;whnf;arg 1;whnf
 . first | exact zr _ _
 . first | exact hn
 . exact fun _=>rfl
 . exact fun _=>rfl
|refine zA ?_
|refine zB ?_
|refine zF ?_
|apply aw_1
 conv=>whnf
 refine ⟨?_,trivial⟩
|apply s_1
 conv=>whnf;arg 1;arg 4;arg 3;whnf
 refine ⟨?_,?_⟩
|refine zx ⟨?_,?_⟩
|refine ⟨_,by conv=>lhs;whnf;arg 2;whnf,?_⟩;conv=>rhs;whnf
|exact trivial)
 all_goals first
  |exact ⟨rfl,trivial⟩
  |rfl
theorem zCY (e:Int):ACE EN5 Tryz.prog 51 [.bx (pn 0) 0,.c (.int .i64 e)] [boxS al x] (.die (zEs ((hdT x).i,e))):=by
 have hn:=zGs h hal
 refine zm (fn:=Tryz.f51) 10 Tryz.func51 rfl rfl ?_
 intro pas w0 w he hp
 repeat' (first
|apply s_m (clS al) (zS al) rfl
 . conv=>lhs;whnf
 . conv=>lhs;whnf
 . rfl
 . conv=>lhs;whnf;arg 1;whnf
 . first | exact zr _ _
 . first | exact hn
 . exact fun _=>rfl
 . exact fun _=>rfl
|apply s_die rfl rfl
 . conv=>lhs;whnf
 change _=Out.die _
|refine zA ?_
|apply s_1
 conv=>whnf;arg 1;arg 4;arg 3;whnf
 refine ⟨?_,?_⟩
|exact trivial)
 rfl
theorem p_is (s:List UInt8):ACB EN5 Tryz.prog 174 [.bx (pn 0) 0,.c (.string (bs s))] [boxS al x] (.c (.bool (isS x s))) [boxS al x]:=by
 have hn:=zGs h hal
 have e:isS x s=((hdT x).k==1&&(bs (hdT x).s).toList==(bs s).toList):=by
  unfold isS
  rw [Lib.toList_data,Lib.toList_data,zAH,zAH]
 rw [e]
 refine zb (fn:=Tryz.f174) 17 Tryz.func174 rfl rfl ?_
 intro pas w0 w he hp
 repeat' (first
|apply s_m (clS al) (zS al) rfl
 . conv=>lhs;whnf
 . conv=>lhs;whnf
 . rfl
 . conv=>lhs;whnf;arg 1;whnf
 . first | exact zr _ _
 . first | exact hn
 . exact fun _=>rfl
 . exact fun _=>rfl
|apply zW rfl
 . conv=>lhs;whnf
 . conv=>lhs;whnf
 . first | rfl | assumption
|refine zA ?_
|refine zB ?_
|refine zF ?_
|apply aw_1
 conv=>whnf
 refine ⟨?_,trivial⟩
|apply zX rfl rfl
 . conv=>lhs;whnf
 . conv=>lhs;whnf
 . first | exact bT1 ‹_› | exact bT2 ‹_›
|apply zT rfl rfl
 . conv=>lhs;whnf
 . conv=>lhs;whnf
 . first | exact bF1 ‹_› | exact bF2 ‹_›
|apply s_1
 conv=>whnf;arg 1;arg 4;arg 3;whnf
 refine ⟨?_,?_⟩
|apply zI rfl rfl rfl
 . conv=>lhs;whnf
 . conv=>lhs;whnf;arg 1;whnf
 . conv=>lhs;whnf;arg 1;whnf
 . exact ⟨by kernel_rfl,by kernel_rfl⟩
 . rfl
|apply zC rfl
 . conv=>lhs;whnf
 . conv=>lhs;whnf
 . first | rfl | assumption
 . conv=>lhs;whnf;arg 2;whnf
|apply zH rfl
 . conv=>lhs;whnf
 . conv=>lhs;whnf
 . conv=>lhs;whnf;arg 2;whnf
|refine zx ⟨?_,?_⟩
|refine ⟨_,by conv=>lhs;whnf;arg 2;whnf,?_⟩;conv=>rhs;whnf
|exact trivial
|intro hg)
 all_goals first
  |exact ⟨rfl,trivial⟩
  |skip
 . have h:((hdT x).k==1)=true:=bT1 ‹_›
   rw [h];rfl
 . have h:((hdT x).k==1)=false:=bF1 ‹_›
   rw [h];rfl
theorem zEz {s:List UInt8} (hs:isS x s=true):ACB EN5 Tryz.prog 173 [.bx (pn 0) 0,.c (.string (bs s))] [boxS al x] (.c (.bool true)) [boxS al (nxT x)]:=by
 have hi:=p_is h hal s
 rw [hs] at hi
 have hk:(hdT x).k≠5:=by unfold isS at hs;simp only [Bool.and_eq_true,beq_iff_eq] at hs;rw [hs.1];decide
 have hl:=h.len
 have he1:=etaS1 h hk
 refine zb (fn:=Tryz.f173) 16 Tryz.func173 rfl rfl ?_
 intro pas w0 w he hp
 repeat' (first
|apply s_m (clS al) (zS al) rfl
 . conv=>lhs;whnf
 . conv=>lhs;whnf
 . rfl
 . conv=>lhs;whnf;arg 1;whnf
 . first | exact zr _ _
 . first | exact hi
 . exact fun _=>rfl
 . exact fun _=>rfl
|refine zA ?_
|refine zB ?_
|refine zF ?_
|apply aw_1
 conv=>whnf
 refine ⟨?_,trivial⟩
|apply s_1
 conv=>whnf;arg 1;arg 4;arg 3;whnf
 refine ⟨?_,?_⟩
|apply zI rfl rfl rfl
 . conv=>lhs;whnf
 . conv=>lhs;whnf;arg 1;whnf
 . conv=>lhs;whnf;arg 1;whnf
 . exact ⟨by kernel_rfl,by kernel_rfl⟩
 . rfl
|refine zx ⟨?_,?_⟩
|refine ⟨_,by conv=>lhs;whnf;arg 2;whnf,?_⟩;conv=>rhs;whnf
|exact trivial)
 all_goals first
  |exact zU (by omega)
  |exact ⟨congrArg (fun c=>some (Res.box _ c)) he1,trivial⟩
  |rfl
  |skip
theorem zDf {s:List UInt8} (hs:isS x s=false):ACB EN5 Tryz.prog 173 [.bx (pn 0) 0,.c (.string (bs s))] [boxS al x] (.c (.bool false)) [boxS al x]:=by
 have hi:=p_is h hal s
 rw [hs] at hi
 refine zb (fn:=Tryz.f173) 16 Tryz.func173 rfl rfl ?_
 intro pas w0 w he hp
 repeat' (first
|apply s_m (clS al) (zS al) rfl
 . conv=>lhs;whnf
 . conv=>lhs;whnf
 . rfl
 . conv=>lhs;whnf;arg 1;whnf
 . first | exact zr _ _
 . first | exact hi
 . exact fun _=>rfl
 . exact fun _=>rfl
|refine zA ?_
|refine zB ?_
|refine zF ?_
|apply aw_1
 conv=>whnf
 refine ⟨?_,trivial⟩
|apply s_1
 conv=>whnf;arg 1;arg 4;arg 3;whnf
 refine ⟨?_,?_⟩
|refine zQ ?_
|refine zx ⟨?_,?_⟩
|refine ⟨_,by conv=>lhs;whnf;arg 2;whnf,?_⟩;conv=>rhs;whnf
|exact trivial)
 all_goals first
  |exact ⟨rfl,trivial⟩
  |rfl
  |skip
theorem p_acc (s:List UInt8):ACB EN5 Tryz.prog 173 [.bx (pn 0) 0,.c (.string (bs s))] [boxS al x] (.c (.bool (isS x s))) [boxS al (if isS x s=true then nxT x else x)]:=by
 by_cases hs:isS x s=true
 . rw [if_pos hs,hs];exact zEz h hal hs
 . have hs:isS x s=false:=by simpa using hs
   rw [if_neg (by rw [hs];decide),hs];exact zDf h hal hs
theorem zBC (s:List UInt8):ACE EN5 Tryz.prog 119 [.bx (pn 0) 0,.c (.string (bs s))] [boxS al x] (outS al (fun _ => .tup []) (takeQ s x)):=by
 have hf:=zCY h hal 3
 by_cases hs:isS x s=true
 . have ha:=zEz h hal hs
   rw [takeQ,if_pos hs]
   refine zm (fn:=Tryz.f119) 10 Tryz.func119 rfl rfl ?_
   intro pas w0 w he hp
   repeat' (first
|apply s_m (clS al) (zS al) rfl
 . conv=>lhs;whnf
 . conv=>lhs;whnf
 . rfl
 . conv=>lhs;whnf;arg 1;whnf
 . first | exact zr _ _
 . first | exact ha
 . exact fun _=>rfl
 . exact fun _=>rfl
|refine zA ?_
|refine zB ?_
|refine zF ?_
|apply aw_1
 conv=>whnf
 refine ⟨?_,trivial⟩
|apply s_1
 conv=>whnf;arg 1;arg 4;arg 3;whnf
 refine ⟨?_,?_⟩
|apply zKS rfl
 . conv=>lhs;whnf;arg 1;whnf
|exact trivial)
   rfl
 . have ha:=zDf h hal (by simpa using hs)
   rw [takeQ,if_neg hs]
   refine zm (fn:=Tryz.f119) 10 Tryz.func119 rfl rfl ?_
   intro pas w0 w he hp
   repeat' (first
|apply s_m (clS al) (zS al) rfl
 . conv=>lhs;whnf
 . conv=>lhs;whnf
 . rfl
 . conv=>lhs;whnf;arg 1;whnf
 . first | exact zr _ _
 . first | exact ha
 . exact fun _=>rfl
 . exact fun _=>rfl
|apply zBz [pn 0] rfl
 . conv=>lhs;whnf
 . first | exact hf
 . decide
 . rfl
 . rfl
 change _=Out.die _
|refine zA ?_
|refine zB ?_
|refine zF ?_
|apply aw_1
 conv=>whnf
 refine ⟨?_,trivial⟩
|apply s_1
 conv=>whnf;arg 1;arg 4;arg 3;whnf
 refine ⟨?_,?_⟩
|exact trivial)
   rfl
theorem zDe:ACE EN5 Tryz.prog 116 [.bx (pn 0) 0] [boxS al x] (outS al (fun n => .c (.string (bs n))) (nameQ x)):=by
 have hf:=zCY h hal 3
 have hm:=zDq h hal
 have hn:=zGs h hal
 have hl:=h.len
 by_cases hk:(hdT x).k=2
 . have he1:=etaS1 h (by rw [hk];decide)
   rw [show ((hdT x).k==2)=true by simpa using hk] at hm
   rw [nameQ,if_pos hk]
   refine zm (fn:=Tryz.f116) 20 Tryz.func116 rfl rfl ?_
   intro pas w0 w he hp
   repeat' (first
|apply s_m (clS al) (zS al) rfl
 . conv=>lhs;whnf
 . conv=>lhs;whnf
 . rfl
 . conv=>lhs;whnf;arg 1;whnf
 . first | exact zr _ _
 . first | exact hm | exact hn
 . exact fun _=>rfl
 . exact fun _=>rfl
|refine zA ?_
|refine zB ?_
|refine zF ?_
|apply aw_1
 conv=>whnf
 refine ⟨?_,trivial⟩
|apply s_1
 conv=>whnf;arg 1;arg 4;arg 3;whnf
 refine ⟨?_,?_⟩
|apply zI rfl rfl rfl
 . conv=>lhs;whnf
 . conv=>lhs;whnf;arg 1;whnf
 . conv=>lhs;whnf;arg 1;whnf
 . exact ⟨by kernel_rfl,by kernel_rfl⟩
 . rfl
|apply zAT rfl
 . conv=>lhs;whnf;arg 2;whnf
 . conv=>lhs;whnf;arg 1;whnf
|exact trivial)
   all_goals first
    |exact zU (by omega)
    |(refine congrArg (fun c=>Out.ret _ [Res.box _ c]) ?_;exact he1.symm)
    |skip
 . rw [show ((hdT x).k==2)=false by simpa using hk] at hm
   rw [nameQ,if_neg hk]
   refine zm (fn:=Tryz.f116) 20 Tryz.func116 rfl rfl ?_
   intro pas w0 w he hp
   repeat' (first
|apply s_m (clS al) (zS al) rfl
 . conv=>lhs;whnf
 . conv=>lhs;whnf
 . rfl
 . conv=>lhs;whnf;arg 1;whnf
 . first | exact zr _ _
 . first | exact hm | exact hn
 . exact fun _=>rfl
 . exact fun _=>rfl
|apply zBz [pn 0] rfl
 . conv=>lhs;whnf
 . first | exact hf
 . decide
 . rfl
 . rfl
 change _=Out.die _
|refine zA ?_
|refine zB ?_
|refine zF ?_
|apply aw_1
 conv=>whnf
 refine ⟨?_,trivial⟩
|apply s_1
 conv=>whnf;arg 1;arg 4;arg 3;whnf
 refine ⟨?_,?_⟩
|exact trivial)
   rfl
def zHt (n most:Nat) (x:PS):PR Unit:=if (hdT x).k=2/\most<=n then .error ((hdT x).i,4) else .ok ((),x)
theorem p_room (n most:Nat):ACE EN5 Tryz.prog 172 [.bx (pn 0) 0,.c (.int .i64 n),.c (.int .i64 most)] [boxS al x] (outS al (fun _ => .tup []) (zHt n most x)):=by
 have hf:=zCY h hal 4
 have hm:=zDq h hal
 refine zm (fn:=Tryz.f172) 15 Tryz.func172 rfl rfl ?_
 intro pas w0 w he hp
 repeat' (first
|apply s_m (clS al) (zS al) rfl
 . conv=>lhs;whnf
 . conv=>lhs;whnf
 . rfl
 . conv=>lhs;whnf;arg 1;whnf
 . first | exact zr _ _
 . first | exact hm
 . exact fun _=>rfl
 . exact fun _=>rfl
|apply zW rfl
 . conv=>lhs;whnf
 . conv=>lhs;whnf
 . first | rfl | assumption
|apply zBz [pn 0] rfl
 . conv=>lhs;whnf
 . first | exact hf
 . decide
 . rfl
 . rfl
 change _=Out.die _
|refine zA ?_
|refine zB ?_
|refine zF ?_
|apply aw_1
 conv=>whnf
 refine ⟨?_,trivial⟩
|apply zX rfl rfl
 . conv=>lhs;whnf
 . conv=>lhs;whnf
 . first | exact bT1 ‹_› | exact bT2 ‹_›
|apply zT rfl rfl
 . conv=>lhs;whnf
 . conv=>lhs;whnf
 . first | exact bF1 ‹_› | exact bF2 ‹_›
|apply s_1
 conv=>whnf;arg 1;arg 4;arg 3;whnf
 refine ⟨?_,?_⟩
|apply zC rfl
 . conv=>lhs;whnf
 . conv=>lhs;whnf
 . first | rfl | assumption
 . conv=>lhs;whnf;arg 2;whnf
|apply zH rfl
 . conv=>lhs;whnf
 . conv=>lhs;whnf
 . conv=>lhs;whnf;arg 2;whnf
|refine ze (by conv=>lhs;whnf) ?_ ?_<;>intro hb
|apply zKS rfl
 . conv=>lhs;whnf;arg 1;whnf
|exact trivial
|intro hg)
 . have h1:(hdT x).k=2:=beq_iff_eq.1 (bT1 ‹_›)
   have h2:most<=n:=by have h2:decide ((n:Int)>=(most:Int))=true:=by assumption
                       simpa using h2
   rw [zHt,if_pos ⟨h1,h2⟩];rfl
 . have h2 : ¬ most<=n:=by have h2:decide ((n:Int)>=(most:Int))=false:=by assumption
                           simpa using h2
   rw [zHt,if_neg (fun h=>h2 h.2)];rfl
 . have h1 : ¬ (hdT x).k=2:=beq_eq_false_iff_ne.1 (bF1 ‹_›)
   rw [zHt,if_neg (fun h=>h1 h.1)];rfl
end
end
section
open Go.RowKit
def zCp (w:List Int) (x:PS):List Int:=if isS x [33]=true then 1::w else w
def zD6 (x:PS):PS:=if isS x [33]=true then nxT x else x
def zEF:Nat->List Int->PS->PR (List Int)
 |0,w,x => .ok (w,x)
 |n+1,w,x=>zY (takeQ [93] x) fun _ y=>zEF n (zCp (2::w) y) (zD6 y)
theorem zLB : ∀ (n:Nat) (w:List Int) (x:PS),closeQ n w x=zEF n (zCp w x) (zD6 x)
 |0,w,x=>by unfold closeQ zEF zCp zD6;split<;>rfl
 |n+1,w,x=>by
  unfold closeQ zEF
  show zY (takeQ [93] (zD6 x)) (fun _ y=>closeQ n (2::zCp w x) y)=_
  congr 1
  funext _ y
  exact zLB n _ y
attribute [local irreducible] wpList Calls Code.wp AW AWo OpOk seqK zq zu loopK endK AC zf Yld Sub
attribute [local irreducible] ACB ACX ACE absLexG YldG absLexU YldU
theorem Sx.bang {al:List Tok} {x:PS} (h:Sx al x):Sx al (zD6 x)/\(zD6 x).ts.length<=x.ts.length:=by
 unfold zD6
 split
 . rename_i hs;have:=h.sg hs;exact ⟨this.1,by omega⟩
 . exact ⟨h,Nat.le_refl _⟩
def zRef:List V:=[.c (.string ⟨#[]⟩),.c (.slice none 0 0)]
noncomputable def HwO (al:List Tok) (y:PS) (n:Nat):Vst 50:=
 stS 50 [(0,.bx (pn 0) 0),(2,.bx 2 0),(3,.bx 3 0),(4,.c (.int .i64 (n:Int)))] [(pn 0,boxS al y),(2,.box 48 zRef),(3,.box 48 zRef)]
noncomputable def HwB (al:List Tok) (y:PS) (nm:List UInt8) (n:Nat) (b:List D):Vst 50:=
 stS 50 [(0,.bx (pn 0) 0),(2,.bx 2 0),(3,.bx 3 0),(4,.c (.int .i64 (n:Int))),(5,.own 5 3 b)] [(pn 0,boxS al y),(2,.box 48 zRef),(3,.box 48 [.c (.string (bs nm)),.c (.slice none 0 0)]),(5,.tok 3 b.length)]
noncomputable def HwC (al:List Tok) (y:PS) (nm:List UInt8) (n i:Nat) (b:List D):Vst 50:=
 stS 50 [(0,.bx (pn 0) 0),(2,.bx 2 0),(3,.bx 3 0),(5,.own 5 3 b),(19,.c (.int .i64 (n:Int))),(20,.c (.int .i64 (i:Int)))] [(pn 0,boxS al y),(2,.box 48 zRef),(3,.box 48 [.c (.string (bs nm)),.c (.slice none 0 0)]),(5,.tok 3 b.length)]
noncomputable def HwD (al:List Tok) (y:PS) (nm:List UInt8) (b:List D) (i:Int) (a:List D):Vst 50:=
 stS 50 [(0,.bx (pn 0) 0),(2,.bx 2 0),(3,.bx 3 0),(5,.own 5 3 b),(6,.c (.int .i64 i))] [(pn 0,boxS al y),(2,.box 48 zRef),(3,.box 48 [.c (.string (bs nm)),.own 906 3 a]),(5,.tok 3 b.length),(906,.tok 3 a.length)]
abbrev VI (t:List UInt8 × List Int):V:=.agg [.c (.string (bs t.1)),.sl 3 (t.2.map D.int)]
theorem rev_step {l:List D} {j:Nat} (hj:j+1<=l.length):(l.drop (j+1)).reverse++[gD l j]=(l.drop j).reverse:=by
 have hj:j<l.length:=by omega
 rw [List.drop_eq_getElem_cons hj,List.reverse_cons,zB2 hj]
theorem p_wrapped {al:List Tok} {x:PS} (h:Sx al x) (hal:al.length<=100000):ACE EN5 Tryz.prog 203 [.bx (pn 0) 0] [boxS al x] (outS al VI (zAX x)):=by
 have hxl:=h.len
 refine zm (fn:=Tryz.f203) 50 Tryz.func203 rfl rfl ?_
 intro pas w0 w he hp
 repeat' (first
|refine zA ?_
|refine zB ?_
|refine zF ?_
|apply aw_1
 conv=>whnf
 refine ⟨?_,trivial⟩
|apply s_1
 conv=>whnf;arg 1;arg 4;arg 3;whnf
 refine ⟨?_,?_⟩
|exact trivial)
 refine zn (fun j st => ∃ y n,Sx al y/\y.ts.length<=j/\n+y.ts.length<=x.ts.length/\openQ x.ts.length x=((openQ j y).1+n,(openQ j y).2)/\Sub (cxE EN5 Tryz.prog pas w0 w he hp (outS al VI (zAX x))) st (HwO al y n)) x.ts.length ⟨x,0,h,Nat.le_refl _,by omega,rfl,?_⟩ ?_
 . exact Sub.live ⟨rfl,rfl,rfl,rfl,trivial⟩ ⟨rfl,rfl,rfl,trivial⟩
 rintro j st ⟨y,n,hy,hyj,hyl,hO,hsub⟩
 refine zg hsub ?_
 clear hsub
 have hyp:=hy.pos
 cases j with
 |zero=>omega
 |succ j =>
 by_cases hs:isS y [91]=true
 . have ha:=zEz hy hal hs
   have hsg:=hy.sg hs
   repeat' (first
|apply s_m (clS al) (zS al) rfl
 . conv=>lhs;whnf
 . conv=>lhs;whnf
 . rfl
 . conv=>lhs;whnf;arg 1;whnf
 . first | exact zr _ _
 . first | exact ha
 . exact fun _=>rfl
 . exact fun _=>rfl
|refine zA ?_
|refine zB ?_
|refine zF ?_
|refine zZ ?_
|apply aw_1
 conv=>whnf
 refine ⟨?_,trivial⟩
|apply s_1
 conv=>whnf;arg 1;arg 4;arg 3;whnf
 refine ⟨?_,?_⟩
|exact trivial)
   all_goals first
    |exact zU (by omega)
    |skip
   refine zJ (j':=j) (by omega) ⟨nxT y,n+1,hsg.1,by omega,by omega,?_,Sub.live ⟨rfl,rfl,rfl,rfl,trivial⟩ ⟨rfl,rfl,rfl,trivial⟩⟩
   rw [hO,openQ,if_pos hs]
   show ((openQ j (nxT y)).1+1+n,_)=((openQ j (nxT y)).1+(n+1),_)
   rw [Nat.add_assoc,Nat.add_comm 1 n]
 have hs:isS y [91]=false:=by simpa using hs
 have ha:=zDf hy hal hs
 have hnm:=zDe hy hal
 have hO2:openQ x.ts.length x=(n,y):=by rw [hO,openQ,if_neg (by rw [hs];decide)];simp
 have hI0:zAX x=zY (nameQ y) fun nm z=>zY (closeQ n [] z) fun w u => .ok ((nm,w),u):=by
  unfold zAX
  rw [hO2]
 have hb0 : ∀ {k z},nameQ y = .ok (k,z)->ACB EN5 Tryz.prog 173 [.bx (pn 0) 0,.c (.string (bs [33]))] [boxS al z] (.c (.bool (isS z [33]))) [boxS al (zD6 z)]:=fun hq=>p_acc (hy.name hq).1 hal [33]
 clear hO
 repeat' (first
|apply s_m (clS al) (zS al) rfl
 . conv=>lhs;whnf
 . conv=>lhs;whnf
 . rfl
 . conv=>lhs;whnf;arg 1;whnf
 . first | exact zr _ _
 . first | exact ha | exact hb0 ‹_›
 . exact fun _=>rfl
 . exact fun _=>rfl
|apply s_pr (clS al) (zS al) rfl
 . conv=>lhs;whnf
 . conv=>lhs;whnf
 . rfl
 . conv=>lhs;whnf;arg 1;whnf
 . first | exact zr _ _
 . first | exact hnm
 . exact fun _=>rfl
 . first | (intro _ _;simp only [renL,renV,ren_cells];done) | exact fun _ _=>rfl
 refine fun ee hq => ?_
 change _=Out.die _
 rotate_left 1
 refine fun aa xx hq => ?_
 first | (replace hq:=zAE hq;obtain ⟨hq,rfl⟩:=hq) | (cases hq;have hq:=True.intro) | skip
|apply zo 7 (HwB al xx aa n []) rfl
|apply zo 9 (HwB al (zD6 xx) aa n ((zCp [] xx).reverse.map D.int)) rfl
|refine zBA ?_
|refine zA ?_
|refine zB ?_
|refine zF ?_
|apply aw_1
 conv=>whnf
 refine ⟨?_,trivial⟩
|apply s_1
 conv=>whnf;arg 1;arg 4;arg 3;whnf
 refine ⟨?_,?_⟩
|apply zI rfl rfl rfl
 . conv=>lhs;whnf
 . conv=>lhs;whnf;arg 1;whnf
 . conv=>lhs;whnf;arg 1;whnf
 . exact ⟨by kernel_rfl,by kernel_rfl⟩
 . rfl
|apply zBK rfl rfl
 . conv=>lhs;whnf
 . first | exact zC5 | (conv=>lhs;whnf;arg 1;whnf)
 . first | exact fun _=>rfl | (intro _;kernel_rfl)
 . conv=>lhs;whnf
 . conv=>lhs;whnf;arg 1;whnf
 . conv=>lhs;whnf
|apply s_lit1 rfl rfl
 . conv=>lhs;whnf
 . first | exact zC5 | (conv=>lhs;whnf;arg 1;whnf)
 . conv=>lhs;whnf;arg 1;whnf
 . rfl
 . rfl
|refine ze (by conv=>lhs;whnf) ?_ ?_<;>intro hb
|refine zO ?_
|refine zL rfl ?_
|refine zM ?_
|exact trivial)
 . exact (Sub.own (t:=5) (e:=3) rfl rfl).trans (Sub.live ⟨rfl,rfl,rfl,rfl,rfl,trivial⟩ ⟨rfl,rfl,rfl,rfl,trivial⟩)
 . rw [zCp,if_pos hb]
   exact Sub.live ⟨rfl,rfl,rfl,rfl,rfl,trivial⟩ ⟨rfl,rfl,rfl,rfl,trivial⟩
 . refine ⟨by simp,?_,?_⟩<;>simp only [List.length_cons,List.length_nil,maxLen]<;>omega
 . rw [zCp,if_neg (by rw [hb];decide)]
   exact Sub.live ⟨rfl,rfl,rfl,rfl,rfl,trivial⟩ ⟨rfl,rfl,rfl,rfl,trivial⟩
 rotate_left 1
 . rw [hI0,hq];rfl
 have hI:zAX x=zY (zEF n (zCp [] xx) (zD6 xx)) fun w u => .ok ((aa,w),u):=by rw [hI0,hq,<- zLB];rfl
 have hxx:=(hy.name hq).1
 have hxl2:=(hy.name hq).2
 have hb1:=hxx.bang
 have hwl:(zCp [] xx).length<=1:=by unfold zCp;split<;>simp
 clear ha hnm hO2 hI0 hb0
 rename List UInt8=>nm
 rename PS=>z0
 refine zn (fun j st => ∃ z w' i,i+j=n/\Sx al z/\w'.length+2*j<=2*n+1/\zAX x=zY (zEF j w' z) (fun w u => .ok ((nm,w),u))/\Sub (cxE EN5 Tryz.prog pas w0 w he hp (outS al VI (zAX x))) st (HwC al z nm n i (w'.reverse.map D.int))) n ⟨zD6 z0,zCp [] z0,0,by omega,hb1.1,by omega,hI,?_⟩ ?_
 . exact Sub.live ⟨rfl,rfl,rfl,rfl,rfl,rfl,trivial⟩ ⟨rfl,rfl,rfl,rfl,trivial⟩
 rintro j st ⟨z,w',i,hij,hz,hwl',hI2,hsub⟩
 refine zg hsub ?_
 clear hsub hI
 cases j with
 |zero =>
  have hin:i=n:=by omega
  subst hin
  have K:decide ((i:Int)<(i:Int))=true->False:=fun h=>by simp at h
  obtain ⟨b,hbd⟩ : ∃ b:List D,b=w'.reverse.map D.int:=⟨_,rfl⟩
  have hbl:b.length<=2*i+1:=by rw [hbd,List.length_map,List.length_reverse];omega
  have hI3:zAX x = .ok ((nm,w'),z):=by rw [hI2];rfl
  rw [<- hbd]
  repeat' (first
|exact (K ‹_›).elim
|refine zA ?_
|refine zB ?_
|refine zF ?_
|apply aw_1
 conv=>whnf
 refine ⟨?_,trivial⟩
|apply s_1
 conv=>whnf;arg 1;arg 4;arg 3;whnf
 refine ⟨?_,?_⟩
|refine ze (by conv=>lhs;whnf) ?_ ?_<;>intro hb
|refine zO ?_
|refine zL rfl ?_
|refine zM ?_
|exact trivial)
  all_goals first
   |exact zU (by omega)
   |skip
  refine zg (Sub.ownF (m:=3) (q:=906) (i:=1) (e:=3) rfl (by decide) rfl rfl rfl) ?_
  refine zn (fun j st=>j<=b.length/\Sub (cxE EN5 Tryz.prog pas w0 w he hp (outS al VI (zAX x))) st (HwD al z nm b ((j:Int)-1) (b.drop j).reverse)) b.length ⟨Nat.le_refl _,?_⟩ ?_
  . rw [List.drop_length]
    exact Sub.live ⟨rfl,rfl,rfl,rfl,rfl,trivial⟩ ⟨rfl,rfl,rfl,rfl,rfl,trivial⟩
  rintro j st ⟨hjl,hsub⟩
  refine zg hsub ?_
  clear hsub
  cases j with
  |zero =>
   have K:decide ((((0:Nat):Int)-1)>=0)=true->False:=fun h=>by simp at h
   repeat' (first
|refine zA ?_
|refine zB ?_
|refine zF ?_
|apply aw_1
 conv=>whnf
 refine ⟨?_,trivial⟩
|apply s_1
 conv=>whnf;arg 1;arg 4;arg 3;whnf
 refine ⟨?_,?_⟩
|apply zI rfl rfl rfl
 . conv=>lhs;whnf
 . conv=>lhs;whnf;arg 1;whnf
 . conv=>lhs;whnf;arg 1;whnf
 . exact ⟨by kernel_rfl,by kernel_rfl⟩
 . rfl
|refine zO ?_
|refine zL rfl ?_
|refine zM ?_
|apply zAT rfl
 . conv=>lhs;whnf;arg 2;whnf
 . conv=>lhs;whnf;arg 1;whnf
|exact trivial)
   rw [hI3]
   show Out.ret (V.agg [.c (.string (bs nm)),.sl 3 (w'.map D.int)]) _=Out.ret (V.agg [.c (.string (bs nm)),.sl 3 (b.drop 0).reverse]) _
   rw [List.drop_zero,hbd,<- List.map_reverse,List.reverse_reverse]
  |succ j =>
   have K:decide ((((j+1:Nat):Int)-1)>=0)=false->False:=fun h=>by simp at h
   repeat' (first
|apply zIn 10 ([(1,[3]),(4,[5]),(5,[5])]) ([(7,[906]),(9,[3])]) rfl (by kernel_rfl) (by kernel_rfl) (by kernel_rfl)
|apply zHD
|apply zHC rfl
 . conv=>lhs;whnf
 . conv=>lhs;whnf;arg 2;whnf
|apply zIL rfl rfl
 . conv=>lhs;whnf
 . first | exact zC5 | (conv=>lhs;whnf;arg 1;whnf)
 . first | exact fun _=>rfl | (intro _;kernel_rfl)
 . conv=>lhs;whnf
 . rfl
 . conv=>lhs;whnf;arg 1;whnf
 . conv=>lhs;whnf
|apply zCJ rfl rfl rfl
 . conv=>lhs;whnf
 . rfl
 . conv=>lhs;whnf;arg 1;whnf
 . conv=>lhs;whnf;arg 1;whnf
 . exact ⟨by kernel_rfl,by kernel_rfl⟩
 . rfl
|show inO _ _=true;rfl
|apply zDi [gD b (((j+1:Nat):Int)-1).toNat] rfl rfl
 . conv=>lhs;whnf
 . first | exact zC5 | (conv=>lhs;whnf;arg 1;whnf)
 . rfl
 . rfl
 . repeat' (first | exact trivial | apply And.intro | rfl)
|exact (K ‹_›).elim
|refine zA ?_
|refine zB ?_
|refine zF ?_
|refine zZ ?_
|apply aw_1
 conv=>whnf
 refine ⟨?_,trivial⟩
|apply s_1
 conv=>whnf;arg 1;arg 4;arg 3;whnf
 refine ⟨?_,?_⟩
|refine ze (by conv=>lhs;whnf) ?_ ?_<;>intro hb
|exact trivial)
   all_goals first
    |exact zU (by omega)
    |exact (⟨by omega,by omega⟩:0<=((j+1:Nat):Int)-1/\((j+1:Nat):Int)-1<(b.length:Int))
    |(refine ⟨by simp,?_,?_⟩<;>simp only [List.length_reverse,List.length_drop,List.length_cons,List.length_nil,maxLen]<;>omega)
    |skip
   . refine zJ (j':=j) (by omega) ⟨by omega,?_⟩
     have e1:(((j+1:Nat):Int)-1).toNat=j:=by omega
     have e2:=rev_step (l:=b) (j:=j) hjl
     refine Sub.live ⟨rfl,rfl,rfl,rfl,?_,trivial⟩ ⟨rfl,rfl,?_,rfl,?_,trivial⟩
     . show V.c (.int .i64 (((j+1:Nat):Int)-1-1))=V.c (.int .i64 ((j:Int)-1))
       rw [show ((j+1:Nat):Int)-1-1=(j:Int)-1 by omega]
     . show some (Res.box _ [_,V.own 906 _ ((b.drop (j+1)).reverse++[gD b (((j+1:Nat):Int)-1).toNat])])=some (Res.box _ [_,V.own 906 _ (b.drop j).reverse])
       rw [e1,e2]
     . show some (Res.tok _ ((b.drop (j+1)).reverse.length+1))=some (Res.tok _ (b.drop j).reverse.length)
       rw [<- e2,List.length_append];rfl
 |succ j =>
  have K:decide ((i:Int)<(n:Int))=false->False:=fun h=>by simp at h;omega
  have hex:=zBC hz hal [93]
  rcases hT:takeQ [93] z with ee | ⟨⟨⟩,x1⟩
  . have K2 : ∀ {u y},takeQ [93] z = .ok (u,y)->False:=fun h=>by rw [hT] at h;cases h
    repeat' (first
|apply s_pr (clS al) (zS al) rfl
 . conv=>lhs;whnf
 . conv=>lhs;whnf
 . rfl
 . conv=>lhs;whnf;arg 1;whnf
 . first | exact zr _ _
 . first | exact hex
 . exact fun _=>rfl
 . first | (intro _ _;simp only [renL,renV,ren_cells];done) | exact fun _ _=>rfl
 refine fun ee hq => ?_
 change _=Out.die _
 rotate_left 1
 refine fun aa xx hq => ?_
 first | (replace hq:=zAE hq;obtain ⟨hq,rfl⟩:=hq) | (cases hq;have hq:=True.intro) | skip
|exact (K ‹_›).elim
|exact (K2 ‹_›).elim
|refine zA ?_
|refine zB ?_
|refine zF ?_
|apply aw_1
 conv=>whnf
 refine ⟨?_,trivial⟩
|apply s_1
 conv=>whnf;arg 1;arg 4;arg 3;whnf
 refine ⟨?_,?_⟩
|refine ze (by conv=>lhs;whnf) ?_ ?_<;>intro hb
|exact trivial)
    rw [hI2,zEF,hq];rfl
  rw [hT] at hex
  have hx1:=hz.take hT
  have hb0:=p_acc hx1.1 hal [33]
  repeat' (first
|apply s_m (clS al) (zS al) rfl
 . conv=>lhs;whnf
 . conv=>lhs;whnf
 . rfl
 . conv=>lhs;whnf;arg 1;whnf
 . first | exact zr _ _
 . first | exact hb0
 . exact fun _=>rfl
 . exact fun _=>rfl
|apply s_pr (clS al) (zS al) rfl
 . conv=>lhs;whnf
 . conv=>lhs;whnf
 . rfl
 . conv=>lhs;whnf;arg 1;whnf
 . first | exact zr _ _
 . first | exact hex
 . exact fun _=>rfl
 . first | (intro _ _;simp only [renL,renV,ren_cells];done) | exact fun _ _=>rfl
 refine fun ee hq => ?_
 change _=Out.die _
 rotate_left 1
 refine fun aa xx hq => ?_
 first | (replace hq:=zAE hq;obtain ⟨hq,rfl⟩:=hq) | (cases hq;have hq:=True.intro) | skip
|exact (K ‹_›).elim
|apply zo 13 (HwC al x1 nm n i ((2::w').reverse.map D.int)) rfl
|apply zo 15 (HwC al (zD6 x1) nm n i ((zCp (2::w') x1).reverse.map D.int)) rfl
|refine zBA ?_
|refine zA ?_
|refine zB ?_
|refine zF ?_
|refine zZ ?_
|apply aw_1
 conv=>whnf
 refine ⟨?_,trivial⟩
|apply s_1
 conv=>whnf;arg 1;arg 4;arg 3;whnf
 refine ⟨?_,?_⟩
|apply zBK rfl rfl
 . conv=>lhs;whnf
 . first | exact zC5 | (conv=>lhs;whnf;arg 1;whnf)
 . first | exact fun _=>rfl | (intro _;kernel_rfl)
 . conv=>lhs;whnf
 . conv=>lhs;whnf;arg 1;whnf
 . conv=>lhs;whnf
|apply s_lit1 rfl rfl
 . conv=>lhs;whnf
 . first | exact zC5 | (conv=>lhs;whnf;arg 1;whnf)
 . conv=>lhs;whnf;arg 1;whnf
 . rfl
 . rfl
|refine ze (by conv=>lhs;whnf) ?_ ?_<;>intro hb
|exact trivial)
  all_goals first
   |exact zU (by omega)
   |(refine ⟨by simp,?_,?_⟩<;>simp only [List.length_reverse,List.length_map,List.length_cons,List.length_nil,maxLen]<;>omega)
   |(cases hq;done)
   |skip
  . refine Sub.live ⟨rfl,rfl,rfl,?_,rfl,rfl,trivial⟩ ⟨rfl,rfl,rfl,?_,trivial⟩
    . show V.own 5 _ (w'.reverse.map D.int++[D.int 2])=V.own 5 _ ((2::w').reverse.map D.int)
      rw [List.reverse_cons,List.map_append];rfl
    . show some (Res.tok _ ((w'.reverse.map D.int).length+1))=some (Res.tok _ ((2::w').reverse.map D.int).length)
      rw [List.reverse_cons,List.map_append,List.length_append];rfl
  . rw [show zCp (2::w') x1=1::2::w' from if_pos hb]
    have er:(1::2::w':List Int).reverse=(2::w').reverse++[1]:=List.reverse_cons
    refine Sub.live ⟨rfl,rfl,rfl,?_,rfl,rfl,trivial⟩ ⟨rfl,rfl,rfl,?_,trivial⟩
    . show V.own 5 _ ((2::w').reverse.map D.int++[D.int 1])=V.own 5 _ ((1::2::w').reverse.map D.int)
      rw [er,List.map_append];rfl
    . show some (Res.tok _ (((2::w').reverse.map D.int).length+1))=some (Res.tok _ ((1::2::w').reverse.map D.int).length)
      rw [er,List.map_append,List.length_append];rfl
  . rw [show zCp (2::w') x1=2::w' from if_neg (by rw [hb];decide)]
    exact Sub.live ⟨rfl,rfl,rfl,rfl,rfl,rfl,trivial⟩ ⟨rfl,rfl,rfl,rfl,trivial⟩
  . refine zJ (j':=j) (by omega) ⟨zD6 x1,zCp (2::w') x1,i+1,by omega,hx1.1.bang.1,?_,by rw [hI2,zEF,hT];rfl,Sub.live ⟨rfl,rfl,rfl,rfl,rfl,rfl,trivial⟩ ⟨rfl,rfl,rfl,rfl,trivial⟩⟩
    have:(zCp (2::w') x1).length<=w'.length+2:=by unfold zCp;split<;>simp
    omega
theorem p_ref {al:List Tok} {x:PS} (h:Sx al x) (hal:al.length<=100000):ACE EN5 Tryz.prog 179 [.bx (pn 0) 0] [boxS al x] (outS al (fun d => .agg (cellsV Tryz.prog 12 48 d)) (typQ x)):=by
 have hi:=p_wrapped h hal
 have hn:=zGs h hal
 refine zm (fn:=Tryz.f179) 18 Tryz.func179 rfl rfl ?_
 intro pas w0 w he hp
 repeat' (first
|apply s_m (clS al) (zS al) rfl
 . conv=>lhs;whnf
 . conv=>lhs;whnf
 . rfl
 . conv=>lhs;whnf;arg 1;whnf
 . first | exact zr _ _
 . first | exact hn
 . exact fun _=>rfl
 . exact fun _=>rfl
|apply s_pr (clS al) (zS al) rfl
 . conv=>lhs;whnf
 . conv=>lhs;whnf
 . rfl
 . conv=>lhs;whnf;arg 1;whnf
 . first | exact zr _ _
 . first | exact hi
 . exact fun _=>rfl
 . first | (intro _ _;simp only [renL,renV,ren_cells];done) | exact fun _ _=>rfl
 refine fun ee hq => ?_
 change _=Out.die _
 rotate_left 1
 refine fun aa xx hq => ?_
 first | (replace hq:=zAE hq;obtain ⟨hq,rfl⟩:=hq) | (cases hq;have hq:=True.intro) | skip
|apply s_die rfl rfl
 . conv=>lhs;whnf
 change _=Out.die _
|refine zA ?_
|refine zB ?_
|refine zF ?_
|apply aw_1
 conv=>whnf
 refine ⟨?_,trivial⟩
|apply s_1
 conv=>whnf;arg 1;arg 4;arg 3;whnf
 refine ⟨?_,?_⟩
|apply zI rfl rfl rfl
 . conv=>lhs;whnf
 . conv=>lhs;whnf;arg 1;whnf
 . conv=>lhs;whnf;arg 1;whnf
 . exact ⟨by kernel_rfl,by kernel_rfl⟩
 . rfl
|refine ze (by conv=>lhs;whnf) ?_ ?_<;>intro hb
|apply zAT rfl
 . conv=>lhs;whnf;arg 2;whnf
 . conv=>lhs;whnf;arg 1;whnf
|exact trivial)
 . have hb:24<aa.2.length:=by simp at hb;omega
   unfold typQ zY
   rw [hq]
   dsimp only
   rw [if_pos hb];rfl
 . have hb : ¬ 24<aa.2.length:=by simp at hb;omega
   unfold typQ zY
   rw [hq]
   dsimp only
   rw [if_neg hb];rfl
 . unfold typQ zY
   rw [hq];rfl
end
end Go.Proofs.YthppafnlnnpciaaGreatDoor
