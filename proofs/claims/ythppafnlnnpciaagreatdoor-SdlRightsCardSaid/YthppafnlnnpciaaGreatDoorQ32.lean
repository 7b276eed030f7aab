import Derived.Maps.OwnOps
import Derived.Maps.Views
import Derived.Test.YthppafnlnnpciaaGreatDoorQ31
set_option maxHeartbeats 8000000
set_option maxRecDepth 100000
set_option linter.unusedVariables false
set_option linter.unusedSimpArgs false
namespace Go.Proofs.YthppafnlnnpciaaGreatDoor
section
open Go.RowKit Go.WideMaps Go.Maps
attribute [local irreducible] wpList Calls Code.wp
def Rs (w:World) (e:TypeId) (A:Option Addr) (l:List D):Prop:=∃ k,Sl Tryz.prog w (fun b=>b<w.heap.size) k e A l
theorem klawS:Keyed Tryz.prog 9:=string_keyed Tryz.underlying9
theorem zeroB (w:World):(zeroValue 4).run Tryz.prog w = .ok (.bool false) w:=by kernel_rfl
theorem zDf {H:Type} {P:Program} {e:TypeId} (he:P.underlying e=some .bool) {v:Value} {z:DataW H × List MemPlace} (h:plainElem P e v=some z) : ∃ b,v = .bool b/\z=(.lit (.bool b),[]):=by
 unfold plainElem at h
 rw [he] at h
 cases v<;>simp at h
 exact ⟨_,rfl,h.symm⟩
def SetIs (M:DataW Unit) (l:List (List UInt8)):Prop:=IsMap M /\ ∀ u:List UInt8,M.atKey (.string u) (.lit (.bool false)) = .lit (.bool (decide (u∈l)))
theorem setIs_nil:SetIs (.map []) []:=⟨isMap_empty,fun u=>by
 rw [decide_eq_false (by simp)];rfl⟩
theorem setIs_put {M:DataW Unit} {l:List (List UInt8)} (h:SetIs M l) (u:List UInt8):SetIs (M.put (.string u) (.lit (.bool true))) (l++[u]):=
 ⟨h.1.put _ _,fun v=>by
   by_cases e:v=u
   . subst e
     rw [atKey_put_same h.1 (show WideAt.IsKeyLit (.string v) from trivial),decide_eq_true (by simp)]
   . rw [atKey_put_other (fun hh=>e (by injection hh)),h.2 v]
     congr 2
     simp [e]⟩
theorem zAy {P:Program} (w:World) {ops:Array Oper} {rest:List Oper} {o:Oper} {a:Act} {Q:Exit->Act->World->Prop}
 (hg:o.guard=none) (m x:Operand) (t:TypeId) (hop:o.op=Op.lookup t m x false)
 (k e:TypeId) (K:Keyed P k) (ht:P.underlying t=some (.map k e)) (he:P.underlying e=some .bool) (hz:(zeroValue e).run P w = .ok (.bool false) w) (b n:Nat) (M:DataW Unit) (l:List (List UInt8)) (hD:SetIs M l)
 (hm:a.eval m = .map (some b)) (hown:w.ownsMap P k (plainElem P e) b n M) (u:ByteArray) (hx:a.eval x = .string u) (hkey:keyOf P k (.string u)=some (.string u.data.toList))
 (hK:wpList P ops Q rest (a.put o.dst (.bool (decide (u.data.toList∈l)))) w) :
 wpList P ops Q (o::rest) a w:=by
 refine wpList_plain hg fun K' hK' => ?_
 obtain ⟨v,ps,hrun,hv⟩:=hown.lookup K ht hz (plainElem_bool he false) hkey
 obtain ⟨c,rfl,hc⟩:=zDf he hv
 simp only [Prod.mk.injEq] at hc
 have hat:=hD.2 u.data.toList
 rw [hc.1] at hat
 have hcc:c=decide (u.data.toList∈l):=by injection hat with h1;injection h1
 subst hcc
 unfold Oper.wp
 simp [execOp,hop,hm,hx,hrun,Result.andThen]
 exact hK' _ _ (by simpa using hK)
def su (d:D):List UInt8:=d.s.data.toList
def twiceB:List (List UInt8)->List D->Bool
 |_,[]=>false
 |seen,x::r=>decide (su x∈seen)||twiceB (seen++[su x]) r
theorem str_at {w:World} {A:Option Addr} {l:List D} (h:Rs w 9 A l) (hp:0<l.length) : ∃ b off,A=some ⟨b,off,none⟩/\b<w.heap.size /\ ∀ i,i<l.length->w.cell? ⟨b,off+i,none⟩=some (.string (gD l i).s)/\(gD l i).s.size<=maxLen:=by
 obtain ⟨k,h⟩:=h
 obtain ⟨b,off,hA,hb,hi⟩:=h hp (by rw [show Tryz.prog.cellsOf 9=1 by kernel_rfl];omega)
 refine ⟨b,off,hA,hb,fun i hil => ?_⟩
 obtain ⟨ys,y1,y2,y3⟩:=hi i hil
 rw [show Tryz.prog.cellsOf 9=1 by kernel_rfl] at y2
 obtain ⟨rfl,hs⟩:=y3.str Tryz.underlying9
 have:=y2 0 _ rfl
 rw [Nat.mul_one,Nat.add_zero] at this
 exact ⟨this,hs⟩
theorem seen_at (l:List D) (m:Nat) (h:m<l.length):(l.map su).take (m+1)=(l.map su).take m++[su (gD l m)]:=by
 rw [List.take_succ_eq_append_getElem (by simpa using h),List.getElem_map,zBx h]
theorem twice_go {l:List D} {m:Nat} (h:m<l.length):twiceB ((l.map su).take m) (l.drop m)=(decide (su (gD l m)∈(l.map su).take m)||twiceB ((l.map su).take (m+1)) (l.drop (m+1))):=by
 have e:l.drop m=gD l m::l.drop (m+1):=by rw [List.drop_eq_getElem_cons h,zBx h]
 rw [e,twiceB,seen_at l m h]
theorem twiceP (A:Option Addr) (l:List D) (c:Nat) (w0 w:World) (h0:Below w0.heap.size w0 w) (h:Rs w0 9 A l) (hl:l.length<=9223372036854775807) :
 Calls Tryz.prog 251 #[.slice A l.length c] w fun e w'=>e = .returned (.bool (twiceB [] l))/\Below w.heap.size w w':=by
 have H:=Lib.hid h;have H0:=Lib.hid h0
 clear h h0
 have hmm:=@run_makeMap Tryz.prog
 go_enter Tryz.func251,Tryz.ntmps251
 go_wp2
 go_loopg [9] l.length (fun j i wr => ∃ m:Nat,m+j=l.length/\i = .int .i64 m/\(∃ M,SetIs M ((l.map su).take m)/\wr.ownsMap Tryz.prog 9 (plainElem Tryz.prog 4) w.heap.size m M)/\twiceB ((l.map su).take m) (l.drop m)=twiceB [] l/\Below w.heap.size w wr)
 case atStart=>exact ⟨0,by omega,rfl,⟨_,setIs_nil,World.ownsMap_made _ _ _ _⟩,rfl,(Below.refl _ _).alloc (Nat.le_refl _) _⟩
 case round =>
  obtain ⟨m,hmj,rfl,⟨M,hset,hown⟩,htw,hb⟩:=hrel
  have Hb:=Lib.hid hb
  have Hmj:=Lib.hid hmj;have hmn:m<=l.length:=by omega
  have Htw:=Lib.hid htw
  clear hmj hb htw
  by_cases hlt:m<l.length
  . obtain ⟨b,off,rfl,hI,hat⟩:=str_at H.out (by omega)
    obtain ⟨e0,hsz⟩:=hat m hlt
    replace e0:=((H0.out.trans (Hb.out.mono H0.out.size)).cell (p:=⟨b,_,none⟩) hI).trans e0
    have hkey:keyOf Tryz.prog 9 (.string (gD l m).s)=some (.string (su (gD l m))):=keyOf_string_mk Tryz.underlying9 hsz
    have z1:(m:Int)<(l.length:Int):=by omega
    have hgo:=Lib.hid (twice_go hlt)
    cases hq:decide (su (gD l m)∈(l.map su).take m)
    . go_wp2_with (first
       |(at_lookup;refine zAy _ rfl _ _ 235 rfl 9 4 klawS Tryz.underlying235 Tryz.underlying4 (zeroB _) w.heap.size m _ _ hset rfl hown _ rfl hkey ?_;rw [show decide ((gD l m).s.data.toList∈(l.map su).take m)=false from hq])
       |(at_mapUpdate;refine wpList_mapUpdate_own _ rfl _ _ _ 235 rfl 9 4 klawS Tryz.underlying235 _ w.heap.size m _ rfl hown (by unfold maxLen;omega) _ _ _ rfl rfl hkey _ [] (plainElem_bool Tryz.underlying4 true) ?_)
       |go_in)
      intro w1 hown1 hgrow1
      have R1 : ∃ M,SetIs M ((l.map su).take (m+1))/\w1.ownsMap Tryz.prog 9 (plainElem Tryz.prog 4) w.heap.size (m+1) M:=⟨_,by rw [seen_at l m hlt];exact setIs_put hset _,hown1⟩
      have R2:=Hb.out.grown hgrow1 Hb.out.size (fun j hj=>by cases hj;exact Nat.le_refl _)
      have R3:twiceB ((l.map su).take (m+1)) (l.drop (m+1))=twiceB [] l:=by
       have:=hgo.out
       rw [hq,Bool.false_or,Htw.out] at this
       exact this.symm
      have R1:=Lib.hid R1;have R3:=Lib.hid R3
      clear hown1 hgrow1 hown hset hq hkey hat e0
      go_wp2
      go_roundg (l.length-m-1)
      case measure=>have:=Hmj.out;omega
      case rel=>exact ⟨m+1,by have:=Hmj.out;omega,by go_num,R1.out,R3.out,R2⟩
    . go_wp2_with (first
       |(at_lookup;refine zAy _ rfl _ _ 235 rfl 9 4 klawS Tryz.underlying235 Tryz.underlying4 (zeroB _) w.heap.size m _ _ hset rfl hown _ rfl hkey ?_;rw [show decide ((gD l m).s.data.toList∈(l.map su).take m)=true from hq])
       |go_in)
      go_ret
      have:=hgo.out
      rw [hq,Bool.true_or,Htw.out] at this
      exact ⟨by rw [this];rfl,Hb.out⟩
  . go_wp2
    go_ret
    refine ⟨?_,Hb.out⟩
    have:=Htw.out
    rw [List.drop_eq_nil_of_le (by omega)] at this
    rw [<- this];rfl
theorem zEs : ∀ (l:List D) (seen:List (List UInt8)),seen.Nodup->twiceB seen l = !decide (seen++l.map su).Nodup
 |[],seen,h=>by simp [twiceB,h]
 |x::r,seen,h=>by
  rw [twiceB]
  by_cases e:su x∈seen
  . have : ¬ (seen++(x::r).map su).Nodup:=fun hh=>by
     rw [List.nodup_append] at hh
     exact hh.2.2 _ e (su x) (by simp) rfl
    rw [decide_eq_true e,decide_eq_false this];rfl
  . rw [decide_eq_false e,Bool.false_or,zEs r (seen++[su x]) (by
     rw [List.nodup_append]
     refine ⟨h,by simp,?_⟩
     intro a ha b hb he
     rw [List.mem_singleton.1 hb] at he
     exact e (he ▸ ha))]
    simp
theorem twice_strs (d:D):twiceB [] (d.f 4).l = !decide (strsR d).Nodup:=by
 rw [zEs _ [] List.nodup_nil];rfl
end
section
open Go.RowKit
set_option linter.unusedSectionVars false
section
variable {X:Cx} {nn:Nat} {st:Vst nn} {o:Oper} {ops:Array Oper} {l:List Oper} {dst:Option Tmp} {KK:Vst nn->Prop}
theorem s_max {k:IntKind} {a b:Int} {x y:Operand} {ts:Array TypeId} (hg:o.guard=none) (ho:o.op = .call { callee:=.builtin .max,args:=#[x,y],argTypes:=ts }) (hd:o.dst=dst) (hx:ev st x = .c (.int k a)) (hy:ev st y = .c (.int k b)) (hK:AWo X ops l (st.put dst (.c (.int k (if a<b then b else a)))) KK):AWo X ops (o::l) st KK:=by
 refine zt hg ?_
 intro s w a' hI N Q hP hN
 have r1:=hI.ev x
 have r2:=hI.ev y
 rw [hx,rel] at r1
 rw [hy,rel] at r2
 have h1:(execOp a'.eval o).run X.P w = .ok (.value (.int k (if a<b then b else a))) w:=by
  simp [execOp,ho,resolve,invoke,builtin,Builtin.max_,Builtin.max2,r1.1,r2.1]
 unfold Oper.wp
 rw [h1,Oper.upon_value]
 refine hN _ _ _ _ (hI.put o.dst ?_) (by rw [hd];exact hK)
 rw [rel]
 refine ⟨rfl,?_⟩
 split
 . exact r2.2
 . exact r1.2
end
attribute [local irreducible] wpList Calls Code.wp AW AWo OpOk seqK zm zo loopK endK AC zh Yld Sub
attribute [local irreducible] ACB ACX ACE absLexG YldG
structure BkIn (d:D) (B:Nat):Prop where
 text:(d.f 2).s.size<=B
 keys:(d.f 4).l.length<=B
 items:(d.f 3).l.length<=B
 at_ : ∀ i,i<(d.f 3).l.length->bulkD (gD (d.f 3).l i)<bulkD d
 key : ∀ i,i<(d.f 4).l.length->(gD (d.f 4).l i).s.size<=B
theorem maxN_le {g:Nat->Nat} {B:Nat} : ∀ {n:Nat},(∀ i,i<n->g i<=B)->maxN g n<=B
 |0,_=>Nat.zero_le _
 |n+1,h=>Nat.max_le.2 ⟨maxN_le fun i hi=>h i (by omega),h n (by omega)⟩
theorem max_i (a b:Nat):(if (a:Int)<(b:Int) then (b:Int) else (a:Int))=((max a b:Nat):Int):=by
 split<;>omega
end
section
open Go.RowKit
set_option linter.unusedSectionVars false
attribute [local irreducible] wpList Calls Code.wp AW AWo OpOk seqK zm zo loopK endK AC zh Yld Sub
attribute [local irreducible] ACB ACX ACE absLexG YldG absLexH
theorem zr {i n:Nat} (h:i<n):0<=(i:Int)/\(i:Int)<(n:Int):=⟨Int.natCast_nonneg i,Int.ofNat_lt.2 h⟩
noncomputable def HWr (l:List D) (i:Nat):Vst 26:=stS 26 [(0,.sl 3 l),(1,.sl 3 l),(5,.c (.int .i64 (i:Int)))] []
end
section
open Go.RowKit
attribute [local irreducible] wpList Calls Code.wp
def LenT (P:Program):Nat->TypeId->D->Prop
 |0,_,_=>True
 |n+1,t,d =>
  match P.underlying t with
  |some .string=>d.s.size<=maxLen
  |some (.slice e)=>d.l.length<=maxLen/\(0<P.cellsOf e -> ∀ i,i<d.l.length->LenT P n e (gD d.l i))
  |some (.struct fs) => ∀ j f,fs[j]? = some f->LenT P n f.type (d.f j)
  |_=>True
section
variable {P:Program} {s:Sg} {w:World}
theorem RepF.len {F:Nat->Nat->Prop} : ∀ (n:Nat) {k:Nat} {t:TypeId} {cs:List Value} {d:D},RepF P w F k t cs d->LenT P n t d
 |0,_,_,_,_,_=>trivial
 |n+1,0,_,_,_,h=>h.elim
 |n+1,k+1,t,cs,d,h=>by
  unfold RepF at h
  unfold LenT
  split<;>rename_i hu<;>try simp only [hu] at h
  . exact h.2
  . obtain ⟨A,c,h1,h2,h3,h4,h5⟩:=h
    refine ⟨Nat.le_trans h2 h3,fun hc i hi => ?_⟩
    obtain ⟨b,off,hA,hat⟩:=h5 (by omega) hc
    obtain ⟨ys,y1,y2,y3⟩:=hat i hi
    exact RepF.len n y3
  . exact fun j f hf=>RepF.len n (h.2 j f hf)
  . trivial
theorem SlV.len {F:Nat->Nat->Prop} (n:Nat) {e:TypeId} {l:List D} {u:Value} (h:SlV P w F e l u):l.length<=maxLen/\(0<P.cellsOf e -> ∀ i,i<l.length->LenT P n e (gD l i)):=by
 obtain ⟨k,A,c,h1,h2,h3,h4,h5⟩:=h
 refine ⟨Nat.le_trans h2 h3,fun hc i hi => ?_⟩
 obtain ⟨b,off,hA,hat⟩:=h5 (by omega) hc
 obtain ⟨ys,y1,y2,y3⟩:=hat i hi
 exact y3.len n
mutual
theorem zJF : ∀ (m n:Nat) (t:TypeId) (d:D) (cs:List Value),layB P m t=true->relL P s w (cellsV P m t d) cs->LenT P n t d
 |0,_,_,_,_,hb,_=>by simp [layB] at hb
 |m+1,0,_,_,_,_,_=>trivial
 |m+1,n+1,t,d,cs,hb,h=>by
  unfold LenT
  unfold layB at hb
  unfold cellsV at h
  split<;>rename_i hu<;>try simp only [hu] at h hb
  . cases cs with
    |nil=>simp [relL] at h
    |cons c cs=>rw [relL,rel] at h;exact h.1.2
  . cases cs with
    |nil=>simp [relL] at h
    |cons c cs=>rw [relL,rel] at h;exact h.1.len n
  . rename_i fs
    simp only [Bool.and_eq_true,beq_iff_eq] at hb
    intro j f hf
    have:=zGY m n fs.toList 0 d cs hb.2 h j f (by simpa using hf)
    simpa using this
  . trivial
theorem zGY : ∀ (m n:Nat) (fs:List Field) (j:Nat) (d:D) (cs:List Value),(fs.all fun f=>layB P m f.type)=true->relL P s w (zAf (cellsV P m) fs j d) cs -> ∀ i f,fs[i]? = some f->LenT P n f.type (d.f (j+i))
 |m,n,[],j,d,cs,_,_,i,f,hf=>by simp at hf
 |m,n,g::fs,j,d,cs,hb,h,i,f,hf=>by
  rw [zAf] at h
  simp only [List.all_cons,Bool.and_eq_true] at hb
  obtain ⟨h1,h2⟩:=relL.split h
  cases i with
  |zero =>
   simp at hf
   subst hf
   exact zJF m n g.type (d.f j) _ hb.1 h1
  |succ i =>
   have:=zGY m n fs (j+1) d _ hb.2 h2 i f (by simpa using hf)
   rwa [show j+1+i=j+(i+1) by omega] at this
end
end
theorem ac_pre {e:Ge} {P:Program} {f:FuncId} {args:List V} {r:V} {p:Prop} (hp : ∀ s w us,relL P s w args us->p) (h:p->AC e P f args r):AC e P f args r:=fun s w us hr hx he=>h (hp s w us.toList hr) s w us hr hx he
theorem zC7 {e:Ge} {P:Program} {f:FuncId} {t:TypeId} {l:List D} {args:List V} {r:V} (n:Nat) (h:l.length<=maxLen/\(0<P.cellsOf t -> ∀ i,i<l.length->LenT P n t (gD l i))->AC e P f (.sl t l::args) r):AC e P f (.sl t l::args) r:=
 ac_pre (fun s w us hr=>by
  cases us with
  |nil=>simp [relL] at hr
  |cons u us=>rw [relL,rel] at hr;exact hr.1.len n) h
theorem zA1 {e:Ge} {P:Program} {f:FuncId} {t:TypeId} {d:D} {args:List V} {r:V} (n:Nat) (hb:layB P 12 t=true) (h:LenT P n t d->AC e P f (.agg (cellsV P 12 t d)::args) r):AC e P f (.agg (cellsV P 12 t d)::args) r:=
 ac_pre (fun s w us hr=>by
  cases us with
  |nil=>simp [relL] at hr
  |cons u us =>
   rw [relL,rel] at hr
   obtain ⟨⟨cs,-,h1⟩,-⟩:=hr
   exact zJF 12 n t d cs.toList hb h1) h
end
section
open Go.RowKit
set_option linter.unusedSectionVars false
theorem LenT.fld {P:Program} {n:Nat} {t:TypeId} {d:D} {fs:Array Field} {f:Field} (j:Nat) (hu:P.underlying t=some (.struct fs)) (hf:fs[j]? = some f) (h:LenT P (n+1) t d):LenT P n f.type (d.f j):=by
 unfold LenT at h
 rw [hu] at h
 exact h j f hf
theorem LenT.lst {P:Program} {n:Nat} {t e:TypeId} {d:D} (hu:P.underlying t=some (.slice e)) (h:LenT P (n+1) t d):d.l.length<=maxLen/\(0<P.cellsOf e -> ∀ i,i<d.l.length->LenT P n e (gD d.l i)):=by
 unfold LenT at h
 rw [hu] at h
 exact h
theorem len_ref {n:Nat} {d:D} (h:LenT Tryz.prog (n+2) 48 d):(d.f 1).l.length<=maxLen:=(LenT.lst (t:=46) (e:=3) (by kernel_rfl) (LenT.fld 1 (fs:=Tryz.prog.fieldsOf 48) (f:=(Tryz.prog.fieldsOf 48)[1]!) (by kernel_rfl) (by kernel_rfl) h)).1
theorem zA4 {n:Nat} {d:D} (h:LenT Tryz.prog (n+2) 53 d):(d.f 3).l.length<=maxLen/\(d.f 4).l.length<=maxLen:=
 ⟨(LenT.lst (t:=51) (e:=53) (by kernel_rfl) (LenT.fld 3 (fs:=Tryz.prog.fieldsOf 53) (f:=(Tryz.prog.fieldsOf 53)[3]!) (by kernel_rfl) (by kernel_rfl) h)).1,
  (LenT.lst (t:=39) (e:=9) (by kernel_rfl) (LenT.fld 4 (fs:=Tryz.prog.fieldsOf 53) (f:=(Tryz.prog.fieldsOf 53)[4]!) (by kernel_rfl) (by kernel_rfl) h)).1⟩
attribute [local irreducible] wpList Calls Code.wp AW AWo OpOk seqK zm zo loopK endK AC zh Yld Sub
attribute [local irreducible] ACB ACX ACE absLexG YldG absLexH
theorem wrapsU_ac (l:List D):AC EN5 Tryz.prog 130 [.sl 3 l,.sl 3 l] (.c (.bool true)):=by
 refine zC7 1 fun hl => ?_
 have hl:l.length<=9223372036854775807:=hl.1
 have f0:((l.length:Int) != (l.length:Int))=false:=by simp
 refine zM 26 Tryz.func130 rfl rfl rfl rfl ?_
 intro s w he
 repeat' (first
|apply zF
 . conv=>lhs;whnf
 . assumption
|refine zA ?_
|refine zB ?_
|refine zH ?_
|apply aw_1
 conv=>whnf
 refine ⟨?_,trivial⟩
|apply s_1
 conv=>whnf;arg 1;arg 4;arg 3;whnf
 refine ⟨?_,?_⟩
|exact trivial)
 refine zf (fun j st => ∃ i,i+j=l.length/\Sub (cx EN5 Tryz.prog s w he) st (HWr l i)) l.length ⟨0,by omega,Sub.live ⟨rfl,rfl,rfl,trivial⟩ trivial⟩ ?_
 rintro j st ⟨i,hij,hs2⟩
 refine zi hs2 ?_
 clear hs2
 by_cases hi:i<l.length
 . have f1:decide ((i:Int)<(l.length:Nat))=true:=decide_eq_true (by omega)
   have f2:((gD l i).n != (gD l i).n)=false:=by simp
   repeat' (first
|apply zG
 . conv=>lhs;whnf
 . assumption
|apply zF
 . conv=>lhs;whnf
 . assumption
|refine zA ?_
|refine zB ?_
|refine zH ?_
|refine zW ?_
|apply aw_1
 conv=>whnf
 refine ⟨?_,trivial⟩
|apply s_1
 conv=>whnf;arg 1;arg 4;arg 3;whnf
 refine ⟨?_,?_⟩
|apply zAN (by kernel_rfl) (by kernel_rfl)
|apply zBl
|apply zBk rfl
 . conv=>lhs;whnf
 . conv=>lhs;whnf;arg 2;whnf
|exact zn
|exact zv
|exact (1000000:Nat)
|exact trivial)
   all_goals first
    |exact zR (by omega)
    |exact zr hi
    |exact zI (j':=j-1) (by omega) ⟨i+1,by omega,Sub.live ⟨rfl,rfl,rfl,trivial⟩ trivial⟩
 . have f1:decide ((i:Int)<(l.length:Nat))=false:=decide_eq_false (by omega)
   repeat' (first
|apply zF
 . conv=>lhs;whnf
 . assumption
|refine zA ?_
|refine zB ?_
|refine zH ?_
|apply aw_1
 conv=>whnf
 refine ⟨?_,trivial⟩
|apply s_1
 conv=>whnf;arg 1;arg 4;arg 3;whnf
 refine ⟨?_,?_⟩
|refine zL ?_
|refine zJ rfl ?_
|refine zK ?_
|refine zE ?_
|refine ⟨_,by conv=>lhs;whnf;arg 2;whnf,?_⟩;conv=>rhs;whnf
|exact trivial)
theorem refU_ac (d:D):AC EN5 Tryz.prog 65 [.agg (cellsV Tryz.prog 12 48 d),.agg (cellsV Tryz.prog 12 48 d)] (.c (.bool true)):=by
 have h:=wrapsU_ac (d.f 1).l
 have f0:((d.f 0).s.toList==(d.f 0).s.toList)=true:=by simp
 have k0:(((d.f 0).s.toList==(d.f 0).s.toList)==true)=false->False:=fun h=>by rw [f0] at h;cases h
 refine zM 17 Tryz.func65 rfl rfl rfl rfl ?_
 intro s w he
 repeat' (first
|exact (k0 ‹_›).elim
|refine zA ?_
|refine zB ?_
|refine zH ?_
|apply aw_1
 conv=>whnf
 refine ⟨?_,trivial⟩
|apply zQ rfl rfl
 . conv=>lhs;whnf
 . conv=>lhs;whnf
 . first | exact bT1 ‹_› | exact bT2 ‹_›
|apply s_1
 conv=>whnf;arg 1;arg 4;arg 3;whnf
 refine ⟨?_,?_⟩
|apply zAF rfl rfl rfl rfl
 . conv=>lhs;whnf;arg 1;whnf
 . rfl
|apply zD rfl
 . conv=>lhs;whnf
 . conv=>lhs;whnf
 . first | rfl | assumption
 . conv=>lhs;whnf;arg 2;whnf
|apply zX rfl
 . conv=>lhs;whnf
 . conv=>lhs;whnf
 . first | rfl | assumption
 . conv=>lhs;whnf
 . first | exact h
|apply zC rfl
 . conv=>lhs;whnf
 . conv=>lhs;whnf
 . conv=>lhs;whnf;arg 2;whnf
|refine zE ?_
|refine ⟨_,by conv=>lhs;whnf;arg 2;whnf,?_⟩;conv=>rhs;whnf
|exact trivial
|intro hg)
noncomputable def HeK (d:D) (i:Nat):Vst 81:=stS 81 [(2,.bx 2 0),(3,.bx 3 0),(5,.c (.int .i64 (i:Int)))] [(2,.box 53 (cellsV Tryz.prog 12 53 d)),(3,.box 53 (cellsV Tryz.prog 12 53 d))]
noncomputable def HeI (d:D) (i:Nat):Vst 81:=stS 81 [(2,.bx 2 0),(3,.bx 3 0),(6,.c (.int .i64 (i:Int)))] [(2,.box 53 (cellsV Tryz.prog 12 53 d)),(3,.box 53 (cellsV Tryz.prog 12 53 d))]
theorem valU_ac : ∀ (k:Nat) (d:D),Dp k d->AC EN5 Tryz.prog 129 [.agg (cellsV Tryz.prog 12 53 d),.agg (cellsV Tryz.prog 12 53 d)] (.c (.bool true))
 |0,_,h=>h.elim
 |k+1,d,h=>by
  refine zA1 2 (by kernel_rfl) fun hL => ?_
  have hL:=zA4 hL
  have hl3:(d.f 3).l.length<=9223372036854775807:=hL.1
  have hl4:(d.f 4).l.length<=9223372036854775807:=hL.2
  have ih:=fun i (hi:i<(d.f 3).l.length)=>valU_ac k (gD (d.f 3).l i) (h i hi)
  have f0:((d.f 0).n != (d.f 0).n)=false:=by simp
  have f1:((d.f 1).n != (d.f 1).n)=false:=by simp
  have f2:(!((d.f 2).s.toList==(d.f 2).s.toList))=false:=by simp
  have f3:(((d.f 3).l.length:Int) != ((d.f 3).l.length:Int))=false:=by simp
  have f4:(((d.f 4).l.length:Int) != ((d.f 4).l.length:Int))=false:=by simp
  have k0:(((d.f 0).n != (d.f 0).n)==false)=false->False:=fun h=>by rw [f0] at h;cases h
  have k1:(((d.f 1).n != (d.f 1).n)==false)=false->False:=fun h=>by rw [f1] at h;cases h
  have k2:((!((d.f 2).s.toList==(d.f 2).s.toList))==false)=false->False:=fun h=>by rw [f2] at h;cases h
  have k3:((((d.f 3).l.length:Int) != ((d.f 3).l.length:Int))==false)=false->False:=fun h=>by rw [f3] at h;cases h
  refine zM 81 Tryz.func129 rfl rfl rfl rfl ?_
  intro s w he
  repeat' (first
|apply zF
 . conv=>lhs;whnf
 . assumption
|exact (k0 ‹_›).elim
|exact (k1 ‹_›).elim
|exact (k2 ‹_›).elim
|exact (k3 ‹_›).elim
|refine zA ?_
|refine zB ?_
|refine zH ?_
|apply aw_1
 conv=>whnf
 refine ⟨?_,trivial⟩
|apply zO rfl rfl
 . conv=>lhs;whnf
 . conv=>lhs;whnf
 . first | exact bF1 ‹_› | exact bF2 ‹_›
|apply s_1
 conv=>whnf;arg 1;arg 4;arg 3;whnf
 refine ⟨?_,?_⟩
|apply zAF rfl rfl rfl rfl
 . conv=>lhs;whnf;arg 1;whnf
 . rfl
|apply zD rfl
 . conv=>lhs;whnf
 . conv=>lhs;whnf
 . first | rfl | assumption
 . conv=>lhs;whnf;arg 2;whnf
|apply zC rfl
 . conv=>lhs;whnf
 . conv=>lhs;whnf
 . conv=>lhs;whnf;arg 2;whnf
|exact trivial
|intro hg)
  refine zf (fun j st => ∃ i,i+j=(d.f 4).l.length/\Sub (cx EN5 Tryz.prog s w he) st (HeK d i)) (d.f 4).l.length ⟨0,by omega,Sub.live ⟨rfl,rfl,rfl,trivial⟩ ⟨rfl,rfl,trivial⟩⟩ ?_
  rintro j st ⟨i,hij,hs2⟩
  refine zi hs2 ?_
  clear hs2
  by_cases hi:i<(d.f 4).l.length
  . have g1:decide ((i:Int)<((d.f 4).l.length:Nat))=true:=decide_eq_true (by omega)
    have g2:(!((gD (d.f 4).l i).s.toList==(gD (d.f 4).l i).s.toList))=false:=by simp
    repeat' (first
|apply zG
 . conv=>lhs;whnf
 . assumption
|apply zF
 . conv=>lhs;whnf
 . assumption
|refine zA ?_
|refine zB ?_
|refine zH ?_
|refine zW ?_
|apply aw_1
 conv=>whnf
 refine ⟨?_,trivial⟩
|apply s_1
 conv=>whnf;arg 1;arg 4;arg 3;whnf
 refine ⟨?_,?_⟩
|apply zAN (by kernel_rfl) (by kernel_rfl)
|apply zBl
|apply zBk rfl
 . conv=>lhs;whnf
 . conv=>lhs;whnf;arg 2;whnf
|exact zn
|exact zv
|exact (1000000:Nat)
|exact trivial)
    all_goals first
     |exact zR (by omega)
     |exact zr hi
     |exact zI (j':=j-1) (by omega) ⟨i+1,by omega,Sub.live ⟨rfl,rfl,rfl,trivial⟩ ⟨rfl,rfl,trivial⟩⟩
  . have g1:decide ((i:Int)<((d.f 4).l.length:Nat))=false:=decide_eq_false (by omega)
    repeat' (first
|apply zF
 . conv=>lhs;whnf
 . assumption
|refine zA ?_
|refine zB ?_
|refine zH ?_
|apply aw_1
 conv=>whnf
 refine ⟨?_,trivial⟩
|apply s_1
 conv=>whnf;arg 1;arg 4;arg 3;whnf
 refine ⟨?_,?_⟩
|refine zL ?_
|refine zJ rfl ?_
|refine zK ?_
|exact trivial)
    refine zf (fun j st => ∃ i,i+j=(d.f 3).l.length/\Sub (cx EN5 Tryz.prog s w he) st (HeI d i)) (d.f 3).l.length ⟨0,by omega,Sub.live ⟨rfl,rfl,rfl,trivial⟩ ⟨rfl,rfl,trivial⟩⟩ ?_
    rintro j st ⟨i,hij,hs2⟩
    refine zi hs2 ?_
    clear hs2
    by_cases hi:i<(d.f 3).l.length
    . have g1:decide ((i:Int)<((d.f 3).l.length:Nat))=true:=decide_eq_true (by omega)
      have ih2:=ih i hi
      repeat' (first
|apply zG
 . conv=>lhs;whnf
 . assumption
|refine zA ?_
|refine zB ?_
|refine zH ?_
|refine zW ?_
|apply aw_1
 conv=>whnf
 refine ⟨?_,trivial⟩
|apply s_1
 conv=>whnf;arg 1;arg 4;arg 3;whnf
 refine ⟨?_,?_⟩
|apply zAN (by kernel_rfl) (by kernel_rfl)
|apply zBl
|apply zBk rfl
 . conv=>lhs;whnf
 . conv=>lhs;whnf;arg 2;whnf
|apply zF1 rfl
 . conv=>lhs;whnf
 . conv=>lhs;whnf
 . first | exact ih2
|exact zn
|exact zv
|exact (1000000:Nat)
|exact trivial)
      all_goals first
       |exact zR (by omega)
       |exact zr hi
       |exact zI (j':=j-1) (by omega) ⟨i+1,by omega,Sub.live ⟨rfl,rfl,rfl,trivial⟩ ⟨rfl,rfl,trivial⟩⟩
    . have g1:decide ((i:Int)<((d.f 3).l.length:Nat))=false:=decide_eq_false (by omega)
      repeat' (first
|apply zF
 . conv=>lhs;whnf
 . assumption
|refine zA ?_
|refine zB ?_
|refine zH ?_
|apply aw_1
 conv=>whnf
 refine ⟨?_,trivial⟩
|apply s_1
 conv=>whnf;arg 1;arg 4;arg 3;whnf
 refine ⟨?_,?_⟩
|refine zL ?_
|refine zJ rfl ?_
|refine zK ?_
|refine zE ?_
|refine ⟨_,by conv=>lhs;whnf;arg 2;whnf,?_⟩;conv=>rhs;whnf
|exact trivial)
end
section
open Go.RowKit
set_option linter.unusedSectionVars false
theorem zHR {n:Nat} {d:D} (h:LenT Tryz.prog (n+2) 108 d):(d.f 1).l.length<=maxLen:=(LenT.lst (t:=106) (e:=111) (by kernel_rfl) (LenT.fld 1 (fs:=Tryz.prog.fieldsOf 108) (f:=(Tryz.prog.fieldsOf 108)[1]!) (by kernel_rfl) (by kernel_rfl) h)).1
theorem len_def {n:Nat} {d:D} (h:LenT Tryz.prog (n+2) 45 d):(d.f 4).l.length<=maxLen/\(d.f 5).l.length<=maxLen:=
 ⟨(LenT.lst (t:=41) (e:=50) (by kernel_rfl) (LenT.fld 4 (fs:=Tryz.prog.fieldsOf 45) (f:=(Tryz.prog.fieldsOf 45)[4]!) (by kernel_rfl) (by kernel_rfl) h)).1,
  (LenT.lst (t:=42) (e:=79) (by kernel_rfl) (LenT.fld 5 (fs:=Tryz.prog.fieldsOf 45) (f:=(Tryz.prog.fieldsOf 45)[5]!) (by kernel_rfl) (by kernel_rfl) h)).1⟩
theorem zHQ {n:Nat} {d:D} (h:LenT Tryz.prog (n+2) 25 d):(d.f 0).l.length<=maxLen:=(LenT.lst (t:=23) (e:=45) (by kernel_rfl) (LenT.fld 0 (fs:=Tryz.prog.fieldsOf 25) (f:=(Tryz.prog.fieldsOf 25)[0]!) (by kernel_rfl) (by kernel_rfl) h)).1
theorem valE_ac (d:D):AC EN5 Tryz.prog 129 [.agg (cellsV Tryz.prog 12 53 d),.agg (cellsV Tryz.prog 12 53 d)] (.c (.bool true)):=valU_ac _ d (zBY (bulkD d) d (Nat.le_refl _))
attribute [local irreducible] wpList Calls Code.wp AW AWo OpOk seqK zm zo loopK endK AC zh Yld Sub
attribute [local irreducible] ACB ACX ACE absLexG YldG absLexH
theorem eqs_f (s:ByteArray):(!(s.toList==s.toList))=false:=by simp
theorem eqs_k (s:ByteArray) (h:((!(s.toList==s.toList))==false)=false):False:=by simp at h
theorem eqn_f (n:Int):(n != n)=false:=by simp
theorem eqn_k (n:Int) (h:((n != n)==false)=false):False:=by simp at h
theorem eqb_k (b:Bool) (h:((b != b)==false)=false):False:=by cases b<;>cases h
theorem eqt_k (h:((!true)==false)=false):False:=by cases h
theorem eqt_f:(!true)=false:=rfl
noncomputable def HtX (l:List D) (i:Nat):Vst 26:=stS 26 [(0,.sl 9 l),(1,.sl 9 l),(5,.c (.int .i64 (i:Int)))] []
theorem textsE_ac (l:List D):AC EN5 Tryz.prog 62 [.sl 9 l,.sl 9 l] (.c (.bool true)):=by
 refine zC7 1 fun hl => ?_
 have hl:l.length<=9223372036854775807:=hl.1
 have f0:=eqn_f (l.length:Int)
 refine zM 26 Tryz.func62 rfl rfl rfl rfl ?_
 intro s w he
 repeat' (first
|apply zF
 . conv=>lhs;whnf
 . assumption
|refine zA ?_
|refine zB ?_
|refine zH ?_
|apply aw_1
 conv=>whnf
 refine ⟨?_,trivial⟩
|apply s_1
 conv=>whnf;arg 1;arg 4;arg 3;whnf
 refine ⟨?_,?_⟩
|exact trivial)
 refine zf (fun j st => ∃ i,i+j=l.length/\Sub (cx EN5 Tryz.prog s w he) st (HtX l i)) l.length ⟨0,by omega,Sub.live ⟨rfl,rfl,rfl,trivial⟩ trivial⟩ ?_
 rintro j st ⟨i,hij,hs2⟩
 refine zi hs2 ?_
 clear hs2
 by_cases hi:i<l.length
 . have f1:decide ((i:Int)<(l.length:Nat))=true:=decide_eq_true (by omega)
   have f2:=eqs_f (gD l i).s
   repeat' (first
|apply zG
 . conv=>lhs;whnf
 . assumption
|apply zF
 . conv=>lhs;whnf
 . assumption
|refine zA ?_
|refine zB ?_
|refine zH ?_
|refine zW ?_
|apply aw_1
 conv=>whnf
 refine ⟨?_,trivial⟩
|apply s_1
 conv=>whnf;arg 1;arg 4;arg 3;whnf
 refine ⟨?_,?_⟩
|apply zAN (by kernel_rfl) (by kernel_rfl)
|apply zBl
|apply zBk rfl
 . conv=>lhs;whnf
 . conv=>lhs;whnf;arg 2;whnf
|exact zn
|exact zv
|exact (1000000:Nat)
|exact trivial)
   all_goals first
    |exact zR (by omega)
    |exact zr hi
    |exact zI (j':=j-1) (by omega) ⟨i+1,by omega,Sub.live ⟨rfl,rfl,rfl,trivial⟩ trivial⟩
 . have f1:decide ((i:Int)<(l.length:Nat))=false:=decide_eq_false (by omega)
   repeat' (first
|apply zF
 . conv=>lhs;whnf
 . assumption
|refine zA ?_
|refine zB ?_
|refine zH ?_
|apply aw_1
 conv=>whnf
 refine ⟨?_,trivial⟩
|apply s_1
 conv=>whnf;arg 1;arg 4;arg 3;whnf
 refine ⟨?_,?_⟩
|refine zL ?_
|refine zJ rfl ?_
|refine zK ?_
|refine zE ?_
|refine ⟨_,by conv=>lhs;whnf;arg 2;whnf,?_⟩;conv=>rhs;whnf
|exact trivial)
noncomputable def HuD (l:List D) (i:Nat):Vst 95:=stS 95 [(0,.sl 108 l),(1,.sl 108 l),(5,.c (.int .i64 (i:Int)))] []
noncomputable def HuE (l:List D) (i k:Nat):Vst 95:=stS 95 [(0,.sl 108 l),(1,.sl 108 l),(5,.c (.int .i64 (i:Int))),(6,.c (.int .i64 (k:Int)))] []
theorem zEi (l:List D):AC EN5 Tryz.prog 63 [.sl 108 l,.sl 108 l] (.c (.bool true)):=by
 refine zC7 2 fun hL => ?_
 have hl:l.length<=9223372036854775807:=hL.1
 have hla : ∀ i,i<l.length->((gD l i).f 1).l.length<=9223372036854775807:=fun i hi=>zHR (hL.2 (by decide +kernel) i hi)
 have f0:=eqn_f (l.length:Int)
 refine zM 95 Tryz.func63 rfl rfl rfl rfl ?_
 intro s w he
 repeat' (first
|apply zF
 . conv=>lhs;whnf
 . assumption
|refine zA ?_
|refine zB ?_
|refine zH ?_
|apply aw_1
 conv=>whnf
 refine ⟨?_,trivial⟩
|apply s_1
 conv=>whnf;arg 1;arg 4;arg 3;whnf
 refine ⟨?_,?_⟩
|exact trivial)
 refine zf (fun j st => ∃ i,i+j=l.length/\Sub (cx EN5 Tryz.prog s w he) st (HuD l i)) l.length ⟨0,by omega,Sub.live ⟨rfl,rfl,rfl,trivial⟩ trivial⟩ ?_
 rintro j st ⟨i,hij,hs2⟩
 refine zi hs2 ?_
 clear hs2
 by_cases hi:i<l.length
 . have f1:decide ((i:Int)<(l.length:Nat))=true:=decide_eq_true (by omega)
   have k1:=eqs_k ((gD l i).f 0).s
   have f2:=eqn_f (((gD l i).f 1).l.length:Int)
   have ha:=hla i hi
   repeat' (first
|apply zG
 . conv=>lhs;whnf
 . assumption
|apply zF
 . conv=>lhs;whnf
 . assumption
|exact (k1 ‹_›).elim
|refine zA ?_
|refine zB ?_
|refine zH ?_
|apply aw_1
 conv=>whnf
 refine ⟨?_,trivial⟩
|apply s_1
 conv=>whnf;arg 1;arg 4;arg 3;whnf
 refine ⟨?_,?_⟩
|apply zAN (by kernel_rfl) (by kernel_rfl)
|apply zBl
|apply zDS rfl rfl
 . conv=>lhs;whnf
 . conv=>lhs;whnf
 . first | exact bF1 ‹_› | exact bF2 ‹_›
|apply zBk rfl
 . conv=>lhs;whnf
 . conv=>lhs;whnf;arg 2;whnf
|apply zAl rfl
 . conv=>lhs;whnf
 . conv=>lhs;whnf
 . first | rfl | assumption
 . conv=>lhs;whnf;arg 2;whnf
|apply zBO rfl
 . conv=>lhs;whnf
 . conv=>lhs;whnf
 . conv=>lhs;whnf;arg 2;whnf
|exact zn
|exact ([]:List Nat)
|exact (1000000:Nat)
|exact trivial
|intro hg)
   all_goals first
    |exact zR (by omega)
    |exact zr hi
    |skip
   refine zf (fun j st => ∃ k,k+j=((gD l i).f 1).l.length/\Sub (cx EN5 Tryz.prog s w he) st (HuE l i k)) ((gD l i).f 1).l.length ⟨0,by omega,Sub.live ⟨rfl,rfl,rfl,rfl,trivial⟩ trivial⟩ ?_
   rintro j2 st2 ⟨k,hkj,hs3⟩
   refine zi hs3 ?_
   clear hs3
   by_cases hk:k<((gD l i).f 1).l.length
   . have g1:decide ((k:Int)<(((gD l i).f 1).l.length:Nat))=true:=decide_eq_true (by omega)
     have k2:=eqs_k ((gD ((gD l i).f 1).l k).f 0).s
     have hv:=valE_ac ((gD ((gD l i).f 1).l k).f 1)
     have f3:=eqt_f
     repeat' (first
|apply zG
 . conv=>lhs;whnf
 . assumption
|apply zF
 . conv=>lhs;whnf
 . assumption
|exact (k2 ‹_›).elim
|refine zA ?_
|refine zB ?_
|refine zH ?_
|refine zW ?_
|apply aw_1
 conv=>whnf
 refine ⟨?_,trivial⟩
|apply s_1
 conv=>whnf;arg 1;arg 4;arg 3;whnf
 refine ⟨?_,?_⟩
|apply zAN (by kernel_rfl) (by kernel_rfl)
|apply zBl
|apply zDS rfl rfl
 . conv=>lhs;whnf
 . conv=>lhs;whnf
 . first | exact bF1 ‹_› | exact bF2 ‹_›
|apply zBk rfl
 . conv=>lhs;whnf
 . conv=>lhs;whnf;arg 2;whnf
|apply zAl rfl
 . conv=>lhs;whnf
 . conv=>lhs;whnf
 . first | rfl | assumption
 . conv=>lhs;whnf;arg 2;whnf
|apply zAq rfl
 . conv=>lhs;whnf
 . conv=>lhs;whnf
 . first | rfl | assumption
 . conv=>lhs;whnf
 . first | exact hv
|apply zBO rfl
 . conv=>lhs;whnf
 . conv=>lhs;whnf
 . conv=>lhs;whnf;arg 2;whnf
|exact zn
|exact ([]:List Nat)
|exact (1000000:Nat)
|exact trivial
|intro hg)
     all_goals first
      |exact zR (by omega)
      |exact zr hi
      |exact zr hk
      |exact zI (j':=j2-1) (by omega) ⟨k+1,by omega,Sub.live ⟨rfl,rfl,rfl,rfl,trivial⟩ trivial⟩
      |skip
   . have g1:decide ((k:Int)<(((gD l i).f 1).l.length:Nat))=false:=decide_eq_false (by omega)
     repeat' (first
|apply zF
 . conv=>lhs;whnf
 . assumption
|refine zA ?_
|refine zB ?_
|refine zH ?_
|refine zW ?_
|apply aw_1
 conv=>whnf
 refine ⟨?_,trivial⟩
|apply s_1
 conv=>whnf;arg 1;arg 4;arg 3;whnf
 refine ⟨?_,?_⟩
|refine zL ?_
|refine zJ rfl ?_
|refine zK ?_
|exact trivial)
     all_goals first
      |exact zR (by omega)
      |exact zr hi
      |exact zI (j':=j-1) (by omega) ⟨i+1,by omega,Sub.live ⟨rfl,rfl,rfl,trivial⟩ trivial⟩
      |skip
 . have f1:decide ((i:Int)<(l.length:Nat))=false:=decide_eq_false (by omega)
   repeat' (first
|apply zF
 . conv=>lhs;whnf
 . assumption
|refine zA ?_
|refine zB ?_
|refine zH ?_
|apply aw_1
 conv=>whnf
 refine ⟨?_,trivial⟩
|apply s_1
 conv=>whnf;arg 1;arg 4;arg 3;whnf
 refine ⟨?_,?_⟩
|refine zL ?_
|refine zJ rfl ?_
|refine zK ?_
|refine zE ?_
|refine ⟨_,by conv=>lhs;whnf;arg 2;whnf,?_⟩;conv=>rhs;whnf
|exact trivial)
end
section
open Go.RowKit
set_option linter.unusedSectionVars false
attribute [local irreducible] wpList Calls Code.wp AW AWo OpOk seqK zm zo loopK endK AC zh Yld Sub
attribute [local irreducible] ACB ACX ACE absLexG YldG absLexH
noncomputable def HuI (l:List D) (i:Nat):Vst 83:=stS 83 [(0,.sl 55 l),(1,.sl 55 l),(5,.c (.int .i64 (i:Int)))] []
theorem zGU (l:List D):AC EN5 Tryz.prog 64 [.sl 55 l,.sl 55 l] (.c (.bool true)):=by
 refine zC7 1 fun hL => ?_
 have hl:l.length<=9223372036854775807:=hL.1
 have f0:=eqn_f (l.length:Int)
 refine zM 83 Tryz.func64 rfl rfl rfl rfl ?_
 intro s w he
 repeat' (first
|apply zF
 . conv=>lhs;whnf
 . assumption
|refine zA ?_
|refine zB ?_
|refine zH ?_
|apply aw_1
 conv=>whnf
 refine ⟨?_,trivial⟩
|apply s_1
 conv=>whnf;arg 1;arg 4;arg 3;whnf
 refine ⟨?_,?_⟩
|exact trivial)
 refine zf (fun j st => ∃ i,i+j=l.length/\Sub (cx EN5 Tryz.prog s w he) st (HuI l i)) l.length ⟨0,by omega,Sub.live ⟨rfl,rfl,rfl,trivial⟩ trivial⟩ ?_
 rintro j st ⟨i,hij,hs2⟩
 refine zi hs2 ?_
 clear hs2
 by_cases hi:i<l.length
 . have f1:decide ((i:Int)<(l.length:Nat))=true:=decide_eq_true (by omega)
   have k1:=eqs_k ((gD l i).f 0).s
   have k2:=eqb_k ((gD l i).f 2).b
   have k3:=eqt_k
   have h1:=refU_ac ((gD l i).f 1)
   have h2:=valE_ac ((gD l i).f 3)
   have h3:=zEi ((gD l i).f 4).l
   have f3:=eqt_f
   repeat' (first
|apply zG
 . conv=>lhs;whnf
 . assumption
|apply zF
 . conv=>lhs;whnf
 . assumption
|exact (k1 ‹_›).elim
|exact (k2 ‹_›).elim
|refine zA ?_
|refine zB ?_
|refine zH ?_
|refine zW ?_
|apply aw_1
 conv=>whnf
 refine ⟨?_,trivial⟩
|apply s_1
 conv=>whnf;arg 1;arg 4;arg 3;whnf
 refine ⟨?_,?_⟩
|apply zAN (by kernel_rfl) (by kernel_rfl)
|apply zBl
|apply zDS rfl rfl
 . conv=>lhs;whnf
 . conv=>lhs;whnf
 . first | exact bF1 ‹_› | exact bF2 ‹_›
|apply zBk rfl
 . conv=>lhs;whnf
 . conv=>lhs;whnf;arg 2;whnf
|apply zAl rfl
 . conv=>lhs;whnf
 . conv=>lhs;whnf
 . first | rfl | assumption
 . conv=>lhs;whnf;arg 2;whnf
|apply zAq rfl
 . conv=>lhs;whnf
 . conv=>lhs;whnf
 . first | rfl | assumption
 . conv=>lhs;whnf
 . first | exact h1 | exact h2 | exact h3
|apply zBO rfl
 . conv=>lhs;whnf
 . conv=>lhs;whnf
 . conv=>lhs;whnf;arg 2;whnf
|exact zn
|exact ([]:List Nat)
|exact (1000000:Nat)
|exact trivial
|intro hg)
   all_goals first
    |exact zR (by omega)
    |exact zr hi
    |exact zI (j':=j-1) (by omega) ⟨i+1,by omega,Sub.live ⟨rfl,rfl,rfl,trivial⟩ trivial⟩
    |kernel_rfl
 . have f1:decide ((i:Int)<(l.length:Nat))=false:=decide_eq_false (by omega)
   repeat' (first
|apply zF
 . conv=>lhs;whnf
 . assumption
|refine zA ?_
|refine zB ?_
|refine zH ?_
|apply aw_1
 conv=>whnf
 refine ⟨?_,trivial⟩
|apply s_1
 conv=>whnf;arg 1;arg 4;arg 3;whnf
 refine ⟨?_,?_⟩
|refine zL ?_
|refine zJ rfl ?_
|refine zK ?_
|refine zE ?_
|refine ⟨_,by conv=>lhs;whnf;arg 2;whnf,?_⟩;conv=>rhs;whnf
|exact trivial)
noncomputable def HuF (d:D) (i:Nat):Vst 145:=stS 145 [(2,.bx 2 0),(3,.bx 3 0),(5,.c (.int .i64 (i:Int)))] [(2,.box 45 (cellsV Tryz.prog 12 45 d)),(3,.box 45 (cellsV Tryz.prog 12 45 d))]
noncomputable def HuM (d:D) (i:Nat):Vst 145:=stS 145 [(2,.bx 2 0),(3,.bx 3 0),(8,.c (.int .i64 (i:Int)))] [(2,.box 45 (cellsV Tryz.prog 12 45 d)),(3,.box 45 (cellsV Tryz.prog 12 45 d))]
noncomputable def HuX (d:D) (i:Nat):Vst 145:=stS 145 [(2,.bx 2 0),(3,.bx 3 0),(5,.c (.int .i64 (i:Int))),(6,.bx 6 0),(7,.bx 7 0)] [(2,.box 45 (cellsV Tryz.prog 12 45 d)),(3,.box 45 (cellsV Tryz.prog 12 45 d)),(6,.box 50 (cellsV Tryz.prog 12 50 (gD (d.f 4).l i))),(7,.box 50 (cellsV Tryz.prog 12 50 (gD (d.f 4).l i)))]
theorem defE_ac (d:D):AC EN5 Tryz.prog 31 [.agg (cellsV Tryz.prog 12 45 d),.agg (cellsV Tryz.prog 12 45 d)] (.c (.bool true)):=by
 refine zA1 2 (by kernel_rfl) fun hL => ?_
 have hL:=len_def hL
 have hl4:(d.f 4).l.length<=9223372036854775807:=hL.1
 have hl5:(d.f 5).l.length<=9223372036854775807:=hL.2
 have k1:=eqn_k (d.f 0).n
 have k2:=eqs_k (d.f 1).s
 have k3:=eqt_k
 have k4:=eqn_k ((d.f 4).l.length:Int)
 have k5:=eqn_k ((d.f 5).l.length:Int)
 have h1:=textsE_ac (d.f 2).l
 have h2:=zEi (d.f 3).l
 have h3:=zGU (d.f 6).l
 have f3:=eqt_f
 refine zM 145 Tryz.func31 rfl rfl rfl rfl ?_
 intro s w he
 repeat' (first
|apply zF
 . conv=>lhs;whnf
 . assumption
|exact (k1 ‹_›).elim
|exact (k2 ‹_›).elim
|exact (k4 ‹_›).elim
|exact (k5 ‹_›).elim
|refine zA ?_
|refine zB ?_
|refine zH ?_
|apply aw_1
 conv=>whnf
 refine ⟨?_,trivial⟩
|apply zO rfl rfl
 . conv=>lhs;whnf
 . conv=>lhs;whnf
 . first | exact bF1 ‹_› | exact bF2 ‹_›
|apply s_1
 conv=>whnf;arg 1;arg 4;arg 3;whnf
 refine ⟨?_,?_⟩
|apply zAF rfl rfl rfl rfl
 . conv=>lhs;whnf;arg 1;whnf
 . rfl
|apply zD rfl
 . conv=>lhs;whnf
 . conv=>lhs;whnf
 . first | rfl | assumption
 . conv=>lhs;whnf;arg 2;whnf
|apply zX rfl
 . conv=>lhs;whnf
 . conv=>lhs;whnf
 . first | rfl | assumption
 . conv=>lhs;whnf
 . first | exact h1 | exact h2 | exact h3
|apply zC rfl
 . conv=>lhs;whnf
 . conv=>lhs;whnf
 . conv=>lhs;whnf;arg 2;whnf
|exact trivial
|intro hg)
 clear h1 h2 h3 k1 k2 k4 k5
 refine zf (fun j st => ∃ i,i+j=(d.f 4).l.length/\Sub (cx EN5 Tryz.prog s w he) st (HuF d i)) (d.f 4).l.length ⟨0,by omega,Sub.live ⟨rfl,rfl,rfl,trivial⟩ ⟨rfl,rfl,trivial⟩⟩ ?_
 rintro j st ⟨i,hij,hs2⟩
 refine zi hs2 ?_
 clear hs2
 by_cases hi:i<(d.f 4).l.length
 . have g1:decide ((i:Int)<((d.f 4).l.length:Nat))=true:=decide_eq_true (by omega)
   have k1:=eqs_k ((gD (d.f 4).l i).f 0).s
   have h1:=zGU ((gD (d.f 4).l i).f 1).l
   have h2:=refU_ac ((gD (d.f 4).l i).f 2)
   have h4:=zEi ((gD (d.f 4).l i).f 3).l
   repeat' (first
|apply aw_drawA ([(1,[2]),(6,[3])]) ([(10,[6]),(11,[7]),(12,[6]),(13,[7])]) ([(10,6),(11,7)]) rfl (by kernel_rfl) (by kernel_rfl) (by kernel_rfl) (by intro p hp;simp only [List.mem_cons,List.not_mem_nil,or_false] at hp;rcases hp with rfl | rfl<;>(repeat' (first | exact fresh_S rfl | refine fresh_put ?_ rfl | refine fresh_res ?_ rfl rfl)))
|apply h_nil
|apply h_alloc rfl rfl rfl rfl
 . conv=>lhs;whnf;arg 1;whnf
 . rfl
 . rfl
 . kernel_rfl
|apply h_val rfl
 . conv=>lhs;whnf
 . conv=>lhs;whnf;arg 2;whnf
 . kernel_rfl
|apply h_store rfl rfl rfl
 . conv=>lhs;whnf
 . rfl
 . conv=>lhs;whnf;arg 1;whnf
 . conv=>lhs;whnf;arg 1;whnf
 . exact ⟨by kernel_rfl,by kernel_rfl⟩
 . rfl
 . kernel_rfl
|show inO _ _=true;rfl
|apply zG
 . conv=>lhs;whnf
 . assumption
|apply zF
 . conv=>lhs;whnf
 . assumption
|exact (k1 ‹_›).elim
|apply zq 7 (HuX d i) rfl
|refine zBw ?_
|refine zA ?_
|refine zB ?_
|refine zH ?_
|refine zW ?_
|apply aw_1
 conv=>whnf
 refine ⟨?_,trivial⟩
|apply zO rfl rfl
 . conv=>lhs;whnf
 . conv=>lhs;whnf
 . first | exact bF1 ‹_› | exact bF2 ‹_›
|apply s_1
 conv=>whnf;arg 1;arg 4;arg 3;whnf
 refine ⟨?_,?_⟩
|apply zD rfl
 . conv=>lhs;whnf
 . conv=>lhs;whnf
 . first | rfl | assumption
 . conv=>lhs;whnf;arg 2;whnf
|apply zX rfl
 . conv=>lhs;whnf
 . conv=>lhs;whnf
 . first | rfl | assumption
 . conv=>lhs;whnf
 . first | exact h1 | exact h2 | exact h4
|apply zC rfl
 . conv=>lhs;whnf
 . conv=>lhs;whnf
 . conv=>lhs;whnf;arg 2;whnf
|exact trivial
|intro hg)
   all_goals first
    |exact zR (by omega)
    |exact zr hi
    |exact Sub.live ⟨rfl,rfl,rfl,rfl,rfl,trivial⟩ ⟨rfl,rfl,rfl,rfl,trivial⟩
    |exact zI (j':=j-1) (by omega) ⟨i+1,by omega,Sub.live ⟨rfl,rfl,rfl,trivial⟩ ⟨rfl,rfl,trivial⟩⟩
    |skip
 . have g1:decide ((i:Int)<((d.f 4).l.length:Nat))=false:=decide_eq_false (by omega)
   repeat' (first
|apply zF
 . conv=>lhs;whnf
 . assumption
|refine zA ?_
|refine zB ?_
|refine zH ?_
|apply aw_1
 conv=>whnf
 refine ⟨?_,trivial⟩
|apply s_1
 conv=>whnf;arg 1;arg 4;arg 3;whnf
 refine ⟨?_,?_⟩
|refine zL ?_
|refine zJ rfl ?_
|refine zK ?_
|exact trivial)
   refine zf (fun j st => ∃ i,i+j=(d.f 5).l.length/\Sub (cx EN5 Tryz.prog s w he) st (HuM d i)) (d.f 5).l.length ⟨0,by omega,Sub.live ⟨rfl,rfl,rfl,trivial⟩ ⟨rfl,rfl,trivial⟩⟩ ?_
   rintro j st ⟨i,hij,hs2⟩
   refine zi hs2 ?_
   clear hs2
   by_cases hi:i<(d.f 5).l.length
   . have g1:decide ((i:Int)<((d.f 5).l.length:Nat))=true:=decide_eq_true (by omega)
     have k1:=eqs_k ((gD (d.f 5).l i).f 0).s
     have h4:=zEi ((gD (d.f 5).l i).f 1).l
     repeat' (first
|apply zG
 . conv=>lhs;whnf
 . assumption
|apply zF
 . conv=>lhs;whnf
 . assumption
|exact (k1 ‹_›).elim
|refine zA ?_
|refine zB ?_
|refine zH ?_
|refine zW ?_
|apply aw_1
 conv=>whnf
 refine ⟨?_,trivial⟩
|apply s_1
 conv=>whnf;arg 1;arg 4;arg 3;whnf
 refine ⟨?_,?_⟩
|apply zAN (by kernel_rfl) (by kernel_rfl)
|apply zBl
|apply zDS rfl rfl
 . conv=>lhs;whnf
 . conv=>lhs;whnf
 . first | exact bF1 ‹_› | exact bF2 ‹_›
|apply zBk rfl
 . conv=>lhs;whnf
 . conv=>lhs;whnf;arg 2;whnf
|apply zAl rfl
 . conv=>lhs;whnf
 . conv=>lhs;whnf
 . first | rfl | assumption
 . conv=>lhs;whnf;arg 2;whnf
|apply zAq rfl
 . conv=>lhs;whnf
 . conv=>lhs;whnf
 . first | rfl | assumption
 . conv=>lhs;whnf
 . first | exact h4
|apply zBO rfl
 . conv=>lhs;whnf
 . conv=>lhs;whnf
 . conv=>lhs;whnf;arg 2;whnf
|exact zn
|exact zv
|exact ([]:List Nat)
|exact (1000000:Nat)
|exact trivial
|intro hg)
     all_goals first
      |exact zR (by omega)
      |exact zr hi
      |exact zI (j':=j-1) (by omega) ⟨i+1,by omega,Sub.live ⟨rfl,rfl,rfl,trivial⟩ ⟨rfl,rfl,trivial⟩⟩
      |skip
   . have g1:decide ((i:Int)<((d.f 5).l.length:Nat))=false:=decide_eq_false (by omega)
     repeat' (first
|apply zF
 . conv=>lhs;whnf
 . assumption
|refine zA ?_
|refine zB ?_
|refine zH ?_
|apply aw_1
 conv=>whnf
 refine ⟨?_,trivial⟩
|apply s_1
 conv=>whnf;arg 1;arg 4;arg 3;whnf
 refine ⟨?_,?_⟩
|refine zL ?_
|refine zJ rfl ?_
|refine zK ?_
|refine zE ?_
|refine ⟨_,by conv=>lhs;whnf;arg 2;whnf,?_⟩;conv=>rhs;whnf
|exact trivial)
noncomputable def HuQ (d:D) (i:Nat):Vst 32:=stS 32 [(2,.bx 2 0),(3,.bx 3 0),(5,.c (.int .i64 (i:Int)))] [(2,.box 25 (cellsV Tryz.prog 12 25 d)),(3,.box 25 (cellsV Tryz.prog 12 25 d))]
theorem zFV (d:D):AC EN5 Tryz.prog 12 [.agg (cellsV Tryz.prog 12 25 d),.agg (cellsV Tryz.prog 12 25 d)] (.c (.bool true)):=by
 refine zA1 2 (by kernel_rfl) fun hL => ?_
 have hl:(d.f 0).l.length<=9223372036854775807:=zHQ hL
 have f0:=eqn_f ((d.f 0).l.length:Int)
 refine zM 32 Tryz.func12 rfl rfl rfl rfl ?_
 intro s w he
 repeat' (first
|apply zF
 . conv=>lhs;whnf
 . assumption
|refine zA ?_
|refine zB ?_
|refine zH ?_
|apply aw_1
 conv=>whnf
 refine ⟨?_,trivial⟩
|apply s_1
 conv=>whnf;arg 1;arg 4;arg 3;whnf
 refine ⟨?_,?_⟩
|apply zAF rfl rfl rfl rfl
 . conv=>lhs;whnf;arg 1;whnf
 . rfl
|exact trivial)
 refine zf (fun j st => ∃ i,i+j=(d.f 0).l.length/\Sub (cx EN5 Tryz.prog s w he) st (HuQ d i)) (d.f 0).l.length ⟨0,by omega,Sub.live ⟨rfl,rfl,rfl,trivial⟩ ⟨rfl,rfl,trivial⟩⟩ ?_
 rintro j st ⟨i,hij,hs2⟩
 refine zi hs2 ?_
 clear hs2
 by_cases hi:i<(d.f 0).l.length
 . have g1:decide ((i:Int)<((d.f 0).l.length:Nat))=true:=decide_eq_true (by omega)
   have h1:=defE_ac (gD (d.f 0).l i)
   have f3:=eqt_f
   repeat' (first
|apply zG
 . conv=>lhs;whnf
 . assumption
|apply zF
 . conv=>lhs;whnf
 . assumption
|refine zA ?_
|refine zB ?_
|refine zH ?_
|refine zW ?_
|apply aw_1
 conv=>whnf
 refine ⟨?_,trivial⟩
|apply s_1
 conv=>whnf;arg 1;arg 4;arg 3;whnf
 refine ⟨?_,?_⟩
|apply zAN (by kernel_rfl) (by kernel_rfl)
|apply zBl
|apply zBk rfl
 . conv=>lhs;whnf
 . conv=>lhs;whnf;arg 2;whnf
|apply zF1 rfl
 . conv=>lhs;whnf
 . conv=>lhs;whnf
 . first | exact h1
|exact zn
|exact zv
|exact (1000000:Nat)
|exact trivial)
   all_goals first
    |exact zR (by omega)
    |exact zr hi
    |exact zI (j':=j-1) (by omega) ⟨i+1,by omega,Sub.live ⟨rfl,rfl,rfl,trivial⟩ ⟨rfl,rfl,trivial⟩⟩
    |skip
 . have g1:decide ((i:Int)<((d.f 0).l.length:Nat))=false:=decide_eq_false (by omega)
   repeat' (first
|apply zF
 . conv=>lhs;whnf
 . assumption
|refine zA ?_
|refine zB ?_
|refine zH ?_
|apply aw_1
 conv=>whnf
 refine ⟨?_,trivial⟩
|apply s_1
 conv=>whnf;arg 1;arg 4;arg 3;whnf
 refine ⟨?_,?_⟩
|refine zL ?_
|refine zJ rfl ?_
|refine zK ?_
|refine zE ?_
|refine ⟨_,by conv=>lhs;whnf;arg 2;whnf,?_⟩;conv=>rhs;whnf
|exact trivial)
end
section
theorem zDZ : ∀ (b:Bool) (l r:List UInt8),skipM b l=l.length->skipM b (l++10::r)=l.length+1+skipM false r
 |false,[],r,_=>by
  show skipM false (10::r)=_
  rw [skipM,if_pos (show sepB 10=true from rfl),List.length_nil];omega
 |true,[],r,_=>by
  show skipM true (10::r)=_
  rw [skipM,if_pos (show ((10:UInt8)==10||(10:UInt8)==13)=true from rfl),List.length_nil];omega
 |false,c::l,r,h=>by
  rw [skipM] at h
  rw [List.cons_append,skipM]
  split at h
  . rename_i hc
    rw [if_pos hc,zDZ false l r (by simpa using h),List.length_cons];omega
  . rename_i hc
    rw [if_neg hc]
    split at h
    . rename_i hd
      rw [if_pos hd,zDZ true l r (by simpa using h),List.length_cons];omega
    . simp at h
 |true,c::l,r,h=>by
  rw [skipM] at h
  rw [List.cons_append,skipM]
  split at h
  . rename_i hc
    rw [if_pos hc,zDZ false l r (by simpa using h),List.length_cons];omega
  . rename_i hc
    rw [if_neg hc,zDZ true l r (by simpa using h),List.length_cons];omega
theorem zCV : ∀ (b:Bool) (l r:List UInt8),skipM b l<l.length->skipM b (l++r)=skipM b l
 |b,[],r,h=>by cases b<;>simp [skipM] at h
 |false,c::l,r,h=>by
  rw [skipM] at h |-
  rw [List.cons_append,skipM]
  split at h
  . rename_i hc
    rw [if_pos hc,if_pos hc,zCV false l r (by simpa using h)]
  . rename_i hc
    rw [if_neg hc,if_neg hc]
    split at h
    . rename_i hd
      rw [if_pos hd,if_pos hd,zCV true l r (by simpa using h)]
    . rename_i hd
      rw [if_neg hd,if_neg hd]
 |true,c::l,r,h=>by
  rw [skipM] at h |-
  rw [List.cons_append,skipM]
  split at h
  . rename_i hc
    rw [if_pos hc,if_pos hc,zCV false l r (by simpa using h)]
  . rename_i hc
    rw [if_neg hc,if_neg hc,zCV true l r (by simpa using h)]
theorem zH8 {p:UInt8->Bool} {x:List UInt8} (hx : ∀ c,x.head? = some c->p c=false) : ∀ l:List UInt8,spanN p (l++x)=spanN p l
 |[]=>by
  cases x with
  |nil=>rfl
  |cons c r=>show spanN p (c::r)=0;rw [spanN,if_neg (by rw [hx c rfl];decide)]
 |c::l=>by
  rw [List.cons_append,spanN,spanN,zH8 hx l]
theorem zEu {l x:List UInt8} {n:Nat} (h:n<=l.length):(l++x).take n=l.take n:=by
 rw [List.take_append_of_le_length h]
theorem zHO : ∀ (l x:List UInt8) (n:Nat),litN l=some n->litN (l++x)=some n
 |[],_,_,h=>by simp [litN] at h
 |[c],x,n,h=>by
  unfold litN at h
  split at h
  . rename_i hc
    cases h
    cases x with
    |nil=>show litN [c]=_;unfold litN;rw [if_pos hc]
    |cons d r=>show litN (c::d::r)=_;rw [litN,if_pos hc]
  . cases h
 |c::d::r,x,n,h=>by
  rw [litN] at h
  show litN (c::d::(r++x))=_
  rw [litN]
  split at h
  . rename_i hc
    rw [if_pos hc,h]
  . rename_i hc
    rw [if_neg hc]
    split at h
    . rename_i hd
      obtain ⟨m,hm,rfl⟩:=Option.map_eq_some_iff.1 h
      rw [if_pos hd,zHO r x m hm];rfl
    . rename_i hd
      obtain ⟨m,hm,rfl⟩:=Option.map_eq_some_iff.1 h
      have:=zHO (d::r) x m hm
      rw [if_neg hd]
      rw [List.cons_append] at this
      rw [this];rfl
theorem readU_part {l x:List UInt8} {k:Int} {s:List UInt8} {n:Nat} (hx:bnd x) (h:readU l = .ok (k,s,n)):readU (l++x) = .ok (k,s,n):=by
 cases l with
 |nil=>cases h
 |cons c r =>
  have hsp:=zH8 (p:=wrdU) hx r
  have htk:(r++x).take (spanN wrdU r)=r.take (spanN wrdU r):=zEu (zAa wrdU r)
  unfold readU at h
  dsimp only at h
  show readU (c::(r++x))=_
  unfold readU
  dsimp only
  rw [hsp,htk]
  split at h
  . rename_i h1;rw [if_pos h1,h]
  rename_i h1;rw [if_neg h1]
  split at h
  . rename_i h2
    rw [if_pos h2]
    split at h
    . rename_i h3
      have:(r.take 2).length=2:=by rw [h3];rfl
      rw [List.length_take] at this
      rw [zEu (by omega),if_pos h3,h]
    . cases h
  rename_i h2;rw [if_neg h2]
  split at h
  . rename_i h3
    rw [if_pos h3,h]
  rename_i h3;rw [if_neg h3]
  split at h
  . rename_i h4
    rw [if_pos h4,h]
  rename_i h4;rw [if_neg h4]
  split at h
  . rename_i h5
    rw [if_pos h5]
    cases hl:litN r with
    |none=>rw [hl] at h;cases h
    |some m =>
     rw [hl] at h
     rw [zHO r x m hl]
     dsimp only at h |-
     rw [zEu (zD4 r m hl).2,h]
  . cases h
theorem Lex.join {l:List UInt8} {ks:List (Int × List UInt8)} (h:Lex l ks) : ∀ {r:List UInt8} {kr:List (Int × List UInt8)},Lex r kr->Lex (l++10::r) (ks++kr):=by
 induction h with
 |done h =>
  rename_i l
  intro r kr hr
  have h1:skipM false l=l.length:=by
   have:=zAb false l
   have h2:=congrArg List.length h
   rw [List.length_drop,List.length_nil] at h2
   omega
  have e:(l++10::r).drop (skipM false (l++10::r))=r.drop (skipM false r):=by
   rw [zDZ false l r h1,<- List.drop_drop,show l.length+1=(l++[10]).length by simp,show l++10::r=(l++[10])++r by simp,List.drop_left]
  cases hr with
  |done h=>exact .done (by rw [e];exact h)
  |tok h ht hr=>exact .tok (by rw [e];exact h) ht hr
 |tok h ht hr ih =>
  rename_i l c r0 k s n ks
  intro r kr hk
  have hlen:=congrArg List.length h
  rw [List.length_drop,List.length_cons] at hlen
  have hn:=zBK ht
  refine .tok (c:=c) (r:=r0++10::r) (n:=n) ?_ (readU_part (l:=c::r0) (zHr rfl) ht) ?_
  . rw [zCV false l _ (by omega),List.drop_append_of_le_length (by omega),h];rfl
  . have:=ih hk
    rw [show (c::(r0++10::r))=(c::r0)++10::r from rfl,List.drop_append_of_le_length hn.2.1]
    exact this
structure XN (M:Prop) (V:Bool) (T:Tok->Tok->Prop) (x x':PS):Prop where
 ts:All2 T x.ts x'.ts
 vr:x.vr=V
 vr':x'.vr=V
 nd:M->x.nd=x'.nd
def RN (M:Prop) (V:Bool) (T:Tok->Tok->Prop) (I:Nat->Nat->Prop) {α:Type}:PR α->PR α->Prop
 |.ok (a,x),.ok (a',x')=>a=a'/\XN M V T x x'
 |.error e,.error e'=>I e.1 e'.1/\e.2=e'.2
 |_,_=>False
section
variable {M:Prop} {V W:Bool} {T:Tok->Tok->Prop} {I:Nat->Nat->Prop} {α β:Type}
theorem XN.hd (hT:TR T I) {x x':PS} (h:XN M V T x x'):(hdT x').k=(hdT x).k/\(hdT x').s=(hdT x).s/\I (hdT x).i (hdT x').i:=by
 obtain ⟨h1,-,-,-⟩:=h
 unfold hdT
 generalize x.ts=a at h1
 generalize x'.ts=b at h1
 cases h1 with
 |nil=>exact ⟨rfl,rfl,hT.z⟩
 |cons h2 h3=>exact ⟨(hT.k h2).symm,(hT.s h2).symm,hT.i h2⟩
theorem XN.isS (hT:TR T I) {x x':PS} (h:XN M V T x x') (s:List UInt8):isS x' s=isS x s:=by
 obtain ⟨h1,h2,-⟩:=h.hd hT
 unfold Go.Proofs.YthppafnlnnpciaaGreatDoor.isS
 rw [h1,h2]
theorem XN.nx (hT:TR T I) {x x':PS} (h:XN M V T x x'):XN M V T (nxT x) (nxT x'):=by
 obtain ⟨h1,-,-⟩:=h.hd hT
 unfold nxT
 rw [h1]
 split
 . exact h
 . exact ⟨zJK h.ts 1,h.vr,h.vr',h.nd⟩
theorem XN.len {x x':PS} (h:XN M V T x x'):x'.ts.length=x.ts.length:=(zDQ h.ts).symm
theorem RN.err (hT:TR T I) {x x':PS} (h:XN M V T x x') (e:Int):RN M V T I (α:=α) (.error ((hdT x).i,e)) (.error ((hdT x').i,e)):=⟨(h.hd hT).2.2,rfl⟩
theorem RN.okk {x x':PS} (h:XN M V T x x') (a:α):RN M V T I (.ok (a,x)) (.ok (a,x')):=⟨rfl,h⟩
theorem RN.ite {c:Prop} [Decidable c] {a b a' b':PR α} (h1:c->RN M V T I a a') (h2 : ¬ c->RN M V T I b b'):RN M V T I (if c then a else b) (if c then a' else b'):=by
 split
 . rename_i h;exact h1 h
 . rename_i h;exact h2 h
theorem RN.then {r r':PR α} {f f':α->PS->PR β} (h:RN M V T I r r') (hf : ∀ a x x',XN M V T x x'->RN M W T I (f a x) (f' a x')):RN M W T I (zb r f) (zb r' f'):=by
 unfold zb
 cases r with
 |error e=>cases r' with | error e'=>exact h | ok a'=>exact h.elim
 |ok a =>
  cases r' with
  |error e'=>exact h.elim
  |ok a' =>
   obtain ⟨a,x⟩:=a
   obtain ⟨a',x'⟩:=a'
   obtain ⟨rfl,hx⟩:=h
   exact hf _ _ _ hx
theorem RN.weak {r r':PR α} (h:RN True V T I r r'):RN M V T I r r':=by
 cases r with
 |error e=>cases r' with | error e'=>exact h | ok a'=>exact h.elim
 |ok a =>
  cases r' with
  |error e'=>exact h.elim
  |ok a'=>exact ⟨h.1,h.2.ts,h.2.vr,h.2.vr',fun _=>h.2.nd trivial⟩
variable (hT:TR T I)
include hT
theorem zDI {x x':PS} (h:XN M V T x x') (s:List UInt8):RN M V T I (takeQ s x) (takeQ s x'):=by
 unfold takeQ
 rw [h.isS hT]
 exact .ite (fun _ => .okk (h.nx hT) _) fun _ => .err hT h _
theorem zBo {x x':PS} (h:XN M V T x x'):RN M V T I (nameQ x) (nameQ x'):=by
 unfold nameQ
 rw [(h.hd hT).1,(h.hd hT).2.1]
 exact .ite (fun _ => .okk (h.nx hT) _) fun _ => .err hT h _
theorem open_rn : ∀ (f:Nat) {x x':PS},XN M V T x x'->(openQ f x').1=(openQ f x).1/\XN M V T (openQ f x).2 (openQ f x').2
 |0,_,_,h=>⟨rfl,h⟩
 |f+1,x,x',h=>by
  unfold openQ
  rw [h.isS hT]
  split
  . obtain ⟨h1,h2⟩:=open_rn f (h.nx hT)
    exact ⟨by simp [h1],h2⟩
  . exact ⟨rfl,h⟩
theorem zLU : ∀ (n:Nat) (w:List Int) {x x':PS},XN M V T x x'->RN M V T I (closeQ n w x) (closeQ n w x')
 |0,w,x,x',h=>by
  unfold closeQ
  rw [h.isS hT]
  split
  . exact .okk (h.nx hT) _
  . exact .okk h _
 |n+1,w,x,x',h=>by
  unfold closeQ
  rw [h.isS hT]
  refine .then (zDI hT ?_ _) fun _ y y' hy=>zLU n _ hy
  split
  . exact h.nx hT
  . exact h
theorem inner_rn {x x':PS} (h:XN M V T x x'):RN M V T I (zAh x) (zAh x'):=by
 unfold zAh
 rw [h.len]
 obtain ⟨h1,h2⟩:=open_rn hT x.ts.length h
 rw [h1]
 exact .then (zBo hT h2) fun _ _ _ hy => .then (zLU hT _ _ hy) fun _ _ _ hz => .okk hz _
theorem typ_rn {x x':PS} (h:XN M V T x x'):RN M V T I (typQ x) (typQ x'):=
 .then (inner_rn hT h) fun _ _ _ hy => .ite (fun _ => .err hT h _) fun _ => .okk hy _
theorem zKw {v:PS->PR D} (hv : ∀ {x x':PS},XN M V T x x'->RN M V T I (v x) (v x')) : ∀ (f:Nat) (acc:List D) {x x':PS},XN M V T x x'->RN M V T I (itemsQ v f acc x) (itemsQ v f acc x')
 |0,_,_,_,h => .err hT h _
 |f+1,acc,x,x',h=>by
  unfold itemsQ
  rw [h.isS hT]
  exact .ite (fun _ => .okk (h.nx hT) _) fun _ => .then (hv h) fun _ _ _ hy=>zKw hv f _ hy
theorem zI3 {v:PS->PR D} (hv : ∀ {x x':PS},XN M V T x x'->RN M V T I (v x) (v x')) : ∀ (f:Nat) (ks:List (List UInt8)) (acc:List D) {x x':PS},XN M V T x x'->RN M V T I (zu v f ks acc x) (zu v f ks acc x')
 |0,_,_,_,_,h => .err hT h _
 |f+1,ks,acc,x,x',h=>by
  unfold zu
  rw [h.isS hT]
  exact .ite (fun _ => .okk (h.nx hT) _) fun _ => .then (zBo hT h) fun k _ _ hy => .ite (fun _ => .err hT h _) fun _ => .then (zDI hT hy _) fun _ _ _ hz => .then (hv hz) fun _ _ _ hu=>zI3 hv f _ _ hu
theorem noVal_rn {x x':PS} (h:XN M V T x x'):zBU x'=zBU x:=by
 unfold zBU
 rw [(h.hd hT).1,h.isS hT,h.isS hT,h.isS hT,h.vr,h.vr']
theorem zGj (hM:M) : ∀ (f lv:Nat) {x x':PS},XN M V T x x'->RN M V T I (valueQ f lv x) (valueQ f lv x')
 |0,_,_,_,h => .err hT h _
 |f+1,lv,x,x',h=>by
  have hy:XN M V T { nxT x with nd:=x.nd+1 } { nxT x' with nd:=x'.nd+1 }:=⟨(h.nx hT).ts,(h.nx hT).vr,(h.nx hT).vr',fun _=>by show x.nd+1=x'.nd+1;rw [h.nd hM]⟩
  unfold valueQ
  rw [noVal_rn hT h,<- h.nd hM,(h.hd hT).1,(h.hd hT).2.1]
  rw [<- h.nd hM] at hy
  refine .ite (fun _ => .err hT h _) fun _ => .ite (fun _ => .err hT h _) fun _ => .ite (fun _ => .err hT h _) fun _ => ?_
  dsimp only
  refine .ite (fun _ => .okk hy _) fun _ => .ite (fun _ => .okk hy _) fun _ => .ite (fun _ => .okk hy _) fun _ => .ite (fun _ => .then (zBo hT hy) fun _ _ _ hz => .okk hz _) fun _ => .ite (fun _ => ?_) fun _ => ?_
  . have e:(nxT x').ts.length=(nxT x).ts.length:=(h.nx hT).len
    rw [e]
    exact .then (zKw hT (fun h=>zGj hM f (lv+1) h) _ _ hy) fun _ _ _ hz => .okk hz _
  . have e:(nxT x').ts.length=(nxT x).ts.length:=(h.nx hT).len
    rw [e]
    exact .then (zI3 hT (fun h=>zGj hM f (lv+1) h) _ _ _ hy) fun _ _ _ hz => .okk hz _
theorem zKB {x x':PS} (h:XN M V T x x'):RN M V T I (zAO x) (zAO x'):=.weak (zGj hT (M:=True) trivial 25 1 ⟨h.ts,h.vr,h.vr',fun _=>rfl⟩)
theorem zLd : ∀ (f:Nat) (acc:List D) {x x':PS},XN M V T x x'->RN M V T I (zC6 f acc x) (zC6 f acc x')
 |0,_,_,_,h => .err hT h _
 |f+1,acc,x,x',h=>by
  unfold zC6
  rw [h.isS hT,(h.hd hT).1]
  exact .ite (fun _ => .okk (h.nx hT) _) fun _ => .ite (fun _ => .err hT h _) fun _ => .then (zBo hT h) fun _ _ _ hy => .then (zDI hT hy _) fun _ _ _ hz => .then (zKB hT hz) fun _ _ _ hu=>zLd f _ hu
theorem args_rn {x x':PS} (h:XN M V T x x'):RN M V T I (zBc x) (zBc x'):=by
 unfold zBc
 rw [h.isS hT,h.len]
 exact .ite (fun _=>zLd hT _ _ (h.nx hT)) fun _ => .okk h _
theorem zLI : ∀ (f:Nat) (acc:List D) {x x':PS},XN M V T x x'->RN M V T I (dirsF f acc x) (dirsF f acc x')
 |0,_,_,_,h => .err hT h _
 |f+1,acc,x,x',h=>by
  unfold dirsF
  rw [h.isS hT]
  exact .ite (fun _ => .ite (fun _ => .err hT h _) fun _ => .then (zBo hT (h.nx hT)) fun _ _ _ hy => .then (args_rn hT hy) fun _ _ _ hz=>zLI f _ hz) fun _ => .okk h _
theorem zHj {x x':PS} (h:XN M V T x x'):RN M V T I (zAQ x) (zAQ x'):=by
 unfold zAQ
 rw [h.len]
 exact zLI hT _ _ h
end
end
section
section
variable {M:Prop} {V:Bool} {T:Tok->Tok->Prop} {I:Nat->Nat->Prop} (hT:TR T I)
include hT
theorem zHK {el:PS->PR D} (hv : ∀ {x x':PS},XN M V T x x'->RN M V T I (el x) (el x')) (s:List UInt8) (most:Nat) : ∀ (f:Nat) (acc:List D) {x x':PS},XN M V T x x'->RN M V T I (manyF el s most f acc x) (manyF el s most f acc x')
 |0,_,_,_,h => .err hT h _
 |f+1,acc,x,x',h=>by
  unfold manyF
  rw [h.isS hT,(h.hd hT).1]
  exact .ite (fun _ => .okk (h.nx hT) _) fun _ => .ite (fun _ => .err hT h _) fun _ => .then (hv h) fun _ _ _ hy=>zHK hv s most f _ hy
theorem in_rn {x x':PS} (h:XN M V T x x'):RN M V T I (inQ x) (inQ x'):=by
 unfold inQ
 refine .then (zBo hT h) fun _ _ _ hy => .then (zDI hT hy _) fun _ _ _ hz => .then (typ_rn hT hz) fun _ u u' hu => ?_
 rw [hu.isS hT]
 exact .then (.ite (fun _ => .then (zKB hT (hu.nx hT)) fun _ _ _ ho => .okk ho _) fun _ => .okk hu _) fun _ _ _ hv => .then (zHj hT hv) fun _ _ _ hw => .okk hw _
theorem ins_rn (s:List UInt8) {x x':PS} (h:XN M V T x x'):RN M V T I (insQ s x) (insQ s x'):=by
 unfold insQ
 rw [h.len]
 exact zHK hT (in_rn hT) _ _ _ _ h
theorem fd_rn {x x':PS} (h:XN M V T x x'):RN M V T I (fdQ x) (fdQ x'):=by
 unfold fdQ
 refine .then (zBo hT h) fun _ y y' hy => ?_
 rw [hy.isS hT]
 exact .then (.ite (fun _=>ins_rn hT _ (hy.nx hT)) fun _ => .okk hy _) fun _ _ _ hz => .then (zDI hT hz _) fun _ _ _ hu => .then (typ_rn hT hu) fun _ _ _ hv => .then (zHj hT hv) fun _ _ _ hw => .okk hw _
theorem mb_rn {x x':PS} (h:XN M V T x x'):RN M V T I (mbQ x) (mbQ x'):=.then (zBo hT h) fun _ _ _ hy => .then (zHj hT hy) fun _ _ _ hz => .okk hz _
theorem fds_rn {x x':PS} (h:XN M V T x x'):RN M V T I (fdsQ x) (fdsQ x'):=by
 unfold fdsQ
 rw [h.len]
 exact zHK hT (fd_rn hT) _ _ _ _ h
theorem mbs_rn {x x':PS} (h:XN M V T x x'):RN M V T I (mbsQ x) (mbsQ x'):=by
 unfold mbsQ
 rw [h.len]
 exact zHK hT (mb_rn hT) _ _ _ _ h
theorem zIh (s:List UInt8) : ∀ (f:Nat) (acc:List D) {x x':PS},XN M V T x x'->RN M V T I (namesF s f acc x) (namesF s f acc x')
 |0,_,_,_,h => .err hT h _
 |f+1,acc,x,x',h=>by
  unfold namesF
  rw [(h.hd hT).1]
  refine .ite (fun _ => .err hT h _) fun _ => .then (zBo hT h) fun _ y y' hy => ?_
  rw [hy.isS hT]
  exact .ite (fun _=>zIh s f _ (hy.nx hT)) fun _ => .okk hy _
theorem zKi (s:List UInt8) {x x':PS} (h:XN M V T x x'):RN M V T I (zA0 s x) (zA0 s x'):=by
 unfold zA0
 rw [h.len]
 exact zIh hT s _ _ h
theorem faces_rn (k:Int) {x x':PS} (h:XN M V T x x'):RN M V T I (zAo k x) (zAo k x'):=by
 unfold zAo
 rw [(h.hd hT).1,(h.hd hT).2.1]
 exact .ite (fun _=>zKi hT _ (h.nx hT)) fun _ => .okk h _
theorem body_rn (k:Int) {x x':PS} (h:XN M V T x x'):RN M V T I (zBF k x) (zBF k x'):=by
 unfold zBF
 refine .ite (fun _ => .then (zDI hT h _) fun _ _ _ hy => .then (zKi hT _ hy) fun _ _ _ hz => .okk hz _) fun _ => .then (zDI hT h _) fun _ _ _ hy => ?_
 exact .ite (fun _ => .then (ins_rn hT _ hy) fun _ _ _ hz => .okk hz _) fun _ => .ite (fun _ => .then (mbs_rn hT hy) fun _ _ _ hz => .okk hz _) fun _ => .then (fds_rn hT hy) fun _ _ _ hz => .okk hz _
theorem sdef_rn (k:Int) {x x':PS} (h:XN M V T x x'):RN M V T I (zBQ k x) (zBQ k x'):=
 .then (zBo hT h) fun _ _ _ hy => .then (faces_rn hT k hy) fun _ _ _ hz => .then (zHj hT hz) fun _ _ _ hu => .then (body_rn hT k hu) fun _ _ _ hv => .okk hv _
theorem zGy : ∀ (f:Nat) (acc:List D) {x x':PS},XN M V T x x'->RN M V T I (sdocF f acc x) (sdocF f acc x')
 |0,_,_,_,h => .err hT h _
 |f+1,acc,x,x',h=>by
  unfold sdocF
  rw [(h.hd hT).1,(h.hd hT).2.1]
  exact .ite (fun _ => .okk h _) fun _ => .ite (fun _ => .err hT h _) fun _ => .ite (fun _ => .err hT h _) fun _ => .then (sdef_rn hT _ (h.nx hT)) fun _ _ _ hy=>zGy f _ hy
end
end
section
theorem zGD {l:List UInt8} {ts:List Tok} (h:scanT l = .ok ts) : ∃ ks a e,Lex l ks/\ts=a++[e]/\e.k=5/\bare e=endK5/\a.map bare=ks /\ ∀ t∈a,t.k≠5:=by
 obtain ⟨⟨a,e,h1,h2,-⟩,-⟩:=zE2 h
 have h1:ts=a++[e]:=h1
 unfold scanT at h
 split at h
 . cases h
 . obtain ⟨ks,h3,h4⟩:=Lex.of_scan _ _ _ _ h
   rw [h1,List.map_append] at h4
   obtain ⟨h5,h6⟩:=List.append_inj' h4 rfl
   refine ⟨ks,a,e,h3,h1,h2,(List.cons.inj h6).1,h5,fun t ht => ?_⟩
   have:=h3.kinds (bare t) (by rw [<- h5];exact List.mem_map_of_mem ht)
   exact this
theorem eqT_tr:TR (fun t t':Tok=>t=t') fun _ _=>True:=⟨fun h=>by rw [h],fun h=>by rw [h],fun _=>trivial,trivial⟩
theorem zJ7 : ∀ ts:List Tok,All2 (fun t t':Tok=>t=t') ts ts
 |[] => .nil
 |_::ts => .cons rfl (zJ7 ts)
def LN (e:Tok) (r:List Tok) {α:Type} (a:List Tok) (p p':PR α):Prop:=
 ∀ v y,p = .ok (v,y) -> ∃ b y',(∃ d,a=d++b)/\p' = .ok (v,y')/\J e r b y y'
section
variable {e:Tok} {r:List Tok} {α β:Type}
theorem LS.ln {a:List Tok} {p p':PR α} (h:LS e r a p p'):LN e r a p p':=fun v y hp=>by
 obtain ⟨b,y',⟨t,d,hd⟩,h1,h2⟩:=h v y hp
 exact ⟨b,y',⟨t::d,hd⟩,h1,h2⟩
theorem LN.okk {a:List Tok} {x x':PS} (h:J e r a x x') (v:α):LN e r a (.ok (v,x)) (.ok (v,x')):=fun w y hp=>by
 cases hp
 exact ⟨a,x',⟨[],rfl⟩,rfl,h⟩
theorem LN.mono {a b:List Tok} {p p':PR α} (h:LN e r b p p') (hab : ∃ d,a=d++b):LN e r a p p':=fun v y hp=>by
 obtain ⟨c,y',⟨d,hd⟩,h1⟩:=h v y hp
 obtain ⟨d2,hd2⟩:=hab
 exact ⟨c,y',⟨d2++d,by rw [hd2,hd,List.append_assoc]⟩,h1⟩
theorem LN.ite {a:List Tok} {c c':Prop} [Decidable c] [Decidable c'] {A A' B B':PR α} (hc:c ↔ c') (h1:c->LN e r a A A') (h2 : ¬ c->LN e r a B B'):LN e r a (if c then A else B) (if c' then A' else B'):=by
 by_cases h:c
 . rw [if_pos h,if_pos (hc.1 h)];exact h1 h
 . rw [if_neg h,if_neg fun h'=>h (hc.2 h')];exact h2 h
theorem LN.pure {a:List Tok} {p p':PR α} {g:α->β} (h:LN e r a p p'):LN e r a (zb p fun v y => .ok (g v,y)) (zb p' fun v y => .ok (g v,y)):=fun w z hp=>by
 obtain ⟨v,y,h1,h2⟩:=zAJ hp
 obtain ⟨b,y',hab,h3,h4⟩:=h v y h1
 cases h2
 exact ⟨b,y',hab,by rw [h3];rfl,h4⟩
theorem LS.pre {a:List Tok} {p p':PR α} {f f':α->PS->PR β} (h:LS e r a p p') (hf : ∀ v b y y',J e r b y y'->LN e r b (f v y) (f' v y')):LS e r a (zb p f) (zb p' f'):=fun w z hp=>by
 obtain ⟨v,y,h1,h2⟩:=zAJ hp
 obtain ⟨b,y',⟨t,d,hd⟩,h3,h4⟩:=h v y h1
 obtain ⟨c,z',⟨d2,hd2⟩,h5,h6⟩:=hf v b y y' h4 w z h2
 exact ⟨c,z',⟨t,d++d2,by rw [hd,hd2];simp⟩,by rw [h3];exact h5,h6⟩
variable (hE:Ends e r) (hN : ∃ t r',r=t::r'/\t.k=2)
include hE hN
theorem J.sgN {a:List Tok} {x x':PS} (h:J e r a x x') (s:List UInt8):isS x s=true ↔ isS x' s=true:=by
 cases a with
 |cons t a=>exact h.sg s (by simp)
 |nil =>
  obtain ⟨t,r',hr,hk⟩:=hN
  have h1:hdT x=e:=by unfold hdT;rw [h.l];rfl
  have h2:hdT x'=t:=by unfold hdT;rw [h.r,hr];rfl
  unfold isS
  rw [h1,h2,hE.k,hk]
  simp
theorem zIj (s:List UInt8) : ∀ (f g:Nat) (acc:List D) {a:List Tok} {x x':PS},f<=g->J e r a x x'->LS e r a (namesF s f acc x) (namesF s g acc x')
 |0,_,_,_,_,_,_,_ => .err
 |f+1,0,_,_,_,_,hfg,_=>by omega
 |f+1,g+1,acc,a,x,x',hfg,h=>by
  unfold namesF
  refine .ite (fun ha=>by rw [h.hd ha]) (fun _ => .err) fun _ => .pre (zAL hE h) fun _ _ y y' hy => .ite (hy.sgN hE hN s) (fun hs => ?_) fun _ => .okk hy _
  obtain ⟨t,a',rfl,h'⟩:=hy.ne_of_isS hE hs
  exact (zIj s f g _ (by omega) h').ln.mono ⟨[t],rfl⟩
theorem body_ls (k:Int) {a:List Tok} {x x':PS} (h:J e r a x x'):LS e r a (zBF k x) (zBF k x'):=by
 unfold zBF
 refine .ite (fun _=>Iff.rfl) (fun _ => .pre (zAe hE h _) fun _ _ _ _ hy => .pure (zIj hE hN _ _ _ _ (by have:=hy.len hE;omega) hy).ln) fun _ => .then (zAe hE h _).lo fun _ _ _ _ hy => ?_
 exact .ite (fun _=>Iff.rfl) (fun _ => .pure (zKz hE _ hy) fun _ _ u u' hu=>⟨_,u,u',rfl,rfl,hu⟩) fun _ => .ite (fun _=>Iff.rfl) (fun _ => .pure (mbs_ls hE hy) fun _ _ u u' hu=>⟨_,u,u',rfl,rfl,hu⟩) fun _ => .pure (fds_ls hE hy) fun _ _ u u' hu=>⟨_,u,u',rfl,rfl,hu⟩
theorem sdef_ls (k:Int) {a:List Tok} {x x':PS} (h:J e r a x x'):LS e r a (zBQ k x) (zBQ k x'):=
 .then (zAL hE h).lo fun _ _ _ _ hy => .then (zHf hE k hy) fun _ _ _ _ hz => .then (zBZ hE hz) fun _ _ _ _ hu => .pure (body_ls hE hN k hu) fun _ _ u u' hu=>⟨_,u,u',rfl,rfl,hu⟩
theorem zGC : ∀ (f:Nat) {acc acc':List D} {x x' z:PS} {a:List Tok},J e r a x x'->(∀ t∈a,t.k≠5)->sdocF f acc x = .ok (acc',z) ->
 ∃ o y',acc'=acc++o/\o.length<=a.length/\J e r [] z y' /\ ∀ (f':Nat) (acc2:List D),a.length<f'->acc2.length+o.length<=64->(acc2.length=0->acc.length=0)->sdocF f' acc2 x'=sdocF (f'-o.length) (acc2++o) y'
 |0,_,_,_,_,_,_,_,_,h=>by cases h
 |f+1,acc,acc',x,x',z,a,hJ,H,h=>by
  unfold sdocF at h
  by_cases hend:acc.length≠0/\(hdT x).k=5
  . rw [if_pos hend] at h
    cases h
    have ha:a=[]:=by
     cases a with
     |nil=>rfl
     |cons t q =>
      have:hdT x=t:=by unfold hdT;rw [hJ.l];rfl
      rw [this] at hend
      exact (H t (List.mem_cons_self ..) hend.2).elim
    subst ha
    exact ⟨[],x',by simp,by simp,hJ,fun f' acc2 _ _ _=>by simp⟩
  rw [if_neg hend] at h
  by_cases hw:(hdT x).k=2/\0<zAk (hdT x).s
  . rw [if_neg (fun hh=>hh hw)] at h
    split at h
    . cases h
    rename_i h64
    obtain ⟨d,y,h1,h2⟩:=zAJ h
    obtain ⟨t,a',rfl,hJ1⟩:=hJ.ne_of_k hE (by rw [hw.1];decide)
    have hh:=hJ.hd (by simp)
    obtain ⟨b,y1,⟨t2,d2,hd2⟩,h3,h4⟩:=sdef_ls hE hN _ hJ1 d y h1
    obtain ⟨o,y',e1,e2,e3,e4⟩:=zGC f h4 (fun t ht=>H t (by rw [hd2];simp [ht])) h2
    refine ⟨d::o,y',by rw [e1];simp,by rw [hd2];simp;omega,e3,fun f' acc2 hf' hlen h0 => ?_⟩
    obtain ⟨f'',rfl⟩ : ∃ f'',f'=f''+1:=⟨f'-1,by omega⟩
    have hb:b.length<f'':=by rw [hd2] at hf';simp at hf';omega
    simp only [List.length_cons] at hlen
    conv=>lhs;unfold sdocF
    rw [if_neg (fun hh2=>by rw [hh,hw.1] at hh2;exact absurd hh2.2 (by decide)),if_neg (fun hh2=>hh2 (by rw [hh];exact hw)),if_neg (by omega),hh,h3]
    show sdocF f'' (acc2++[d]) y1=_
    rw [e4 f'' (acc2++[d]) hb (by simp;omega) (fun h=>by simp at h),List.append_assoc]
    congr 1
    simp only [List.length_cons]
    omega
  . rw [if_pos hw] at h;cases h
end
theorem zE1 : ∀ (f:Nat) {acc acc':List D} {x z:PS},sdocF f acc x = .ok (acc',z) -> ∃ o,acc'=acc++o /\ ∀ (f':Nat) (acc2:List D),f<=f'->acc2.length≠0->acc2.length+o.length<=64->sdocF f' acc2 x = .ok (acc2++o,z)
 |0,_,_,_,_,h=>by cases h
 |f+1,acc,acc',x,z,h=>by
  unfold sdocF at h
  by_cases hend:acc.length≠0/\(hdT x).k=5
  . rw [if_pos hend] at h
    cases h
    refine ⟨[],by simp,fun f' acc2 hf h0 _ => ?_⟩
    obtain ⟨f'',rfl⟩ : ∃ f'',f'=f''+1:=⟨f'-1,by omega⟩
    unfold sdocF
    rw [if_pos ⟨h0,hend.2⟩];simp
  rw [if_neg hend] at h
  by_cases hw:(hdT x).k=2/\0<zAk (hdT x).s
  . rw [if_neg (fun hh=>hh hw)] at h
    split at h
    . cases h
    obtain ⟨d,y,h1,h2⟩:=zAJ h
    obtain ⟨o,e1,e2⟩:=zE1 f h2
    refine ⟨d::o,by rw [e1];simp,fun f' acc2 hf h0 hlen => ?_⟩
    obtain ⟨f'',rfl⟩ : ∃ f'',f'=f''+1:=⟨f'-1,by omega⟩
    simp only [List.length_cons] at hlen
    unfold sdocF
    rw [if_neg (fun hh2=>by rw [hw.1] at hh2;exact absurd hh2.2 (by decide)),if_neg (fun hh2=>hh2 hw),if_neg (by omega),h1]
    show sdocF f'' (acc2++[d]) y=_
    rw [e2 f'' (acc2++[d]) (by omega) (by simp) (by simp;omega),List.append_assoc]
    rfl
  . rw [if_pos hw] at h;cases h
theorem sdocF_vr {f:Nat} {acc:List D} {x z:PS} {q:List D} (hv:x.vr=false) (h:sdocF f acc x = .ok (q,z)):z.vr=false:=by
 have hr:=zGy (M:=False) eqT_tr f acc (x:=x) (x':=x) ⟨zJ7 _,hv,hv,fun h=>h.elim⟩
 rw [h] at hr
 exact hr.2.vr
theorem sdocF_nd {f:Nat} {acc:List D} {x x':PS} {q:List D} {z:PS} (ht:x.ts=x'.ts) (hv:x.vr=false) (hv':x'.vr=false) (hq:sdocF f acc x = .ok (q,z)) : ∃ z',sdocF f acc x' = .ok (q,z'):=by
 have hr:=zGy (M:=False) eqT_tr f acc (x:=x) (x':=x') ⟨by rw [ht];exact zJ7 _,hv,hv',fun h=>h.elim⟩
 rw [hq] at hr
 cases h2:sdocF f acc x' with
 |error e=>rw [h2] at hr;exact hr.elim
 |ok p =>
  obtain ⟨q',z'⟩:=p
  rw [h2] at hr
  obtain ⟨rfl,-⟩:=hr
  exact ⟨z',rfl⟩
theorem sdoc_joins {a b:List Tok} {e e2:Tok} {oa ob:List D} {z z2:PS} (he:e.k=5) (he2:e2.k=5) (Ha : ∀ t∈a,t.k≠5) (h1:sdocQ (a++[e]) = .ok (oa,z)) (h2:sdocQ (b++[e2]) = .ok (ob,z2)) (h64:oa.length+ob.length<=64) :
 ∃ w,sdocQ (a++(b++[e2])) = .ok (oa++ob,w):=by
 have hvr:=sdocF_vr (x:=⟨a++[e],false,0⟩) rfl h1
 have hN : ∃ t r',b++[e2]=t::r'/\t.k=2:=by
  cases b with
  |nil =>
   exfalso
   have h2:sdocF 2 [] ⟨[e2],false,0⟩ = .ok (ob,z2):=h2
   unfold sdocF at h2
   have hk:(hdT (⟨[e2],false,0⟩:PS)).k=5:=he2
   rw [if_neg (fun hh=>hh.1 rfl),if_pos (fun hh=>by rw [hk] at hh;exact absurd hh.1 (by decide))] at h2
   cases h2
  |cons t b =>
   refine ⟨t,b++[e2],rfl,?_⟩
   have h2:sdocF ((t::b++[e2]).length+1) [] ⟨t::(b++[e2]),false,0⟩ = .ok (ob,z2):=h2
   unfold sdocF at h2
   rw [if_neg (fun hh=>hh.1 rfl)] at h2
   by_cases hk:(hdT (⟨t::(b++[e2]),false,0⟩:PS)).k=2/\0<zAk (hdT (⟨t::(b++[e2]),false,0⟩:PS)).s
   . exact hk.1
   . rw [if_pos hk] at h2;cases h2
 have hne:oa.length≠0:=fun h0=>by
  have h1:sdocF ((a++[e]).length+1) [] ⟨a++[e],false,0⟩ = .ok (oa,z):=h1
  unfold sdocF at h1
  rw [if_neg (fun hh=>hh.1 rfl)] at h1
  split at h1
  . cases h1
  split at h1
  . cases h1
  obtain ⟨d,y,_,h3⟩:=zAJ h1
  obtain ⟨o,h4,-⟩:=zE1 _ h3
  rw [h4] at h0
  simp at h0
 obtain ⟨o,y1,p1,p2,p3,p4⟩:=zGC (e:=e) (r:=b++[e2]) ⟨he,by simp⟩ hN _ (x:=⟨a++[e],false,0⟩) (x':=⟨a++(b++[e2]),false,0⟩) (a:=a) ⟨rfl,rfl,rfl,rfl⟩ Ha h1
 have p1:oa=o:=by simpa using p1
 subst p1
 obtain ⟨o2,q1,q2⟩:=zE1 _ h2
 have q1:ob=o2:=by simpa using q1
 subst q1
 have hf:(a++(b++[e2])).length+1=a.length+b.length+2:=by simp;omega
 have hD:sdocQ (a++(b++[e2]))=sdocF (a.length+b.length+2-oa.length) oa y1:=by
  show sdocF ((a++(b++[e2])).length+1) [] ⟨a++(b++[e2]),false,0⟩=_
  rw [hf,p4 (a.length+b.length+2) [] (by omega) (by simp;omega) (fun _=>rfl)]
  simp
 rw [hD]
 have hy:y1.ts=b++[e2]:=by have:=p3.r;simpa using this
 have hyv:y1.vr=false:=by rw [p3.vr];exact hvr
 have h3:=q2 (a.length+b.length+2-oa.length) oa (by simp;omega) hne h64
 exact sdocF_nd (x:=⟨b++[e2],false,0⟩) (x':=y1) hy.symm rfl hyv h3
end
section
theorem zIC {ts ts':List Tok} (h:ts'.map bare=ts.map bare):(∀ q z,sdocQ ts = .ok (q,z) -> ∃ z',sdocQ ts' = .ok (q,z'))/\(∀ i e,sdocQ ts = .error (i,e) -> ∃ i',sdocQ ts' = .error (i',e)):=by
 have hr:=sdoc_rr likeT_tr (zJL h.symm)
 constructor
 . intro q z hq
   rw [hq] at hr
   cases h2:sdocQ ts' with
   |error e=>rw [h2] at hr;exact hr.elim
   |ok p =>
    obtain ⟨q',z'⟩:=p
    rw [h2] at hr
    obtain ⟨rfl,-⟩:=hr
    exact ⟨z',rfl⟩
 . intro i e hq
   rw [hq] at hr
   cases h2:sdocQ ts' with
   |error e' =>
    obtain ⟨i',e'⟩:=e'
    rw [h2] at hr
    obtain ⟨-,rfl⟩:=hr
    exact ⟨i',rfl⟩
   |ok p=>rw [h2] at hr;exact hr.elim
theorem zCa {l:List UInt8} {q:D} (h:parseD l = .ok q) : ∃ ts z o,scanT l = .ok ts/\sdocQ ts = .ok (o,z)/\q=zA2 o:=by
 unfold parseD at h
 split at h
 . cases h
 . rename_i ts hs
   split at h
   . cases h
   . rename_i o z hd
     cases h
     exact ⟨ts,z,o,hs,hd,rfl⟩
theorem zGA {l:List UInt8} {ts:List Tok} (h:scanT l = .ok ts) (hlen:(printT ts).length<=65536):(∀ q,parseD l = .ok q->parseD (printT ts) = .ok q)/\(∀ i e,parseD l = .error (i,e) -> ∃ i',parseD (printT ts) = .error (i',e)):=by
 obtain ⟨ts',h1,h2⟩:=scan_print h hlen
 obtain ⟨h3,h4⟩:=zIC h2
 constructor
 . intro q hq
   obtain ⟨t0,z,o,e1,e2,rfl⟩:=zCa hq
   rw [h] at e1
   cases e1
   obtain ⟨z',e3⟩:=h3 _ _ e2
   unfold parseD
   rw [h1]
   dsimp only
   rw [e3]
 . intro i e hq
   unfold parseD at hq
   rw [h] at hq
   dsimp only at hq
   cases hd:sdocQ ts with
   |ok p=>obtain ⟨o,z⟩:=p;rw [hd] at hq;cases hq
   |error x =>
    rw [hd] at hq
    cases hq
    obtain ⟨i',e3⟩:=h4 _ _ hd
    refine ⟨i',?_⟩
    unfold parseD
    rw [h1]
    dsimp only
    rw [e3]
theorem joinsD_law {s t:List UInt8} {oa ob:List D} (hl:s.length+t.length<=65000) (ha:parseD s = .ok (zA2 oa)) (hb:parseD t = .ok (zA2 ob)) (h64:oa.length+ob.length<=64):parseD (s++10::t) = .ok (zA2 (oa++ob)):=by
 obtain ⟨t1,z1,o1,s1,d1,q1⟩:=zCa ha
 obtain ⟨t2,z2,o2,s2,d2,q2⟩:=zCa hb
 have q1:oa=o1:=by injection q1 with q1;injection q1 with q1;injection q1
 have q2:ob=o2:=by injection q2 with q2;injection q2 with q2;injection q2
 subst q1 q2
 obtain ⟨ks,a,e,x1,rfl,x3,x4,x5,x6⟩:=zGD s1
 obtain ⟨kt,b,e2,y1,rfl,y3,y4,y5,y6⟩:=zGD s2
 obtain ⟨w,hw⟩:=sdoc_joins x3 y3 x6 d1 d2 h64
 have hlen:(s++10::t).length=s.length+t.length+1:=by simp;omega
 obtain ⟨tj,w1,w2⟩:=(x1.join y1).scan ((s++10::t).length+1) 0 (by omega)
 have w1:scanT (s++10::t) = .ok tj:=by
  unfold scanT
  rw [if_neg (by omega)]
  exact w1
 have w3:tj.map bare=(a++(b++[e2])).map bare:=by
  rw [w2,List.map_append,List.map_append,x5,y5,List.append_assoc]
  show _=ks++(kt++[bare e2])
  rw [y4]
 obtain ⟨w',hw'⟩:=(zIC w3).1 _ _ hw
 unfold parseD
 rw [w1]
 dsimp only
 rw [hw']
section
variable (lit:D->Bool)
def valY (v:D):Bool:=lit v&&bareR (bulkD v) v
def argY (a:D):Bool:=nameB (a.f 0).s&&valY lit (a.f 1)
def zFy (l:List D):Bool:=decide (l.length<=16)&&l.all (argY lit)
def dirY (x:D):Bool:=nameB (x.f 0).s&&zFy lit (x.f 1).l
def dirsY (l:List D):Bool:=decide (l.length<=16)&&l.all (dirY lit)
def inY (x:D):Bool:=nameB (x.f 0).s&&refR (x.f 1)&&dirsY lit (x.f 4).l&&valY lit (x.f 3)&&((x.f 2).b||((x.f 3).f 0).n==0)
def insY (l:List D):Bool:=decide (l.length<=16)&&l.all (inY lit)
def fdY (x:D):Bool:=nameB (x.f 0).s&&insY lit (x.f 1).l&&refR (x.f 2)&&dirsY lit (x.f 3).l
def fdsY (l:List D):Bool:=decide (l.length<=64)&&l.all (fdY lit)
def mbY (u:Bool) (x:D):Bool:=nameB (x.f 0).s&&dirsY lit (x.f 1).l&&(!u||decide ((x.f 1).l.length=0))
def mbsY (u:Bool) (l:List D):Bool:=decide (l.length<=64)&&l.all (mbY lit u)
def imY (l:List D):Bool:=decide (l.length<=64)&&l.all fun x=>nameB x.s
def kindY (k:Int) (a b c e:Nat):Bool:=
 decide (1<=k/\k<=5)&&(decide (e=0)||k==1)&&((k==1||k==2)==decide (0<a))&&((k==3||k==4)==decide (0<b))&&((k==5)==decide (0<c))
def defY (d:D):Bool:=
 kindY (d.f 0).n (d.f 4).l.length (d.f 5).l.length (d.f 6).l.length (d.f 2).l.length&&nameB (d.f 1).s&&dirsY lit (d.f 3).l&&imY (d.f 2).l &&
 fdsY lit (d.f 4).l&&mbsY lit ((d.f 0).n==3) (d.f 5).l&&insY lit (d.f 6).l
def docY (l:List D):Bool:=decide (1<=l.length/\l.length<=64)&&l.all (defY lit)
end
structure ValP (v:D):Prop where
 lit:litR v=true
 bare:bareR (bulkD v) v=true
structure ArgP (a:D):Prop where
 name:nameB (a.f 0).s=true
 val:ValP (a.f 1)
structure DirP (x:D):Prop where
 name:nameB (x.f 0).s=true
 len:(x.f 1).l.length<=16
 args : ∀ i,i<(x.f 1).l.length->ArgP (gD (x.f 1).l i)
structure DirsP (l:List D):Prop where
 len:l.length<=16
 dirs : ∀ i,i<l.length->DirP (gD l i)
structure InP (x:D):Prop where
 name:nameB (x.f 0).s=true
 rname:nameB ((x.f 1).f 0).s=true
 rlen:((x.f 1).f 1).l.length<=24
 wraps:zAx (((x.f 1).f 1).l.map D.n)=true
 dirs:DirsP (x.f 4).l
 val:ValP (x.f 3)
 has:(x.f 2).b=true\/((x.f 3).f 0).n=0
structure InsP (l:List D):Prop where
 len:l.length<=16
 ins : ∀ i,i<l.length->InP (gD l i)
structure FdP (x:D):Prop where
 name:nameB (x.f 0).s=true
 args:InsP (x.f 1).l
 rname:nameB ((x.f 2).f 0).s=true
 rlen:((x.f 2).f 1).l.length<=24
 wraps:zAx (((x.f 2).f 1).l.map D.n)=true
 dirs:DirsP (x.f 3).l
structure MbP (u:Bool) (x:D):Prop where
 name:nameB (x.f 0).s=true
 dirs:DirsP (x.f 1).l
 no:u=true->(x.f 1).l.length=0
structure DefP (d:D):Prop where
 kind:1<=(d.f 0).n/\(d.f 0).n<=5
 name:nameB (d.f 1).s=true
 dirs:DirsP (d.f 3).l
 ilen:(d.f 2).l.length<=64
 im : ∀ i,i<(d.f 2).l.length->nameB (gD (d.f 2).l i).s=true
 im0:(d.f 2).l.length=0\/(d.f 0).n=1
 f0:((d.f 0).n=1\/(d.f 0).n=2) ↔ 0<(d.f 4).l.length
 m0:((d.f 0).n=3\/(d.f 0).n=4) ↔ 0<(d.f 5).l.length
 i0:(d.f 0).n=5 ↔ 0<(d.f 6).l.length
 flen:(d.f 4).l.length<=64
 fds : ∀ i,i<(d.f 4).l.length->FdP (gD (d.f 4).l i)
 mlen:(d.f 5).l.length<=64
 mbs : ∀ i,i<(d.f 5).l.length->MbP ((d.f 0).n==3) (gD (d.f 5).l i)
 ins:InsP (d.f 6).l
end
section
def tw:List Tok->Nat
 |[]=>0
 |t::r=>t.s.length+40+tw r
def Bd {α:Type} (μ:α->Nat) (N:Nat) (r:PR α):Prop:=∀ v y,r = .ok (v,y)->μ v+tw y.ts<=N
section
variable {α β:Type} {μ:α->Nat} {ν:β->Nat} {N M:Nat}
theorem Bd.okk {v:α} {y:PS} (h:μ v+tw y.ts<=N):Bd μ N (.ok (v,y):PR α):=fun _ _ e=>by cases e;exact h
theorem Bd.err {e:Nat × Int}:Bd μ N (.error e:PR α):=fun _ _ h=>by cases h
theorem Bd.ite {c:Prop} [Decidable c] {a b:PR α} (h1:c->Bd μ N a) (h2 : ¬ c->Bd μ N b):Bd μ N (if c then a else b):=by
 split
 . exact h1 ‹_›
 . exact h2 ‹_›
theorem Bd.then {r:PR α} {f:α->PS->PR β} (h:Bd μ N r) (hf : ∀ a x,μ a+tw x.ts<=N->Bd ν M (f a x)):Bd ν M (zb r f):=by
 cases hr:r with
 |error e =>
  rw [zl (r:=.error e) rfl]
  exact .err
 |ok p =>
  obtain ⟨a,x⟩:=p
  rw [za (r:=.ok (a,x)) rfl]
  exact hf a x (h a x hr)
end
def sl (s:List UInt8):Nat:=s.length+40
section
variable {v:PS->PR D} (hv : ∀ y,Bd bulkD (tw y.ts) (v y))
include hv
end
theorem readU_sl {l:List UInt8} {k:Int} {s:List UInt8} {n:Nat} (h:readU l = .ok (k,s,n)):s.length<=n:=by
 unfold readU at h
 split at h
 . cases h
 . rename_i c r
   have hs:=(zCU (p:=wrdU) r).2
   have hl:=zAa wrdU r
   split at h
   . cases h;simp
   split at h
   . split at h
     . cases h;simp
     . cases h
   split at h
   . split at h
     . cases h;rw [List.length_cons,hs];omega
     . cases h
   split at h
   . split at h
     . cases h
     . cases h;rw [List.length_cons,hs];omega
   split at h
   . split at h
     . cases h
     . split at h
       . cases h
       . rename_i ht
         cases h
         have:=zEq ht
         simp at this |-;omega
   . cases h
end
section
open Go.RowKit
def zHF (n i:Int) (t:Bool) (a b:Nat) (x v y:Bool):Bool:=
 if n=0 then i==0&&t&&b==0&&a==0
 else if n=1 then (i==0||i==1)&&t&&b==0&&a==0
 else if n=2 then t&&b==0&&a==0
 else if n=3 then i==0&&b==0&&a==0
 else if n=4 then i==0&&b==0&&a==0&&x
 else if n=5 then i==0&&t&&a==0
 else if n=6 then i==0&&t&&a==b&&y
 else if n=7 then i==0&&b==0&&a==0&&v
 else false
theorem nodeF_K (n i:Int) (t:Bool) (a b:Nat) (x v ks y:Bool) (hks:a=0->ks=true):(zHF n i t a b x v y&&ks)=zId n i t a b x v ks y:=by
 have h0:(a==0)=true->ks=true:=fun h=>hks (by simpa using h)
 unfold zHF zId
 by_cases n0:n=0
 . subst n0;cases ks<;>simp_all
   try ac_rfl
 by_cases n1:n=1
 . subst n1;cases ks<;>simp_all
   try ac_rfl
 by_cases n2:n=2
 . subst n2;cases ks<;>simp_all
   try ac_rfl
 by_cases n3:n=3
 . subst n3;cases ks<;>simp_all
   try ac_rfl
 by_cases n4:n=4
 . subst n4;cases ks<;>simp_all
   try ac_rfl
 by_cases n5:n=5
 . subst n5;cases ks<;>simp_all
   try ac_rfl
 by_cases n6:n=6
 . subst n6;cases ks<;>simp_all
   try ac_rfl
 by_cases n7:n=7
 . subst n7;cases ks<;>simp_all
   try ac_rfl
 have hd:decide (0<=n/\n<=7)=false:=decide_eq_false (by omega)
 rw [hd]
 simp [n0,n1,n2,n3,n4,n5,n6,n7]
def zHG (d:D):Bool:=zHF (d.f 0).n (d.f 1).n ((d.f 2).s.data.toList==[]) (d.f 4).l.length (d.f 3).l.length (zFv (d.f 2).s) (nameB (d.f 2).s) (decide (strsR d).Nodup)
theorem zD3 (d:D):(zHG d && !((d.f 4).l.any fun x => !nameB x.s))=nodeL d:=
 nodeF_K _ _ _ _ _ _ _ _ _ fun h=>by rw [List.eq_nil_of_length_eq_zero h];rfl
end
section
def Hr {α:Type} (Q:α->PS->Prop) (r:PR α):Prop:=∀ v z,r = .ok (v,z)->Q v z
section
variable {α β:Type} {Q:α->PS->Prop} {R:β->PS->Prop}
theorem Hr.okk {v:α} {z:PS} (h:Q v z):Hr Q (.ok (v,z):PR α):=fun _ _ e=>by cases e;exact h
theorem Hr.err {e:Nat × Int}:Hr Q (.error e:PR α):=fun _ _ h=>by cases h
theorem Hr.ite {c:Prop} [Decidable c] {a b:PR α} (h1:c->Hr Q a) (h2 : ¬ c->Hr Q b):Hr Q (if c then a else b):=by
 split
 . exact h1 ‹_›
 . exact h2 ‹_›
theorem Hr.then {r:PR α} {f:α->PS->PR β} (h:Hr Q r) (hf : ∀ a x,Q a x->Hr R (f a x)):Hr R (zb r f):=by
 cases hr:r with
 |error e =>
  rw [zl (r:=.error e) rfl]
  exact .err
 |ok p =>
  obtain ⟨a,x⟩:=p
  rw [za (r:=.ok (a,x)) rfl]
  exact hf a x (h a x hr)
theorem Hr.mono {r:PR α} {Q':α->PS->Prop} (h:Hr Q r) (hq : ∀ a x,Q a x->Q' a x):Hr Q' r:=fun v z e=>hq v z (h v z e)
end
def GT (x:PS):Prop:=∀ t∈x.ts,(t.k=2->nameB ⟨t.s.toArray⟩=true)/\1<=t.k/\t.k<=5
theorem GT.nx {x:PS} (h:GT x):GT (nxT x):=fun t ht=>by
 unfold nxT at ht
 split at ht
 . exact h t ht
 . exact h t (List.mem_of_mem_drop ht)
theorem zFC (x:PS):(nxT x).vr=x.vr:=by unfold nxT;split<;>rfl
theorem zGO (x:PS):(nxT x).nd=x.nd:=by unfold nxT;split<;>rfl
theorem GT.hd {x:PS} (h:GT x):((hdT x).k=2->nameB ⟨(hdT x).s.toArray⟩=true)/\1<=(hdT x).k/\(hdT x).k<=5:=by
 unfold hdT
 cases hx:x.ts with
 |nil=>exact ⟨fun h=>absurd h (by decide),by decide,by decide⟩
 |cons t r=>exact h t (by rw [hx];exact List.mem_cons_self ..)
structure Pv (x z:PS):Prop where
 gt:GT z
 vr:z.vr=x.vr
theorem Pv.trans {x y z:PS} (h1:Pv x y) (h2:Pv y z):Pv x z:=⟨h2.gt,h2.vr.trans h1.vr⟩
theorem GT.pv {x:PS} (h:GT x):Pv x x:=⟨h,rfl⟩
theorem GT.pvn {x:PS} (h:GT x):Pv x (nxT x):=⟨h.nx,zFC x⟩
theorem Pv.nx {x y:PS} (h:Pv x y):Pv x (nxT y):=h.trans h.gt.pvn
theorem zCR {s:List UInt8} {x:PS} (h:GT x):Hr (fun _ z=>Pv x z/\z.nd=x.nd) (takeQ s x):=by
 unfold takeQ
 exact .ite (fun _ => .okk ⟨h.pvn,zGO x⟩) fun _ => .err
theorem zFD {x:PS} (h:GT x):Hr (fun n z=>nameB ⟨n.toArray⟩=true/\Pv x z/\z.nd=x.nd) (nameQ x):=by
 unfold nameQ
 exact .ite (fun hk => .okk ⟨h.hd.1 hk,h.pvn,zGO x⟩) fun _ => .err
theorem open_rt : ∀ (f:Nat) {x:PS},GT x->Pv x (openQ f x).2
 |0,x,h=>h.pv
 |f+1,x,h=>by
  unfold openQ
  by_cases hs:isS x [91]=true
  . rw [if_pos hs]
    exact h.pvn.trans (open_rt f h.nx)
  . rw [if_neg hs];exact h.pv
theorem zEl {w:List Int} (h:zAx w=true) (hh:w.head? ≠ some 1):zAx (1::w)=true:=by
 cases w with
 |nil=>rfl
 |cons v r =>
  have hv:v≠1:=fun e=>hh (by rw [e];rfl)
  simp [zAx,hv]
  exact h
theorem zEk {w:List Int} (h:zAx w=true):zAx (2::w)=true:=by
 cases w with
 |nil=>rfl
 |cons v r=>simpa [zAx] using h
theorem zHo : ∀ (n:Nat) (w:List Int) {x:PS},GT x->zAx w=true->w.head? ≠ some 1->Hr (fun v z=>zAx v=true/\Pv x z) (closeQ n w x)
 |0,w,x,h,hw,hh=>by
  unfold closeQ
  by_cases hs:isS x [33]=true
  . rw [if_pos hs];exact .okk ⟨zEl hw hh,h.pvn⟩
  . rw [if_neg hs];exact .okk ⟨hw,h.pv⟩
 |n+1,w,x,h,hw,hh=>by
  unfold closeQ
  by_cases hs:isS x [33]=true
  . rw [if_pos hs,if_pos hs]
    exact .then (zCR h.nx) fun _ y hy=>(zHo n _ hy.1.gt (zEk (zEl hw hh)) (fun h=>by simp at h)).mono fun v z hv=>⟨hv.1,(h.pvn.trans hy.1).trans hv.2⟩
  . rw [if_neg hs,if_neg hs]
    exact .then (zCR h) fun _ y hy=>(zHo n _ hy.1.gt (zEk hw) (fun h=>by simp at h)).mono fun v z hv=>⟨hv.1,hy.1.trans hv.2⟩
theorem map_n (w:List Int):(w.map D.int).map D.n=w:=by
 rw [List.map_map]
 exact (List.map_congr_left fun x _=>rfl).trans (List.map_id w)
theorem typ_rt {x:PS} (h:GT x):Hr (fun t z=>refR t=true/\Pv x z) (typQ x):=by
 have ho:=open_rt x.ts.length h
 refine .then (Q:=fun t z=>nameB ⟨t.1.toArray⟩=true/\zAx t.2=true/\Pv x z) (.then (zFD ho.gt) fun n y hn => .then (zHo _ [] hn.2.1.gt rfl (by decide)) fun w z hw => .okk ⟨hn.1,hw.1,(ho.trans hn.2.1).trans hw.2⟩) fun t z ht => .ite (fun _ => .err) fun hl => .okk ⟨?_,ht.2.2⟩
 show (nameB ⟨t.1.toArray⟩&&decide ((t.2.map D.int).length<=24)&&zAx ((t.2.map D.int).map D.n))=true
 rw [map_n,ht.1,ht.2.1,List.length_map,decide_eq_true (by omega)]
 rfl
structure VOk (lv:Nat) (vr:Bool) (n0:Nat) (v:D) (n1:Nat):Prop where
 sz : ∀ k,Dp k v->sizeR k v+n0=n1
 dp : ∀ k,Dp k v->depthR k v+lv<=25
 ev : ∀ k,Dp k v->everyL k v=true
 br:vr=false -> ∀ k,Dp k v->bareR k v=true
structure CH (lv:Nat) (vr:Bool) (n0:Nat) (l:List D) (n1:Nat):Prop where
 sz : ∀ k,(∀ i,i<l.length->Dp k (gD l i))->sumN (fun i=>sizeR k (gD l i)) l.length+n0=n1
 dp : ∀ i,i<l.length -> ∀ k,Dp k (gD l i)->depthR k (gD l i)+lv<=25
 ev : ∀ i,i<l.length -> ∀ k,Dp k (gD l i)->everyL k (gD l i)=true
 br:vr=false -> ∀ i,i<l.length -> ∀ k,Dp k (gD l i)->bareR k (gD l i)=true
theorem CH.nil {lv:Nat} {vr:Bool} {n:Nat}:CH lv vr n [] n:=
 ⟨fun k _=>by simp [sumN],fun i hi=>absurd hi (Nat.not_lt_zero i),fun i hi=>absurd hi (Nat.not_lt_zero i),fun _ i hi=>absurd hi (Nat.not_lt_zero i)⟩
theorem gD_lst (l:List D) (v:D):gD (l++[v]) l.length=v:=by unfold gD;simp
theorem gD_l {l:List D} {v:D} {i:Nat} (h:i<l.length):gD (l++[v]) i=gD l i:=by
 unfold gD;rw [List.getD_eq_getElem?_getD,List.getElem?_append_left h,<- List.getD_eq_getElem?_getD]
theorem zGu {l:List D} {v:D} {p:D->Prop} (h1 : ∀ i,i<l.length->p (gD l i)) (h2:p v) : ∀ i,i<(l++[v]).length->p (gD (l++[v]) i):=fun i hi=>by
 rw [List.length_append,List.length_singleton] at hi
 rcases Nat.lt_or_ge i l.length with h | h
 . rw [gD_l h];exact h1 i h
 . obtain rfl:i=l.length:=by omega
   rw [gD_lst];exact h2
theorem zF8 {f g:Nat->Nat} : ∀ {n:Nat},(∀ i,i<n->f i=g i)->sumN f n=sumN g n
 |0,_=>rfl
 |n+1,h=>by rw [sumN,sumN,zF8 fun i hi=>h i (by omega),h n (by omega)]
theorem CH.snoc {lv:Nat} {vr:Bool} {n0 n1 n2:Nat} {l:List D} {v:D} (h:CH lv vr n0 l n1) (hv:VOk lv vr n1 v n2):CH lv vr n0 (l++[v]) n2 where
 sz k hk:=by
  have h1:=h.sz k fun i hi=>by have:=hk i (by simp;omega);rwa [gD_l hi] at this
  have h2:=hv.sz k (by have:=hk l.length (by simp);rwa [gD_lst] at this)
  rw [List.length_append,List.length_singleton,sumN,gD_lst,zF8 (g:=fun i=>sizeR k (gD l i)) fun i hi=>by rw [gD_l hi]]
  omega
 dp:=zGu (p:=fun d => ∀ k,Dp k d->depthR k d+lv<=25) h.dp hv.dp
 ev:=zGu (p:=fun d => ∀ k,Dp k d->everyL k d=true) h.ev hv.ev
 br hb:=zGu (p:=fun d => ∀ k,Dp k d->bareR k d=true) (h.br hb) (hv.br hb)
theorem zJJ {p:D->Bool} {l:List D} (h : ∀ i,i<l.length->p (gD l i)=true):(l.any fun x => !p x)=false:=by
 rw [Bool.eq_false_iff]
 intro hc
 obtain ⟨x,hx,hp⟩:=List.any_eq_true.1 hc
 obtain ⟨i,hi,rfl⟩:=List.getElem_of_mem hx
 have:=h i hi
 rw [gD,List.getD_eq_getElem?_getD,List.getElem?_eq_getElem hi] at this
 rw [show p l[i]=true from this] at hp
 cases hp
theorem zCw {lv n0 n1:Nat} {vr:Bool} {v:D} (hn:nodeL v=true) (h7:vr=false->(v.f 0).n≠7) (hlv:lv<=24) (hc:CH (lv+1) vr (n0+1) (v.f 3).l n1):VOk lv vr n0 v n1 where
 sz k hk:=by
  cases k with
  |zero=>exact hk.elim
  |succ k =>
   have:=hc.sz k hk
   show 1+sumN (fun i=>sizeR k (gD (v.f 3).l i)) (v.f 3).l.length+n0=n1
   omega
 dp k hk:=by
  cases k with
  |zero=>exact hk.elim
  |succ k =>
   have:maxN (fun i=>depthR k (gD (v.f 3).l i)) (v.f 3).l.length<=24-lv:=maxN_le fun i hi=>by
    have:=hc.dp i hi k (hk i hi)
    omega
   show maxN (fun i=>depthR k (gD (v.f 3).l i)) (v.f 3).l.length+1+lv<=25
   omega
 ev k hk:=by
  cases k with
  |zero=>exact hk.elim
  |succ k =>
   show (nodeL v && !((v.f 3).l.any fun x => !everyL k x))=true
   rw [hn,zJJ fun i hi=>hc.ev i hi k (hk i hi)];rfl
 br hb k hk:=by
  cases k with
  |zero=>exact hk.elim
  |succ k =>
   show (!((v.f 0).n==7) && !((v.f 3).l.any fun x => !bareR k x))=true
   rw [zJJ fun i hi=>hc.br hb i hi k (hk i hi)]
   have:((v.f 0).n==7)=false:=by simpa using h7 hb
   rw [this];rfl
section
variable {val:PS->PR D} {lv n0:Nat} {vr:Bool} (hv : ∀ y,GT y->y.vr=vr->y.nd<=4096->Hr (fun v z=>Pv y z/\VOk lv vr y.nd v z.nd/\z.nd<=4096) (val y))
include hv
theorem zKu : ∀ (f:Nat) (acc:List D) {x:PS},GT x->x.vr=vr->x.nd<=4096->CH lv vr n0 acc x.nd->Hr (fun l z=>Pv x z/\CH lv vr n0 l z.nd/\z.nd<=4096) (itemsQ val f acc x)
 |0,_,_,_,_,_,_ => .err
 |f+1,acc,x,h,hx,hnd,hc=>by
  unfold itemsQ
  refine .ite (fun _ => .okk ⟨h.pvn,by rw [zGO];exact hc,by rw [zGO];exact hnd⟩) fun _ => .then (hv x h hx hnd) fun a y hy => ?_
  exact (zKu f _ hy.1.gt (hy.1.vr.trans hx) hy.2.2 (hc.snoc hy.2.1)).mono fun l z hz=>⟨hy.1.trans hz.1,hz.2⟩
theorem zI1 : ∀ (f:Nat) (ks:List (List UInt8)) (acc:List D) {x:PS},GT x->x.vr=vr->x.nd<=4096->CH lv vr n0 acc x.nd->(∀ k∈ks,nameB ⟨k.toArray⟩=true)->ks.Nodup->ks.length=acc.length ->
 Hr (fun p z=>Pv x z/\CH lv vr n0 p.2 z.nd/\z.nd<=4096/\(∀ k∈p.1,nameB ⟨k.toArray⟩=true)/\p.1.Nodup/\p.1.length=p.2.length) (zu val f ks acc x)
 |0,_,_,_,_,_,_,_,_,_,_ => .err
 |f+1,ks,acc,x,h,hx,hnd,hc,hk,hd,hl=>by
  unfold zu
  refine .ite (fun _ => .okk ⟨h.pvn,by rw [zGO];exact hc,by rw [zGO];exact hnd,hk,hd,hl⟩) fun _ => .then (zFD h) fun k y hy => .ite (fun _ => .err) fun hks => .then (zCR hy.2.1.gt) fun _ z hz => ?_
  have hxz:=hy.2.1.trans hz.1
  have hn:z.nd=x.nd:=hz.2.trans hy.2.2
  refine .then (hv z hz.1.gt (hxz.vr.trans hx) (by omega)) fun a u hu => ?_
  rw [hn] at hu
  have hks':k ∉ ks:=fun hm=>hks (List.contains_iff_mem.2 hm)
  refine (zI1 f _ _ hu.1.gt ((hxz.trans hu.1).vr.trans hx) hu.2.2 (hc.snoc hu.2.1) (fun q hq => ?_) ?_ (by simp [hl])).mono fun l w hw=>⟨(hxz.trans hu.1).trans hw.1,hw.2⟩
  . rcases List.mem_append.1 hq with hq | hq
    . exact hk q hq
    . rw [List.mem_singleton] at hq;subst hq;exact hy.1
  . rw [List.nodup_append]
    refine ⟨hd,by simp,fun a ha b hb => ?_⟩
    rw [List.mem_singleton] at hb
    subst hb
    exact fun e=>hks' (e ▸ ha)
end
theorem strsR_val (k n:Int) (s:List UInt8) (items:List D) (keys:List (List UInt8)):strsR (valD k n s items keys)=keys:=by
 show (keys.map strD).map (fun x=>x.s.data.toList)=keys
 rw [List.map_map]
 exact (List.map_congr_left fun x _=>rfl).trans (List.map_id keys)
theorem keys_names {keys:List (List UInt8)} (h : ∀ k∈keys,nameB ⟨k.toArray⟩=true):((keys.map strD).any fun x => !nameB x.s)=false:=by
 rw [Bool.eq_false_iff]
 intro hc
 obtain ⟨x,hx,hp⟩:=List.any_eq_true.1 hc
 obtain ⟨k,hk,rfl⟩:=List.mem_map.1 hx
 rw [show nameB (strD k).s=true from h k hk] at hp
 cases hp
theorem word_node {s:List UInt8} (h:nameB ⟨s.toArray⟩=true):nodeL (zC4 s)=true/\((zC4 s).f 3).l=[]/\((zC4 s).f 0).n≠7:=by
 unfold zC4 zER
 split
 . exact ⟨by decide,rfl,by decide⟩
 . split
   . exact ⟨by decide,rfl,by decide⟩
   . split
     . exact ⟨by decide,rfl,by decide⟩
     . rename_i h1 h2 h3
       refine ⟨?_,rfl,by show (4:Int)≠7;decide⟩
       rw [<- zD3]
       have e:zHG (valD 4 0 s [] [])=zFv ⟨s.toArray⟩:=by
        unfold zHG zHF
        show (if (4:Int)=0 then _ else if (4:Int)=1 then _ else if (4:Int)=2 then _ else if (4:Int)=3 then _ else if (4:Int)=4 then ((0:Int)==0&&(0:Nat)==0&&(0:Nat)==0&&zFv ⟨s.toArray⟩) else _)=_
        simp
       rw [e]
       unfold zFv
       rw [h]
       have a1:(((⟨s.toArray⟩:ByteArray).data.toList)==[116,114,117,101])=false:=by simpa using h1
       have a2:(((⟨s.toArray⟩:ByteArray).data.toList)==[102,97,108,115,101])=false:=by simpa using h2
       have a3:(((⟨s.toArray⟩:ByteArray).data.toList)==[110,117,108,108])=false:=by simpa using h3
       rw [a1,a2,a3]
       rfl
theorem zKF : ∀ (f lv:Nat) {x:PS},GT x->x.nd<=4096->Hr (fun v z=>Pv x z/\VOk lv x.vr x.nd v z.nd/\z.nd<=4096) (valueQ f lv x)
 |0,_,_,_,_ => .err
 |f+1,lv,x,h,hnd=>by
  have ih : ∀ y,GT y->y.vr=x.vr->y.nd<=4096->Hr (fun v z=>Pv y z/\VOk (lv+1) x.vr y.nd v z.nd/\z.nd<=4096) (valueQ f (lv+1) y):=fun y hy hvr hn=>by rw [<- hvr];exact zKF f (lv+1) hy hn
  have hy:GT { nxT x with nd:=x.nd+1 }:=h.nx
  have pvy:Pv x { nxT x with nd:=x.nd+1 }:=⟨h.nx,zFC x⟩
  unfold valueQ
  refine .ite (fun _ => .err) fun hno => .ite (fun _ => .err) fun hlv => .ite (fun _ => .err) fun hn => ?_
  dsimp only
  refine .ite (fun _ => .okk ⟨pvy,?_,?_⟩) fun k3 => .ite (fun _ => .okk ⟨pvy,?_,?_⟩) fun k4 => .ite (fun hk => .okk ⟨pvy,?_,?_⟩) fun k2 => .ite (fun hd => .then (zFD hy) fun n z hz => .okk ⟨pvy.trans hz.2.1,?_,?_⟩) fun _ =>
   .ite (fun _ => .then (zKu ih _ [] hy (zFC x) (by show x.nd+1<=4096;omega) CH.nil) fun l z hz => .okk ⟨pvy.trans hz.1,?_,hz.2.2⟩) fun _ =>
   .then (zI1 ih _ [] [] hy (zFC x) (by show x.nd+1<=4096;omega) CH.nil (fun k hk=>by cases hk) List.nodup_nil rfl) fun p z hz => .okk ⟨pvy.trans hz.1,?_,hz.2.2.1⟩
  . refine zCw ?_ (fun _=>by show (2:Int)≠7;decide) (by omega) CH.nil
    rw [<- zD3];simp [zHG,zHF,valD,strD,D.f,gD,D.n,D.s,D.l]
  . show x.nd+1<=4096;omega
  . refine zCw ?_ (fun _=>by show (3:Int)≠7;decide) (by omega) CH.nil
    rw [<- zD3];simp [zHG,zHF,valD,strD,D.f,gD,D.n,D.s,D.l]
  . show x.nd+1<=4096;omega
  . have hw:=word_node (h.hd.1 hk)
    exact zCw hw.1 (fun _=>hw.2.2) (by omega) (by rw [hw.2.1];exact CH.nil)
  . show x.nd+1<=4096;omega
  . have hkd:=h.hd.2
    have hk1:(hdT x).k=1:=by
     have h5:(hdT x).k≠5:=fun e=>hno (by unfold zBU;simp [e])
     omega
    have hvr:x.vr=true:=by
     cases hvx:x.vr with
     |true=>rfl
     |false =>
      exfalso
      refine hno ?_
      unfold zBU isS
      rw [hk1,hd,hvx]
      rfl
    rw [show z.nd=x.nd+1 from hz.2.2]
    refine zCw ?_ (fun hb=>by rw [hvr] at hb;cases hb) (by omega) CH.nil
    rw [<- zD3]
    have:nameB (strD n).s=true:=hz.1
    have this2:nameB ⟨n.toArray⟩=true:=hz.1
    simp [zHG,zHF,valD,strD,D.f,gD,D.n,D.s,D.l,this2]
  . rw [show z.nd=x.nd+1 from hz.2.2];omega
  . refine zCw ?_ (fun _=>by show (5:Int)≠7;decide) (by omega) hz.2.1
    rw [<- zD3];simp [zHG,zHF,valD,strD,D.f,gD,D.n,D.s,D.l]
  . refine zCw ?_ (fun _=>by show (6:Int)≠7;decide) (by omega) hz.2.1
    obtain ⟨-,-,-,q1,q2,q3⟩:=hz
    rw [<- zD3]
    have e1:zHG (valD 6 0 [] p.2 p.1)=true:=by
     unfold zHG zHF
     rw [strsR_val]
     show (if (6:Int)=0 then _ else if (6:Int)=1 then _ else if (6:Int)=2 then _ else if (6:Int)=3 then _ else if (6:Int)=4 then _ else if (6:Int)=5 then _ else if (6:Int)=6 then ((0:Int)==0&&((strD []).s.data.toList==[])&&(p.1.map strD).length==p.2.length&&decide p.1.Nodup) else _)=true
     simp [q2,q3,strD,D.s]
    rw [e1,Bool.true_and]
    show (!((p.1.map strD).any fun x => !nameB x.s))=true
    rw [keys_names q1];rfl
theorem zJ9 {x:PS} (h:GT x):Hr (fun v z=>Pv x z/\litR v=true/\(x.vr=false->bareR (bulkD v) v=true)) (zAO x):=by
 have h0:GT { x with nd:=0 }:=h
 refine (zKF 25 1 h0 (Nat.zero_le _)).mono fun v z hz=>⟨⟨hz.1.gt,hz.1.vr⟩,?_,fun hb=>hz.2.1.br hb _ (zBY _ _ (Nat.le_refl _))⟩
 have hd:=zBY (bulkD v) v (Nat.le_refl _)
 have h1:=hz.2.1.sz _ hd
 have h2:=hz.2.1.dp _ hd
 have h3:=hz.2.1.ev _ hd
 have h1:sizeR (bulkD v) v+0=z.nd:=h1
 unfold litR
 rw [h3,decide_eq_true (show sizeR (bulkD v) v<=4096 by have:=hz.2.2;omega),decide_eq_true (show depthR (bulkD v) v<=24 by omega)]
 rfl
def Al (p:D->Bool) (l:List D):Prop:=∀ i,i<l.length->p (gD l i)=true
theorem Al.nil {p:D->Bool}:Al p []:=fun i hi=>absurd hi (Nat.not_lt_zero i)
theorem Al.snoc {p:D->Bool} {l:List D} {v:D} (h:Al p l) (hv:p v=true):Al p (l++[v]):=zGu (p:=fun d=>p d=true) h hv
theorem hd_k2 {x:PS} {s:List UInt8} {n:List UInt8} {z:PS} (h:nameQ x = .ok (n,z)):(hdT x).k=2:=by
 unfold nameQ at h
 split at h
 . assumption
 . cases h
theorem Hr.name {β:Type} {R:β->PS->Prop} {x:PS} {f:List UInt8->PS->PR β} (h:GT x) (hf : ∀ n z,(hdT x).k=2->nameB ⟨n.toArray⟩=true->Pv x z->Hr R (f n z)):Hr R (zb (nameQ x) f):=by
 by_cases hk:(hdT x).k=2
 . exact .then (zFD h) fun n z hz=>hf n z hk hz.1 hz.2.1
 . unfold nameQ
   rw [if_neg hk]
   exact .err
theorem let_B : ∀ c:UInt8,letU c=true->digB (c.toNat:Int)=false/\letB (c.toNat:Int)=true:=fun c =>
 zDF (p:=fun c=>letU c=true->digB (c.toNat:Int)=false/\letB (c.toNat:Int)=true) (by decide +kernel) c
theorem wrd_B : ∀ c:UInt8,wrdU c=true->(letB (c.toNat:Int)||digB (c.toNat:Int))=true:=fun c =>
 zDF (p:=fun c=>wrdU c=true->(letB (c.toNat:Int)||digB (c.toNat:Int))=true) (by decide +kernel) c
theorem name_tok {c:UInt8} {q:List UInt8} (hc:letU c=true) (hq:q.all wrdU=true) (hl:q.length<64):nameB ⟨(c::q).toArray⟩=true:=by
 refine zFE (s:=⟨(c::q).toArray⟩) (by simp [ByteArray.size]) (by simp [ByteArray.size];omega) (let_B c hc).1 fun i hi => ?_
 have hi:i<(c::q).length:=by simpa [ByteArray.size] using hi
 show (letB ((((c::q).getD i 0).toNat:Nat):Int)||digB ((((c::q).getD i 0).toNat:Nat):Int))=true
 refine wrd_B _ ?_
 cases i with
 |zero=>show wrdU c=true;unfold wrdU;rw [hc];rfl
 |succ i =>
  rw [List.getD_cons_succ,List.getD_eq_getElem?_getD,List.getElem?_eq_getElem (by simpa using hi)]
  exact List.all_eq_true.1 hq _ (List.getElem_mem _)
theorem readU_name {l:List UInt8} {s:List UInt8} {n:Nat} (h:readU l = .ok (2,s,n)):nameB ⟨s.toArray⟩=true:=by
 unfold readU at h
 split at h
 . cases h
 . rename_i c r
   have hs:=zCU (p:=wrdU) r
   split at h
   . cases h
   split at h
   . split at h
     . cases h
     . cases h
   split at h
   . split at h
     . cases h
     . cases h
   split at h
   . rename_i hl
     split at h
     . cases h
     . cases h
       exact name_tok hl hs.1 (by rw [hs.2];omega)
   split at h
   . split at h
     . cases h
     . split at h
       . cases h
       . cases h
   . cases h
theorem zKV : ∀ (f:Nat) (l:List UInt8) (i:Nat) (ts:List Tok),scanF f l i = .ok ts -> ∀ t∈ts,(t.k=2->nameB ⟨t.s.toArray⟩=true)/\1<=t.k/\t.k<=5
 |0,_,_,_,h=>by cases h
 |f+1,l,i,ts,h=>by
  unfold scanF at h
  split at h
  . cases h
    intro t ht
    rw [List.mem_singleton] at ht
    subst ht
    exact ⟨fun h=>absurd (show (5:Int)=2 from h) (by decide),show (1:Int)<=5 by decide,show (5:Int)<=5 by decide⟩
  . split at h
    . cases h
    . rename_i t n ht
      have hu:=zDd ht
      have hle:=zBK hu.1
      split at h
      . cases h
      . rename_i ts' hts
        cases h
        intro u hu'
        rcases List.mem_cons.1 hu' with rfl | hu'
        . refine ⟨fun hk => ?_,hle.2.2.1,by omega⟩
          have h1:=hu.1
          rw [hk] at h1
          exact readU_name h1
        . exact zKV f _ _ _ hts u hu'
end
section
theorem zFi {p:D->Bool} {l:List D} (h:Al p l):l.all p=true:=by
 rw [List.all_eq_true]
 intro x hx
 obtain ⟨i,hi,rfl⟩:=List.getElem_of_mem hx
 rw [<- zBx hi];exact h i hi
theorem zFF {el:PS->PR D} {p:D->Bool} (he : ∀ {y:PS},GT y->y.vr=false->Hr (fun d z=>Pv y z/\p d=true) (el y)) (hk : ∀ y d z,el y = .ok (d,z)->(hdT y).k=2) (e:List UInt8) (most:Nat) : ∀ (f:Nat) (acc:List D) {x:PS},GT x->x.vr=false->Al p acc->acc.length<=most->Hr (fun l z=>Pv x z/\Al p l/\1<=l.length/\l.length<=most) (manyF el e most f acc x)
 |0,_,_,_,_,_,_ => .err
 |f+1,acc,x,h,hv,ha,hl=>by
  unfold manyF
  refine .ite (fun hE => .okk ⟨h.pvn,ha,by have:=hE.1;omega,hl⟩) fun _ => .ite (fun _ => .err) fun hlim => ?_
  by_cases hk2:(hdT x).k=2
  . refine .then (he h hv) fun d y hy => ?_
    have hl2:acc.length<most:=Nat.lt_of_not_le fun h16=>hlim ⟨hk2,h16⟩
    exact (zFF he hk e most f _ hy.1.gt (hy.1.vr.trans hv) (ha.snoc hy.2) (by simp;omega)).mono fun l w hw=>⟨hy.1.trans hw.1,hw.2⟩
  . intro l z hq
    cases hx:el x with
    |error q=>rw [hx] at hq;cases hq
    |ok q=>obtain ⟨d,y⟩:=q;exact (hk2 (hk x d y hx)).elim
theorem zEc {α:Type} {f:List UInt8->PS->PR α} {y:PS} {d:α} {z:PS} (h:zb (nameQ y) f = .ok (d,z)):(hdT y).k=2:=by
 cases hx:nameQ y with
 |error q=>rw [hx] at h;cases h
 |ok q=>obtain ⟨n,w⟩:=q;exact hd_k2 (s:=[]) hx
theorem arg_rty {x:PS} (h:GT x) (hv:x.vr=false):Hr (fun d z=>Pv x z/\argY litR d=true) (argQ x):=by
 unfold argQ
 refine .name h fun n y hk hn hy => .then (zCR hy.gt) fun _ z hz => .then (zJ9 hz.1.gt) fun v u hu => .okk ⟨(hy.trans hz.1).trans hu.1,?_⟩
 show (nameB ⟨n.toArray⟩&&(litR v&&bareR (bulkD v) v))=true
 rw [hn,hu.2.1,hu.2.2 (hz.1.vr.trans (hy.vr.trans hv))];rfl
theorem args_rty {x:PS} (h:GT x) (hv:x.vr=false):Hr (fun l z=>Pv x z/\zFy litR l=true) (zBc x):=by
 unfold zBc
 refine .ite (fun _ => ?_) fun _ => .okk ⟨h.pv,rfl⟩
 rw [zDO]
 refine (zFF (fun h hv=>arg_rty h hv) (fun y d z hq=>zEc hq) _ _ _ [] h.nx ((zFC x).trans hv) Al.nil (by decide)).mono fun l z hz=>⟨h.pvn.trans hz.1,?_⟩
 unfold zFy
 rw [zFi hz.2.1,decide_eq_true hz.2.2.2];rfl
theorem zI9 : ∀ (f:Nat) (acc:List D) {x:PS},GT x->x.vr=false->Al (dirY litR) acc->acc.length<=16->Hr (fun l z=>Pv x z/\Al (dirY litR) l/\l.length<=16) (dirsF f acc x)
 |0,_,_,_,_,_,_ => .err
 |f+1,acc,x,h,hv,ha,hl=>by
  unfold dirsF
  refine .ite (fun _ => .ite (fun _ => .err) fun hlim => .then (zFD h.nx) fun n y hy => .then (args_rty hy.2.1.gt (hy.2.1.vr.trans ((zFC x).trans hv))) fun aa z hz => ?_) fun _ => .okk ⟨h.pv,ha,hl⟩
  have hd:dirY litR (dirD n aa)=true:=by
   show (nameB ⟨n.toArray⟩&&zFy litR aa)=true
   rw [hy.1,hz.2];rfl
  exact (zI9 f _ hz.1.gt (hz.1.vr.trans (hy.2.1.vr.trans ((zFC x).trans hv))) (ha.snoc hd) (by simp;omega)).mono fun l w hw=>⟨((h.pvn.trans hy.2.1).trans hz.1).trans hw.1,hw.2⟩
theorem zEh {x:PS} (h:GT x) (hv:x.vr=false):Hr (fun l z=>Pv x z/\dirsY litR l=true) (zAQ x):=by
 refine (zI9 _ [] h hv Al.nil (by decide)).mono fun l z hz=>⟨hz.1,?_⟩
 unfold dirsY
 rw [zFi hz.2.1,decide_eq_true hz.2.2];rfl
theorem null_valY:valY litR zER=true:=by kernel_rfl
theorem in_rty {x:PS} (h:GT x) (hv:x.vr=false):Hr (fun d z=>Pv x z/\inY litR d=true) (inQ x):=by
 unfold inQ
 refine .name h fun n y hk hn hy => .then (zCR hy.gt) fun _ z hz => .then (typ_rt hz.1.gt) fun t u hu => ?_
 have hvu:u.vr=false:=hu.2.vr.trans (hz.1.vr.trans (hy.vr.trans hv))
 refine .then (Q:=fun d o=>Pv u o/\valY litR d.2=true/\(d.1=true\/(d.2.f 0).n=0)) (.ite (fun _ => .then (zJ9 hu.2.gt.nx) fun v o ho => .okk ⟨hu.2.gt.pvn.trans ho.1,?_,.inl rfl⟩) fun _ => .okk ⟨hu.2.gt.pv,null_valY,.inr rfl⟩) fun d o ho => .then (zEh ho.1.gt (ho.1.vr.trans hvu)) fun ds w hw => .okk ⟨(((hy.trans hz.1).trans hu.2).trans ho.1).trans hw.1,?_⟩
 . show (litR v&&bareR (bulkD v) v)=true
   rw [ho.2.1,ho.2.2 ((zFC u).trans hvu)];rfl
 . show (nameB ⟨n.toArray⟩&&refR t&&dirsY litR ds&&valY litR d.2&&(d.1||(d.2.f 0).n==0))=true
   rw [hn,hu.1,hw.2,ho.2.1]
   rcases ho.2.2 with h1 | h1
   . rw [h1];rfl
   . rw [h1];simp
theorem ins_rty (e:List UInt8) {x:PS} (h:GT x) (hv:x.vr=false):Hr (fun l z=>Pv x z/\insY litR l=true/\1<=l.length) (insQ e x):=
 (zFF (fun h hv=>in_rty h hv) (fun y d z hq=>zEc hq) _ _ _ [] h hv Al.nil (by decide)).mono fun l z hz=>⟨hz.1,by unfold insY;rw [zFi hz.2.1,decide_eq_true hz.2.2.2];rfl,hz.2.2.1⟩
theorem fd_rty {x:PS} (h:GT x) (hv:x.vr=false):Hr (fun d z=>Pv x z/\fdY litR d=true) (fdQ x):=by
 unfold fdQ
 refine .name h fun n y hk hn hy => ?_
 refine .then (Q:=fun aa z=>Pv y z/\insY litR aa=true) (.ite (fun _=>(ins_rty _ hy.gt.nx ((zFC y).trans (hy.vr.trans hv))).mono fun l z hz=>⟨hy.gt.pvn.trans hz.1,hz.2.1⟩) fun _ => .okk ⟨hy.gt.pv,rfl⟩) fun aa z hz => .then (zCR hz.1.gt) fun _ u hu => .then (typ_rt hu.1.gt) fun t v hv' => .then (zEh hv'.2.gt (hv'.2.vr.trans (hu.1.vr.trans (hz.1.vr.trans (hy.vr.trans hv))))) fun ds w hw => .okk ⟨(((hy.trans hz.1).trans hu.1).trans hv'.2).trans hw.1,?_⟩
 show (nameB ⟨n.toArray⟩&&insY litR aa&&refR t&&dirsY litR ds)=true
 rw [hn,hz.2,hv'.1,hw.2];rfl
theorem mb_rty {x:PS} (h:GT x) (hv:x.vr=false):Hr (fun d z=>Pv x z/\mbY litR false d=true) (mbQ x):=by
 unfold mbQ
 refine .name h fun n y hk hn hy => .then (zEh hy.gt (hy.vr.trans hv)) fun ds w hw => .okk ⟨hy.trans hw.1,?_⟩
 show (nameB ⟨n.toArray⟩&&dirsY litR ds&&(!false||_))=true
 rw [hn,hw.2];rfl
def nmY (d:D):Bool:=nameB d.s
theorem zGR (s:List UInt8) : ∀ (f:Nat) (acc:List D) {x:PS},GT x->Al nmY acc->acc.length<=64->Hr (fun l z=>Pv x z/\Al nmY l/\1<=l.length/\l.length<=64) (namesF s f acc x)
 |0,_,_,_,_,_ => .err
 |f+1,acc,x,h,ha,hl=>by
  unfold namesF
  refine .ite (fun _ => .err) fun hlim => .name h fun n y hk hn hy => ?_
  have hl2:acc.length<64:=Nat.lt_of_not_le fun h16=>hlim ⟨hk,h16⟩
  have hd:nmY (strD n)=true:=hn
  exact .ite (fun _=>(zGR s f _ hy.gt.nx (ha.snoc hd) (by simp;omega)).mono fun l z hz=>⟨hy.nx.trans hz.1,hz.2⟩) fun _ => .okk ⟨hy,ha.snoc hd,by simp,by simp;omega⟩
theorem zIe (s:List UInt8) {x:PS} (h:GT x):Hr (fun l z=>Pv x z/\imY l=true/\1<=l.length) (zA0 s x):=
 (zGR s _ [] h Al.nil (by decide)).mono fun l z hz=>⟨hz.1,by unfold imY;rw [decide_eq_true hz.2.2.2,show (l.all fun x=>nameB x.s)=true from zFi hz.2.1];rfl,hz.2.2.1⟩
theorem faces_rty (k:Int) {x:PS} (h:GT x):Hr (fun l z=>Pv x z/\imY l=true/\(l.length=0\/k=1)) (zAo k x):=by
 unfold zAo
 exact .ite (fun hk=>(zIe _ h.nx).mono fun l z hz=>⟨h.pvn.trans hz.1,hz.2.1,.inr hk.1⟩) fun _ => .okk ⟨h.pv,rfl,.inl rfl⟩
theorem zIm {l:List D} (h:imY l=true):mbsY litR true (l.map mbOf)=true:=by
 unfold imY at h
 unfold mbsY
 rw [Bool.and_eq_true] at h |-
 refine ⟨by rw [List.length_map];exact h.1,?_⟩
 rw [List.all_map,List.all_eq_true]
 intro x hx
 have h1:nameB x.s=true:=List.all_eq_true.1 h.2 x hx
 show (nameB x.s&&dirsY litR []&&(!true||decide (([]:List D).length=0)))=true
 rw [h1];rfl
def bodY (k:Int) (b:List D × List D × List D):Prop:=
 fdsY litR b.1=true/\mbsY litR (k==3) b.2.1=true/\insY litR b.2.2=true/\((k=1\/k=2) ↔ 0<b.1.length)/\((k=3\/k=4) ↔ 0<b.2.1.length)/\(k=5 ↔ 0<b.2.2.length)
theorem body_rty {k:Int} (hk:1<=k/\k<=5) {x:PS} (h:GT x) (hv:x.vr=false):Hr (fun b z=>Pv x z/\bodY k b) (zBF k x):=by
 unfold zBF
 refine .ite (fun k3 => .then (zCR h) fun _ y hy => .then (zIe _ hy.1.gt) fun l z hz => .okk ⟨hy.1.trans hz.1,?_⟩) fun k3 => .then (zCR h) fun _ y hy => ?_
 . subst k3
   refine ⟨rfl,zIm hz.2.1,rfl,by simp,?_,by simp⟩
   have:=hz.2.2
   simp only [List.length_map]
   exact ⟨fun _=>by omega,fun _ => .inl trivial⟩
 have hvy:y.vr=false:=hy.1.vr.trans hv
 refine .ite (fun k5 => .then (ins_rty _ hy.1.gt hvy) fun l z hz => .okk ⟨hy.1.trans hz.1,?_⟩) fun k5 => .ite (fun k4 => .then (Q:=fun l z=>Pv y z/\mbsY litR false l=true/\1<=l.length) ?_ fun l z hz => .okk ⟨hy.1.trans hz.1,?_⟩) fun k4 => .then (Q:=fun l z=>Pv y z/\fdsY litR l=true/\1<=l.length) ?_ fun l z hz => .okk ⟨hy.1.trans hz.1,?_⟩
 . subst k5
   have:=hz.2.2
   exact ⟨rfl,rfl,hz.2.1,by simp,by simp,⟨fun _=>by show 0<l.length;omega,fun _=>rfl⟩⟩
 . exact (zFF (fun h hv=>mb_rty h hv) (fun y d z hq=>zEc hq) _ _ _ [] hy.1.gt hvy Al.nil (by decide)).mono fun l z hz=>⟨hz.1,by unfold mbsY;rw [zFi hz.2.1,decide_eq_true hz.2.2.2];rfl,hz.2.2.1⟩
 . subst k4
   have:=hz.2.2
   exact ⟨rfl,hz.2.1,rfl,by simp,⟨fun _=>by show 0<l.length;omega,fun _ => .inr rfl⟩,by simp⟩
 . exact (zFF (fun h hv=>fd_rty h hv) (fun y d z hq=>zEc hq) _ _ _ [] hy.1.gt hvy Al.nil (by decide)).mono fun l z hz=>⟨hz.1,by unfold fdsY;rw [zFi hz.2.1,decide_eq_true hz.2.2.2];rfl,hz.2.2.1⟩
 . have:=hz.2.2
   have e3:(k==3)=false:=by simpa using k3
   refine ⟨hz.2.1,by rw [e3];rfl,rfl,⟨fun _=>by show 0<l.length;omega,fun _=>by omega⟩,?_,?_⟩
   . simp;omega
   . simp;exact k5
theorem sdef_rty {k:Int} (hk:1<=k/\k<=5) {x:PS} (h:GT x) (hv:x.vr=false):Hr (fun d z=>Pv x z/\defY litR d=true) (zBQ k x):=by
 unfold zBQ
 refine .name h fun n y _ hn hy => .then (faces_rty k hy.gt) fun im z hz => .then (zEh hz.1.gt (hz.1.vr.trans (hy.vr.trans hv))) fun ds u hu => .then (body_rty hk hu.1.gt (hu.1.vr.trans (hz.1.vr.trans (hy.vr.trans hv)))) fun b w hw => .okk ⟨((hy.trans hz.1).trans hu.1).trans hw.1,?_⟩
 obtain ⟨b1,b2,b3,b4,b5,b6⟩:=hw.2
 show (kindY k b.1.length b.2.1.length b.2.2.length im.length&&nameB ⟨n.toArray⟩&&dirsY litR ds&&imY im&&fdsY litR b.1&&mbsY litR (k==3) b.2.1&&insY litR b.2.2)=true
 have hky:kindY k b.1.length b.2.1.length b.2.2.length im.length=true:=by
  unfold kindY
  simp only [Bool.and_eq_true,decide_eq_true_eq,Bool.or_eq_true,beq_iff_eq]
  refine ⟨⟨⟨⟨hk,hz.2.2⟩,?_⟩,?_⟩,?_⟩
  . rw [Bool.eq_iff_iff];simpa using b4
  . rw [Bool.eq_iff_iff];simpa using b5
  . rw [Bool.eq_iff_iff];simpa using b6
 rw [hky,hn,hu.2,hz.2.1,b1,b2,b3];rfl
theorem zID : ∀ (f:Nat) (acc:List D) {x:PS},GT x->x.vr=false->Al (defY litR) acc->acc.length<=64->Hr (fun l _=>Al (defY litR) l/\1<=l.length/\l.length<=64) (sdocF f acc x)
 |0,_,_,_,_,_,_ => .err
 |f+1,acc,x,h,hv,ha,hl=>by
  unfold sdocF
  refine .ite (fun hE => .okk ⟨ha,by have:=hE.1;omega,hl⟩) fun _ => .ite (fun _ => .err) fun hw => .ite (fun _ => .err) fun hlim => ?_
  have hk:0<zAk (hdT x).s:=by
   by_cases h2:0<zAk (hdT x).s
   . exact h2
   . exact (hw fun hh=>h2 hh.2).elim
  have hk5:=(zKq (hdT x).s).2
  refine .then (sdef_rty ⟨by omega,hk5⟩ h.nx ((zFC x).trans hv)) fun d y hy => ?_
  exact zID f _ hy.1.gt (hy.1.vr.trans ((zFC x).trans hv)) (ha.snoc hy.2) (by simp;omega)
theorem zIU {l:List UInt8} {q:D} (h:parseD l = .ok q) : ∃ ds,q=zA2 ds/\docY litR ds=true:=by
 unfold parseD at h
 split at h
 . cases h
 . rename_i ts hs
   split at h
   . cases h
   . rename_i p z hd
     cases h
     have hg:GT ⟨ts,false,0⟩:=by
      unfold scanT at hs
      split at hs
      . cases hs
      . exact zKV _ _ _ _ hs
     obtain ⟨h1,h2,h3⟩:=zID _ [] hg rfl Al.nil (by decide) _ _ hd
     refine ⟨p,rfl,?_⟩
     unfold docY
     rw [zFi h1,decide_eq_true ⟨h2,h3⟩];rfl
end
section
open Go.RowKit
set_option linter.unusedSectionVars false
def dfs6:Except (Nat × Int) D->List D
 |.ok q=>(q.f 0).l
 |.error _=>[]
def at6:Except (Nat × Int) D->Nat
 |.ok _=>0
 |.error x=>x.1
def er6:Except (Nat × Int) D->Int
 |.ok _=>0
 |.error x=>x.2
theorem zBR (s:List UInt8) (hs:s.length<=4000000000):AC EN5 Tryz.prog 10 [.c (.string (bs s))] (.tup [.agg [.sl 45 (dfs6 (parseD s))],.c (.int .i64 (at6 (parseD s):Int)),.c (.int .i64 (er6 (parseD s)))]):=by
 refine (zBt s hs).res ?_
 cases parseD s with
 |ok q=>exact .refl _
 |error x=>exact .tup (.cons (.agg (.cons (.nil _) .nil)) (.cons (.refl _) (.cons (.refl _) .nil)))
theorem zAV:Tryz.prog.underlying 9=some TypeDesc.string:=by kernel_rfl
attribute [local irreducible] wpList Calls Code.wp AW AWo OpOk seqK zm zo loopK endK AC zh Yld Sub
attribute [local irreducible] ACB ACX ACE absLexG YldG absLexH
section
variable (hEx:AC EN5 Tryz.prog 9 [] (.c (.bool true)))
include hEx
theorem zIr (s t:List UInt8) (h:4000<s.length\/4000<t.length):AC EN5 Tryz.prog 7 [.c (.string (bs s)),.c (.string (bs t))] (.c (.bool true)):=by
 have hz:=zZ s
 have hz2:=zZ t
 by_cases hs:4000<s.length
 . have f0:decide (((bs s).size:Int)>4000)=true:=decide_eq_true (by omega)
   have k0:(decide (((bs s).size:Int)>4000)==false)=true->False:=fun h=>by rw [f0] at h;cases h
   refine zM 88 Tryz.func7 rfl rfl rfl rfl ?_
   intro σ w he
   repeat' (first
|exact (k0 ‹_›).elim
|refine zA ?_
|refine zB ?_
|refine zH ?_
|apply aw_1
 conv=>whnf
 refine ⟨?_,trivial⟩
|apply zQ rfl rfl
 . conv=>lhs;whnf
 . conv=>lhs;whnf
 . first | exact bT1 ‹_› | exact bT2 ‹_›
|apply s_1
 conv=>whnf;arg 1;arg 4;arg 3;whnf
 refine ⟨?_,?_⟩
|apply zY rfl
 . conv=>lhs;whnf
 . conv=>lhs;whnf
 . first | exact hEx
|apply zV rfl
 . conv=>lhs;whnf
 . conv=>lhs;whnf
 . first | rfl | assumption
|apply zC rfl
 . conv=>lhs;whnf
 . conv=>lhs;whnf
 . conv=>lhs;whnf;arg 2;whnf
|refine zN ?_
|refine zE ?_
|refine ⟨_,by conv=>lhs;whnf;arg 2;whnf,?_⟩;conv=>rhs;whnf
|exact trivial
|intro hg)
   all_goals exact zAV
 . have f0:decide (((bs s).size:Int)>4000)=false:=decide_eq_false (by omega)
   have f1:decide (((bs t).size:Int)>4000)=true:=decide_eq_true (by omega)
   have k0:(decide (((bs s).size:Int)>4000)==false)=false->False:=fun h=>by rw [f0] at h;cases h
   refine zM 88 Tryz.func7 rfl rfl rfl rfl ?_
   intro σ w he
   repeat' (first
|apply zG
 . conv=>lhs;whnf
 . assumption
|exact (k0 ‹_›).elim
|refine zA ?_
|refine zB ?_
|refine zH ?_
|apply aw_1
 conv=>whnf
 refine ⟨?_,trivial⟩
|apply zO rfl rfl
 . conv=>lhs;whnf
 . conv=>lhs;whnf
 . first | exact bF1 ‹_› | exact bF2 ‹_›
|apply s_1
 conv=>whnf;arg 1;arg 4;arg 3;whnf
 refine ⟨?_,?_⟩
|apply zY rfl
 . conv=>lhs;whnf
 . conv=>lhs;whnf
 . first | exact hEx
|apply zD rfl
 . conv=>lhs;whnf
 . conv=>lhs;whnf
 . first | rfl | assumption
 . conv=>lhs;whnf;arg 2;whnf
|apply zC rfl
 . conv=>lhs;whnf
 . conv=>lhs;whnf
 . conv=>lhs;whnf;arg 2;whnf
|refine zN ?_
|refine zE ?_
|refine ⟨_,by conv=>lhs;whnf;arg 2;whnf,?_⟩;conv=>rhs;whnf
|exact trivial
|intro hg)
   all_goals exact zAV
section
variable (s t:List UInt8) (hs:s.length<=4000) (ht:t.length<=4000)
include hs ht
theorem zIs (hb:er6 (parseD s)≠0\/er6 (parseD t)≠0):AC EN5 Tryz.prog 7 [.c (.string (bs s)),.c (.string (bs t))] (.c (.bool true)):=by
 have hz:=zZ s
 have hz2:=zZ t
 have f0:decide (((bs s).size:Int)>4000)=false:=decide_eq_false (by omega)
 have f1:decide (((bs t).size:Int)>4000)=false:=decide_eq_false (by omega)
 have k0:(decide (((bs s).size:Int)>4000)==false)=false->False:=fun h=>by rw [f0] at h;cases h
 have h2:=zBR s (by omega)
 have h3:=zBR t (by omega)
 generalize dfs6 (parseD s)=x1 at h2
 generalize at6 (parseD s)=x3 at h2
 generalize er6 (parseD s)=x4 at h2 hb
 generalize dfs6 (parseD t)=y1 at h3
 generalize at6 (parseD t)=y3 at h3
 generalize er6 (parseD t)=y4 at h3 hb
 by_cases hx:x4=0
 . subst hx
   have hy:y4≠0:=hb.resolve_left fun h=>h rfl
   have f2:(y4 != 0)=true:=by simpa using hy
   have k1:((y4 != 0)==false)=true->False:=fun h=>by rw [f2] at h;cases h
   refine zM 88 Tryz.func7 rfl rfl rfl rfl ?_
   intro σ w he
   repeat' (first
|apply zF
 . conv=>lhs;whnf
 . assumption
|exact (k0 ‹_›).elim
|exact (k1 ‹_›).elim
|refine zA ?_
|refine zB ?_
|refine zH ?_
|apply aw_1
 conv=>whnf
 refine ⟨?_,trivial⟩
|apply zQ rfl rfl
 . conv=>lhs;whnf
 . conv=>lhs;whnf
 . first | exact bT1 ‹_› | exact bT2 ‹_›
|apply zO rfl rfl
 . conv=>lhs;whnf
 . conv=>lhs;whnf
 . first | exact bF1 ‹_› | exact bF2 ‹_›
|apply s_1
 conv=>whnf;arg 1;arg 4;arg 3;whnf
 refine ⟨?_,?_⟩
|apply zY rfl
 . conv=>lhs;whnf
 . conv=>lhs;whnf
 . first | exact hEx | exact h2 | exact h3
|apply zT rfl rfl rfl
 . conv=>lhs;whnf
 . conv=>lhs;whnf;arg 1;whnf
 . conv=>lhs;whnf;arg 1;whnf
 . exact ⟨by kernel_rfl,by kernel_rfl⟩
 . rfl
|apply zD rfl
 . conv=>lhs;whnf
 . conv=>lhs;whnf
 . first | rfl | assumption
 . conv=>lhs;whnf;arg 2;whnf
|apply zV rfl
 . conv=>lhs;whnf
 . conv=>lhs;whnf
 . first | rfl | assumption
|apply zC rfl
 . conv=>lhs;whnf
 . conv=>lhs;whnf
 . conv=>lhs;whnf;arg 2;whnf
|refine zN ?_
|refine zE ?_
|refine ⟨_,by conv=>lhs;whnf;arg 2;whnf,?_⟩;conv=>rhs;whnf
|exact trivial
|intro hg)
   all_goals exact zAV
 . have f2:(x4 != 0)=true:=by simpa using hx
   have k1:((x4 != 0)==false)=true->False:=fun h=>by rw [f2] at h;cases h
   refine zM 88 Tryz.func7 rfl rfl rfl rfl ?_
   intro σ w he
   repeat' (first
|apply zF
 . conv=>lhs;whnf
 . assumption
|exact (k0 ‹_›).elim
|exact (k1 ‹_›).elim
|refine zA ?_
|refine zB ?_
|refine zH ?_
|apply aw_1
 conv=>whnf
 refine ⟨?_,trivial⟩
|apply zQ rfl rfl
 . conv=>lhs;whnf
 . conv=>lhs;whnf
 . first | exact bT1 ‹_› | exact bT2 ‹_›
|apply zO rfl rfl
 . conv=>lhs;whnf
 . conv=>lhs;whnf
 . first | exact bF1 ‹_› | exact bF2 ‹_›
|apply s_1
 conv=>whnf;arg 1;arg 4;arg 3;whnf
 refine ⟨?_,?_⟩
|apply zY rfl
 . conv=>lhs;whnf
 . conv=>lhs;whnf
 . first | exact hEx | exact h2 | exact h3
|apply zT rfl rfl rfl
 . conv=>lhs;whnf
 . conv=>lhs;whnf;arg 1;whnf
 . conv=>lhs;whnf;arg 1;whnf
 . exact ⟨by kernel_rfl,by kernel_rfl⟩
 . rfl
|apply zD rfl
 . conv=>lhs;whnf
 . conv=>lhs;whnf
 . first | rfl | assumption
 . conv=>lhs;whnf;arg 2;whnf
|apply zV rfl
 . conv=>lhs;whnf
 . conv=>lhs;whnf
 . first | rfl | assumption
|apply zC rfl
 . conv=>lhs;whnf
 . conv=>lhs;whnf
 . conv=>lhs;whnf;arg 2;whnf
|refine zN ?_
|refine zE ?_
|refine ⟨_,by conv=>lhs;whnf;arg 2;whnf,?_⟩;conv=>rhs;whnf
|exact trivial
|intro hg)
   all_goals exact zAV
theorem joins6Ok {oa ob:List D} (ha:parseD s = .ok (zA2 oa)) (hb:parseD t = .ok (zA2 ob)) (na:1<=oa.length/\oa.length<=64) (nb:1<=ob.length/\ob.length<=64):AC EN5 Tryz.prog 7 [.c (.string (bs s)),.c (.string (bs t))] (.c (.bool true)):=by
 have hz:=zZ s
 have hz2:=zZ t
 have f0:decide (((bs s).size:Int)>4000)=false:=decide_eq_false (by omega)
 have f1:decide (((bs t).size:Int)>4000)=false:=decide_eq_false (by omega)
 have k0:(decide (((bs s).size:Int)>4000)==false)=false->False:=fun h=>by rw [f0] at h;cases h
 have h2:=zBt s (by omega)
 have h3:=zBt t (by omega)
 rw [ha] at h2
 rw [hb] at h3
 have h2:AC EN5 Tryz.prog 10 [.c (.string (bs s))] (.tup [.agg [.sl 45 oa],.c (.int .i64 0),.c (.int .i64 0)]):=h2
 have h3:AC EN5 Tryz.prog 10 [.c (.string (bs t))] (.tup [.agg [.sl 45 ob],.c (.int .i64 0),.c (.int .i64 0)]):=h3
 by_cases hn:oa.length+ob.length<=64
 . have h4:=zBt (s++10::t) (by simp;omega)
   rw [joinsD_law (by omega) ha hb hn] at h4
   have hbs:bs (s++10::t)=bs s ++ { data:=#[10] }++bs t:=by
    apply ByteArray.ext
    simp [bs]
   rw [hbs] at h4
   have h4:AC EN5 Tryz.prog 10 [.c (.string (bs s ++ { data:=#[10] }++bs t))] (.tup [.agg [.sl 45 (oa++ob)],.c (.int .i64 0),.c (.int .i64 0)]):=h4
   have h5:=zFV (zA2 (oa++ob))
   have f2:decide ((oa.length:Int)+(ob.length:Int)>64)=false:=decide_eq_false (by omega)
   refine zM 88 Tryz.func7 rfl rfl rfl rfl ?_
   intro σ w he
   repeat' (first
|apply zF
 . conv=>lhs;whnf
 . assumption
|exact (k0 ‹_›).elim
|refine zA ?_
|refine zB ?_
|refine zH ?_
|apply aw_1
 conv=>whnf
 refine ⟨?_,trivial⟩
|apply zO rfl rfl
 . conv=>lhs;whnf
 . conv=>lhs;whnf
 . first | exact bF1 ‹_› | exact bF2 ‹_›
|apply s_1
 conv=>whnf;arg 1;arg 4;arg 3;whnf
 refine ⟨?_,?_⟩
|apply zY rfl
 . conv=>lhs;whnf
 . conv=>lhs;whnf
 . first | exact hEx | exact h2 | exact h3 | exact h4 | exact h5
|apply zT rfl rfl rfl
 . conv=>lhs;whnf
 . conv=>lhs;whnf;arg 1;whnf
 . conv=>lhs;whnf;arg 1;whnf
 . exact ⟨by kernel_rfl,by kernel_rfl⟩
 . rfl
|apply zDb rfl rfl
 . conv=>lhs;whnf
 . first | exact zI8 | (conv=>lhs;whnf;arg 1;whnf)
 . first | exact fun _=>rfl | (intro _;kernel_rfl)
 . conv=>lhs;whnf
 . conv=>lhs;whnf;arg 1;whnf
 . conv=>lhs;whnf
|apply s_app_nil rfl rfl rfl rfl
 . first | exact zI8 | (conv=>lhs;whnf;arg 1;whnf)
 . first | exact fun _=>rfl | (intro _;kernel_rfl)
 . conv=>lhs;whnf
 . conv=>lhs;whnf
|apply zD rfl
 . conv=>lhs;whnf
 . conv=>lhs;whnf
 . first | rfl | assumption
 . conv=>lhs;whnf;arg 2;whnf
|apply zX rfl
 . conv=>lhs;whnf
 . conv=>lhs;whnf
 . first | rfl | assumption
 . conv=>lhs;whnf
 . first | exact hEx | exact h2 | exact h3 | exact h4 | exact h5
|apply zC rfl
 . conv=>lhs;whnf
 . conv=>lhs;whnf
 . conv=>lhs;whnf;arg 2;whnf
|refine zE ?_
|refine ⟨_,by conv=>lhs;whnf;arg 2;whnf,?_⟩;conv=>rhs;whnf
|exact trivial
|intro hg)
   all_goals first
    |exact zAV
    |exact zR (by omega)
    |exact ⟨by omega,by unfold maxLen;omega,by omega⟩
    |(simp only [ByteArray.size_append,hz,hz2,zBL,List.size_toArray,List.length_cons,List.length_nil,maxLen];omega)
    |rfl
    |skip
 . have f2:decide ((oa.length:Int)+(ob.length:Int)>64)=true:=decide_eq_true (by omega)
   refine zM 88 Tryz.func7 rfl rfl rfl rfl ?_
   intro σ w he
   repeat' (first
|apply zG
 . conv=>lhs;whnf
 . assumption
|apply zF
 . conv=>lhs;whnf
 . assumption
|exact (k0 ‹_›).elim
|refine zA ?_
|refine zB ?_
|refine zH ?_
|apply aw_1
 conv=>whnf
 refine ⟨?_,trivial⟩
|apply zO rfl rfl
 . conv=>lhs;whnf
 . conv=>lhs;whnf
 . first | exact bF1 ‹_› | exact bF2 ‹_›
|apply s_1
 conv=>whnf;arg 1;arg 4;arg 3;whnf
 refine ⟨?_,?_⟩
|apply zY rfl
 . conv=>lhs;whnf
 . conv=>lhs;whnf
 . first | exact hEx | exact h2 | exact h3
|apply zT rfl rfl rfl
 . conv=>lhs;whnf
 . conv=>lhs;whnf;arg 1;whnf
 . conv=>lhs;whnf;arg 1;whnf
 . exact ⟨by kernel_rfl,by kernel_rfl⟩
 . rfl
|apply zD rfl
 . conv=>lhs;whnf
 . conv=>lhs;whnf
 . first | rfl | assumption
 . conv=>lhs;whnf;arg 2;whnf
|apply zC rfl
 . conv=>lhs;whnf
 . conv=>lhs;whnf
 . conv=>lhs;whnf;arg 2;whnf
|refine zN ?_
|refine zE ?_
|refine ⟨_,by conv=>lhs;whnf;arg 2;whnf,?_⟩;conv=>rhs;whnf
|exact trivial
|intro hg)
   all_goals first
    |exact zAV
    |exact zR (by omega)
    |rfl
    |skip
end
end
end
section
def lenW:List (List UInt8)->Nat
 |[]=>0
 |w::r=>w.length+1+lenW r
theorem zDK : ∀ ws:List (List UInt8),(zCK ws).length<=lenW ws
 |[]=>Nat.zero_le _
 |[w]=>by show w.length<=w.length+1+0;omega
 |w::v::r=>by
  have:=zDK (v::r)
  rw [zCK,List.length_append,List.length_cons]
  show _<=w.length+1+lenW (v::r)
  omega
theorem word_short (k:Int) (s:List UInt8):(zCN k s).length<=6*s.length+2:=by
 unfold zCN
 split
 . have:=zCF s
   simp only [zAX,List.length_append,List.length_cons,List.length_nil];omega
 . omega
theorem Lex.short {l:List UInt8} {ks:List (Int × List UInt8)} (h:Lex l ks):lenW (zEF ks)<=9*l.length:=by
 induction h with
 |done h=>exact Nat.zero_le _
 |tok h ht hr ih =>
  rename_i l c r k s n ks
  have h1:=zBK ht
  have h2:=readU_sl ht
  have h3:=word_short k s
  have hlen:(c::r).length<=l.length:=by rw [<- h,List.length_drop];omega
  rw [List.length_drop] at ih
  show (zCN k s).length+1+lenW (zEF ks)<=_
  omega
theorem zE6 {l:List UInt8} {ts:List Tok} (h:scanT l = .ok ts) (hl:l.length<=4000):(printT ts).length<=65536:=by
 unfold scanT at h
 split at h
 . cases h
 . obtain ⟨ks,h1,h2⟩:=Lex.of_scan _ _ _ _ h
   have h3:printT ts=zCK (zEF ks):=by unfold printT;rw [zCC h2 h1.kinds]
   have h4:=zDK (zEF ks)
   have h5:=h1.short
   rw [h3];omega
theorem zGJ {l:List UInt8} {ts:List Tok} {i:Nat} {e:Int} (hs:scanT l = .ok ts) (h:parseD l = .error (i,e)):e≠0/\i<=l.length:=by
 unfold parseD at h
 rw [hs] at h
 dsimp only at h
 cases hd:sdocQ ts with
 |ok p=>obtain ⟨o,z⟩:=p;rw [hd] at h;cases h
 |error x =>
  rw [hd] at h
  cases h
  obtain ⟨h1,h2⟩:=zE2 hs
  exact ⟨by have:=(sdoc_mz h1 i e hd).1;omega,zKP h2 hd⟩
theorem zE7 {l:List UInt8} {x:Nat × Int} (hs:scanT l = .error x):parseD l = .error x:=by
 unfold parseD;rw [hs]
theorem zEx : ∀ (ws:List (List UInt8)) (w:List UInt8),zCK (ws++[w])=if ws=[] then w else zCK ws++32::w
 |[],w=>rfl
 |[v],w=>rfl
 |v::u::r,w=>by
  have ih:=zEx (u::r) w
  rw [if_neg (List.cons_ne_nil _ _)] at ih
  rw [if_neg (List.cons_ne_nil _ _)]
  show v++32::zCK (u::r++[w])=_
  rw [ih]
  show _=(v++32::zCK (u::r))++32::w
  simp only [List.append_assoc,List.cons_append]
theorem zHT : ∀ a b:List (List UInt8),lenW (a++b)=lenW a+lenW b
 |[],b=>by simp [lenW]
 |w::a,b=>by
  have:=zHT a b
  simp only [List.cons_append,lenW,this];omega
end
section
open Go.RowKit
set_option linter.unusedSectionVars false
theorem words_all {l:List UInt8} {ts:List Tok} (h:scanT l = .ok ts):lenW (zAE ts)<=9*l.length:=by
 unfold scanT at h
 split at h
 . cases h
 . obtain ⟨ks,h1,h2⟩:=Lex.of_scan _ _ _ _ h
   have h3:zAE ts=zEF ks:=zCC h2 h1.kinds
   rw [h3];exact h1.short
theorem zF3 (ts:List Tok) (i:Nat):lenW (zAE (ts.take i))<=lenW (zAE ts):=by
 have e:zAE ts=zAE (ts.take i)++zAE (ts.drop i):=by
  unfold zAE
  rw [<- List.map_append,<- List.filter_append,List.take_append_drop]
 rw [e,zHT];omega
theorem zAm (ts:List Tok):printT ts=zCK (zAE ts):=rfl
theorem zJI {α:Type} {l:List α} {i n:Nat} (h:i<n) (e:l.length=n):0<=(i:Int)/\(i:Int)<(l.length:Int):=⟨by omega,by omega⟩
theorem zGr {a b:ByteArray} (h:tx a=tx b):V.c (.string a)=V.c (.string b):=by rw [<- bs_tx a,h,bs_tx]
attribute [local irreducible] wpList Calls Code.wp AW AWo OpOk seqK zm zo loopK endK AC zh Yld Sub
attribute [local irreducible] ACB ACX ACE absLexG YldG
noncomputable def HPF (ts:List Tok) (i:Nat):Vst 44:=stS 44 [(0,.sl 70 (ts.map tokD)),(3,.c (.string (bs (printT (ts.take i))))),(4,.c (.bool (zAE (ts.take i)).isEmpty)),(5,.c (.int .i64 (i:Int)))] []
theorem zIQ {s:List UInt8} {ts:List Tok} (hsc:scanT s = .ok ts) (hs:s.length<=4000):AC EN5 Tryz.prog 17 [.sl 70 (ts.map tokD)] (.c (.string (bs (printT ts)))):=by
 have hml:(ts.map tokD).length=ts.length:=List.length_map ..
 have hcn:ts.length<=1000000:=by have:=zIF hsc;omega
 have hall:=words_all hsc
 have hP : ∀ i,(printT (ts.take i)).length<=36000:=fun i=>by
  have h1:=zDK (zAE (ts.take i))
  have h2:=zF3 ts i
  rw [zAm];omega
 refine zM 44 Tryz.func17 rfl rfl rfl rfl ?_
 intro σ w he
 repeat' (first
|refine zA ?_
|refine zB ?_
|refine zH ?_
|apply aw_1
 conv=>whnf
 refine ⟨?_,trivial⟩
|apply s_1
 conv=>whnf;arg 1;arg 4;arg 3;whnf
 refine ⟨?_,?_⟩
|exact trivial)
 refine zf (fun j st => ∃ i,i+j=ts.length/\Sub (cx EN5 Tryz.prog σ w he) st (HPF ts i)) ts.length ⟨0,by omega,Sub.live ⟨rfl,rfl,rfl,rfl,trivial⟩ trivial⟩ ?_
 rintro j st ⟨i,hij,hs2⟩
 refine zi hs2 ?_
 clear hs2
 by_cases hi:i<ts.length
 . have f1:decide ((i:Int)<((ts.map tokD).length:Nat))=true:=decide_eq_true (by omega)
   have hwt:=words_take hi
   have hPi:=hP i
   have hwl:(if ts[i].k=5 then [] else [zCN ts[i].k ts[i].s]:List (List UInt8))=[]\/(zCN ts[i].k ts[i].s).length<=36000:=by
    have h2:=zF3 ts (i+1)
    rw [hwt,zHT] at h2
    by_cases h5:ts[i].k=5
    . left;rw [if_pos h5]
    . right
      rw [if_neg h5] at h2
      simp only [lenW] at h2
      omega
   have eT:gD (ts.map tokD) i=tokD ts[i]:=gD_tok hi
   have hsl:ts[i].s.length<=100000:=by
    obtain ⟨a,e,-,-,h⟩:=(zE2 hsc).1
    exact h ts[i] (List.getElem_mem hi)
   have hts:((gD (ts.map tokD) i).f 1).s=bs ts[i].s:=el_s hi
   have hsz:((gD (ts.map tokD) i).f 1).s.size=ts[i].s.length:=by rw [hts,zZ]
   have hqu:AC EN5 Tryz.prog 38 [.c (.string ((gD (ts.map tokD) i).f 1).s)] (.c (.string (bs (zAX ts[i].s)))):=by
    rw [hts]
    have:=(quoteR_ac (bs ts[i].s) (by rw [zZ];omega)).five
    rwa [show tx (bs ts[i].s)=ts[i].s from zAG _] at this
   cases h5:(((gD (ts.map tokD) i).f 0).n==5) with
   |true =>
    have hk:ts[i].k=5:=by simpa using el_k hi h5
    rw [if_pos hk,List.append_nil] at hwt
    have hpt:printT (ts.take (i+1))=printT (ts.take i):=by rw [zAm,zAm,hwt]
    repeat' (first
|apply zG
 . conv=>lhs;whnf
 . assumption
|refine zA ?_
|refine zB ?_
|refine zH ?_
|apply aw_1
 conv=>whnf
 refine ⟨?_,trivial⟩
|apply s_1
 conv=>whnf;arg 1;arg 4;arg 3;whnf
 refine ⟨?_,?_⟩
|refine zL ?_
|refine zJ rfl ?_
|exact trivial)
    all_goals first
     |exact zR (by omega)
     |exact zJI hi hml
     |(refine zI (j':=j-1) (by omega) ⟨i+1,by omega,Sub.live ⟨rfl,?_,?_,rfl,trivial⟩ trivial⟩
       . show V.c (.string (bs (printT (ts.take i))))=V.c (.string (bs (printT (ts.take (i+1)))))
         rw [hpt]
       . show V.c (.bool (zAE (ts.take i)).isEmpty)=V.c (.bool (zAE (ts.take (i+1))).isEmpty)
         rw [hwt])
     |skip
   |false =>
    have hk : ¬ ts[i].k=5:=by simpa using el_k hi h5
    rw [if_neg hk] at hwt hwl
    have hwl:(zCN ts[i].k ts[i].s).length<=36000:=hwl.resolve_left (List.cons_ne_nil _ _)
    have hne:(zAE (ts.take (i+1))).isEmpty=false:=by rw [hwt];simp
    have hpt:printT (ts.take (i+1))=if zAE (ts.take i)=[] then zCN ts[i].k ts[i].s else printT (ts.take i)++32::zCN ts[i].k ts[i].s:=by
     rw [zAm,hwt,zEx];rfl
    cases h4:(((gD (ts.map tokD) i).f 0).n==4) with
    |true =>
     have hwu:zCN ts[i].k ts[i].s=zAX ts[i].s:=by
      have:=el_k hi h4
      unfold zCN
      rw [if_pos (by simpa using this)]
     rw [hwu] at hpt hwl
     by_cases hem:zAE (ts.take i)=[]
     . have fe:(!(zAE (ts.take i)).isEmpty)=false:=by rw [hem];rfl
       rw [if_pos hem] at hpt
       have hp0:printT (ts.take i)=[]:=by rw [zAm,hem];rfl
       repeat' (first
|apply zG
 . conv=>lhs;whnf
 . assumption
|apply zF
 . conv=>lhs;whnf
 . assumption
|refine zA ?_
|refine zB ?_
|refine zH ?_
|refine zW ?_
|apply aw_1
 conv=>whnf
 refine ⟨?_,trivial⟩
|apply s_1
 conv=>whnf;arg 1;arg 4;arg 3;whnf
 refine ⟨?_,?_⟩
|apply zY rfl
 . conv=>lhs;whnf
 . conv=>lhs;whnf
 . first | exact hqu
|exact trivial)
       all_goals first
        |exact zR (by omega)
        |exact zJI hi hml
        |(refine zI (j':=j-1) (by omega) ⟨i+1,by omega,Sub.live ⟨rfl,?_,?_,rfl,trivial⟩ trivial⟩
          . show V.c (.string (bs (printT (ts.take i))++bs (zAX ts[i].s)))=V.c (.string (bs (printT (ts.take (i+1)))))
            rw [hpt,hp0]
            refine zGr ?_
            simp only [zDW,tx_bs,List.nil_append]
          . show V.c (.bool false)=V.c (.bool (zAE (ts.take (i+1))).isEmpty)
            rw [hne])
        |(have q:((gD (ts.map tokD) ((i:Int)).toNat).f (0+1)).s.size=ts[i].s.length:=hsz
          simp only [ByteArray.size_append,zZ,zBL,List.size_toArray,List.length_cons,List.length_nil,q,maxLen]
          omega)
        |((simp only [ByteArray.size_append,zZ,zBL,List.size_toArray,List.length_append,List.length_cons,List.length_nil,maxLen,Nat.reduceAdd,Int.toNat_natCast];omega);done)
        |skip
     . have fe:(!(zAE (ts.take i)).isEmpty)=true:=by
        cases hq:zAE (ts.take i) with
        |nil=>exact (hem hq).elim
        |cons a b=>rfl
       rw [if_neg hem] at hpt
       repeat' (first
|apply zG
 . conv=>lhs;whnf
 . assumption
|apply zF
 . conv=>lhs;whnf
 . assumption
|refine zA ?_
|refine zB ?_
|refine zH ?_
|refine zW ?_
|apply aw_1
 conv=>whnf
 refine ⟨?_,trivial⟩
|apply s_1
 conv=>whnf;arg 1;arg 4;arg 3;whnf
 refine ⟨?_,?_⟩
|apply zY rfl
 . conv=>lhs;whnf
 . conv=>lhs;whnf
 . first | exact hqu
|exact trivial)
       all_goals first
        |exact zR (by omega)
        |exact zJI hi hml
        |(refine zI (j':=j-1) (by omega) ⟨i+1,by omega,Sub.live ⟨rfl,?_,?_,rfl,trivial⟩ trivial⟩
          . show V.c (.string (bs (printT (ts.take i)) ++ { data:=#[32] }++bs (zAX ts[i].s)))=V.c (.string (bs (printT (ts.take (i+1)))))
            rw [hpt]
            refine zGr ?_
            simp only [zDW,tx_bs,List.append_assoc];rfl
          . show V.c (.bool false)=V.c (.bool (zAE (ts.take (i+1))).isEmpty)
            rw [hne])
        |(have q:((gD (ts.map tokD) ((i:Int)).toNat).f (0+1)).s.size=ts[i].s.length:=hsz
          simp only [ByteArray.size_append,zZ,zBL,List.size_toArray,List.length_cons,List.length_nil,q,maxLen]
          omega)
        |((simp only [ByteArray.size_append,zZ,zBL,List.size_toArray,List.length_append,List.length_cons,List.length_nil,maxLen,Nat.reduceAdd,Int.toNat_natCast];omega);done)
        |skip
    |false =>
     have hwu:zCN ts[i].k ts[i].s=ts[i].s:=by
      have:=el_k hi h4
      unfold zCN
      rw [if_neg (by simpa using this)]
     rw [hwu] at hpt hwl
     by_cases hem:zAE (ts.take i)=[]
     . have fe:(!(zAE (ts.take i)).isEmpty)=false:=by rw [hem];rfl
       rw [if_pos hem] at hpt
       have hp0:printT (ts.take i)=[]:=by rw [zAm,hem];rfl
       repeat' (first
|apply zG
 . conv=>lhs;whnf
 . assumption
|apply zF
 . conv=>lhs;whnf
 . assumption
|refine zA ?_
|refine zB ?_
|refine zH ?_
|refine zW ?_
|apply aw_1
 conv=>whnf
 refine ⟨?_,trivial⟩
|apply s_1
 conv=>whnf;arg 1;arg 4;arg 3;whnf
 refine ⟨?_,?_⟩
|exact trivial)
       all_goals first
        |exact zR (by omega)
        |exact zJI hi hml
        |(refine zI (j':=j-1) (by omega) ⟨i+1,by omega,Sub.live ⟨rfl,?_,?_,rfl,trivial⟩ trivial⟩
          . show V.c (.string (bs (printT (ts.take i))++((gD (ts.map tokD) i).f 1).s))=V.c (.string (bs (printT (ts.take (i+1)))))
            rw [hpt,hp0,hts]
            refine zGr ?_
            simp only [zDW,tx_bs,List.nil_append]
          . show V.c (.bool false)=V.c (.bool (zAE (ts.take (i+1))).isEmpty)
            rw [hne])
        |(have q:((gD (ts.map tokD) ((i:Int)).toNat).f (0+1)).s.size=ts[i].s.length:=hsz
          simp only [ByteArray.size_append,zZ,zBL,List.size_toArray,List.length_cons,List.length_nil,q,maxLen]
          omega)
        |((simp only [ByteArray.size_append,zZ,zBL,List.size_toArray,List.length_append,List.length_cons,List.length_nil,maxLen,Nat.reduceAdd,Int.toNat_natCast];omega);done)
        |skip
     . have fe:(!(zAE (ts.take i)).isEmpty)=true:=by
        cases hq:zAE (ts.take i) with
        |nil=>exact (hem hq).elim
        |cons a b=>rfl
       rw [if_neg hem] at hpt
       repeat' (first
|apply zG
 . conv=>lhs;whnf
 . assumption
|apply zF
 . conv=>lhs;whnf
 . assumption
|refine zA ?_
|refine zB ?_
|refine zH ?_
|refine zW ?_
|apply aw_1
 conv=>whnf
 refine ⟨?_,trivial⟩
|apply s_1
 conv=>whnf;arg 1;arg 4;arg 3;whnf
 refine ⟨?_,?_⟩
|exact trivial)
       all_goals first
        |exact zR (by omega)
        |exact zJI hi hml
        |(refine zI (j':=j-1) (by omega) ⟨i+1,by omega,Sub.live ⟨rfl,?_,?_,rfl,trivial⟩ trivial⟩
          . show V.c (.string (bs (printT (ts.take i)) ++ { data:=#[32] }++((gD (ts.map tokD) i).f 1).s))=V.c (.string (bs (printT (ts.take (i+1)))))
            rw [hpt,hts]
            refine zGr ?_
            simp only [zDW,tx_bs,List.append_assoc];rfl
          . show V.c (.bool false)=V.c (.bool (zAE (ts.take (i+1))).isEmpty)
            rw [hne])
        |(have q:((gD (ts.map tokD) ((i:Int)).toNat).f (0+1)).s.size=ts[i].s.length:=hsz
          simp only [ByteArray.size_append,zZ,zBL,List.size_toArray,List.length_cons,List.length_nil,q,maxLen]
          omega)
        |((simp only [ByteArray.size_append,zZ,zBL,List.size_toArray,List.length_append,List.length_cons,List.length_nil,maxLen,Nat.reduceAdd,Int.toNat_natCast];omega);done)
        |skip
 . have f1:decide ((i:Int)<((ts.map tokD).length:Nat))=false:=decide_eq_false (by omega)
   have ei:i=ts.length:=by omega
   repeat' (first
|apply zF
 . conv=>lhs;whnf
 . assumption
|refine zA ?_
|refine zB ?_
|refine zH ?_
|apply aw_1
 conv=>whnf
 refine ⟨?_,trivial⟩
|apply s_1
 conv=>whnf;arg 1;arg 4;arg 3;whnf
 refine ⟨?_,?_⟩
|refine zL ?_
|refine zJ rfl ?_
|refine zK ?_
|refine zE ?_
|refine ⟨_,by conv=>lhs;whnf;arg 2;whnf,?_⟩;conv=>rhs;whnf
|exact trivial)
   rw [ei,List.take_length]
end
section
open Go.RowKit
attribute [local irreducible] wpList Calls Code.wp
def sg0 (W:World):Sg:=⟨fun b o=>(W.cell? ⟨b,o,none⟩).isSome,fun _=>none,fun _=>none,fun _=>(undef,0)⟩
theorem zGh {P:Program} {w:World} {n:String} {g:Nat} {cs:Array Value} (hg:P.globalNamed n=some g) (h:w.var? P n=some cs):g+1<=w.heap.size:=by
 unfold World.var? at h
 rw [hg] at h
 simp only [Option.bind_some] at h
 rcases Nat.lt_or_ge g w.heap.size with h' | h'
 . exact h'
 . rw [Array.getElem?_eq_none h'] at h;cases h
theorem en5_of {W:World} (h:Env W):EN5.E W:=by
 obtain ⟨h1,⟨tp,p,h2⟩,⟨tp',p',h3⟩⟩:=id h
 have a1:=zGh gPow h1
 have a2:=zGh gErrR h2
 have a3:=zGh gErrS h3
 exact ⟨h,Nat.max_le.2 ⟨a1,Nat.max_le.2 ⟨a2,a3⟩⟩⟩
theorem zCl {f:FuncId} {args:List V} {W:World} {us:Array Value} (h:AC EN5 Tryz.prog f args (.c (.bool true))) (hr:relL Tryz.prog (sg0 W) W args us.toList) (he:Env W):Calls Tryz.prog f us W fun e W'=>e = .returned (.bool true)/\Below W.heap.size W W':=by
 refine (h (sg0 W) W us hr (fun b o h=>h) (en5_of he)).mono ?_
 rintro e W' ⟨v,F',rfl,hfr,-,-,-,hv⟩
 rw [rel] at hv
 obtain ⟨rfl,-⟩:=hv
 exact ⟨rfl,hfr.below⟩
theorem relL1 {P:Program} {s:Sg} {w:World} {v:V} {u:Value} (h:rel P s w v u):relL P s w [v] (#[u]:Array Value).toList:=by
 show relL P s w [v] [u]
 rw [relL];exact ⟨h,by simp [relL]⟩
theorem relL2 {P:Program} {s:Sg} {w:World} {v v2:V} {u u2:Value} (h:rel P s w v u) (h2:rel P s w v2 u2):relL P s w [v,v2] (#[u,u2]:Array Value).toList:=by
 show relL P s w [v,v2] [u,u2]
 rw [relL,relL];exact ⟨h,h2,by simp [relL]⟩
end
section
open Go.RowKit
set_option linter.unusedSectionVars false
attribute [local irreducible] wpList Calls Code.wp AW AWo OpOk seqK zm zo loopK endK AC zh Yld Sub
attribute [local irreducible] ACB ACX ACE absLexG YldG absLexH
theorem let_iff (c:UInt8):letU c=true ↔ (97<=c.toNat/\c.toNat<=122)\/(65<=c.toNat/\c.toNat<=90)\/c.toNat=95:=by
 have:c=95 ↔ c.toNat=95:=⟨fun h=>by rw [h];rfl,fun h=>UInt8.toNat_inj.1 h⟩
 unfold letU
 simp only [Bool.or_eq_true,decide_eq_true_eq,beq_iff_eq,this]
 omega
theorem zAH (c:UInt8):AC EN5 Tryz.prog 79 [.c (.int .u8 (c.toNat:Int))] (.c (.bool (letU c))):=by
 refine zM 21 Tryz.func79 rfl rfl rfl rfl ?_
 intro s w he
 repeat' (first
|apply z7 rfl rfl rfl
 . conv=>lhs;whnf
 . first | rfl | assumption
 . conv=>lhs;whnf
 . first | exact bT1 ‹_› | exact bT2 ‹_› | rfl
|apply zx rfl rfl rfl
 . conv=>lhs;whnf
 . first | rfl | assumption
 . conv=>lhs;whnf
 . first | exact bF1 ‹_› | exact bF2 ‹_› | rfl
|refine zA ?_
|refine zB ?_
|refine zH ?_
|apply aw_1
 conv=>whnf
 refine ⟨?_,trivial⟩
|apply zQ rfl rfl
 . conv=>lhs;whnf
 . conv=>lhs;whnf
 . first | exact bT1 ‹_› | exact bT2 ‹_›
|apply zO rfl rfl
 . conv=>lhs;whnf
 . conv=>lhs;whnf
 . first | exact bF1 ‹_› | exact bF2 ‹_›
|apply s_1
 conv=>whnf;arg 1;arg 4;arg 3;whnf
 refine ⟨?_,?_⟩
|apply zD rfl
 . conv=>lhs;whnf
 . conv=>lhs;whnf
 . first | rfl | assumption
 . conv=>lhs;whnf;arg 2;whnf
|apply zV rfl
 . conv=>lhs;whnf
 . conv=>lhs;whnf
 . first | rfl | assumption
|apply zC rfl
 . conv=>lhs;whnf
 . conv=>lhs;whnf
 . conv=>lhs;whnf;arg 2;whnf
|refine zE ?_
|refine ⟨_,by conv=>lhs;whnf;arg 2;whnf,?_⟩;conv=>rhs;whnf
|exact trivial
|intro hg)
 all_goals
  refine congrArg (fun b=>V.c (.bool b)) ?_
  rw [Bool.eq_iff_iff,let_iff]
  clear he
  simp at *
  omega
theorem zAU (c:UInt8):AC EN5 Tryz.prog 81 [.c (.int .u8 (c.toNat:Int))] (.c (.bool (digU c))):=by
 refine zM 9 Tryz.func81 rfl rfl rfl rfl ?_
 intro s w he
 repeat' (first
|refine zA ?_
|refine zB ?_
|refine zH ?_
|apply aw_1
 conv=>whnf
 refine ⟨?_,trivial⟩
|apply zQ rfl rfl
 . conv=>lhs;whnf
 . conv=>lhs;whnf
 . first | exact bT1 ‹_› | exact bT2 ‹_›
|apply zO rfl rfl
 . conv=>lhs;whnf
 . conv=>lhs;whnf
 . first | exact bF1 ‹_› | exact bF2 ‹_›
|apply s_1
 conv=>whnf;arg 1;arg 4;arg 3;whnf
 refine ⟨?_,?_⟩
|apply zD rfl
 . conv=>lhs;whnf
 . conv=>lhs;whnf
 . first | rfl | assumption
 . conv=>lhs;whnf;arg 2;whnf
|apply zV rfl
 . conv=>lhs;whnf
 . conv=>lhs;whnf
 . first | rfl | assumption
|apply zC rfl
 . conv=>lhs;whnf
 . conv=>lhs;whnf
 . conv=>lhs;whnf;arg 2;whnf
|refine zE ?_
|refine ⟨_,by conv=>lhs;whnf;arg 2;whnf,?_⟩;conv=>rhs;whnf
|exact trivial
|intro hg)
 all_goals
  refine congrArg (fun b=>V.c (.bool b)) ?_
  rw [Bool.eq_iff_iff,zBM]
  clear he
  simp at *
  omega
theorem sep_iff (c:UInt8):sepB c=true ↔ c.toNat=32\/c.toNat=9\/c.toNat=10\/c.toNat=13\/c.toNat=44:=by
 have q : ∀ n:UInt8,(c==n)=true ↔ c.toNat=n.toNat:=fun n=>by rw [beq_iff_eq];exact ⟨fun h=>by rw [h],fun h=>UInt8.toNat_inj.1 h⟩
 unfold sepB
 simp only [Bool.or_eq_true,q]
 show (((c.toNat=32\/c.toNat=9)\/c.toNat=10)\/c.toNat=13)\/c.toNat=44 ↔ _
 omega
theorem spaceF_ac (c:UInt8):AC EN5 Tryz.prog 77 [.c (.int .u8 (c.toNat:Int))] (.c (.bool (sepB c))):=by
 refine zM 21 Tryz.func77 rfl rfl rfl rfl ?_
 intro s w he
 repeat' (first
|refine zA ?_
|refine zB ?_
|refine zH ?_
|apply aw_1
 conv=>whnf
 refine ⟨?_,trivial⟩
|apply zQ rfl rfl
 . conv=>lhs;whnf
 . conv=>lhs;whnf
 . first | exact bT1 ‹_› | exact bT2 ‹_›
|apply zO rfl rfl
 . conv=>lhs;whnf
 . conv=>lhs;whnf
 . first | exact bF1 ‹_› | exact bF2 ‹_›
|apply s_1
 conv=>whnf;arg 1;arg 4;arg 3;whnf
 refine ⟨?_,?_⟩
|apply zD rfl
 . conv=>lhs;whnf
 . conv=>lhs;whnf
 . first | rfl | assumption
 . conv=>lhs;whnf;arg 2;whnf
|apply zV rfl
 . conv=>lhs;whnf
 . conv=>lhs;whnf
 . first | rfl | assumption
|apply zC rfl
 . conv=>lhs;whnf
 . conv=>lhs;whnf
 . conv=>lhs;whnf;arg 2;whnf
|refine zE ?_
|refine ⟨_,by conv=>lhs;whnf;arg 2;whnf,?_⟩;conv=>rhs;whnf
|exact trivial
|intro hg)
 all_goals
  refine congrArg (fun b=>V.c (.bool b)) ?_
  rw [Bool.eq_iff_iff,sep_iff]
  clear he
  simp at *
  omega
noncomputable def HWdG (s:List UInt8) (k:Nat):Vst 24:=stS 24 [(0,.c (.string (bs s))),(1,.c (.int .i64 (k:Int)))] []
theorem zEV (s:List UInt8) (i:Nat) (hi:i<=s.length) (hs:s.length<=1000000):AC EN5 Tryz.prog 80 [.c (.string (bs s)),.c (.int .i64 (i:Int))] (.c (.int .i64 ((i+spanN wrdU (s.drop i):Nat):Int))):=by
 have hz:=zZ s
 refine zM 24 Tryz.func80 rfl rfl rfl rfl ?_
 intro s0 w he
 repeat' (first
|refine zA ?_
|refine zB ?_
|refine zH ?_
|apply aw_1
 conv=>whnf
 refine ⟨?_,trivial⟩
|apply s_1
 conv=>whnf;arg 1;arg 4;arg 3;whnf
 refine ⟨?_,?_⟩
|exact trivial)
 refine zf (fun j st => ∃ k,k+j=s.length/\i+spanN wrdU (s.drop i)=k+spanN wrdU (s.drop k)/\Sub (cx EN5 Tryz.prog s0 w he) st (HWdG s k)) (s.length-i) ⟨i,by omega,rfl,Sub.live ⟨rfl,rfl,trivial⟩ trivial⟩ ?_
 rintro j st ⟨k,hkj,hI,hs2⟩
 refine zi hs2 ?_
 clear hs2
 rw [hI]
 clear hI
 by_cases hk:k<s.length
 . have f0:decide ((k:Int)<((bs s).size:Nat))=true:=decide_eq_true (by omega)
   have g0:(decide ((k:Int)<((bs s).size:Nat))==true)=true:=by rw [f0];rfl
   have k0:(decide ((k:Int)<((bs s).size:Nat))==true)=false->False:=fun h=>by rw [g0] at h;cases h
   have hbt:=zAC hk
   have hsp:=zJW (p:=wrdU) hk
   have h1:=zAH s[k]
   have h2:=zAU s[k]
   rw [<- hbt] at h1 h2
   have hw:wrdU s[k]=(letU s[k]||digU s[k]):=rfl
   rw [hw] at hsp
   generalize letU s[k]=a at h1 hsp
   generalize digU s[k]=b at h2 hsp
   clear hbt hw
   repeat' (first
|apply z7 rfl rfl rfl
 . conv=>lhs;whnf
 . first | rfl | assumption
 . conv=>lhs;whnf
 . first | exact bT1 ‹_› | exact bT2 ‹_› | rfl
|apply zx rfl rfl rfl
 . conv=>lhs;whnf
 . first | rfl | assumption
 . conv=>lhs;whnf
 . first | exact bF1 ‹_› | exact bF2 ‹_› | rfl
|refine zA ?_
|refine zB ?_
|refine zH ?_
|refine zW ?_
|apply aw_1
 conv=>whnf
 refine ⟨?_,trivial⟩
|apply zQ rfl rfl
 . conv=>lhs;whnf
 . conv=>lhs;whnf
 . first | exact bT1 ‹_› | exact bT2 ‹_›
|apply s_1
 conv=>whnf;arg 1;arg 4;arg 3;whnf
 refine ⟨?_,?_⟩
|apply zD rfl
 . conv=>lhs;whnf
 . conv=>lhs;whnf
 . first | rfl | assumption
 . conv=>lhs;whnf;arg 2;whnf
|apply zX rfl
 . conv=>lhs;whnf
 . conv=>lhs;whnf
 . first | rfl | assumption
 . conv=>lhs;whnf
 . first | exact h1 | exact h2
|apply zV rfl
 . conv=>lhs;whnf
 . conv=>lhs;whnf
 . first | rfl | assumption
|apply zC rfl
 . conv=>lhs;whnf
 . conv=>lhs;whnf
 . conv=>lhs;whnf;arg 2;whnf
|refine ze (by conv=>lhs;whnf) ?_ ?_<;>intro hb
|refine zL ?_
|refine zJ rfl ?_
|refine zK ?_
|refine zE ?_
|refine ⟨_,by conv=>lhs;whnf;arg 2;whnf,?_⟩;conv=>rhs;whnf
|exact trivial
|intro hg)
   all_goals first
    |exact zR (by omega)
    |exact ⟨by kernel_rfl,by omega,by omega⟩
    |exact (show Tryz.prog.underlying 9=some TypeDesc.string by kernel_rfl)
    |(have e:(a||b)=true:=by
       clear hsp h1 h2
       simp_all
      exact zI (j':=j-1) (by omega) ⟨k+1,by omega,by rw [hsp,if_pos e];omega,Sub.live ⟨rfl,rfl,trivial⟩ trivial⟩)
    |(have e:(a||b)=false:=by
       clear hsp h1 h2
       simp_all
      rw [hsp,e];rfl)
    |skip
 . have f0:decide ((k:Int)<((bs s).size:Nat))=false:=decide_eq_false (by omega)
   have g0:(decide ((k:Int)<((bs s).size:Nat))==true)=false:=by rw [f0];rfl
   have k0:(decide ((k:Int)<((bs s).size:Nat))==true)=true->False:=fun h=>by rw [g0] at h;cases h
   have e:spanN wrdU (s.drop k)=0:=by rw [show k=s.length by omega,List.drop_length];rfl
   rw [e]
   repeat' (first
|refine zA ?_
|refine zB ?_
|refine zH ?_
|apply aw_1
 conv=>whnf
 refine ⟨?_,trivial⟩
|apply zO rfl rfl
 . conv=>lhs;whnf
 . conv=>lhs;whnf
 . first | exact bF1 ‹_› | exact bF2 ‹_›
|apply s_1
 conv=>whnf;arg 1;arg 4;arg 3;whnf
 refine ⟨?_,?_⟩
|apply zV rfl
 . conv=>lhs;whnf
 . conv=>lhs;whnf
 . first | rfl | assumption
|refine zL ?_
|refine zJ rfl ?_
|refine zK ?_
|refine zE ?_
|refine ⟨_,by conv=>lhs;whnf;arg 2;whnf,?_⟩;conv=>rhs;whnf
|exact trivial)
   all_goals first
    |rfl
    |exact (show Tryz.prog.underlying 9=some TypeDesc.string by kernel_rfl)
theorem zKM {s:List UInt8} {k:Nat} (h:k<s.length):skipM true (s.drop k)=if s[k]==10||s[k]==13 then skipM false (s.drop (k+1))+1 else skipM true (s.drop (k+1))+1:=by
 rw [List.drop_eq_getElem_cons h,skipM]
noncomputable def HKf (s:List UInt8) (k:Nat):Vst 39:=stS 39 [(0,.c (.string (bs s))),(1,.c (.int .i64 (k:Int)))] []
theorem zKN (s:List UInt8) (i:Nat) (hi:i<=s.length) (hs:s.length<=1000000):AC EN5 Tryz.prog 36 [.c (.string (bs s)),.c (.int .i64 (i:Int))] (.c (.int .i64 ((i+skipM false (s.drop i):Nat):Int))):=by
 have hz:=zZ s
 refine zM 39 Tryz.func36 rfl rfl rfl rfl ?_
 intro s0 w he
 repeat' (first
|refine zA ?_
|refine zB ?_
|refine zH ?_
|apply aw_1
 conv=>whnf
 refine ⟨?_,trivial⟩
|apply s_1
 conv=>whnf;arg 1;arg 4;arg 3;whnf
 refine ⟨?_,?_⟩
|exact trivial)
 refine zf (fun j st => ∃ k,k+j=s.length/\i+skipM false (s.drop i)=k+skipM false (s.drop k)/\Sub (cx EN5 Tryz.prog s0 w he) st (HKf s k)) (s.length-i) ⟨i,by omega,rfl,Sub.live ⟨rfl,rfl,trivial⟩ trivial⟩ ?_
 rintro j st ⟨k,hkj,hI,hs2⟩
 refine zi hs2 ?_
 clear hs2
 rw [hI]
 clear hI
 by_cases hk:k<s.length
 . have f0:decide ((k:Int)<((bs s).size:Nat))=true:=decide_eq_true (by omega)
   have hbt:=zAC hk
   have hsk:=zJa hk
   have h1:=spaceF_ac s[k]
   rw [<- hbt] at h1
   have q : ∀ n:Nat,n<256->(zS (bs s) ((k:Int)).toNat==(n:Int))=(s[k]==UInt8.ofNat n):=fun n hn=>by rw [hbt];exact zBC s[k] n hn
   have q35:=q 35 (by decide)
   by_cases hsep:sepB s[k]=true
   . rw [if_pos hsep] at hsk
     repeat' (first
|apply zG
 . conv=>lhs;whnf
 . assumption
|refine zA ?_
|refine zB ?_
|refine zH ?_
|apply aw_1
 conv=>whnf
 refine ⟨?_,trivial⟩
|apply s_1
 conv=>whnf;arg 1;arg 4;arg 3;whnf
 refine ⟨?_,?_⟩
|apply zY rfl
 . conv=>lhs;whnf
 . conv=>lhs;whnf
 . first | exact h1
|refine zL ?_
|refine zJ rfl ?_
|exact trivial)
     all_goals first
      |exact zR (by omega)
      |exact ⟨by kernel_rfl,by omega,by omega⟩
      |exact (show Tryz.prog.underlying 9=some TypeDesc.string by kernel_rfl)
      |exact zI (j':=j-1) (by omega) ⟨k+1,by omega,by rw [hsk];omega,Sub.live ⟨rfl,rfl,trivial⟩ trivial⟩
      |skip
   . have f1:sepB s[k]=false:=by simpa using hsep
     rw [if_neg hsep] at hsk
     by_cases h35:(s[k]==35)=true
     . rw [if_pos h35] at hsk
       have f2:(zS (bs s) ((k:Int)).toNat != 35)=false:=by
        have:(zS (bs s) ((k:Int)).toNat==((35:Nat):Int))=true:=q35.trans h35
        simpa using this
       repeat' (first
|apply zG
 . conv=>lhs;whnf
 . assumption
|apply zF
 . conv=>lhs;whnf
 . assumption
|refine zA ?_
|refine zB ?_
|refine zH ?_
|apply aw_1
 conv=>whnf
 refine ⟨?_,trivial⟩
|apply s_1
 conv=>whnf;arg 1;arg 4;arg 3;whnf
 refine ⟨?_,?_⟩
|apply zY rfl
 . conv=>lhs;whnf
 . conv=>lhs;whnf
 . first | exact h1
|exact trivial)
       all_goals first
        |exact ⟨by kernel_rfl,by omega,by omega⟩
        |exact (show Tryz.prog.underlying 9=some TypeDesc.string by kernel_rfl)
        |skip
       have hnn:(s[k]==10||s[k]==13)=false:=by
        have:s[k]=35:=by simpa using h35
        rw [this];rfl
       have hT:k+skipM false (s.drop k)=k+skipM true (s.drop k):=by rw [hsk,zKM hk,hnn];rfl
       rw [hT]
       refine zf (fun jj st => ∃ m,m+jj=s.length/\k<=m/\k+skipM true (s.drop k)=m+skipM true (s.drop m)/\Sub (cx EN5 Tryz.prog s0 w he) st (HKf s m)) (s.length-k) ⟨k,by omega,Nat.le_refl _,rfl,Sub.live ⟨rfl,rfl,trivial⟩ trivial⟩ ?_
       clear hT hsk f0 f1 f2 hbt q q35 h1
       rintro jj st ⟨m,hmj,hkm,hI,hs2⟩
       refine zi hs2 ?_
       clear hs2
       rw [hI]
       clear hI
       by_cases hm:m<s.length
       . have f0:decide ((m:Int)<((bs s).size:Nat))=true:=decide_eq_true (by omega)
         have g0:(decide ((m:Int)<((bs s).size:Nat))==true)=true:=by rw [f0];rfl
         have k0:(decide ((m:Int)<((bs s).size:Nat))==true)=false->False:=fun h=>by rw [g0] at h;cases h
         have hbt:=zAC hm
         have hsk:=zKM hm
         have q : ∀ n:Nat,n<256->(zS (bs s) ((m:Int)).toNat==(n:Int))=(s[m]==UInt8.ofNat n):=fun n hn=>by rw [hbt];exact zBC s[m] n hn
         have q10:(zS (bs s) ((m:Int)).toNat != 10) = !(s[m]==10):=congrArg not (q 10 (by decide))
         have q13:(zS (bs s) ((m:Int)).toNat != 13) = !(s[m]==13):=congrArg not (q 13 (by decide))
         have hsm:=zJa hm
         have hmk:m=k->(s[m]==10||s[m]==13)=false:=fun e=>by subst e;exact hnn
         have hnl:(s[m]==10||s[m]==13)=true->sepB s[m]=true:=fun h=>by
          rw [Bool.or_eq_true,beq_iff_eq,beq_iff_eq] at h
          rcases h with h | h<;>rw [h]<;>rfl
         generalize (s[m]==10)=a at q10 hsk hmk hnl
         generalize (s[m]==13)=b at q13 hsk hmk hnl
         clear hbt q
         repeat' (first
|refine zA ?_
|refine zB ?_
|refine zH ?_
|refine zW ?_
|apply aw_1
 conv=>whnf
 refine ⟨?_,trivial⟩
|apply zQ rfl rfl
 . conv=>lhs;whnf
 . conv=>lhs;whnf
 . first | exact bT1 ‹_› | exact bT2 ‹_›
|apply zO rfl rfl
 . conv=>lhs;whnf
 . conv=>lhs;whnf
 . first | exact bF1 ‹_› | exact bF2 ‹_›
|apply s_1
 conv=>whnf;arg 1;arg 4;arg 3;whnf
 refine ⟨?_,?_⟩
|apply zD rfl
 . conv=>lhs;whnf
 . conv=>lhs;whnf
 . first | rfl | assumption
 . conv=>lhs;whnf;arg 2;whnf
|apply zV rfl
 . conv=>lhs;whnf
 . conv=>lhs;whnf
 . first | rfl | assumption
|apply zC rfl
 . conv=>lhs;whnf
 . conv=>lhs;whnf
 . conv=>lhs;whnf;arg 2;whnf
|refine ze (by conv=>lhs;whnf) ?_ ?_<;>intro hb
|refine zL ?_
|refine zJ rfl ?_
|refine zK ?_
|exact trivial
|intro hg)
         all_goals first
          |exact zR (by omega)
          |exact ⟨by kernel_rfl,by omega,by omega⟩
          |exact (show Tryz.prog.underlying 9=some TypeDesc.string by kernel_rfl)
          |skip
         all_goals simp only [q10,q13] at *
         . have e:(a||b)=false:=by simp_all
           exact zI (j':=jj-1) (by omega) ⟨m+1,by omega,by omega,by rw [hsk,if_neg (by rw [e];decide)];omega,Sub.live ⟨rfl,rfl,trivial⟩ trivial⟩
         all_goals
          have e:(a||b)=true:=by simp_all
          have hmk2:k<m:=Nat.lt_of_le_of_ne hkm fun h=>by rw [hmk h.symm] at e;cases e
          exact zI (j':=s.length-m) (by omega) ⟨m,by omega,by rw [hsk,if_pos e,hsm,if_pos (hnl e)],Sub.live ⟨rfl,rfl,trivial⟩ trivial⟩
       . have f0:decide ((m:Int)<((bs s).size:Nat))=false:=decide_eq_false (by omega)
         have g0:(decide ((m:Int)<((bs s).size:Nat))==true)=false:=by rw [f0];rfl
         have k0:(decide ((m:Int)<((bs s).size:Nat))==true)=true->False:=fun h=>by rw [g0] at h;cases h
         repeat' (first
|refine zA ?_
|refine zB ?_
|refine zH ?_
|refine zW ?_
|apply aw_1
 conv=>whnf
 refine ⟨?_,trivial⟩
|apply zO rfl rfl
 . conv=>lhs;whnf
 . conv=>lhs;whnf
 . first | exact bF1 ‹_› | exact bF2 ‹_›
|apply s_1
 conv=>whnf;arg 1;arg 4;arg 3;whnf
 refine ⟨?_,?_⟩
|apply zV rfl
 . conv=>lhs;whnf
 . conv=>lhs;whnf
 . first | rfl | assumption
|refine zL ?_
|refine zJ rfl ?_
|refine zK ?_
|exact trivial)
         all_goals first
          |exact (show Tryz.prog.underlying 9=some TypeDesc.string by kernel_rfl)
          |exact zI (j':=0) (by omega) ⟨m,by omega,by rw [show m=s.length by omega,List.drop_length];rfl,Sub.live ⟨rfl,rfl,trivial⟩ trivial⟩
     . rw [if_neg h35] at hsk
       have f2:(zS (bs s) ((k:Int)).toNat != 35)=true:=by
        have:(zS (bs s) ((k:Int)).toNat==((35:Nat):Int))=false:=q35.trans (by simpa using h35)
        simpa using this
       repeat' (first
|apply zG
 . conv=>lhs;whnf
 . assumption
|apply zF
 . conv=>lhs;whnf
 . assumption
|refine zA ?_
|refine zB ?_
|refine zH ?_
|apply aw_1
 conv=>whnf
 refine ⟨?_,trivial⟩
|apply s_1
 conv=>whnf;arg 1;arg 4;arg 3;whnf
 refine ⟨?_,?_⟩
|apply zY rfl
 . conv=>lhs;whnf
 . conv=>lhs;whnf
 . first | exact h1
|refine zN ?_
|refine zP ?_
|refine zg ?_
|refine zE ?_
|refine ⟨_,by conv=>lhs;whnf;arg 2;whnf,?_⟩;conv=>rhs;whnf
|exact trivial)
       all_goals first
        |exact ⟨by kernel_rfl,by omega,by omega⟩
        |exact (show Tryz.prog.underlying 9=some TypeDesc.string by kernel_rfl)
        |(rw [hsk];rfl)
 . have f0:decide ((k:Int)<((bs s).size:Nat))=false:=decide_eq_false (by omega)
   have e:skipM false (s.drop k)=0:=by rw [show k=s.length by omega,List.drop_length];rfl
   rw [e]
   repeat' (first
|apply zF
 . conv=>lhs;whnf
 . assumption
|refine zA ?_
|refine zB ?_
|refine zH ?_
|apply aw_1
 conv=>whnf
 refine ⟨?_,trivial⟩
|apply s_1
 conv=>whnf;arg 1;arg 4;arg 3;whnf
 refine ⟨?_,?_⟩
|refine zL ?_
|refine zJ rfl ?_
|refine zK ?_
|refine zE ?_
|refine ⟨_,by conv=>lhs;whnf;arg 2;whnf,?_⟩;conv=>rhs;whnf
|exact trivial)
   all_goals first
    |rfl
    |exact (show Tryz.prog.underlying 9=some TypeDesc.string by kernel_rfl)
def signsL:List UInt8:=[33,36,38,40,41,58,61,64,91,93,123,124,125]
noncomputable def HSg (c:UInt8) (k:Nat):Vst 16:=stS 16 [(0,.c (.int .u8 (c.toNat:Int))),(3,.c (.string { data:=#[33,36,38,40,41,58,61,64,91,93,123,124,125] })),(4,.c (.int .i64 (k:Int)))] []
theorem byte_sg {k:Nat} (h:k<signsL.length):zS ({ data:=#[33,36,38,40,41,58,61,64,91,93,123,124,125] }:ByteArray) ((k:Int)).toNat=(signsL[k].toNat:Int):=zAC (s:=signsL) h
theorem u8_same (a b:UInt8):(((a.toNat:Nat):Int)==((b.toNat:Nat):Int))=(a==b):=by
 rw [Bool.eq_iff_iff,beq_iff_eq,beq_iff_eq]
 exact ⟨fun h=>UInt8.toNat_inj.1 (by omega),fun h=>by rw [h]⟩
theorem zAs (c:UInt8):AC EN5 Tryz.prog 78 [.c (.int .u8 (c.toNat:Int))] (.c (.bool (signB c))):=by
 have hR:signB c=(signsL.drop 0).contains c:=rfl
 generalize signB c=R at hR |-
 refine zM 16 Tryz.func78 rfl rfl rfl rfl ?_
 intro s0 w he
 repeat' (first
|refine zA ?_
|refine zB ?_
|refine zH ?_
|apply aw_1
 conv=>whnf
 refine ⟨?_,trivial⟩
|apply s_1
 conv=>whnf;arg 1;arg 4;arg 3;whnf
 refine ⟨?_,?_⟩
|exact trivial)
 refine zf (fun j st => ∃ k,k+j=13/\R=(signsL.drop k).contains c/\Sub (cx EN5 Tryz.prog s0 w he) st (HSg c k)) 13 ⟨0,by omega,hR,Sub.live ⟨rfl,rfl,rfl,trivial⟩ trivial⟩ ?_
 clear hR
 rintro j st ⟨k,hkj,hR,hs2⟩
 refine zi hs2 ?_
 clear hs2
 have hz:(({ data:=#[33,36,38,40,41,58,61,64,91,93,123,124,125] }:ByteArray).size:Int)=13:=rfl
 have hlen:signsL.length=13:=rfl
 by_cases hk:k<13
 . have f0:decide ((k:Int)<(({ data:=#[33,36,38,40,41,58,61,64,91,93,123,124,125] }:ByteArray).size:Nat))=true:=decide_eq_true (by rw [hz];omega)
   have hk2:k<signsL.length:=by omega
   have hbt:=byte_sg hk2
   have hd:signsL.drop k=signsL[k]::signsL.drop (k+1):=List.drop_eq_getElem_cons hk2
   rw [hd,List.contains_cons] at hR
   have hq:(zS ({ data:=#[33,36,38,40,41,58,61,64,91,93,123,124,125] }:ByteArray) ((k:Int)).toNat==((c.toNat:Nat):Int))=(c==signsL[k]):=by
    rw [hbt,u8_same,Bool.eq_iff_iff,beq_iff_eq,beq_iff_eq];exact eq_comm
   generalize (c==signsL[k])=a at hq hR
   repeat' (first
|apply zG
 . conv=>lhs;whnf
 . assumption
|refine zA ?_
|refine zB ?_
|refine zH ?_
|refine zW ?_
|apply aw_1
 conv=>whnf
 refine ⟨?_,trivial⟩
|apply s_1
 conv=>whnf;arg 1;arg 4;arg 3;whnf
 refine ⟨?_,?_⟩
|refine ze (by conv=>lhs;whnf) ?_ ?_<;>intro hb
|refine zN ?_
|refine zP ?_
|refine zg ?_
|refine zE ?_
|refine ⟨_,by conv=>lhs;whnf;arg 2;whnf,?_⟩;conv=>rhs;whnf
|exact trivial)
   all_goals first
    |exact zR (by omega)
    |exact ⟨by kernel_rfl,by omega,by rw [hz];omega⟩
    |exact (show Tryz.prog.underlying 9=some TypeDesc.string by kernel_rfl)
    |(have e:a=true:=by rw [<- hq];assumption
      rw [hR,e];rfl)
    |(have e:a=false:=by rw [<- hq];assumption
      exact zI (j':=j-1) (by omega) ⟨k+1,by omega,by rw [hR,e,Bool.false_or],Sub.live ⟨rfl,rfl,rfl,trivial⟩ trivial⟩)
    |skip
 . have f0:decide ((k:Int)<(({ data:=#[33,36,38,40,41,58,61,64,91,93,123,124,125] }:ByteArray).size:Nat))=false:=decide_eq_false (by rw [hz];omega)
   have e:signsL.drop k=[]:=List.drop_of_length_le (by omega)
   rw [e] at hR
   repeat' (first
|apply zF
 . conv=>lhs;whnf
 . assumption
|refine zA ?_
|refine zB ?_
|refine zH ?_
|apply aw_1
 conv=>whnf
 refine ⟨?_,trivial⟩
|apply s_1
 conv=>whnf;arg 1;arg 4;arg 3;whnf
 refine ⟨?_,?_⟩
|refine zL ?_
|refine zJ rfl ?_
|refine zK ?_
|refine zE ?_
|refine ⟨_,by conv=>lhs;whnf;arg 2;whnf,?_⟩;conv=>rhs;whnf
|exact trivial)
   all_goals first
    |(rw [hR];rfl)
    |exact (show Tryz.prog.underlying 9=some TypeDesc.string by kernel_rfl)
def zHP (s:List UInt8) (k:Nat):Int:=match litN (s.drop k) with
 |none => -1
 |some n=>((k+n:Nat):Int)
theorem litW_V (s:List UInt8) (i:Nat):zHP s (i+1)=litV s i:=rfl
theorem litW_end {s:List UInt8} {k:Nat} (h:s.length<=k):zHP s k = -1:=by
 unfold zHP
 rw [List.drop_of_length_le h];rfl
theorem litW_at {s:List UInt8} {k:Nat} (h:k<s.length):zHP s k=if s[k]==34 then ((k:Int)+1) else if s[k]==92 then zHP s (k+2) else zHP s (k+1):=by
 unfold zHP
 rw [List.drop_eq_getElem_cons h]
 by_cases h34:(s[k]==34)=true
 . rw [if_pos h34]
   cases hr:s.drop (k+1) with
   |nil=>simp only [litN,h34,if_true];omega
   |cons d r=>simp only [litN,h34,if_true];omega
 . rw [if_neg h34]
   cases hr:s.drop (k+1) with
   |nil =>
    have h2:s.drop (k+2)=[]:=List.drop_of_length_le (by have:=congrArg List.length hr;rw [List.length_drop] at this;simp at this;omega)
    rw [h2]
    simp only [litN,h34]
    by_cases h92:(s[k]==92)=true<;>simp [h92]
   |cons d r =>
    have h2:s.drop (k+2)=r:=by rw [show k+2=(k+1)+1 by omega,<- List.drop_drop,hr];rfl
    rw [h2]
    simp only [litN,h34]
    by_cases h92:(s[k]==92)=true
    . rw [if_pos h92,if_pos h92]
      cases litN r with
      |none=>rfl
      |some n=>simp only [Option.map_some,Bool.false_eq_true,if_false];congr 1;omega
    . rw [if_neg h92,if_neg h92]
      cases litN (d::r) with
      |none=>rfl
      |some n=>simp only [Option.map_some,Bool.false_eq_true,if_false];congr 1;omega
noncomputable def HCl (s:List UInt8) (k:Nat):Vst 25:=stS 25 [(0,.c (.string (bs s))),(1,.c (.int .i64 (k:Int)))] []
theorem zFc (s:List UInt8) (i:Nat) (hi:i<s.length) (hs:s.length<=1000000):AC EN5 Tryz.prog 83 [.c (.string (bs s)),.c (.int .i64 (i:Int))] (.c (.int .i64 (litV s i))):=by
 have hz:=zZ s
 rw [<- litW_V]
 generalize hR:zHP s (i+1)=R
 refine zM 25 Tryz.func83 rfl rfl rfl rfl ?_
 intro s0 w he
 repeat' (first
|refine zA ?_
|refine zB ?_
|refine zH ?_
|apply aw_1
 conv=>whnf
 refine ⟨?_,trivial⟩
|apply s_1
 conv=>whnf;arg 1;arg 4;arg 3;whnf
 refine ⟨?_,?_⟩
|exact trivial)
 . refine zf (fun j st => ∃ k,k+j=s.length+2/\R=zHP s k/\Sub (cx EN5 Tryz.prog s0 w he) st (HCl s k)) (s.length+1-i) ⟨i+1,by omega,hR.symm,Sub.live ⟨rfl,rfl,trivial⟩ trivial⟩ ?_
   clear hR
   rintro j st ⟨k,hkj,hR,hs2⟩
   refine zi hs2 ?_
   clear hs2
   by_cases hk:k<s.length
   . have f0:decide ((k:Int)<((bs s).size:Nat))=true:=decide_eq_true (by omega)
     have hbt:=zAC hk
     have q : ∀ n:Nat,n<256->(zS (bs s) ((k:Int)).toNat==(n:Int))=(s[k]==UInt8.ofNat n):=fun n hn=>by rw [hbt];exact zBC s[k] n hn
     have q34:(zS (bs s) ((k:Int)).toNat==34)=(s[k]==34):=q 34 (by decide)
     have q92:(zS (bs s) ((k:Int)).toNat==92)=(s[k]==92):=q 92 (by decide)
     rw [litW_at hk] at hR
     generalize (s[k]==34)=a at q34 hR
     generalize (s[k]==92)=b at q92 hR
     clear q hbt
     repeat' (first
|apply zG
 . conv=>lhs;whnf
 . assumption
|refine zA ?_
|refine zB ?_
|refine zH ?_
|refine zW ?_
|apply aw_1
 conv=>whnf
 refine ⟨?_,trivial⟩
|apply s_1
 conv=>whnf;arg 1;arg 4;arg 3;whnf
 refine ⟨?_,?_⟩
|refine ze (by conv=>lhs;whnf) ?_ ?_<;>intro hb
|refine zN ?_
|refine zP ?_
|refine zg ?_
|refine zE ?_
|refine ⟨_,by conv=>lhs;whnf;arg 2;whnf,?_⟩;conv=>rhs;whnf
|exact trivial)
     all_goals first
      |exact zR (by omega)
      |exact ⟨by kernel_rfl,by omega,by omega⟩
      |exact (show Tryz.prog.underlying 9=some TypeDesc.string by kernel_rfl)
      |skip
     . have e:a=true:=by rw [<- q34];assumption
       rw [e,if_pos rfl] at hR
       exact congrArg (fun n=>V.c (.int .i64 n)) hR
     . have e:a=false:=by rw [<- q34];assumption
       have e2:b=true:=by rw [<- q92];assumption
       rw [e,e2,if_neg (by decide),if_pos rfl] at hR
       exact zI (j':=j-2) (by omega) ⟨k+2,by omega,hR,Sub.live ⟨rfl,congrArg (fun n=>V.c (.int .i64 n)) (show (k:Int)+1+1=((k+2:Nat):Int) by omega),trivial⟩ trivial⟩
     . have e:a=false:=by rw [<- q34];assumption
       have e2:b=false:=by rw [<- q92];assumption
       rw [e,e2,if_neg (by decide),if_neg (by decide)] at hR
       exact zI (j':=j-1) (by omega) ⟨k+1,by omega,hR,Sub.live ⟨rfl,rfl,trivial⟩ trivial⟩
   . have f0:decide ((k:Int)<((bs s).size:Nat))=false:=decide_eq_false (by omega)
     rw [litW_end (by omega)] at hR
     repeat' (first
|apply zF
 . conv=>lhs;whnf
 . assumption
|refine zA ?_
|refine zB ?_
|refine zH ?_
|apply aw_1
 conv=>whnf
 refine ⟨?_,trivial⟩
|apply s_1
 conv=>whnf;arg 1;arg 4;arg 3;whnf
 refine ⟨?_,?_⟩
|refine zL ?_
|refine zJ rfl ?_
|refine zK ?_
|refine zE ?_
|refine ⟨_,by conv=>lhs;whnf;arg 2;whnf,?_⟩;conv=>rhs;whnf
|exact trivial)
     all_goals first
      |exact congrArg (fun n=>V.c (.int .i64 n)) hR
      |exact (show Tryz.prog.underlying 9=some TypeDesc.string by kernel_rfl)
 . exact zR (by omega)
section
variable {s:List UInt8} {i:Nat} (hi:i<s.length) (hs:s.length<=70000)
include hi hs
theorem one_sign (h:signB s[i]=true):AC EN5 Tryz.prog 37 [.c (.string (bs s)),.c (.int .i64 (i:Int))] (tupR ⟨1,[s[i]],i⟩ (i+1) 0):=by
 have hz:=zZ s
 have hbt:=zAC hi
 have hdr:s.drop i=s[i]::s.drop (i+1):=List.drop_eq_getElem_cons hi
 have q : ∀ n:Nat,n<256->(zS (bs s) ((i:Int)).toNat==(n:Int))=(s[i]==UInt8.ofNat n):=fun n hn=>by rw [hbt];exact zBC _ n hn
 have hsg:=zAs s[i]
 have hlt:=zAH s[i]
 have hdg:=zAU s[i]
 rw [<- hbt] at hsg hlt hdg
 rw [h] at hsg
 have hx:(bs s).extract ((i:Int)).toNat (((i:Int)+1)).toNat=bs [s[i]]:=by
  rw [show (((i:Int)+1)).toNat=i+1 by omega,Int.toNat_natCast,zCg s (by omega) (by omega),hdr,Nat.add_sub_cancel_left];rfl
 refine zM 115 Tryz.func37 rfl rfl rfl rfl ?_
 intro s0 w he
 repeat' (first
|refine zA ?_
|refine zB ?_
|refine zH ?_
|apply aw_1
 conv=>whnf
 refine ⟨?_,trivial⟩
|apply s_1
 conv=>whnf;arg 1;arg 4;arg 3;whnf
 refine ⟨?_,?_⟩
|apply zY rfl
 . conv=>lhs;whnf
 . conv=>lhs;whnf
 . first | exact hsg
|apply zT rfl rfl rfl
 . conv=>lhs;whnf
 . conv=>lhs;whnf;arg 1;whnf
 . conv=>lhs;whnf;arg 1;whnf
 . exact ⟨by kernel_rfl,by kernel_rfl⟩
 . rfl
|refine zN ?_
|refine zE ?_
|exact trivial)
 . refine ⟨_,_,_,rfl,rfl,rfl,?_⟩
   show _=V.tup [.agg [.c (.int .i64 1),.c (.string ((bs s).extract ((i:Int)).toNat (((i:Int)+1)).toNat)),.c (.int .i64 (i:Int))],.c (.int .i64 ((i:Int)+1)),.c (.int .i64 0)]
   rw [hx];rfl
 all_goals first
  |exact zR (by omega)
  |exact ⟨by kernel_rfl,by omega,by omega⟩
  |exact ⟨by kernel_rfl,by omega,by omega,by omega⟩
  |exact (show Tryz.prog.underlying _=some TypeDesc.string by kernel_rfl)
  |skip
theorem one_dots (h0:signB s[i]=false) (h:s[i]=46) (h3:i+3<=s.length) (hd:(s.drop (i+1)).take 2=[46,46]):AC EN5 Tryz.prog 37 [.c (.string (bs s)),.c (.int .i64 (i:Int))] (tupR ⟨1,[46,46,46],i⟩ (i+3) 0):=by
 have hz:=zZ s
 have hbt:=zAC hi
 have hdr:s.drop i=s[i]::s.drop (i+1):=List.drop_eq_getElem_cons hi
 have q : ∀ n:Nat,n<256->(zS (bs s) ((i:Int)).toNat==(n:Int))=(s[i]==UInt8.ofNat n):=fun n hn=>by rw [hbt];exact zBC _ n hn
 have hsg:=zAs s[i]
 have hlt:=zAH s[i]
 have hdg:=zAU s[i]
 rw [<- hbt] at hsg hlt hdg
 rw [h0] at hsg
 have f1:(zS (bs s) ((i:Int)).toNat==46)=true:=(q 46 (by omega)).trans (by rw [h];rfl)
 have g1:((zS (bs s) ((i:Int)).toNat==46)==true)=true:=by rw [f1];rfl
 have f2:decide ((i:Int)+3<=((bs s).size:Nat))=true:=decide_eq_true (by omega)
 have g2:(decide ((i:Int)+3<=((bs s).size:Nat))==true)=true:=by rw [f2];rfl
 have hx:(bs s).extract ((i:Int)).toNat (((i:Int)+3)).toNat=bs [46,46,46]:=by
  rw [show (((i:Int)+3)).toNat=i+3 by omega,Int.toNat_natCast,zCg s (by omega) (by omega),hdr,Nat.add_sub_cancel_left,h,List.take_succ_cons,hd]
 have f3:(((bs s).extract ((i:Int)).toNat (((i:Int)+3)).toNat).toList==({ data:=#[46,46,46] }:ByteArray).toList)=true:=by rw [hx,Lib.toList_data,Lib.toList_data,zAG];rfl
 refine zM 115 Tryz.func37 rfl rfl rfl rfl ?_
 intro s0 w he
 repeat' (first
|apply zG
 . conv=>lhs;whnf
 . assumption
|refine zA ?_
|refine zB ?_
|refine zH ?_
|apply aw_1
 conv=>whnf
 refine ⟨?_,trivial⟩
|apply zQ rfl rfl
 . conv=>lhs;whnf
 . conv=>lhs;whnf
 . first | exact bT1 ‹_› | exact bT2 ‹_›
|apply s_1
 conv=>whnf;arg 1;arg 4;arg 3;whnf
 refine ⟨?_,?_⟩
|apply zY rfl
 . conv=>lhs;whnf
 . conv=>lhs;whnf
 . first | exact hsg
|apply zT rfl rfl rfl
 . conv=>lhs;whnf
 . conv=>lhs;whnf;arg 1;whnf
 . conv=>lhs;whnf;arg 1;whnf
 . exact ⟨by kernel_rfl,by kernel_rfl⟩
 . rfl
|apply zD rfl
 . conv=>lhs;whnf
 . conv=>lhs;whnf
 . first | rfl | assumption
 . conv=>lhs;whnf;arg 2;whnf
|refine zN ?_
|refine zE ?_
|exact trivial)
 . exact ⟨_,_,_,rfl,rfl,rfl,rfl⟩
 all_goals first
  |exact zR (by omega)
  |exact ⟨by kernel_rfl,by omega,by omega⟩
  |exact ⟨by kernel_rfl,by omega,by omega,by omega⟩
  |exact (show Tryz.prog.underlying _=some TypeDesc.string by kernel_rfl)
  |skip
theorem one_word (h0:signB s[i]=false) (h46:s[i]≠46) (hl:letU s[i]=true) (hlen:spanN wrdU (s.drop (i+1))+1<=64):AC EN5 Tryz.prog 37 [.c (.string (bs s)),.c (.int .i64 (i:Int))] (tupR ⟨2,s[i]::(s.drop (i+1)).take (spanN wrdU (s.drop (i+1))),i⟩ (i+1+spanN wrdU (s.drop (i+1))) 0):=by
 have hz:=zZ s
 have hbt:=zAC hi
 have hdr:s.drop i=s[i]::s.drop (i+1):=List.drop_eq_getElem_cons hi
 have q : ∀ n:Nat,n<256->(zS (bs s) ((i:Int)).toNat==(n:Int))=(s[i]==UInt8.ofNat n):=fun n hn=>by rw [hbt];exact zBC _ n hn
 have hsg:=zAs s[i]
 have hlt:=zAH s[i]
 have hdg:=zAU s[i]
 rw [<- hbt] at hsg hlt hdg
 rw [h0] at hsg
 have f1:(zS (bs s) ((i:Int)).toNat==46)=false:=(q 46 (by omega)).trans (by simpa using h46)
 have g1:((zS (bs s) ((i:Int)).toNat==46)==true)=false:=by rw [f1];rfl
 have hle:=zAa wrdU (s.drop (i+1))
 rw [List.length_drop] at hle
 rw [hl] at hlt
 have hsp:=zEV s i (by omega) (by omega)
 have hw:wrdU s[i]=true:=by unfold wrdU;rw [hl];rfl
 have e1:i+spanN wrdU (s.drop i)=i+1+spanN wrdU (s.drop (i+1)):=by rw [hdr,spanN,if_pos hw];omega
 rw [e1] at hsp
 generalize spanN wrdU (s.drop (i+1))=n at *
 have f2:decide (((i+1+n:Nat):Int)-(i:Int)>64)=false:=decide_eq_false (by omega)
 have hx:(bs s).extract ((i:Int)).toNat (((i+1+n:Nat):Int)).toNat=bs (s[i]::(s.drop (i+1)).take n):=by
  rw [Int.toNat_natCast,Int.toNat_natCast,zCg s (by omega) (by omega),hdr,show i+1+n-i=n+1 by omega,List.take_succ_cons]
 refine zM 115 Tryz.func37 rfl rfl rfl rfl ?_
 intro s0 w he
 repeat' (first
|apply zF
 . conv=>lhs;whnf
 . assumption
|refine zA ?_
|refine zB ?_
|refine zH ?_
|apply aw_1
 conv=>whnf
 refine ⟨?_,trivial⟩
|apply zO rfl rfl
 . conv=>lhs;whnf
 . conv=>lhs;whnf
 . first | exact bF1 ‹_› | exact bF2 ‹_›
|apply s_1
 conv=>whnf;arg 1;arg 4;arg 3;whnf
 refine ⟨?_,?_⟩
|apply zY rfl
 . conv=>lhs;whnf
 . conv=>lhs;whnf
 . first | exact hsg | exact hlt | exact hsp
|apply zT rfl rfl rfl
 . conv=>lhs;whnf
 . conv=>lhs;whnf;arg 1;whnf
 . conv=>lhs;whnf;arg 1;whnf
 . exact ⟨by kernel_rfl,by kernel_rfl⟩
 . rfl
|apply zV rfl
 . conv=>lhs;whnf
 . conv=>lhs;whnf
 . first | rfl | assumption
|refine zN ?_
|refine zE ?_
|exact trivial)
 . refine ⟨_,_,_,rfl,rfl,rfl,?_⟩
   show _=V.tup [.agg [.c (.int .i64 2),.c (.string ((bs s).extract ((i:Int)).toNat (((i+1+n:Nat):Int)).toNat)),.c (.int .i64 (i:Int))],.c (.int .i64 ((i+1+n:Nat):Int)),.c (.int .i64 0)]
   rw [hx];rfl
 all_goals first
  |exact zR (by omega)
  |exact ⟨by kernel_rfl,by omega,by omega⟩
  |exact ⟨by kernel_rfl,by omega,by omega,by omega⟩
  |exact (show Tryz.prog.underlying _=some TypeDesc.string by kernel_rfl)
  |skip
theorem one_long (h0:signB s[i]=false) (h46:s[i]≠46) (hl:letU s[i]=true) (hlen : ¬ spanN wrdU (s.drop (i+1))+1<=64):AC EN5 Tryz.prog 37 [.c (.string (bs s)),.c (.int .i64 (i:Int))] failR:=by
 have hz:=zZ s
 have hbt:=zAC hi
 have hdr:s.drop i=s[i]::s.drop (i+1):=List.drop_eq_getElem_cons hi
 have q : ∀ n:Nat,n<256->(zS (bs s) ((i:Int)).toNat==(n:Int))=(s[i]==UInt8.ofNat n):=fun n hn=>by rw [hbt];exact zBC _ n hn
 have hsg:=zAs s[i]
 have hlt:=zAH s[i]
 have hdg:=zAU s[i]
 rw [<- hbt] at hsg hlt hdg
 rw [h0] at hsg
 have f1:(zS (bs s) ((i:Int)).toNat==46)=false:=(q 46 (by omega)).trans (by simpa using h46)
 have g1:((zS (bs s) ((i:Int)).toNat==46)==true)=false:=by rw [f1];rfl
 have hle:=zAa wrdU (s.drop (i+1))
 rw [List.length_drop] at hle
 rw [hl] at hlt
 have hsp:=zEV s i (by omega) (by omega)
 have hw:wrdU s[i]=true:=by unfold wrdU;rw [hl];rfl
 have e1:i+spanN wrdU (s.drop i)=i+1+spanN wrdU (s.drop (i+1)):=by rw [hdr,spanN,if_pos hw];omega
 rw [e1] at hsp
 generalize spanN wrdU (s.drop (i+1))=n at *
 have f2:decide (((i+1+n:Nat):Int)-(i:Int)>64)=true:=decide_eq_true (by omega)
 refine zM 115 Tryz.func37 rfl rfl rfl rfl ?_
 intro s0 w he
 repeat' (first
|apply zG
 . conv=>lhs;whnf
 . assumption
|refine zA ?_
|refine zB ?_
|refine zH ?_
|apply aw_1
 conv=>whnf
 refine ⟨?_,trivial⟩
|apply zO rfl rfl
 . conv=>lhs;whnf
 . conv=>lhs;whnf
 . first | exact bF1 ‹_› | exact bF2 ‹_›
|apply s_1
 conv=>whnf;arg 1;arg 4;arg 3;whnf
 refine ⟨?_,?_⟩
|apply zY rfl
 . conv=>lhs;whnf
 . conv=>lhs;whnf
 . first | exact hsg | exact hlt | exact hsp
|apply zT rfl rfl rfl
 . conv=>lhs;whnf
 . conv=>lhs;whnf;arg 1;whnf
 . conv=>lhs;whnf;arg 1;whnf
 . exact ⟨by kernel_rfl,by kernel_rfl⟩
 . rfl
|apply zV rfl
 . conv=>lhs;whnf
 . conv=>lhs;whnf
 . first | rfl | assumption
|refine zN ?_
|refine zE ?_
|exact trivial)
 . exact ⟨_,_,_,rfl,rfl,rfl,rfl⟩
 all_goals first
  |exact zR (by omega)
  |exact ⟨by kernel_rfl,by omega,by omega⟩
  |exact ⟨by kernel_rfl,by omega,by omega,by omega⟩
  |exact (show Tryz.prog.underlying _=some TypeDesc.string by kernel_rfl)
  |skip
theorem one_dig (h0:signB s[i]=false) (h46:s[i]≠46) (hl:letU s[i]=false) (hd:digU s[i]=true):AC EN5 Tryz.prog 37 [.c (.string (bs s)),.c (.int .i64 (i:Int))] (tupR ⟨3,s[i]::(s.drop (i+1)).take (spanN wrdU (s.drop (i+1))),i⟩ (i+1+spanN wrdU (s.drop (i+1))) (nerU (numU (s[i]::(s.drop (i+1)).take (spanN wrdU (s.drop (i+1))))))):=by
 have hz:=zZ s
 have hbt:=zAC hi
 have hdr:s.drop i=s[i]::s.drop (i+1):=List.drop_eq_getElem_cons hi
 have q : ∀ n:Nat,n<256->(zS (bs s) ((i:Int)).toNat==(n:Int))=(s[i]==UInt8.ofNat n):=fun n hn=>by rw [hbt];exact zBC _ n hn
 have hsg:=zAs s[i]
 have hlt:=zAH s[i]
 have hdg:=zAU s[i]
 rw [<- hbt] at hsg hlt hdg
 rw [h0] at hsg
 have f1:(zS (bs s) ((i:Int)).toNat==46)=false:=(q 46 (by omega)).trans (by simpa using h46)
 have g1:((zS (bs s) ((i:Int)).toNat==46)==true)=false:=by rw [f1];rfl
 have hle:=zAa wrdU (s.drop (i+1))
 rw [List.length_drop] at hle
 rw [hl] at hlt
 have hsp:=zEV s (i+1) (by omega) (by omega)
 generalize hn:spanN wrdU (s.drop (i+1))=n at *
 have hx:(bs s).extract ((i:Int)).toNat (((i+1+n:Nat):Int)).toNat=bs (s[i]::(s.drop (i+1)).take n):=by
  rw [Int.toNat_natCast,Int.toNat_natCast,zCg s (by omega) (by omega),hdr,show i+1+n-i=n+1 by omega,List.take_succ_cons]
 have hsz:((bs s).extract ((i:Int)).toNat (((i+1+n:Nat):Int)).toNat).size<=281474976710656:=by rw [ByteArray.size_extract];omega
 have hnu:=zGP _ hsz
 unfold numVV at hnu
 have htx:tx ((bs s).extract ((i:Int)).toNat (((i+1+n:Nat):Int)).toNat)=s[i]::(s.drop (i+1)).take n:=by rw [hx];exact zAG _
 rw [htx] at hnu
 have g2:(digU s[i]==false)=false:=by rw [hd];rfl
 have f3:=hd
 refine zM 115 Tryz.func37 rfl rfl rfl rfl ?_
 intro s0 w he
 repeat' (first
|refine zA ?_
|refine zB ?_
|refine zH ?_
|apply aw_1
 conv=>whnf
 refine ⟨?_,trivial⟩
|apply zQ rfl rfl
 . conv=>lhs;whnf
 . conv=>lhs;whnf
 . first | exact bT1 ‹_› | exact bT2 ‹_›
|apply zO rfl rfl
 . conv=>lhs;whnf
 . conv=>lhs;whnf
 . first | exact bF1 ‹_› | exact bF2 ‹_›
|apply s_1
 conv=>whnf;arg 1;arg 4;arg 3;whnf
 refine ⟨?_,?_⟩
|apply zY rfl
 . conv=>lhs;whnf
 . conv=>lhs;whnf
 . first | exact hsg | exact hlt | exact hdg | exact hsp | exact hnu
|apply zT rfl rfl rfl
 . conv=>lhs;whnf
 . conv=>lhs;whnf;arg 1;whnf
 . conv=>lhs;whnf;arg 1;whnf
 . exact ⟨by kernel_rfl,by kernel_rfl⟩
 . rfl
|apply zV rfl
 . conv=>lhs;whnf
 . conv=>lhs;whnf
 . first | rfl | assumption
|refine zN ?_
|refine zE ?_
|exact trivial)
 . refine ⟨_,_,_,rfl,rfl,rfl,?_⟩
   show _=V.tup [.agg [.c (.int .i64 3),.c (.string ((bs s).extract ((i:Int)).toNat (((i+1+n:Nat):Int)).toNat)),.c (.int .i64 (i:Int))],.c (.int .i64 ((i+1+n:Nat):Int)),.c (.int .i64 (nerU (numU (s[i]::(s.drop (i+1)).take n))))]
   rw [hx];rfl
 all_goals first
  |exact zR (by omega)
  |exact ⟨by kernel_rfl,by omega,by omega⟩
  |exact ⟨by kernel_rfl,by omega,by omega,by omega⟩
  |exact (show Tryz.prog.underlying _=some TypeDesc.string by kernel_rfl)
  |skip
theorem one_neg (h0:signB s[i]=false) (h46:s[i]≠46) (hl:letU s[i]=false) (hd:digU s[i]=false) (h45:s[i]=45):AC EN5 Tryz.prog 37 [.c (.string (bs s)),.c (.int .i64 (i:Int))] (tupR ⟨3,s[i]::(s.drop (i+1)).take (spanN wrdU (s.drop (i+1))),i⟩ (i+1+spanN wrdU (s.drop (i+1))) (nerU (numU (s[i]::(s.drop (i+1)).take (spanN wrdU (s.drop (i+1))))))):=by
 have hz:=zZ s
 have hbt:=zAC hi
 have hdr:s.drop i=s[i]::s.drop (i+1):=List.drop_eq_getElem_cons hi
 have q : ∀ n:Nat,n<256->(zS (bs s) ((i:Int)).toNat==(n:Int))=(s[i]==UInt8.ofNat n):=fun n hn=>by rw [hbt];exact zBC _ n hn
 have hsg:=zAs s[i]
 have hlt:=zAH s[i]
 have hdg:=zAU s[i]
 rw [<- hbt] at hsg hlt hdg
 rw [h0] at hsg
 have f1:(zS (bs s) ((i:Int)).toNat==46)=false:=(q 46 (by omega)).trans (by simpa using h46)
 have g1:((zS (bs s) ((i:Int)).toNat==46)==true)=false:=by rw [f1];rfl
 have hle:=zAa wrdU (s.drop (i+1))
 rw [List.length_drop] at hle
 rw [hl] at hlt
 have hsp:=zEV s (i+1) (by omega) (by omega)
 generalize hn:spanN wrdU (s.drop (i+1))=n at *
 have hx:(bs s).extract ((i:Int)).toNat (((i+1+n:Nat):Int)).toNat=bs (s[i]::(s.drop (i+1)).take n):=by
  rw [Int.toNat_natCast,Int.toNat_natCast,zCg s (by omega) (by omega),hdr,show i+1+n-i=n+1 by omega,List.take_succ_cons]
 have hsz:((bs s).extract ((i:Int)).toNat (((i+1+n:Nat):Int)).toNat).size<=281474976710656:=by rw [ByteArray.size_extract];omega
 have hnu:=zGP _ hsz
 unfold numVV at hnu
 have htx:tx ((bs s).extract ((i:Int)).toNat (((i+1+n:Nat):Int)).toNat)=s[i]::(s.drop (i+1)).take n:=by rw [hx];exact zAG _
 rw [htx] at hnu
 have g2:(digU s[i]==false)=true:=by rw [hd];rfl
 have f3:(zS (bs s) ((i:Int)).toNat==45)=true:=(q 45 (by omega)).trans (by rw [h45];rfl)
 refine zM 115 Tryz.func37 rfl rfl rfl rfl ?_
 intro s0 w he
 repeat' (first
|apply zG
 . conv=>lhs;whnf
 . assumption
|refine zA ?_
|refine zB ?_
|refine zH ?_
|apply aw_1
 conv=>whnf
 refine ⟨?_,trivial⟩
|apply zO rfl rfl
 . conv=>lhs;whnf
 . conv=>lhs;whnf
 . first | exact bF1 ‹_› | exact bF2 ‹_›
|apply s_1
 conv=>whnf;arg 1;arg 4;arg 3;whnf
 refine ⟨?_,?_⟩
|apply zY rfl
 . conv=>lhs;whnf
 . conv=>lhs;whnf
 . first | exact hsg | exact hlt | exact hdg | exact hsp | exact hnu
|apply zT rfl rfl rfl
 . conv=>lhs;whnf
 . conv=>lhs;whnf;arg 1;whnf
 . conv=>lhs;whnf;arg 1;whnf
 . exact ⟨by kernel_rfl,by kernel_rfl⟩
 . rfl
|apply zD rfl
 . conv=>lhs;whnf
 . conv=>lhs;whnf
 . first | rfl | assumption
 . conv=>lhs;whnf;arg 2;whnf
|apply zV rfl
 . conv=>lhs;whnf
 . conv=>lhs;whnf
 . first | rfl | assumption
|refine zN ?_
|refine zE ?_
|exact trivial)
 . refine ⟨_,_,_,rfl,rfl,rfl,?_⟩
   show _=V.tup [.agg [.c (.int .i64 3),.c (.string ((bs s).extract ((i:Int)).toNat (((i+1+n:Nat):Int)).toNat)),.c (.int .i64 (i:Int))],.c (.int .i64 ((i+1+n:Nat):Int)),.c (.int .i64 (nerU (numU (s[i]::(s.drop (i+1)).take n))))]
   rw [hx];rfl
 all_goals first
  |exact zR (by omega)
  |exact ⟨by kernel_rfl,by omega,by omega⟩
  |exact ⟨by kernel_rfl,by omega,by omega,by omega⟩
  |exact (show Tryz.prog.underlying _=some TypeDesc.string by kernel_rfl)
  |skip
theorem one_none (h0:signB s[i]=false) (h46:s[i]≠46) (hl:letU s[i]=false) (hd:digU s[i]=false) (h45:s[i]≠45) (h34:s[i]≠34):AC EN5 Tryz.prog 37 [.c (.string (bs s)),.c (.int .i64 (i:Int))] failR:=by
 have hz:=zZ s
 have hbt:=zAC hi
 have hdr:s.drop i=s[i]::s.drop (i+1):=List.drop_eq_getElem_cons hi
 have q : ∀ n:Nat,n<256->(zS (bs s) ((i:Int)).toNat==(n:Int))=(s[i]==UInt8.ofNat n):=fun n hn=>by rw [hbt];exact zBC _ n hn
 have hsg:=zAs s[i]
 have hlt:=zAH s[i]
 have hdg:=zAU s[i]
 rw [<- hbt] at hsg hlt hdg
 rw [h0] at hsg
 have f1:(zS (bs s) ((i:Int)).toNat==46)=false:=(q 46 (by omega)).trans (by simpa using h46)
 have g1:((zS (bs s) ((i:Int)).toNat==46)==true)=false:=by rw [f1];rfl
 rw [hl] at hlt
 have g2:(digU s[i]==false)=true:=by rw [hd];rfl
 have f3:(zS (bs s) ((i:Int)).toNat==45)=false:=(q 45 (by omega)).trans (by simpa using h45)
 have f4:(zS (bs s) ((i:Int)).toNat==34)=false:=(q 34 (by omega)).trans (by simpa using h34)
 refine zM 115 Tryz.func37 rfl rfl rfl rfl ?_
 intro s0 w he
 repeat' (first
|apply zF
 . conv=>lhs;whnf
 . assumption
|refine zA ?_
|refine zB ?_
|refine zH ?_
|apply aw_1
 conv=>whnf
 refine ⟨?_,trivial⟩
|apply zO rfl rfl
 . conv=>lhs;whnf
 . conv=>lhs;whnf
 . first | exact bF1 ‹_› | exact bF2 ‹_›
|apply s_1
 conv=>whnf;arg 1;arg 4;arg 3;whnf
 refine ⟨?_,?_⟩
|apply zY rfl
 . conv=>lhs;whnf
 . conv=>lhs;whnf
 . first | exact hsg | exact hlt | exact hdg
|apply zT rfl rfl rfl
 . conv=>lhs;whnf
 . conv=>lhs;whnf;arg 1;whnf
 . conv=>lhs;whnf;arg 1;whnf
 . exact ⟨by kernel_rfl,by kernel_rfl⟩
 . rfl
|apply zD rfl
 . conv=>lhs;whnf
 . conv=>lhs;whnf
 . first | rfl | assumption
 . conv=>lhs;whnf;arg 2;whnf
|apply zV rfl
 . conv=>lhs;whnf
 . conv=>lhs;whnf
 . first | rfl | assumption
|refine zE ?_
|exact trivial)
 . exact ⟨_,_,_,rfl,rfl,rfl,rfl⟩
 all_goals first
  |exact zR (by omega)
  |exact ⟨by kernel_rfl,by omega,by omega⟩
  |exact ⟨by kernel_rfl,by omega,by omega,by omega⟩
  |exact (show Tryz.prog.underlying _=some TypeDesc.string by kernel_rfl)
  |skip
theorem one_open (h0:signB s[i]=false) (h46:s[i]≠46) (hl:letU s[i]=false) (hd:digU s[i]=false) (h45:s[i]≠45) (h34:s[i]=34) (hn:litN (s.drop (i+1))=none):AC EN5 Tryz.prog 37 [.c (.string (bs s)),.c (.int .i64 (i:Int))] failR:=by
 have hz:=zZ s
 have hbt:=zAC hi
 have hdr:s.drop i=s[i]::s.drop (i+1):=List.drop_eq_getElem_cons hi
 have q : ∀ n:Nat,n<256->(zS (bs s) ((i:Int)).toNat==(n:Int))=(s[i]==UInt8.ofNat n):=fun n hn=>by rw [hbt];exact zBC _ n hn
 have hsg:=zAs s[i]
 have hlt:=zAH s[i]
 have hdg:=zAU s[i]
 rw [<- hbt] at hsg hlt hdg
 rw [h0] at hsg
 have f1:(zS (bs s) ((i:Int)).toNat==46)=false:=(q 46 (by omega)).trans (by simpa using h46)
 have g1:((zS (bs s) ((i:Int)).toNat==46)==true)=false:=by rw [f1];rfl
 rw [hl] at hlt
 have g2:(digU s[i]==false)=true:=by rw [hd];rfl
 have f3:(zS (bs s) ((i:Int)).toNat==45)=false:=(q 45 (by omega)).trans (by simpa using h45)
 have f4:(zS (bs s) ((i:Int)).toNat==34)=true:=(q 34 (by omega)).trans (by rw [h34];rfl)
 have hll:=zFc s i hi (by omega)
 have hv:litV s i = -1:=by unfold litV;rw [hn]
 rw [hv] at hll
 refine zM 115 Tryz.func37 rfl rfl rfl rfl ?_
 intro s0 w he
 repeat' (first
|apply zG
 . conv=>lhs;whnf
 . assumption
|apply zF
 . conv=>lhs;whnf
 . assumption
|refine zA ?_
|refine zB ?_
|refine zH ?_
|apply aw_1
 conv=>whnf
 refine ⟨?_,trivial⟩
|apply zO rfl rfl
 . conv=>lhs;whnf
 . conv=>lhs;whnf
 . first | exact bF1 ‹_› | exact bF2 ‹_›
|apply s_1
 conv=>whnf;arg 1;arg 4;arg 3;whnf
 refine ⟨?_,?_⟩
|apply zY rfl
 . conv=>lhs;whnf
 . conv=>lhs;whnf
 . first | exact hsg | exact hlt | exact hdg | exact hll
|apply zT rfl rfl rfl
 . conv=>lhs;whnf
 . conv=>lhs;whnf;arg 1;whnf
 . conv=>lhs;whnf;arg 1;whnf
 . exact ⟨by kernel_rfl,by kernel_rfl⟩
 . rfl
|apply zD rfl
 . conv=>lhs;whnf
 . conv=>lhs;whnf
 . first | rfl | assumption
 . conv=>lhs;whnf;arg 2;whnf
|apply zV rfl
 . conv=>lhs;whnf
 . conv=>lhs;whnf
 . first | rfl | assumption
|refine zN ?_
|refine zE ?_
|exact trivial)
 . exact ⟨_,_,_,rfl,rfl,rfl,rfl⟩
 all_goals first
  |exact zR (by omega)
  |exact ⟨by kernel_rfl,by omega,by omega⟩
  |exact ⟨by kernel_rfl,by omega,by omega,by omega⟩
  |exact (show Tryz.prog.underlying _=some TypeDesc.string by kernel_rfl)
  |skip
theorem one_text (h0:signB s[i]=false) (h46:s[i]≠46) (hl:letU s[i]=false) (hd:digU s[i]=false) (h45:s[i]≠45) (h34:s[i]=34) (n:Nat) (hn:litN (s.drop (i+1))=some n):AC EN5 Tryz.prog 37 [.c (.string (bs s)),.c (.int .i64 (i:Int))] (tupR ⟨4,(unquoteU (s[i]::(s.drop (i+1)).take n)).getD [],i⟩ (i+1+n) (uqE (unquoteU (s[i]::(s.drop (i+1)).take n)))):=by
 have hz:=zZ s
 have hbt:=zAC hi
 have hdr:s.drop i=s[i]::s.drop (i+1):=List.drop_eq_getElem_cons hi
 have q : ∀ n:Nat,n<256->(zS (bs s) ((i:Int)).toNat==(n:Int))=(s[i]==UInt8.ofNat n):=fun n hn=>by rw [hbt];exact zBC _ n hn
 have hsg:=zAs s[i]
 have hlt:=zAH s[i]
 have hdg:=zAU s[i]
 rw [<- hbt] at hsg hlt hdg
 rw [h0] at hsg
 have f1:(zS (bs s) ((i:Int)).toNat==46)=false:=(q 46 (by omega)).trans (by simpa using h46)
 have g1:((zS (bs s) ((i:Int)).toNat==46)==true)=false:=by rw [f1];rfl
 rw [hl] at hlt
 have g2:(digU s[i]==false)=true:=by rw [hd];rfl
 have f3:(zS (bs s) ((i:Int)).toNat==45)=false:=(q 45 (by omega)).trans (by simpa using h45)
 have f4:(zS (bs s) ((i:Int)).toNat==34)=true:=(q 34 (by omega)).trans (by rw [h34];rfl)
 have hll:=zFc s i hi (by omega)
 have hln:=zD4 _ n hn
 rw [List.length_drop] at hln
 have hv:litV s i=((i+1+n:Nat):Int):=by unfold litV;rw [hn]
 rw [hv] at hll
 have f7:decide (((i+1+n:Nat):Int)<0)=false:=decide_eq_false (by omega)
 have hx:(bs s).extract ((i:Int)).toNat (((i+1+n:Nat):Int)).toNat=bs (s[i]::(s.drop (i+1)).take n):=by
  rw [Int.toNat_natCast,Int.toNat_natCast,zCg s (by omega) (by omega),hdr,show i+1+n-i=n+1 by omega,List.take_succ_cons]
 have hsz:((bs s).extract ((i:Int)).toNat (((i+1+n:Nat):Int)).toNat).size<=100000:=by rw [ByteArray.size_extract];omega
 have huq:=zJR _ hsz
 unfold uqVV at huq
 have htx:tx ((bs s).extract ((i:Int)).toNat (((i+1+n:Nat):Int)).toNat)=s[i]::(s.drop (i+1)).take n:=by rw [hx];exact zAG _
 rw [htx] at huq
 refine zM 115 Tryz.func37 rfl rfl rfl rfl ?_
 intro s0 w he
 repeat' (first
|apply zG
 . conv=>lhs;whnf
 . assumption
|apply zF
 . conv=>lhs;whnf
 . assumption
|refine zA ?_
|refine zB ?_
|refine zH ?_
|apply aw_1
 conv=>whnf
 refine ⟨?_,trivial⟩
|apply zO rfl rfl
 . conv=>lhs;whnf
 . conv=>lhs;whnf
 . first | exact bF1 ‹_› | exact bF2 ‹_›
|apply s_1
 conv=>whnf;arg 1;arg 4;arg 3;whnf
 refine ⟨?_,?_⟩
|apply zY rfl
 . conv=>lhs;whnf
 . conv=>lhs;whnf
 . first | exact hsg | exact hlt | exact hdg | exact hll | exact huq
|apply zT rfl rfl rfl
 . conv=>lhs;whnf
 . conv=>lhs;whnf;arg 1;whnf
 . conv=>lhs;whnf;arg 1;whnf
 . exact ⟨by kernel_rfl,by kernel_rfl⟩
 . rfl
|apply zD rfl
 . conv=>lhs;whnf
 . conv=>lhs;whnf
 . first | rfl | assumption
 . conv=>lhs;whnf;arg 2;whnf
|apply zV rfl
 . conv=>lhs;whnf
 . conv=>lhs;whnf
 . first | rfl | assumption
|refine zN ?_
|refine zE ?_
|exact trivial)
 . exact ⟨_,_,_,rfl,rfl,rfl,rfl⟩
 all_goals first
  |exact zR (by omega)
  |exact ⟨by kernel_rfl,by omega,by omega⟩
  |exact ⟨by kernel_rfl,by omega,by omega,by omega⟩
  |exact (show Tryz.prog.underlying _=some TypeDesc.string by kernel_rfl)
  |skip
theorem one_nodA (h0:signB s[i]=false) (h:s[i]=46) (h3 : ¬ i+3<=s.length):AC EN5 Tryz.prog 37 [.c (.string (bs s)),.c (.int .i64 (i:Int))] failR:=by
 have hz:=zZ s
 have hbt:=zAC hi
 have hdr:s.drop i=s[i]::s.drop (i+1):=List.drop_eq_getElem_cons hi
 have q : ∀ n:Nat,n<256->(zS (bs s) ((i:Int)).toNat==(n:Int))=(s[i]==UInt8.ofNat n):=fun n hn=>by rw [hbt];exact zBC _ n hn
 have hsg:=zAs s[i]
 have hlt:=zAH s[i]
 have hdg:=zAU s[i]
 rw [<- hbt] at hsg hlt hdg
 rw [h0] at hsg
 have f1:(zS (bs s) ((i:Int)).toNat==46)=true:=(q 46 (by omega)).trans (by rw [h];rfl)
 have g1:((zS (bs s) ((i:Int)).toNat==46)==true)=true:=by rw [f1];rfl
 have f2:decide ((i:Int)+3<=((bs s).size:Nat))=false:=decide_eq_false (by omega)
 have g2:(decide ((i:Int)+3<=((bs s).size:Nat))==true)=false:=by rw [f2];rfl
 rw [show letU s[i]=false by rw [h];rfl] at hlt
 have hd0:digU s[i]=false:=by rw [h];rfl
 have g4:(digU s[i]==false)=true:=by rw [hd0];rfl
 have f5:(zS (bs s) ((i:Int)).toNat==45)=false:=(q 45 (by omega)).trans (by rw [h];rfl)
 have f6:(zS (bs s) ((i:Int)).toNat==34)=false:=(q 34 (by omega)).trans (by rw [h];rfl)
 refine zM 115 Tryz.func37 rfl rfl rfl rfl ?_
 intro s0 w he
 repeat' (first
|apply zF
 . conv=>lhs;whnf
 . assumption
|refine zA ?_
|refine zB ?_
|refine zH ?_
|apply aw_1
 conv=>whnf
 refine ⟨?_,trivial⟩
|apply zQ rfl rfl
 . conv=>lhs;whnf
 . conv=>lhs;whnf
 . first | exact bT1 ‹_› | exact bT2 ‹_›
|apply zO rfl rfl
 . conv=>lhs;whnf
 . conv=>lhs;whnf
 . first | exact bF1 ‹_› | exact bF2 ‹_›
|apply s_1
 conv=>whnf;arg 1;arg 4;arg 3;whnf
 refine ⟨?_,?_⟩
|apply zY rfl
 . conv=>lhs;whnf
 . conv=>lhs;whnf
 . first | exact hsg | exact hlt | exact hdg
|apply zT rfl rfl rfl
 . conv=>lhs;whnf
 . conv=>lhs;whnf;arg 1;whnf
 . conv=>lhs;whnf;arg 1;whnf
 . exact ⟨by kernel_rfl,by kernel_rfl⟩
 . rfl
|apply zD rfl
 . conv=>lhs;whnf
 . conv=>lhs;whnf
 . first | rfl | assumption
 . conv=>lhs;whnf;arg 2;whnf
|apply zV rfl
 . conv=>lhs;whnf
 . conv=>lhs;whnf
 . first | rfl | assumption
|refine zE ?_
|exact trivial)
 . exact ⟨_,_,_,rfl,rfl,rfl,rfl⟩
 all_goals first
  |exact zR (by omega)
  |exact ⟨by kernel_rfl,by omega,by omega⟩
  |exact ⟨by kernel_rfl,by omega,by omega,by omega⟩
  |exact (show Tryz.prog.underlying _=some TypeDesc.string by kernel_rfl)
  |skip
theorem one_nodB (h0:signB s[i]=false) (h:s[i]=46) (h3:i+3<=s.length) (hd:(s.drop (i+1)).take 2≠[46,46]):AC EN5 Tryz.prog 37 [.c (.string (bs s)),.c (.int .i64 (i:Int))] failR:=by
 have hz:=zZ s
 have hbt:=zAC hi
 have hdr:s.drop i=s[i]::s.drop (i+1):=List.drop_eq_getElem_cons hi
 have q : ∀ n:Nat,n<256->(zS (bs s) ((i:Int)).toNat==(n:Int))=(s[i]==UInt8.ofNat n):=fun n hn=>by rw [hbt];exact zBC _ n hn
 have hsg:=zAs s[i]
 have hlt:=zAH s[i]
 have hdg:=zAU s[i]
 rw [<- hbt] at hsg hlt hdg
 rw [h0] at hsg
 have f1:(zS (bs s) ((i:Int)).toNat==46)=true:=(q 46 (by omega)).trans (by rw [h];rfl)
 have g1:((zS (bs s) ((i:Int)).toNat==46)==true)=true:=by rw [f1];rfl
 have f2:decide ((i:Int)+3<=((bs s).size:Nat))=true:=decide_eq_true (by omega)
 have g2:(decide ((i:Int)+3<=((bs s).size:Nat))==true)=true:=by rw [f2];rfl
 have hx:(bs s).extract ((i:Int)).toNat (((i:Int)+3)).toNat=bs (46::(s.drop (i+1)).take 2):=by
  rw [show (((i:Int)+3)).toNat=i+3 by omega,Int.toNat_natCast,zCg s (by omega) (by omega),hdr,Nat.add_sub_cancel_left,h,List.take_succ_cons]
 have f3:(((bs s).extract ((i:Int)).toNat (((i:Int)+3)).toNat).toList==({ data:=#[46,46,46] }:ByteArray).toList)=false:=by
  rw [hx,beq_eq_false_iff_ne]
  intro e
  rw [Lib.toList_data,Lib.toList_data,zAG] at e
  injection e with e1 e2
  exact hd e2
 rw [show letU s[i]=false by rw [h];rfl] at hlt
 have hd0:digU s[i]=false:=by rw [h];rfl
 have g4:(digU s[i]==false)=true:=by rw [hd0];rfl
 have f5:(zS (bs s) ((i:Int)).toNat==45)=false:=(q 45 (by omega)).trans (by rw [h];rfl)
 have f6:(zS (bs s) ((i:Int)).toNat==34)=false:=(q 34 (by omega)).trans (by rw [h];rfl)
 refine zM 115 Tryz.func37 rfl rfl rfl rfl ?_
 intro s0 w he
 repeat' (first
|apply zF
 . conv=>lhs;whnf
 . assumption
|refine zA ?_
|refine zB ?_
|refine zH ?_
|apply aw_1
 conv=>whnf
 refine ⟨?_,trivial⟩
|apply zQ rfl rfl
 . conv=>lhs;whnf
 . conv=>lhs;whnf
 . first | exact bT1 ‹_› | exact bT2 ‹_›
|apply zO rfl rfl
 . conv=>lhs;whnf
 . conv=>lhs;whnf
 . first | exact bF1 ‹_› | exact bF2 ‹_›
|apply s_1
 conv=>whnf;arg 1;arg 4;arg 3;whnf
 refine ⟨?_,?_⟩
|apply zY rfl
 . conv=>lhs;whnf
 . conv=>lhs;whnf
 . first | exact hsg | exact hlt | exact hdg
|apply zT rfl rfl rfl
 . conv=>lhs;whnf
 . conv=>lhs;whnf;arg 1;whnf
 . conv=>lhs;whnf;arg 1;whnf
 . exact ⟨by kernel_rfl,by kernel_rfl⟩
 . rfl
|apply zD rfl
 . conv=>lhs;whnf
 . conv=>lhs;whnf
 . first | rfl | assumption
 . conv=>lhs;whnf;arg 2;whnf
|refine zE ?_
|exact trivial)
 . exact ⟨_,_,_,rfl,rfl,rfl,rfl⟩
 all_goals first
  |exact zR (by omega)
  |exact ⟨by kernel_rfl,by omega,by omega⟩
  |exact ⟨by kernel_rfl,by omega,by omega,by omega⟩
  |exact (show Tryz.prog.underlying _=some TypeDesc.string by kernel_rfl)
  |skip
theorem one_ac:AC EN5 Tryz.prog 37 [.c (.string (bs s)),.c (.int .i64 (i:Int))] (readV (s.drop i) i):=by
 have hdr:s.drop i=s[i]::s.drop (i+1):=List.drop_eq_getElem_cons hi
 have hlr:(s.drop (i+1)).length=s.length-(i+1):=List.length_drop ..
 rw [hdr]
 unfold readV
 dsimp only
 by_cases h0:signB s[i]=true
 . rw [if_pos h0];exact one_sign hi hs h0
 rw [if_neg h0]
 have h0:signB s[i]=false:=by simpa using h0
 by_cases h46:s[i]=46
 . rw [if_pos (by simp [h46])]
   by_cases hd:(s.drop (i+1)).take 2=[46,46]
   . rw [if_pos hd]
     have:=congrArg List.length hd
     rw [List.length_take] at this
     exact one_dots hi hs h0 h46 (by simp at this;omega) hd
   . rw [if_neg hd]
     by_cases h3:i+3<=s.length
     . exact one_nodB hi hs h0 h46 h3 hd
     . exact one_nodA hi hs h0 h46 h3
 rw [if_neg (by simpa using h46)]
 by_cases hd:digU s[i]=true
 . rw [if_pos (by rw [hd,Bool.or_true])]
   have hl:letU s[i]=false:=by
    cases hq:letU s[i] with
    |false=>rfl
    |true =>
     rw [let_iff] at hq
     rw [zBM] at hd
     omega
   exact one_dig hi hs h0 h46 hl hd
 have hd:digU s[i]=false:=by simpa using hd
 by_cases h45:s[i]=45
 . rw [if_pos (by simp [h45])]
   exact one_neg hi hs h0 h46 (by rw [h45];rfl) hd h45
 rw [if_neg (by rw [hd];simpa using h45)]
 have hwl:wrdU s[i]=letU s[i]:=by unfold wrdU;rw [hd,Bool.or_false]
 rw [hwl]
 by_cases hl:letU s[i]=true
 . rw [if_pos hl]
   by_cases hlen:spanN wrdU (s.drop (i+1))+1>64
   . rw [if_pos hlen];exact one_long hi hs h0 h46 hl (by omega)
   . rw [if_neg hlen];exact one_word hi hs h0 h46 hl (by omega)
 rw [if_neg hl]
 have hl:letU s[i]=false:=by simpa using hl
 by_cases h34:s[i]=34
 . rw [if_pos (by simp [h34])]
   cases hn:litN (s.drop (i+1)) with
   |none=>exact one_open hi hs h0 h46 hl hd h45 h34 hn
   |some n=>exact one_text hi hs h0 h46 hl hd h45 h34 n hn
 . rw [if_neg (by simpa using h34)]
   exact one_none hi hs h0 h46 hl hd h45 h34
end
end
section
open Go.RowKit
set_option linter.unusedSectionVars false
attribute [local irreducible] wpList Calls Code.wp AW AWo OpOk seqK zm zo loopK endK AC zh Yld Sub
attribute [local irreducible] ACB ACX ACE absLexG YldG absLexH
theorem zEg:zz Tryz.prog 33=some (70,32):=by kernel_rfl
noncomputable def scanX:Except (Nat × Int) (List Tok)->V
 |.ok ts => .tup [.sl 70 (ts.map tokD),.c (.int .i64 0),.c (.int .i64 0)]
 |.error x => .tup [.c (.slice none 0 0),.c (.int .i64 (x.1:Int)),.c (.int .i64 x.2)]
theorem zGE (r:Except (Nat × Int) (List Tok)):(scanX r).pure=true:=by cases r<;>rfl
noncomputable def HSx (s:List UInt8) (k:Nat) (acc:List Tok):Vst 44:=
 stS 44 [(0,.c (.string (bs s))),(5,.own 5 70 (acc.map tokD)),(6,.c (.int .i64 (k:Int)))] [(5,.tok 70 (acc.map tokD).length)]
theorem scanF_big (s:List UInt8) (hs:65536<s.length):AC EN5 Tryz.prog 16 [.c (.string (bs s))] (scanX (scanT s)):=by
 have hz:=zZ s
 have e:scanT s = .error (65536,4):=by unfold scanT;rw [if_pos hs]
 have f0:decide (((bs s).size:Int)>65536)=true:=decide_eq_true (by omega)
 rw [e]
 refine zM 44 Tryz.func16 rfl rfl rfl (zGE _) ?_
 intro s0 w he
 repeat' (first
|apply zG
 . conv=>lhs;whnf
 . assumption
|refine zA ?_
|refine zB ?_
|refine zH ?_
|apply aw_1
 conv=>whnf
 refine ⟨?_,trivial⟩
|apply s_1
 conv=>whnf;arg 1;arg 4;arg 3;whnf
 refine ⟨?_,?_⟩
|refine zN ?_
|refine zE ?_
|exact trivial)
 . exact ⟨_,_,_,rfl,rfl,rfl,rfl⟩
 all_goals exact (show Tryz.prog.underlying _=some TypeDesc.string by kernel_rfl)
theorem zG0 (s:List UInt8):AC EN5 Tryz.prog 16 [.c (.string (bs s))] (scanX (scanT s)):=by
 by_cases hbig:65536<s.length
 . exact scanF_big s hbig
 have hz:=zZ s
 have f0:decide (((bs s).size:Int)>65536)=false:=decide_eq_false (by omega)
 have hsk0:=zKN s 0 (by omega) (by omega)
 rw [Nat.zero_add,List.drop_zero] at hsk0
 have hkl:=zAb false s
 have e0:scanT s=zJM [] (scanG s.length (s.drop (skipM false s)) (skipM false s)):=by
  unfold scanT
  rw [if_neg hbig,zKS,Nat.zero_add]
  cases scanG s.length (s.drop (skipM false s)) (skipM false s)<;>rfl
 refine zM 44 Tryz.func16 rfl rfl rfl (zGE _) ?_
 intro s0 w he
 repeat' (first
|apply zF
 . conv=>lhs;whnf
 . assumption
|refine zA ?_
|refine zB ?_
|refine zH ?_
|apply aw_1
 conv=>whnf
 refine ⟨?_,trivial⟩
|apply s_1
 conv=>whnf;arg 1;arg 4;arg 3;whnf
 refine ⟨?_,?_⟩
|apply zY rfl
 . conv=>lhs;whnf
 . conv=>lhs;whnf
 . first | exact hsk0
|exact trivial)
 refine zi (Sub.own (t:=5) (e:=70) rfl rfl) ?_
 refine zf (fun j st => ∃ k acc f,k+j=s.length/\acc.length<=k/\s.length<f+k+1/\scanT s=zJM acc (scanG f (s.drop k) k)/\Sub (cx EN5 Tryz.prog s0 w he) st (HSx s k acc)) (s.length-skipM false s) ⟨skipM false s,[],s.length,by omega,by simp,by omega,e0,?_⟩ ?_
 . exact Sub.live ⟨rfl,rfl,rfl,trivial⟩ ⟨rfl,trivial⟩
 rintro j st ⟨k,acc,f,hkj,hacc,hf,hI,hs2⟩
 refine zi hs2 ?_
 clear hs2 hsk0
 rw [hI]
 clear hI e0
 by_cases hk:k<s.length
 . have f1:decide ((k:Int)<((bs s).size:Nat))=true:=decide_eq_true (by omega)
   have hrd:=one_ac hk (by omega)
   have hdr:s.drop k=s[k]::s.drop (k+1):=List.drop_eq_getElem_cons hk
   obtain ⟨r1,r2⟩:=zKY s[k] (s.drop (k+1)) k
   rw [hdr] at hrd |-
   cases hr:readU (s[k]::s.drop (k+1)) with
   |error e =>
    obtain ⟨he0,t',k',ht⟩:=r2 e hr
    rw [ht] at hrd
    unfold tupR at hrd
    have hrt:zC5 (s[k]::s.drop (k+1)) k = .error e:=by unfold zC5;rw [hr]
    have eG:scanG f (s[k]::s.drop (k+1)) k = .error (k,e):=by unfold scanG;simp only [hrt]
    rw [eG]
    have f2:(e != 0)=true:=by simpa using he0
    repeat' (first
|apply zG
 . conv=>lhs;whnf
 . assumption
|refine zA ?_
|refine zB ?_
|refine zH ?_
|apply aw_1
 conv=>whnf
 refine ⟨?_,trivial⟩
|apply s_1
 conv=>whnf;arg 1;arg 4;arg 3;whnf
 refine ⟨?_,?_⟩
|apply zY rfl
 . conv=>lhs;whnf
 . conv=>lhs;whnf
 . first | exact hrd
|apply zT rfl rfl rfl
 . conv=>lhs;whnf
 . conv=>lhs;whnf;arg 1;whnf
 . conv=>lhs;whnf;arg 1;whnf
 . exact ⟨by kernel_rfl,by kernel_rfl⟩
 . rfl
|refine zN ?_
|refine zP ?_
|refine zg ?_
|refine zE ?_
|exact trivial)
    . exact ⟨_,_,_,rfl,rfl,rfl,rfl⟩
    all_goals exact (show Tryz.prog.underlying _=some TypeDesc.string by kernel_rfl)
   |ok p =>
    obtain ⟨kk,t,n⟩:=p
    have hn:=zBK hr
    have hdl:(s[k]::s.drop (k+1)).length=s.length-k:=by rw [<- hdr,List.length_drop]
    rw [hdl] at hn
    rw [r1 kk t n hr] at hrd
    unfold tupR at hrd
    have hsk:=zKN s (k+n) (by omega) (by omega)
    have hsl:=zAb false (s.drop (k+n))
    rw [List.length_drop] at hsl
    have hrt:zC5 (s[k]::s.drop (k+1)) k = .ok (⟨kk,t,k⟩,n):=by unfold zC5;rw [hr]
    obtain ⟨f',rfl⟩ : ∃ f',f=f'+1:=⟨f-1,by omega⟩
    have hdn:(s[k]::s.drop (k+1)).drop n=s.drop (k+n):=by rw [<- hdr,List.drop_drop]
    have eG:zJM acc (scanG (f'+1) (s[k]::s.drop (k+1)) k)=zJM (acc++[⟨kk,t,k⟩]) (scanG f' (s.drop (k+n+skipM false (s.drop (k+n)))) (k+n+skipM false (s.drop (k+n)))):=by
     conv=>lhs;unfold scanG
     simp only [hrt,hdn]
     rw [zKS,List.drop_drop]
     cases scanG f' (s.drop (k+n+skipM false (s.drop (k+n)))) (k+n+skipM false (s.drop (k+n))) with
     |error x=>rfl
     |ok ts=>show Except.ok (acc++_::ts)=Except.ok ((acc++[_])++ts);rw [List.append_assoc];rfl
    rw [eG]
    repeat' (first
|apply zE3 [tokD ⟨kk,t,k⟩] rfl rfl
 . conv=>lhs;whnf
 . first | exact zEg | (conv=>lhs;whnf;arg 1;whnf)
 . rfl
 . rfl
 . repeat' (first | exact trivial | apply And.intro | rfl)
|apply zG
 . conv=>lhs;whnf
 . assumption
|refine zA ?_
|refine zB ?_
|refine zH ?_
|refine zW ?_
|apply aw_1
 conv=>whnf
 refine ⟨?_,trivial⟩
|apply s_1
 conv=>whnf;arg 1;arg 4;arg 3;whnf
 refine ⟨?_,?_⟩
|apply zY rfl
 . conv=>lhs;whnf
 . conv=>lhs;whnf
 . first | exact hrd | exact hsk
|apply zT rfl rfl rfl
 . conv=>lhs;whnf
 . conv=>lhs;whnf;arg 1;whnf
 . conv=>lhs;whnf;arg 1;whnf
 . exact ⟨by kernel_rfl,by kernel_rfl⟩
 . rfl
|apply zDb rfl rfl
 . conv=>lhs;whnf
 . first | exact zEg | (conv=>lhs;whnf;arg 1;whnf)
 . first | exact fun _=>rfl | (intro _;kernel_rfl)
 . conv=>lhs;whnf
 . conv=>lhs;whnf;arg 1;whnf
 . conv=>lhs;whnf
|exact trivial)
    . refine zI (j':=j-(n+skipM false (s.drop (k+n)))) (by omega) ⟨k+n+skipM false (s.drop (k+n)),acc++[⟨kk,t,k⟩],f',by omega,by rw [List.length_append];simp only [List.length_cons,List.length_nil];omega,by omega,rfl,Sub.live ⟨rfl,?_,rfl,trivial⟩ ⟨?_,trivial⟩⟩
      . show V.own 5 _ (acc.map tokD++[tokD ⟨kk,t,k⟩])=V.own 5 _ ((acc++[(⟨kk,t,k⟩:Tok)]).map tokD)
        rw [List.map_append];rfl
      . show some (Res.tok _ ((acc.map tokD).length+1))=some (Res.tok _ ((acc++[(⟨kk,t,k⟩:Tok)]).map tokD).length)
        simp
    . refine ⟨by simp,?_,?_⟩<;>simp only [List.length_cons,List.length_nil,List.length_map,maxLen]<;>omega
    . exact (show Tryz.prog.underlying _=some TypeDesc.string by kernel_rfl)
 . have f1:decide ((k:Int)<((bs s).size:Nat))=false:=decide_eq_false (by omega)
   have hdr:s.drop k=[]:=List.drop_of_length_le (by omega)
   rw [hdr]
   have ek:k=s.length:=by omega
   repeat' (first
|apply zE3 [tokD ⟨5,[],(bs s).size⟩] rfl rfl
 . conv=>lhs;whnf
 . first | exact zEg | (conv=>lhs;whnf;arg 1;whnf)
 . rfl
 . rfl
 . repeat' (first | exact trivial | apply And.intro | rfl)
|apply zF
 . conv=>lhs;whnf
 . assumption
|refine zA ?_
|refine zB ?_
|refine zH ?_
|apply aw_1
 conv=>whnf
 refine ⟨?_,trivial⟩
|apply s_1
 conv=>whnf;arg 1;arg 4;arg 3;whnf
 refine ⟨?_,?_⟩
|apply zDb rfl rfl
 . conv=>lhs;whnf
 . first | exact zEg | (conv=>lhs;whnf;arg 1;whnf)
 . first | exact fun _=>rfl | (intro _;kernel_rfl)
 . conv=>lhs;whnf
 . conv=>lhs;whnf;arg 1;whnf
 . conv=>lhs;whnf
|refine zL ?_
|refine zJ rfl ?_
|refine zK ?_
|refine zE ?_
|exact trivial)
   . refine ⟨_,_,_,rfl,rfl,rfl,?_⟩
     show V.tup [.sl 70 ((acc++[(⟨5,[],k⟩:Tok)]).map tokD),.c (.int .i64 0),.c (.int .i64 0)]=V.tup [.sl 70 (acc.map tokD++[tokD ⟨5,[],(bs s).size⟩]),.c (.int .i64 0),.c (.int .i64 0)]
     rw [ek,hz,List.map_append];rfl
   . refine ⟨by simp,?_,?_⟩<;>simp only [List.length_cons,List.length_nil,List.length_map,maxLen]<;>omega
   all_goals exact (show Tryz.prog.underlying _=some TypeDesc.string by kernel_rfl)
 exact (show Tryz.prog.underlying _=some TypeDesc.string by kernel_rfl)
theorem scanR_bad {s:List UInt8} {x:Nat × Int} (h:scanT s = .error x):AC EN5 Tryz.prog 16 [.c (.string (bs s))] (scanX (.error x)):=by
 have:=zG0 s
 rwa [h] at this
section
variable (hEx:AC EN5 Tryz.prog 9 [] (.c (.bool true)))
include hEx
theorem spaces6Big (s:List UInt8) (h:4000<s.length):AC EN5 Tryz.prog 5 [.c (.string (bs s))] (.c (.bool true)):=by
 have hz:=zZ s
 have f0:decide (((bs s).size:Int)>4000)=true:=decide_eq_true (by omega)
 refine zM 92 Tryz.func5 rfl rfl rfl rfl ?_
 intro σ w he
 repeat' (first
|apply zG
 . conv=>lhs;whnf
 . assumption
|refine zA ?_
|refine zB ?_
|refine zH ?_
|apply aw_1
 conv=>whnf
 refine ⟨?_,trivial⟩
|apply s_1
 conv=>whnf;arg 1;arg 4;arg 3;whnf
 refine ⟨?_,?_⟩
|apply zY rfl
 . conv=>lhs;whnf
 . conv=>lhs;whnf
 . first | exact hEx
|refine zN ?_
|refine zE ?_
|refine ⟨_,by conv=>lhs;whnf;arg 2;whnf,?_⟩;conv=>rhs;whnf
|exact trivial)
 all_goals exact zAV
section
variable (s:List UInt8) (hs:s.length<=4000)
include hs
theorem zJZ {x:Nat × Int} (hx:scanT s = .error x):AC EN5 Tryz.prog 5 [.c (.string (bs s))] (.c (.bool true)):=by
 have hz:=zZ s
 have f0:decide (((bs s).size:Int)>4000)=false:=decide_eq_false (by omega)
 have h2:=zBR s (by omega)
 have h3:=scanR_bad hx
 have hx2:=zGz (i:=x.1) hx
 rw [zE7 hx] at h2
 dsimp only [dfs6,at6,er6] at h2
 have f1:(x.2 != 0)=true:=by simpa using hx2
 have g1:((x.2==x.2)==true)=true:=by simp
 have g2:(x.2==x.2)=true:=by simp
 have k1:((x.2==x.2)==true)=false->False:=fun h=>by simp at h
 have k2:(x.2==x.2)=false->False:=fun h=>by simp at h
 refine zM 92 Tryz.func5 rfl rfl rfl rfl ?_
 intro σ w he
 repeat' (first
|apply zG
 . conv=>lhs;whnf
 . assumption
|apply zF
 . conv=>lhs;whnf
 . assumption
|refine zA ?_
|refine zB ?_
|refine zH ?_
|apply aw_1
 conv=>whnf
 refine ⟨?_,trivial⟩
|apply zQ rfl rfl
 . conv=>lhs;whnf
 . conv=>lhs;whnf
 . first | exact bT1 ‹_› | exact bT2 ‹_›
|apply s_1
 conv=>whnf;arg 1;arg 4;arg 3;whnf
 refine ⟨?_,?_⟩
|apply zY rfl
 . conv=>lhs;whnf
 . conv=>lhs;whnf
 . first | exact hEx | exact h2 | exact h3
|apply zT rfl rfl rfl
 . conv=>lhs;whnf
 . conv=>lhs;whnf;arg 1;whnf
 . conv=>lhs;whnf;arg 1;whnf
 . exact ⟨by kernel_rfl,by kernel_rfl⟩
 . rfl
|apply zX rfl
 . conv=>lhs;whnf
 . conv=>lhs;whnf
 . first | rfl | assumption
 . conv=>lhs;whnf
 . first | exact hEx | exact h2 | exact h3
|refine zN ?_
|refine zE ?_
|refine ⟨_,by conv=>lhs;whnf;arg 2;whnf,?_⟩;conv=>rhs;whnf
|exact trivial)
 all_goals first
  |exact zAV
  |rfl
  |skip
theorem spaces6Err {ts:List Tok} (hsc:scanT s = .ok ts) {i:Nat} {e:Int} (hp:parseD s = .error (i,e)):AC EN5 Tryz.prog 5 [.c (.string (bs s))] (.c (.bool true)):=by
 have hz:=zZ s
 have f0:decide (((bs s).size:Int)>4000)=false:=decide_eq_false (by omega)
 have hlen:=zE6 hsc hs
 obtain ⟨i',hp2⟩:=(zGA hsc hlen).2 i e hp
 obtain ⟨he0,hi⟩:=zGJ hsc hp
 have h2:=zBR s (by omega)
 have h3:=zG0 s
 have h4:=zIQ hsc hs
 have h5:=zBR (printT ts) (by omega)
 rw [hp] at h2
 rw [hsc] at h3
 rw [hp2] at h5
 dsimp only [dfs6,at6,er6] at h2 h5
 have h6:=zFV (zA2 [])
 have f1:(e != 0)=true:=by simpa using he0
 have f2:decide ((i:Int)>=0)=true:=decide_eq_true (by omega)
 have f3:decide ((i:Int)<=((bs s).size:Int))=true:=decide_eq_true (by omega)
 have f4:decide ((i':Int)>=0)=true:=decide_eq_true (by omega)
 have g1:(e != e)=false:=by simp
 have g2:((e != e)==false)=true:=by simp
 have k1:(e != e)=true->False:=fun h=>by simp at h
 have k2:((e != e)==false)=false->False:=fun h=>by simp at h
 have k6:(decide ((i:Int)>=0)==true)=false->False:=fun h=>by rw [f2] at h;cases h
 have k7:(decide ((i:Int)<=((bs s).size:Int))==true)=false->False:=fun h=>by rw [f3] at h;cases h
 have k8:(decide ((i':Int)>=0)==true)=false->False:=fun h=>by rw [f4] at h;cases h
 have k3:decide ((i:Int)>=0)=false->False:=fun h=>by rw [f2] at h;cases h
 have k4:decide ((i:Int)<=((bs s).size:Int))=false->False:=fun h=>by rw [f3] at h;cases h
 have k5:decide ((i':Int)>=0)=false->False:=fun h=>by rw [f4] at h;cases h
 refine zM 92 Tryz.func5 rfl rfl rfl rfl ?_
 intro σ w he
 repeat' (first
|apply zG
 . conv=>lhs;whnf
 . assumption
|apply zF
 . conv=>lhs;whnf
 . assumption
|exact (k7 ‹_›).elim
|refine zA ?_
|refine zB ?_
|refine zH ?_
|apply aw_1
 conv=>whnf
 refine ⟨?_,trivial⟩
|apply zQ rfl rfl
 . conv=>lhs;whnf
 . conv=>lhs;whnf
 . first | exact bT1 ‹_› | exact bT2 ‹_›
|apply zO rfl rfl
 . conv=>lhs;whnf
 . conv=>lhs;whnf
 . first | exact bF1 ‹_› | exact bF2 ‹_›
|apply s_1
 conv=>whnf;arg 1;arg 4;arg 3;whnf
 refine ⟨?_,?_⟩
|apply zY rfl
 . conv=>lhs;whnf
 . conv=>lhs;whnf
 . first | exact hEx | exact h2 | exact h3 | exact h4 | exact h5 | exact h6
|apply zT rfl rfl rfl
 . conv=>lhs;whnf
 . conv=>lhs;whnf;arg 1;whnf
 . conv=>lhs;whnf;arg 1;whnf
 . exact ⟨by kernel_rfl,by kernel_rfl⟩
 . rfl
|apply zD rfl
 . conv=>lhs;whnf
 . conv=>lhs;whnf
 . first | rfl | assumption
 . conv=>lhs;whnf;arg 2;whnf
|apply zX rfl
 . conv=>lhs;whnf
 . conv=>lhs;whnf
 . first | rfl | assumption
 . conv=>lhs;whnf
 . first | exact hEx | exact h2 | exact h3 | exact h4 | exact h5 | exact h6
|apply zC rfl
 . conv=>lhs;whnf
 . conv=>lhs;whnf
 . conv=>lhs;whnf;arg 2;whnf
|refine zN ?_
|refine zE ?_
|refine ⟨_,by conv=>lhs;whnf;arg 2;whnf,?_⟩;conv=>rhs;whnf
|exact trivial
|intro hg)
 all_goals first
  |exact zAV
  |rfl
  |skip
theorem spaces6Ok {lit:D->Bool} {ts:List Tok} (hsc:scanT s = .ok ts) {ds:List D} (hp:parseD s = .ok (zA2 ds)) (hY:docY lit ds=true)
 (hRp:AC EN5 Tryz.prog 14 [.agg (cellsV Tryz.prog 12 25 (zA2 ds))] (.c (.bool (docY lit ds))))
 (hRr:AC EN5 Tryz.prog 15 [.agg (cellsV Tryz.prog 12 25 (zA2 ds))] (.c (.bool (docY lit ds)))):AC EN5 Tryz.prog 5 [.c (.string (bs s))] (.c (.bool true)):=by
 have hz:=zZ s
 have f0:decide (((bs s).size:Int)>4000)=false:=decide_eq_false (by omega)
 have hlen:=zE6 hsc hs
 have hp2:=(zGA hsc hlen).1 _ hp
 have h2:=zBR s (by omega)
 have h3:=zG0 s
 have h4:=zIQ hsc hs
 have h5:=zBR (printT ts) (by omega)
 rw [hp] at h2
 rw [hsc] at h3
 rw [hp2] at h5
 rw [hY] at hRp hRr
 have h6:=zFV (zA2 ds)
 refine zM 92 Tryz.func5 rfl rfl rfl rfl ?_
 intro σ w he
 repeat' (first
|apply zF
 . conv=>lhs;whnf
 . assumption
|refine zA ?_
|refine zB ?_
|refine zH ?_
|apply aw_1
 conv=>whnf
 refine ⟨?_,trivial⟩
|apply s_1
 conv=>whnf;arg 1;arg 4;arg 3;whnf
 refine ⟨?_,?_⟩
|apply zY rfl
 . conv=>lhs;whnf
 . conv=>lhs;whnf
 . first | exact hEx | exact h2 | exact h3 | exact h4 | exact h5 | exact h6 | exact hRp | exact hRr
|apply zT rfl rfl rfl
 . conv=>lhs;whnf
 . conv=>lhs;whnf;arg 1;whnf
 . conv=>lhs;whnf;arg 1;whnf
 . exact ⟨by kernel_rfl,by kernel_rfl⟩
 . rfl
|apply zX rfl
 . conv=>lhs;whnf
 . conv=>lhs;whnf
 . first | rfl | assumption
 . conv=>lhs;whnf
 . first | exact hEx | exact h2 | exact h3 | exact h4 | exact h5 | exact h6 | exact hRp | exact hRr
|refine zE ?_
|refine ⟨_,by conv=>lhs;whnf;arg 2;whnf,?_⟩;conv=>rhs;whnf
|exact trivial)
 all_goals first
  |exact zAV
  |rfl
  |skip
end
end
end
section
open Go.RowKit
set_option linter.unusedSectionVars false
theorem any_no {p:D->Bool} {l:List D} (h : ∀ m,m<l.length->p (gD l m)=false):l.any p=false:=by
 rw [List.any_eq_false]
 intro x hx
 obtain ⟨i,hi,rfl⟩:=List.getElem_of_mem hx
 rw [<- zBx hi,h i hi];decide
theorem any_at {p:D->Bool} {l:List D} {i:Nat} (hi:i<l.length) (h:p (gD l i)=true):l.any p=true:=by
 rw [List.any_eq_true]
 exact ⟨_,List.getElem_mem hi,by rw [<- zBx hi];exact h⟩
theorem zDP {p:D->Bool} {l:List D} (h : ∀ m,m<l.length->p (gD l m)=true):l.all p=true:=by
 rw [List.all_eq_true]
 intro x hx
 obtain ⟨i,hi,rfl⟩:=List.getElem_of_mem hx
 rw [<- zBx hi];exact h i hi
theorem zFg {p:D->Bool} {l:List D} {i:Nat} (hi:i<l.length) (h:p (gD l i)=false):l.all p=false:=by
 rw [List.all_eq_false]
 exact ⟨_,List.getElem_mem hi,by rw [<- zBx hi,h];decide⟩
theorem zFf : ∀ (k k':Nat) (d:D),Dp k d->Dp k' d->bareR k d=bareR k' d
 |0,_,_,h,_=>h.elim
 |_+1,0,_,_,h=>h.elim
 |k+1,k'+1,d,h,h'=>by
  unfold bareR
  congr 2
  by_cases hx : ∃ i,i<(d.f 3).l.length/\bareR k (gD (d.f 3).l i)=false
  . obtain ⟨i,hi,hb⟩:=hx
    rw [any_at (p:=fun x => !bareR k x) hi (by rw [hb];rfl),any_at (p:=fun x => !bareR k' x) hi (by rw [<- zFf k k' _ (h i hi) (h' i hi),hb];rfl)]
  . have hb : ∀ i,i<(d.f 3).l.length->bareR k (gD (d.f 3).l i)=true:=fun i hi=>by
     cases hq:bareR k (gD (d.f 3).l i) with
     |true=>rfl
     |false=>exact (hx ⟨i,hi,hq⟩).elim
    rw [any_no (p:=fun x => !bareR k x) fun i hi=>by rw [hb i hi];rfl,any_no (p:=fun x => !bareR k' x) fun i hi=>by rw [<- zFf k k' _ (h i hi) (h' i hi),hb i hi];rfl]
attribute [local irreducible] wpList Calls Code.wp AW AWo OpOk seqK zm zo loopK endK AC zh Yld Sub
attribute [local irreducible] ACB ACX ACE absLexG YldG absLexH
noncomputable def HvD (d:D) (i:Nat):Vst 18:=stS 18 [(1,.bx 1 0),(6,.sl 53 (d.f 3).l),(7,.c (.int .i64 ((d.f 3).l.length:Int))),(8,.c (.int .i64 (i:Int)))] [(1,.box 53 (cellsV Tryz.prog 12 53 d))]
theorem zEG : ∀ (k:Nat) (d:D),Dp k d->AC EN5 Tryz.prog 183 [.agg (cellsV Tryz.prog 12 53 d)] (.c (.bool (!bareR k d)))
 |0,_,h=>h.elim
 |k+1,d,h=>by
  refine zA1 2 (by kernel_rfl) fun hL => ?_
  have hl3:(d.f 3).l.length<=9223372036854775807:=(zA4 hL).1
  have ih:=fun i (hi:i<(d.f 3).l.length)=>zEG k (gD (d.f 3).l i) (h i hi)
  refine zM 18 Tryz.func183 rfl rfl rfl rfl ?_
  intro s w he
  repeat' (first
|refine zA ?_
|refine zB ?_
|refine zH ?_
|apply aw_1
 conv=>whnf
 refine ⟨?_,trivial⟩
|apply s_1
 conv=>whnf;arg 1;arg 4;arg 3;whnf
 refine ⟨?_,?_⟩
|apply zAF rfl rfl rfl rfl
 . conv=>lhs;whnf;arg 1;whnf
 . rfl
|exact trivial)
  refine zf (fun j st => ∃ i,i+j=(d.f 3).l.length/\(∀ m,m<i->bareR k (gD (d.f 3).l m)=true)/\Sub (cx EN5 Tryz.prog s w he) st (HvD d i)) (d.f 3).l.length ⟨0,by omega,fun m hm=>absurd hm (Nat.not_lt_zero m),Sub.live ⟨rfl,rfl,rfl,rfl,trivial⟩ ⟨rfl,trivial⟩⟩ ?_
  rintro j st ⟨i,hij,hno,hs2⟩
  refine zi hs2 ?_
  clear hs2
  by_cases hi:i<(d.f 3).l.length
  . have g1:decide ((i:Int)<((d.f 3).l.length:Nat))=true:=decide_eq_true (by omega)
    have ih2:=ih i hi
    cases hb:bareR k (gD (d.f 3).l i) with
    |false =>
     have hr:(!bareR (k+1) d)=true:=by
      unfold bareR
      rw [any_at (p:=fun x => !bareR k x) hi (by rw [hb];rfl)]
      simp
     rw [hr]
     rw [hb] at ih2
     have f3:(!false)=true:=rfl
     repeat' (first
|apply zG
 . conv=>lhs;whnf
 . assumption
|refine zA ?_
|refine zB ?_
|refine zH ?_
|apply aw_1
 conv=>whnf
 refine ⟨?_,trivial⟩
|apply s_1
 conv=>whnf;arg 1;arg 4;arg 3;whnf
 refine ⟨?_,?_⟩
|apply zY rfl
 . conv=>lhs;whnf
 . conv=>lhs;whnf
 . first | exact ih2
|apply zT rfl rfl rfl
 . conv=>lhs;whnf
 . conv=>lhs;whnf;arg 1;whnf
 . conv=>lhs;whnf;arg 1;whnf
 . exact ⟨by kernel_rfl,by kernel_rfl⟩
 . rfl
|refine zN ?_
|refine zP ?_
|refine zg ?_
|refine zE ?_
|refine ⟨_,by conv=>lhs;whnf;arg 2;whnf,?_⟩;conv=>rhs;whnf
|exact trivial)
     all_goals first
      |exact zR (by omega)
      |exact zr hi
      |rfl
    |true =>
     rw [hb] at ih2
     have f3:(!true)=false:=rfl
     repeat' (first
|apply zG
 . conv=>lhs;whnf
 . assumption
|apply zF
 . conv=>lhs;whnf
 . assumption
|refine zA ?_
|refine zB ?_
|refine zH ?_
|refine zW ?_
|apply aw_1
 conv=>whnf
 refine ⟨?_,trivial⟩
|apply s_1
 conv=>whnf;arg 1;arg 4;arg 3;whnf
 refine ⟨?_,?_⟩
|apply zY rfl
 . conv=>lhs;whnf
 . conv=>lhs;whnf
 . first | exact ih2
|apply zT rfl rfl rfl
 . conv=>lhs;whnf
 . conv=>lhs;whnf;arg 1;whnf
 . conv=>lhs;whnf;arg 1;whnf
 . exact ⟨by kernel_rfl,by kernel_rfl⟩
 . rfl
|exact trivial)
     all_goals first
      |exact zR (by omega)
      |exact zr hi
      |skip
     refine zI (j':=j-1) (by omega) ⟨i+1,by omega,fun m hm => ?_,Sub.live ⟨rfl,rfl,rfl,rfl,trivial⟩ ⟨rfl,trivial⟩⟩
     by_cases e:m=i
     . subst e;exact hb
     . exact hno m (by omega)
  . have g1:decide ((i:Int)<((d.f 3).l.length:Nat))=false:=decide_eq_false (by omega)
    have hr:(!bareR (k+1) d)=((d.f 0).n==7):=by
     unfold bareR
     rw [any_no (p:=fun x => !bareR k x) fun m hm=>by rw [hno m (by omega)];rfl]
     simp
    rw [hr]
    repeat' (first
|apply zF
 . conv=>lhs;whnf
 . assumption
|refine zA ?_
|refine zB ?_
|refine zH ?_
|apply aw_1
 conv=>whnf
 refine ⟨?_,trivial⟩
|apply s_1
 conv=>whnf;arg 1;arg 4;arg 3;whnf
 refine ⟨?_,?_⟩
|refine zL ?_
|refine zJ rfl ?_
|refine zK ?_
|refine zE ?_
|refine ⟨_,by conv=>lhs;whnf;arg 2;whnf,?_⟩;conv=>rhs;whnf
|exact trivial)
    all_goals first
     |rfl
     |skip
section
variable {lit:D->Bool} (hN : ∀ s:ByteArray,AC EN5 Tryz.prog 67 [.c (.string s)] (.c (.bool (nameB s)))) (hL : ∀ d:D,AC EN5 Tryz.prog 182 [.agg (cellsV Tryz.prog 12 53 d)] (.c (.bool (lit d))))
include hL
theorem zC9 (d:D):AC EN5 Tryz.prog 131 [.agg (cellsV Tryz.prog 12 53 d)] (.c (.bool (valY lit d))):=by
 have h1:=hL d
 have h2:=zEG _ d (zBY (bulkD d) d (Nat.le_refl _))
 rw [zFf _ (bulkD d) d (zBY (bulkD d) d (Nat.le_refl _)) (zBY (bulkD d) d (Nat.le_refl _))] at h2
 refine zM 10 Tryz.func131 rfl rfl rfl rfl ?_
 intro s w he
 repeat' (first
|refine zA ?_
|refine zB ?_
|refine zH ?_
|apply aw_1
 conv=>whnf
 refine ⟨?_,trivial⟩
|apply zQ rfl rfl
 . conv=>lhs;whnf
 . conv=>lhs;whnf
 . first | exact bT1 ‹_› | exact bT2 ‹_›
|apply zO rfl rfl
 . conv=>lhs;whnf
 . conv=>lhs;whnf
 . first | exact bF1 ‹_› | exact bF2 ‹_›
|apply s_1
 conv=>whnf;arg 1;arg 4;arg 3;whnf
 refine ⟨?_,?_⟩
|apply zY rfl
 . conv=>lhs;whnf
 . conv=>lhs;whnf
 . first | exact h1 | exact h2
|apply zAF rfl rfl rfl rfl
 . conv=>lhs;whnf;arg 1;whnf
 . rfl
|apply zD rfl
 . conv=>lhs;whnf
 . conv=>lhs;whnf
 . first | rfl | assumption
 . conv=>lhs;whnf;arg 2;whnf
|apply zX rfl
 . conv=>lhs;whnf
 . conv=>lhs;whnf
 . first | rfl | assumption
 . conv=>lhs;whnf
 . first | exact h1 | exact h2
|apply zV rfl
 . conv=>lhs;whnf
 . conv=>lhs;whnf
 . first | rfl | assumption
|apply zC rfl
 . conv=>lhs;whnf
 . conv=>lhs;whnf
 . conv=>lhs;whnf;arg 2;whnf
|refine zE ?_
|refine ⟨_,by conv=>lhs;whnf;arg 2;whnf,?_⟩;conv=>rhs;whnf
|exact trivial
|intro hg)
 . rw [valY,bT1 hg,Bool.not_not];rfl
 . rw [valY,bF1 hg];rfl
include hN
noncomputable def HrD (l:List D) (i:Nat):Vst 45:=stS 45 [(0,.sl 108 l),(7,.sl 108 l),(8,.c (.int .i64 (l.length:Int))),(9,.c (.int .i64 (i:Int)))] []
noncomputable def HrA (l:List D) (i k:Nat):Vst 45:=stS 45 [(0,.sl 108 l),(7,.sl 108 l),(8,.c (.int .i64 (l.length:Int))),(9,.c (.int .i64 (i:Int))),(24,.sl 111 ((gD l i).f 1).l),(25,.c (.int .i64 (((gD l i).f 1).l.length:Int))),(26,.c (.int .i64 (k:Int)))] []
theorem zBJ (l:List D):AC EN5 Tryz.prog 68 [.sl 108 l] (.c (.bool (dirsY lit l))):=by
 refine zC7 2 fun hL2 => ?_
 have hl:l.length<=9223372036854775807:=hL2.1
 have hla : ∀ i,i<l.length->((gD l i).f 1).l.length<=9223372036854775807:=fun i hi=>zHR (hL2.2 (by decide +kernel) i hi)
 refine zM 45 Tryz.func68 rfl rfl rfl rfl ?_
 intro s w he
 repeat' (first
|refine zA ?_
|refine zB ?_
|refine zH ?_
|apply aw_1
 conv=>whnf
 refine ⟨?_,trivial⟩
|apply s_1
 conv=>whnf;arg 1;arg 4;arg 3;whnf
 refine ⟨?_,?_⟩
|exact trivial)
 refine zf (fun j st => ∃ i,i+j=l.length/\(∀ m,m<i->dirY lit (gD l m)=true)/\Sub (cx EN5 Tryz.prog s w he) st (HrD l i)) l.length ⟨0,by omega,fun m hm=>absurd hm (Nat.not_lt_zero m),Sub.live ⟨rfl,rfl,rfl,rfl,trivial⟩ trivial⟩ ?_
 rintro j st ⟨i,hij,hno,hs2⟩
 refine zi hs2 ?_
 clear hs2
 by_cases hi:i<l.length
 . have g1:decide ((i:Int)<(l.length:Nat))=true:=decide_eq_true (by omega)
   have ha:=hla i hi
   have hn:=hN ((gD l i).f 0).s
   have hbad:dirY lit (gD l i)=false->dirsY lit l=false:=fun h=>by unfold dirsY;rw [zFg hi h,Bool.and_false]
   cases hnb:nameB ((gD l i).f 0).s with
   |false =>
    rw [hbad (by unfold dirY;rw [hnb];rfl)]
    rw [hnb] at hn
    have K:((!false)==false)=true->False:=by decide
    repeat' (first
|apply zG
 . conv=>lhs;whnf
 . assumption
|refine zA ?_
|refine zB ?_
|refine zH ?_
|apply aw_1
 conv=>whnf
 refine ⟨?_,trivial⟩
|apply s_1
 conv=>whnf;arg 1;arg 4;arg 3;whnf
 refine ⟨?_,?_⟩
|apply zY rfl
 . conv=>lhs;whnf
 . conv=>lhs;whnf
 . first | exact hn
|apply zT rfl rfl rfl
 . conv=>lhs;whnf
 . conv=>lhs;whnf;arg 1;whnf
 . conv=>lhs;whnf;arg 1;whnf
 . exact ⟨by kernel_rfl,by kernel_rfl⟩
 . rfl
|refine zN ?_
|refine zP ?_
|refine zg ?_
|refine zE ?_
|refine ⟨_,by conv=>lhs;whnf;arg 2;whnf,?_⟩;conv=>rhs;whnf
|exact trivial)
    all_goals first
     |exact zR (by omega)
     |exact zr hi
     |rfl
     |skip
   |true =>
    rw [hnb] at hn
    have K:((!true)==false)=false->False:=by decide
    by_cases h16:16<((gD l i).f 1).l.length
    . have f4:decide ((((gD l i).f 1).l.length:Int)>16)=true:=decide_eq_true (by omega)
      rw [hbad (by unfold dirY zFy;rw [decide_eq_false (by omega)];simp)]
      repeat' (first
|apply zG
 . conv=>lhs;whnf
 . assumption
|refine zA ?_
|refine zB ?_
|refine zH ?_
|apply aw_1
 conv=>whnf
 refine ⟨?_,trivial⟩
|apply s_1
 conv=>whnf;arg 1;arg 4;arg 3;whnf
 refine ⟨?_,?_⟩
|apply zY rfl
 . conv=>lhs;whnf
 . conv=>lhs;whnf
 . first | exact hn
|apply zT rfl rfl rfl
 . conv=>lhs;whnf
 . conv=>lhs;whnf;arg 1;whnf
 . conv=>lhs;whnf;arg 1;whnf
 . exact ⟨by kernel_rfl,by kernel_rfl⟩
 . rfl
|refine zN ?_
|refine zP ?_
|refine zg ?_
|refine zE ?_
|refine ⟨_,by conv=>lhs;whnf;arg 2;whnf,?_⟩;conv=>rhs;whnf
|exact trivial)
      all_goals first
       |exact zR (by omega)
       |exact zr hi
       |rfl
       |skip
    . have f4:decide ((((gD l i).f 1).l.length:Int)>16)=false:=decide_eq_false (by omega)
      repeat' (first
|apply zG
 . conv=>lhs;whnf
 . assumption
|apply zF
 . conv=>lhs;whnf
 . assumption
|refine zA ?_
|refine zB ?_
|refine zH ?_
|apply aw_1
 conv=>whnf
 refine ⟨?_,trivial⟩
|apply s_1
 conv=>whnf;arg 1;arg 4;arg 3;whnf
 refine ⟨?_,?_⟩
|apply zY rfl
 . conv=>lhs;whnf
 . conv=>lhs;whnf
 . first | exact hn
|apply zT rfl rfl rfl
 . conv=>lhs;whnf
 . conv=>lhs;whnf;arg 1;whnf
 . conv=>lhs;whnf;arg 1;whnf
 . exact ⟨by kernel_rfl,by kernel_rfl⟩
 . rfl
|exact trivial)
      all_goals first
       |exact zR (by omega)
       |exact zr hi
       |skip
      refine zf (fun j st => ∃ k,k+j=((gD l i).f 1).l.length/\(∀ m,m<k->argY lit (gD ((gD l i).f 1).l m)=true)/\Sub (cx EN5 Tryz.prog s w he) st (HrA l i k)) ((gD l i).f 1).l.length ⟨0,by omega,fun m hm=>absurd hm (Nat.not_lt_zero m),Sub.live ⟨rfl,rfl,rfl,rfl,rfl,rfl,rfl,trivial⟩ trivial⟩ ?_
      rintro j2 st2 ⟨k,hkj,hno2,hs3⟩
      refine zi hs3 ?_
      clear hs3
      by_cases hk:k<((gD l i).f 1).l.length
      . have g2:decide ((k:Int)<(((gD l i).f 1).l.length:Nat))=true:=decide_eq_true (by omega)
        have hn2:=hN ((gD ((gD l i).f 1).l k).f 0).s
        have hv2:=zC9 hL ((gD ((gD l i).f 1).l k).f 1)
        have hbad2:argY lit (gD ((gD l i).f 1).l k)=false->dirsY lit l=false:=fun h=>hbad (by unfold dirY zFy;rw [zFg hk h];simp)
        cases hnb2:nameB ((gD ((gD l i).f 1).l k).f 0).s with
        |false =>
         rw [hbad2 (by unfold argY;rw [hnb2];rfl)]
         rw [hnb2] at hn2
         have K3:((!false)==false)=true->False:=by decide
         repeat' (first
|apply zG
 . conv=>lhs;whnf
 . assumption
|refine zA ?_
|refine zB ?_
|refine zH ?_
|apply aw_1
 conv=>whnf
 refine ⟨?_,trivial⟩
|apply s_1
 conv=>whnf;arg 1;arg 4;arg 3;whnf
 refine ⟨?_,?_⟩
|apply zY rfl
 . conv=>lhs;whnf
 . conv=>lhs;whnf
 . first | exact hn2
|apply zT rfl rfl rfl
 . conv=>lhs;whnf
 . conv=>lhs;whnf;arg 1;whnf
 . conv=>lhs;whnf;arg 1;whnf
 . exact ⟨by kernel_rfl,by kernel_rfl⟩
 . rfl
|refine zN ?_
|refine zP ?_
|refine zg ?_
|refine zE ?_
|refine ⟨_,by conv=>lhs;whnf;arg 2;whnf,?_⟩;conv=>rhs;whnf
|exact trivial)
         all_goals first
          |exact zR (by omega)
          |exact zr hk
          |rfl
          |skip
        |true =>
         rw [hnb2] at hn2
         cases hvb:valY lit ((gD ((gD l i).f 1).l k).f 1) with
         |false =>
          rw [hbad2 (by unfold argY;rw [hnb2,hvb];rfl)]
          rw [hvb] at hv2
          have f5:(!false)=true:=rfl
          repeat' (first
|apply zG
 . conv=>lhs;whnf
 . assumption
|refine zA ?_
|refine zB ?_
|refine zH ?_
|apply aw_1
 conv=>whnf
 refine ⟨?_,trivial⟩
|apply zO rfl rfl
 . conv=>lhs;whnf
 . conv=>lhs;whnf
 . first | exact bF1 ‹_› | exact bF2 ‹_›
|apply s_1
 conv=>whnf;arg 1;arg 4;arg 3;whnf
 refine ⟨?_,?_⟩
|apply zY rfl
 . conv=>lhs;whnf
 . conv=>lhs;whnf
 . first | exact hn2 | exact hv2
|apply zT rfl rfl rfl
 . conv=>lhs;whnf
 . conv=>lhs;whnf;arg 1;whnf
 . conv=>lhs;whnf;arg 1;whnf
 . exact ⟨by kernel_rfl,by kernel_rfl⟩
 . rfl
|apply zX rfl
 . conv=>lhs;whnf
 . conv=>lhs;whnf
 . first | rfl | assumption
 . conv=>lhs;whnf
 . first | exact hn2 | exact hv2
|refine zN ?_
|refine zP ?_
|refine zg ?_
|refine zE ?_
|refine ⟨_,by conv=>lhs;whnf;arg 2;whnf,?_⟩;conv=>rhs;whnf
|exact trivial)
          all_goals first
           |exact zR (by omega)
           |exact zr hk
           |rfl
           |skip
         |true =>
          rw [hvb] at hv2
          have f5:(!true)=false:=rfl
          repeat' (first
|apply zG
 . conv=>lhs;whnf
 . assumption
|apply zF
 . conv=>lhs;whnf
 . assumption
|refine zA ?_
|refine zB ?_
|refine zH ?_
|refine zW ?_
|apply aw_1
 conv=>whnf
 refine ⟨?_,trivial⟩
|apply zO rfl rfl
 . conv=>lhs;whnf
 . conv=>lhs;whnf
 . first | exact bF1 ‹_› | exact bF2 ‹_›
|apply s_1
 conv=>whnf;arg 1;arg 4;arg 3;whnf
 refine ⟨?_,?_⟩
|apply zY rfl
 . conv=>lhs;whnf
 . conv=>lhs;whnf
 . first | exact hn2 | exact hv2
|apply zT rfl rfl rfl
 . conv=>lhs;whnf
 . conv=>lhs;whnf;arg 1;whnf
 . conv=>lhs;whnf;arg 1;whnf
 . exact ⟨by kernel_rfl,by kernel_rfl⟩
 . rfl
|apply zX rfl
 . conv=>lhs;whnf
 . conv=>lhs;whnf
 . first | rfl | assumption
 . conv=>lhs;whnf
 . first | exact hn2 | exact hv2
|exact trivial)
          all_goals first
           |exact zR (by omega)
           |exact zr hk
           |skip
          refine zI (j':=j2-1) (by omega) ⟨k+1,by omega,fun m hm => ?_,Sub.live ⟨rfl,rfl,rfl,rfl,rfl,rfl,rfl,trivial⟩ trivial⟩
          by_cases e:m=k
          . subst e;unfold argY;rw [hnb2,hvb];rfl
          . exact hno2 m (by omega)
      . have g2:decide ((k:Int)<(((gD l i).f 1).l.length:Nat))=false:=decide_eq_false (by omega)
        have hd:dirY lit (gD l i)=true:=by
         unfold dirY zFy
         rw [hnb,decide_eq_true (by omega),zDP fun m hm=>hno2 m (by omega)];rfl
        repeat' (first
|apply zF
 . conv=>lhs;whnf
 . assumption
|refine zA ?_
|refine zB ?_
|refine zH ?_
|refine zW ?_
|apply aw_1
 conv=>whnf
 refine ⟨?_,trivial⟩
|apply s_1
 conv=>whnf;arg 1;arg 4;arg 3;whnf
 refine ⟨?_,?_⟩
|refine zL ?_
|refine zJ rfl ?_
|refine zK ?_
|exact trivial)
        all_goals first
         |exact zR (by omega)
         |skip
        refine zI (j':=j-1) (by omega) ⟨i+1,by omega,fun m hm => ?_,Sub.live ⟨rfl,rfl,rfl,rfl,trivial⟩ trivial⟩
        by_cases e:m=i
        . subst e;exact hd
        . exact hno m (by omega)
 . have g1:decide ((i:Int)<(l.length:Nat))=false:=decide_eq_false (by omega)
   have hr:dirsY lit l=decide ((l.length:Int)<=16):=by
    unfold dirsY
    rw [zDP fun m hm=>hno m (by omega),Bool.and_true]
    exact decide_eq_decide.2 (by omega)
   rw [hr]
   repeat' (first
|apply zF
 . conv=>lhs;whnf
 . assumption
|refine zA ?_
|refine zB ?_
|refine zH ?_
|apply aw_1
 conv=>whnf
 refine ⟨?_,trivial⟩
|apply s_1
 conv=>whnf;arg 1;arg 4;arg 3;whnf
 refine ⟨?_,?_⟩
|refine zL ?_
|refine zJ rfl ?_
|refine zK ?_
|refine zE ?_
|refine ⟨_,by conv=>lhs;whnf;arg 2;whnf,?_⟩;conv=>rhs;whnf
|exact trivial)
   all_goals first
    |rfl
    |skip
end
end
end Go.Proofs.YthppafnlnnpciaaGreatDoor
