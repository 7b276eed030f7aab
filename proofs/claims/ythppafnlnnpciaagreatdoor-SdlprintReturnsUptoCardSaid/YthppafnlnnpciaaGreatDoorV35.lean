import Derived.Test.YthppafnlnnpciaaGreatDoorV33
set_option maxHeartbeats 8000000
set_option maxRecDepth 100000
set_option linter.unusedVariables false
set_option linter.unusedSimpArgs false
namespace Go.Proofs.YthppafnlnnpciaaGreatDoor
section
open Go.RowKit
attribute [local irreducible] wpList Calls Code.wp
section
variable {P:Program} {s:Sg} {w w':World} {pas:Nat->Prop} {B:Nat} {rs:Nat->Option Res}
theorem zJM (h:MemOk P pas B rs s w) (cur:Array Value) (e:TypeId) (n:Nat):Keeps s.F (fun b o=>s.F b o\/(b=w.heap.size/\o<n)) w (w.alloc (.cells cur e)):=fun b o hF =>
 ⟨(zAn (w:=w) (h.fx b o hF)).trans rfl,.inl hF⟩
theorem MemOk.tokNew0 (h:MemOk P pas B rs s w) (hB:B<=w.heap.size) {k:Nat} (X:Nat->Prop) (hX : ∀ q,X q->q=k) (hf : ∀ q ρ,q≠k->rs q=some ρ -> ∀ n,X n->ρ.free n=true) {cur:Array Value} {e:TypeId} {c m:Nat} (hc:cur.size=c*P.cellsOf e) (hm:m<=c) (hmx:c<=maxLen)
 (hx:Ext X s w (s.tok k w.heap.size (m*P.cellsOf e) (.slice (some ⟨w.heap.size,0,none⟩) m c) m) (w.alloc (.cells cur e))) :
 MemOk P pas B (updR rs k (.tok e m)) (s.tok k w.heap.size (m*P.cellsOf e) (.slice (some ⟨w.heap.size,0,none⟩) m c) m) (w.alloc (.cells cur e)) where
 fx b o hF:=by
  rcases hF with hF | ⟨rfl,hF⟩
  . rw [zAn (w:=w) (h.fx b o hF)];exact h.fx b o hF
  . have:o<cur.size:=by rw [hc];exact Nat.lt_of_lt_of_le hF (Nat.mul_le_mul_right _ hm)
    have h2:=zBg (w:=w) (t:=e) (Array.getElem?_eq_getElem this)
    exact Option.isSome_iff_exists.2 ⟨_,h2⟩
 ho q ρ hq:=by
  by_cases e':q=k
  . subst e'
    simp only [updR,if_true] at hq
    cases hq
    refine ⟨by simp [Sg.tok],.inr ⟨w.heap.size,c,cur,by simp [Sg.tok],by simp [Sg.tok],heap_alloc_new w _,hm,hmx,hc,fun o ho hF => ?_⟩⟩
    rcases hF with hF | ⟨_,hF⟩
    . obtain ⟨v,hv⟩:=Option.isSome_iff_exists.1 (h.fx _ o hF)
      have:=block_lt_of_cell hv
      simp at this
    . omega
  . simp only [updR,if_neg e'] at hq
    refine (h.ho q ρ hq).keep hx (fun hXq=>e' (hX q hXq)) (by simp [Sg.tok,e']) (by simp [Sg.tok,e']) (fun n hn=>hf q ρ e' hq n hn) (fun b hb=>Below.heap_alloc w _ _ ((h.ho q ρ hq).lt hb)) (fun b o hb hF => ?_)
    rcases hF with hF | ⟨rfl,_⟩
    . exact hF
    . have:=(h.ho q ρ hq).lt hb;omega
 bs q ρ b hq hb:=by
  by_cases e':q=k
  . subst e'
    simp only [updR,if_true] at hq
    cases hq
    simp only [Sg.bk,Sg.tok,if_true] at hb
    cases hb;exact .inl hB
  . simp only [updR,if_neg e'] at hq
    rw [zBZ e'] at hb
    exact h.bs q ρ b hq hb
 dj q r ρ ρ' b hq hr hqb hrb:=by
  by_cases e1:q=k<;>by_cases e2:r=k
  . rw [e1,e2]
  . simp only [updR,if_neg e2] at hr
    rw [zBZ e2] at hrb
    subst e1
    simp only [updR,if_true] at hq
    cases hq
    simp only [Sg.bk,Sg.tok,if_true] at hqb
    cases hqb
    have:=(h.ho r ρ' hr).lt hrb
    omega
  . simp only [updR,if_neg e1] at hq
    rw [zBZ e1] at hqb
    subst e2
    simp only [updR,if_true] at hr
    cases hr
    simp only [Sg.bk,Sg.tok,if_true] at hrb
    cases hrb
    have:=(h.ho q ρ hq).lt hqb
    omega
  . simp only [updR,if_neg e1] at hq
    simp only [updR,if_neg e2] at hr
    rw [zBZ e1] at hqb
    rw [zBZ e2] at hrb
    exact h.dj q r ρ ρ' b hq hr hqb hrb
end
section
variable {X:Cx} {nn:Nat} {st:Vst nn} {o:Oper} {K:Vst nn->Prop}
theorem opOk_lit0 {t e:TypeId} {by_ d:Nat} (ho:o.op = .buildSlice t 0 #[]) (hd:o.dst=some d) (hdl:Nat.ble d 999999=true) (he:zAD X.P t=some (e,by_))
 (hK:K (((st.kill d).res d (.tok e 0)).put (some d) (.own d e []))):OpOk X o st K:=by
 intro s w a hI N Q hP hN
 obtain ⟨hu,hlay,i,z,hi,hz,hb,hpos,hzs,hsz⟩:=zCF he
 have ha:(Instr.buildSlice t 0 #[]).run X.P w = .ok (.slice (some ⟨w.heap.size,0,none⟩) 0 0) (w.alloc (.cells #[] e)):=by
  simp [Instr.buildSlice,run_underlying hu,sizeOf,typeInfo,hi,Instr.fill,newRow]
  have hr0:Array.map (fun _:Nat=>(default:Value)) (Array.range 0) = #[]:=by apply Array.ext<;>simp
  rw [hr0]
 unfold Oper.wp
 have hrun:(execOp a.eval o).run X.P w = .ok (.value (.slice (some ⟨w.heap.size,0,none⟩) 0 0)) (w.alloc (.cells #[] e)):=by simp [execOp,ho,ha]
 rw [hrun,Oper.upon_value,hd]
 have hI':=hI.kill d
 have hkeep:Keeps s.F (s.tok d w.heap.size (0*X.P.cellsOf e) (.slice (some ⟨w.heap.size,0,none⟩) 0 0) 0).F w (w.alloc (.cells #[] e)):=zJM hI.mem _ e _
 have hext:Ext (fun m=>m=d) s w (s.tok d w.heap.size (0*X.P.cellsOf e) (.slice (some ⟨w.heap.size,0,none⟩) 0 0) 0) (w.alloc (.cells #[] e)):=
  ⟨hkeep,fun _ _=>rfl,fun q hq => .inl (by simp only [Sg.tok];rw [if_neg hq])⟩
 have hmem:=hI'.mem.tokNew0 hI.base (k:=d) (fun m=>m=d) (fun _ h=>h) zIQ (cur:=#[]) (c:=0) (m:=0) (by simp) (Nat.le_refl _) (Nat.zero_le _) hext
 refine hN _ _ _ _ (Inv.put (st:=(st.kill d).res d (.tok e 0)) (v:=.own d e []) ⟨hI.sz,fun i hi => ?_,hI.df,hI.fr.trans (zCx w _ _) (q:=fun _=>False) (fun _ h=>h.elim),hI.kp.trans hkeep,fun b o hb hnp hF => ?_,hmem,hI.pe.ext hext fun m hm=>by subst hm;exact Nat.le_of_ble_eq_true hdl⟩ (some d) ?_) hK
 . exact rel.ext hext _ _ (zAW (hI.tm i hi)).1 fun n hn=>by subst hn;exact (zAW (hI.tm i hi)).2
 . rcases hF with hF | ⟨rfl,_⟩
   . exact hI.nf b o hb hnp hF
   . have:=hI.base;omega
 . rw [rel]
   exact ⟨zB2 (l:=[]) (Nat.le_refl _) (Nat.zero_le _) fun k hk=>absurd hk (Nat.not_lt_zero k),by simp [Sg.tok],fun _=>by simp [Sg.tok]⟩
theorem zEi {t e:TypeId} {by_ k:Nat} {x y:Operand} {l:List D} (ho:o.op = .call { callee:=.builtin .append,args:=#[x,y],argTypes:=#[t,t] }) (he:zAD X.P t=some (e,by_))
 (hx:ev st x = .own k e l) (hy:(ev st y).out = .sl e []) (hK:K (st.put o.dst (.own k e l))):OpOk X o st K:=by
 intro s w a hI N Q hP hN
 obtain ⟨hu,hlay,i,z,hi,hz,hb,hsp,hzs,hsz⟩:=zCF he
 have hxe:=hI.ev x
 rw [hx,rel] at hxe
 obtain ⟨k1,A,c1,hA,hc1,-,-,-⟩:=id hxe.1
 unfold Oper.wp
 have hye:=rel.out _ _ (hI.ev y)
 rw [hy,rel] at hye
 obtain ⟨k2,A2,c2,hy2,-,-,-,-⟩:=hye
 have hrun:(Builtin.append_ #[t,t] o.type #[a.eval x,a.eval y]).run X.P w = .ok (a.eval x) w:=by
  rw [hA,hy2]
  have hsz:(sizeOf e).run X.P w = .ok (X.P.cellsOf e) w:=by simp [sizeOf,typeInfo,hi,hsz]
  have hld : ∀ q,(loadCells q 0).run X.P w = .ok #[] w:=fun q=>by simp [loadCells,loadCellsFrom]
  cases A<;>cases A2<;>simp [Builtin.append_,run_underlying hu,hsz,Builtin.lenOf,Builtin.firstCells,storeCells,hld,Nat.not_lt.2 hc1]
 rw [zBE ho hrun,Oper.upon_value]
 refine hN _ _ _ _ (hI.put o.dst ?_) hK
 rw [rel]
 exact hxe
theorem res_same0 {k:Nat} {ρ:Res} (h:st.rs k=some ρ):st.res k ρ=st:=by
 have e:(st.res k ρ).rs=st.rs:=funext fun m=>by
  show updR st.rs k ρ m=_
  unfold updR
  split
  . rename_i e;rw [e,h]
  . rfl
 calc st.res k ρ=⟨(st.res k ρ).tm,(st.res k ρ).rs⟩:=rfl
  _=st:=by rw [e];rfl
theorem zH8 {t e:TypeId} {by_ k:Nat} {x y:Operand} {l l2:List D} (ho:o.op = .call { callee:=.builtin .append,args:=#[x,y],argTypes:=#[t,t] }) (he:zAD X.P t=some (e,by_))
 (hleaf : ∀ d,(cellsV X.P 12 e d).all V.leaf=true) (hx:ev st x = .own k e l) (hr:st.rs k=some (.tok e l.length)) (hy:(ev st y).out = .sl e l2) (hlen:l.length+l2.length<=maxLen) (hby:(l.length+l2.length)*by_<=140737488355328)
 (hK:K ((st.res k (.tok e (l.length+l2.length))).put o.dst (.own k e (l++l2)))):OpOk X o st K:=by
 rcases Nat.eq_zero_or_pos l2.length with h0 | h0
 . have hl0:l2=[]:=List.eq_nil_of_length_eq_zero h0
   subst hl0
   rw [List.length_nil,Nat.add_zero,res_same0 hr,List.append_nil] at hK
   exact zEi ho he hx hy hK
 . exact zA4 ho he hleaf hx hr hy h0 hlen hby hK
end
end
section
open Go.RowKit
attribute [local irreducible] wpList Calls Code.wp
section
variable {X:Cx} {nn:Nat} {st:Vst nn} {ops:Array Oper} {o:Oper}
def Fresh (st:Vst nn) (d:Nat):Prop:=(∀ i,(st.tm i).free d=true) /\ ∀ m ρ,st.rs m=some ρ->m≠d/\ρ.free d=true
theorem zGP {d:Nat} (h:Fresh st d):st.kill d=st:=by
 have e1:(st.kill d).tm=st.tm:=funext fun i=>by
  show zJL d (st.tm i)=_
  unfold zJL;rw [if_pos (h.1 i)]
 have e2:(st.kill d).rs=st.rs:=funext fun m=>by
  unfold Vst.kill
  dsimp only
  cases hm:st.rs m with
  |none=>split<;>rfl
  |some ρ =>
   have:=h.2 m ρ hm
   rw [if_neg this.1]
   simp [this.2]
 calc st.kill d=⟨(st.kill d).tm,(st.kill d).rs⟩:=rfl
  _=st:=by rw [e1,e2]
theorem zJE {t:TypeId} {d:Nat} {vs:List V} {K:Vst nn->Prop} (ho:o.op = .alloc t) (hd:o.dst=some d) (hdl:Nat.ble d 999999=true) (hc:zEx X.P t=some vs) (hf:freeL d vs=true) (hfr:Fresh st d)
 (hK:K ((st.res d (.box t vs)).put (some d) (.bx d 0))):OpOk X o st K:=by
 refine zEH ho hd hdl hc hf ?_
 rw [zGP hfr];exact hK
theorem zIP {d:Nat} {t:Option Tmp} {v:V} {u:List (Nat × Res)} (h:Fresh st d) (hv:v.free d=true) (hu : ∀ p∈u,p.1≠d/\p.2.free d=true):Fresh (stp st t v u) d:=by
 unfold stp
 have hr : ∀ m ρ,updL st.rs u m=some ρ->m≠d/\ρ.free d=true:=by
  intro m ρ hm
  induction u with
  |nil=>exact h.2 m ρ hm
  |cons x u ih =>
   obtain ⟨k,ρ'⟩:=x
   change (if m=k then some ρ' else updL st.rs u m)=some ρ at hm
   split at hm
   . rename_i e
     cases hm
     have:=hu (k,ρ) (List.mem_cons_self ..)
     exact ⟨by rw [e];exact this.1,this.2⟩
   . exact ih (fun p hp=>hu p (List.mem_cons_of_mem _ hp)) hm
 cases t with
 |none=>exact ⟨h.1,hr⟩
 |some t =>
  refine ⟨fun i => ?_,hr⟩
  show (if i=t then v else st.tm i).free d=true
  split
  . exact hv
  . exact h.1 i
theorem fresh_put {d:Nat} {t:Option Tmp} {v:V} (h:Fresh st d) (hv:v.free d=true):Fresh (st.put t v) d:=zIP (u:=[]) h hv (fun _ hp=>by cases hp)
theorem fresh_res {d m:Nat} {ρ:Res} (h:Fresh st d) (hm:Nat.beq m d=false) (hv:ρ.free d=true):Fresh (st.res m ρ) d:=by
 refine ⟨h.1,fun q ρ' hq => ?_⟩
 change updR st.rs m ρ q=some ρ' at hq
 unfold updR at hq
 split at hq
 . rename_i e
   cases hq
   subst e
   exact ⟨fun e2=>by rw [e2] at hm;simp at hm,hv⟩
 . exact h.2 q ρ' hq
theorem fresh_S {d:Nat} {cs:List (Nat × V)} {R:List (Nat × Res)} (h:(cs.all (fun p=>p.2.free d)&&R.all fun p => !(Nat.beq p.1 d)&&p.2.free d)=true):Fresh (stS nn cs R) d:=by
 rw [Bool.and_eq_true,List.all_eq_true,List.all_eq_true] at h
 refine ⟨fun i => ?_,fun m ρ hm => ?_⟩
 . simp only [stS]
   split
   . rename_i p hp;exact h.1 p (List.mem_of_find?_eq_some hp)
   . rfl
 . simp only [stS] at hm
   split at hm
   . rename_i p hp
     have he:=List.find?_some hp
     simp at he
     cases hm
     have:=h.2 p (List.mem_of_find?_eq_some hp)
     rw [Bool.and_eq_true] at this
     refine ⟨fun e => ?_,this.2⟩
     rw [he,e] at this
     simp at this
   . cases hm
theorem opOk_lit0F {t e:TypeId} {by_ d:Nat} {K:Vst nn->Prop} (ho:o.op = .buildSlice t 0 #[]) (hd:o.dst=some d) (hdl:Nat.ble d 999999=true) (he:zAD X.P t=some (e,by_)) (hfr:Fresh st d)
 (hK:K ((st.res d (.tok e 0)).put (some d) (.own d e []))):OpOk X o st K:=by
 refine opOk_lit0 ho hd hdl he ?_
 rw [zGP hfr];exact hK
def nfB (fr:List Nat) (v:V) (u:List (Nat × Res)):Bool:=fr.all fun d=>v.free d&&u.all fun p => !(Nat.beq p.1 d)&&p.2.free d
inductive YldA (X:Cx) (ops:Array Oper) (fr rd wr:List Nat) (o:Oper) (st:Vst nn):V->List (Nat × Res)->Prop where
 |old {v:V} {u:List (Nat × Res)} (h:YldG X ops rd wr o st v u) (hf:nfB fr v u=true):YldA X ops fr rd wr o st v u
 |alloc {t:TypeId} {d:Nat} {vs:List V} (hg:o.guard=none) (ho:o.op = .alloc t) (hd:o.dst=some d) (hdl:Nat.ble d 999999=true) (hc:zEx X.P t=some vs) (hfd:freeL d vs=true) (hw:wr.contains d=true) (hf:nfB fr (.bx d 0) [(d,.box t vs)]=true):YldA X ops fr rd wr o st (.bx d 0) [(d,.box t vs)]
 |lit0 {t e:TypeId} {by_ d:Nat} (hg:o.guard=none) (ho:o.op = .buildSlice t 0 #[]) (hd:o.dst=some d) (hdl:Nat.ble d 999999=true) (he:zAD X.P t=some (e,by_)) (hw:wr.contains d=true) (hf:nfB fr (.own d e []) [(d,.tok e 0)]=true):YldA X ops fr rd wr o st (.own d e []) [(d,.tok e 0)]
 |app {t e:TypeId} {by_ k:Nat} {x y:Operand} {l l2:List D} (hg:o.guard=none) (hw:wr.contains k=true) (ho:o.op = .call { callee:=.builtin .append,args:=#[x,y],argTypes:=#[t,t] }) (he:zAD X.P t=some (e,by_)) (hleaf : ∀ d,(cellsV X.P 12 e d).all V.leaf=true)
   (hx:ev st x = .own k e l) (hr:st.rs k=some (.tok e l.length)) (hy:(ev st y).out = .sl e l2) (hp:l.length+l2.length<=maxLen/\(l.length+l2.length)*by_<=140737488355328) (hf:nfB fr (.own k e (l++l2)) [(k,.tok e (l.length+l2.length))]=true) :
   YldA X ops fr rd wr o st (.own k e (l++l2)) [(k,.tok e (l.length+l2.length))]
theorem YldA.of {fr rd wr:List Nat} {d:Option Tmp} {v v':V} {u u':List (Nat × Res)} (hd : ∀ t,d=some t->t ∉ o.looksAt ops) (hu:Off rd wr u') :
 YldA X ops fr rd wr o (stp st d v' u') v u ↔ YldA X ops fr rd wr o st v u:=by
 have evs : ∀ x∈o.op.operands,ev (stp st d v' u') x=ev st x:=fun x hx=>zFb fun t ht hxt=>hd t ht (by
  subst hxt
  exact List.mem_append_left _ (List.mem_filterMap.2 ⟨.tmp t,by simpa using hx,rfl⟩))
 have hrs : ∀ n,wr.contains n=true->(stp st d v' u').rs n=st.rs n:=fun n hn=>by
  rw [zCk];exact zEo hu (.inr hn)
 constructor
 . intro h
   cases h with
   |old h hf=>exact .old ((YldG.of hd hu).1 h) hf
   |alloc hg ho hd' hdl hc hfd hw hf=>exact .alloc hg ho hd' hdl hc hfd hw hf
   |lit0 hg ho hd' hdl he hw hf=>exact .lit0 hg ho hd' hdl he hw hf
   |app hg hw ho he hleaf hx hr hy hp hf =>
    rw [evs _ (by rw [ho];simp [Op.operands,Call.operands])] at hx
    rw [evs _ (by rw [ho];simp [Op.operands,Call.operands])] at hy
    rw [hrs _ hw] at hr
    exact .app hg hw ho he hleaf hx hr hy hp hf
 . intro h
   cases h with
   |old h hf=>exact .old ((YldG.of hd hu).2 h) hf
   |alloc hg ho hd' hdl hc hfd hw hf=>exact .alloc hg ho hd' hdl hc hfd hw hf
   |lit0 hg ho hd' hdl he hw hf=>exact .lit0 hg ho hd' hdl he hw hf
   |app hg hw ho he hleaf hx hr hy hp hf =>
    rw [<- evs _ (by rw [ho];simp [Op.operands,Call.operands])] at hx
    rw [<- evs _ (by rw [ho];simp [Op.operands,Call.operands])] at hy
    rw [<- hrs _ hw] at hr
    exact .app hg hw ho he hleaf hx hr hy hp hf
theorem YldA.names {fr rd wr:List Nat} {v:V} {u:List (Nat × Res)} (h:YldA X ops fr rd wr o st v u) : ∀ p∈u,wr.contains p.1=true:=by
 cases h with
 |old h hf=>exact h.names
 |alloc hg ho hd' hdl hc hfd hw hf=>exact fun p hp=>by simp at hp;subst hp;exact hw
 |lit0 hg ho hd' hdl he hw hf=>exact fun p hp=>by simp at hp;subst hp;exact hw
 |app hg hw ho he hleaf hx hr hy hp hf=>exact fun p hp=>by simp at hp;subst hp;exact hw
theorem YldA.nf {fr rd wr:List Nat} {v:V} {u:List (Nat × Res)} (h:YldA X ops fr rd wr o st v u):nfB fr v u=true:=by
 cases h with
 |old h hf=>exact hf
 |alloc hg ho hd' hdl hc hfd hw hf=>exact hf
 |lit0 hg ho hd' hdl he hw hf=>exact hf
 |app hg hw ho he hleaf hx hr hy hp hf=>exact hf
theorem nfB_ok {fr:List Nat} {v:V} {u:List (Nat × Res)} (h:nfB fr v u=true) {d:Nat} (hd:d∈fr):v.free d=true /\ ∀ p∈u,p.1≠d/\p.2.free d=true:=by
 have:=List.all_eq_true.1 h d hd
 rw [Bool.and_eq_true,List.all_eq_true] at this
 refine ⟨this.1,fun p hp => ?_⟩
 have h2:=this.2 p hp
 rw [Bool.and_eq_true] at h2
 exact ⟨fun e=>by rw [e] at h2;simp at h2,h2.2⟩
variable {fr rd wr:Nat->List Nat}
def aOpH (X:Cx) (ops:Array Oper) (fr rd wr:Nat->List Nat) (i:Nat) (K:Vst nn->Prop) (st:Vst nn):Prop:=
 match ops[i]? with
 |none=>K st
 |some o => ∃ v u,YldA X ops (fr i) (rd i) (wr i) o st v u/\K (stp st o.dst v u)
theorem aOpH_mono {i:Nat} {K K':Vst nn->Prop} (h : ∀ st,K st->K' st) (hh:aOpH X ops fr rd wr i K st):aOpH X ops fr rd wr i K' st:=by
 unfold aOpH at *
 split
 . rename_i hn;simp only [hn] at hh;exact h _ hh
 . rename_i o ho
   simp only [ho] at hh
   obtain ⟨v,u,h1,h2⟩:=hh
   exact ⟨v,u,h1,h _ h2⟩
def absAnyH (X:Cx) (ops:Array Oper) (fr rd wr:Nat->List Nat) (Q:Vst nn->Prop):Nat->Array Bool->Vst nn->Prop
 |0,listed,st=>Region.ready .any ops listed=[]/\Q st
 |fuel+1,listed,st=>(Region.ready .any ops listed=[]->Q st) /\ ∀ i∈Region.ready .any ops listed,aOpH X ops fr rd wr i (absAnyH X ops fr rd wr Q fuel (listed.setIfInBounds i true)) st
theorem aOpH_put {i j:Nat} {oi oj:Oper} {v:V} {u:List (Nat × Res)} (hj:ops[j]? = some oj) (hap:oi.apart ops oj=true) (hn:zDK (wr i) (rd j)=true/\zDK (wr i) (wr j)=true/\zDK (wr j) (rd i)=true) {K:Vst nn->Prop} (hy:YldA X ops (fr i) (rd i) (wr i) oi st v u) (h:aOpH X ops fr rd wr j K (stp st oi.dst v u)) :
 aOpH X ops fr rd wr j (fun st'=>YldA X ops (fr i) (rd i) (wr i) oi st' v u/\K (stp st' oi.dst v u)) st:=by
 obtain ⟨h1,h2,h3⟩:=Oper.apart_spec hap
 unfold aOpH at *
 simp only [hj] at *
 obtain ⟨v',u',hy',hK⟩:=h
 have hu:Off (rd j) (wr j) u:=fun p hp=>by
  have hw:=hy.names p hp
  refine ⟨?_,?_⟩
  . cases hq:(rd j).contains p.1
    . rfl
    . exact (zBN hn.1 hw hq).elim
  . cases hq:(wr j).contains p.1
    . rfl
    . exact (zBN hn.2.1 hw hq).elim
 have hyj:YldA X ops (fr j) (rd j) (wr j) oj st v' u':=(YldA.of h1 hu).1 hy'
 have hu':Off (rd i) (wr i) u':=fun p hp=>by
  have hw:=hyj.names p hp
  refine ⟨?_,?_⟩
  . cases hq:(rd i).contains p.1
    . rfl
    . exact (zBN hn.2.2 hw hq).elim
  . cases hq:(wr i).contains p.1
    . rfl
    . exact (zBN hn.2.1 hq hw).elim
 have huu : ∀ p∈u,∀ q∈u',p.1≠q.1:=fun p hp q hq e=>by
  have h5:=hy.names p hp
  have h6:=hyj.names q hq
  rw [<- e] at h6
  exact zBN hn.2.1 h5 h6
 exact ⟨v',u',hyj,(YldA.of h3 hu').2 hy,by rw [<- zHi h2 huu];exact hK⟩
theorem zHa {Q:Vst nn->Prop} {i:Nat} {oi:Oper} {v:V} {u:List (Nat × Res)} (hi:ops[i]? = some oi) (hN:zDv ops rd wr=true) :
 ∀ (fuel:Nat) (listed:Array Bool) (st:Vst nn),Closed ops listed->(∀ j,j<i->listed.getD j false=true) ->
   (∀ j oj,ops[j]? = some oj->j≠i->listed.getD j true=false->(∀ e∈oj.after,Region.binds .any e=true->e.on≠i)->oi.apart ops oj=true) ->
   i∈Region.ready .any ops listed->YldA X ops (fr i) (rd i) (wr i) oi st v u ->
   absAnyH X ops fr rd wr Q fuel (listed.setIfInBounds i true) (stp st oi.dst v u)->absAnyH X ops fr rd wr Q (fuel+1) listed st:=by
 intro fuel
 induction fuel with
 |zero =>
  intro listed st _ _ _ hr hy H
  refine ⟨fun h=>(by rw [h] at hr;cases hr),fun j hj => ?_⟩
  by_cases hji:j=i
  . subst hji;unfold aOpH;simp only [hi];exact ⟨v,u,hy,H⟩
  . have:=ready_mono hj hji
    rw [H.1] at this
    cases this
 |succ fuel ih =>
  intro listed st hcl hlow hfree hr hy H
  refine ⟨fun h=>(by rw [h] at hr;cases hr),fun j hj => ?_⟩
  by_cases hji:j=i
  . subst hji;unfold aOpH;simp only [hi];exact ⟨v,u,hy,H⟩
  . have h1:=H.2 j (ready_mono hj hji)
    obtain ⟨hjun,oj,hoj,hall⟩:=mem_ready.1 hj
    have hiun:=(mem_ready.1 hr).1
    have hnot : ∀ e∈oj.after,Region.binds .any e=true->e.on≠i:=fun e he hb heq=>by
     have h1:=hall e he hb
     rw [heq] at h1
     exact zAv hiun h1
    have hij:i<j:=by
     rcases Nat.lt_trichotomy i j with h | h | h
     . exact h
     . exact absurd h.symm hji
     . exact (zAv hjun (hlow j h)).elim
    have hsz:j<ops.size:=(Array.getElem?_eq_some_iff.1 hoj).1
    have hnm:zDK (wr i) (rd j)=true/\zDK (wr i) (wr j)=true/\zDK (wr j) (rd i)=true:=by
     have h2:=List.all_eq_true.1 (List.all_eq_true.1 hN j (List.mem_range.2 hsz)) i (List.mem_range.2 hij)
     rw [Bool.or_eq_true] at h2
     rcases h2 with h2 | h2
     . simp only [Bool.and_eq_true] at h2;exact ⟨h2.1.1,h2.1.2,h2.2⟩
     . refine (zAv hiun (zEt hcl _ _ (fun k hk => ?_) i (by simpa using h2))).elim
       unfold zGg at hk
       rw [hoj] at hk
       obtain ⟨e,he,rfl⟩:=List.mem_map.1 hk
       obtain ⟨h2,h3⟩:=List.mem_filter.1 he
       exact hall e (by simpa using h2) h3
    have h2:=aOpH_put (i:=i) hoj (hfree j oj hoj hji hjun hnot) hnm hy h1
    have hfree' : ∀ k ok,ops[k]? = some ok->k≠i->(listed.setIfInBounds j true).getD k true=false ->
     (∀ e∈ok.after,Region.binds .any e=true->e.on≠i)->oi.apart ops ok=true:=fun k ok hk hki hun hno=>by
     refine hfree k ok hk hki ?_ hno
     by_cases hjk:j=k
     . subst hjk;exact hjun
     . rw [getD_set_ne true hjk] at hun;exact hun
    refine aOpH_mono (fun st' h3=>ih (listed.setIfInBounds j true) st' (hcl.set hj) (fun k hk=>getD_set_true (hlow k hk)) hfree' (ready_mono hr (Ne.symm hji)) h3.1 ?_) h2
    rw [Array.setIfInBounds_comm _ _ hji]
    exact h3.2
def absLexH (X:Cx) (ops:Array Oper) (fr rd wr:Nat->List Nat) (Q:Vst nn->Prop):Nat->List Oper->Vst nn->Prop
 |_,[],st=>Q st
 |k,o::rest,st => ∃ v u,YldA X ops (fr k) (rd k) (wr k) o st v u/\absLexH X ops fr rd wr Q (k+1) rest (stp st o.dst v u)
theorem zFs {Q:Vst nn->Prop} (hN:zDv ops rd wr=true) : ∀ (l:List Oper) (k:Nat) (listed:Array Bool) (st:Vst nn),(∀ j,l[j]? = ops[k+j]?)->Closed ops listed->(∀ j,j<k->listed.getD j false=true)->listed.size=ops.size ->
 Region.lexFrom .any ops l.length k listed=true->absLexH X ops fr rd wr Q k l st->absAnyH X ops fr rd wr Q l.length listed st
 |[],_,_,_,_,_,_,_,hB,h=>⟨by simpa [Region.lexFrom] using hB,h⟩
 |o::l,k,listed,st,hl,hcl,hlow,hsz,hB,h=>by
  have h0:ops[k]? = some o:=by simpa using (hl 0).symm
  have hk:k<ops.size:=(Array.getElem?_eq_some_iff.1 h0).1
  simp only [List.length_cons,Region.lexFrom,Bool.and_eq_true] at hB
  obtain ⟨⟨hr,hf⟩,hB'⟩:=hB
  have hr:k∈Region.ready .any ops listed:=by simpa using hr
  obtain ⟨v,u,hy,hK⟩:=h
  exact zHa h0 hN l.length listed st hcl hlow (Region.free_spec h0 hf) hr hy
   (zFs hN l (k+1) _ _ (fun j=>by have:=hl (j+1);simpa [Nat.add_assoc,Nat.add_comm 1 j] using this) (hcl.set hr) (fun j hj=>by
     by_cases e:j=k
     . subst e;exact zDn (by omega)
     . exact getD_set_true (hlow j (by omega))) (by simpa using hsz) hB' hK)
def frOf (ops:Array Oper) (R:List (Nat × Nat)) (j:Nat):List Nat:=(R.filter fun p => !(Nat.beq p.1 j) && !(reachS ops ops.size (zGg ops j)).contains p.1).map (·.2)
theorem zDf (R:List (Nat × Nat)) (hR : ∀ i o t d,ops[i]? = some o->(o.op = .alloc t\/o.op = .buildSlice t 0 #[])->o.dst=some d->(i,d)∈R) {Q:Vst nn->Prop} {Q':Exit->Act->World->Prop} (hP:PQ X nn Q') (hQ : ∀ st' s' w' a',Inv X st' s' w' a'->Q st'->Q' .normal a' w') : ∀ (fuel:Nat) (listed:Array Bool) (st:Vst nn) (s:Sg) (w:World) (a:Act),Closed ops listed->(∀ p∈R,listed.getD p.1 true=false->Fresh st p.2)->Inv X st s w a ->
 absAnyH X ops (frOf ops R) rd wr Q fuel listed st->wpAny X.P .any ops Q' fuel listed a w
 |0,_,_,_,_,_,_,_,hI,h=>⟨h.1,hQ _ _ _ _ hI h.2⟩
 |fuel+1,listed,st,s,w,a,hcl,hfr,hI,h=>⟨fun h0=>hQ _ _ _ _ hI (h.1 h0),fun i hi=>by
  have h1:=h.2 i hi
  obtain ⟨hiun,oi,hoi,hall⟩:=mem_ready.1 hi
  unfold aOpH at h1
  unfold wpOp
  simp only [hoi] at h1 |-
  obtain ⟨v,u,hy,hK⟩:=h1
  have hnf:=hy.nf
  have hfr' : ∀ p∈R,(listed.setIfInBounds i true).getD p.1 true=false->Fresh (stp st oi.dst v u) p.2:=fun p hp hl=>by
   have hne:p.1≠i:=fun e=>by
    rw [e] at hl
    have hsz:i<listed.size \/ ¬ i<listed.size:=Nat.lt_or_ge i listed.size |>.imp id fun h=>by omega
    rw [Array.getD_eq_getD_getElem?,Array.getElem?_setIfInBounds] at hl
    rcases hsz with hsz | hsz
    . simp [hsz] at hl
    . simp [hsz] at hl
   have hl2:listed.getD p.1 true=false:=by rwa [getD_set_ne true (Ne.symm hne)] at hl
   have hmem:p.2∈frOf ops R i:=by
    refine List.mem_map.2 ⟨p,List.mem_filter.2 ⟨hp,?_⟩,rfl⟩
    rw [Bool.and_eq_true]
    refine ⟨by cases hb:Nat.beq p.1 i;rfl;exact (hne (Nat.eq_of_beq_eq_true hb)).elim,?_⟩
    rw [Bool.not_eq_true']
    cases hq:(reachS ops ops.size (zGg ops i)).contains p.1
    . rfl
    . refine (zAv hl2 (zEt hcl _ _ (fun k hk => ?_) p.1 (by simpa using hq))).elim
      unfold zGg at hk
      rw [hoi] at hk
      obtain ⟨e,he,rfl⟩:=List.mem_map.1 hk
      obtain ⟨h2,h3⟩:=List.mem_filter.1 he
      exact hall e (by simpa using h2) h3
   have:=nfB_ok hnf hmem
   exact zIP (hfr p hp hl2) this.1 this.2
  have go : ∀ {st':Vst nn} {s' w' a'},Inv X st' s' w' a'->(absAnyH X ops (frOf ops R) rd wr Q fuel (listed.setIfInBounds i true) st' /\ ∀ p∈R,(listed.setIfInBounds i true).getD p.1 true=false->Fresh st' p.2)->wpAny X.P .any ops Q' fuel (listed.setIfInBounds i true) a' w':=
   fun hI' hK'=>zDf R hR hP hQ fuel _ _ _ _ _ (hcl.set hi) hK'.2 hI' hK'.1
  cases hy with
  |old hy hf =>
   rcases hy with ⟨hg,hy⟩ | ⟨hg,rfl,rfl⟩
   . rw [if_pos (zHI hg hI)]
     exact .inl (zH5 (K:=fun st'=>absAnyH X ops (frOf ops R) rd wr Q fuel (listed.setIfInBounds i true) st' /\ ∀ p∈R,(listed.setIfInBounds i true).getD p.1 true=false->Fresh st' p.2) hy ⟨hK,hfr'⟩ s w a hI _ _ hP fun st' s' w' a' hI' hK'=>go hI' hK')
   . rw [if_neg (by rw [zHI hg hI];simp)]
     exact go (hI.put oi.dst (by simp [rel])) ⟨hK,hfr'⟩
  |alloc hg ho hd hdl hc hfd hw hf =>
   rename_i t d vs
   rw [if_pos (zHI (by simp [gw,hg]) hI)]
   have hst:stp st oi.dst (.bx d 0) [(d,.box t vs)]=((st.res d (.box t vs)).put (some d) (.bx d 0)):=by rw [zCK,hd]
   refine .inl (zJE (K:=fun st'=>absAnyH X ops (frOf ops R) rd wr Q fuel (listed.setIfInBounds i true) st' /\ ∀ p∈R,(listed.setIfInBounds i true).getD p.1 true=false->Fresh st' p.2) ho hd hdl hc hfd (hfr _ (hR i oi t d hoi (.inl ho) hd) hiun) ?_ s w a hI _ _ hP fun st' s' w' a' hI' hK'=>go hI' hK')
   rw [<- hst]
   exact ⟨hK,hfr'⟩
  |lit0 hg ho hd hdl he hw hf =>
   rename_i t e by_ d
   rw [if_pos (zHI (by simp [gw,hg]) hI)]
   have hst:stp st oi.dst (.own d e []) [(d,.tok e 0)]=((st.res d (.tok e 0)).put (some d) (.own d e [])):=by rw [zCK,hd]
   refine .inl (opOk_lit0F (K:=fun st'=>absAnyH X ops (frOf ops R) rd wr Q fuel (listed.setIfInBounds i true) st' /\ ∀ p∈R,(listed.setIfInBounds i true).getD p.1 true=false->Fresh st' p.2) ho hd hdl he (hfr _ (hR i oi t d hoi (.inr ho) hd) hiun) ?_ s w a hI _ _ hP fun st' s' w' a' hI' hK'=>go hI' hK')
   rw [<- hst]
   exact ⟨hK,hfr'⟩
  |app hg hw ho he hleaf hx hr hy hp hf =>
   rename_i t e by_ k x y l l2
   rw [if_pos (zHI (by simp [gw,hg]) hI)]
   have hst:stp st oi.dst (.own k e (l++l2)) [(k,.tok e (l.length+l2.length))]=((st.res k (.tok e (l.length+l2.length))).put oi.dst (.own k e (l++l2))):=zCK
   refine .inl (zH8 (K:=fun st'=>absAnyH X ops (frOf ops R) rd wr Q fuel (listed.setIfInBounds i true) st' /\ ∀ p∈R,(listed.setIfInBounds i true).getD p.1 true=false->Fresh st' p.2) ho he hleaf hx hr hy hp.1 hp.2 ?_ s w a hI _ _ hP fun st' s' w' a' hI' hK'=>go hI' hK')
   rw [<- hst]
   exact ⟨hK,hfr'⟩⟩
theorem aw_drawH (r w:List (Nat × List Nat)) (R:List (Nat × Nat)) {id:Nat} {l:List Oper} {K:Exit->Vst nn->Prop} (hm:X.P.follows .mixedOrders=true) (hB:Region.lexB .any l.toArray=true) (hN:zDv l.toArray (nmf r) (nmf w)=true)
 (hR : ∀ i o t d,l.toArray[i]? = some o->(o.op = .alloc t\/o.op = .buildSlice t 0 #[])->o.dst=some d->(i,d)∈R) (hF : ∀ p∈R,Fresh st p.2) (h:absLexH X l.toArray (frOf l.toArray R) (nmf r) (nmf w) (K .normal) 0 l st):AW X (.region id l.toArray true) st K:=fun s wd a hI=>by
 simp only [Region.lexB,Bool.and_eq_true] at hB
 have hlow : ∀ k,(Array.replicate l.toArray.size false).getD k false=false:=fun k=>by
  rw [Array.getD_eq_getD_getElem?,Array.getElem?_replicate]
  split<;>rfl
 refine wp_region_any hm (zDf R hR (rd:=nmf r) (wr:=nmf w) (Q:=K .normal) (fun pv st' s' w' a' hI' hp=>⟨st',s',hI',.inr ⟨pv,rfl,hp⟩⟩) (fun st' s' w' a' hI' hK=>⟨st',s',hI',.inl hK⟩) _ _ st s _ a (fun k o _ hk=>by rw [hlow k] at hk;cases hk) (fun p hp _=>hF p hp) hI.drew ?_)
 have:=zFs (X:=X) (fr:=frOf l.toArray R) (rd:=nmf r) (wr:=nmf w) (Q:=K .normal) hN l 0 (Array.replicate l.toArray.size false) st (by simp) (fun k o _ hk=>by rw [hlow k] at hk;cases hk) (fun j hj=>absurd hj (Nat.not_lt_zero j)) (by simp) (by simpa using hB.2) h
 simpa using this
def allocsB (ops:Array Oper) (R:List (Nat × Nat)):Bool:=(List.range ops.size).all fun i=>match ops[i]? with
 |some o=>(match o.op,o.dst with | .alloc _,some d=>R.contains (i,d) | .buildSlice _ _ _,some d=>R.contains (i,d) | _,_=>true)
 |none=>true
theorem allocsB_ok {R:List (Nat × Nat)} (h:allocsB ops R=true) : ∀ i o t d,ops[i]? = some o->(o.op = .alloc t\/o.op = .buildSlice t 0 #[])->o.dst=some d->(i,d)∈R:=fun i o t d hi ho hd=>by
 have:=List.all_eq_true.1 h i (List.mem_range.2 (Array.getElem?_eq_some_iff.1 hi).1)
 rw [hi] at this
 rcases ho with ho | ho
 . simp only [ho,hd] at this
   simpa using this
 . simp only [ho,hd] at this
   simpa using this
theorem zK2 (r w:List (Nat × List Nat)) (R:List (Nat × Nat)) {id:Nat} {l:List Oper} {K:Exit->Vst nn->Prop} (hm:X.P.follows .mixedOrders=true) (hB:Region.lexB .any l.toArray=true) (hN:zDv l.toArray (nmf r) (nmf w)=true)
 (hA:allocsB l.toArray R=true) (hF : ∀ p∈R,Fresh st p.2) (h:absLexH X l.toArray (frOf l.toArray R) (nmf r) (nmf w) (K .normal) 0 l st):AW X (.region id l.toArray true) st K:=
 aw_drawH r w R hm hB hN (allocsB_ok hA) hF h
section
variable {l:List Oper} {Q:Vst nn->Prop} {d:Option Tmp} {k:Nat}
theorem h_nil (h:Q st):absLexH X ops fr rd wr Q k [] st:=h
theorem h_val {p:Prop} {v:V} (hg:o.guard=none) (hd:o.dst=d) (h:act1 X.P st.rs (ev st) o.op = .val p v) (hf:nfB (fr k) v []=true) (hK:absLexH X ops fr rd wr Q (k+1) l (st.put d v)) (hp:p) (hl:inO (rd k) (loads (ev st) o.op)=true):absLexH X ops fr rd wr Q k (o::l) st:=
 ⟨v,[],.old (.inl ⟨by simp [gw,hg],.val h hp hl⟩) hf,by rw [hd];exact hK⟩
theorem h_alloc {t:TypeId} {m:Nat} {vs:List V} (hg:o.guard=none) (ho:o.op = .alloc t) (hd:o.dst=some m) (hdl:Nat.ble m 999999=true) (hc:zEx X.P t=some vs) (hfd:freeL m vs=true) (hw:(wr k).contains m=true) (hf:nfB (fr k) (.bx m 0) [(m,.box t vs)]=true)
 (hK:absLexH X ops fr rd wr Q (k+1) l ((st.res m (.box t vs)).put (some m) (.bx m 0))):absLexH X ops fr rd wr Q k (o::l) st:=
 ⟨_,_,.alloc hg ho hd hdl hc hfd hw hf,by rw [zCK,hd];exact hK⟩
theorem h_store {t:TypeId} {x y:Operand} {m off:Nat} {t':TypeId} {vs xs:List V} (hg:o.guard=none) (ho:o.op = .store t x y) (hd:o.dst=none) (hx:ev st x = .bx m off) (hw:(wr k).contains m=true) (hr:st.rs m=some (.box t' vs)) (hc:cellsOf (ev st y)=some xs)
 (hs:X.P.cellsOf t=xs.length/\(X.P.info? t).isSome) (hl:Nat.ble (off+xs.length) vs.length=true) (hf:nfB (fr k) .any [(m,.box t' (splice vs off xs))]=true) (hK:absLexH X ops fr rd wr Q (k+1) l (st.res m (.box t' (splice vs off xs)))):absLexH X ops fr rd wr Q k (o::l) st:=
 ⟨_,_,.old (.inl ⟨by simp [gw,hg],.store hw ho hd hx hr hc hs (Nat.le_of_ble_eq_true hl)⟩) hf,by rw [hd,zCK];exact hK⟩
end
end
end
section
open Go.RowKit
set_option linter.unusedSectionVars false
attribute [local irreducible] wpList Calls Code.wp AW AWo OpOk seqK zz z8 loopK endK AC zl Yld Sub
attribute [local irreducible] ACB ACX ACE absLexG YldG absLexH
theorem zAI {i n:Nat} (h:i<n):0<=(i:Int)/\(i:Int)<(n:Int):=⟨Int.natCast_nonneg i,Int.ofNat_lt.2 h⟩
theorem zJN (a:Int):AC EN5 Tryz.prog 218 [.c (.int .i64 a),.c (.int .i64 a)] (.c (.int .i64 0)):=by
 have f1:decide (a<a)=false:=decide_eq_false (by omega)
 have f2:decide (a>a)=false:=decide_eq_false (by omega)
 refine zN 11 Tryz.func218 rfl rfl rfl rfl ?_
 intro s w he
 repeat' (first
|apply zC
 . conv=>lhs;whnf
 . assumption
|refine zA ?_
|refine zB ?_
|refine zH ?_
|apply aw_1
 conv=>whnf
 refine ⟨?_,trivial⟩
|apply s_1
 conv=>whnf;arg 1;arg 4;arg 3;whnf
 refine ⟨?_,?_⟩
|refine zE ?_
|refine ⟨_,by conv=>lhs;whnf;arg 2;whnf,?_⟩;conv=>rhs;whnf
|exact trivial)
theorem zIH : ∀ l:List UInt8,Op.bytesLess l l=false
 |[]=>rfl
 |c::r=>by
  have:=zIH r
  unfold Op.bytesLess
  simp [this]
theorem strs_ac (a:ByteArray):AC EN5 Tryz.prog 219 [.c (.string a),.c (.string a)] (.c (.int .i64 0)):=by
 have f1:=zIH a.toList
 have f2:(!(Op.bytesLess a.toList a.toList||a.toList==a.toList))=false:=by simp
 refine zN 11 Tryz.func219 rfl rfl rfl rfl ?_
 intro s w he
 repeat' (first
|apply zC
 . conv=>lhs;whnf
 . assumption
|refine zA ?_
|refine zB ?_
|refine zH ?_
|apply aw_1
 conv=>whnf
 refine ⟨?_,trivial⟩
|apply s_1
 conv=>whnf;arg 1;arg 4;arg 3;whnf
 refine ⟨?_,?_⟩
|refine zE ?_
|refine ⟨_,by conv=>lhs;whnf;arg 2;whnf,?_⟩;conv=>rhs;whnf
|exact trivial)
def keyK (d:D) (i:Nat):ByteArray:=if i<(d.f 4).l.length then (gD (d.f 4).l i).s else { data:=#[] }
theorem keyK_ac (d:D) (i:Nat):AC EN5 Tryz.prog 220 [.agg (cellsV Tryz.prog 12 53 d),.c (.int .i64 (i:Int))] (.c (.string (keyK d i))):=by
 unfold keyK
 by_cases h:i<(d.f 4).l.length
 . have f1:decide ((i:Int)<((d.f 4).l.length:Nat))=true:=decide_eq_true (by omega)
   rw [if_pos h]
   refine zN 15 Tryz.func220 rfl rfl rfl rfl ?_
   intro s w he
   repeat' (first
|apply zG
 . conv=>lhs;whnf
 . assumption
|refine zA ?_
|refine zB ?_
|refine zH ?_
|apply aw_1
 conv=>whnf
 refine ⟨?_,trivial⟩
|apply s_1
 conv=>whnf;arg 1;arg 4;arg 3;whnf
 refine ⟨?_,?_⟩
|apply zAL rfl rfl rfl rfl
 . conv=>lhs;whnf;arg 1;whnf
 . rfl
|refine zO ?_
|refine zE ?_
|refine ⟨_,by conv=>lhs;whnf;arg 2;whnf,?_⟩;conv=>rhs;whnf
|exact trivial)
   all_goals first
    |exact zAI h
    |rfl
 . have f1:decide ((i:Int)<((d.f 4).l.length:Nat))=false:=decide_eq_false (by omega)
   rw [if_neg h]
   refine zN 15 Tryz.func220 rfl rfl rfl rfl ?_
   intro s w he
   repeat' (first
|apply zC
 . conv=>lhs;whnf
 . assumption
|refine zA ?_
|refine zB ?_
|refine zH ?_
|apply aw_1
 conv=>whnf
 refine ⟨?_,trivial⟩
|apply s_1
 conv=>whnf;arg 1;arg 4;arg 3;whnf
 refine ⟨?_,?_⟩
|apply zAL rfl rfl rfl rfl
 . conv=>lhs;whnf;arg 1;whnf
 . rfl
|refine zE ?_
|refine ⟨_,by conv=>lhs;whnf;arg 2;whnf,?_⟩;conv=>rhs;whnf
|exact trivial)
noncomputable def HCm (d:D) (i:Nat):Vst 70:=stS 70 [(2,.bx 2 0),(3,.bx 3 0),(5,.c (.int .i64 0)),(6,.c (.int .i64 (i:Int)))] [(2,.box 53 (cellsV Tryz.prog 12 53 d)),(3,.box 53 (cellsV Tryz.prog 12 53 d))]
theorem cmp_ac : ∀ (k:Nat) (d:D),Dp k d->bulkD d<=1000000000->AC EN5 Tryz.prog 194 [.agg (cellsV Tryz.prog 12 53 d),.agg (cellsV Tryz.prog 12 53 d)] (.c (.int .i64 0))
 |0,_,h,_=>h.elim
 |k+1,d,h,hw=>by
  have hin:=bk_in hw
  have hl:=hin.items
  have ih:=fun i (hi:i<(d.f 3).l.length)=>cmp_ac k (gD (d.f 3).l i) (h i hi) (by have:=hin.at_ i hi;omega)
  have h1:=zJN (d.f 0).n
  have h2:=zJN (d.f 1).n
  have h3:=strs_ac (d.f 2).s
  have h4:=zJN ((d.f 3).l.length:Nat)
  refine zN 70 Tryz.func194 rfl rfl rfl rfl ?_
  intro s w he
  repeat' (first
|refine zA ?_
|refine zB ?_
|refine zH ?_
|apply aw_1
 conv=>whnf
 refine ⟨?_,trivial⟩
|apply s_1
 conv=>whnf;arg 1;arg 4;arg 3;whnf
 refine ⟨?_,?_⟩
|apply ze rfl
 . conv=>lhs;whnf
 . conv=>lhs;whnf
 . first | exact h1 | exact h2 | exact h3
|apply zAL rfl rfl rfl rfl
 . conv=>lhs;whnf;arg 1;whnf
 . rfl
|exact trivial)
  refine zi (fun j st => ∃ i,i+j=(d.f 3).l.length/\Sub (cx EN5 Tryz.prog s w he) st (HCm d i)) (d.f 3).l.length ⟨0,by omega,Sub.live ⟨rfl,rfl,rfl,rfl,trivial⟩ ⟨rfl,rfl,trivial⟩⟩ ?_
  rintro j st ⟨i,hij,hs2⟩
  refine zg hs2 ?_
  clear hs2 h1 h2 h3
  by_cases hi:i<(d.f 3).l.length
  . have f0:decide ((i:Int)>=((d.f 3).l.length:Nat))=false:=decide_eq_false (by omega)
    have k0:(decide ((i:Int)>=((d.f 3).l.length:Nat))==false)=false->False:=fun h=>by rw [f0] at h;cases h
    have ih2:=ih i hi
    have hk:=keyK_ac d i
    have hks:=strs_ac (keyK d i)
    repeat' (first
|apply zC
 . conv=>lhs;whnf
 . assumption
|exact (k0 ‹_›).elim
|refine zA ?_
|refine zB ?_
|refine zH ?_
|refine zR ?_
|apply aw_1
 conv=>whnf
 refine ⟨?_,trivial⟩
|apply za rfl rfl
 . conv=>lhs;whnf
 . conv=>lhs;whnf
 . first | exact bF1 ‹_› | exact bF2 ‹_›
|apply s_1
 conv=>whnf;arg 1;arg 4;arg 3;whnf
 refine ⟨?_,?_⟩
|apply zL rfl
 . conv=>lhs;whnf
 . conv=>lhs;whnf
 . first | rfl | assumption
 . conv=>lhs;whnf;arg 2;whnf
|apply zF rfl
 . conv=>lhs;whnf
 . conv=>lhs;whnf
 . conv=>lhs;whnf;arg 2;whnf
|apply zAF (by kernel_rfl) (by kernel_rfl)
|apply zAs
|apply zAr rfl
 . conv=>lhs;whnf
 . conv=>lhs;whnf;arg 2;whnf
|apply zBa rfl
 . conv=>lhs;whnf
 . conv=>lhs;whnf
 . first | exact ih2 | exact hk | exact hks
|exact zk
|exact zv
|exact (1000000:Nat)
|exact trivial
|intro hg)
    all_goals first
     |exact zU (by omega)
     |exact zAI hi
     |exact zI (j':=j-1) (by omega) ⟨i+1,by omega,Sub.live ⟨rfl,rfl,rfl,rfl,trivial⟩ ⟨rfl,rfl,trivial⟩⟩
  . have f0:decide ((i:Int)>=((d.f 3).l.length:Nat))=true:=decide_eq_true (by omega)
    have k0:(decide ((i:Int)>=((d.f 3).l.length:Nat))==false)=true->False:=fun h=>by rw [f0] at h;cases h
    repeat' (first
|exact (k0 ‹_›).elim
|refine zA ?_
|refine zB ?_
|refine zH ?_
|apply aw_1
 conv=>whnf
 refine ⟨?_,trivial⟩
|apply zq rfl rfl
 . conv=>lhs;whnf
 . conv=>lhs;whnf
 . first | exact bT1 ‹_› | exact bT2 ‹_›
|apply s_1
 conv=>whnf;arg 1;arg 4;arg 3;whnf
 refine ⟨?_,?_⟩
|apply ze rfl
 . conv=>lhs;whnf
 . conv=>lhs;whnf
 . first | exact h4
|apply zr rfl
 . conv=>lhs;whnf
 . conv=>lhs;whnf
 . first | rfl | assumption
|apply zF rfl
 . conv=>lhs;whnf
 . conv=>lhs;whnf
 . conv=>lhs;whnf;arg 2;whnf
|refine zO ?_
|refine zQ ?_
|refine zy ?_
|refine zE ?_
|refine ⟨_,by conv=>lhs;whnf;arg 2;whnf,?_⟩;conv=>rhs;whnf
|exact trivial
|intro hg)
theorem same_ac (d:D) (hw:bulkD d<=1000000000):AC EN5 Tryz.prog 161 [.agg (cellsV Tryz.prog 12 53 d),.agg (cellsV Tryz.prog 12 53 d)] (.c (.bool true)):=by
 have h:=cmp_ac _ d (zCR (bulkD d) d (Nat.le_refl _)) hw
 refine zN 9 Tryz.func161 rfl rfl rfl rfl ?_
 intro s w he
 repeat' (first
|refine zA ?_
|refine zB ?_
|refine zH ?_
|apply aw_1
 conv=>whnf
 refine ⟨?_,trivial⟩
|apply s_1
 conv=>whnf;arg 1;arg 4;arg 3;whnf
 refine ⟨?_,?_⟩
|apply ze rfl
 . conv=>lhs;whnf
 . conv=>lhs;whnf
 . first | exact h
|apply zAL rfl rfl rfl rfl
 . conv=>lhs;whnf;arg 1;whnf
 . rfl
|refine zE ?_
|refine ⟨_,by conv=>lhs;whnf;arg 2;whnf,?_⟩;conv=>rhs;whnf
|exact trivial)
 rfl
noncomputable def HWr (l:List D) (i:Nat):Vst 26:=stS 26 [(0,.sl 3 l),(1,.sl 3 l),(5,.c (.int .i64 (i:Int)))] []
end
section
open Go.RowKit
attribute [local irreducible] wpList Calls Code.wp
def LenT (P:Program):Nat->TypeId->D->Prop
 |0,_,_=>True
 |n+1,t,d =>
  match P.underlying t with
  |some .string=>d.s.size<=maxLen
  |some (.slice e)=>d.l.length<=maxLen/\(0<P.cellsOf e -> ∀ i,i<d.l.length->LenT P n e (gD d.l i))
  |some (.struct fs) => ∀ j f,fs[j]? = some f->LenT P n f.type (d.f j)
  |_=>True
section
variable {P:Program} {s:Sg} {w:World}
theorem RepF.len {F:Nat->Nat->Prop} : ∀ (n:Nat) {k:Nat} {t:TypeId} {cs:List Value} {d:D},RepF P w F k t cs d->LenT P n t d
 |0,_,_,_,_,_=>trivial
 |n+1,0,_,_,_,h=>h.elim
 |n+1,k+1,t,cs,d,h=>by
  unfold RepF at h
  unfold LenT
  split<;>rename_i hu<;>try simp only [hu] at h
  . exact h.2
  . obtain ⟨A,c,h1,h2,h3,h4,h5⟩:=h
    refine ⟨Nat.le_trans h2 h3,fun hc i hi => ?_⟩
    obtain ⟨b,off,hA,hat⟩:=h5 (by omega) hc
    obtain ⟨ys,y1,y2,y3⟩:=hat i hi
    exact RepF.len n y3
  . exact fun j f hf=>RepF.len n (h.2 j f hf)
  . trivial
theorem SlV.len {F:Nat->Nat->Prop} (n:Nat) {e:TypeId} {l:List D} {u:Value} (h:SlV P w F e l u):l.length<=maxLen/\(0<P.cellsOf e -> ∀ i,i<l.length->LenT P n e (gD l i)):=by
 obtain ⟨k,A,c,h1,h2,h3,h4,h5⟩:=h
 refine ⟨Nat.le_trans h2 h3,fun hc i hi => ?_⟩
 obtain ⟨b,off,hA,hat⟩:=h5 (by omega) hc
 obtain ⟨ys,y1,y2,y3⟩:=hat i hi
 exact y3.len n
mutual
theorem zId : ∀ (m n:Nat) (t:TypeId) (d:D) (cs:List Value),layB P m t=true->relL P s w (cellsV P m t d) cs->LenT P n t d
 |0,_,_,_,_,hb,_=>by simp [layB] at hb
 |m+1,0,_,_,_,_,_=>trivial
 |m+1,n+1,t,d,cs,hb,h=>by
  unfold LenT
  unfold layB at hb
  unfold cellsV at h
  split<;>rename_i hu<;>try simp only [hu] at h hb
  . cases cs with
    |nil=>simp [relL] at h
    |cons c cs=>rw [relL,rel] at h;exact h.1.2
  . cases cs with
    |nil=>simp [relL] at h
    |cons c cs=>rw [relL,rel] at h;exact h.1.len n
  . rename_i fs
    simp only [Bool.and_eq_true,beq_iff_eq] at hb
    intro j f hf
    have:=zGT m n fs.toList 0 d cs hb.2 h j f (by simpa using hf)
    simpa using this
  . trivial
theorem zGT : ∀ (m n:Nat) (fs:List Field) (j:Nat) (d:D) (cs:List Value),(fs.all fun f=>layB P m f.type)=true->relL P s w (zAp (cellsV P m) fs j d) cs -> ∀ i f,fs[i]? = some f->LenT P n f.type (d.f (j+i))
 |m,n,[],j,d,cs,_,_,i,f,hf=>by simp at hf
 |m,n,g::fs,j,d,cs,hb,h,i,f,hf=>by
  rw [zAp] at h
  simp only [List.all_cons,Bool.and_eq_true] at hb
  obtain ⟨h1,h2⟩:=relL.split h
  cases i with
  |zero =>
   simp at hf
   subst hf
   exact zId m n g.type (d.f j) _ hb.1 h1
  |succ i =>
   have:=zGT m n fs (j+1) d _ hb.2 h2 i f (by simpa using hf)
   rwa [show j+1+i=j+(i+1) by omega] at this
end
end
theorem ac_pre {e:Ge} {P:Program} {f:FuncId} {args:List V} {r:V} {p:Prop} (hp : ∀ s w us,relL P s w args us->p) (h:p->AC e P f args r):AC e P f args r:=fun s w us hr hx he=>h (hp s w us.toList hr) s w us hr hx he
theorem zHZ {e:Ge} {P:Program} {f:FuncId} {t:TypeId} {l:List D} {args:List V} {r:V} (n:Nat) (h:l.length<=maxLen/\(0<P.cellsOf t -> ∀ i,i<l.length->LenT P n t (gD l i))->AC e P f (.sl t l::args) r):AC e P f (.sl t l::args) r:=
 ac_pre (fun s w us hr=>by
  cases us with
  |nil=>simp [relL] at hr
  |cons u us=>rw [relL,rel] at hr;exact hr.1.len n) h
theorem zEe {e:Ge} {P:Program} {f:FuncId} {t:TypeId} {d:D} {args:List V} {r:V} (n:Nat) (hb:layB P 12 t=true) (h:LenT P n t d->AC e P f (.agg (cellsV P 12 t d)::args) r):AC e P f (.agg (cellsV P 12 t d)::args) r:=
 ac_pre (fun s w us hr=>by
  cases us with
  |nil=>simp [relL] at hr
  |cons u us =>
   rw [relL,rel] at hr
   obtain ⟨⟨cs,-,h1⟩,-⟩:=hr
   exact zId 12 n t d cs.toList hb h1) h
end
section
open Go.RowKit
set_option linter.unusedSectionVars false
theorem LenT.fld {P:Program} {n:Nat} {t:TypeId} {d:D} {fs:Array Field} {f:Field} (j:Nat) (hu:P.underlying t=some (.struct fs)) (hf:fs[j]? = some f) (h:LenT P (n+1) t d):LenT P n f.type (d.f j):=by
 unfold LenT at h
 rw [hu] at h
 exact h j f hf
theorem LenT.lst {P:Program} {n:Nat} {t e:TypeId} {d:D} (hu:P.underlying t=some (.slice e)) (h:LenT P (n+1) t d):d.l.length<=maxLen/\(0<P.cellsOf e -> ∀ i,i<d.l.length->LenT P n e (gD d.l i)):=by
 unfold LenT at h
 rw [hu] at h
 exact h
theorem len_ref {n:Nat} {d:D} (h:LenT Tryz.prog (n+2) 48 d):(d.f 1).l.length<=maxLen:=(LenT.lst (t:=46) (e:=3) (by kernel_rfl) (LenT.fld 1 (fs:=Tryz.prog.fieldsOf 48) (f:=(Tryz.prog.fieldsOf 48)[1]!) (by kernel_rfl) (by kernel_rfl) h)).1
theorem zFO {n:Nat} {d:D} (h:LenT Tryz.prog (n+2) 53 d):(d.f 3).l.length<=maxLen/\(d.f 4).l.length<=maxLen:=
 ⟨(LenT.lst (t:=51) (e:=53) (by kernel_rfl) (LenT.fld 3 (fs:=Tryz.prog.fieldsOf 53) (f:=(Tryz.prog.fieldsOf 53)[3]!) (by kernel_rfl) (by kernel_rfl) h)).1,
  (LenT.lst (t:=39) (e:=9) (by kernel_rfl) (LenT.fld 4 (fs:=Tryz.prog.fieldsOf 53) (f:=(Tryz.prog.fieldsOf 53)[4]!) (by kernel_rfl) (by kernel_rfl) h)).1⟩
attribute [local irreducible] wpList Calls Code.wp AW AWo OpOk seqK zz z8 loopK endK AC zl Yld Sub
attribute [local irreducible] ACB ACX ACE absLexG YldG absLexH
theorem wrapsU_ac (l:List D):AC EN5 Tryz.prog 130 [.sl 3 l,.sl 3 l] (.c (.bool true)):=by
 refine zHZ 1 fun hl => ?_
 have hl:l.length<=9223372036854775807:=hl.1
 have f0:((l.length:Int) != (l.length:Int))=false:=by simp
 refine zN 26 Tryz.func130 rfl rfl rfl rfl ?_
 intro s w he
 repeat' (first
|apply zC
 . conv=>lhs;whnf
 . assumption
|refine zA ?_
|refine zB ?_
|refine zH ?_
|apply aw_1
 conv=>whnf
 refine ⟨?_,trivial⟩
|apply s_1
 conv=>whnf;arg 1;arg 4;arg 3;whnf
 refine ⟨?_,?_⟩
|exact trivial)
 refine zi (fun j st => ∃ i,i+j=l.length/\Sub (cx EN5 Tryz.prog s w he) st (HWr l i)) l.length ⟨0,by omega,Sub.live ⟨rfl,rfl,rfl,trivial⟩ trivial⟩ ?_
 rintro j st ⟨i,hij,hs2⟩
 refine zg hs2 ?_
 clear hs2
 by_cases hi:i<l.length
 . have f1:decide ((i:Int)<(l.length:Nat))=true:=decide_eq_true (by omega)
   have f2:((gD l i).n != (gD l i).n)=false:=by simp
   repeat' (first
|apply zG
 . conv=>lhs;whnf
 . assumption
|apply zC
 . conv=>lhs;whnf
 . assumption
|refine zA ?_
|refine zB ?_
|refine zH ?_
|refine zR ?_
|apply aw_1
 conv=>whnf
 refine ⟨?_,trivial⟩
|apply s_1
 conv=>whnf;arg 1;arg 4;arg 3;whnf
 refine ⟨?_,?_⟩
|apply zAF (by kernel_rfl) (by kernel_rfl)
|apply zAs
|apply zAr rfl
 . conv=>lhs;whnf
 . conv=>lhs;whnf;arg 2;whnf
|exact zk
|exact zv
|exact (1000000:Nat)
|exact trivial)
   all_goals first
    |exact zU (by omega)
    |exact zAI hi
    |exact zI (j':=j-1) (by omega) ⟨i+1,by omega,Sub.live ⟨rfl,rfl,rfl,trivial⟩ trivial⟩
 . have f1:decide ((i:Int)<(l.length:Nat))=false:=decide_eq_false (by omega)
   repeat' (first
|apply zC
 . conv=>lhs;whnf
 . assumption
|refine zA ?_
|refine zB ?_
|refine zH ?_
|apply aw_1
 conv=>whnf
 refine ⟨?_,trivial⟩
|apply s_1
 conv=>whnf;arg 1;arg 4;arg 3;whnf
 refine ⟨?_,?_⟩
|refine zM ?_
|refine zK rfl ?_
|refine zJ ?_
|refine zE ?_
|refine ⟨_,by conv=>lhs;whnf;arg 2;whnf,?_⟩;conv=>rhs;whnf
|exact trivial)
theorem refU_ac (d:D):AC EN5 Tryz.prog 65 [.agg (cellsV Tryz.prog 12 48 d),.agg (cellsV Tryz.prog 12 48 d)] (.c (.bool true)):=by
 have h:=wrapsU_ac (d.f 1).l
 have f0:((d.f 0).s.toList==(d.f 0).s.toList)=true:=by simp
 have k0:(((d.f 0).s.toList==(d.f 0).s.toList)==true)=false->False:=fun h=>by rw [f0] at h;cases h
 refine zN 17 Tryz.func65 rfl rfl rfl rfl ?_
 intro s w he
 repeat' (first
|exact (k0 ‹_›).elim
|refine zA ?_
|refine zB ?_
|refine zH ?_
|apply aw_1
 conv=>whnf
 refine ⟨?_,trivial⟩
|apply zq rfl rfl
 . conv=>lhs;whnf
 . conv=>lhs;whnf
 . first | exact bT1 ‹_› | exact bT2 ‹_›
|apply s_1
 conv=>whnf;arg 1;arg 4;arg 3;whnf
 refine ⟨?_,?_⟩
|apply zAL rfl rfl rfl rfl
 . conv=>lhs;whnf;arg 1;whnf
 . rfl
|apply zL rfl
 . conv=>lhs;whnf
 . conv=>lhs;whnf
 . first | rfl | assumption
 . conv=>lhs;whnf;arg 2;whnf
|apply zY rfl
 . conv=>lhs;whnf
 . conv=>lhs;whnf
 . first | rfl | assumption
 . conv=>lhs;whnf
 . first | exact h
|apply zF rfl
 . conv=>lhs;whnf
 . conv=>lhs;whnf
 . conv=>lhs;whnf;arg 2;whnf
|refine zE ?_
|refine ⟨_,by conv=>lhs;whnf;arg 2;whnf,?_⟩;conv=>rhs;whnf
|exact trivial
|intro hg)
end
section
open Go.RowKit
set_option linter.unusedSectionVars false
theorem len_dir {n:Nat} {d:D} (h:LenT Tryz.prog (n+2) 108 d):(d.f 1).l.length<=maxLen:=(LenT.lst (t:=106) (e:=111) (by kernel_rfl) (LenT.fld 1 (fs:=Tryz.prog.fieldsOf 108) (f:=(Tryz.prog.fieldsOf 108)[1]!) (by kernel_rfl) (by kernel_rfl) h)).1
theorem len_def {n:Nat} {d:D} (h:LenT Tryz.prog (n+2) 45 d):(d.f 4).l.length<=maxLen/\(d.f 5).l.length<=maxLen:=
 ⟨(LenT.lst (t:=41) (e:=50) (by kernel_rfl) (LenT.fld 4 (fs:=Tryz.prog.fieldsOf 45) (f:=(Tryz.prog.fieldsOf 45)[4]!) (by kernel_rfl) (by kernel_rfl) h)).1,
  (LenT.lst (t:=42) (e:=79) (by kernel_rfl) (LenT.fld 5 (fs:=Tryz.prog.fieldsOf 45) (f:=(Tryz.prog.fieldsOf 45)[5]!) (by kernel_rfl) (by kernel_rfl) h)).1⟩
theorem len_doc {n:Nat} {d:D} (h:LenT Tryz.prog (n+2) 25 d):(d.f 0).l.length<=maxLen:=(LenT.lst (t:=23) (e:=45) (by kernel_rfl) (LenT.fld 0 (fs:=Tryz.prog.fieldsOf 25) (f:=(Tryz.prog.fieldsOf 25)[0]!) (by kernel_rfl) (by kernel_rfl) h)).1
attribute [local irreducible] wpList Calls Code.wp AW AWo OpOk seqK zz z8 loopK endK AC zl Yld Sub
attribute [local irreducible] ACB ACX ACE absLexG YldG absLexH
theorem eqs_f (s:ByteArray):(!(s.toList==s.toList))=false:=by simp
theorem zJW (s:ByteArray) (h:((!(s.toList==s.toList))==false)=false):False:=by simp at h
theorem zDZ (n:Int):(n != n)=false:=by simp
theorem eqn_k (n:Int) (h:((n != n)==false)=false):False:=by simp at h
theorem eqb_k (b:Bool) (h:((b != b)==false)=false):False:=by cases b<;>cases h
theorem eqt_k (h:((!true)==false)=false):False:=by cases h
theorem zFv:(!true)=false:=rfl
end
end Go.Proofs.YthppafnlnnpciaaGreatDoor
