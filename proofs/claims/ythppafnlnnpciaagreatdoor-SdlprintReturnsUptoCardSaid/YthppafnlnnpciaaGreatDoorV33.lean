import Derived.Test.YthppafnlnnpciaaGreatDoorV32
set_option maxHeartbeats 8000000
set_option maxRecDepth 100000
set_option linter.unusedVariables false
set_option linter.unusedSimpArgs false
namespace Go.Proofs.YthppafnlnnpciaaGreatDoor
section
open Go.RowKit
set_option linter.unusedSectionVars false
section
variable {X:Cx} {nn:Nat} {st:Vst nn} {o:Oper} {ops:Array Oper} {l:List Oper} {dst:Option Tmp} {KK:Vst nn->Prop}
theorem s_max {k:IntKind} {a b:Int} {x y:Operand} {ts:Array TypeId} (hg:o.guard=none) (ho:o.op = .call { callee:=.builtin .max,args:=#[x,y],argTypes:=ts }) (hd:o.dst=dst) (hx:ev st x = .c (.int k a)) (hy:ev st y = .c (.int k b)) (hK:AWo X ops l (st.put dst (.c (.int k (if a<b then b else a)))) KK):AWo X ops (o::l) st KK:=by
 refine zAC hg ?_
 intro s w a' hI N Q hP hN
 have r1:=hI.ev x
 have r2:=hI.ev y
 rw [hx,rel] at r1
 rw [hy,rel] at r2
 have h1:(execOp a'.eval o).run X.P w = .ok (.value (.int k (if a<b then b else a))) w:=by
  simp [execOp,ho,resolve,invoke,builtin,Builtin.max_,Builtin.max2,r1.1,r2.1]
 unfold Oper.wp
 rw [h1,Oper.upon_value]
 refine hN _ _ _ _ (hI.put o.dst ?_) (by rw [hd];exact hK)
 rw [rel]
 refine ⟨rfl,?_⟩
 split
 . exact r2.2
 . exact r1.2
end
attribute [local irreducible] wpList Calls Code.wp AW AWo OpOk seqK zz z8 loopK endK AC zl Yld Sub
attribute [local irreducible] ACB ACX ACE absLexG YldG
structure BkIn (d:D) (B:Nat):Prop where
 text:(d.f 2).s.size<=B
 keys:(d.f 4).l.length<=B
 items:(d.f 3).l.length<=B
 at_ : ∀ i,i<(d.f 3).l.length->bulkD (gD (d.f 3).l i)<bulkD d
 key : ∀ i,i<(d.f 4).l.length->(gD (d.f 4).l i).s.size<=B
theorem zFm : ∀ l:List D,l.length<=bulkL l
 |[]=>Nat.le_refl _
 |x::r=>by
  have:=zFm r
  have:=zAl x
  simp only [bulkL,List.length_cons];omega
theorem bk_in {d:D} {B:Nat} (h:bulkD d<=B):BkIn d B:=by
 have h0:=zb d
 have h2:=zAX (d.f 2)
 have h2':=wD_f d 2
 have h3:=zn (d.f 3)
 have h3':=wD_f d 3
 have h4:=zn (d.f 4)
 have h4':=wD_f d 4
 have l3:=zFm (d.f 3).l
 have l4:=zFm (d.f 4).l
 refine ⟨by omega,by omega,by omega,fun i hi=>by have:=zBq hi;omega,fun i hi => ?_⟩
 have:=zBq hi
 have:=zAX (gD (d.f 4).l i)
 have:=zb (gD (d.f 4).l i)
 omega
theorem zJu : ∀ (k:Nat) (d:D),sizeR k d<=bulkD d
 |0,d=>zAl d
 |k+1,d=>by
  have h:=zCi (f:=fun i=>sizeR k (gD (d.f 3).l i)) (g:=fun i=>bulkD (gD (d.f 3).l i)) (n:=(d.f 3).l.length) fun i _=>zJu k _
  rw [<- zAg] at h
  have h3:=zn (d.f 3)
  have h3':=wD_f d 3
  have h0:=zb d
  show 1+sumN (fun i=>sizeR k (gD (d.f 3).l i)) (d.f 3).l.length<=_
  omega
theorem maxN_le {g:Nat->Nat} {B:Nat} : ∀ {n:Nat},(∀ i,i<n->g i<=B)->maxN g n<=B
 |0,_=>Nat.zero_le _
 |n+1,h=>Nat.max_le.2 ⟨maxN_le fun i hi=>h i (by omega),h n (by omega)⟩
theorem zIa : ∀ (k:Nat) (d:D),depthR k d<=bulkD d
 |0,d=>zAl d
 |k+1,d=>by
  have h:maxN (fun i=>depthR k (gD (d.f 3).l i)) (d.f 3).l.length<=bulkL (d.f 3).l:=maxN_le fun i hi=>Nat.le_trans (zIa k _) (zAE hi)
  have h3:=zn (d.f 3)
  have h3':=wD_f d 3
  have h0:=zb d
  show maxN (fun i=>depthR k (gD (d.f 3).l i)) (d.f 3).l.length+1<=_
  omega
theorem max_i (a b:Nat):(if (a:Int)<(b:Int) then (b:Int) else (a:Int))=((max a b:Nat):Int):=by
 split<;>omega
end
section
def tw:List Tok->Nat
 |[]=>0
 |t::r=>t.s.length+40+tw r
def Bd {α:Type} (μ:α->Nat) (N:Nat) (r:PR α):Prop:=∀ v y,r = .ok (v,y)->μ v+tw y.ts<=N
section
variable {α β:Type} {μ:α->Nat} {ν:β->Nat} {N M:Nat}
theorem Bd.okk {v:α} {y:PS} (h:μ v+tw y.ts<=N):Bd μ N (.ok (v,y):PR α):=fun _ _ e=>by cases e;exact h
theorem Bd.err {e:Nat × Int}:Bd μ N (.error e:PR α):=fun _ _ h=>by cases h
theorem Bd.ite {c:Prop} [Decidable c] {a b:PR α} (h1:c->Bd μ N a) (h2 : ¬ c->Bd μ N b):Bd μ N (if c then a else b):=by
 split
 . exact h1 ‹_›
 . exact h2 ‹_›
theorem Bd.then {r:PR α} {f:α->PS->PR β} (h:Bd μ N r) (hf : ∀ a x,μ a+tw x.ts<=N->Bd ν M (f a x)):Bd ν M (thenQ r f):=by
 cases hr:r with
 |error e =>
  rw [zw (r:=.error e) rfl]
  exact .err
 |ok p =>
  obtain ⟨a,x⟩:=p
  rw [zX (r:=.ok (a,x)) rfl]
  exact hf a x (h a x hr)
end
def sl (s:List UInt8):Nat:=s.length+40
section
variable {v:PS->PR D} (hv : ∀ y,Bd bulkD (tw y.ts) (v y))
include hv
end
end
section
def Hr {α:Type} (Q:α->PS->Prop) (r:PR α):Prop:=∀ v z,r = .ok (v,z)->Q v z
section
variable {α β:Type} {Q:α->PS->Prop} {R:β->PS->Prop}
theorem Hr.okk {v:α} {z:PS} (h:Q v z):Hr Q (.ok (v,z):PR α):=fun _ _ e=>by cases e;exact h
theorem Hr.err {e:Nat × Int}:Hr Q (.error e:PR α):=fun _ _ h=>by cases h
theorem Hr.ite {c:Prop} [Decidable c] {a b:PR α} (h1:c->Hr Q a) (h2 : ¬ c->Hr Q b):Hr Q (if c then a else b):=by
 split
 . exact h1 ‹_›
 . exact h2 ‹_›
theorem Hr.then {r:PR α} {f:α->PS->PR β} (h:Hr Q r) (hf : ∀ a x,Q a x->Hr R (f a x)):Hr R (thenQ r f):=by
 cases hr:r with
 |error e =>
  rw [zw (r:=.error e) rfl]
  exact .err
 |ok p =>
  obtain ⟨a,x⟩:=p
  rw [zX (r:=.ok (a,x)) rfl]
  exact hf a x (h a x hr)
theorem Hr.mono {r:PR α} {Q':α->PS->Prop} (h:Hr Q r) (hq : ∀ a x,Q a x->Q' a x):Hr Q' r:=fun v z e=>hq v z (h v z e)
end
def GT (x:PS):Prop:=∀ t∈x.ts,(t.k=2->nameB ⟨t.s.toArray⟩=true)/\1<=t.k/\t.k<=5
theorem GT.nx {x:PS} (h:GT x):GT (nxT x):=fun t ht=>by
 unfold nxT at ht
 split at ht
 . exact h t ht
 . exact h t (List.mem_of_mem_drop ht)
theorem nx_vr (x:PS):(nxT x).vr=x.vr:=by unfold nxT;split<;>rfl
theorem nx_nd2 (x:PS):(nxT x).nd=x.nd:=by unfold nxT;split<;>rfl
theorem GT.hd {x:PS} (h:GT x):((hdT x).k=2->nameB ⟨(hdT x).s.toArray⟩=true)/\1<=(hdT x).k/\(hdT x).k<=5:=by
 unfold hdT
 cases hx:x.ts with
 |nil=>exact ⟨fun h=>absurd h (by decide),by decide,by decide⟩
 |cons t r=>exact h t (by rw [hx];exact List.mem_cons_self ..)
structure Pv (x z:PS):Prop where
 gt:GT z
 vr:z.vr=x.vr
theorem Pv.trans {x y z:PS} (h1:Pv x y) (h2:Pv y z):Pv x z:=⟨h2.gt,h2.vr.trans h1.vr⟩
theorem GT.pv {x:PS} (h:GT x):Pv x x:=⟨h,rfl⟩
theorem GT.pvn {x:PS} (h:GT x):Pv x (nxT x):=⟨h.nx,nx_vr x⟩
theorem Pv.nx {x y:PS} (h:Pv x y):Pv x (nxT y):=h.trans h.gt.pvn
theorem name_rt {x:PS} (h:GT x):Hr (fun n z=>nameB ⟨n.toArray⟩=true/\Pv x z/\z.nd=x.nd) (nameQ x):=by
 unfold nameQ
 exact .ite (fun hk => .okk ⟨h.hd.1 hk,h.pvn,nx_nd2 x⟩) fun _ => .err
structure VOk (lv:Nat) (vr:Bool) (n0:Nat) (v:D) (n1:Nat):Prop where
 sz : ∀ k,Dp k v->sizeR k v+n0=n1
 dp : ∀ k,Dp k v->depthR k v+lv<=25
 ev : ∀ k,Dp k v->everyL k v=true
 br:vr=false -> ∀ k,Dp k v->bareR k v=true
structure CH (lv:Nat) (vr:Bool) (n0:Nat) (l:List D) (n1:Nat):Prop where
 sz : ∀ k,(∀ i,i<l.length->Dp k (gD l i))->sumN (fun i=>sizeR k (gD l i)) l.length+n0=n1
 dp : ∀ i,i<l.length -> ∀ k,Dp k (gD l i)->depthR k (gD l i)+lv<=25
 ev : ∀ i,i<l.length -> ∀ k,Dp k (gD l i)->everyL k (gD l i)=true
 br:vr=false -> ∀ i,i<l.length -> ∀ k,Dp k (gD l i)->bareR k (gD l i)=true
theorem CH.nil {lv:Nat} {vr:Bool} {n:Nat}:CH lv vr n [] n:=
 ⟨fun k _=>by simp [sumN],fun i hi=>absurd hi (Nat.not_lt_zero i),fun i hi=>absurd hi (Nat.not_lt_zero i),fun _ i hi=>absurd hi (Nat.not_lt_zero i)⟩
section
variable {val:PS->PR D} {lv n0:Nat} {vr:Bool} (hv : ∀ y,GT y->y.vr=vr->y.nd<=4096->Hr (fun v z=>Pv y z/\VOk lv vr y.nd v z.nd/\z.nd<=4096) (val y))
include hv
end
def Al (p:D->Bool) (l:List D):Prop:=∀ i,i<l.length->p (gD l i)=true
theorem Al.nil {p:D->Bool}:Al p []:=fun i hi=>absurd hi (Nat.not_lt_zero i)
theorem Hr.name {β:Type} {R:β->PS->Prop} {x:PS} {f:List UInt8->PS->PR β} (h:GT x) (hf : ∀ n z,(hdT x).k=2->nameB ⟨n.toArray⟩=true->Pv x z->Hr R (f n z)):Hr R (thenQ (nameQ x) f):=by
 by_cases hk:(hdT x).k=2
 . exact .then (name_rt h) fun n z hz=>hf n z hk hz.1 hz.2.1
 . unfold nameQ
   rw [if_neg hk]
   exact .err
end
section
abbrev KS:=List (Int × List UInt8)
theorem letB_u : ∀ c:UInt8,letB (c.toNat:Int)=true->letU c=true:=fun c =>
 zEd (p:=fun c=>letB (c.toNat:Int)=true->letU c=true) (by decide +kernel) c
theorem wrdB_u : ∀ c:UInt8,(letB (c.toNat:Int)||digB (c.toNat:Int))=true->wrdU c=true:=fun c =>
 zEd (p:=fun c=>(letB (c.toNat:Int)||digB (c.toNat:Int))=true->wrdU c=true) (by decide +kernel) c
theorem name_u {s:ByteArray} (h:nameB s=true):nameU (tx s)=true:=by
 unfold nameB at h
 have h:=of_decide_eq_true h
 obtain ⟨h1,h2,h3,h4⟩:=h
 have hl:=zA0 s
 have hb : ∀ i,i<s.size->wrdU ((tx s).getD i 0)=true:=fun i hi=>wrdB_u _ (h4 i hi)
 have h0:=h4 0 h1
 rw [h3,Bool.or_false] at h0
 have h5:letU ((tx s).getD 0 0)=true:=letB_u _ h0
 generalize tx s=t at hl hb h5
 cases t with
 |nil=>simp at hl;omega
 |cons c q =>
  simp only [List.length_cons] at hl
  simp only [nameU,Bool.and_eq_true,decide_eq_true_eq]
  refine ⟨⟨h5,List.all_eq_true.2 fun x hx => ?_⟩,by omega⟩
  obtain ⟨i,hi,rfl⟩:=List.getElem_of_mem hx
  have:=hb (i+1) (by omega)
  rw [List.getD_cons_succ,List.getD_eq_getElem?_getD,List.getElem?_eq_getElem hi] at this
  exact this
theorem Pw.nm {s:ByteArray} (h:nameB s=true):Pw (tx s) [(2,tx s)]:=.name (name_u h)
def gK (g:Nat->KS) (j m:Nat):KS:=(List.range' j m).flatMap g
theorem zFW (g:Nat->KS) (j:Nat):gK g j 0=[]:=rfl
theorem zB5 (g:Nat->KS) (j m:Nat):gK g j (m+1)=g j++gK g (j+1) m:=by
 unfold gK
 rw [List.range'_succ,List.flatMap_cons]
theorem gK_last (g:Nat->KS) : ∀ m,gK g 0 (m+1)=gK g 0 m++g m:=fun m=>by
 unfold gK
 rw [List.range'_concat,List.flatMap_append]
 simp
theorem zDy (g:Nat->KS) (h : ∀ i,1<=(g i).length) : ∀ m j,m<=(gK g j m).length
 |0,_=>Nat.zero_le _
 |m+1,j=>by
  have:=zDy g h m (j+1)
  have:=h j
  rw [zB5,List.length_append]
  omega
def Gap (sep:List UInt8):Prop:=Ps sep []/\sep≠[]/\bnd sep
theorem Gap.comma:Gap commaT:=⟨(Ps.sep (c:=44) rfl).app (Ps.sep (c:=32) rfl),by decide,zAh (by decide)⟩
theorem Gap.space:Gap [32]:=⟨.sep rfl,by decide,zAh (by decide)⟩
theorem Gap.line:Gap [10]:=⟨.sep rfl,by decide,zAh (by decide)⟩
theorem Pw.gap {a b sep:List UInt8} {ka kb:KS} (h:Pw a ka) (hs:Gap sep) (k:Pw b kb):Pw (a++sep++b) (ka++kb):=by
 have h1:=h.app hs.1 ⟨hs.2.1,hs.2.2⟩
 rw [List.append_nil] at h1
 exact h1.appw k
theorem Pw.join {f:Nat->List UInt8} {g:Nat->KS} {sep:List UInt8} (hs:Gap sep) : ∀ n,(∀ i,i<n->Pw (f i) (g i))->Pw (Lib.join ((List.range n).map f) sep) (gK g 0 n)
 |0,_=>Ps.nil.w
 |n+1,h=>by
  have ih:=Pw.join (f:=f) (g:=g) hs n fun i hi=>h i (by omega)
  rw [gK_last,List.range_succ,List.map_append]
  cases n with
  |zero =>
   have e:Lib.join ((List.range 0).map f++[0].map f) sep=f 0:=by simp [Lib.join_one]
   rw [e]
   exact h 0 (by omega)
  |succ n =>
   have e:(List.range (n+1)).map f≠[]:=fun e=>by have:=congrArg List.length e;simp at this
   rw [List.map_cons,List.map_nil,zKL _ _ _ e]
   exact ih.gap hs (h (n+1) (by omega))
theorem zFK (l:List D) (f:D->List UInt8):l.map f=(List.range l.length).map fun i=>f (gD l i):=by
 apply List.ext_getElem (by simp)
 intro i h1 h2
 simp [zBp (l:=l) (i:=i) (by simpa using h1)]
def rgK (g:D->KS) (l:List D):KS:=gK (fun i=>g (gD l i)) 0 l.length
theorem Pw.joinL {f:D->List UInt8} {g:D->KS} {sep:List UInt8} (hs:Gap sep) (l:List D) (h : ∀ i,i<l.length->Pw (f (gD l i)) (g (gD l i))):Pw (Lib.join (l.map f) sep) (rgK g l):=by
 rw [zFK]
 exact Pw.join hs _ h
theorem Ps.wrap {a b:UInt8} {t:List UInt8} {k:KS} (ha:zAi a=true) (hb:zAi b=true) (h:Pw t k):Ps ([a]++t++[b]) ((1,[a])::(k++[(1,[b])])):=by
 have h1:=(Ps.sign ha).appw h
 have h2:=h1.app (Ps.sign hb) ⟨by simp,zAh (zF7 b hb).2.2⟩
 exact h2
def valK:Nat->D->KS
 |0,_=>[]
 |k+1,d =>
  if (d.f 0).n=1 then [(2,if (d.f 1).n=1 then [116,114,117,101] else [102,97,108,115,101])]
  else if (d.f 0).n=2 then [(3,Lib.itoa (d.f 1).n)]
  else if (d.f 0).n=3 then [(4,tx (d.f 2).s)]
  else if (d.f 0).n=4 then [(2,tx (d.f 2).s)]
  else if (d.f 0).n=7 then [(1,[36]),(2,tx (d.f 2).s)]
  else if (d.f 0).n=5 then (1,[91])::(gK (fun i=>valK k (gD (d.f 3).l i)) 0 (d.f 3).l.length++[(1,[93])])
  else if (d.f 0).n=6 then (1,[123])::(gK (fun i=>(2,tx (gD (d.f 4).l i).s)::(1,[58])::valK k (gD (d.f 3).l i)) 0 (d.f 3).l.length++[(1,[125])])
  else [(2,[110,117,108,108])]
structure NodeF (d:D):Prop where
 int0:(d.f 0).n=1\/(d.f 0).n=2\/(d.f 1).n=0
 txt0:(d.f 0).n=3\/(d.f 0).n=4\/(d.f 0).n=7\/tx (d.f 2).s=[]
 keys0:(d.f 0).n=6\/(d.f 4).l.length=0
 items0:(d.f 0).n=6\/(d.f 0).n=5\/(d.f 3).l.length=0
 kind:0<=(d.f 0).n/\(d.f 0).n<=7
 bool:(d.f 0).n=1->(d.f 1).n=0\/(d.f 1).n=1
 enum:(d.f 0).n=4->enumR (d.f 2).s=true
 var:(d.f 0).n=7->nameB (d.f 2).s=true
 obj:(d.f 0).n=6->(∀ i,i<(d.f 4).l.length->nameB (gD (d.f 4).l i).s=true)/\(d.f 4).l.length=(d.f 3).l.length/\(strsR d).Nodup
theorem zFp {p:D->Bool} {l:List D} (h:(l.any fun x => !p x)=false) : ∀ i,i<l.length->p (gD l i)=true:=fun i hi=>by
 rw [List.any_eq_false] at h
 have:=h _ (gD_mem hi)
 simpa using this
theorem xnode {d:D} (h:zJG d=true):NodeF d:=by
 unfold zJG nodeK at h
 simp only [Bool.and_eq_true,Bool.or_eq_true,beq_iff_eq,decide_eq_true_eq,Bool.not_eq_true',beq_eq_false_iff_ne] at h
 obtain ⟨⟨⟨⟨⟨⟨⟨⟨h1,h2⟩,h3⟩,h4⟩,h5⟩,h6⟩,h7⟩,h8⟩,h9⟩:=h
 refine ⟨?_,?_,h3,?_,h5,?_,?_,?_,?_⟩
 . rcases h1 with (h | h) | h
   . exact .inl h
   . exact .inr (.inl h)
   . exact .inr (.inr h)
 . rcases h2 with ((h | h) | h) | h
   . exact .inl h
   . exact .inr (.inl h)
   . exact .inr (.inr (.inl h))
   . exact .inr (.inr (.inr h))
 . rcases h4 with (h | h) | h
   . exact .inl h
   . exact .inr (.inl h)
   . exact .inr (.inr h)
 . intro h
   rcases h6 with (h' | h') | h'
   . exact absurd h h'
   . exact .inl h'
   . exact .inr h'
 . intro h
   rcases h7 with h' | h'
   . exact absurd h h'
   . exact h'
 . intro h
   rcases h8 with h' | h'
   . exact absurd h h'
   . exact h'
 . intro h
   rcases h9 with h' | h'
   . exact absurd h h'
   . exact ⟨zFp h'.1.1,h'.1.2,h'.2⟩
theorem zDA {k:Nat} {d:D} (h:everyL (k+1) d=true):NodeF d /\ ∀ i,i<(d.f 3).l.length->everyL k (gD (d.f 3).l i)=true:=by
 unfold everyL at h
 rw [Bool.and_eq_true,Bool.not_eq_true'] at h
 exact ⟨xnode h.1,zFp h.2⟩
theorem zIV {s:ByteArray} (h:enumR s=true):nameB s=true/\tx s≠[116,114,117,101]/\tx s≠[102,97,108,115,101]/\tx s≠[110,117,108,108]:=by
 unfold enumR at h
 simp only [Bool.and_eq_true,Bool.not_eq_true',beq_eq_false_iff_ne] at h
 exact ⟨h.1.1.1,h.1.1.2,h.1.2,h.2⟩
theorem zIt : ∀ (k:Nat) (d:D),wideD d->everyL k d=true->Pw (valT k d) (valK k d)
 |0,_,_,h=>by cases h
 |k+1,d,hw,h=>by
  obtain ⟨hn,hi⟩:=zDA h
  unfold valT valK
  split
  . split
    . exact .name rfl
    . exact .name rfl
  split
  . exact .int _ (hw.f 1).n.1 (hw.f 1).n.2
  split
  . exact (Ps.quote _).w
  split
  . exact .nm (zIV (hn.enum ‹_›)).1
  split
  . exact (Ps.sign (c:=36) rfl).appw (.nm (hn.var ‹_›))
  split
  . exact (Ps.wrap rfl rfl (Pw.join (f:=fun i=>valT k (gD (d.f 3).l i)) (g:=fun i=>valK k (gD (d.f 3).l i)) .comma _ fun i hl=>zIt k _ ((hw.f 3).l i) (hi i hl))).w
  split
  . obtain ⟨h1,h2,-⟩:=hn.obj ‹_›
    rw [show min (d.f 4).l.length (d.f 3).l.length=(d.f 3).l.length by omega]
    refine (Ps.wrap rfl rfl (Pw.join (f:=fun i=>tx (gD (d.f 4).l i).s++[58,32]++valT k (gD (d.f 3).l i)) (g:=fun i=>(2,tx (gD (d.f 4).l i).s)::(1,[58])::valK k (gD (d.f 3).l i)) .comma _ fun i hl => ?_)).w
    have p1:=(Pw.nm (h1 i (by omega))).app ((Ps.sign (c:=58) rfl).app (Ps.sep (c:=32) rfl)) ⟨by simp,zAh (by decide)⟩
    exact p1.appw (zIt k _ ((hw.f 3).l i) (hi i hl))
  . exact .name rfl
theorem valT_eq {a b:Nat} {d:D} (ha:Dp a d) (hb:Dp b d):valT a d=valT b d:=by
 rcases Nat.le_total a b with h | h
 . exact (zE3 ha h).symm
 . exact zE3 hb h
def litK (d:D):KS:=valK (bulkD d) d
theorem litT_pw {K:Nat} {d:D} (hd:Dp K d) (hw:wideD d) (h:litR d=true):Pw (valT K d) (litK d):=by
 unfold litR at h
 rw [Bool.and_eq_true] at h
 rw [valT_eq hd (zCR (bulkD d) d (Nat.le_refl _))]
 exact zIt _ _ hw h.2
def argK (a:D):KS:=(2,tx (a.f 0).s)::(1,[58])::litK (a.f 1)
def parK (l:List D):KS:=if l.length=0 then [] else (1,[40])::(rgK argK l++[(1,[41])])
def dirK (x:D):KS:=(1,[64])::(2,tx (x.f 0).s)::parK (x.f 1).l
theorem zFn {l:List D} (h:zFo l=true):l.length<=16 /\ ∀ i,i<l.length->nameB ((gD l i).f 0).s=true/\litR ((gD l i).f 1)=true:=by
 unfold zFo at h
 rw [Bool.and_eq_true,Bool.not_eq_true',decide_eq_true_eq] at h
 refine ⟨h.1,fun i hi => ?_⟩
 have:=zFp h.2 i hi
 unfold argR at this
 rwa [Bool.and_eq_true] at this
theorem zIW {l:List D} (h:zHR l=true):l.length<=16 /\ ∀ i,i<l.length->nameB ((gD l i).f 0).s=true/\zFo ((gD l i).f 1).l=true:=by
 unfold zHR at h
 rw [Bool.and_eq_true,Bool.not_eq_true',decide_eq_true_eq] at h
 refine ⟨h.1,fun i hi => ?_⟩
 have:=zFp h.2 i hi
 unfold dirR at this
 rwa [Bool.and_eq_true] at this
theorem zKt {s:ByteArray} {t:List UInt8} {k:KS} (hs:nameB s=true) (h:Pw t k):Pw (tx s++[58,32]++t) ((2,tx s)::(1,[58])::k):=by
 have p1:=(Pw.nm hs).app ((Ps.sign (c:=58) rfl).app (Ps.sep (c:=32) rfl)) ⟨by simp,zAh (by decide)⟩
 exact p1.appw h
theorem argsT_pw {K:Nat} {l:List D} (h:zFo l=true) (hd : ∀ i,i<l.length->Dp K ((gD l i).f 1)) (hw : ∀ i,wideD (gD l i)):Pw (zIj K l) (rgK argK l):=by
 unfold zIj
 exact Pw.joinL .comma l fun i hi=>zKt ((zFn h).2 i hi).1 (litT_pw (hd i hi) ((hw i).f 1) ((zFn h).2 i hi).2)
theorem parT_ps {K:Nat} {l:List D} (h:zFo l=true) (hd : ∀ i,i<l.length->Dp K ((gD l i).f 1)) (hw : ∀ i,wideD (gD l i)):Ps (parT K l) (parK l):=by
 unfold parT parK
 split
 . exact .nil
 . exact Ps.wrap rfl rfl (argsT_pw h hd hw)
theorem parT_bnd (K:Nat) (l:List D):bnd (parT K l):=by
 unfold parT
 split
 . exact zHX
 . exact zAh (by decide)
theorem dirsT_pw {K:Nat} {l:List D} (h:zHR l=true) (hd:DirsOk K l):Pw (zJZ K l) (rgK dirK l):=by
 unfold zJZ
 refine Pw.joinL .space l fun i hi => ?_
 obtain ⟨h1,h2⟩:=(zIW h).2 i hi
 have p1:=(Ps.sign (c:=64) rfl).appw (Pw.nm h1)
 exact p1.appw (parT_ps h2 (hd.args i hi).dp (hd.args i hi).wide).w (parT_bnd _ _)
theorem tailT_pw {K:Nat} {l:List D} (h:zHR l=true) (hd:DirsOk K l):Pw (zAV K l) (rgK dirK l):=by
 unfold zAV
 split
 . rename_i h0
   unfold rgK
   rw [h0]
   exact Ps.nil.w
 . exact (Ps.sep (c:=32) rfl).appw (dirsT_pw h hd)
theorem tailT_bnd (K:Nat) (l:List D):bnd (zAV K l):=by
 unfold zAV
 split
 . exact zHX
 . exact zAh (by decide)
def blkK (k:KS):KS:=(1,[123])::(k++[(1,[125])])
structure SelF (sub:List D->Nat->Prop) (d:D):Prop where
 args:zFo (d.f 4).l=true
 dirs:zHR (d.f 5).l=true
 field:(d.f 0).n=1->tx (d.f 3).s=[]/\nameB (d.f 2).s=true/\(tx (d.f 1).s=[]\/nameB (d.f 1).s=true)/\sub (d.f 6).l 0
 spread:(d.f 0).n=2->tx (d.f 3).s=[]/\tx (d.f 1).s=[]/\(d.f 4).l.length=0/\(d.f 6).l.length=0/\nameB (d.f 2).s=true/\tx (d.f 2).s≠[111,110]
 inline:(d.f 0).n=3->tx (d.f 1).s=[]/\tx (d.f 2).s=[]/\(d.f 4).l.length=0/\(tx (d.f 3).s=[]\/nameB (d.f 3).s=true)/\sub (d.f 6).l 1
 kind:(d.f 0).n=1\/(d.f 0).n=2\/(d.f 0).n=3
def SetF (sel:D->Prop) (lv:Nat) (l:List D) (least:Nat):Prop:=least<=l.length/\l.length<=64/\(l.length=0\/lv<=24) /\ ∀ i,i<l.length->sel (gD l i)
end
section
open Go.RowKit
attribute [local irreducible] wpList Calls Code.wp AW AWo OpOk seqK zz z8 loopK endK AC zl Yld Sub
structure VarsOk (K:Nat) (l:List D):Prop where
 wide : ∀ i,wideD (gD l i)
 bulk:bulkL l<=1048576
 dp : ∀ i,i<l.length->Dp K ((gD l i).f 3)
 good : ∀ i,i<l.length->goodV K ((gD l i).f 3)
structure VarSz (K:Nat) (v:D):Prop where
 name:(v.f 0).s.size<=1048576
 rname:((v.f 1).f 0).s.size<=1048576
 wraps:((v.f 1).f 1).l.length<=1048576
 rtext:(refB (tx ((v.f 1).f 0).s) ((v.f 1).f 1).l).length<=4000000
 dflt:bulkD (v.f 3)<=1048576
 dtext:(valT K (v.f 3)).length<=26000000
theorem VarsOk.sz {K:Nat} {l:List D} (h:VarsOk K l) {i:Nat} (hi:i<l.length):VarSz K (gD l i):=by
 have h0:=zAE hi
 have h0':=h.bulk
 have h1:=zBJ K ((gD l i).f 3) ((h.wide i).f 3)
 have h2:=zb ((gD l i).f 3)
 have h3:=zb (gD l i)
 have h4:=zAX ((gD l i).f 0)
 have h5:=zAJ (gD l i) 4
 have h7:=zFH (tx (((gD l i).f 1).f 0).s) (((gD l i).f 1).f 1).l
 have h8:=zAJ ((gD l i).f 1) 2
 have h9:=zAX (((gD l i).f 1).f 0)
 have h10:=zA0 (((gD l i).f 1).f 0).s
 have h11:=Nat.le_trans (zHC (((gD l i).f 1).f 1).l) (zn (((gD l i).f 1).f 1))
 simp only [sumN] at h5 h8
 refine ⟨?_,?_,?_,?_,?_,?_⟩<;>omega
end
section
open Go.RowKit
attribute [local irreducible] wpList Calls Code.wp AW AWo OpOk seqK zz z8 loopK endK AC zl Yld Sub
attribute [local irreducible] ACB absLexG YldG
structure DocOk (K f:Nat) (q:D):Prop where
 wide:wideD q
 bulk:bulkD q<=1048576
 deep:f<=299
 vars : ∀ i,i<(q.f 0).l.length->VarsOk K ((gD (q.f 0).l i).f 2).l
 sels : ∀ i,i<(q.f 0).l.length->SelsOk K (f+1) ((gD (q.f 0).l i).f 3).l
 frag : ∀ i,i<(q.f 1).l.length->SelsOk K (f+1) ((gD (q.f 1).l i).f 2).l
end
section
def refK (n:List UInt8):List D->KS
 |[]=>[(2,n)]
 |d::ds=>if d.n==1 then refK n ds++[(1,[33])] else (1,[91])::(refK n ds++[(1,[93])])
theorem zI8 {s:ByteArray} (h:nameB s=true) : ∀ l:List D,Pw (refB (tx s) l) (refK (tx s) l)
 |[] => .nm h
 |d::ds=>by
  have ih:=zI8 h ds
  unfold refB refK
  split
  . exact (ih.app (Ps.sign (c:=33) rfl) ⟨by simp,zAh (by decide)⟩).w
  . exact (Ps.wrap rfl rfl ih).w
structure VarF (v:D):Prop where
 name:nameB (v.f 0).s=true
 rname:nameB ((v.f 1).f 0).s=true
 rlen:((v.f 1).f 1).l.length<=24
 wraps:zCZ (((v.f 1).f 1).l.map D.n)=true
 has:(v.f 2).b=true->litR (v.f 3)=true/\bareR (bulkD (v.f 3)) (v.f 3)=true
 hasnt:(v.f 2).b=false->((v.f 3).f 0).n=0/\((v.f 3).f 1).n=0/\tx ((v.f 3).f 2).s=[]/\((v.f 3).f 3).l.length=0/\((v.f 3).f 4).l.length=0
structure OpF (o:D):Prop where
 kind:1<=(o.f 0).n/\(o.f 0).n<=3
 name:tx (o.f 1).s=[]\/nameB (o.f 1).s=true
 vlen:(o.f 2).l.length<=16
 vars : ∀ i,i<(o.f 2).l.length->VarF (gD (o.f 2).l i)
 sels:SetF (fun d=>selR (bulkL (o.f 3).l) 1 d=true) 1 (o.f 3).l 1
structure FragF (o:D):Prop where
 name:nameB (o.f 0).s=true
 notOn:tx (o.f 0).s≠[111,110]
 on:nameB (o.f 1).s=true
 sels:SetF (fun d=>selR (bulkL (o.f 2).l) 1 d=true) 1 (o.f 2).l 1
structure QueF (q:D):Prop where
 len:1<=(q.f 0).l.length+(q.f 1).l.length/\(q.f 0).l.length+(q.f 1).l.length<=64
 ops : ∀ i,i<(q.f 0).l.length->OpF (gD (q.f 0).l i)
 frags : ∀ i,i<(q.f 1).l.length->FragF (gD (q.f 1).l i)
def mkT (p:Int × List UInt8):Tok:=⟨p.1,p.2,0⟩
def pst (l:KS) (v:Bool) (n:Nat):PS:=⟨l.map mkT,v,n⟩
theorem zKV (k:Int) (s:List UInt8) (r:KS) (v:Bool) (n:Nat):hdT (pst ((k,s)::r) v n)=⟨k,s,0⟩:=rfl
theorem zBS {k:Int} {s:List UInt8} {r:KS} {v:Bool} {n:Nat} (h:k≠5):nxT (pst ((k,s)::r) v n)=pst r v n:=by
 unfold nxT
 rw [zKV,if_neg h]
 rfl
theorem zEY (k:Int) (s:List UInt8) (r:KS) (v:Bool) (n:Nat) (t:List UInt8):isS (pst ((k,s)::r) v n) t=(k==1&&s==t):=rfl
theorem zBI (s:List UInt8) (r:KS) (v:Bool) (n:Nat):isS (pst ((1,s)::r) v n) s=true:=by
 rw [zEY];simp
theorem zBe (s:List UInt8) (r:KS) (v:Bool) (n:Nat):takeQ s (pst ((1,s)::r) v n) = .ok ((),pst r v n):=by
 unfold takeQ
 rw [if_pos (zBI s r v n),zBS (by decide)]
theorem zA5 (s:List UInt8) (r:KS) (v:Bool) (n:Nat):nameQ (pst ((2,s)::r) v n) = .ok (s,pst r v n):=by
 unfold nameQ
 rw [zKV,if_pos rfl,zBS (by decide)]
theorem zV {α β:Type} {a:α} {x:PS} {f:α->PS->PR β}:thenQ (.ok (a,x)) f=f a x:=rfl
def nS (r:KS) (s:List UInt8):Prop:=∀ v n,isS (pst r v n) s=false
theorem zAo {k:Int} {s t:List UInt8} {r:KS} (h:(k==1&&s==t)=false):nS ((k,s)::r) t:=fun _ _=>h
theorem nS_gK {g:Nat->KS} {j m:Nat} {r:KS} {s:List UInt8} (hg : ∀ i r,nS (g i++r) s) (hr:nS r s):nS (gK g j m++r) s:=by
 cases m with
 |zero=>exact hr
 |succ m=>rw [zB5,List.append_assoc];exact hg _ _
def cnt:List Int->Nat
 |[]=>0
 |d::l=>if d=1 then cnt l else cnt l+1
theorem zD5 (d:Int) (l:List Int):cnt (d::l)=if d=1 then cnt l else cnt l+1:=rfl
theorem cnt_app (a b:List Int):cnt (a++b)=cnt a+cnt b:=by
 induction a with
 |nil=>simp [cnt]
 |cons d l ih =>
  rw [List.cons_append,zD5,zD5]
  split<;>omega
def clsK (es:List Int):KS:=es.map fun d=>(1,[if d=1 then 33 else 93])
theorem refK_eq (n:List UInt8) : ∀ ds:List D,refK n ds=List.replicate (cnt (ds.map D.n)) (1,[91])++(2,n)::clsK (ds.map D.n).reverse
 |[]=>rfl
 |d::ds=>by
  have ih:=refK_eq n ds
  unfold refK
  rw [ih,List.map_cons,List.reverse_cons,zD5]
  by_cases h:d.n=1
  . rw [if_pos (by rw [h];rfl),if_pos h]
    simp [clsK,h]
  . rw [if_neg (by simpa using h),if_neg h,List.replicate_succ]
    simp [clsK,h]
theorem cnt_rev (l:List Int):cnt l.reverse=cnt l:=by
 induction l with
 |nil=>rfl
 |cons d l ih =>
  rw [List.reverse_cons,cnt_app,ih,zD5,zD5]
  split<;>simp [cnt]
theorem zJ5 {r:KS} {v:Bool} {n:Nat} (hr:nS r [91]) : ∀ (m f:Nat),m<=f->openQ f (pst (List.replicate m (1,[91])++r) v n)=(m,pst r v n)
 |0,0,_=>rfl
 |0,f+1,_=>by
  unfold openQ
  rw [if_neg (by rw [List.replicate_zero,List.nil_append,hr];decide)]
  rfl
 |m+1,0,h=>by omega
 |m+1,f+1,h=>by
  unfold openQ
  rw [List.replicate_succ,List.cons_append,if_pos (zBI _ _ _ _),zBS (by decide),zJ5 hr m f (by omega)]
theorem zJj : ∀ {l:List Int},zCZ l=true->(∀ x∈l,x=1\/x=2) /\ ∀ p a b q,l=p++a::b::q -> ¬ (a=1/\b=1)
 |[],_=>⟨fun _ h=>absurd h (by simp),fun p a b q e=>by have:=congrArg List.length e;simp at this⟩
 |[w],h=>by
  unfold zCZ at h
  simp only [Bool.or_eq_true,beq_iff_eq] at h
  refine ⟨fun x hx => ?_,fun p a b q e => ?_⟩
  . rw [List.mem_singleton] at hx;rw [hx];exact h
  . have:=congrArg List.length e;simp at this;omega
 |w::u::r,h=>by
  unfold zCZ at h
  simp only [Bool.and_eq_true,Bool.or_eq_true,beq_iff_eq,Bool.not_eq_true',Bool.and_eq_false_iff,beq_eq_false_iff_ne] at h
  obtain ⟨⟨h1,h2⟩,h3⟩:=h
  obtain ⟨i1,i2⟩:=zJj h3
  refine ⟨fun x hx => ?_,fun p a b q e => ?_⟩
  . rcases List.mem_cons.1 hx with rfl | hx
    . exact h1
    . exact i1 x hx
  . cases p with
    |nil =>
     rw [List.nil_append] at e
     injection e with e1 e2
     injection e2 with e2 e3
     subst e1 e2
     rintro ⟨a1,a2⟩
     rcases h2 with h2 | h2
     . exact h2 a1
     . exact h2 a2
    |cons y p =>
     rw [List.cons_append] at e
     injection e with e1 e2
     exact i2 p a b q e2
theorem zFj {r:KS} {v:Bool} {n:Nat} (hr:nS r [33]) : ∀ (es w:List Int),(∀ x∈es,x=1\/x=2)->(∀ p a b q,es=p++a::b::q -> ¬ (a=1/\b=1)) ->
 closeQ (cnt es) w (pst (clsK es++r) v n) = .ok (es.reverse++w,pst r v n)
 |[],w,_,_=>by
  show closeQ 0 w (pst r v n)=_
  unfold closeQ
  rw [if_neg (by rw [hr];decide)]
  rfl
 |[d],w,h,_=>by
  rcases h d (by simp) with rfl | rfl
  . show closeQ 0 w (pst ((1,[33])::r) v n)=_
    unfold closeQ
    rw [if_pos (zBI _ _ _ _),zBS (by decide)]
    rfl
  . show closeQ 1 w (pst ((1,[93])::r) v n)=_
    unfold closeQ
    rw [if_neg (by rw [zEY];decide),if_neg (by rw [zEY];decide),zBe,zV]
    unfold closeQ
    rw [if_neg (by rw [hr];decide)]
    rfl
 |d::e::es,w,h,ha=>by
  rcases h d (by simp) with rfl | rfl
  . have he:e=2:=by
     rcases h e (by simp) with h' | h'
     . exact absurd ⟨rfl,h'⟩ (ha [] 1 e es rfl)
     . exact h'
    subst he
    have ih:=zFj (v:=v) (n:=n) hr es (2::1::w) (fun x hx=>h x (by simp [hx])) (fun p a b q e'=>ha (1::2::p) a b q (by rw [e'];rfl))
    show closeQ (cnt es+1) w (pst ((1,[33])::(1,[93])::(clsK es++r)) v n)=_
    unfold closeQ
    rw [if_pos (zBI _ _ _ _),if_pos (zBI _ _ _ _),zBS (by decide),zBe,zV,ih]
    simp
  . have ih:=zFj (v:=v) (n:=n) hr (e::es) (2::w) (fun x hx=>h x (by simp at hx |-;exact .inr hx)) (fun p a b q e'=>ha (2::p) a b q (by rw [e'];rfl))
    show closeQ (cnt (e::es)+1) w (pst ((1,[93])::(clsK (e::es)++r)) v n)=_
    unfold closeQ
    rw [if_neg (by rw [zEY];decide),if_neg (by rw [zEY];decide),zBe,zV,ih]
    simp
theorem typ_pst {nm:List UInt8} {ds:List D} {r:KS} {v:Bool} {n:Nat} (hw:zCZ (ds.map D.n)=true) (hl:ds.length<=24) (hr:nS r [33]):typQ (pst (refK nm ds++r) v n) = .ok (refD nm (ds.map D.n),pst r v n):=by
 obtain ⟨h1,h2⟩:=zJj hw
 have e:refK nm ds++r=List.replicate (cnt (ds.map D.n)) (1,[91])++(2,nm)::(clsK (ds.map D.n).reverse++r):=by rw [refK_eq];simp
 have ho:=zJ5 (r:=(2,nm)::(clsK (ds.map D.n).reverse++r)) (v:=v) (n:=n) (zAo rfl) (cnt (ds.map D.n)) (pst (refK nm ds++r) v n).ts.length (by rw [e];simp [pst])
 have hc:=zFj (v:=v) (n:=n) hr (ds.map D.n).reverse [] (fun x hx=>h1 x (by simpa using hx)) (fun p a b q e'=>fun hab=>by
  have e2:ds.map D.n=q.reverse++b::a::p.reverse:=by have:=congrArg List.reverse e';simpa using this
  exact h2 _ _ _ _ e2 ⟨hab.2,hab.1⟩)
 rw [cnt_rev] at hc
 unfold typQ zA7
 rw [e] at ho |-
 rw [ho]
 dsimp only
 rw [zA5,zV,hc,zV,zV]
 dsimp only
 rw [if_neg (by simp;omega)]
 simp
def cnV:Nat->D->D
 |0,d=>d
 |k+1,d=>valD (d.f 0).n (d.f 1).n (tx (d.f 2).s) ((List.range (d.f 3).l.length).map fun i=>cnV k (gD (d.f 3).l i)) (strsR d)
theorem zKu (k:Nat) (d:D):cnV (k+1) d=valD (d.f 0).n (d.f 1).n (tx (d.f 2).s) ((List.range (d.f 3).l.length).map fun i=>cnV k (gD (d.f 3).l i)) (strsR d):=rfl
def cL (d:D):D:=cnV (bulkD d) d
theorem zBx {f lv:Nat} {kk:Int} {s:List UInt8} {r:KS} {v:Bool} {n:Nat} (h0:zCN (pst ((kk,s)::r) v n)=false) (hk:kk≠5) (hlv:lv<=24) (hn:n<4096) :
 valueQ (f+1) lv (pst ((kk,s)::r) v n)=(if kk=3 then .ok (valD 2 (numQ s) [] [] [],pst r v (n+1)) else if kk=4 then .ok (valD 3 0 s [] [],pst r v (n+1)) else if kk=2 then .ok (zDg s,pst r v (n+1))
  else if s=[36] then thenQ (nameQ (pst r v (n+1))) (fun n z => .ok (valD 7 0 n [] [],z))
  else if s=[91] then thenQ (itemsQ (valueQ f (lv+1)) (r.length+1) [] (pst r v (n+1))) (fun l z => .ok (valD 5 0 [] l [],z))
  else thenQ (zAG (valueQ f (lv+1)) (r.length+1) [] [] (pst r v (n+1))) (fun l z => .ok (valD 6 0 [] l.2 l.1,z))):=by
 have hy:({ nxT (pst ((kk,s)::r) v n) with nd:=n+1 }:PS)=pst r v (n+1):=by rw [zBS hk];rfl
 have hlen:(pst r v (n+1)).ts.length=r.length:=by simp [pst]
 unfold valueQ
 rw [show (pst ((kk,s)::r) v n).nd=n from rfl,if_neg (by rw [h0];decide),if_neg (by omega),if_neg (show ¬ 4096<=n by omega)]
 dsimp only
 rw [hy,zKV,zBS hk]
 dsimp only
 rw [show (pst r v n).ts.length=r.length by simp [pst]]
theorem zIK {val:PS->PR D} {g:Nat->KS} {c:Nat->D} {sz:Nat->Nat} {v:Bool} {n0 N:Nat} (hval : ∀ i r,i<N->val (pst (g i++r) v (n0+sumN sz i)) = .ok (c i,pst r v (n0+sumN sz (i+1))))
 (hfst : ∀ i r n,i<N->isS (pst (g i++r) v n) [93]=false) : ∀ (m j f:Nat) (r:KS),j+m=N->m<f ->
 itemsQ val f ((List.range j).map c) (pst (gK g j m++(1,[93])::r) v (n0+sumN sz j)) = .ok ((List.range N).map c,pst r v (n0+sumN sz N))
 |_,_,0,_,_,hf=>by omega
 |0,j,f+1,r,hj,_=>by
  have e:j=N:=by omega
  subst e
  unfold itemsQ
  rw [zFW,List.nil_append,if_pos (zBI _ _ _ _),zBS (by decide)]
 |m+1,j,f+1,r,hj,hf=>by
  have ih:=zIK hval hfst m (j+1) f r (by omega) (by omega)
  unfold itemsQ
  rw [zB5,List.append_assoc,if_neg (by rw [hfst j _ _ (by omega)];decide),hval j _ (by omega),zV]
  rw [List.range_succ,List.map_append] at ih
  exact ih
theorem zGS {val:PS->PR D} {g:Nat->KS} {c:Nat->D} {key:Nat->List UInt8} {sz:Nat->Nat} {v:Bool} {n0 N:Nat} (hval : ∀ i r,i<N->val (pst (g i++r) v (n0+sumN sz i)) = .ok (c i,pst r v (n0+sumN sz (i+1))))
 (hnd : ∀ i j,i<j->j<N->key i≠key j) : ∀ (m j f:Nat) (r:KS),j+m=N->m<f ->
 zAG val f ((List.range j).map key) ((List.range j).map c) (pst (gK (fun i=>(2,key i)::(1,[58])::g i) j m++(1,[125])::r) v (n0+sumN sz j)) = .ok (((List.range N).map key,(List.range N).map c),pst r v (n0+sumN sz N))
 |_,_,0,_,_,hf=>by omega
 |0,j,f+1,r,hj,_=>by
  have e:j=N:=by omega
  subst e
  unfold zAG
  rw [zFW,List.nil_append,if_pos (zBI _ _ _ _),zBS (by decide)]
 |m+1,j,f+1,r,hj,hf=>by
  have ih:=zGS hval hnd m (j+1) f r (by omega) (by omega)
  have hc:((List.range j).map key).contains (key j)=false:=by
   simp only [List.contains_eq_mem,decide_eq_false_iff_not,List.mem_map,List.mem_range]
   rintro ⟨i,hi,e⟩
   exact hnd i j hi (by omega) e
  unfold zAG
  rw [zB5,List.append_assoc,List.cons_append,List.cons_append,if_neg (by rw [zEY];simp),zA5,zV,if_neg (by rw [hc];decide),zBe,zV,hval j _ (by omega),zV]
  rw [List.range_succ,List.map_append,List.map_append] at ih
  exact ih
theorem zKE {f:Nat->Nat} : ∀ {n i:Nat},i<n->f i<=maxN f n
 |0,_,h=>by omega
 |n+1,i,h=>by
  unfold maxN
  by_cases e:i=n
  . subst e;omega
  . have:=zKE (f:=f) (n:=n) (i:=i) (by omega);omega
theorem zJr {d:D} (h:(d.f 4).l.length=0):strsR d=[]:=by
 unfold strsR
 rw [List.length_eq_zero_iff.1 h];rfl
theorem zDD {k:Nat} {d:D} (h:(d.f 3).l.length=0) (h2:(d.f 4).l.length=0):cnV (k+1) d=valD (d.f 0).n (d.f 1).n (tx (d.f 2).s) [] []/\sizeR (k+1) d=1:=by
 unfold cnV sizeR
 rw [h,zJr h2]
 exact ⟨rfl,rfl⟩
theorem zJo {k:Nat} {d:D} (h:everyL k d=true) : ∃ kk s t,valK k d=(kk,s)::t/\(kk==1&&s==[93])=false:=by
 cases k with
 |zero=>cases h
 |succ k =>
  unfold valK
  repeat' split
  all_goals exact ⟨_,_,_,rfl,rfl⟩
theorem zHd : ∀ (k f lv:Nat) (d:D) (r:KS) (v:Bool) (n:Nat),everyL k d=true->wideD d->lv+depthR k d<=25->depthR k d<=f->n+sizeR k d<=4096->(v=false->bareR k d=true) ->
 valueQ f lv (pst (valK k d++r) v n) = .ok (cnV k d,pst r v (n+sizeR k d))
 |0,_,_,_,_,_,_,h,_,_,_,_,_=>by cases h
 |k+1,f,lv,d,r,v,n,h,hw,hlv,hf,hn,hb=>by
  obtain ⟨hN,hi⟩:=zDA h
  have hd1:1<=depthR (k+1) d:=by unfold depthR;omega
  have hs1:1<=sizeR (k+1) d:=by unfold sizeR;omega
  obtain ⟨f,rfl⟩ : ∃ q,f=q+1:=⟨f-1,by omega⟩
  have hdep : ∀ i,i<(d.f 3).l.length->depthR k (gD (d.f 3).l i)+1<=depthR (k+1) d:=fun i hl=>by
   have:=zKE (f:=fun i=>depthR k (gD (d.f 3).l i)) hl
   have e:depthR (k+1) d=maxN (fun i=>depthR k (gD (d.f 3).l i)) (d.f 3).l.length+1:=rfl
   omega
  have hsz:sizeR (k+1) d=1+sumN (fun i=>sizeR k (gD (d.f 3).l i)) (d.f 3).l.length:=rfl
  have hbar:v=false->(d.f 0).n≠7 /\ ∀ i,i<(d.f 3).l.length->bareR k (gD (d.f 3).l i)=true:=fun e=>by
   have:=hb e
   unfold bareR at this
   simp only [Bool.and_eq_true,Bool.not_eq_true',beq_eq_false_iff_ne] at this
   exact ⟨this.1,zFp this.2⟩
  have hval : ∀ i r,i<(d.f 3).l.length->valueQ f (lv+1) (pst (valK k (gD (d.f 3).l i)++r) v (n+1+sumN (fun i=>sizeR k (gD (d.f 3).l i)) i)) = .ok (cnV k (gD (d.f 3).l i),pst r v (n+1+sumN (fun i=>sizeR k (gD (d.f 3).l i)) (i+1))):=fun i r hl=>by
   have h1:=hdep i hl
   have h2:=zAt (fun i=>sizeR k (gD (d.f 3).l i)) (show i+1<=(d.f 3).l.length by omega)
   have h3:sumN (fun i=>sizeR k (gD (d.f 3).l i)) (i+1)=sumN (fun i=>sizeR k (gD (d.f 3).l i)) i+sizeR k (gD (d.f 3).l i):=rfl
   rw [zHd k f (lv+1) _ r v _ (hi i hl) ((hw.f 3).l i) (by omega) (by omega) (by omega) fun e=>(hbar e).2 i hl,h3,Nat.add_assoc (n+1)]
  by_cases k1:(d.f 0).n=1
  . have i0:(d.f 3).l.length=0:=by rcases hN.items0 with e | e | e<;>omega
    have q0:(d.f 4).l.length=0:=by rcases hN.keys0 with e | e<;>omega
    have t0:tx (d.f 2).s=[]:=by rcases hN.txt0 with e | e | e | e<;>first | omega | exact e
    obtain ⟨e1,e2⟩:=zDD (k:=k) i0 q0
    rw [e1,e2,t0,k1]
    unfold valK
    rw [if_pos k1,List.cons_append,List.nil_append,zBx rfl (by decide) (by omega) (by omega),if_neg (by decide),if_neg (by decide),if_pos rfl]
    rcases hN.bool k1 with e | e
    . rw [e,if_neg (by decide)];rfl
    . rw [e,if_pos rfl];rfl
  by_cases k2:(d.f 0).n=2
  . have i0:(d.f 3).l.length=0:=by rcases hN.items0 with e | e | e<;>omega
    have q0:(d.f 4).l.length=0:=by rcases hN.keys0 with e | e<;>omega
    have t0:tx (d.f 2).s=[]:=by rcases hN.txt0 with e | e | e | e<;>first | omega | exact e
    obtain ⟨e1,e2⟩:=zDD (k:=k) i0 q0
    rw [e1,e2,t0,k2]
    unfold valK
    rw [if_neg k1,if_pos k2,List.cons_append,List.nil_append,zBx rfl (by decide) (by omega) (by omega),if_pos rfl]
    unfold numQ
    rw [zJ8 _ (hw.f 1).n.1 (hw.f 1).n.2]
  by_cases k3:(d.f 0).n=3
  . have i0:(d.f 3).l.length=0:=by rcases hN.items0 with e | e | e<;>omega
    have q0:(d.f 4).l.length=0:=by rcases hN.keys0 with e | e<;>omega
    have n0:(d.f 1).n=0:=by rcases hN.int0 with e | e | e<;>omega
    obtain ⟨e1,e2⟩:=zDD (k:=k) i0 q0
    rw [e1,e2,n0,k3]
    unfold valK
    rw [if_neg k1,if_neg k2,if_pos k3,List.cons_append,List.nil_append,zBx rfl (by decide) (by omega) (by omega),if_neg (by decide),if_pos rfl]
  by_cases k4:(d.f 0).n=4
  . have i0:(d.f 3).l.length=0:=by rcases hN.items0 with e | e | e<;>omega
    have q0:(d.f 4).l.length=0:=by rcases hN.keys0 with e | e<;>omega
    have n0:(d.f 1).n=0:=by rcases hN.int0 with e | e | e<;>omega
    obtain ⟨-,w1,w2,w3⟩:=zIV (hN.enum k4)
    obtain ⟨e1,e2⟩:=zDD (k:=k) i0 q0
    rw [e1,e2,n0,k4]
    unfold valK
    rw [if_neg k1,if_neg k2,if_neg k3,if_pos k4,List.cons_append,List.nil_append,zBx rfl (by decide) (by omega) (by omega),if_neg (by decide),if_neg (by decide),if_pos rfl]
    unfold zDg
    rw [if_neg w1,if_neg w2,if_neg w3]
  by_cases k7:(d.f 0).n=7
  . have i0:(d.f 3).l.length=0:=by rcases hN.items0 with e | e | e<;>omega
    have q0:(d.f 4).l.length=0:=by rcases hN.keys0 with e | e<;>omega
    have n0:(d.f 1).n=0:=by rcases hN.int0 with e | e | e<;>omega
    obtain ⟨e1,e2⟩:=zDD (k:=k) i0 q0
    cases v with
    |false=>exact absurd k7 (hbar rfl).1
    |true =>
     rw [e1,e2,n0,k7]
     unfold valK
     rw [if_neg k1,if_neg k2,if_neg k3,if_neg k4,if_pos k7,List.cons_append,List.cons_append,List.nil_append,zBx rfl (by decide) (by omega) (by omega),if_neg (by decide),if_neg (by decide),if_neg (by decide),if_pos rfl,zA5]
     rfl
  by_cases k5:(d.f 0).n=5
  . have q0:(d.f 4).l.length=0:=by rcases hN.keys0 with e | e<;>omega
    have n0:(d.f 1).n=0:=by rcases hN.int0 with e | e | e<;>omega
    have t0:tx (d.f 2).s=[]:=by rcases hN.txt0 with e | e | e | e<;>first | omega | exact e
    have hit:=zIK (v:=v) hval (fun i r n hl=>by
     obtain ⟨kk,s,t,e,hk⟩:=zJo (hi i hl)
     rw [e,List.cons_append,zEY];exact hk) (d.f 3).l.length 0 ((gK (fun i=>valK k (gD (d.f 3).l i)) 0 (d.f 3).l.length++(1,[93])::r).length+1) r (by omega) (by
      have:=zDy (fun i=>if i<(d.f 3).l.length then valK k (gD (d.f 3).l i) else [(1,[])]) (fun i=>by
       split
       . rename_i hl
         obtain ⟨kk,s,t,e,-⟩:=zJo (hi i hl)
         rw [e];simp
       . simp) (d.f 3).l.length 0
      have e2:gK (fun i=>if i<(d.f 3).l.length then valK k (gD (d.f 3).l i) else [(1,[])]) 0 (d.f 3).l.length=gK (fun i=>valK k (gD (d.f 3).l i)) 0 (d.f 3).l.length:=by
       unfold gK
       rw [List.flatMap_def,List.flatMap_def]
       congr 1
       refine List.map_congr_left fun i hi2 => ?_
       have:i<(d.f 3).l.length:=by simpa using List.mem_range'.1 hi2 |>.elim fun x hx=>by omega
       rw [if_pos this]
      rw [e2] at this
      rw [List.length_append]
      omega)
    have e0:n+1+sumN (fun i=>sizeR k (gD (d.f 3).l i)) 0=n+1:=rfl
    rw [e0] at hit
    unfold valK
    rw [if_neg k1,if_neg k2,if_neg k3,if_neg k4,if_neg k7,if_pos k5]
    have ea:(1,[91])::(gK (fun i=>valK k (gD (d.f 3).l i)) 0 (d.f 3).l.length++[(1,[93])])++r=((1:Int),[(91:UInt8)])::(gK (fun i=>valK k (gD (d.f 3).l i)) 0 (d.f 3).l.length++(1,[93])::r):=by simp
    rw [ea,zBx rfl (by decide) (by omega) (by omega),if_neg (by decide),if_neg (by decide),if_neg (by decide),if_neg (by decide),if_pos rfl]
    have hit':itemsQ (valueQ f (lv+1)) ((gK (fun i=>valK k (gD (d.f 3).l i)) 0 (d.f 3).l.length++(1,[93])::r).length+1) [] (pst (gK (fun i=>valK k (gD (d.f 3).l i)) 0 (d.f 3).l.length++(1,[93])::r) v (n+1))=_:=hit
    rw [hit',zV,hsz,Nat.add_assoc n 1,zKu,k5,n0,t0,zJr q0]
  by_cases k6:(d.f 0).n=6
  . obtain ⟨-,hlen,hnd⟩:=hN.obj k6
    have n0:(d.f 1).n=0:=by rcases hN.int0 with e | e | e<;>omega
    have t0:tx (d.f 2).s=[]:=by rcases hN.txt0 with e | e | e | e<;>first | omega | exact e
    have hst:strsR d=(List.range (d.f 3).l.length).map fun i=>tx (gD (d.f 4).l i).s:=by
     unfold strsR
     rw [<- hlen]
     exact zFK (d.f 4).l fun x=>tx x.s
    have hkey : ∀ i j,i<j->j<(d.f 3).l.length->tx (gD (d.f 4).l i).s≠tx (gD (d.f 4).l j).s:=fun i j hij hj=>by
     rw [hst] at hnd
     have:=List.pairwise_iff_getElem.1 hnd i j (by simp;omega) (by simp;omega) hij
     simpa using this
    have hit:=zGS (key:=fun i=>tx (gD (d.f 4).l i).s) (v:=v) hval hkey (d.f 3).l.length 0 ((gK (fun i=>(2,tx (gD (d.f 4).l i).s)::(1,[58])::valK k (gD (d.f 3).l i)) 0 (d.f 3).l.length++(1,[125])::r).length+1) r (by omega) (by
     have:=zDy (fun i=>(2,tx (gD (d.f 4).l i).s)::(1,[58])::valK k (gD (d.f 3).l i)) (fun i=>by simp) (d.f 3).l.length 0
     rw [List.length_append]
     omega)
    have e0:n+1+sumN (fun i=>sizeR k (gD (d.f 3).l i)) 0=n+1:=rfl
    rw [e0] at hit
    unfold valK
    rw [if_neg k1,if_neg k2,if_neg k3,if_neg k4,if_neg k7,if_neg k5,if_pos k6]
    have ea:(1,[123])::(gK (fun i=>(2,tx (gD (d.f 4).l i).s)::(1,[58])::valK k (gD (d.f 3).l i)) 0 (d.f 3).l.length++[(1,[125])])++r=((1:Int),[(123:UInt8)])::(gK (fun i=>(2,tx (gD (d.f 4).l i).s)::(1,[58])::valK k (gD (d.f 3).l i)) 0 (d.f 3).l.length++(1,[125])::r):=by simp
    rw [ea,zBx rfl (by decide) (by omega) (by omega),if_neg (by decide),if_neg (by decide),if_neg (by decide),if_neg (by decide),if_neg (by decide)]
    have hit':zAG (valueQ f (lv+1)) ((gK (fun i=>(2,tx (gD (d.f 4).l i).s)::(1,[58])::valK k (gD (d.f 3).l i)) 0 (d.f 3).l.length++(1,[125])::r).length+1) [] [] (pst (gK (fun i=>(2,tx (gD (d.f 4).l i).s)::(1,[58])::valK k (gD (d.f 3).l i)) 0 (d.f 3).l.length++(1,[125])::r) v (n+1))=_:=hit
    rw [hit',zV,hsz,Nat.add_assoc n 1,zKu,k6,n0,t0,hst]
  . have kd:=hN.kind
    have k0:(d.f 0).n=0:=by omega
    have i0:(d.f 3).l.length=0:=by rcases hN.items0 with e | e | e<;>omega
    have q0:(d.f 4).l.length=0:=by rcases hN.keys0 with e | e<;>omega
    have n0:(d.f 1).n=0:=by rcases hN.int0 with e | e | e<;>omega
    have t0:tx (d.f 2).s=[]:=by rcases hN.txt0 with e | e | e | e<;>first | omega | exact e
    obtain ⟨e1,e2⟩:=zDD (k:=k) i0 q0
    rw [e1,e2,n0,t0,k0]
    unfold valK
    rw [if_neg k1,if_neg k2,if_neg k3,if_neg k4,if_neg k7,if_neg k5,if_neg k6,List.cons_append,List.nil_append,zBx rfl (by decide) (by omega) (by omega),if_neg (by decide),if_neg (by decide),if_pos rfl]
    rfl
theorem zHc {d:D} {r:KS} {v:Bool} {n:Nat} (h:litR d=true) (hw:wideD d) (hb:v=false->bareR (bulkD d) d=true):zAd (pst (litK d++r) v n) = .ok (cL d,pst r v (sizeR (bulkD d) d)):=by
 unfold litR at h
 simp only [Bool.and_eq_true,decide_eq_true_eq] at h
 have:=zHd (bulkD d) 25 1 d r v 0 h.2 hw (by omega) (by omega) (by omega) hb
 rw [Nat.zero_add] at this
 exact this
def rgD (c:D->D) (l:List D):List D:=(List.range l.length).map fun i=>c (gD l i)
def cA (a:D):D:=argD (tx (a.f 0).s) (cL (a.f 1))
def cDir (x:D):D:=dirD (tx (x.f 0).s) (rgD cA (x.f 1).l)
theorem zFr (c:Nat->D) (j:Nat):((List.range j).map c).length=j:=by simp
theorem zJI {l:List D} {r:KS} {s:List UInt8} (h:([64]==s)=false) (hr:nS r s):nS (rgK dirK l++r) s:=
 nS_gK (fun i r=>zAo (by simpa using h)) hr
end
end Go.Proofs.YthppafnlnnpciaaGreatDoor
