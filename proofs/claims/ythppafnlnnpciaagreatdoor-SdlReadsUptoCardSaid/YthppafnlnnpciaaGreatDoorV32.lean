import Derived.Maps.OwnOps
import Derived.Maps.Views
import Derived.Test.YthppafnlnnpciaaGreatDoorV31
set_option maxHeartbeats 8000000
set_option maxRecDepth 100000
set_option linter.unusedVariables false
set_option linter.unusedSimpArgs false
namespace Go.Proofs.YthppafnlnnpciaaGreatDoor
section
open Go.RowKit Go.WideMaps Go.Maps
attribute [local irreducible] wpList Calls Code.wp
def Rs (w:World) (e:TypeId) (A:Option Addr) (l:List D):Prop:=∃ k,Sl Tryz.prog w (fun b=>b<w.heap.size) k e A l
theorem klawS:Keyed Tryz.prog 9:=string_keyed Tryz.underlying9
theorem zeroB (w:World):(zeroValue 4).run Tryz.prog w = .ok (.bool false) w:=by kernel_rfl
theorem zDm {H:Type} {P:Program} {e:TypeId} (he:P.underlying e=some .bool) {v:Value} {z:DataW H × List MemPlace} (h:plainElem P e v=some z) : ∃ b,v = .bool b/\z=(.lit (.bool b),[]):=by
 unfold plainElem at h
 rw [he] at h
 cases v<;>simp at h
 exact ⟨_,rfl,h.symm⟩
def SetIs (M:DataW Unit) (l:List (List UInt8)):Prop:=IsMap M /\ ∀ u:List UInt8,M.atKey (.string u) (.lit (.bool false)) = .lit (.bool (decide (u∈l)))
theorem setIs_nil:SetIs (.map []) []:=⟨isMap_empty,fun u=>by
 rw [decide_eq_false (by simp)];rfl⟩
theorem setIs_put {M:DataW Unit} {l:List (List UInt8)} (h:SetIs M l) (u:List UInt8):SetIs (M.put (.string u) (.lit (.bool true))) (l++[u]):=
 ⟨h.1.put _ _,fun v=>by
   by_cases e:v=u
   . subst e
     rw [atKey_put_same h.1 (show WideAt.IsKeyLit (.string v) from trivial),decide_eq_true (by simp)]
   . rw [atKey_put_other (fun hh=>e (by injection hh)),h.2 v]
     congr 2
     simp [e]⟩
theorem zA7 {P:Program} (w:World) {ops:Array Oper} {rest:List Oper} {o:Oper} {a:Act} {Q:Exit->Act->World->Prop}
 (hg:o.guard=none) (m x:Operand) (t:TypeId) (hop:o.op=Op.lookup t m x false)
 (k e:TypeId) (K:Keyed P k) (ht:P.underlying t=some (.map k e)) (he:P.underlying e=some .bool) (hz:(zeroValue e).run P w = .ok (.bool false) w) (b n:Nat) (M:DataW Unit) (l:List (List UInt8)) (hD:SetIs M l)
 (hm:a.eval m = .map (some b)) (hown:w.ownsMap P k (plainElem P e) b n M) (u:ByteArray) (hx:a.eval x = .string u) (hkey:keyOf P k (.string u)=some (.string u.data.toList))
 (hK:wpList P ops Q rest (a.put o.dst (.bool (decide (u.data.toList∈l)))) w) :
 wpList P ops Q (o::rest) a w:=by
 refine wpList_plain hg fun K' hK' => ?_
 obtain ⟨v,ps,hrun,hv⟩:=hown.lookup K ht hz (plainElem_bool he false) hkey
 obtain ⟨c,rfl,hc⟩:=zDm he hv
 simp only [Prod.mk.injEq] at hc
 have hat:=hD.2 u.data.toList
 rw [hc.1] at hat
 have hcc:c=decide (u.data.toList∈l):=by injection hat with h1;injection h1
 subst hcc
 unfold Oper.wp
 simp [execOp,hop,hm,hx,hrun,Result.andThen]
 exact hK' _ _ (by simpa using hK)
def su (d:D):List UInt8:=d.s.data.toList
def twiceB:List (List UInt8)->List D->Bool
 |_,[]=>false
 |seen,x::r=>decide (su x∈seen)||twiceB (seen++[su x]) r
theorem str_at {w:World} {A:Option Addr} {l:List D} (h:Rs w 9 A l) (hp:0<l.length) : ∃ b off,A=some ⟨b,off,none⟩/\b<w.heap.size /\ ∀ i,i<l.length->w.cell? ⟨b,off+i,none⟩=some (.string (gD l i).s)/\(gD l i).s.size<=maxLen:=by
 obtain ⟨k,h⟩:=h
 obtain ⟨b,off,hA,hb,hi⟩:=h hp (by rw [show Tryz.prog.cellsOf 9=1 by kernel_rfl];omega)
 refine ⟨b,off,hA,hb,fun i hil => ?_⟩
 obtain ⟨ys,y1,y2,y3⟩:=hi i hil
 rw [show Tryz.prog.cellsOf 9=1 by kernel_rfl] at y2
 obtain ⟨rfl,hs⟩:=y3.str Tryz.underlying9
 have:=y2 0 _ rfl
 rw [Nat.mul_one,Nat.add_zero] at this
 exact ⟨this,hs⟩
theorem seen_at (l:List D) (m:Nat) (h:m<l.length):(l.map su).take (m+1)=(l.map su).take m++[su (gD l m)]:=by
 rw [List.take_succ_eq_append_getElem (by simpa using h),List.getElem_map,zA2 h]
theorem twice_go {l:List D} {m:Nat} (h:m<l.length):twiceB ((l.map su).take m) (l.drop m)=(decide (su (gD l m)∈(l.map su).take m)||twiceB ((l.map su).take (m+1)) (l.drop (m+1))):=by
 have e:l.drop m=gD l m::l.drop (m+1):=by rw [List.drop_eq_getElem_cons h,zA2 h]
 rw [e,twiceB,seen_at l m h]
theorem twiceP (A:Option Addr) (l:List D) (c:Nat) (w0 w:World) (h0:Below w0.heap.size w0 w) (h:Rs w0 9 A l) (hl:l.length<=9223372036854775807) :
 Calls Tryz.prog 251 #[.slice A l.length c] w fun e w'=>e = .returned (.bool (twiceB [] l))/\Below w.heap.size w w':=by
 have H:=Lib.hid h;have H0:=Lib.hid h0
 clear h h0
 have hmm:=@run_makeMap Tryz.prog
 go_enter Tryz.func251,Tryz.ntmps251
 go_wp2
 go_loopg [9] l.length (fun j i wr => ∃ m:Nat,m+j=l.length/\i = .int .i64 m/\(∃ M,SetIs M ((l.map su).take m)/\wr.ownsMap Tryz.prog 9 (plainElem Tryz.prog 4) w.heap.size m M)/\twiceB ((l.map su).take m) (l.drop m)=twiceB [] l/\Below w.heap.size w wr)
 case atStart=>exact ⟨0,by omega,rfl,⟨_,setIs_nil,World.ownsMap_made _ _ _ _⟩,rfl,(Below.refl _ _).alloc (Nat.le_refl _) _⟩
 case round =>
  obtain ⟨m,hmj,rfl,⟨M,hset,hown⟩,htw,hb⟩:=hrel
  have Hb:=Lib.hid hb
  have Hmj:=Lib.hid hmj;have hmn:m<=l.length:=by omega
  have Htw:=Lib.hid htw
  clear hmj hb htw
  by_cases hlt:m<l.length
  . obtain ⟨b,off,rfl,hI,hat⟩:=str_at H.out (by omega)
    obtain ⟨e0,hsz⟩:=hat m hlt
    replace e0:=((H0.out.trans (Hb.out.mono H0.out.size)).cell (p:=⟨b,_,none⟩) hI).trans e0
    have hkey:keyOf Tryz.prog 9 (.string (gD l m).s)=some (.string (su (gD l m))):=keyOf_string_mk Tryz.underlying9 hsz
    have z1:(m:Int)<(l.length:Int):=by omega
    have hgo:=Lib.hid (twice_go hlt)
    cases hq:decide (su (gD l m)∈(l.map su).take m)
    . go_wp2_with (first
       |(at_lookup;refine zA7 _ rfl _ _ 235 rfl 9 4 klawS Tryz.underlying235 Tryz.underlying4 (zeroB _) w.heap.size m _ _ hset rfl hown _ rfl hkey ?_;rw [show decide ((gD l m).s.data.toList∈(l.map su).take m)=false from hq])
       |(at_mapUpdate;refine wpList_mapUpdate_own _ rfl _ _ _ 235 rfl 9 4 klawS Tryz.underlying235 _ w.heap.size m _ rfl hown (by unfold maxLen;omega) _ _ _ rfl rfl hkey _ [] (plainElem_bool Tryz.underlying4 true) ?_)
       |go_in)
      intro w1 hown1 hgrow1
      have R1 : ∃ M,SetIs M ((l.map su).take (m+1))/\w1.ownsMap Tryz.prog 9 (plainElem Tryz.prog 4) w.heap.size (m+1) M:=⟨_,by rw [seen_at l m hlt];exact setIs_put hset _,hown1⟩
      have R2:=Hb.out.grown hgrow1 Hb.out.size (fun j hj=>by cases hj;exact Nat.le_refl _)
      have R3:twiceB ((l.map su).take (m+1)) (l.drop (m+1))=twiceB [] l:=by
       have:=hgo.out
       rw [hq,Bool.false_or,Htw.out] at this
       exact this.symm
      have R1:=Lib.hid R1;have R3:=Lib.hid R3
      clear hown1 hgrow1 hown hset hq hkey hat e0
      go_wp2
      go_roundg (l.length-m-1)
      case measure=>have:=Hmj.out;omega
      case rel=>exact ⟨m+1,by have:=Hmj.out;omega,by go_num,R1.out,R3.out,R2⟩
    . go_wp2_with (first
       |(at_lookup;refine zA7 _ rfl _ _ 235 rfl 9 4 klawS Tryz.underlying235 Tryz.underlying4 (zeroB _) w.heap.size m _ _ hset rfl hown _ rfl hkey ?_;rw [show decide ((gD l m).s.data.toList∈(l.map su).take m)=true from hq])
       |go_in)
      go_ret
      have:=hgo.out
      rw [hq,Bool.true_or,Htw.out] at this
      exact ⟨by rw [this];rfl,Hb.out⟩
  . go_wp2
    go_ret
    refine ⟨?_,Hb.out⟩
    have:=Htw.out
    rw [List.drop_eq_nil_of_le (by omega)] at this
    rw [<- this];rfl
theorem zFA : ∀ (l:List D) (seen:List (List UInt8)),seen.Nodup->twiceB seen l = !decide (seen++l.map su).Nodup
 |[],seen,h=>by simp [twiceB,h]
 |x::r,seen,h=>by
  rw [twiceB]
  by_cases e:su x∈seen
  . have : ¬ (seen++(x::r).map su).Nodup:=fun hh=>by
     rw [List.nodup_append] at hh
     exact hh.2.2 _ e (su x) (by simp) rfl
    rw [decide_eq_true e,decide_eq_false this];rfl
  . rw [decide_eq_false e,Bool.false_or,zFA r (seen++[su x]) (by
     rw [List.nodup_append]
     refine ⟨h,by simp,?_⟩
     intro a ha b hb he
     rw [List.mem_singleton.1 hb] at he
     exact e (he ▸ ha))]
    simp
theorem twice_strs (d:D):twiceB [] (d.f 4).l = !decide (strsR d).Nodup:=by
 rw [zFA _ [] List.nodup_nil];rfl
end
section
open Go.RowKit
set_option linter.unusedSectionVars false
section
variable {X:Cx} {nn:Nat} {st:Vst nn} {o:Oper} {ops:Array Oper} {l:List Oper} {dst:Option Tmp} {KK:Vst nn->Prop}
theorem s_max {k:IntKind} {a b:Int} {x y:Operand} {ts:Array TypeId} (hg:o.guard=none) (ho:o.op = .call { callee:=.builtin .max,args:=#[x,y],argTypes:=ts }) (hd:o.dst=dst) (hx:ev st x = .c (.int k a)) (hy:ev st y = .c (.int k b)) (hK:AWo X ops l (st.put dst (.c (.int k (if a<b then b else a)))) KK):AWo X ops (o::l) st KK:=by
 refine zy hg ?_
 intro s w a' hI N Q hP hN
 have r1:=hI.ev x
 have r2:=hI.ev y
 rw [hx,rel] at r1
 rw [hy,rel] at r2
 have h1:(execOp a'.eval o).run X.P w = .ok (.value (.int k (if a<b then b else a))) w:=by
  simp [execOp,ho,resolve,invoke,builtin,Builtin.max_,Builtin.max2,r1.1,r2.1]
 unfold Oper.wp
 rw [h1,Oper.upon_value]
 refine hN _ _ _ _ (hI.put o.dst ?_) (by rw [hd];exact hK)
 rw [rel]
 refine ⟨rfl,?_⟩
 split
 . exact r2.2
 . exact r1.2
end
attribute [local irreducible] wpList Calls Code.wp AW AWo OpOk seqK zq zt loopK endK AC zg Yld Sub
attribute [local irreducible] ACB ACX ACE absLexG YldG
structure BkIn (d:D) (B:Nat):Prop where
 text:(d.f 2).s.size<=B
 keys:(d.f 4).l.length<=B
 items:(d.f 3).l.length<=B
 at_ : ∀ i,i<(d.f 3).l.length->bulkD (gD (d.f 3).l i)<bulkD d
 key : ∀ i,i<(d.f 4).l.length->(gD (d.f 4).l i).s.size<=B
theorem zFr : ∀ l:List D,l.length<=bulkL l
 |[]=>Nat.le_refl _
 |x::r=>by
  have:=zFr r
  have:=zAY x
  simp only [bulkL,List.length_cons];omega
theorem bk_in {d:D} {B:Nat} (h:bulkD d<=B):BkIn d B:=by
 have h0:=zl d
 have h2:=zAN (d.f 2)
 have h2':=wD_f d 2
 have h3:=zx (d.f 3)
 have h3':=wD_f d 3
 have h4:=zx (d.f 4)
 have h4':=wD_f d 4
 have l3:=zFr (d.f 3).l
 have l4:=zFr (d.f 4).l
 refine ⟨by omega,by omega,by omega,fun i hi=>by have:=zD1 hi;omega,fun i hi => ?_⟩
 have:=zD1 hi
 have:=zAN (gD (d.f 4).l i)
 have:=zl (gD (d.f 4).l i)
 omega
theorem zKT : ∀ (k:Nat) (d:D),sizeR k d<=bulkD d
 |0,d=>zAY d
 |k+1,d=>by
  have h:=zCD (f:=fun i=>sizeR k (gD (d.f 3).l i)) (g:=fun i=>bulkD (gD (d.f 3).l i)) (n:=(d.f 3).l.length) fun i _=>zKT k _
  rw [<- zAd] at h
  have h3:=zx (d.f 3)
  have h3':=wD_f d 3
  have h0:=zl d
  show 1+sumN (fun i=>sizeR k (gD (d.f 3).l i)) (d.f 3).l.length<=_
  omega
theorem zJp {g:Nat->Nat} {B:Nat} : ∀ {n:Nat},(∀ i,i<n->g i<=B)->maxN g n<=B
 |0,_=>Nat.zero_le _
 |n+1,h=>Nat.max_le.2 ⟨zJp fun i hi=>h i (by omega),h n (by omega)⟩
theorem zJD : ∀ (k:Nat) (d:D),depthR k d<=bulkD d
 |0,d=>zAY d
 |k+1,d=>by
  have h:maxN (fun i=>depthR k (gD (d.f 3).l i)) (d.f 3).l.length<=bulkL (d.f 3).l:=zJp fun i hi=>Nat.le_trans (zJD k _) (zAP hi)
  have h3:=zx (d.f 3)
  have h3':=wD_f d 3
  have h0:=zl d
  show maxN (fun i=>depthR k (gD (d.f 3).l i)) (d.f 3).l.length+1<=_
  omega
theorem max_i (a b:Nat):(if (a:Int)<(b:Int) then (b:Int) else (a:Int))=((max a b:Nat):Int):=by
 split<;>omega
end
section
def tw:List Tok->Nat
 |[]=>0
 |t::r=>t.s.length+40+tw r
def Bd {α:Type} (μ:α->Nat) (N:Nat) (r:PR α):Prop:=∀ v y,r = .ok (v,y)->μ v+tw y.ts<=N
section
variable {α β:Type} {μ:α->Nat} {ν:β->Nat} {N M:Nat}
theorem Bd.okk {v:α} {y:PS} (h:μ v+tw y.ts<=N):Bd μ N (.ok (v,y):PR α):=fun _ _ e=>by cases e;exact h
theorem Bd.err {e:Nat × Int}:Bd μ N (.error e:PR α):=fun _ _ h=>by cases h
theorem Bd.ite {c:Prop} [Decidable c] {a b:PR α} (h1:c->Bd μ N a) (h2 : ¬ c->Bd μ N b):Bd μ N (if c then a else b):=by
 split
 . exact h1 ‹_›
 . exact h2 ‹_›
theorem Bd.then {r:PR α} {f:α->PS->PR β} (h:Bd μ N r) (hf : ∀ a x,μ a+tw x.ts<=N->Bd ν M (f a x)):Bd ν M (thenQ r f):=by
 cases hr:r with
 |error e =>
  rw [zn (r:=.error e) rfl]
  exact .err
 |ok p =>
  obtain ⟨a,x⟩:=p
  rw [zY (r:=.ok (a,x)) rfl]
  exact hf a x (h a x hr)
end
def sl (s:List UInt8):Nat:=s.length+40
section
variable {v:PS->PR D} (hv : ∀ y,Bd bulkD (tw y.ts) (v y))
include hv
end
end
section
open Go.RowKit
def zHL (n i:Int) (t:Bool) (a b:Nat) (x v y:Bool):Bool:=
 if n=0 then i==0&&t&&b==0&&a==0
 else if n=1 then (i==0||i==1)&&t&&b==0&&a==0
 else if n=2 then t&&b==0&&a==0
 else if n=3 then i==0&&b==0&&a==0
 else if n=4 then i==0&&b==0&&a==0&&x
 else if n=5 then i==0&&t&&a==0
 else if n=6 then i==0&&t&&a==b&&y
 else if n=7 then i==0&&b==0&&a==0&&v
 else false
theorem nodeF_K (n i:Int) (t:Bool) (a b:Nat) (x v ks y:Bool) (hks:a=0->ks=true):(zHL n i t a b x v y&&ks)=zIg n i t a b x v ks y:=by
 have h0:(a==0)=true->ks=true:=fun h=>hks (by simpa using h)
 unfold zHL zIg
 by_cases n0:n=0
 . subst n0;cases ks<;>simp_all
   try ac_rfl
 by_cases n1:n=1
 . subst n1;cases ks<;>simp_all
   try ac_rfl
 by_cases n2:n=2
 . subst n2;cases ks<;>simp_all
   try ac_rfl
 by_cases n3:n=3
 . subst n3;cases ks<;>simp_all
   try ac_rfl
 by_cases n4:n=4
 . subst n4;cases ks<;>simp_all
   try ac_rfl
 by_cases n5:n=5
 . subst n5;cases ks<;>simp_all
   try ac_rfl
 by_cases n6:n=6
 . subst n6;cases ks<;>simp_all
   try ac_rfl
 by_cases n7:n=7
 . subst n7;cases ks<;>simp_all
   try ac_rfl
 have hd:decide (0<=n/\n<=7)=false:=decide_eq_false (by omega)
 rw [hd]
 simp [n0,n1,n2,n3,n4,n5,n6,n7]
def zHM (d:D):Bool:=zHL (d.f 0).n (d.f 1).n ((d.f 2).s.data.toList==[]) (d.f 4).l.length (d.f 3).l.length (zEc (d.f 2).s) (nameB (d.f 2).s) (decide (strsR d).Nodup)
theorem zEB (d:D):(zHM d && !((d.f 4).l.any fun x => !nameB x.s))=nodeL d:=
 nodeF_K _ _ _ _ _ _ _ _ _ fun h=>by rw [List.eq_nil_of_length_eq_zero h];rfl
end
section
def Hr {α:Type} (Q:α->PS->Prop) (r:PR α):Prop:=∀ v z,r = .ok (v,z)->Q v z
section
variable {α β:Type} {Q:α->PS->Prop} {R:β->PS->Prop}
theorem Hr.okk {v:α} {z:PS} (h:Q v z):Hr Q (.ok (v,z):PR α):=fun _ _ e=>by cases e;exact h
theorem Hr.err {e:Nat × Int}:Hr Q (.error e:PR α):=fun _ _ h=>by cases h
theorem Hr.ite {c:Prop} [Decidable c] {a b:PR α} (h1:c->Hr Q a) (h2 : ¬ c->Hr Q b):Hr Q (if c then a else b):=by
 split
 . exact h1 ‹_›
 . exact h2 ‹_›
theorem Hr.then {r:PR α} {f:α->PS->PR β} (h:Hr Q r) (hf : ∀ a x,Q a x->Hr R (f a x)):Hr R (thenQ r f):=by
 cases hr:r with
 |error e =>
  rw [zn (r:=.error e) rfl]
  exact .err
 |ok p =>
  obtain ⟨a,x⟩:=p
  rw [zY (r:=.ok (a,x)) rfl]
  exact hf a x (h a x hr)
theorem Hr.mono {r:PR α} {Q':α->PS->Prop} (h:Hr Q r) (hq : ∀ a x,Q a x->Q' a x):Hr Q' r:=fun v z e=>hq v z (h v z e)
end
def GT (x:PS):Prop:=∀ t∈x.ts,(t.k=2->nameB ⟨t.s.toArray⟩=true)/\1<=t.k/\t.k<=5
theorem GT.nx {x:PS} (h:GT x):GT (nxT x):=fun t ht=>by
 unfold nxT at ht
 split at ht
 . exact h t ht
 . exact h t (List.mem_of_mem_drop ht)
theorem zFP (x:PS):(nxT x).vr=x.vr:=by unfold nxT;split<;>rfl
theorem zGT (x:PS):(nxT x).nd=x.nd:=by unfold nxT;split<;>rfl
theorem GT.hd {x:PS} (h:GT x):((hdT x).k=2->nameB ⟨(hdT x).s.toArray⟩=true)/\1<=(hdT x).k/\(hdT x).k<=5:=by
 unfold hdT
 cases hx:x.ts with
 |nil=>exact ⟨fun h=>absurd h (by decide),by decide,by decide⟩
 |cons t r=>exact h t (by rw [hx];exact List.mem_cons_self ..)
structure Pv (x z:PS):Prop where
 gt:GT z
 vr:z.vr=x.vr
theorem Pv.trans {x y z:PS} (h1:Pv x y) (h2:Pv y z):Pv x z:=⟨h2.gt,h2.vr.trans h1.vr⟩
theorem GT.pv {x:PS} (h:GT x):Pv x x:=⟨h,rfl⟩
theorem GT.pvn {x:PS} (h:GT x):Pv x (nxT x):=⟨h.nx,zFP x⟩
theorem Pv.nx {x y:PS} (h:Pv x y):Pv x (nxT y):=h.trans h.gt.pvn
theorem zCi {s:List UInt8} {x:PS} (h:GT x):Hr (fun _ z=>Pv x z/\z.nd=x.nd) (takeQ s x):=by
 unfold takeQ
 exact .ite (fun _ => .okk ⟨h.pvn,zGT x⟩) fun _ => .err
theorem zFQ {x:PS} (h:GT x):Hr (fun n z=>nameB ⟨n.toArray⟩=true/\Pv x z/\z.nd=x.nd) (nameQ x):=by
 unfold nameQ
 exact .ite (fun hk => .okk ⟨h.hd.1 hk,h.pvn,zGT x⟩) fun _ => .err
theorem open_rt : ∀ (f:Nat) {x:PS},GT x->Pv x (openQ f x).2
 |0,x,h=>h.pv
 |f+1,x,h=>by
  unfold openQ
  by_cases hs:isS x [91]=true
  . rw [if_pos hs]
    exact h.pvn.trans (open_rt f h.nx)
  . rw [if_neg hs];exact h.pv
theorem zE2 {w:List Int} (h:zAi w=true) (hh:w.head? ≠ some 1):zAi (1::w)=true:=by
 cases w with
 |nil=>rfl
 |cons v r =>
  have hv:v≠1:=fun e=>hh (by rw [e];rfl)
  simp [zAi,hv]
  exact h
theorem zE1 {w:List Int} (h:zAi w=true):zAi (2::w)=true:=by
 cases w with
 |nil=>rfl
 |cons v r=>simpa [zAi] using h
theorem zHr : ∀ (n:Nat) (w:List Int) {x:PS},GT x->zAi w=true->w.head? ≠ some 1->Hr (fun v z=>zAi v=true/\Pv x z) (closeQ n w x)
 |0,w,x,h,hw,hh=>by
  unfold closeQ
  by_cases hs:isS x [33]=true
  . rw [if_pos hs];exact .okk ⟨zE2 hw hh,h.pvn⟩
  . rw [if_neg hs];exact .okk ⟨hw,h.pv⟩
 |n+1,w,x,h,hw,hh=>by
  unfold closeQ
  by_cases hs:isS x [33]=true
  . rw [if_pos hs,if_pos hs]
    exact .then (zCi h.nx) fun _ y hy=>(zHr n _ hy.1.gt (zE1 (zE2 hw hh)) (fun h=>by simp at h)).mono fun v z hv=>⟨hv.1,(h.pvn.trans hy.1).trans hv.2⟩
  . rw [if_neg hs,if_neg hs]
    exact .then (zCi h) fun _ y hy=>(zHr n _ hy.1.gt (zE1 hw) (fun h=>by simp at h)).mono fun v z hv=>⟨hv.1,hy.1.trans hv.2⟩
theorem map_n (w:List Int):(w.map D.int).map D.n=w:=by
 rw [List.map_map]
 exact (List.map_congr_left fun x _=>rfl).trans (List.map_id w)
theorem typ_rt {x:PS} (h:GT x):Hr (fun t z=>refR t=true/\Pv x z) (typQ x):=by
 have ho:=open_rt x.ts.length h
 refine .then (Q:=fun t z=>nameB ⟨t.1.toArray⟩=true/\zAi t.2=true/\Pv x z) (.then (zFQ ho.gt) fun n y hn => .then (zHr _ [] hn.2.1.gt rfl (by decide)) fun w z hw => .okk ⟨hn.1,hw.1,(ho.trans hn.2.1).trans hw.2⟩) fun t z ht => .ite (fun _ => .err) fun hl => .okk ⟨?_,ht.2.2⟩
 show (nameB ⟨t.1.toArray⟩&&decide ((t.2.map D.int).length<=24)&&zAi ((t.2.map D.int).map D.n))=true
 rw [map_n,ht.1,ht.2.1,List.length_map,decide_eq_true (by omega)]
 rfl
structure VOk (lv:Nat) (vr:Bool) (n0:Nat) (v:D) (n1:Nat):Prop where
 sz : ∀ k,Dp k v->sizeR k v+n0=n1
 dp : ∀ k,Dp k v->depthR k v+lv<=25
 ev : ∀ k,Dp k v->everyL k v=true
 br:vr=false -> ∀ k,Dp k v->bareR k v=true
structure CH (lv:Nat) (vr:Bool) (n0:Nat) (l:List D) (n1:Nat):Prop where
 sz : ∀ k,(∀ i,i<l.length->Dp k (gD l i))->sumN (fun i=>sizeR k (gD l i)) l.length+n0=n1
 dp : ∀ i,i<l.length -> ∀ k,Dp k (gD l i)->depthR k (gD l i)+lv<=25
 ev : ∀ i,i<l.length -> ∀ k,Dp k (gD l i)->everyL k (gD l i)=true
 br:vr=false -> ∀ i,i<l.length -> ∀ k,Dp k (gD l i)->bareR k (gD l i)=true
theorem CH.nil {lv:Nat} {vr:Bool} {n:Nat}:CH lv vr n [] n:=
 ⟨fun k _=>by simp [sumN],fun i hi=>absurd hi (Nat.not_lt_zero i),fun i hi=>absurd hi (Nat.not_lt_zero i),fun _ i hi=>absurd hi (Nat.not_lt_zero i)⟩
theorem gD_lst (l:List D) (v:D):gD (l++[v]) l.length=v:=by unfold gD;simp
theorem gD_l {l:List D} {v:D} {i:Nat} (h:i<l.length):gD (l++[v]) i=gD l i:=by
 unfold gD;rw [List.getD_eq_getElem?_getD,List.getElem?_append_left h,<- List.getD_eq_getElem?_getD]
theorem zG5 {l:List D} {v:D} {p:D->Prop} (h1 : ∀ i,i<l.length->p (gD l i)) (h2:p v) : ∀ i,i<(l++[v]).length->p (gD (l++[v]) i):=fun i hi=>by
 rw [List.length_append,List.length_singleton] at hi
 rcases Nat.lt_or_ge i l.length with h | h
 . rw [gD_l h];exact h1 i h
 . obtain rfl:i=l.length:=by omega
   rw [gD_lst];exact h2
theorem zGJ {f g:Nat->Nat} : ∀ {n:Nat},(∀ i,i<n->f i=g i)->sumN f n=sumN g n
 |0,_=>rfl
 |n+1,h=>by rw [sumN,sumN,zGJ fun i hi=>h i (by omega),h n (by omega)]
theorem CH.snoc {lv:Nat} {vr:Bool} {n0 n1 n2:Nat} {l:List D} {v:D} (h:CH lv vr n0 l n1) (hv:VOk lv vr n1 v n2):CH lv vr n0 (l++[v]) n2 where
 sz k hk:=by
  have h1:=h.sz k fun i hi=>by have:=hk i (by simp;omega);rwa [gD_l hi] at this
  have h2:=hv.sz k (by have:=hk l.length (by simp);rwa [gD_lst] at this)
  rw [List.length_append,List.length_singleton,sumN,gD_lst,zGJ (g:=fun i=>sizeR k (gD l i)) fun i hi=>by rw [gD_l hi]]
  omega
 dp:=zG5 (p:=fun d => ∀ k,Dp k d->depthR k d+lv<=25) h.dp hv.dp
 ev:=zG5 (p:=fun d => ∀ k,Dp k d->everyL k d=true) h.ev hv.ev
 br hb:=zG5 (p:=fun d => ∀ k,Dp k d->bareR k d=true) (h.br hb) (hv.br hb)
theorem zJM {p:D->Bool} {l:List D} (h : ∀ i,i<l.length->p (gD l i)=true):(l.any fun x => !p x)=false:=by
 rw [Bool.eq_false_iff]
 intro hc
 obtain ⟨x,hx,hp⟩:=List.any_eq_true.1 hc
 obtain ⟨i,hi,rfl⟩:=List.getElem_of_mem hx
 have:=h i hi
 rw [gD,List.getD_eq_getElem?_getD,List.getElem?_eq_getElem hi] at this
 rw [show p l[i]=true from this] at hp
 cases hp
theorem zC8 {lv n0 n1:Nat} {vr:Bool} {v:D} (hn:nodeL v=true) (h7:vr=false->(v.f 0).n≠7) (hlv:lv<=24) (hc:CH (lv+1) vr (n0+1) (v.f 3).l n1):VOk lv vr n0 v n1 where
 sz k hk:=by
  cases k with
  |zero=>exact hk.elim
  |succ k =>
   have:=hc.sz k hk
   show 1+sumN (fun i=>sizeR k (gD (v.f 3).l i)) (v.f 3).l.length+n0=n1
   omega
 dp k hk:=by
  cases k with
  |zero=>exact hk.elim
  |succ k =>
   have:maxN (fun i=>depthR k (gD (v.f 3).l i)) (v.f 3).l.length<=24-lv:=zJp fun i hi=>by
    have:=hc.dp i hi k (hk i hi)
    omega
   show maxN (fun i=>depthR k (gD (v.f 3).l i)) (v.f 3).l.length+1+lv<=25
   omega
 ev k hk:=by
  cases k with
  |zero=>exact hk.elim
  |succ k =>
   show (nodeL v && !((v.f 3).l.any fun x => !everyL k x))=true
   rw [hn,zJM fun i hi=>hc.ev i hi k (hk i hi)];rfl
 br hb k hk:=by
  cases k with
  |zero=>exact hk.elim
  |succ k =>
   show (!((v.f 0).n==7) && !((v.f 3).l.any fun x => !bareR k x))=true
   rw [zJM fun i hi=>hc.br hb i hi k (hk i hi)]
   have:((v.f 0).n==7)=false:=by simpa using h7 hb
   rw [this];rfl
section
variable {val:PS->PR D} {lv n0:Nat} {vr:Bool} (hv : ∀ y,GT y->y.vr=vr->y.nd<=4096->Hr (fun v z=>Pv y z/\VOk lv vr y.nd v z.nd/\z.nd<=4096) (val y))
include hv
theorem zK2 : ∀ (f:Nat) (acc:List D) {x:PS},GT x->x.vr=vr->x.nd<=4096->CH lv vr n0 acc x.nd->Hr (fun l z=>Pv x z/\CH lv vr n0 l z.nd/\z.nd<=4096) (itemsQ val f acc x)
 |0,_,_,_,_,_,_ => .err
 |f+1,acc,x,h,hx,hnd,hc=>by
  unfold itemsQ
  refine .ite (fun _ => .okk ⟨h.pvn,by rw [zGT];exact hc,by rw [zGT];exact hnd⟩) fun _ => .then (hv x h hx hnd) fun a y hy => ?_
  exact (zK2 f _ hy.1.gt (hy.1.vr.trans hx) hy.2.2 (hc.snoc hy.2.1)).mono fun l z hz=>⟨hy.1.trans hz.1,hz.2⟩
theorem zI1 : ∀ (f:Nat) (ks:List (List UInt8)) (acc:List D) {x:PS},GT x->x.vr=vr->x.nd<=4096->CH lv vr n0 acc x.nd->(∀ k∈ks,nameB ⟨k.toArray⟩=true)->ks.Nodup->ks.length=acc.length ->
 Hr (fun p z=>Pv x z/\CH lv vr n0 p.2 z.nd/\z.nd<=4096/\(∀ k∈p.1,nameB ⟨k.toArray⟩=true)/\p.1.Nodup/\p.1.length=p.2.length) (z7 val f ks acc x)
 |0,_,_,_,_,_,_,_,_,_,_ => .err
 |f+1,ks,acc,x,h,hx,hnd,hc,hk,hd,hl=>by
  unfold z7
  refine .ite (fun _ => .okk ⟨h.pvn,by rw [zGT];exact hc,by rw [zGT];exact hnd,hk,hd,hl⟩) fun _ => .then (zFQ h) fun k y hy => .ite (fun _ => .err) fun hks => .then (zCi hy.2.1.gt) fun _ z hz => ?_
  have hxz:=hy.2.1.trans hz.1
  have hn:z.nd=x.nd:=hz.2.trans hy.2.2
  refine .then (hv z hz.1.gt (hxz.vr.trans hx) (by omega)) fun a u hu => ?_
  rw [hn] at hu
  have hks':k ∉ ks:=fun hm=>hks (List.contains_iff_mem.2 hm)
  refine (zI1 f _ _ hu.1.gt ((hxz.trans hu.1).vr.trans hx) hu.2.2 (hc.snoc hu.2.1) (fun q hq => ?_) ?_ (by simp [hl])).mono fun l w hw=>⟨(hxz.trans hu.1).trans hw.1,hw.2⟩
  . rcases List.mem_append.1 hq with hq | hq
    . exact hk q hq
    . rw [List.mem_singleton] at hq;subst hq;exact hy.1
  . rw [List.nodup_append]
    refine ⟨hd,by simp,fun a ha b hb => ?_⟩
    rw [List.mem_singleton] at hb
    subst hb
    exact fun e=>hks' (e ▸ ha)
end
theorem strsR_val (k n:Int) (s:List UInt8) (items:List D) (keys:List (List UInt8)):strsR (valD k n s items keys)=keys:=by
 show (keys.map strD).map (fun x=>x.s.data.toList)=keys
 rw [List.map_map]
 exact (List.map_congr_left fun x _=>rfl).trans (List.map_id keys)
theorem keys_names {keys:List (List UInt8)} (h : ∀ k∈keys,nameB ⟨k.toArray⟩=true):((keys.map strD).any fun x => !nameB x.s)=false:=by
 rw [Bool.eq_false_iff]
 intro hc
 obtain ⟨x,hx,hp⟩:=List.any_eq_true.1 hc
 obtain ⟨k,hk,rfl⟩:=List.mem_map.1 hx
 rw [show nameB (strD k).s=true from h k hk] at hp
 cases hp
theorem word_node {s:List UInt8} (h:nameB ⟨s.toArray⟩=true):nodeL (zCd s)=true/\((zCd s).f 3).l=[]/\((zCd s).f 0).n≠7:=by
 unfold zCd zDK
 split
 . exact ⟨by decide,rfl,by decide⟩
 . split
   . exact ⟨by decide,rfl,by decide⟩
   . split
     . exact ⟨by decide,rfl,by decide⟩
     . rename_i h1 h2 h3
       refine ⟨?_,rfl,by show (4:Int)≠7;decide⟩
       rw [<- zEB]
       have e:zHM (valD 4 0 s [] [])=zEc ⟨s.toArray⟩:=by
        unfold zHM zHL
        show (if (4:Int)=0 then _ else if (4:Int)=1 then _ else if (4:Int)=2 then _ else if (4:Int)=3 then _ else if (4:Int)=4 then ((0:Int)==0&&(0:Nat)==0&&(0:Nat)==0&&zEc ⟨s.toArray⟩) else _)=_
        simp
       rw [e]
       unfold zEc
       rw [h]
       have a1:(((⟨s.toArray⟩:ByteArray).data.toList)==[116,114,117,101])=false:=by simpa using h1
       have a2:(((⟨s.toArray⟩:ByteArray).data.toList)==[102,97,108,115,101])=false:=by simpa using h2
       have a3:(((⟨s.toArray⟩:ByteArray).data.toList)==[110,117,108,108])=false:=by simpa using h3
       rw [a1,a2,a3]
       rfl
theorem zKL : ∀ (f lv:Nat) {x:PS},GT x->x.nd<=4096->Hr (fun v z=>Pv x z/\VOk lv x.vr x.nd v z.nd/\z.nd<=4096) (valueQ f lv x)
 |0,_,_,_,_ => .err
 |f+1,lv,x,h,hnd=>by
  have ih : ∀ y,GT y->y.vr=x.vr->y.nd<=4096->Hr (fun v z=>Pv y z/\VOk (lv+1) x.vr y.nd v z.nd/\z.nd<=4096) (valueQ f (lv+1) y):=fun y hy hvr hn=>by rw [<- hvr];exact zKL f (lv+1) hy hn
  have hy:GT { nxT x with nd:=x.nd+1 }:=h.nx
  have pvy:Pv x { nxT x with nd:=x.nd+1 }:=⟨h.nx,zFP x⟩
  unfold valueQ
  refine .ite (fun _ => .err) fun hno => .ite (fun _ => .err) fun hlv => .ite (fun _ => .err) fun hn => ?_
  dsimp only
  refine .ite (fun _ => .okk ⟨pvy,?_,?_⟩) fun k3 => .ite (fun _ => .okk ⟨pvy,?_,?_⟩) fun k4 => .ite (fun hk => .okk ⟨pvy,?_,?_⟩) fun k2 => .ite (fun hd => .then (zFQ hy) fun n z hz => .okk ⟨pvy.trans hz.2.1,?_,?_⟩) fun _ =>
   .ite (fun _ => .then (zK2 ih _ [] hy (zFP x) (by show x.nd+1<=4096;omega) CH.nil) fun l z hz => .okk ⟨pvy.trans hz.1,?_,hz.2.2⟩) fun _ =>
   .then (zI1 ih _ [] [] hy (zFP x) (by show x.nd+1<=4096;omega) CH.nil (fun k hk=>by cases hk) List.nodup_nil rfl) fun p z hz => .okk ⟨pvy.trans hz.1,?_,hz.2.2.1⟩
  . refine zC8 ?_ (fun _=>by show (2:Int)≠7;decide) (by omega) CH.nil
    rw [<- zEB];simp [zHM,zHL,valD,strD,D.f,gD,D.n,D.s,D.l]
  . show x.nd+1<=4096;omega
  . refine zC8 ?_ (fun _=>by show (3:Int)≠7;decide) (by omega) CH.nil
    rw [<- zEB];simp [zHM,zHL,valD,strD,D.f,gD,D.n,D.s,D.l]
  . show x.nd+1<=4096;omega
  . have hw:=word_node (h.hd.1 hk)
    exact zC8 hw.1 (fun _=>hw.2.2) (by omega) (by rw [hw.2.1];exact CH.nil)
  . show x.nd+1<=4096;omega
  . have hkd:=h.hd.2
    have hk1:(hdT x).k=1:=by
     have h5:(hdT x).k≠5:=fun e=>hno (by unfold zBs;simp [e])
     omega
    have hvr:x.vr=true:=by
     cases hvx:x.vr with
     |true=>rfl
     |false =>
      exfalso
      refine hno ?_
      unfold zBs isS
      rw [hk1,hd,hvx]
      rfl
    rw [show z.nd=x.nd+1 from hz.2.2]
    refine zC8 ?_ (fun hb=>by rw [hvr] at hb;cases hb) (by omega) CH.nil
    rw [<- zEB]
    have:nameB (strD n).s=true:=hz.1
    have this2:nameB ⟨n.toArray⟩=true:=hz.1
    simp [zHM,zHL,valD,strD,D.f,gD,D.n,D.s,D.l,this2]
  . rw [show z.nd=x.nd+1 from hz.2.2];omega
  . refine zC8 ?_ (fun _=>by show (5:Int)≠7;decide) (by omega) hz.2.1
    rw [<- zEB];simp [zHM,zHL,valD,strD,D.f,gD,D.n,D.s,D.l]
  . refine zC8 ?_ (fun _=>by show (6:Int)≠7;decide) (by omega) hz.2.1
    obtain ⟨-,-,-,q1,q2,q3⟩:=hz
    rw [<- zEB]
    have e1:zHM (valD 6 0 [] p.2 p.1)=true:=by
     unfold zHM zHL
     rw [strsR_val]
     show (if (6:Int)=0 then _ else if (6:Int)=1 then _ else if (6:Int)=2 then _ else if (6:Int)=3 then _ else if (6:Int)=4 then _ else if (6:Int)=5 then _ else if (6:Int)=6 then ((0:Int)==0&&((strD []).s.data.toList==[])&&(p.1.map strD).length==p.2.length&&decide p.1.Nodup) else _)=true
     simp [q2,q3,strD,D.s]
    rw [e1,Bool.true_and]
    show (!((p.1.map strD).any fun x => !nameB x.s))=true
    rw [keys_names q1];rfl
theorem zKH {x:PS} (h:GT x):Hr (fun v z=>Pv x z/\litR v=true/\(x.vr=false->bareR (bulkD v) v=true)) (zAT x):=by
 have h0:GT { x with nd:=0 }:=h
 refine (zKL 25 1 h0 (Nat.zero_le _)).mono fun v z hz=>⟨⟨hz.1.gt,hz.1.vr⟩,?_,fun hb=>hz.2.1.br hb _ (zBP _ _ (Nat.le_refl _))⟩
 have hd:=zBP (bulkD v) v (Nat.le_refl _)
 have h1:=hz.2.1.sz _ hd
 have h2:=hz.2.1.dp _ hd
 have h3:=hz.2.1.ev _ hd
 have h1:sizeR (bulkD v) v+0=z.nd:=h1
 unfold litR
 rw [h3,decide_eq_true (show sizeR (bulkD v) v<=4096 by have:=hz.2.2;omega),decide_eq_true (show depthR (bulkD v) v<=24 by omega)]
 rfl
def Al (p:D->Bool) (l:List D):Prop:=∀ i,i<l.length->p (gD l i)=true
theorem Al.nil {p:D->Bool}:Al p []:=fun i hi=>absurd hi (Nat.not_lt_zero i)
theorem Al.snoc {p:D->Bool} {l:List D} {v:D} (h:Al p l) (hv:p v=true):Al p (l++[v]):=zG5 (p:=fun d=>p d=true) h hv
theorem hd_k2 {x:PS} {s:List UInt8} {n:List UInt8} {z:PS} (h:nameQ x = .ok (n,z)):(hdT x).k=2:=by
 unfold nameQ at h
 split at h
 . assumption
 . cases h
theorem Hr.name {β:Type} {R:β->PS->Prop} {x:PS} {f:List UInt8->PS->PR β} (h:GT x) (hf : ∀ n z,(hdT x).k=2->nameB ⟨n.toArray⟩=true->Pv x z->Hr R (f n z)):Hr R (thenQ (nameQ x) f):=by
 by_cases hk:(hdT x).k=2
 . exact .then (zFQ h) fun n z hz=>hf n z hk hz.1 hz.2.1
 . unfold nameQ
   rw [if_neg hk]
   exact .err
theorem let_B : ∀ c:UInt8,letU c=true->digB (c.toNat:Int)=false/\letB (c.toNat:Int)=true:=fun c =>
 zDQ (p:=fun c=>letU c=true->digB (c.toNat:Int)=false/\letB (c.toNat:Int)=true) (by decide +kernel) c
theorem wrd_B : ∀ c:UInt8,wrdU c=true->(letB (c.toNat:Int)||digB (c.toNat:Int))=true:=fun c =>
 zDQ (p:=fun c=>wrdU c=true->(letB (c.toNat:Int)||digB (c.toNat:Int))=true) (by decide +kernel) c
theorem name_tok {c:UInt8} {q:List UInt8} (hc:letU c=true) (hq:q.all wrdU=true) (hl:q.length<64):nameB ⟨(c::q).toArray⟩=true:=by
 refine zFR (s:=⟨(c::q).toArray⟩) (by simp [ByteArray.size]) (by simp [ByteArray.size];omega) (let_B c hc).1 fun i hi => ?_
 have hi:i<(c::q).length:=by simpa [ByteArray.size] using hi
 show (letB ((((c::q).getD i 0).toNat:Nat):Int)||digB ((((c::q).getD i 0).toNat:Nat):Int))=true
 refine wrd_B _ ?_
 cases i with
 |zero=>show wrdU c=true;unfold wrdU;rw [hc];rfl
 |succ i =>
  rw [List.getD_cons_succ,List.getD_eq_getElem?_getD,List.getElem?_eq_getElem (by simpa using hi)]
  exact List.all_eq_true.1 hq _ (List.getElem_mem _)
theorem readU_name {l:List UInt8} {s:List UInt8} {n:Nat} (h:readU l = .ok (2,s,n)):nameB ⟨s.toArray⟩=true:=by
 unfold readU at h
 split at h
 . cases h
 . rename_i c r
   have hs:=zFF (p:=wrdU) r
   split at h
   . cases h
   split at h
   . split at h
     . cases h
     . cases h
   split at h
   . split at h
     . cases h
     . cases h
   split at h
   . rename_i hl
     split at h
     . cases h
     . cases h
       exact name_tok hl hs.1 (by rw [hs.2];omega)
   split at h
   . split at h
     . cases h
     . split at h
       . cases h
       . cases h
   . cases h
theorem zKa : ∀ (f:Nat) (l:List UInt8) (i:Nat) (ts:List Tok),scanF f l i = .ok ts -> ∀ t∈ts,(t.k=2->nameB ⟨t.s.toArray⟩=true)/\1<=t.k/\t.k<=5
 |0,_,_,_,h=>by cases h
 |f+1,l,i,ts,h=>by
  unfold scanF at h
  split at h
  . cases h
    intro t ht
    rw [List.mem_singleton] at ht
    subst ht
    exact ⟨fun h=>absurd (show (5:Int)=2 from h) (by decide),show (1:Int)<=5 by decide,show (5:Int)<=5 by decide⟩
  . split at h
    . cases h
    . rename_i t n ht
      have hu:=zEl ht
      have hle:=zCK hu.1
      split at h
      . cases h
      . rename_i ts' hts
        cases h
        intro u hu'
        rcases List.mem_cons.1 hu' with rfl | hu'
        . refine ⟨fun hk => ?_,hle.2.2.1,by omega⟩
          have h1:=hu.1
          rw [hk] at h1
          exact readU_name h1
        . exact zKa f _ _ _ hts u hu'
end
section
abbrev KS:=List (Int × List UInt8)
theorem letB_u : ∀ c:UInt8,letB (c.toNat:Int)=true->letU c=true:=fun c =>
 zDQ (p:=fun c=>letB (c.toNat:Int)=true->letU c=true) (by decide +kernel) c
theorem wrdB_u : ∀ c:UInt8,(letB (c.toNat:Int)||digB (c.toNat:Int))=true->wrdU c=true:=fun c =>
 zDQ (p:=fun c=>(letB (c.toNat:Int)||digB (c.toNat:Int))=true->wrdU c=true) (by decide +kernel) c
theorem name_u {s:ByteArray} (h:nameB s=true):nameU (tx s)=true:=by
 unfold nameB at h
 have h:=of_decide_eq_true h
 obtain ⟨h1,h2,h3,h4⟩:=h
 have hl:=zAR s
 have hb : ∀ i,i<s.size->wrdU ((tx s).getD i 0)=true:=fun i hi=>wrdB_u _ (h4 i hi)
 have h0:=h4 0 h1
 rw [h3,Bool.or_false] at h0
 have h5:letU ((tx s).getD 0 0)=true:=letB_u _ h0
 generalize tx s=t at hl hb h5
 cases t with
 |nil=>simp at hl;omega
 |cons c q =>
  simp only [List.length_cons] at hl
  simp only [nameU,Bool.and_eq_true,decide_eq_true_eq]
  refine ⟨⟨h5,List.all_eq_true.2 fun x hx => ?_⟩,by omega⟩
  obtain ⟨i,hi,rfl⟩:=List.getElem_of_mem hx
  have:=hb (i+1) (by omega)
  rw [List.getD_cons_succ,List.getD_eq_getElem?_getD,List.getElem?_eq_getElem hi] at this
  exact this
theorem Pw.nm {s:ByteArray} (h:nameB s=true):Pw (tx s) [(2,tx s)]:=.name (name_u h)
def gK (g:Nat->KS) (j m:Nat):KS:=(List.range' j m).flatMap g
theorem zFc (g:Nat->KS) (j:Nat):gK g j 0=[]:=rfl
theorem zBv (g:Nat->KS) (j m:Nat):gK g j (m+1)=g j++gK g (j+1) m:=by
 unfold gK
 rw [List.range'_succ,List.flatMap_cons]
theorem gK_last (g:Nat->KS) : ∀ m,gK g 0 (m+1)=gK g 0 m++g m:=fun m=>by
 unfold gK
 rw [List.range'_concat,List.flatMap_append]
 simp
theorem zDs (g:Nat->KS) (h : ∀ i,1<=(g i).length) : ∀ m j,m<=(gK g j m).length
 |0,_=>Nat.zero_le _
 |m+1,j=>by
  have:=zDs g h m (j+1)
  have:=h j
  rw [zBv,List.length_append]
  omega
theorem map_range (l:List D) (f:D->List UInt8):l.map f=(List.range l.length).map fun i=>f (gD l i):=by
 apply List.ext_getElem (by simp)
 intro i h1 h2
 simp [zA2 (l:=l) (i:=i) (by simpa using h1)]
def rgK (g:D->KS) (l:List D):KS:=gK (fun i=>g (gD l i)) 0 l.length
theorem Ps.wrap {a b:UInt8} {t:List UInt8} {k:KS} (ha:zAa a=true) (hb:zAa b=true) (h:Pw t k):Ps ([a]++t++[b]) ((1,[a])::(k++[(1,[b])])):=by
 have h1:=(Ps.sign ha).appw h
 have h2:=h1.app (Ps.sign hb) ⟨by simp,zEy (zGL b hb).2.2⟩
 exact h2
def valK:Nat->D->KS
 |0,_=>[]
 |k+1,d =>
  if (d.f 0).n=1 then [(2,if (d.f 1).n=1 then [116,114,117,101] else [102,97,108,115,101])]
  else if (d.f 0).n=2 then [(3,Lib.itoa (d.f 1).n)]
  else if (d.f 0).n=3 then [(4,tx (d.f 2).s)]
  else if (d.f 0).n=4 then [(2,tx (d.f 2).s)]
  else if (d.f 0).n=7 then [(1,[36]),(2,tx (d.f 2).s)]
  else if (d.f 0).n=5 then (1,[91])::(gK (fun i=>valK k (gD (d.f 3).l i)) 0 (d.f 3).l.length++[(1,[93])])
  else if (d.f 0).n=6 then (1,[123])::(gK (fun i=>(2,tx (gD (d.f 4).l i).s)::(1,[58])::valK k (gD (d.f 3).l i)) 0 (d.f 3).l.length++[(1,[125])])
  else [(2,[110,117,108,108])]
structure NodeF (d:D):Prop where
 int0:(d.f 0).n=1\/(d.f 0).n=2\/(d.f 1).n=0
 txt0:(d.f 0).n=3\/(d.f 0).n=4\/(d.f 0).n=7\/tx (d.f 2).s=[]
 keys0:(d.f 0).n=6\/(d.f 4).l.length=0
 items0:(d.f 0).n=6\/(d.f 0).n=5\/(d.f 3).l.length=0
 kind:0<=(d.f 0).n/\(d.f 0).n<=7
 bool:(d.f 0).n=1->(d.f 1).n=0\/(d.f 1).n=1
 enum:(d.f 0).n=4->zEc (d.f 2).s=true
 var:(d.f 0).n=7->nameB (d.f 2).s=true
 obj:(d.f 0).n=6->(∀ i,i<(d.f 4).l.length->nameB (gD (d.f 4).l i).s=true)/\(d.f 4).l.length=(d.f 3).l.length/\(strsR d).Nodup
theorem zKE {p:D->Bool} {l:List D} (h:(l.any fun x => !p x)=false) : ∀ i,i<l.length->p (gD l i)=true:=fun i hi=>by
 rw [List.any_eq_false] at h
 have:=h _ (gD_mem hi)
 simpa using this
theorem xnode {d:D} (h:nodeL d=true):NodeF d:=by
 unfold nodeL zIg at h
 simp only [Bool.and_eq_true,Bool.or_eq_true,beq_iff_eq,decide_eq_true_eq,Bool.not_eq_true',beq_eq_false_iff_ne] at h
 obtain ⟨⟨⟨⟨⟨⟨⟨⟨h1,h2⟩,h3⟩,h4⟩,h5⟩,h6⟩,h7⟩,h8⟩,h9⟩:=h
 refine ⟨?_,?_,h3,?_,h5,?_,?_,?_,?_⟩
 . rcases h1 with (h | h) | h
   . exact .inl h
   . exact .inr (.inl h)
   . exact .inr (.inr h)
 . rcases h2 with ((h | h) | h) | h
   . exact .inl h
   . exact .inr (.inl h)
   . exact .inr (.inr (.inl h))
   . exact .inr (.inr (.inr h))
 . rcases h4 with (h | h) | h
   . exact .inl h
   . exact .inr (.inl h)
   . exact .inr (.inr h)
 . intro h
   rcases h6 with (h' | h') | h'
   . exact absurd h h'
   . exact .inl h'
   . exact .inr h'
 . intro h
   rcases h7 with h' | h'
   . exact absurd h h'
   . exact h'
 . intro h
   rcases h8 with h' | h'
   . exact absurd h h'
   . exact h'
 . intro h
   rcases h9 with h' | h'
   . exact absurd h h'
   . exact ⟨zKE h'.1.1,h'.1.2,h'.2⟩
theorem zDC {k:Nat} {d:D} (h:everyL (k+1) d=true):NodeF d /\ ∀ i,i<(d.f 3).l.length->everyL k (gD (d.f 3).l i)=true:=by
 unfold everyL at h
 rw [Bool.and_eq_true,Bool.not_eq_true'] at h
 exact ⟨xnode h.1,zKE h.2⟩
theorem zI8 {s:ByteArray} (h:zEc s=true):nameB s=true/\tx s≠[116,114,117,101]/\tx s≠[102,97,108,115,101]/\tx s≠[110,117,108,108]:=by
 unfold zEc at h
 simp only [Bool.and_eq_true,Bool.not_eq_true',beq_eq_false_iff_ne] at h
 exact ⟨h.1.1.1,h.1.1.2,h.1.2,h.2⟩
def litK (d:D):KS:=valK (bulkD d) d
def argK (a:D):KS:=(2,tx (a.f 0).s)::(1,[58])::litK (a.f 1)
def parK (l:List D):KS:=if l.length=0 then [] else (1,[40])::(rgK argK l++[(1,[41])])
def dirK (x:D):KS:=(1,[64])::(2,tx (x.f 0).s)::parK (x.f 1).l
def blkK (k:KS):KS:=(1,[123])::(k++[(1,[125])])
structure SelF (sub:List D->Nat->Prop) (d:D):Prop where
 args:argsR (d.f 4).l=true
 dirs:dirsR (d.f 5).l=true
 field:(d.f 0).n=1->tx (d.f 3).s=[]/\nameB (d.f 2).s=true/\(tx (d.f 1).s=[]\/nameB (d.f 1).s=true)/\sub (d.f 6).l 0
 spread:(d.f 0).n=2->tx (d.f 3).s=[]/\tx (d.f 1).s=[]/\(d.f 4).l.length=0/\(d.f 6).l.length=0/\nameB (d.f 2).s=true/\tx (d.f 2).s≠[111,110]
 inline:(d.f 0).n=3->tx (d.f 1).s=[]/\tx (d.f 2).s=[]/\(d.f 4).l.length=0/\(tx (d.f 3).s=[]\/nameB (d.f 3).s=true)/\sub (d.f 6).l 1
 kind:(d.f 0).n=1\/(d.f 0).n=2\/(d.f 0).n=3
def SetF (sel:D->Prop) (lv:Nat) (l:List D) (least:Nat):Prop:=least<=l.length/\l.length<=64/\(l.length=0\/lv<=24) /\ ∀ i,i<l.length->sel (gD l i)
end
section
open Go.RowKit
attribute [local irreducible] wpList Calls Code.wp AW AWo OpOk seqK zq zt loopK endK AC zg Yld Sub
structure VarsOk (K:Nat) (l:List D):Prop where
 wide : ∀ i,wideD (gD l i)
 bulk:bulkL l<=1048576
 dp : ∀ i,i<l.length->Dp K ((gD l i).f 3)
 good : ∀ i,i<l.length->goodV K ((gD l i).f 3)
structure VarSz (K:Nat) (v:D):Prop where
 name:(v.f 0).s.size<=1048576
 rname:((v.f 1).f 0).s.size<=1048576
 wraps:((v.f 1).f 1).l.length<=1048576
 rtext:(refB (tx ((v.f 1).f 0).s) ((v.f 1).f 1).l).length<=4000000
 dflt:bulkD (v.f 3)<=1048576
 dtext:(valT K (v.f 3)).length<=26000000
theorem VarsOk.sz {K:Nat} {l:List D} (h:VarsOk K l) {i:Nat} (hi:i<l.length):VarSz K (gD l i):=by
 have h0:=zAP hi
 have h0':=h.bulk
 have h1:=zDf K ((gD l i).f 3) ((h.wide i).f 3)
 have h2:=zl ((gD l i).f 3)
 have h3:=zl (gD l i)
 have h4:=zAN ((gD l i).f 0)
 have h5:=zAG (gD l i) 4
 have h7:=zDV (tx (((gD l i).f 1).f 0).s) (((gD l i).f 1).f 1).l
 have h8:=zAG ((gD l i).f 1) 2
 have h9:=zAN (((gD l i).f 1).f 0)
 have h10:=zAR (((gD l i).f 1).f 0).s
 have h11:=Nat.le_trans (zHX (((gD l i).f 1).f 1).l) (zx (((gD l i).f 1).f 1))
 simp only [sumN] at h5 h8
 refine ⟨?_,?_,?_,?_,?_,?_⟩<;>omega
end
section
open Go.RowKit
attribute [local irreducible] wpList Calls Code.wp AW AWo OpOk seqK zq zt loopK endK AC zg Yld Sub
attribute [local irreducible] ACB absLexG YldG
structure DocOk (K f:Nat) (q:D):Prop where
 wide:wideD q
 bulk:bulkD q<=1048576
 deep:f<=299
 vars : ∀ i,i<(q.f 0).l.length->VarsOk K ((gD (q.f 0).l i).f 2).l
 sels : ∀ i,i<(q.f 0).l.length->SelsOk K (f+1) ((gD (q.f 0).l i).f 3).l
 frag : ∀ i,i<(q.f 1).l.length->SelsOk K (f+1) ((gD (q.f 1).l i).f 2).l
end
section
def refK (n:List UInt8):List D->KS
 |[]=>[(2,n)]
 |d::ds=>if d.n==1 then refK n ds++[(1,[33])] else (1,[91])::(refK n ds++[(1,[93])])
theorem zJd {s:ByteArray} (h:nameB s=true) : ∀ l:List D,Pw (refB (tx s) l) (refK (tx s) l)
 |[] => .nm h
 |d::ds=>by
  have ih:=zJd h ds
  unfold refB refK
  split
  . exact (ih.app (Ps.sign (c:=33) rfl) ⟨by simp,zEy (by decide)⟩).w
  . exact (Ps.wrap rfl rfl ih).w
structure VarF (v:D):Prop where
 name:nameB (v.f 0).s=true
 rname:nameB ((v.f 1).f 0).s=true
 rlen:((v.f 1).f 1).l.length<=24
 wraps:zAi (((v.f 1).f 1).l.map D.n)=true
 has:(v.f 2).b=true->litR (v.f 3)=true/\bareR (bulkD (v.f 3)) (v.f 3)=true
 hasnt:(v.f 2).b=false->((v.f 3).f 0).n=0/\((v.f 3).f 1).n=0/\tx ((v.f 3).f 2).s=[]/\((v.f 3).f 3).l.length=0/\((v.f 3).f 4).l.length=0
structure OpF (o:D):Prop where
 kind:1<=(o.f 0).n/\(o.f 0).n<=3
 name:tx (o.f 1).s=[]\/nameB (o.f 1).s=true
 vlen:(o.f 2).l.length<=16
 vars : ∀ i,i<(o.f 2).l.length->VarF (gD (o.f 2).l i)
 sels:SetF (fun d=>selR (bulkL (o.f 3).l) 1 d=true) 1 (o.f 3).l 1
structure FragF (o:D):Prop where
 name:nameB (o.f 0).s=true
 notOn:tx (o.f 0).s≠[111,110]
 on:nameB (o.f 1).s=true
 sels:SetF (fun d=>selR (bulkL (o.f 2).l) 1 d=true) 1 (o.f 2).l 1
structure QueF (q:D):Prop where
 len:1<=(q.f 0).l.length+(q.f 1).l.length/\(q.f 0).l.length+(q.f 1).l.length<=64
 ops : ∀ i,i<(q.f 0).l.length->OpF (gD (q.f 0).l i)
 frags : ∀ i,i<(q.f 1).l.length->FragF (gD (q.f 1).l i)
def mkT (p:Int × List UInt8):Tok:=⟨p.1,p.2,0⟩
def pst (l:KS) (v:Bool) (n:Nat):PS:=⟨l.map mkT,v,n⟩
theorem zLC (k:Int) (s:List UInt8) (r:KS) (v:Bool) (n:Nat):hdT (pst ((k,s)::r) v n)=⟨k,s,0⟩:=rfl
theorem zBK {k:Int} {s:List UInt8} {r:KS} {v:Bool} {n:Nat} (h:k≠5):nxT (pst ((k,s)::r) v n)=pst r v n:=by
 unfold nxT
 rw [zLC,if_neg h]
 rfl
theorem zEQ (k:Int) (s:List UInt8) (r:KS) (v:Bool) (n:Nat) (t:List UInt8):isS (pst ((k,s)::r) v n) t=(k==1&&s==t):=rfl
theorem zBC (s:List UInt8) (r:KS) (v:Bool) (n:Nat):isS (pst ((1,s)::r) v n) s=true:=by
 rw [zEQ];simp
theorem zBV (s:List UInt8) (r:KS) (v:Bool) (n:Nat):takeQ s (pst ((1,s)::r) v n) = .ok ((),pst r v n):=by
 unfold takeQ
 rw [if_pos (zBC s r v n),zBK (by decide)]
theorem zAz (s:List UInt8) (r:KS) (v:Bool) (n:Nat):nameQ (pst ((2,s)::r) v n) = .ok (s,pst r v n):=by
 unfold nameQ
 rw [zLC,if_pos rfl,zBK (by decide)]
theorem zW {α β:Type} {a:α} {x:PS} {f:α->PS->PR β}:thenQ (.ok (a,x)) f=f a x:=rfl
def nS (r:KS) (s:List UInt8):Prop:=∀ v n,isS (pst r v n) s=false
theorem zAj {k:Int} {s t:List UInt8} {r:KS} (h:(k==1&&s==t)=false):nS ((k,s)::r) t:=fun _ _=>h
theorem nS_gK {g:Nat->KS} {j m:Nat} {r:KS} {s:List UInt8} (hg : ∀ i r,nS (g i++r) s) (hr:nS r s):nS (gK g j m++r) s:=by
 cases m with
 |zero=>exact hr
 |succ m=>rw [zBv,List.append_assoc];exact hg _ _
def cnt:List Int->Nat
 |[]=>0
 |d::l=>if d=1 then cnt l else cnt l+1
theorem zDz (d:Int) (l:List Int):cnt (d::l)=if d=1 then cnt l else cnt l+1:=rfl
theorem cnt_app (a b:List Int):cnt (a++b)=cnt a+cnt b:=by
 induction a with
 |nil=>simp [cnt]
 |cons d l ih =>
  rw [List.cons_append,zDz,zDz]
  split<;>omega
def clsK (es:List Int):KS:=es.map fun d=>(1,[if d=1 then 33 else 93])
theorem refK_eq (n:List UInt8) : ∀ ds:List D,refK n ds=List.replicate (cnt (ds.map D.n)) (1,[91])++(2,n)::clsK (ds.map D.n).reverse
 |[]=>rfl
 |d::ds=>by
  have ih:=refK_eq n ds
  unfold refK
  rw [ih,List.map_cons,List.reverse_cons,zDz]
  by_cases h:d.n=1
  . rw [if_pos (by rw [h];rfl),if_pos h]
    simp [clsK,h]
  . rw [if_neg (by simpa using h),if_neg h,List.replicate_succ]
    simp [clsK,h]
theorem cnt_rev (l:List Int):cnt l.reverse=cnt l:=by
 induction l with
 |nil=>rfl
 |cons d l ih =>
  rw [List.reverse_cons,cnt_app,ih,zDz,zDz]
  split<;>simp [cnt]
theorem zKh {r:KS} {v:Bool} {n:Nat} (hr:nS r [91]) : ∀ (m f:Nat),m<=f->openQ f (pst (List.replicate m (1,[91])++r) v n)=(m,pst r v n)
 |0,0,_=>rfl
 |0,f+1,_=>by
  unfold openQ
  rw [if_neg (by rw [List.replicate_zero,List.nil_append,hr];decide)]
  rfl
 |m+1,0,h=>by omega
 |m+1,f+1,h=>by
  unfold openQ
  rw [List.replicate_succ,List.cons_append,if_pos (zBC _ _ _ _),zBK (by decide),zKh hr m f (by omega)]
theorem zKG : ∀ {l:List Int},zAi l=true->(∀ x∈l,x=1\/x=2) /\ ∀ p a b q,l=p++a::b::q -> ¬ (a=1/\b=1)
 |[],_=>⟨fun _ h=>absurd h (by simp),fun p a b q e=>by have:=congrArg List.length e;simp at this⟩
 |[w],h=>by
  unfold zAi at h
  simp only [Bool.or_eq_true,beq_iff_eq] at h
  refine ⟨fun x hx => ?_,fun p a b q e => ?_⟩
  . rw [List.mem_singleton] at hx;rw [hx];exact h
  . have:=congrArg List.length e;simp at this;omega
 |w::u::r,h=>by
  unfold zAi at h
  simp only [Bool.and_eq_true,Bool.or_eq_true,beq_iff_eq,Bool.not_eq_true',Bool.and_eq_false_iff,beq_eq_false_iff_ne] at h
  obtain ⟨⟨h1,h2⟩,h3⟩:=h
  obtain ⟨i1,i2⟩:=zKG h3
  refine ⟨fun x hx => ?_,fun p a b q e => ?_⟩
  . rcases List.mem_cons.1 hx with rfl | hx
    . exact h1
    . exact i1 x hx
  . cases p with
    |nil =>
     rw [List.nil_append] at e
     injection e with e1 e2
     injection e2 with e2 e3
     subst e1 e2
     rintro ⟨a1,a2⟩
     rcases h2 with h2 | h2
     . exact h2 a1
     . exact h2 a2
    |cons y p =>
     rw [List.cons_append] at e
     injection e with e1 e2
     exact i2 p a b q e2
theorem zFp {r:KS} {v:Bool} {n:Nat} (hr:nS r [33]) : ∀ (es w:List Int),(∀ x∈es,x=1\/x=2)->(∀ p a b q,es=p++a::b::q -> ¬ (a=1/\b=1)) ->
 closeQ (cnt es) w (pst (clsK es++r) v n) = .ok (es.reverse++w,pst r v n)
 |[],w,_,_=>by
  show closeQ 0 w (pst r v n)=_
  unfold closeQ
  rw [if_neg (by rw [hr];decide)]
  rfl
 |[d],w,h,_=>by
  rcases h d (by simp) with rfl | rfl
  . show closeQ 0 w (pst ((1,[33])::r) v n)=_
    unfold closeQ
    rw [if_pos (zBC _ _ _ _),zBK (by decide)]
    rfl
  . show closeQ 1 w (pst ((1,[93])::r) v n)=_
    unfold closeQ
    rw [if_neg (by rw [zEQ];decide),if_neg (by rw [zEQ];decide),zBV,zW]
    unfold closeQ
    rw [if_neg (by rw [hr];decide)]
    rfl
 |d::e::es,w,h,ha=>by
  rcases h d (by simp) with rfl | rfl
  . have he:e=2:=by
     rcases h e (by simp) with h' | h'
     . exact absurd ⟨rfl,h'⟩ (ha [] 1 e es rfl)
     . exact h'
    subst he
    have ih:=zFp (v:=v) (n:=n) hr es (2::1::w) (fun x hx=>h x (by simp [hx])) (fun p a b q e'=>ha (1::2::p) a b q (by rw [e'];rfl))
    show closeQ (cnt es+1) w (pst ((1,[33])::(1,[93])::(clsK es++r)) v n)=_
    unfold closeQ
    rw [if_pos (zBC _ _ _ _),if_pos (zBC _ _ _ _),zBK (by decide),zBV,zW,ih]
    simp
  . have ih:=zFp (v:=v) (n:=n) hr (e::es) (2::w) (fun x hx=>h x (by simp at hx |-;exact .inr hx)) (fun p a b q e'=>ha (2::p) a b q (by rw [e'];rfl))
    show closeQ (cnt (e::es)+1) w (pst ((1,[93])::(clsK (e::es)++r)) v n)=_
    unfold closeQ
    rw [if_neg (by rw [zEQ];decide),if_neg (by rw [zEQ];decide),zBV,zW,ih]
    simp
theorem typ_pst {nm:List UInt8} {ds:List D} {r:KS} {v:Bool} {n:Nat} (hw:zAi (ds.map D.n)=true) (hl:ds.length<=24) (hr:nS r [33]):typQ (pst (refK nm ds++r) v n) = .ok (refD nm (ds.map D.n),pst r v n):=by
 obtain ⟨h1,h2⟩:=zKG hw
 have e:refK nm ds++r=List.replicate (cnt (ds.map D.n)) (1,[91])++(2,nm)::(clsK (ds.map D.n).reverse++r):=by rw [refK_eq];simp
 have ho:=zKh (r:=(2,nm)::(clsK (ds.map D.n).reverse++r)) (v:=v) (n:=n) (zAj rfl) (cnt (ds.map D.n)) (pst (refK nm ds++r) v n).ts.length (by rw [e];simp [pst])
 have hc:=zFp (v:=v) (n:=n) hr (ds.map D.n).reverse [] (fun x hx=>h1 x (by simpa using hx)) (fun p a b q e'=>fun hab=>by
  have e2:ds.map D.n=q.reverse++b::a::p.reverse:=by have:=congrArg List.reverse e';simpa using this
  exact h2 _ _ _ _ e2 ⟨hab.2,hab.1⟩)
 rw [cnt_rev] at hc
 unfold typQ zA1
 rw [e] at ho |-
 rw [ho]
 dsimp only
 rw [zAz,zW,hc,zW,zW]
 dsimp only
 rw [if_neg (by simp;omega)]
 simp
def cnV:Nat->D->D
 |0,d=>d
 |k+1,d=>valD (d.f 0).n (d.f 1).n (tx (d.f 2).s) ((List.range (d.f 3).l.length).map fun i=>cnV k (gD (d.f 3).l i)) (strsR d)
theorem zLa (k:Nat) (d:D):cnV (k+1) d=valD (d.f 0).n (d.f 1).n (tx (d.f 2).s) ((List.range (d.f 3).l.length).map fun i=>cnV k (gD (d.f 3).l i)) (strsR d):=rfl
def cL (d:D):D:=cnV (bulkD d) d
theorem zBl {f lv:Nat} {kk:Int} {s:List UInt8} {r:KS} {v:Bool} {n:Nat} (h0:zBs (pst ((kk,s)::r) v n)=false) (hk:kk≠5) (hlv:lv<=24) (hn:n<4096) :
 valueQ (f+1) lv (pst ((kk,s)::r) v n)=(if kk=3 then .ok (valD 2 (numQ s) [] [] [],pst r v (n+1)) else if kk=4 then .ok (valD 3 0 s [] [],pst r v (n+1)) else if kk=2 then .ok (zCd s,pst r v (n+1))
  else if s=[36] then thenQ (nameQ (pst r v (n+1))) (fun n z => .ok (valD 7 0 n [] [],z))
  else if s=[91] then thenQ (itemsQ (valueQ f (lv+1)) (r.length+1) [] (pst r v (n+1))) (fun l z => .ok (valD 5 0 [] l [],z))
  else thenQ (z7 (valueQ f (lv+1)) (r.length+1) [] [] (pst r v (n+1))) (fun l z => .ok (valD 6 0 [] l.2 l.1,z))):=by
 have hy:({ nxT (pst ((kk,s)::r) v n) with nd:=n+1 }:PS)=pst r v (n+1):=by rw [zBK hk];rfl
 have hlen:(pst r v (n+1)).ts.length=r.length:=by simp [pst]
 unfold valueQ
 rw [show (pst ((kk,s)::r) v n).nd=n from rfl,if_neg (by rw [h0];decide),if_neg (by omega),if_neg (show ¬ 4096<=n by omega)]
 dsimp only
 rw [hy,zLC,zBK hk]
 dsimp only
 rw [show (pst r v n).ts.length=r.length by simp [pst]]
theorem zIt {val:PS->PR D} {g:Nat->KS} {c:Nat->D} {sz:Nat->Nat} {v:Bool} {n0 N:Nat} (hval : ∀ i r,i<N->val (pst (g i++r) v (n0+sumN sz i)) = .ok (c i,pst r v (n0+sumN sz (i+1))))
 (hfst : ∀ i r n,i<N->isS (pst (g i++r) v n) [93]=false) : ∀ (m j f:Nat) (r:KS),j+m=N->m<f ->
 itemsQ val f ((List.range j).map c) (pst (gK g j m++(1,[93])::r) v (n0+sumN sz j)) = .ok ((List.range N).map c,pst r v (n0+sumN sz N))
 |_,_,0,_,_,hf=>by omega
 |0,j,f+1,r,hj,_=>by
  have e:j=N:=by omega
  subst e
  unfold itemsQ
  rw [zFc,List.nil_append,if_pos (zBC _ _ _ _),zBK (by decide)]
 |m+1,j,f+1,r,hj,hf=>by
  have ih:=zIt hval hfst m (j+1) f r (by omega) (by omega)
  unfold itemsQ
  rw [zBv,List.append_assoc,if_neg (by rw [hfst j _ _ (by omega)];decide),hval j _ (by omega),zW]
  rw [List.range_succ,List.map_append] at ih
  exact ih
theorem zGh {val:PS->PR D} {g:Nat->KS} {c:Nat->D} {key:Nat->List UInt8} {sz:Nat->Nat} {v:Bool} {n0 N:Nat} (hval : ∀ i r,i<N->val (pst (g i++r) v (n0+sumN sz i)) = .ok (c i,pst r v (n0+sumN sz (i+1))))
 (hnd : ∀ i j,i<j->j<N->key i≠key j) : ∀ (m j f:Nat) (r:KS),j+m=N->m<f ->
 z7 val f ((List.range j).map key) ((List.range j).map c) (pst (gK (fun i=>(2,key i)::(1,[58])::g i) j m++(1,[125])::r) v (n0+sumN sz j)) = .ok (((List.range N).map key,(List.range N).map c),pst r v (n0+sumN sz N))
 |_,_,0,_,_,hf=>by omega
 |0,j,f+1,r,hj,_=>by
  have e:j=N:=by omega
  subst e
  unfold z7
  rw [zFc,List.nil_append,if_pos (zBC _ _ _ _),zBK (by decide)]
 |m+1,j,f+1,r,hj,hf=>by
  have ih:=zGh hval hnd m (j+1) f r (by omega) (by omega)
  have hc:((List.range j).map key).contains (key j)=false:=by
   simp only [List.contains_eq_mem,decide_eq_false_iff_not,List.mem_map,List.mem_range]
   rintro ⟨i,hi,e⟩
   exact hnd i j hi (by omega) e
  unfold z7
  rw [zBv,List.append_assoc,List.cons_append,List.cons_append,if_neg (by rw [zEQ];simp),zAz,zW,if_neg (by rw [hc];decide),zBV,zW,hval j _ (by omega),zW]
  rw [List.range_succ,List.map_append,List.map_append] at ih
  exact ih
theorem zKs {f:Nat->Nat} : ∀ {n i:Nat},i<n->f i<=maxN f n
 |0,_,h=>by omega
 |n+1,i,h=>by
  unfold maxN
  by_cases e:i=n
  . subst e;omega
  . have:=zKs (f:=f) (n:=n) (i:=i) (by omega);omega
theorem zKP {d:D} (h:(d.f 4).l.length=0):strsR d=[]:=by
 unfold strsR
 rw [List.length_eq_zero_iff.1 h];rfl
theorem zDF {k:Nat} {d:D} (h:(d.f 3).l.length=0) (h2:(d.f 4).l.length=0):cnV (k+1) d=valD (d.f 0).n (d.f 1).n (tx (d.f 2).s) [] []/\sizeR (k+1) d=1:=by
 unfold cnV sizeR
 rw [h,zKP h2]
 exact ⟨rfl,rfl⟩
theorem zKM {k:Nat} {d:D} (h:everyL k d=true) : ∃ kk s t,valK k d=(kk,s)::t/\(kk==1&&s==[93])=false:=by
 cases k with
 |zero=>cases h
 |succ k =>
  unfold valK
  repeat' split
  all_goals exact ⟨_,_,_,rfl,rfl⟩
theorem zH4 : ∀ (k f lv:Nat) (d:D) (r:KS) (v:Bool) (n:Nat),everyL k d=true->wideD d->lv+depthR k d<=25->depthR k d<=f->n+sizeR k d<=4096->(v=false->bareR k d=true) ->
 valueQ f lv (pst (valK k d++r) v n) = .ok (cnV k d,pst r v (n+sizeR k d))
 |0,_,_,_,_,_,_,h,_,_,_,_,_=>by cases h
 |k+1,f,lv,d,r,v,n,h,hw,hlv,hf,hn,hb=>by
  obtain ⟨hN,hi⟩:=zDC h
  have hd1:1<=depthR (k+1) d:=by unfold depthR;omega
  have hs1:1<=sizeR (k+1) d:=by unfold sizeR;omega
  obtain ⟨f,rfl⟩ : ∃ q,f=q+1:=⟨f-1,by omega⟩
  have hdep : ∀ i,i<(d.f 3).l.length->depthR k (gD (d.f 3).l i)+1<=depthR (k+1) d:=fun i hl=>by
   have:=zKs (f:=fun i=>depthR k (gD (d.f 3).l i)) hl
   have e:depthR (k+1) d=maxN (fun i=>depthR k (gD (d.f 3).l i)) (d.f 3).l.length+1:=rfl
   omega
  have hsz:sizeR (k+1) d=1+sumN (fun i=>sizeR k (gD (d.f 3).l i)) (d.f 3).l.length:=rfl
  have hbar:v=false->(d.f 0).n≠7 /\ ∀ i,i<(d.f 3).l.length->bareR k (gD (d.f 3).l i)=true:=fun e=>by
   have:=hb e
   unfold bareR at this
   simp only [Bool.and_eq_true,Bool.not_eq_true',beq_eq_false_iff_ne] at this
   exact ⟨this.1,zKE this.2⟩
  have hval : ∀ i r,i<(d.f 3).l.length->valueQ f (lv+1) (pst (valK k (gD (d.f 3).l i)++r) v (n+1+sumN (fun i=>sizeR k (gD (d.f 3).l i)) i)) = .ok (cnV k (gD (d.f 3).l i),pst r v (n+1+sumN (fun i=>sizeR k (gD (d.f 3).l i)) (i+1))):=fun i r hl=>by
   have h1:=hdep i hl
   have h2:=zBz (fun i=>sizeR k (gD (d.f 3).l i)) (show i+1<=(d.f 3).l.length by omega)
   have h3:sumN (fun i=>sizeR k (gD (d.f 3).l i)) (i+1)=sumN (fun i=>sizeR k (gD (d.f 3).l i)) i+sizeR k (gD (d.f 3).l i):=rfl
   rw [zH4 k f (lv+1) _ r v _ (hi i hl) ((hw.f 3).l i) (by omega) (by omega) (by omega) fun e=>(hbar e).2 i hl,h3,Nat.add_assoc (n+1)]
  by_cases k1:(d.f 0).n=1
  . have i0:(d.f 3).l.length=0:=by rcases hN.items0 with e | e | e<;>omega
    have q0:(d.f 4).l.length=0:=by rcases hN.keys0 with e | e<;>omega
    have t0:tx (d.f 2).s=[]:=by rcases hN.txt0 with e | e | e | e<;>first | omega | exact e
    obtain ⟨e1,e2⟩:=zDF (k:=k) i0 q0
    rw [e1,e2,t0,k1]
    unfold valK
    rw [if_pos k1,List.cons_append,List.nil_append,zBl rfl (by decide) (by omega) (by omega),if_neg (by decide),if_neg (by decide),if_pos rfl]
    rcases hN.bool k1 with e | e
    . rw [e,if_neg (by decide)];rfl
    . rw [e,if_pos rfl];rfl
  by_cases k2:(d.f 0).n=2
  . have i0:(d.f 3).l.length=0:=by rcases hN.items0 with e | e | e<;>omega
    have q0:(d.f 4).l.length=0:=by rcases hN.keys0 with e | e<;>omega
    have t0:tx (d.f 2).s=[]:=by rcases hN.txt0 with e | e | e | e<;>first | omega | exact e
    obtain ⟨e1,e2⟩:=zDF (k:=k) i0 q0
    rw [e1,e2,t0,k2]
    unfold valK
    rw [if_neg k1,if_pos k2,List.cons_append,List.nil_append,zBl rfl (by decide) (by omega) (by omega),if_pos rfl]
    unfold numQ
    rw [zKk _ (hw.f 1).n.1 (hw.f 1).n.2]
  by_cases k3:(d.f 0).n=3
  . have i0:(d.f 3).l.length=0:=by rcases hN.items0 with e | e | e<;>omega
    have q0:(d.f 4).l.length=0:=by rcases hN.keys0 with e | e<;>omega
    have n0:(d.f 1).n=0:=by rcases hN.int0 with e | e | e<;>omega
    obtain ⟨e1,e2⟩:=zDF (k:=k) i0 q0
    rw [e1,e2,n0,k3]
    unfold valK
    rw [if_neg k1,if_neg k2,if_pos k3,List.cons_append,List.nil_append,zBl rfl (by decide) (by omega) (by omega),if_neg (by decide),if_pos rfl]
  by_cases k4:(d.f 0).n=4
  . have i0:(d.f 3).l.length=0:=by rcases hN.items0 with e | e | e<;>omega
    have q0:(d.f 4).l.length=0:=by rcases hN.keys0 with e | e<;>omega
    have n0:(d.f 1).n=0:=by rcases hN.int0 with e | e | e<;>omega
    obtain ⟨-,w1,w2,w3⟩:=zI8 (hN.enum k4)
    obtain ⟨e1,e2⟩:=zDF (k:=k) i0 q0
    rw [e1,e2,n0,k4]
    unfold valK
    rw [if_neg k1,if_neg k2,if_neg k3,if_pos k4,List.cons_append,List.nil_append,zBl rfl (by decide) (by omega) (by omega),if_neg (by decide),if_neg (by decide),if_pos rfl]
    unfold zCd
    rw [if_neg w1,if_neg w2,if_neg w3]
  by_cases k7:(d.f 0).n=7
  . have i0:(d.f 3).l.length=0:=by rcases hN.items0 with e | e | e<;>omega
    have q0:(d.f 4).l.length=0:=by rcases hN.keys0 with e | e<;>omega
    have n0:(d.f 1).n=0:=by rcases hN.int0 with e | e | e<;>omega
    obtain ⟨e1,e2⟩:=zDF (k:=k) i0 q0
    cases v with
    |false=>exact absurd k7 (hbar rfl).1
    |true =>
     rw [e1,e2,n0,k7]
     unfold valK
     rw [if_neg k1,if_neg k2,if_neg k3,if_neg k4,if_pos k7,List.cons_append,List.cons_append,List.nil_append,zBl rfl (by decide) (by omega) (by omega),if_neg (by decide),if_neg (by decide),if_neg (by decide),if_pos rfl,zAz]
     rfl
  by_cases k5:(d.f 0).n=5
  . have q0:(d.f 4).l.length=0:=by rcases hN.keys0 with e | e<;>omega
    have n0:(d.f 1).n=0:=by rcases hN.int0 with e | e | e<;>omega
    have t0:tx (d.f 2).s=[]:=by rcases hN.txt0 with e | e | e | e<;>first | omega | exact e
    have hit:=zIt (v:=v) hval (fun i r n hl=>by
     obtain ⟨kk,s,t,e,hk⟩:=zKM (hi i hl)
     rw [e,List.cons_append,zEQ];exact hk) (d.f 3).l.length 0 ((gK (fun i=>valK k (gD (d.f 3).l i)) 0 (d.f 3).l.length++(1,[93])::r).length+1) r (by omega) (by
      have:=zDs (fun i=>if i<(d.f 3).l.length then valK k (gD (d.f 3).l i) else [(1,[])]) (fun i=>by
       split
       . rename_i hl
         obtain ⟨kk,s,t,e,-⟩:=zKM (hi i hl)
         rw [e];simp
       . simp) (d.f 3).l.length 0
      have e2:gK (fun i=>if i<(d.f 3).l.length then valK k (gD (d.f 3).l i) else [(1,[])]) 0 (d.f 3).l.length=gK (fun i=>valK k (gD (d.f 3).l i)) 0 (d.f 3).l.length:=by
       unfold gK
       rw [List.flatMap_def,List.flatMap_def]
       congr 1
       refine List.map_congr_left fun i hi2 => ?_
       have:i<(d.f 3).l.length:=by simpa using List.mem_range'.1 hi2 |>.elim fun x hx=>by omega
       rw [if_pos this]
      rw [e2] at this
      rw [List.length_append]
      omega)
    have e0:n+1+sumN (fun i=>sizeR k (gD (d.f 3).l i)) 0=n+1:=rfl
    rw [e0] at hit
    unfold valK
    rw [if_neg k1,if_neg k2,if_neg k3,if_neg k4,if_neg k7,if_pos k5]
    have ea:(1,[91])::(gK (fun i=>valK k (gD (d.f 3).l i)) 0 (d.f 3).l.length++[(1,[93])])++r=((1:Int),[(91:UInt8)])::(gK (fun i=>valK k (gD (d.f 3).l i)) 0 (d.f 3).l.length++(1,[93])::r):=by simp
    rw [ea,zBl rfl (by decide) (by omega) (by omega),if_neg (by decide),if_neg (by decide),if_neg (by decide),if_neg (by decide),if_pos rfl]
    have hit':itemsQ (valueQ f (lv+1)) ((gK (fun i=>valK k (gD (d.f 3).l i)) 0 (d.f 3).l.length++(1,[93])::r).length+1) [] (pst (gK (fun i=>valK k (gD (d.f 3).l i)) 0 (d.f 3).l.length++(1,[93])::r) v (n+1))=_:=hit
    rw [hit',zW,hsz,Nat.add_assoc n 1,zLa,k5,n0,t0,zKP q0]
  by_cases k6:(d.f 0).n=6
  . obtain ⟨-,hlen,hnd⟩:=hN.obj k6
    have n0:(d.f 1).n=0:=by rcases hN.int0 with e | e | e<;>omega
    have t0:tx (d.f 2).s=[]:=by rcases hN.txt0 with e | e | e | e<;>first | omega | exact e
    have hst:strsR d=(List.range (d.f 3).l.length).map fun i=>tx (gD (d.f 4).l i).s:=by
     unfold strsR
     rw [<- hlen]
     exact map_range (d.f 4).l fun x=>tx x.s
    have hkey : ∀ i j,i<j->j<(d.f 3).l.length->tx (gD (d.f 4).l i).s≠tx (gD (d.f 4).l j).s:=fun i j hij hj=>by
     rw [hst] at hnd
     have:=List.pairwise_iff_getElem.1 hnd i j (by simp;omega) (by simp;omega) hij
     simpa using this
    have hit:=zGh (key:=fun i=>tx (gD (d.f 4).l i).s) (v:=v) hval hkey (d.f 3).l.length 0 ((gK (fun i=>(2,tx (gD (d.f 4).l i).s)::(1,[58])::valK k (gD (d.f 3).l i)) 0 (d.f 3).l.length++(1,[125])::r).length+1) r (by omega) (by
     have:=zDs (fun i=>(2,tx (gD (d.f 4).l i).s)::(1,[58])::valK k (gD (d.f 3).l i)) (fun i=>by simp) (d.f 3).l.length 0
     rw [List.length_append]
     omega)
    have e0:n+1+sumN (fun i=>sizeR k (gD (d.f 3).l i)) 0=n+1:=rfl
    rw [e0] at hit
    unfold valK
    rw [if_neg k1,if_neg k2,if_neg k3,if_neg k4,if_neg k7,if_neg k5,if_pos k6]
    have ea:(1,[123])::(gK (fun i=>(2,tx (gD (d.f 4).l i).s)::(1,[58])::valK k (gD (d.f 3).l i)) 0 (d.f 3).l.length++[(1,[125])])++r=((1:Int),[(123:UInt8)])::(gK (fun i=>(2,tx (gD (d.f 4).l i).s)::(1,[58])::valK k (gD (d.f 3).l i)) 0 (d.f 3).l.length++(1,[125])::r):=by simp
    rw [ea,zBl rfl (by decide) (by omega) (by omega),if_neg (by decide),if_neg (by decide),if_neg (by decide),if_neg (by decide),if_neg (by decide)]
    have hit':z7 (valueQ f (lv+1)) ((gK (fun i=>(2,tx (gD (d.f 4).l i).s)::(1,[58])::valK k (gD (d.f 3).l i)) 0 (d.f 3).l.length++(1,[125])::r).length+1) [] [] (pst (gK (fun i=>(2,tx (gD (d.f 4).l i).s)::(1,[58])::valK k (gD (d.f 3).l i)) 0 (d.f 3).l.length++(1,[125])::r) v (n+1))=_:=hit
    rw [hit',zW,hsz,Nat.add_assoc n 1,zLa,k6,n0,t0,hst]
  . have kd:=hN.kind
    have k0:(d.f 0).n=0:=by omega
    have i0:(d.f 3).l.length=0:=by rcases hN.items0 with e | e | e<;>omega
    have q0:(d.f 4).l.length=0:=by rcases hN.keys0 with e | e<;>omega
    have n0:(d.f 1).n=0:=by rcases hN.int0 with e | e | e<;>omega
    have t0:tx (d.f 2).s=[]:=by rcases hN.txt0 with e | e | e | e<;>first | omega | exact e
    obtain ⟨e1,e2⟩:=zDF (k:=k) i0 q0
    rw [e1,e2,n0,t0,k0]
    unfold valK
    rw [if_neg k1,if_neg k2,if_neg k3,if_neg k4,if_neg k7,if_neg k5,if_neg k6,List.cons_append,List.nil_append,zBl rfl (by decide) (by omega) (by omega),if_neg (by decide),if_neg (by decide),if_pos rfl]
    rfl
theorem zH2 {d:D} {r:KS} {v:Bool} {n:Nat} (h:litR d=true) (hw:wideD d) (hb:v=false->bareR (bulkD d) d=true):zAT (pst (litK d++r) v n) = .ok (cL d,pst r v (sizeR (bulkD d) d)):=by
 unfold litR at h
 simp only [Bool.and_eq_true,decide_eq_true_eq] at h
 have:=zH4 (bulkD d) 25 1 d r v 0 h.2 hw (by omega) (by omega) (by omega) hb
 rw [Nat.zero_add] at this
 exact this
def rgD (c:D->D) (l:List D):List D:=(List.range l.length).map fun i=>c (gD l i)
def cA (a:D):D:=argD (tx (a.f 0).s) (cL (a.f 1))
def cDir (x:D):D:=dirD (tx (x.f 0).s) (rgD cA (x.f 1).l)
theorem zFx (c:Nat->D) (j:Nat):((List.range j).map c).length=j:=by simp
theorem zJn {l:List D} {r:KS} {s:List UInt8} (h:([64]==s)=false) (hr:nS r s):nS (rgK dirK l++r) s:=
 nS_gK (fun i r=>zAj (by simpa using h)) hr
def insK (l:List D) (g:D->KS):KS:=if l.length=0 then [] else (1,[40])::(rgK g l++[(1,[41])])
def inK (x:D):KS:=(2,tx (x.f 0).s)::(1,[58])::(refK (tx ((x.f 1).f 0).s) ((x.f 1).f 1).l++((if (x.f 2).b=true then (1,[61])::litK (x.f 3) else [])++rgK dirK (x.f 4).l))
def fdK (x:D):KS:=(2,tx (x.f 0).s)::(insK (x.f 1).l inK++(1,[58])::(refK (tx ((x.f 2).f 0).s) ((x.f 2).f 1).l++rgK dirK (x.f 3).l))
def mbK (x:D):KS:=(2,tx (x.f 0).s)::rgK dirK (x.f 1).l
def sepK (s:List UInt8):List D->KS
 |[]=>[]
 |[x]=>[(2,tx x.s)]
 |x::y::r=>(2,tx x.s)::(1,s)::sepK s (y::r)
def wordD (k:Int):List UInt8:=if k=1 then zH9 else if k=2 then zFY else if k=3 then zGF else if k=4 then enumT else zK8
def zDO (l:List D):KS:=if l.length=0 then [] else (2,zIw)::sepK [38] l
def bodyK (d:D):KS:=
 if (d.f 0).n=3 then (1,[61])::sepK [124] ((d.f 5).l.map fun x=>x.f 0)
 else blkK (if (d.f 0).n=5 then rgK inK (d.f 6).l else if (d.f 0).n=4 then rgK mbK (d.f 5).l else rgK fdK (d.f 4).l)
def zEV (d:D):KS:=(2,wordD (d.f 0).n)::(2,tx (d.f 1).s)::(zDO (d.f 2).l++(rgK dirK (d.f 3).l++bodyK d))
def sdocK (l:List D):KS:=rgK zEV l
def cIn (x:D):D:=sInD (tx (x.f 0).s) (refD (tx ((x.f 1).f 0).s) (((x.f 1).f 1).l.map D.n)) (x.f 2).b (if (x.f 2).b=true then cL (x.f 3) else zDK) (rgD cDir (x.f 4).l)
def cFd (x:D):D:=sFdD (tx (x.f 0).s) (rgD cIn (x.f 1).l) (refD (tx ((x.f 2).f 0).s) (((x.f 2).f 1).l.map D.n)) (rgD cDir (x.f 3).l)
def cMb (x:D):D:=sMbD (tx (x.f 0).s) (rgD cDir (x.f 1).l)
def cNm (x:D):D:=strD (tx x.s)
def cDf (d:D):D:=sDfD (d.f 0).n (tx (d.f 1).s) ((d.f 2).l.map cNm) (rgD cDir (d.f 3).l) (if (d.f 0).n=1\/(d.f 0).n=2 then rgD cFd (d.f 4).l else [])
 (if (d.f 0).n=3 then ((d.f 5).l.map fun x=>mbOf (cNm (x.f 0))) else if (d.f 0).n=4 then rgD cMb (d.f 5).l else []) (if (d.f 0).n=5 then rgD cIn (d.f 6).l else [])
structure EndO (r:KS):Prop where
 bang:nS r [33]
 at_:nS r [64]
 par:nS r [40]
 eq:nS r [61]
theorem endO_name (s:List UInt8) (r:KS):EndO ((2,s)::r):=⟨zAj rfl,zAj rfl,zAj rfl,zAj rfl⟩
theorem endO_sign {s:List UInt8} {r:KS} (h:s≠[33]/\s≠[64]/\s≠[40]/\s≠[61]):EndO ((1,s)::r):=
 ⟨zAj (by simp [h.1]),zAj (by simp [h.2.1]),zAj (by simp [h.2.2.1]),zAj (by simp [h.2.2.2])⟩
theorem zCr {el:PS->PR D} {g:D->KS} {c:D->D} {e:List UInt8} {most:Nat} {l:List D} (hl:l.length<=most) (h0:0<l.length) (he:e≠[33]/\e≠[64]/\e≠[40]/\e≠[61])
 (hel : ∀ i r n,i<l.length->EndO r -> ∃ n',el (pst (g (gD l i)++r) false n) = .ok (c (gD l i),pst r false n')) (hg : ∀ x,∃ s r,g x=(2,s)::r) : ∀ (m j f:Nat) (r:KS) (n:Nat),j+m=l.length->m<f ->
 ∃ n',manyF el e most f ((List.range j).map fun i=>c (gD l i)) (pst (gK (fun i=>g (gD l i)) j m++(1,e)::r) false n) = .ok (rgD c l,pst r false n')
 |_,_,0,_,_,_,hf=>by omega
 |0,j,f+1,r,n,hj,_=>by
  have e':j=l.length:=by omega
  subst e'
  unfold manyF
  rw [zFx,zFc,List.nil_append,if_pos ⟨by omega,zBC _ _ _ _⟩,zBK (by decide)]
  exact ⟨n,rfl⟩
 |m+1,j,f+1,r,n,hj,hf=>by
  have hj2:j<l.length:=by omega
  have hend:EndO (gK (fun i=>g (gD l i)) (j+1) m++(1,e)::r):=by
   cases m with
   |zero=>exact endO_sign he
   |succ m =>
    obtain ⟨s,q,hs⟩:=hg (gD l (j+1))
    rw [zBv,hs]
    exact endO_name _ _
  obtain ⟨n1,e1⟩:=hel j _ n hj2 hend
  obtain ⟨n',ih⟩:=zCr hl h0 he hel hg m (j+1) f r n1 (by omega) (by omega)
  refine ⟨n',?_⟩
  obtain ⟨s,q,hs⟩:=hg (gD l j)
  unfold manyF
  rw [zFx,zBv,List.append_assoc]
  have hn1 : ¬ (j≠0/\isS (pst (g (gD l j)++(gK (fun i=>g (gD l i)) (j+1) m++(1,e)::r)) false n) e=true):=fun h=>by
   have:=h.2
   rw [hs] at this
   have h2:(2==(1:Int)&&s==e)=true:=this
   simp at h2
  rw [if_neg hn1,if_neg (fun h=>by omega),e1,zW]
  rw [List.range_succ,List.map_append] at ih
  exact ih
theorem arg_pst {a:D} (h:ArgP a) (hw:wideD a) (r:KS) (n:Nat) : ∃ n',argQ (pst (argK a++r) false n) = .ok (cA a,pst r false n'):=by
 have e:argK a++r=(2,tx (a.f 0).s)::(1,[58])::(litK (a.f 1)++r):=rfl
 unfold argQ
 rw [e,zAz,zW,zBV,zW,zH2 h.val.lit (hw.f 1) (fun _=>h.val.bare),zW]
 exact ⟨_,rfl⟩
theorem args_psy {l:List D} (hl:l.length<=16) (h : ∀ i,i<l.length->ArgP (gD l i)) (hw : ∀ i,wideD (gD l i)) {r:KS} (hr:nS r [40]) (n:Nat) : ∃ n',argsQ (pst (parK l++r) false n) = .ok (rgD cA l,pst r false n'):=by
 unfold argsQ parK
 by_cases h0:l.length=0
 . rw [if_pos h0,List.nil_append,if_neg (by rw [hr];decide)]
   rw [List.length_eq_zero_iff.1 h0]
   exact ⟨n,rfl⟩
 . have e:(1,[40])::(rgK argK l++[(1,[41])])++r=((1:Int),[(40:UInt8)])::(gK (fun i=>argK (gD l i)) 0 l.length++(1,[41])::r):=by simp [rgK]
   rw [if_neg h0,e,if_pos (zBC _ _ _ _),zBK (by decide),zCV]
   have hlen:=zDs (fun i=>argK (gD l i)) (fun i=>by simp [argK]) l.length 0
   exact zCr hl (by omega) (by decide) (fun i r n hi _=>arg_pst (h i hi) (hw i) r n) (fun x=>⟨_,_,rfl⟩) l.length 0 _ r n (by omega) (by simp only [pst,List.length_map,List.length_cons,List.length_append];omega)
theorem zJA {l:List D} (h:DirsP l) (hw : ∀ i,wideD (gD l i)) : ∀ (m j f:Nat) (r:KS) (n:Nat),j+m=l.length->m<f->nS r [64]->nS r [40] ->
 ∃ n',dirsF f ((List.range j).map fun i=>cDir (gD l i)) (pst (gK (fun i=>dirK (gD l i)) j m++r) false n) = .ok (rgD cDir l,pst r false n')
 |_,_,0,_,_,_,hf,_,_=>by omega
 |0,j,f+1,r,n,hj,_,h1,_=>by
  have e:j=l.length:=by omega
  subst e
  unfold dirsF
  rw [zFc,List.nil_append,if_neg (by rw [h1];decide)]
  exact ⟨n,rfl⟩
 |m+1,j,f+1,r,n,hj,hf,h1,h2=>by
  have hl:=h.len
  have hj2:j<l.length:=by omega
  have hd:=h.dirs j hj2
  obtain ⟨n1,e1⟩:=args_psy hd.len hd.args (fun i=>((hw j).f 1).l i) (r:=gK (fun i=>dirK (gD l i)) (j+1) m++r) (nS_gK (fun i r=>zAj (by decide)) h2) n
  obtain ⟨n',ih⟩:=zJA h hw m (j+1) f r n1 (by omega) (by omega) h1 h2
  refine ⟨n',?_⟩
  unfold dirsF
  rw [zFx,zBv,List.append_assoc]
  have e:dirK (gD l j)++(gK (fun i=>dirK (gD l i)) (j+1) m++r)=(1,[64])::(2,tx ((gD l j).f 0).s)::(parK ((gD l j).f 1).l++(gK (fun i=>dirK (gD l i)) (j+1) m++r)):=rfl
  rw [e,if_pos (zBC _ _ _ _),if_neg (by omega),zBK (by decide),zAz,zW,e1,zW]
  rw [List.range_succ,List.map_append] at ih
  exact ih
theorem zDv {l:List D} (h:DirsP l) (hw : ∀ i,wideD (gD l i)) {r:KS} (h1:nS r [64]) (h2:nS r [40]) (n:Nat) : ∃ n',dirsQ (pst (rgK dirK l++r) false n) = .ok (rgD cDir l,pst r false n'):=by
 unfold dirsQ
 have hlen:=zDs (fun i=>dirK (gD l i)) (fun i=>by simp [dirK]) l.length 0
 exact zJA h hw l.length 0 _ r n (by omega) (by simp only [pst,List.length_map,List.length_append,rgK];omega) h1 h2
theorem in_pst {x:D} (h:InP x) (hw:wideD x) {r:KS} (hr:EndO r) (n:Nat) : ∃ n',inQ (pst (inK x++r) false n) = .ok (cIn x,pst r false n'):=by
 have e:inK x++r=(2,tx (x.f 0).s)::(1,[58])::(refK (tx ((x.f 1).f 0).s) ((x.f 1).f 1).l++((if (x.f 2).b=true then (1,[61])::litK (x.f 3) else [])++(rgK dirK (x.f 4).l++r))):=by simp [inK]
 unfold inQ
 rw [e,zAz,zW,zBV,zW]
 have hdn : ∀ t,([64]==t)=false->nS r t->nS (rgK dirK (x.f 4).l++r) t:=fun t h1 h2=>zJn h1 h2
 have ht:=typ_pst (nm:=tx ((x.f 1).f 0).s) (ds:=((x.f 1).f 1).l) (r:=(if (x.f 2).b=true then (1,[61])::litK (x.f 3) else [])++(rgK dirK (x.f 4).l++r)) (v:=false) (n:=n) h.wraps h.rlen (by
  split
  . exact zAj (by decide)
  . exact hdn _ (by decide) hr.bang)
 rw [ht,zW]
 by_cases hb:(x.f 2).b=true
 . rw [if_pos hb,List.cons_append,if_pos (zBC _ _ _ _),zBK (by decide),zH2 h.val.lit (hw.f 3) (fun _=>h.val.bare),zW,zW]
   obtain ⟨n',e2⟩:=zDv h.dirs (fun i=>(hw.f 4).l i) (r:=r) hr.at_ hr.par (sizeR (bulkD (x.f 3)) (x.f 3))
   rw [e2,zW]
   refine ⟨n',?_⟩
   unfold cIn
   rw [if_pos hb,hb]
 . rw [if_neg hb,List.nil_append,if_neg (by rw [hdn _ (by decide) hr.eq];decide),zW]
   obtain ⟨n',e2⟩:=zDv h.dirs (fun i=>(hw.f 4).l i) (r:=r) hr.at_ hr.par n
   rw [e2,zW]
   refine ⟨n',?_⟩
   unfold cIn
   rw [if_neg hb,show (x.f 2).b=false by simpa using hb]
theorem inK_fst (x:D) : ∃ s r,inK x=(2,s)::r:=⟨_,_,rfl⟩
theorem ins_pst {l:List D} (h:InsP l) (hw : ∀ i,wideD (gD l i)) (h0:0<l.length) {e:List UInt8} (he:e≠[33]/\e≠[64]/\e≠[40]/\e≠[61]) (r:KS) (n:Nat) : ∃ n',insQ e (pst (rgK inK l++(1,e)::r) false n) = .ok (rgD cIn l,pst r false n'):=by
 unfold insQ
 have hlen:=zDs (fun i=>inK (gD l i)) (fun i=>by simp [inK]) l.length 0
 exact zCr h.len h0 he (fun i r n hi hr=>in_pst (h.ins i hi) (hw i) hr n) inK_fst l.length 0 _ r n (by omega) (by simp only [pst,List.length_map,List.length_append,List.length_cons,rgK];omega)
theorem fd_pst {x:D} (h:FdP x) (hw:wideD x) {r:KS} (hr:EndO r) (n:Nat) : ∃ n',fdQ (pst (fdK x++r) false n) = .ok (cFd x,pst r false n'):=by
 have e:fdK x++r=(2,tx (x.f 0).s)::(insK (x.f 1).l inK++((1,[58])::(refK (tx ((x.f 2).f 0).s) ((x.f 2).f 1).l++(rgK dirK (x.f 3).l++r)))):=by simp [fdK]
 unfold fdQ
 rw [e,zAz,zW]
 have tail : ∀ n1,∃ n',(thenQ (takeQ [58] (pst ((1,[58])::(refK (tx ((x.f 2).f 0).s) ((x.f 2).f 1).l++(rgK dirK (x.f 3).l++r))) false n1)) fun _ u=>thenQ (typQ u) fun t v=>thenQ (dirsQ v) fun ds w=>(.ok (sFdD (tx (x.f 0).s) (rgD cIn (x.f 1).l) t ds,w):PR D)) = .ok (cFd x,pst r false n'):=fun n1=>by
  rw [zBV,zW,typ_pst h.wraps h.rlen (zJn (by decide) hr.bang),zW]
  obtain ⟨n',e2⟩:=zDv h.dirs (fun i=>(hw.f 3).l i) (r:=r) hr.at_ hr.par n1
  rw [e2,zW]
  exact ⟨n',rfl⟩
 unfold insK
 by_cases h0:(x.f 1).l.length=0
 . rw [if_pos h0,List.nil_append,if_neg (by rw [zEQ];decide),zW]
   have:=tail n
   rwa [List.length_eq_zero_iff.1 h0] at this
 . rw [if_neg h0,List.cons_append,if_pos (zBC _ _ _ _),zBK (by decide),List.append_assoc]
   obtain ⟨n1,e1⟩:=ins_pst h.args (fun i=>(hw.f 1).l i) (by omega) (e:=[41]) (by decide) ((1,[58])::(refK (tx ((x.f 2).f 0).s) ((x.f 2).f 1).l++(rgK dirK (x.f 3).l++r))) n
   rw [List.singleton_append,e1,zW]
   exact tail n1
theorem mb_pst {u:Bool} {x:D} (h:MbP u x) (hw:wideD x) {r:KS} (hr:EndO r) (n:Nat) : ∃ n',mbQ (pst (mbK x++r) false n) = .ok (cMb x,pst r false n'):=by
 have e:mbK x++r=(2,tx (x.f 0).s)::(rgK dirK (x.f 1).l++r):=rfl
 unfold mbQ
 rw [e,zAz,zW]
 obtain ⟨n',e2⟩:=zDv h.dirs (fun i=>(hw.f 1).l i) (r:=r) hr.at_ hr.par n
 rw [e2,zW]
 exact ⟨n',rfl⟩
theorem zGY (s:List UInt8) {r:KS} (hr:nS r s) (n:Nat) : ∀ (l acc:List D) (f:Nat),l≠[]->acc.length+l.length<=64->l.length<=f->namesF s f acc (pst (sepK s l++r) false n) = .ok (acc++l.map cNm,pst r false n)
 |[],_,_,h,_,_=>(h rfl).elim
 |x::l,_,0,_,_,hf=>by simp at hf
 |[x],acc,f+1,_,hl,hf=>by
  unfold namesF
  show (if (hdT (pst ((2,tx x.s)::r) false n)).k=2/\64<=acc.length then _ else thenQ (nameQ (pst ((2,tx x.s)::r) false n)) _)=_
  simp only [List.length_cons,List.length_nil] at hl
  rw [if_neg (fun h=>by omega),zAz,zW,if_neg (by rw [hr];decide)]
  rfl
 |x::y::l,acc,f+1,_,hl,hf=>by
  simp only [List.length_cons] at hl hf
  have ih:=zGY s hr n (y::l) (acc++[cNm x]) f (by simp) (by simp;omega) (by simp;omega)
  unfold namesF
  show (if (hdT (pst ((2,tx x.s)::(1,s)::(sepK s (y::l)++r)) false n)).k=2/\64<=acc.length then _ else thenQ (nameQ (pst ((2,tx x.s)::(1,s)::(sepK s (y::l)++r)) false n)) _)=_
  rw [if_neg (fun h=>by omega),zAz,zW,if_pos (zBC _ _ _ _),zBK (by decide)]
  show namesF s f (acc++[cNm x]) _=_
  rw [ih];simp
theorem zKV (s:List UInt8) : ∀ l:List D,l.length<=(sepK s l).length
 |[]=>Nat.le_refl _
 |[_]=>Nat.le_refl _
 |x::y::l=>by
  have:=zKV s (y::l)
  unfold sepK
  simp only [List.length_cons] at *
  omega
theorem zIi (s:List UInt8) {r:KS} (hr:nS r s) (n:Nat) {l:List D} (h0:l≠[]) (hl:l.length<=64):zBR s (pst (sepK s l++r) false n) = .ok (l.map cNm,pst r false n):=by
 have:=zGY s hr n l [] ((pst (sepK s l++r) false n).ts.length+1) h0 (by simpa using hl) (by have:=zKV s l;simp only [pst,List.length_map,List.length_append];omega)
 exact this
theorem faces_pst {k:Int} {l:List D} (hl:l.length<=64) (hk:l.length=0\/k=1) {r:KS} (hr:nS r [38]) (hni : ∀ n,¬ ((hdT (pst r false n)).k=2/\(hdT (pst r false n)).s=zIw)) (n:Nat):zA3 k (pst (zDO l++r) false n) = .ok (l.map cNm,pst r false n):=by
 unfold zA3 zDO
 by_cases h0:l.length=0
 . rw [if_pos h0,List.nil_append,if_neg (fun h=>hni n h.2),List.length_eq_zero_iff.1 h0];rfl
 . have hk:k=1:=by rcases hk with h | h;exact (h0 h).elim;exact h
   rw [if_neg h0,List.cons_append,if_pos ⟨hk,rfl,rfl⟩,zBK (by decide)]
   exact zIi [38] hr n (fun e=>h0 (by rw [e];rfl)) hl
theorem body_fst (d:D) (r:KS):(∀ t,([61]==t)=false->([123]==t)=false->nS (bodyK d++r) t) /\ ∀ n,(hdT (pst (bodyK d++r) false n)).k=1:=by
 unfold bodyK
 split
 . exact ⟨fun t h1 _=>zAj (by simpa using h1),fun n=>rfl⟩
 . exact ⟨fun t _ h2=>zAj (by simpa using h2),fun n=>rfl⟩
theorem body_pst {d:D} (h:DefP d) (hw:wideD d) {r:KS} (hr:nS r [124]) (n:Nat) : ∃ n',bodyQ (d.f 0).n (pst (bodyK d++r) false n) =
 .ok (((if (d.f 0).n=1\/(d.f 0).n=2 then rgD cFd (d.f 4).l else []),(if (d.f 0).n=3 then ((d.f 5).l.map fun x=>mbOf (cNm (x.f 0))) else if (d.f 0).n=4 then rgD cMb (d.f 5).l else []),(if (d.f 0).n=5 then rgD cIn (d.f 6).l else [])),pst r false n'):=by
 have hk:=h.kind
 unfold bodyQ bodyK
 by_cases k3:(d.f 0).n=3
 . have hm:=h.m0.1 (.inl k3)
   rw [if_pos k3,if_pos k3,if_neg (by omega),if_pos k3,if_neg (by omega),List.cons_append,zBV,zW,zIi [124] hr n (l:=(d.f 5).l.map fun x=>x.f 0) (fun e=>by
    have:=congrArg List.length e
    rw [List.length_map] at this
    simp at this;rw [this] at hm;simp at hm) (by rw [List.length_map];exact h.mlen),zW]
   exact ⟨n,by rw [List.map_map,List.map_map];rfl⟩
 rw [if_neg k3,if_neg k3]
 have eb : ∀ k:KS,blkK k++r=(1,[123])::(k++(1,[125])::r):=fun k=>by simp [blkK]
 rw [eb,zBV,zW]
 by_cases k5:(d.f 0).n=5
 . have hm:=h.i0.1 k5
   rw [if_pos k5,if_pos k5,if_neg (by omega),if_neg k3,if_neg (by omega),if_pos k5]
   obtain ⟨n',e1⟩:=ins_pst h.ins (fun i=>(hw.f 6).l i) hm (e:=[125]) (by decide) r n
   rw [e1,zW]
   exact ⟨n',rfl⟩
 rw [if_neg k5,if_neg k5]
 by_cases k4:(d.f 0).n=4
 . have hm:=h.m0.1 (.inr k4)
   rw [if_pos k4,if_pos k4,if_neg (by omega),if_neg k3,if_pos k4,if_neg k5]
   have hlen:=zDs (fun i=>mbK (gD (d.f 5).l i)) (fun i=>by simp [mbK]) (d.f 5).l.length 0
   obtain ⟨n',e1⟩:=zCr (el:=mbQ) (g:=mbK) (c:=cMb) (e:=[125]) h.mlen hm (by decide) (fun i r n hi hr=>mb_pst (h.mbs i hi) ((hw.f 5).l i) hr n) (fun x=>⟨_,_,rfl⟩) (d.f 5).l.length 0 ((pst (rgK mbK (d.f 5).l++(1,[125])::r) false n).ts.length+1) r n (by omega) (by simp only [pst,List.length_map,List.length_append,List.length_cons,rgK];omega)
   unfold mbsQ
   have e1:manyF mbQ [125] 64 _ [] (pst (rgK mbK (d.f 5).l++(1,[125])::r) false n)=_:=e1
   rw [e1,zW]
   exact ⟨n',rfl⟩
 . have hm:=h.f0.1 (by omega)
   rw [if_neg k4,if_neg k4,if_pos (by omega),if_neg k3,if_neg k4,if_neg k5]
   have hlen:=zDs (fun i=>fdK (gD (d.f 4).l i)) (fun i=>by simp [fdK]) (d.f 4).l.length 0
   obtain ⟨n',e1⟩:=zCr (el:=fdQ) (g:=fdK) (c:=cFd) (e:=[125]) h.flen hm (by decide) (fun i r n hi hr=>fd_pst (h.fds i hi) ((hw.f 4).l i) hr n) (fun x=>⟨_,_,rfl⟩) (d.f 4).l.length 0 ((pst (rgK fdK (d.f 4).l++(1,[125])::r) false n).ts.length+1) r n (by omega) (by simp only [pst,List.length_map,List.length_append,List.length_cons,rgK];omega)
   unfold fdsQ
   have e1:manyF fdQ [125] 64 _ [] (pst (rgK fdK (d.f 4).l++(1,[125])::r) false n)=_:=e1
   rw [e1,zW]
   exact ⟨n',rfl⟩
theorem sdef_pst {d:D} (h:DefP d) (hw:wideD d) {r:KS} (hr:nS r [124]) (n:Nat) : ∃ n',sdefQ (d.f 0).n (pst ((2,tx (d.f 1).s)::(zDO (d.f 2).l++(rgK dirK (d.f 3).l++bodyK d))++r) false n) = .ok (cDf d,pst r false n'):=by
 have e:(2,tx (d.f 1).s)::(zDO (d.f 2).l++(rgK dirK (d.f 3).l++bodyK d))++r=((2:Int),tx (d.f 1).s)::(zDO (d.f 2).l++(rgK dirK (d.f 3).l++(bodyK d++r))):=by simp
 obtain ⟨b1,b2⟩:=body_fst d r
 unfold sdefQ
 rw [e,zAz,zW,faces_pst h.ilen h.im0 (zJn (by decide) (b1 _ (by decide) (by decide))) (fun n hh=>by
  have hx:(hdT (pst (rgK dirK (d.f 3).l++(bodyK d++r)) false n)).k=1:=by
   unfold rgK
   cases (d.f 3).l.length with
   |zero=>exact b2 n
   |succ m=>rw [zBv,List.append_assoc];rfl
  rw [hx] at hh
  exact absurd hh.1 (by decide)),zW]
 obtain ⟨n1,e1⟩:=zDv h.dirs (fun i=>(hw.f 3).l i) (r:=bodyK d++r) (b1 _ (by decide) (by decide)) (b1 _ (by decide) (by decide)) n
 obtain ⟨n2,e2⟩:=body_pst h hw hr n1
 rw [e1,zW,e2,zW]
 exact ⟨n2,rfl⟩
theorem word_kindS {k:Int} (h:1<=k/\k<=5):zA0 (wordD k)=k:=by
 obtain rfl | rfl | rfl | rfl | rfl:k=1\/k=2\/k=3\/k=4\/k=5:=by omega
 all_goals decide
theorem zIH {l:List D} (hl:l.length<=64) (h0:0<l.length) (h : ∀ i,i<l.length->DefP (gD l i)) (hw : ∀ i,wideD (gD l i)) : ∀ (m j f:Nat) (n:Nat),j+m=l.length->m<f ->
 ∃ n',sdocF f ((List.range j).map fun i=>cDf (gD l i)) (pst (gK (fun i=>zEV (gD l i)) j m++[endK5]) false n) = .ok (rgD cDf l,pst [endK5] false n')
 |_,_,0,_,_,hf=>by omega
 |0,j,f+1,n,hj,_=>by
  have e:j=l.length:=by omega
  subst e
  unfold sdocF
  rw [zFx,zFc,List.nil_append,if_pos ⟨by omega,rfl⟩]
  exact ⟨n,rfl⟩
 |m+1,j,f+1,n,hj,hf=>by
  have hj2:j<l.length:=by omega
  have hd:=h j hj2
  have e:gK (fun i=>zEV (gD l i)) j (m+1)++[endK5]=(2,wordD ((gD l j).f 0).n)::((2,tx ((gD l j).f 1).s)::(zDO ((gD l j).f 2).l++(rgK dirK ((gD l j).f 3).l++bodyK (gD l j)))++(gK (fun i=>zEV (gD l i)) (j+1) m++[endK5])):=by
   rw [zBv];simp [zEV]
  have hend:nS (gK (fun i=>zEV (gD l i)) (j+1) m++[endK5]) [124]:=by
   cases m with
   |zero=>exact zAj rfl
   |succ m=>rw [zBv];exact zAj rfl
  have hk:=word_kindS hd.kind
  obtain ⟨n1,e1⟩:=sdef_pst hd (hw j) hend n
  obtain ⟨n',ih⟩:=zIH hl h0 h hw m (j+1) f n1 (by omega) (by omega)
  refine ⟨n',?_⟩
  unfold sdocF
  rw [zFx,e,zLC]
  dsimp only
  rw [if_neg (fun q=>absurd q.2 (by decide)),hk,if_neg (fun q=>q ⟨rfl,by have:=hd.kind;omega⟩),if_neg (by omega),zBK (by decide),e1,zW]
  rw [List.range_succ,List.map_append] at ih
  exact ih
theorem sdoc_pst {l:List D} (hl:l.length<=64) (h0:0<l.length) (h : ∀ i,i<l.length->DefP (gD l i)) (hw : ∀ i,wideD (gD l i)) : ∃ z,sdocQ ((sdocK l++[endK5]).map mkT) = .ok (rgD cDf l,z):=by
 have hlen:=zDs (fun i=>zEV (gD l i)) (fun i=>by simp [zEV]) l.length 0
 obtain ⟨n',e⟩:=zIH hl h0 h hw l.length 0 (((sdocK l++[endK5]).map mkT).length+1) 0 (by omega) (by simp only [List.length_map,List.length_append,sdocK,rgK,List.length_cons,List.length_nil];omega)
 exact ⟨_,e⟩
structure Psp (t:List UInt8) (k:KS):Prop where
 pw:Pw t k
 bd:bnd t
theorem Psp.nil:Psp [] []:=⟨Ps.nil.w,bnd_nil⟩
theorem Psp.sp {t:List UInt8} {k:KS} (h:Pw t k):Psp (32::t) k:=⟨(Ps.sep (c:=32) rfl).appw h,zEy (by decide)⟩
theorem Psp.sg {c:UInt8} (h:zAa c=true):Psp [32,c] [(1,[c])]:=.sp (Ps.sign h).w
theorem Psp.app {a b:List UInt8} {ka kb:KS} (h:Psp a ka) (k:Psp b kb):Psp (a++b) (ka++kb):=⟨h.pw.appw k.pw k.bd,fun c hc=>by
 cases a with
 |nil=>exact k.bd c hc
 |cons x y=>exact h.bd c hc⟩
theorem Pw.spp {a b:List UInt8} {ka kb:KS} (h:Pw a ka) (k:Psp b kb):Pw (a++b) (ka++kb):=h.appw k.pw k.bd
def flatN (f:Nat->List UInt8):Nat->List UInt8
 |0=>[]
 |n+1=>flatN f n++f n
theorem Psp.flat {f:Nat->List UInt8} {g:Nat->KS} : ∀ n,(∀ i,i<n->Psp (f i) (g i))->Psp (flatN f n) (gK g 0 n)
 |0,_ => .nil
 |n+1,h=>by
  rw [gK_last]
  exact (Psp.flat n fun i hi=>h i (by omega)).app (h n (by omega))
def litS:Nat->D->List UInt8
 |0,_=>[]
 |k+1,d =>
  if (d.f 0).n=0 then [110,117,108,108]
  else if (d.f 0).n=1 then (if (d.f 1).n=1 then [116,114,117,101] else [102,97,108,115,101])
  else if (d.f 0).n=2 then Lib.itoa (d.f 1).n
  else if (d.f 0).n=3 then zAp (tx (d.f 2).s)
  else if (d.f 0).n=4 then tx (d.f 2).s
  else if (d.f 0).n=7 then [36,32]++tx (d.f 2).s
  else (if (d.f 0).n=6 then [123] else [91])++flatN (fun i=>(if (d.f 0).n=6 then [32]++tx (gD (d.f 4).l i).s++[32,58] else [])++([32]++litS k (gD (d.f 3).l i))) (d.f 3).l.length++(if (d.f 0).n=6 then [32,125] else [32,93])
def zF3 (d:D):List UInt8:=litS (bulkD d) d
def argS (a:D):List UInt8:=[32]++tx (a.f 0).s++[32,58,32]++zF3 (a.f 1)
def zBf (f:D->List UInt8) (l:List D):List UInt8:=flatN (fun i=>f (gD l i)) l.length
def dirS (x:D):List UInt8:=[32,64,32]++tx (x.f 0).s++(if (x.f 1).l.length=0 then [] else [32,40]++zBf argS (x.f 1).l++[32,41])
def dirsS (l:List D):List UInt8:=zBf dirS l
def refS (d:D):List UInt8:=refB (tx (d.f 0).s) (d.f 1).l
def inS (x:D):List UInt8:=[32]++tx (x.f 0).s++[32,58,32]++refS (x.f 1)++(if (x.f 2).b=true then [32,61,32]++zF3 (x.f 3) else [])++dirsS (x.f 4).l
def insS (l:List D):List UInt8:=zBf inS l
def fdS (x:D):List UInt8:=[32]++tx (x.f 0).s++(if (x.f 1).l.length=0 then [] else [32,40]++insS (x.f 1).l++[32,41])++[32,58,32]++refS (x.f 2)++dirsS (x.f 3).l
def mbS (x:D):List UInt8:=[32]++tx (x.f 0).s++dirsS (x.f 1).l
def sepS (a b:List UInt8) (nm:D->D) (l:List D):List UInt8:=flatN (fun i=>(if i=0 then a else b)++tx (nm (gD l i)).s) l.length
def zGk (l:List D):List UInt8:=sepS ([32]++zIw++[32]) [32,38,32] id l
def zE8 (l:List D):List UInt8:=sepS [32,61,32] [32,124,32] (fun x=>x.f 0) l
def defS (d:D):List UInt8:=wordD (d.f 0).n++[32]++tx (d.f 1).s++zGk (d.f 2).l++dirsS (d.f 3).l ++
 (if (d.f 0).n=3 then zE8 (d.f 5).l else [32,123]++zBf fdS (d.f 4).l++zBf mbS (d.f 5).l++insS (d.f 6).l++[32,125])
def docS (l:List D):List UInt8:=flatN (fun i=>(if i=0 then [] else [32])++defS (gD l i)) l.length
theorem zJq : ∀ (k:Nat) (d:D),wideD d->everyL k d=true->Pw (litS k d) (valK k d)
 |0,_,_,h=>by cases h
 |k+1,d,hw,h=>by
  obtain ⟨hn,hi⟩:=zDC h
  have hk:=hn.kind
  unfold litS valK
  by_cases h0:(d.f 0).n=0
  . rw [if_pos h0,if_neg (by omega),if_neg (by omega),if_neg (by omega),if_neg (by omega),if_neg (by omega),if_neg (by omega),if_neg (by omega)]
    exact .name rfl
  rw [if_neg h0]
  by_cases h1:(d.f 0).n=1
  . rw [if_pos h1,if_pos h1]
    split
    . exact .name rfl
    . exact .name rfl
  rw [if_neg h1,if_neg h1]
  by_cases h2:(d.f 0).n=2
  . rw [if_pos h2,if_pos h2]
    exact .int _ (hw.f 1).n.1 (hw.f 1).n.2
  rw [if_neg h2,if_neg h2]
  by_cases h3:(d.f 0).n=3
  . rw [if_pos h3,if_pos h3]
    exact (Ps.quote _).w
  rw [if_neg h3,if_neg h3]
  by_cases h4:(d.f 0).n=4
  . rw [if_pos h4,if_pos h4]
    exact .nm (zI8 (hn.enum h4)).1
  rw [if_neg h4,if_neg h4]
  by_cases h7:(d.f 0).n=7
  . rw [if_pos h7,if_pos h7]
    exact (Ps.sign (c:=36) rfl).appw (Psp.sp (.nm (hn.var h7))).pw
  rw [if_neg h7,if_neg h7]
  by_cases h5:(d.f 0).n=5
  . have h6 : ¬ (d.f 0).n=6:=by omega
    rw [if_pos h5,if_neg h6,if_neg h6]
    have hf:=Psp.flat (f:=fun i=>(if (d.f 0).n=6 then [32]++tx (gD (d.f 4).l i).s++[32,58] else [])++([32]++litS k (gD (d.f 3).l i))) (g:=fun i=>valK k (gD (d.f 3).l i)) (d.f 3).l.length fun i hl=>by
     try dsimp only
     rw [if_neg h6]
     exact Psp.sp (zJq k _ ((hw.f 3).l i) (hi i hl))
    exact ((Ps.sign (c:=91) rfl).w.spp hf).spp (Psp.sg (c:=93) rfl)
  . have h6:(d.f 0).n=6:=by omega
    rw [if_neg h5,if_pos h6,if_pos h6,if_pos h6]
    obtain ⟨k1,k2,-⟩:=hn.obj h6
    have hf:=Psp.flat (f:=fun i=>(if (d.f 0).n=6 then [32]++tx (gD (d.f 4).l i).s++[32,58] else [])++([32]++litS k (gD (d.f 3).l i))) (g:=fun i=>(2,tx (gD (d.f 4).l i).s)::(1,[58])::valK k (gD (d.f 3).l i)) (d.f 3).l.length fun i hl=>by
     try dsimp only
     rw [if_pos h6]
     exact ((Psp.sp (Pw.nm (k1 i (by omega)))).app (Psp.sg (c:=58) rfl)).app (Psp.sp (zJq k _ ((hw.f 3).l i) (hi i hl)))
    exact ((Ps.sign (c:=123) rfl).w.spp hf).spp (Psp.sg (c:=125) rfl)
theorem zKv {d:D} (hw:wideD d) (h:litR d=true):Pw (zF3 d) (litK d):=by
 unfold litR at h
 rw [Bool.and_eq_true] at h
 exact zJq _ _ hw h.2
theorem argS_sp {a:D} (h:ArgP a) (hw:wideD a):Psp (argS a) (argK a):=by
 have:=((Psp.sp (Pw.nm h.name)).app (Psp.sg (c:=58) rfl)).app (Psp.sp (zKv (hw.f 1) h.val.lit))
 have e:argS a=(32::tx (a.f 0).s++[32,58])++(32::zF3 (a.f 1)):=by simp [argS]
 rw [e];exact this
theorem zDt {f:D->List UInt8} {g:D->KS} (l:List D) (h : ∀ i,i<l.length->Psp (f (gD l i)) (g (gD l i))):Psp (zBf f l) (rgK g l):=Psp.flat _ h
theorem dirS_sp {x:D} (h:DirP x) (hw:wideD x):Psp (dirS x) (dirK x):=by
 have h1:=(Psp.sg (c:=64) rfl).app (Psp.sp (Pw.nm h.name))
 unfold dirS dirK parK
 by_cases h0:(x.f 1).l.length=0
 . rw [if_pos h0,if_pos h0,List.append_nil]
   exact h1
 . rw [if_neg h0,if_neg h0]
   have h2:=((Psp.sg (c:=40) rfl).app (zDt (f:=argS) (g:=argK) (x.f 1).l fun i hi=>argS_sp (h.args i hi) ((hw.f 1).l i))).app (Psp.sg (c:=41) rfl)
   have h3:=h1.app h2
   have e:([32,64,32]++tx (x.f 0).s++([32,40]++zBf argS (x.f 1).l++[32,41]):List UInt8)=[32,64]++(32::tx (x.f 0).s)++([32,40]++zBf argS (x.f 1).l++[32,41]):=by simp
   rw [e]
   exact h3
theorem zEv {l:List D} (h:DirsP l) (hw : ∀ i,wideD (gD l i)):Psp (dirsS l) (rgK dirK l):=zDt l fun i hi=>dirS_sp (h.dirs i hi) (hw i)
theorem inS_sp {x:D} (h:InP x) (hw:wideD x):Psp (inS x) (inK x):=by
 have h1:=(((Psp.sp (Pw.nm h.name)).app (Psp.sg (c:=58) rfl)).app (Psp.sp (zJd h.rname ((x.f 1).f 1).l)))
 have h2:Psp (if (x.f 2).b=true then [32,61,32]++zF3 (x.f 3) else []) (if (x.f 2).b=true then (1,[61])::litK (x.f 3) else []):=by
  split
  . exact (Psp.sg (c:=61) rfl).app (Psp.sp (zKv (hw.f 3) h.val.lit))
  . exact .nil
 have h3:=(h1.app h2).app (zEv h.dirs (hw.f 4).l)
 have e1:inS x=(32::tx (x.f 0).s++[32,58]++(32::refB (tx ((x.f 1).f 0).s) ((x.f 1).f 1).l))++(if (x.f 2).b=true then [32,61,32]++zF3 (x.f 3) else [])++dirsS (x.f 4).l:=by simp [inS,refS]
 have e2:inK x=(([(2,tx (x.f 0).s)]++[(1,[58])]++refK (tx ((x.f 1).f 0).s) ((x.f 1).f 1).l)++(if (x.f 2).b=true then (1,[61])::litK (x.f 3) else []))++rgK dirK (x.f 4).l:=by simp [inK]
 rw [e1,e2];exact h3
theorem insS_sp {l:List D} (h:InsP l) (hw : ∀ i,wideD (gD l i)):Psp (insS l) (rgK inK l):=zDt l fun i hi=>inS_sp (h.ins i hi) (hw i)
theorem fdS_sp {x:D} (h:FdP x) (hw:wideD x):Psp (fdS x) (fdK x):=by
 have h1:=Psp.sp (Pw.nm h.name)
 have h2:Psp (if (x.f 1).l.length=0 then [] else [32,40]++insS (x.f 1).l++[32,41]) (insK (x.f 1).l inK):=by
  unfold insK
  by_cases h0:(x.f 1).l.length=0
  . rw [if_pos h0,if_pos h0];exact .nil
  . rw [if_neg h0,if_neg h0]
    exact ((Psp.sg (c:=40) rfl).app (insS_sp h.args (hw.f 1).l)).app (Psp.sg (c:=41) rfl)
 have h3:=((Psp.sg (c:=58) rfl).app (Psp.sp (zJd h.rname ((x.f 2).f 1).l))).app (zEv h.dirs (hw.f 3).l)
 have h4:=(h1.app h2).app h3
 have e1:fdS x=(32::tx (x.f 0).s++(if (x.f 1).l.length=0 then [] else [32,40]++insS (x.f 1).l++[32,41]))++([32,58]++(32::refB (tx ((x.f 2).f 0).s) ((x.f 2).f 1).l)++dirsS (x.f 3).l):=by simp [fdS,refS]
 have e2:fdK x=([(2,tx (x.f 0).s)]++insK (x.f 1).l inK)++([(1,[58])]++refK (tx ((x.f 2).f 0).s) ((x.f 2).f 1).l++rgK dirK (x.f 3).l):=by simp [fdK]
 rw [e1,e2];exact h4
theorem mbS_sp {u:Bool} {x:D} (h:MbP u x) (hw:wideD x):Psp (mbS x) (mbK x):=(Psp.sp (Pw.nm h.name)).app (zEv h.dirs (hw.f 1).l)
theorem zDW (f:Nat->List UInt8) : ∀ n,flatN f (n+1)=f 0++flatN (fun i=>f (i+1)) n
 |0=>by simp [flatN]
 |n+1=>by
  have:=zDW f n
  show flatN f (n+1)++f (n+1)=f 0++(flatN (fun i=>f (i+1)) n++f (n+1))
  rw [this,List.append_assoc]
theorem zIF {c:UInt8} (hc:zAa c=true) {nm:D->D} : ∀ (l:List D),(∀ i,i<l.length->nameB (nm (gD l i)).s=true)->Psp (flatN (fun i=>[32,c,32]++tx (nm (gD l i)).s) l.length) ((l.map nm).flatMap fun x=>[(1,[c]),(2,tx x.s)])
 |[],_ => .nil
 |x::r,h=>by
  have ih:=zIF hc r fun i hi=>h (i+1) (by simpa using hi)
  have h1:=((Psp.sg hc).app (Psp.sp (Pw.nm (h 0 (by simp))))).app ih
  rw [List.length_cons,zDW]
  exact h1
theorem sepK_eq (s:List UInt8) : ∀ (x:D) (r:List D),sepK s (x::r)=(2,tx x.s)::r.flatMap fun x=>[(1,s),(2,tx x.s)]
 |x,[]=>rfl
 |x,y::r=>by
  show (2,tx x.s)::(1,s)::sepK s (y::r)=_
  rw [sepK_eq s y r];rfl
theorem sepS_sp {a:List UInt8} {ka:KS} {c:UInt8} (ha:Psp a ka) (hc:zAa c=true) {nm:D->D} (l:List D) (h0:l≠[]) (h : ∀ i,i<l.length->nameB (nm (gD l i)).s=true) :
 Psp (sepS (a++[32]) [32,c,32] nm l) (ka++sepK [c] (l.map nm)):=by
 cases l with
 |nil=>exact (h0 rfl).elim
 |cons x r =>
  have h1:=(ha.app (Psp.sp (Pw.nm (h 0 (by simp))))).app (zIF hc r fun i hi=>h (i+1) (by simpa using hi))
  unfold sepS
  rw [List.length_cons,zDW,List.map_cons,sepK_eq]
  have e:((if 0=0 then a++[32] else [32,c,32])++tx (nm (gD (x::r) 0)).s:List UInt8)=a++32::tx (nm (gD (x::r) 0)).s:=by simp
  rw [e]
  have e2:(ka++((2,tx (nm x).s)::(r.map nm).flatMap fun x=>[(1,[c]),(2,tx x.s)]):KS)=(ka++[(2,tx (nm x).s)])++(r.map nm).flatMap fun x=>[(1,[c]),(2,tx x.s)]:=by simp
  rw [e2]
  exact h1
theorem facesS_sp (l:List D) (h : ∀ i,i<l.length->nameB (gD l i).s=true):Psp (zGk l) (zDO l):=by
 unfold zDO
 by_cases h0:l.length=0
 . rw [if_pos h0,List.eq_nil_of_length_eq_zero h0];exact .nil
 . rw [if_neg h0]
   have h1:=sepS_sp (a:=[32]++zIw) (ka:=[(2,zIw)]) (c:=38) (Psp.sp (.name rfl)) rfl (nm:=id) l (fun e=>h0 (by rw [e];rfl)) h
   rw [List.map_id] at h1
   exact h1
theorem unionS_sp (l:List D) (h0:l≠[]) (h : ∀ i,i<l.length->nameB ((gD l i).f 0).s=true):Psp (zE8 l) ((1,[61])::sepK [124] (l.map fun x=>x.f 0)):=
 sepS_sp (a:=[32,61]) (ka:=[(1,[61])]) (c:=124) (Psp.sg (c:=61) rfl) rfl (nm:=fun x=>x.f 0) l h0 h
theorem word_nameD {k:Int}:nameU (wordD k)=true:=by
 unfold wordD
 repeat' split
 all_goals rfl
theorem zDA (f:D->List UInt8) {l:List D} (h:l.length=0):zBf f l=[]:=by unfold zBf;rw [h];rfl
theorem defS_pw {d:D} (h:DefP d) (hw:wideD d):Pw (defS d) (zEV d):=by
 have h1:=((Pw.name (word_nameD (k:=(d.f 0).n))).spp (Psp.sp (Pw.nm h.name))).spp (facesS_sp (d.f 2).l h.im)
 have h2:=h1.spp (zEv h.dirs (hw.f 3).l)
 have hk:=h.kind
 have hb:Psp (if (d.f 0).n=3 then zE8 (d.f 5).l else [32,123]++zBf fdS (d.f 4).l++zBf mbS (d.f 5).l++insS (d.f 6).l++[32,125]) (bodyK d):=by
  unfold bodyK
  by_cases h3:(d.f 0).n=3
  . rw [if_pos h3,if_pos h3]
    have hm:=h.m0.1 (.inl h3)
    exact unionS_sp _ (fun e=>by rw [e] at hm;exact absurd hm (by decide)) fun i hi=>(h.mbs i hi).name
  . rw [if_neg h3,if_neg h3]
    have z4:(d.f 0).n≠1->(d.f 0).n≠2->(d.f 4).l.length=0:=fun a b=>by
     by_cases hz:0<(d.f 4).l.length
     . have:=h.f0.2 hz;omega
     . omega
    have z5:(d.f 0).n≠4->(d.f 5).l.length=0:=fun a=>by
     by_cases hz:0<(d.f 5).l.length
     . have:=h.m0.2 hz;omega
     . omega
    have z6:(d.f 0).n≠5->(d.f 6).l.length=0:=fun a=>by
     by_cases hz:0<(d.f 6).l.length
     . have:=h.i0.2 hz;omega
     . omega
    by_cases h5:(d.f 0).n=5
    . rw [if_pos h5,zDA _ (z4 (by omega) (by omega)),zDA _ (z5 (by omega)),List.append_nil,List.append_nil]
      exact ((Psp.sg (c:=123) rfl).app (insS_sp h.ins (hw.f 6).l)).app (Psp.sg (c:=125) rfl)
    by_cases h4:(d.f 0).n=4
    . have e6:insS (d.f 6).l=[]:=zDA _ (z6 h5)
      rw [if_neg h5,if_pos h4,zDA _ (z4 (by omega) (by omega)),e6,List.append_nil,List.append_nil]
      exact ((Psp.sg (c:=123) rfl).app (zDt (f:=mbS) (g:=mbK) (d.f 5).l fun i hi=>mbS_sp (h.mbs i hi) ((hw.f 5).l i))).app (Psp.sg (c:=125) rfl)
    . have e6:insS (d.f 6).l=[]:=zDA _ (z6 h5)
      rw [if_neg h5,if_neg h4,zDA mbS (z5 h4),e6,List.append_nil,List.append_nil]
      exact ((Psp.sg (c:=123) rfl).app (zDt (f:=fdS) (g:=fdK) (d.f 4).l fun i hi=>fdS_sp (h.fds i hi) ((hw.f 4).l i))).app (Psp.sg (c:=125) rfl)
 have h3:=h2.spp hb
 have e:zEV d=[(2,wordD (d.f 0).n)]++[(2,tx (d.f 1).s)]++zDO (d.f 2).l++rgK dirK (d.f 3).l++bodyK d:=by simp [zEV]
 have e1:defS d=wordD (d.f 0).n++(32::tx (d.f 1).s)++zGk (d.f 2).l++dirsS (d.f 3).l++(if (d.f 0).n=3 then zE8 (d.f 5).l else [32,123]++zBf fdS (d.f 4).l++zBf mbS (d.f 5).l++insS (d.f 6).l++[32,125]):=by
  unfold defS
  rw [List.append_assoc (wordD (d.f 0).n) [32]];rfl
 rw [e,e1];exact h3
theorem docS_pw : ∀ (l:List D) (n:Nat),n<=l.length->(∀ i,i<l.length->DefP (gD l i))->(∀ i,wideD (gD l i))->Pw (flatN (fun i=>(if i=0 then [] else [32])++defS (gD l i)) n) (gK (fun i=>zEV (gD l i)) 0 n)
 |_,0,_,_,_=>Ps.nil.w
 |l,n+1,hn,h,hw=>by
  have ih:=docS_pw l n (by omega) h hw
  have hd:=defS_pw (h n (by omega)) (hw n)
  rw [gK_last]
  cases n with
  |zero=>exact hd
  |succ n=>exact ih.spp (Psp.sp hd)
theorem Lex.scanT {l:List UInt8} {ks:KS} (h:Lex l ks) (hlen:l.length<=65536) : ∃ ts,scanT l = .ok ts/\ts.map bare=ks++[endK5]:=by
 obtain ⟨ts,h1,h2⟩:=h.scan (l.length+1) 0 (by omega)
 refine ⟨ts,?_,h2⟩
 unfold Go.Proofs.YthppafnlnnpciaaGreatDoor.scanT
 rw [if_neg (by omega)]
 exact h1
theorem bare_mkT (l:KS):(l.map mkT).map bare=l:=by
 rw [List.map_map]
 exact (List.map_congr_left fun _ _=>rfl).trans (List.map_id l)
theorem parse_lex {t:List UInt8} {l:List D} (ht:Lex t (sdocK l)) (hlen:t.length<=65536) (hY:docY litR l=true) (hw : ∀ i,wideD (gD l i)):parseD t = .ok (zCl (rgD cDf l)):=by
 obtain ⟨ts,h1,h2⟩:=ht.scanT hlen
 unfold docY at hY
 simp only [Bool.and_eq_true,decide_eq_true_eq] at hY
 obtain ⟨z,hz⟩:=sdoc_pst hY.1.2 (by omega) (fun i hi=>defP (zD4 hY.2 i hi)) hw
 obtain ⟨z',h3⟩:=(sdoc_like (ts:=(sdocK l++[endK5]).map mkT) (ts':=ts) (by rw [bare_mkT,h2])).1 _ _ hz
 unfold parseD
 rw [h1]
 dsimp only
 rw [h3]
theorem parse_docS {l:List D} (hY:docY litR l=true) (hw : ∀ i,wideD (gD l i)) (hlen:(docS l).length<=65536):parseD (docS l) = .ok (zCl (rgD cDf l)):=by
 refine parse_lex ?_ hlen hY hw
 unfold docY at hY
 simp only [Bool.and_eq_true,decide_eq_true_eq] at hY
 exact (docS_pw l l.length (Nat.le_refl _) (fun i hi=>defP (zD4 hY.2 i hi)) hw).lex
def SDp:Nat->List D->Prop
 |0,l=>l=[]
 |f+1,l => ∀ i,i<l.length->SDp f ((gD l i).f 6).l
structure QuePs (f:Nat) (q:D):Prop where
 right:QueF q
 wide:wideD q
 ops : ∀ i,i<(q.f 0).l.length->SDp f ((gD (q.f 0).l i).f 3).l
 frags : ∀ i,i<(q.f 1).l.length->SDp f ((gD (q.f 1).l i).f 2).l
end
section
open Go.RowKit
theorem zCc {k:Nat} {d:D} (h:Fits Tryz.prog k 9 d) : ∃ s,d = .str s:=by
 cases k with
 |zero=>exact h.elim
 |succ k=>unfold Fits at h;rw [Tryz.underlying9] at h;exact h
theorem zGf {k:Nat} {d:D} (h:Fits Tryz.prog k 3 d) : ∃ n,d = .int n:=by
 cases k with
 |zero=>exact h.elim
 |succ k=>unfold Fits at h;rw [Tryz.underlying3] at h;exact h
theorem fits_b {k:Nat} {d:D} (h:Fits Tryz.prog k 4 d) : ∃ n,d = .bool n:=by
 cases k with
 |zero=>exact h.elim
 |succ k=>unfold Fits at h;rw [Tryz.underlying4] at h;exact h
theorem zBL {P:Program} {t e:TypeId} (hu:P.underlying t=some (.slice e)) {k:Nat} {d:D} (h:Fits P k t d) : ∃ j l,d = .list l /\ ∀ i,i<l.length->Fits P j e (gD l i):=by
 cases k with
 |zero=>exact h.elim
 |succ k=>unfold Fits at h;rw [hu] at h;exact ⟨k,h⟩
theorem zCv {P:Program} {t:TypeId} {fs:Array Field} (hu:P.underlying t=some (.struct fs)) {k:Nat} {d:D} (h:Fits P k t d) : ∃ j l,d = .obj l/\l.length=fs.size /\ ∀ i f,fs[i]? = some f->Fits P j f.type (gD l i):=by
 cases k with
 |zero=>exact h.elim
 |succ k=>unfold Fits at h;rw [hu] at h;exact ⟨k,h⟩
theorem len2 {l:List D} (h:l.length=2):l=[gD l 0,gD l 1]:=by
 match l,h with
 |[a,b],_=>rfl
theorem len4 {l:List D} (h:l.length=4):l=[gD l 0,gD l 1,gD l 2,gD l 3]:=by
 match l,h with
 |[a,b,c,d],_=>rfl
theorem len5 {l:List D} (h:l.length=5):l=[gD l 0,gD l 1,gD l 2,gD l 3,gD l 4]:=by
 match l,h with
 |[a,b,c,d,e],_=>rfl
theorem len7 {l:List D} (h:l.length=7):l=[gD l 0,gD l 1,gD l 2,gD l 3,gD l 4,gD l 5,gD l 6]:=by
 match l,h with
 |[a,b,c,d,e,f,g],_=>rfl
theorem zCY (s:ByteArray):strD (tx s) = .str s:=by unfold strD tx;simp
theorem zCZ {c:D->D} {l:List D} (h : ∀ i,i<l.length->c (gD l i)=gD l i):rgD c l=l:=by
 unfold rgD
 apply List.ext_getElem (by simp)
 intro i h1 h2
 have:=h i h2
 rw [zA2 h2] at this
 simp [zA2 h2,this]
theorem zDq {c:D->D} {l:List D} (h : ∀ i,i<l.length->c (gD l i)=gD l i):l.map c=l:=by
 have:=zCZ h
 unfold rgD at this
 have e:l.map c=(List.range l.length).map fun i=>c (gD l i):=by
  apply List.ext_getElem (by simp)
  intro i h1 h2
  simp [zA2 (l:=l) (i:=i) (by simpa using h1)]
 rw [e,this]
theorem cnV_id : ∀ (k:Nat) {j:Nat} {d:D},Fits Tryz.prog j 53 d->cnV k d=d
 |0,_,_,_=>rfl
 |k+1,j,d,h=>by
  obtain ⟨j,l,rfl,hl,hf⟩:=zCv Tryz.underlying53 h
  have hl:l.length=5:=hl
  obtain ⟨n0,e0⟩:=zGf (hf 0 _ rfl)
  obtain ⟨n1,e1⟩:=zGf (hf 1 _ rfl)
  obtain ⟨s2,e2⟩:=zCc (hf 2 _ rfl)
  obtain ⟨j3,l3,e3,h3⟩:=zBL Tryz.underlying51 (hf 3 _ rfl)
  obtain ⟨j4,l4,e4,h4⟩:=zBL Tryz.underlying39 (hf 4 _ rfl)
  rw [len5 hl,e0,e1,e2,e3,e4]
  show valD n0 n1 (tx s2) ((List.range l3.length).map fun i=>cnV k (gD l3 i)) (l4.map fun x=>x.s.data.toList)=_
  have a:((List.range l3.length).map fun i=>cnV k (gD l3 i))=l3:=zCZ fun i hi=>cnV_id k (h3 i hi)
  have b:(l4.map fun x=>x.s.data.toList).map strD=l4:=by
   rw [List.map_map]
   refine zDq fun i hi => ?_
   obtain ⟨s,e⟩:=zCc (h4 i hi)
   rw [e]
   exact zCY s
  unfold valD
  rw [a,b,zCY]
theorem cL_id {j:Nat} {d:D} (h:Fits Tryz.prog j 53 d):cL d=d:=cnV_id _ h
theorem cA_id {j:Nat} {d:D} (h:Fits Tryz.prog j 111 d):cA d=d:=by
 obtain ⟨j,l,rfl,hl,hf⟩:=zCv Tryz.underlying111 h
 have hl:l.length=2:=hl
 obtain ⟨s0,e0⟩:=zCc (hf 0 _ rfl)
 have h1:Fits Tryz.prog j 53 (gD l 1):=hf 1 _ rfl
 rw [len2 hl,e0]
 show argD (tx s0) (cL (gD l 1))=_
 rw [cL_id h1]
 unfold argD
 rw [zCY]
theorem zHu {j:Nat} {d:D} (h:Fits Tryz.prog j 108 d):cDir d=d:=by
 obtain ⟨j,l,rfl,hl,hf⟩:=zCv Tryz.underlying108 h
 have hl:l.length=2:=hl
 obtain ⟨s0,e0⟩:=zCc (hf 0 _ rfl)
 obtain ⟨j1,l1,e1,h1⟩:=zBL Tryz.underlying106 (hf 1 _ rfl)
 rw [len2 hl,e0,e1]
 show dirD (tx s0) (rgD cA l1)=_
 rw [zCZ fun i hi=>cA_id (h1 i hi)]
 unfold dirD
 rw [zCY]
end
section
open Go.RowKit
attribute [local irreducible] wpList Calls Code.wp
section
variable {P:Program} {s:Sg} {w w':World} {pas:Nat->Prop} {B:Nat} {rs:Nat->Option Res}
theorem zJv (h:MemOk P pas B rs s w) (cur:Array Value) (e:TypeId) (n:Nat):Keeps s.F (fun b o=>s.F b o\/(b=w.heap.size/\o<n)) w (w.alloc (.cells cur e)):=fun b o hF =>
 ⟨(zAh (w:=w) (h.fx b o hF)).trans rfl,.inl hF⟩
theorem MemOk.tokNew0 (h:MemOk P pas B rs s w) (hB:B<=w.heap.size) {k:Nat} (X:Nat->Prop) (hX : ∀ q,X q->q=k) (hf : ∀ q ρ,q≠k->rs q=some ρ -> ∀ n,X n->ρ.free n=true) {cur:Array Value} {e:TypeId} {c m:Nat} (hc:cur.size=c*P.cellsOf e) (hm:m<=c) (hmx:c<=maxLen)
 (hx:Ext X s w (s.tok k w.heap.size (m*P.cellsOf e) (.slice (some ⟨w.heap.size,0,none⟩) m c) m) (w.alloc (.cells cur e))) :
 MemOk P pas B (updR rs k (.tok e m)) (s.tok k w.heap.size (m*P.cellsOf e) (.slice (some ⟨w.heap.size,0,none⟩) m c) m) (w.alloc (.cells cur e)) where
 fx b o hF:=by
  rcases hF with hF | ⟨rfl,hF⟩
  . rw [zAh (w:=w) (h.fx b o hF)];exact h.fx b o hF
  . have:o<cur.size:=by rw [hc];exact Nat.lt_of_lt_of_le hF (Nat.mul_le_mul_right _ hm)
    have h2:=zBq (w:=w) (t:=e) (Array.getElem?_eq_getElem this)
    exact Option.isSome_iff_exists.2 ⟨_,h2⟩
 ho q ρ hq:=by
  by_cases e':q=k
  . subst e'
    simp only [updR,if_true] at hq
    cases hq
    refine ⟨by simp [Sg.tok],.inr ⟨w.heap.size,c,cur,by simp [Sg.tok],by simp [Sg.tok],heap_alloc_new w _,hm,hmx,hc,fun o ho hF => ?_⟩⟩
    rcases hF with hF | ⟨_,hF⟩
    . obtain ⟨v,hv⟩:=Option.isSome_iff_exists.1 (h.fx _ o hF)
      have:=block_lt_of_cell hv
      simp at this
    . omega
  . simp only [updR,if_neg e'] at hq
    refine (h.ho q ρ hq).keep hx (fun hXq=>e' (hX q hXq)) (by simp [Sg.tok,e']) (by simp [Sg.tok,e']) (fun n hn=>hf q ρ e' hq n hn) (fun b hb=>Below.heap_alloc w _ _ ((h.ho q ρ hq).lt hb)) (fun b o hb hF => ?_)
    rcases hF with hF | ⟨rfl,_⟩
    . exact hF
    . have:=(h.ho q ρ hq).lt hb;omega
 bs q ρ b hq hb:=by
  by_cases e':q=k
  . subst e'
    simp only [updR,if_true] at hq
    cases hq
    simp only [Sg.bk,Sg.tok,if_true] at hb
    cases hb;exact .inl hB
  . simp only [updR,if_neg e'] at hq
    rw [zBQ e'] at hb
    exact h.bs q ρ b hq hb
 dj q r ρ ρ' b hq hr hqb hrb:=by
  by_cases e1:q=k<;>by_cases e2:r=k
  . rw [e1,e2]
  . simp only [updR,if_neg e2] at hr
    rw [zBQ e2] at hrb
    subst e1
    simp only [updR,if_true] at hq
    cases hq
    simp only [Sg.bk,Sg.tok,if_true] at hqb
    cases hqb
    have:=(h.ho r ρ' hr).lt hrb
    omega
  . simp only [updR,if_neg e1] at hq
    rw [zBQ e1] at hqb
    subst e2
    simp only [updR,if_true] at hr
    cases hr
    simp only [Sg.bk,Sg.tok,if_true] at hrb
    cases hrb
    have:=(h.ho q ρ hq).lt hqb
    omega
  . simp only [updR,if_neg e1] at hq
    simp only [updR,if_neg e2] at hr
    rw [zBQ e1] at hqb
    rw [zBQ e2] at hrb
    exact h.dj q r ρ ρ' b hq hr hqb hrb
end
section
variable {X:Cx} {nn:Nat} {st:Vst nn} {o:Oper} {K:Vst nn->Prop}
theorem opOk_lit0 {t e:TypeId} {by_ d:Nat} (ho:o.op = .buildSlice t 0 #[]) (hd:o.dst=some d) (hdl:Nat.ble d 999999=true) (he:zz X.P t=some (e,by_))
 (hK:K (((st.kill d).res d (.tok e 0)).put (some d) (.own d e []))):OpOk X o st K:=by
 intro s w a hI N Q hP hN
 obtain ⟨hu,hlay,i,z,hi,hz,hb,hpos,hzs,hsz⟩:=zB4 he
 have ha:(Instr.buildSlice t 0 #[]).run X.P w = .ok (.slice (some ⟨w.heap.size,0,none⟩) 0 0) (w.alloc (.cells #[] e)):=by
  simp [Instr.buildSlice,run_underlying hu,sizeOf,typeInfo,hi,Instr.fill,newRow]
  have hr0:Array.map (fun _:Nat=>(default:Value)) (Array.range 0) = #[]:=by apply Array.ext<;>simp
  rw [hr0]
 unfold Oper.wp
 have hrun:(execOp a.eval o).run X.P w = .ok (.value (.slice (some ⟨w.heap.size,0,none⟩) 0 0)) (w.alloc (.cells #[] e)):=by simp [execOp,ho,ha]
 rw [hrun,Oper.upon_value,hd]
 have hI':=hI.kill d
 have hkeep:Keeps s.F (s.tok d w.heap.size (0*X.P.cellsOf e) (.slice (some ⟨w.heap.size,0,none⟩) 0 0) 0).F w (w.alloc (.cells #[] e)):=zJv hI.mem _ e _
 have hext:Ext (fun m=>m=d) s w (s.tok d w.heap.size (0*X.P.cellsOf e) (.slice (some ⟨w.heap.size,0,none⟩) 0 0) 0) (w.alloc (.cells #[] e)):=
  ⟨hkeep,fun _ _=>rfl,fun q hq => .inl (by simp only [Sg.tok];rw [if_neg hq])⟩
 have hmem:=hI'.mem.tokNew0 hI.base (k:=d) (fun m=>m=d) (fun _ h=>h) zIz (cur:=#[]) (c:=0) (m:=0) (by simp) (Nat.le_refl _) (Nat.zero_le _) hext
 refine hN _ _ _ _ (Inv.put (st:=(st.kill d).res d (.tok e 0)) (v:=.own d e []) ⟨hI.sz,fun i hi => ?_,hI.df,hI.fr.trans (zCu w _ _) (q:=fun _=>False) (fun _ h=>h.elim),hI.kp.trans hkeep,fun b o hb hnp hF => ?_,hmem,hI.pe.ext hext fun m hm=>by subst hm;exact Nat.le_of_ble_eq_true hdl⟩ (some d) ?_) hK
 . exact rel.ext hext _ _ (zAS (hI.tm i hi)).1 fun n hn=>by subst hn;exact (zAS (hI.tm i hi)).2
 . rcases hF with hF | ⟨rfl,_⟩
   . exact hI.nf b o hb hnp hF
   . have:=hI.base;omega
 . rw [rel]
   exact ⟨zBr (l:=[]) (Nat.le_refl _) (Nat.zero_le _) fun k hk=>absurd hk (Nat.not_lt_zero k),by simp [Sg.tok],fun _=>by simp [Sg.tok]⟩
theorem zEZ {t e:TypeId} {by_ k:Nat} {x y:Operand} {l:List D} (ho:o.op = .call { callee:=.builtin .append,args:=#[x,y],argTypes:=#[t,t] }) (he:zz X.P t=some (e,by_))
 (hx:ev st x = .own k e l) (hy:(ev st y).out = .sl e []) (hK:K (st.put o.dst (.own k e l))):OpOk X o st K:=by
 intro s w a hI N Q hP hN
 obtain ⟨hu,hlay,i,z,hi,hz,hb,hsp,hzs,hsz⟩:=zB4 he
 have hxe:=hI.ev x
 rw [hx,rel] at hxe
 obtain ⟨k1,A,c1,hA,hc1,-,-,-⟩:=id hxe.1
 unfold Oper.wp
 have hye:=rel.out _ _ (hI.ev y)
 rw [hy,rel] at hye
 obtain ⟨k2,A2,c2,hy2,-,-,-,-⟩:=hye
 have hrun:(Builtin.append_ #[t,t] o.type #[a.eval x,a.eval y]).run X.P w = .ok (a.eval x) w:=by
  rw [hA,hy2]
  have hsz:(sizeOf e).run X.P w = .ok (X.P.cellsOf e) w:=by simp [sizeOf,typeInfo,hi,hsz]
  have hld : ∀ q,(loadCells q 0).run X.P w = .ok #[] w:=fun q=>by simp [loadCells,loadCellsFrom]
  cases A<;>cases A2<;>simp [Builtin.append_,run_underlying hu,hsz,Builtin.lenOf,Builtin.firstCells,storeCells,hld,Nat.not_lt.2 hc1]
 rw [zBA ho hrun,Oper.upon_value]
 refine hN _ _ _ _ (hI.put o.dst ?_) hK
 rw [rel]
 exact hxe
theorem res_same0 {k:Nat} {ρ:Res} (h:st.rs k=some ρ):st.res k ρ=st:=by
 have e:(st.res k ρ).rs=st.rs:=funext fun m=>by
  show updR st.rs k ρ m=_
  unfold updR
  split
  . rename_i e;rw [e,h]
  . rfl
 calc st.res k ρ=⟨(st.res k ρ).tm,(st.res k ρ).rs⟩:=rfl
  _=st:=by rw [e];rfl
theorem zIe {t e:TypeId} {by_ k:Nat} {x y:Operand} {l l2:List D} (ho:o.op = .call { callee:=.builtin .append,args:=#[x,y],argTypes:=#[t,t] }) (he:zz X.P t=some (e,by_))
 (hleaf : ∀ d,(cellsV X.P 12 e d).all V.leaf=true) (hx:ev st x = .own k e l) (hr:st.rs k=some (.tok e l.length)) (hy:(ev st y).out = .sl e l2) (hlen:l.length+l2.length<=maxLen) (hby:(l.length+l2.length)*by_<=140737488355328)
 (hK:K ((st.res k (.tok e (l.length+l2.length))).put o.dst (.own k e (l++l2)))):OpOk X o st K:=by
 rcases Nat.eq_zero_or_pos l2.length with h0 | h0
 . have hl0:l2=[]:=List.eq_nil_of_length_eq_zero h0
   subst hl0
   rw [List.length_nil,Nat.add_zero,res_same0 hr,List.append_nil] at hK
   exact zEZ ho he hx hy hK
 . exact zAb ho he hleaf hx hr hy h0 hlen hby hK
end
end
section
open Go.RowKit
attribute [local irreducible] wpList Calls Code.wp
section
variable {X:Cx} {nn:Nat} {st:Vst nn} {ops:Array Oper} {o:Oper}
def Fresh (st:Vst nn) (d:Nat):Prop:=(∀ i,(st.tm i).free d=true) /\ ∀ m ρ,st.rs m=some ρ->m≠d/\ρ.free d=true
theorem zGd {d:Nat} (h:Fresh st d):st.kill d=st:=by
 have e1:(st.kill d).tm=st.tm:=funext fun i=>by
  show zJu d (st.tm i)=_
  unfold zJu;rw [if_pos (h.1 i)]
 have e2:(st.kill d).rs=st.rs:=funext fun m=>by
  unfold Vst.kill
  dsimp only
  cases hm:st.rs m with
  |none=>split<;>rfl
  |some ρ =>
   have:=h.2 m ρ hm
   rw [if_neg this.1]
   simp [this.2]
 calc st.kill d=⟨(st.kill d).tm,(st.kill d).rs⟩:=rfl
  _=st:=by rw [e1,e2]
theorem zJk {t:TypeId} {d:Nat} {vs:List V} {K:Vst nn->Prop} (ho:o.op = .alloc t) (hd:o.dst=some d) (hdl:Nat.ble d 999999=true) (hc:zE0 X.P t=some vs) (hf:freeL d vs=true) (hfr:Fresh st d)
 (hK:K ((st.res d (.box t vs)).put (some d) (.bx d 0))):OpOk X o st K:=by
 refine zEA ho hd hdl hc hf ?_
 rw [zGd hfr];exact hK
theorem zIy {d:Nat} {t:Option Tmp} {v:V} {u:List (Nat × Res)} (h:Fresh st d) (hv:v.free d=true) (hu : ∀ p∈u,p.1≠d/\p.2.free d=true):Fresh (stp st t v u) d:=by
 unfold stp
 have hr : ∀ m ρ,updL st.rs u m=some ρ->m≠d/\ρ.free d=true:=by
  intro m ρ hm
  induction u with
  |nil=>exact h.2 m ρ hm
  |cons x u ih =>
   obtain ⟨k,ρ'⟩:=x
   change (if m=k then some ρ' else updL st.rs u m)=some ρ at hm
   split at hm
   . rename_i e
     cases hm
     have:=hu (k,ρ) (List.mem_cons_self ..)
     exact ⟨by rw [e];exact this.1,this.2⟩
   . exact ih (fun p hp=>hu p (List.mem_cons_of_mem _ hp)) hm
 cases t with
 |none=>exact ⟨h.1,hr⟩
 |some t =>
  refine ⟨fun i => ?_,hr⟩
  show (if i=t then v else st.tm i).free d=true
  split
  . exact hv
  . exact h.1 i
theorem fresh_put {d:Nat} {t:Option Tmp} {v:V} (h:Fresh st d) (hv:v.free d=true):Fresh (st.put t v) d:=zIy (u:=[]) h hv (fun _ hp=>by cases hp)
theorem fresh_res {d m:Nat} {ρ:Res} (h:Fresh st d) (hm:Nat.beq m d=false) (hv:ρ.free d=true):Fresh (st.res m ρ) d:=by
 refine ⟨h.1,fun q ρ' hq => ?_⟩
 change updR st.rs m ρ q=some ρ' at hq
 unfold updR at hq
 split at hq
 . rename_i e
   cases hq
   subst e
   exact ⟨fun e2=>by rw [e2] at hm;simp at hm,hv⟩
 . exact h.2 q ρ' hq
theorem fresh_S {d:Nat} {cs:List (Nat × V)} {R:List (Nat × Res)} (h:(cs.all (fun p=>p.2.free d)&&R.all fun p => !(Nat.beq p.1 d)&&p.2.free d)=true):Fresh (stS nn cs R) d:=by
 rw [Bool.and_eq_true,List.all_eq_true,List.all_eq_true] at h
 refine ⟨fun i => ?_,fun m ρ hm => ?_⟩
 . simp only [stS]
   split
   . rename_i p hp;exact h.1 p (List.mem_of_find?_eq_some hp)
   . rfl
 . simp only [stS] at hm
   split at hm
   . rename_i p hp
     have he:=List.find?_some hp
     simp at he
     cases hm
     have:=h.2 p (List.mem_of_find?_eq_some hp)
     rw [Bool.and_eq_true] at this
     refine ⟨fun e => ?_,this.2⟩
     rw [he,e] at this
     simp at this
   . cases hm
theorem opOk_lit0F {t e:TypeId} {by_ d:Nat} {K:Vst nn->Prop} (ho:o.op = .buildSlice t 0 #[]) (hd:o.dst=some d) (hdl:Nat.ble d 999999=true) (he:zz X.P t=some (e,by_)) (hfr:Fresh st d)
 (hK:K ((st.res d (.tok e 0)).put (some d) (.own d e []))):OpOk X o st K:=by
 refine opOk_lit0 ho hd hdl he ?_
 rw [zGd hfr];exact hK
def nfB (fr:List Nat) (v:V) (u:List (Nat × Res)):Bool:=fr.all fun d=>v.free d&&u.all fun p => !(Nat.beq p.1 d)&&p.2.free d
inductive YldA (X:Cx) (ops:Array Oper) (fr rd wr:List Nat) (o:Oper) (st:Vst nn):V->List (Nat × Res)->Prop where
 |old {v:V} {u:List (Nat × Res)} (h:YldG X ops rd wr o st v u) (hf:nfB fr v u=true):YldA X ops fr rd wr o st v u
 |alloc {t:TypeId} {d:Nat} {vs:List V} (hg:o.guard=none) (ho:o.op = .alloc t) (hd:o.dst=some d) (hdl:Nat.ble d 999999=true) (hc:zE0 X.P t=some vs) (hfd:freeL d vs=true) (hw:wr.contains d=true) (hf:nfB fr (.bx d 0) [(d,.box t vs)]=true):YldA X ops fr rd wr o st (.bx d 0) [(d,.box t vs)]
 |lit0 {t e:TypeId} {by_ d:Nat} (hg:o.guard=none) (ho:o.op = .buildSlice t 0 #[]) (hd:o.dst=some d) (hdl:Nat.ble d 999999=true) (he:zz X.P t=some (e,by_)) (hw:wr.contains d=true) (hf:nfB fr (.own d e []) [(d,.tok e 0)]=true):YldA X ops fr rd wr o st (.own d e []) [(d,.tok e 0)]
 |app {t e:TypeId} {by_ k:Nat} {x y:Operand} {l l2:List D} (hg:o.guard=none) (hw:wr.contains k=true) (ho:o.op = .call { callee:=.builtin .append,args:=#[x,y],argTypes:=#[t,t] }) (he:zz X.P t=some (e,by_)) (hleaf : ∀ d,(cellsV X.P 12 e d).all V.leaf=true)
   (hx:ev st x = .own k e l) (hr:st.rs k=some (.tok e l.length)) (hy:(ev st y).out = .sl e l2) (hp:l.length+l2.length<=maxLen/\(l.length+l2.length)*by_<=140737488355328) (hf:nfB fr (.own k e (l++l2)) [(k,.tok e (l.length+l2.length))]=true) :
   YldA X ops fr rd wr o st (.own k e (l++l2)) [(k,.tok e (l.length+l2.length))]
theorem YldA.of {fr rd wr:List Nat} {d:Option Tmp} {v v':V} {u u':List (Nat × Res)} (hd : ∀ t,d=some t->t ∉ o.looksAt ops) (hu:Off rd wr u') :
 YldA X ops fr rd wr o (stp st d v' u') v u ↔ YldA X ops fr rd wr o st v u:=by
 have evs : ∀ x∈o.op.operands,ev (stp st d v' u') x=ev st x:=fun x hx=>zFg fun t ht hxt=>hd t ht (by
  subst hxt
  exact List.mem_append_left _ (List.mem_filterMap.2 ⟨.tmp t,by simpa using hx,rfl⟩))
 have hrs : ∀ n,wr.contains n=true->(stp st d v' u').rs n=st.rs n:=fun n hn=>by
  rw [zCj];exact zEj hu (.inr hn)
 constructor
 . intro h
   cases h with
   |old h hf=>exact .old ((YldG.of hd hu).1 h) hf
   |alloc hg ho hd' hdl hc hfd hw hf=>exact .alloc hg ho hd' hdl hc hfd hw hf
   |lit0 hg ho hd' hdl he hw hf=>exact .lit0 hg ho hd' hdl he hw hf
   |app hg hw ho he hleaf hx hr hy hp hf =>
    rw [evs _ (by rw [ho];simp [Op.operands,Call.operands])] at hx
    rw [evs _ (by rw [ho];simp [Op.operands,Call.operands])] at hy
    rw [hrs _ hw] at hr
    exact .app hg hw ho he hleaf hx hr hy hp hf
 . intro h
   cases h with
   |old h hf=>exact .old ((YldG.of hd hu).2 h) hf
   |alloc hg ho hd' hdl hc hfd hw hf=>exact .alloc hg ho hd' hdl hc hfd hw hf
   |lit0 hg ho hd' hdl he hw hf=>exact .lit0 hg ho hd' hdl he hw hf
   |app hg hw ho he hleaf hx hr hy hp hf =>
    rw [<- evs _ (by rw [ho];simp [Op.operands,Call.operands])] at hx
    rw [<- evs _ (by rw [ho];simp [Op.operands,Call.operands])] at hy
    rw [<- hrs _ hw] at hr
    exact .app hg hw ho he hleaf hx hr hy hp hf
theorem YldA.names {fr rd wr:List Nat} {v:V} {u:List (Nat × Res)} (h:YldA X ops fr rd wr o st v u) : ∀ p∈u,wr.contains p.1=true:=by
 cases h with
 |old h hf=>exact h.names
 |alloc hg ho hd' hdl hc hfd hw hf=>exact fun p hp=>by simp at hp;subst hp;exact hw
 |lit0 hg ho hd' hdl he hw hf=>exact fun p hp=>by simp at hp;subst hp;exact hw
 |app hg hw ho he hleaf hx hr hy hp hf=>exact fun p hp=>by simp at hp;subst hp;exact hw
theorem YldA.nf {fr rd wr:List Nat} {v:V} {u:List (Nat × Res)} (h:YldA X ops fr rd wr o st v u):nfB fr v u=true:=by
 cases h with
 |old h hf=>exact hf
 |alloc hg ho hd' hdl hc hfd hw hf=>exact hf
 |lit0 hg ho hd' hdl he hw hf=>exact hf
 |app hg hw ho he hleaf hx hr hy hp hf=>exact hf
theorem nfB_ok {fr:List Nat} {v:V} {u:List (Nat × Res)} (h:nfB fr v u=true) {d:Nat} (hd:d∈fr):v.free d=true /\ ∀ p∈u,p.1≠d/\p.2.free d=true:=by
 have:=List.all_eq_true.1 h d hd
 rw [Bool.and_eq_true,List.all_eq_true] at this
 refine ⟨this.1,fun p hp => ?_⟩
 have h2:=this.2 p hp
 rw [Bool.and_eq_true] at h2
 exact ⟨fun e=>by rw [e] at h2;simp at h2,h2.2⟩
variable {fr rd wr:Nat->List Nat}
def aOpH (X:Cx) (ops:Array Oper) (fr rd wr:Nat->List Nat) (i:Nat) (K:Vst nn->Prop) (st:Vst nn):Prop:=
 match ops[i]? with
 |none=>K st
 |some o => ∃ v u,YldA X ops (fr i) (rd i) (wr i) o st v u/\K (stp st o.dst v u)
theorem aOpH_mono {i:Nat} {K K':Vst nn->Prop} (h : ∀ st,K st->K' st) (hh:aOpH X ops fr rd wr i K st):aOpH X ops fr rd wr i K' st:=by
 unfold aOpH at *
 split
 . rename_i hn;simp only [hn] at hh;exact h _ hh
 . rename_i o ho
   simp only [ho] at hh
   obtain ⟨v,u,h1,h2⟩:=hh
   exact ⟨v,u,h1,h _ h2⟩
def absAnyH (X:Cx) (ops:Array Oper) (fr rd wr:Nat->List Nat) (Q:Vst nn->Prop):Nat->Array Bool->Vst nn->Prop
 |0,listed,st=>Region.ready .any ops listed=[]/\Q st
 |fuel+1,listed,st=>(Region.ready .any ops listed=[]->Q st) /\ ∀ i∈Region.ready .any ops listed,aOpH X ops fr rd wr i (absAnyH X ops fr rd wr Q fuel (listed.setIfInBounds i true)) st
theorem aOpH_put {i j:Nat} {oi oj:Oper} {v:V} {u:List (Nat × Res)} (hj:ops[j]? = some oj) (hap:oi.apart ops oj=true) (hn:zBi (wr i) (rd j)=true/\zBi (wr i) (wr j)=true/\zBi (wr j) (rd i)=true) {K:Vst nn->Prop} (hy:YldA X ops (fr i) (rd i) (wr i) oi st v u) (h:aOpH X ops fr rd wr j K (stp st oi.dst v u)) :
 aOpH X ops fr rd wr j (fun st'=>YldA X ops (fr i) (rd i) (wr i) oi st' v u/\K (stp st' oi.dst v u)) st:=by
 obtain ⟨h1,h2,h3⟩:=Oper.apart_spec hap
 unfold aOpH at *
 simp only [hj] at *
 obtain ⟨v',u',hy',hK⟩:=h
 have hu:Off (rd j) (wr j) u:=fun p hp=>by
  have hw:=hy.names p hp
  refine ⟨?_,?_⟩
  . cases hq:(rd j).contains p.1
    . rfl
    . exact (zAW hn.1 hw hq).elim
  . cases hq:(wr j).contains p.1
    . rfl
    . exact (zAW hn.2.1 hw hq).elim
 have hyj:YldA X ops (fr j) (rd j) (wr j) oj st v' u':=(YldA.of h1 hu).1 hy'
 have hu':Off (rd i) (wr i) u':=fun p hp=>by
  have hw:=hyj.names p hp
  refine ⟨?_,?_⟩
  . cases hq:(rd i).contains p.1
    . rfl
    . exact (zAW hn.2.2 hw hq).elim
  . cases hq:(wr i).contains p.1
    . rfl
    . exact (zAW hn.2.1 hq hw).elim
 have huu : ∀ p∈u,∀ q∈u',p.1≠q.1:=fun p hp q hq e=>by
  have h5:=hy.names p hp
  have h6:=hyj.names q hq
  rw [<- e] at h6
  exact zAW hn.2.1 h5 h6
 exact ⟨v',u',hyj,(YldA.of h3 hu').2 hy,by rw [<- zFD h2 huu];exact hK⟩
theorem zHz {Q:Vst nn->Prop} {i:Nat} {oi:Oper} {v:V} {u:List (Nat × Res)} (hi:ops[i]? = some oi) (hN:zB1 ops rd wr=true) :
 ∀ (fuel:Nat) (listed:Array Bool) (st:Vst nn),Closed ops listed->(∀ j,j<i->listed.getD j false=true) ->
   (∀ j oj,ops[j]? = some oj->j≠i->listed.getD j true=false->(∀ e∈oj.after,Region.binds .any e=true->e.on≠i)->oi.apart ops oj=true) ->
   i∈Region.ready .any ops listed->YldA X ops (fr i) (rd i) (wr i) oi st v u ->
   absAnyH X ops fr rd wr Q fuel (listed.setIfInBounds i true) (stp st oi.dst v u)->absAnyH X ops fr rd wr Q (fuel+1) listed st:=by
 intro fuel
 induction fuel with
 |zero =>
  intro listed st _ _ _ hr hy H
  refine ⟨fun h=>(by rw [h] at hr;cases hr),fun j hj => ?_⟩
  by_cases hji:j=i
  . subst hji;unfold aOpH;simp only [hi];exact ⟨v,u,hy,H⟩
  . have:=ready_mono hj hji
    rw [H.1] at this
    cases this
 |succ fuel ih =>
  intro listed st hcl hlow hfree hr hy H
  refine ⟨fun h=>(by rw [h] at hr;cases hr),fun j hj => ?_⟩
  by_cases hji:j=i
  . subst hji;unfold aOpH;simp only [hi];exact ⟨v,u,hy,H⟩
  . have h1:=H.2 j (ready_mono hj hji)
    obtain ⟨hjun,oj,hoj,hall⟩:=mem_ready.1 hj
    have hiun:=(mem_ready.1 hr).1
    have hnot : ∀ e∈oj.after,Region.binds .any e=true->e.on≠i:=fun e he hb heq=>by
     have h1:=hall e he hb
     rw [heq] at h1
     exact zAQ hiun h1
    have hij:i<j:=by
     rcases Nat.lt_trichotomy i j with h | h | h
     . exact h
     . exact absurd h.symm hji
     . exact (zAQ hjun (hlow j h)).elim
    have hsz:j<ops.size:=(Array.getElem?_eq_some_iff.1 hoj).1
    have hnm:zBi (wr i) (rd j)=true/\zBi (wr i) (wr j)=true/\zBi (wr j) (rd i)=true:=by
     have h2:=List.all_eq_true.1 (List.all_eq_true.1 hN j (List.mem_range.2 hsz)) i (List.mem_range.2 hij)
     rw [Bool.or_eq_true] at h2
     rcases h2 with h2 | h2
     . simp only [Bool.and_eq_true] at h2;exact ⟨h2.1.1,h2.1.2,h2.2⟩
     . refine (zAQ hiun (zDl hcl _ _ (fun k hk => ?_) i (by simpa using h2))).elim
       unfold zF1 at hk
       rw [hoj] at hk
       obtain ⟨e,he,rfl⟩:=List.mem_map.1 hk
       obtain ⟨h2,h3⟩:=List.mem_filter.1 he
       exact hall e (by simpa using h2) h3
    have h2:=aOpH_put (i:=i) hoj (hfree j oj hoj hji hjun hnot) hnm hy h1
    have hfree' : ∀ k ok,ops[k]? = some ok->k≠i->(listed.setIfInBounds j true).getD k true=false ->
     (∀ e∈ok.after,Region.binds .any e=true->e.on≠i)->oi.apart ops ok=true:=fun k ok hk hki hun hno=>by
     refine hfree k ok hk hki ?_ hno
     by_cases hjk:j=k
     . subst hjk;exact hjun
     . rw [getD_set_ne true hjk] at hun;exact hun
    refine aOpH_mono (fun st' h3=>ih (listed.setIfInBounds j true) st' (hcl.set hj) (fun k hk=>getD_set_true (hlow k hk)) hfree' (ready_mono hr (Ne.symm hji)) h3.1 ?_) h2
    rw [Array.setIfInBounds_comm _ _ hji]
    exact h3.2
def absLexH (X:Cx) (ops:Array Oper) (fr rd wr:Nat->List Nat) (Q:Vst nn->Prop):Nat->List Oper->Vst nn->Prop
 |_,[],st=>Q st
 |k,o::rest,st => ∃ v u,YldA X ops (fr k) (rd k) (wr k) o st v u/\absLexH X ops fr rd wr Q (k+1) rest (stp st o.dst v u)
theorem zF0 {Q:Vst nn->Prop} (hN:zB1 ops rd wr=true) : ∀ (l:List Oper) (k:Nat) (listed:Array Bool) (st:Vst nn),(∀ j,l[j]? = ops[k+j]?)->Closed ops listed->(∀ j,j<k->listed.getD j false=true)->listed.size=ops.size ->
 Region.lexFrom .any ops l.length k listed=true->absLexH X ops fr rd wr Q k l st->absAnyH X ops fr rd wr Q l.length listed st
 |[],_,_,_,_,_,_,_,hB,h=>⟨by simpa [Region.lexFrom] using hB,h⟩
 |o::l,k,listed,st,hl,hcl,hlow,hsz,hB,h=>by
  have h0:ops[k]? = some o:=by simpa using (hl 0).symm
  have hk:k<ops.size:=(Array.getElem?_eq_some_iff.1 h0).1
  simp only [List.length_cons,Region.lexFrom,Bool.and_eq_true] at hB
  obtain ⟨⟨hr,hf⟩,hB'⟩:=hB
  have hr:k∈Region.ready .any ops listed:=by simpa using hr
  obtain ⟨v,u,hy,hK⟩:=h
  exact zHz h0 hN l.length listed st hcl hlow (Region.free_spec h0 hf) hr hy
   (zF0 hN l (k+1) _ _ (fun j=>by have:=hl (j+1);simpa [Nat.add_assoc,Nat.add_comm 1 j] using this) (hcl.set hr) (fun j hj=>by
     by_cases e:j=k
     . subst e;exact zCH (by omega)
     . exact getD_set_true (hlow j (by omega))) (by simpa using hsz) hB' hK)
def frOf (ops:Array Oper) (R:List (Nat × Nat)) (j:Nat):List Nat:=(R.filter fun p => !(Nat.beq p.1 j) && !(reachS ops ops.size (zF1 ops j)).contains p.1).map (·.2)
theorem zDd (R:List (Nat × Nat)) (hR : ∀ i o t d,ops[i]? = some o->(o.op = .alloc t\/o.op = .buildSlice t 0 #[])->o.dst=some d->(i,d)∈R) {Q:Vst nn->Prop} {Q':Exit->Act->World->Prop} (hP:PQ X nn Q') (hQ : ∀ st' s' w' a',Inv X st' s' w' a'->Q st'->Q' .normal a' w') : ∀ (fuel:Nat) (listed:Array Bool) (st:Vst nn) (s:Sg) (w:World) (a:Act),Closed ops listed->(∀ p∈R,listed.getD p.1 true=false->Fresh st p.2)->Inv X st s w a ->
 absAnyH X ops (frOf ops R) rd wr Q fuel listed st->wpAny X.P .any ops Q' fuel listed a w
 |0,_,_,_,_,_,_,_,hI,h=>⟨h.1,hQ _ _ _ _ hI h.2⟩
 |fuel+1,listed,st,s,w,a,hcl,hfr,hI,h=>⟨fun h0=>hQ _ _ _ _ hI (h.1 h0),fun i hi=>by
  have h1:=h.2 i hi
  obtain ⟨hiun,oi,hoi,hall⟩:=mem_ready.1 hi
  unfold aOpH at h1
  unfold wpOp
  simp only [hoi] at h1 |-
  obtain ⟨v,u,hy,hK⟩:=h1
  have hnf:=hy.nf
  have hfr' : ∀ p∈R,(listed.setIfInBounds i true).getD p.1 true=false->Fresh (stp st oi.dst v u) p.2:=fun p hp hl=>by
   have hne:p.1≠i:=fun e=>by
    rw [e] at hl
    have hsz:i<listed.size \/ ¬ i<listed.size:=Nat.lt_or_ge i listed.size |>.imp id fun h=>by omega
    rw [Array.getD_eq_getD_getElem?,Array.getElem?_setIfInBounds] at hl
    rcases hsz with hsz | hsz
    . simp [hsz] at hl
    . simp [hsz] at hl
   have hl2:listed.getD p.1 true=false:=by rwa [getD_set_ne true (Ne.symm hne)] at hl
   have hmem:p.2∈frOf ops R i:=by
    refine List.mem_map.2 ⟨p,List.mem_filter.2 ⟨hp,?_⟩,rfl⟩
    rw [Bool.and_eq_true]
    refine ⟨by cases hb:Nat.beq p.1 i;rfl;exact (hne (Nat.eq_of_beq_eq_true hb)).elim,?_⟩
    rw [Bool.not_eq_true']
    cases hq:(reachS ops ops.size (zF1 ops i)).contains p.1
    . rfl
    . refine (zAQ hl2 (zDl hcl _ _ (fun k hk => ?_) p.1 (by simpa using hq))).elim
      unfold zF1 at hk
      rw [hoi] at hk
      obtain ⟨e,he,rfl⟩:=List.mem_map.1 hk
      obtain ⟨h2,h3⟩:=List.mem_filter.1 he
      exact hall e (by simpa using h2) h3
   have:=nfB_ok hnf hmem
   exact zIy (hfr p hp hl2) this.1 this.2
  have go : ∀ {st':Vst nn} {s' w' a'},Inv X st' s' w' a'->(absAnyH X ops (frOf ops R) rd wr Q fuel (listed.setIfInBounds i true) st' /\ ∀ p∈R,(listed.setIfInBounds i true).getD p.1 true=false->Fresh st' p.2)->wpAny X.P .any ops Q' fuel (listed.setIfInBounds i true) a' w':=
   fun hI' hK'=>zDd R hR hP hQ fuel _ _ _ _ _ (hcl.set hi) hK'.2 hI' hK'.1
  cases hy with
  |old hy hf =>
   rcases hy with ⟨hg,hy⟩ | ⟨hg,rfl,rfl⟩
   . rw [if_pos (zHe hg hI)]
     exact .inl (zIc (K:=fun st'=>absAnyH X ops (frOf ops R) rd wr Q fuel (listed.setIfInBounds i true) st' /\ ∀ p∈R,(listed.setIfInBounds i true).getD p.1 true=false->Fresh st' p.2) hy ⟨hK,hfr'⟩ s w a hI _ _ hP fun st' s' w' a' hI' hK'=>go hI' hK')
   . rw [if_neg (by rw [zHe hg hI];simp)]
     exact go (hI.put oi.dst (by simp [rel])) ⟨hK,hfr'⟩
  |alloc hg ho hd hdl hc hfd hw hf =>
   rename_i t d vs
   rw [if_pos (zHe (by simp [gw,hg]) hI)]
   have hst:stp st oi.dst (.bx d 0) [(d,.box t vs)]=((st.res d (.box t vs)).put (some d) (.bx d 0)):=by rw [zCF,hd]
   refine .inl (zJk (K:=fun st'=>absAnyH X ops (frOf ops R) rd wr Q fuel (listed.setIfInBounds i true) st' /\ ∀ p∈R,(listed.setIfInBounds i true).getD p.1 true=false->Fresh st' p.2) ho hd hdl hc hfd (hfr _ (hR i oi t d hoi (.inl ho) hd) hiun) ?_ s w a hI _ _ hP fun st' s' w' a' hI' hK'=>go hI' hK')
   rw [<- hst]
   exact ⟨hK,hfr'⟩
  |lit0 hg ho hd hdl he hw hf =>
   rename_i t e by_ d
   rw [if_pos (zHe (by simp [gw,hg]) hI)]
   have hst:stp st oi.dst (.own d e []) [(d,.tok e 0)]=((st.res d (.tok e 0)).put (some d) (.own d e [])):=by rw [zCF,hd]
   refine .inl (opOk_lit0F (K:=fun st'=>absAnyH X ops (frOf ops R) rd wr Q fuel (listed.setIfInBounds i true) st' /\ ∀ p∈R,(listed.setIfInBounds i true).getD p.1 true=false->Fresh st' p.2) ho hd hdl he (hfr _ (hR i oi t d hoi (.inr ho) hd) hiun) ?_ s w a hI _ _ hP fun st' s' w' a' hI' hK'=>go hI' hK')
   rw [<- hst]
   exact ⟨hK,hfr'⟩
  |app hg hw ho he hleaf hx hr hy hp hf =>
   rename_i t e by_ k x y l l2
   rw [if_pos (zHe (by simp [gw,hg]) hI)]
   have hst:stp st oi.dst (.own k e (l++l2)) [(k,.tok e (l.length+l2.length))]=((st.res k (.tok e (l.length+l2.length))).put oi.dst (.own k e (l++l2))):=zCF
   refine .inl (zIe (K:=fun st'=>absAnyH X ops (frOf ops R) rd wr Q fuel (listed.setIfInBounds i true) st' /\ ∀ p∈R,(listed.setIfInBounds i true).getD p.1 true=false->Fresh st' p.2) ho he hleaf hx hr hy hp.1 hp.2 ?_ s w a hI _ _ hP fun st' s' w' a' hI' hK'=>go hI' hK')
   rw [<- hst]
   exact ⟨hK,hfr'⟩⟩
theorem aw_drawH (r w:List (Nat × List Nat)) (R:List (Nat × Nat)) {id:Nat} {l:List Oper} {K:Exit->Vst nn->Prop} (hm:X.P.follows .mixedOrders=true) (hB:Region.lexB .any l.toArray=true) (hN:zB1 l.toArray (nmf r) (nmf w)=true)
 (hR : ∀ i o t d,l.toArray[i]? = some o->(o.op = .alloc t\/o.op = .buildSlice t 0 #[])->o.dst=some d->(i,d)∈R) (hF : ∀ p∈R,Fresh st p.2) (h:absLexH X l.toArray (frOf l.toArray R) (nmf r) (nmf w) (K .normal) 0 l st):AW X (.region id l.toArray true) st K:=fun s wd a hI=>by
 simp only [Region.lexB,Bool.and_eq_true] at hB
 have hlow : ∀ k,(Array.replicate l.toArray.size false).getD k false=false:=fun k=>by
  rw [Array.getD_eq_getD_getElem?,Array.getElem?_replicate]
  split<;>rfl
 refine wp_region_any hm (zDd R hR (rd:=nmf r) (wr:=nmf w) (Q:=K .normal) (fun pv st' s' w' a' hI' hp=>⟨st',s',hI',.inr ⟨pv,rfl,hp⟩⟩) (fun st' s' w' a' hI' hK=>⟨st',s',hI',.inl hK⟩) _ _ st s _ a (fun k o _ hk=>by rw [hlow k] at hk;cases hk) (fun p hp _=>hF p hp) hI.drew ?_)
 have:=zF0 (X:=X) (fr:=frOf l.toArray R) (rd:=nmf r) (wr:=nmf w) (Q:=K .normal) hN l 0 (Array.replicate l.toArray.size false) st (by simp) (fun k o _ hk=>by rw [hlow k] at hk;cases hk) (fun j hj=>absurd hj (Nat.not_lt_zero j)) (by simp) (by simpa using hB.2) h
 simpa using this
def allocsB (ops:Array Oper) (R:List (Nat × Nat)):Bool:=(List.range ops.size).all fun i=>match ops[i]? with
 |some o=>(match o.op,o.dst with | .alloc _,some d=>R.contains (i,d) | .buildSlice _ _ _,some d=>R.contains (i,d) | _,_=>true)
 |none=>true
theorem allocsB_ok {R:List (Nat × Nat)} (h:allocsB ops R=true) : ∀ i o t d,ops[i]? = some o->(o.op = .alloc t\/o.op = .buildSlice t 0 #[])->o.dst=some d->(i,d)∈R:=fun i o t d hi ho hd=>by
 have:=List.all_eq_true.1 h i (List.mem_range.2 (Array.getElem?_eq_some_iff.1 hi).1)
 rw [hi] at this
 rcases ho with ho | ho
 . simp only [ho,hd] at this
   simpa using this
 . simp only [ho,hd] at this
   simpa using this
theorem aw_drawA (r w:List (Nat × List Nat)) (R:List (Nat × Nat)) {id:Nat} {l:List Oper} {K:Exit->Vst nn->Prop} (hm:X.P.follows .mixedOrders=true) (hB:Region.lexB .any l.toArray=true) (hN:zB1 l.toArray (nmf r) (nmf w)=true)
 (hA:allocsB l.toArray R=true) (hF : ∀ p∈R,Fresh st p.2) (h:absLexH X l.toArray (frOf l.toArray R) (nmf r) (nmf w) (K .normal) 0 l st):AW X (.region id l.toArray true) st K:=
 aw_drawH r w R hm hB hN (allocsB_ok hA) hF h
section
variable {l:List Oper} {Q:Vst nn->Prop} {d:Option Tmp} {k:Nat}
theorem h_nil (h:Q st):absLexH X ops fr rd wr Q k [] st:=h
theorem h_val {p:Prop} {v:V} (hg:o.guard=none) (hd:o.dst=d) (h:act1 X.P st.rs (ev st) o.op = .val p v) (hf:nfB (fr k) v []=true) (hK:absLexH X ops fr rd wr Q (k+1) l (st.put d v)) (hp:p) (hl:inO (rd k) (loads (ev st) o.op)=true):absLexH X ops fr rd wr Q k (o::l) st:=
 ⟨v,[],.old (.inl ⟨by simp [gw,hg],.val h hp hl⟩) hf,by rw [hd];exact hK⟩
theorem h_alloc {t:TypeId} {m:Nat} {vs:List V} (hg:o.guard=none) (ho:o.op = .alloc t) (hd:o.dst=some m) (hdl:Nat.ble m 999999=true) (hc:zE0 X.P t=some vs) (hfd:freeL m vs=true) (hw:(wr k).contains m=true) (hf:nfB (fr k) (.bx m 0) [(m,.box t vs)]=true)
 (hK:absLexH X ops fr rd wr Q (k+1) l ((st.res m (.box t vs)).put (some m) (.bx m 0))):absLexH X ops fr rd wr Q k (o::l) st:=
 ⟨_,_,.alloc hg ho hd hdl hc hfd hw hf,by rw [zCF,hd];exact hK⟩
theorem h_store {t:TypeId} {x y:Operand} {m off:Nat} {t':TypeId} {vs xs:List V} (hg:o.guard=none) (ho:o.op = .store t x y) (hd:o.dst=none) (hx:ev st x = .bx m off) (hw:(wr k).contains m=true) (hr:st.rs m=some (.box t' vs)) (hc:cellsOf (ev st y)=some xs)
 (hs:X.P.cellsOf t=xs.length/\(X.P.info? t).isSome) (hl:Nat.ble (off+xs.length) vs.length=true) (hf:nfB (fr k) .any [(m,.box t' (splice vs off xs))]=true) (hK:absLexH X ops fr rd wr Q (k+1) l (st.res m (.box t' (splice vs off xs)))):absLexH X ops fr rd wr Q k (o::l) st:=
 ⟨_,_,.old (.inl ⟨by simp [gw,hg],.store hw ho hd hx hr hc hs (Nat.le_of_ble_eq_true hl)⟩) hf,by rw [hd,zCF];exact hK⟩
end
end
end
section
open Go.RowKit
set_option linter.unusedSectionVars false
attribute [local irreducible] wpList Calls Code.wp AW AWo OpOk seqK zq zt loopK endK AC zg Yld Sub
attribute [local irreducible] ACB ACX ACE absLexG YldG absLexH
theorem zu {i n:Nat} (h:i<n):0<=(i:Int)/\(i:Int)<(n:Int):=⟨Int.natCast_nonneg i,Int.ofNat_lt.2 h⟩
noncomputable def HWr (l:List D) (i:Nat):Vst 26:=stS 26 [(0,.sl 3 l),(1,.sl 3 l),(5,.c (.int .i64 (i:Int)))] []
end
section
open Go.RowKit
attribute [local irreducible] wpList Calls Code.wp
def LenT (P:Program):Nat->TypeId->D->Prop
 |0,_,_=>True
 |n+1,t,d =>
  match P.underlying t with
  |some .string=>d.s.size<=maxLen
  |some (.slice e)=>d.l.length<=maxLen/\(0<P.cellsOf e -> ∀ i,i<d.l.length->LenT P n e (gD d.l i))
  |some (.struct fs) => ∀ j f,fs[j]? = some f->LenT P n f.type (d.f j)
  |_=>True
section
variable {P:Program} {s:Sg} {w:World}
theorem RepF.len {F:Nat->Nat->Prop} : ∀ (n:Nat) {k:Nat} {t:TypeId} {cs:List Value} {d:D},RepF P w F k t cs d->LenT P n t d
 |0,_,_,_,_,_=>trivial
 |n+1,0,_,_,_,h=>h.elim
 |n+1,k+1,t,cs,d,h=>by
  unfold RepF at h
  unfold LenT
  split<;>rename_i hu<;>try simp only [hu] at h
  . exact h.2
  . obtain ⟨A,c,h1,h2,h3,h4,h5⟩:=h
    refine ⟨Nat.le_trans h2 h3,fun hc i hi => ?_⟩
    obtain ⟨b,off,hA,hat⟩:=h5 (by omega) hc
    obtain ⟨ys,y1,y2,y3⟩:=hat i hi
    exact RepF.len n y3
  . exact fun j f hf=>RepF.len n (h.2 j f hf)
  . trivial
theorem SlV.len {F:Nat->Nat->Prop} (n:Nat) {e:TypeId} {l:List D} {u:Value} (h:SlV P w F e l u):l.length<=maxLen/\(0<P.cellsOf e -> ∀ i,i<l.length->LenT P n e (gD l i)):=by
 obtain ⟨k,A,c,h1,h2,h3,h4,h5⟩:=h
 refine ⟨Nat.le_trans h2 h3,fun hc i hi => ?_⟩
 obtain ⟨b,off,hA,hat⟩:=h5 (by omega) hc
 obtain ⟨ys,y1,y2,y3⟩:=hat i hi
 exact y3.len n
mutual
theorem zJG : ∀ (m n:Nat) (t:TypeId) (d:D) (cs:List Value),layB P m t=true->relL P s w (cellsV P m t d) cs->LenT P n t d
 |0,_,_,_,_,hb,_=>by simp [layB] at hb
 |m+1,0,_,_,_,_,_=>trivial
 |m+1,n+1,t,d,cs,hb,h=>by
  unfold LenT
  unfold layB at hb
  unfold cellsV at h
  split<;>rename_i hu<;>try simp only [hu] at h hb
  . cases cs with
    |nil=>simp [relL] at h
    |cons c cs=>rw [relL,rel] at h;exact h.1.2
  . cases cs with
    |nil=>simp [relL] at h
    |cons c cs=>rw [relL,rel] at h;exact h.1.len n
  . rename_i fs
    simp only [Bool.and_eq_true,beq_iff_eq] at hb
    intro j f hf
    have:=zGi m n fs.toList 0 d cs hb.2 h j f (by simpa using hf)
    simpa using this
  . trivial
theorem zGi : ∀ (m n:Nat) (fs:List Field) (j:Nat) (d:D) (cs:List Value),(fs.all fun f=>layB P m f.type)=true->relL P s w (zAk (cellsV P m) fs j d) cs -> ∀ i f,fs[i]? = some f->LenT P n f.type (d.f (j+i))
 |m,n,[],j,d,cs,_,_,i,f,hf=>by simp at hf
 |m,n,g::fs,j,d,cs,hb,h,i,f,hf=>by
  rw [zAk] at h
  simp only [List.all_cons,Bool.and_eq_true] at hb
  obtain ⟨h1,h2⟩:=relL.split h
  cases i with
  |zero =>
   simp at hf
   subst hf
   exact zJG m n g.type (d.f j) _ hb.1 h1
  |succ i =>
   have:=zGi m n fs (j+1) d _ hb.2 h2 i f (by simpa using hf)
   rwa [show j+1+i=j+(i+1) by omega] at this
end
end
theorem ac_pre {e:Ge} {P:Program} {f:FuncId} {args:List V} {r:V} {p:Prop} (hp : ∀ s w us,relL P s w args us->p) (h:p->AC e P f args r):AC e P f args r:=fun s w us hr hx he=>h (hp s w us.toList hr) s w us hr hx he
theorem zDL {e:Ge} {P:Program} {f:FuncId} {t:TypeId} {l:List D} {args:List V} {r:V} (n:Nat) (h:l.length<=maxLen/\(0<P.cellsOf t -> ∀ i,i<l.length->LenT P n t (gD l i))->AC e P f (.sl t l::args) r):AC e P f (.sl t l::args) r:=
 ac_pre (fun s w us hr=>by
  cases us with
  |nil=>simp [relL] at hr
  |cons u us=>rw [relL,rel] at hr;exact hr.1.len n) h
theorem zA9 {e:Ge} {P:Program} {f:FuncId} {t:TypeId} {d:D} {args:List V} {r:V} (n:Nat) (hb:layB P 12 t=true) (h:LenT P n t d->AC e P f (.agg (cellsV P 12 t d)::args) r):AC e P f (.agg (cellsV P 12 t d)::args) r:=
 ac_pre (fun s w us hr=>by
  cases us with
  |nil=>simp [relL] at hr
  |cons u us =>
   rw [relL,rel] at hr
   obtain ⟨⟨cs,-,h1⟩,-⟩:=hr
   exact zJG 12 n t d cs.toList hb h1) h
end
section
open Go.RowKit
set_option linter.unusedSectionVars false
theorem LenT.fld {P:Program} {n:Nat} {t:TypeId} {d:D} {fs:Array Field} {f:Field} (j:Nat) (hu:P.underlying t=some (.struct fs)) (hf:fs[j]? = some f) (h:LenT P (n+1) t d):LenT P n f.type (d.f j):=by
 unfold LenT at h
 rw [hu] at h
 exact h j f hf
theorem LenT.lst {P:Program} {n:Nat} {t e:TypeId} {d:D} (hu:P.underlying t=some (.slice e)) (h:LenT P (n+1) t d):d.l.length<=maxLen/\(0<P.cellsOf e -> ∀ i,i<d.l.length->LenT P n e (gD d.l i)):=by
 unfold LenT at h
 rw [hu] at h
 exact h
theorem len_ref {n:Nat} {d:D} (h:LenT Tryz.prog (n+2) 48 d):(d.f 1).l.length<=maxLen:=(LenT.lst (t:=46) (e:=3) (by kernel_rfl) (LenT.fld 1 (fs:=Tryz.prog.fieldsOf 48) (f:=(Tryz.prog.fieldsOf 48)[1]!) (by kernel_rfl) (by kernel_rfl) h)).1
theorem zBB {n:Nat} {d:D} (h:LenT Tryz.prog (n+2) 53 d):(d.f 3).l.length<=maxLen/\(d.f 4).l.length<=maxLen:=
 ⟨(LenT.lst (t:=51) (e:=53) (by kernel_rfl) (LenT.fld 3 (fs:=Tryz.prog.fieldsOf 53) (f:=(Tryz.prog.fieldsOf 53)[3]!) (by kernel_rfl) (by kernel_rfl) h)).1,
  (LenT.lst (t:=39) (e:=9) (by kernel_rfl) (LenT.fld 4 (fs:=Tryz.prog.fieldsOf 53) (f:=(Tryz.prog.fieldsOf 53)[4]!) (by kernel_rfl) (by kernel_rfl) h)).1⟩
attribute [local irreducible] wpList Calls Code.wp AW AWo OpOk seqK zq zt loopK endK AC zg Yld Sub
attribute [local irreducible] ACB ACX ACE absLexG YldG absLexH
theorem wrapsU_ac (l:List D):AC EN5 Tryz.prog 130 [.sl 3 l,.sl 3 l] (.c (.bool true)):=by
 refine zDL 1 fun hl => ?_
 have hl:l.length<=9223372036854775807:=hl.1
 have f0:((l.length:Int) != (l.length:Int))=false:=by simp
 refine zN 26 Tryz.func130 rfl rfl rfl rfl ?_
 intro s w he
 repeat' (first
|apply zD
 . conv=>lhs;whnf
 . assumption
|refine zA ?_
|refine zB ?_
|refine zK ?_
|apply aw_1
 conv=>whnf
 refine ⟨?_,trivial⟩
|apply s_1
 conv=>whnf;arg 1;arg 4;arg 3;whnf
 refine ⟨?_,?_⟩
|exact trivial)
 refine za (fun j st => ∃ i,i+j=l.length/\Sub (cx EN5 Tryz.prog s w he) st (HWr l i)) l.length ⟨0,by omega,Sub.live ⟨rfl,rfl,rfl,trivial⟩ trivial⟩ ?_
 rintro j st ⟨i,hij,hs2⟩
 refine zi hs2 ?_
 clear hs2
 by_cases hi:i<l.length
 . have f1:decide ((i:Int)<(l.length:Nat))=true:=decide_eq_true (by omega)
   have f2:((gD l i).n != (gD l i).n)=false:=by simp
   repeat' (first
|apply zG
 . conv=>lhs;whnf
 . assumption
|apply zD
 . conv=>lhs;whnf
 . assumption
|refine zA ?_
|refine zB ?_
|refine zK ?_
|refine zP ?_
|apply aw_1
 conv=>whnf
 refine ⟨?_,trivial⟩
|apply s_1
 conv=>whnf;arg 1;arg 4;arg 3;whnf
 refine ⟨?_,?_⟩
|apply zAC (by kernel_rfl) (by kernel_rfl)
|apply zAs
|apply zAr rfl
 . conv=>lhs;whnf
 . conv=>lhs;whnf;arg 2;whnf
|exact zj
|exact zr
|exact (1000000:Nat)
|exact trivial)
   all_goals first
    |exact zS (by omega)
    |exact zu hi
    |exact zH (j':=j-1) (by omega) ⟨i+1,by omega,Sub.live ⟨rfl,rfl,rfl,trivial⟩ trivial⟩
 . have f1:decide ((i:Int)<(l.length:Nat))=false:=decide_eq_false (by omega)
   repeat' (first
|apply zD
 . conv=>lhs;whnf
 . assumption
|refine zA ?_
|refine zB ?_
|refine zK ?_
|apply aw_1
 conv=>whnf
 refine ⟨?_,trivial⟩
|apply s_1
 conv=>whnf;arg 1;arg 4;arg 3;whnf
 refine ⟨?_,?_⟩
|refine zL ?_
|refine zJ rfl ?_
|refine zI ?_
|refine zE ?_
|refine ⟨_,by conv=>lhs;whnf;arg 2;whnf,?_⟩;conv=>rhs;whnf
|exact trivial)
theorem refU_ac (d:D):AC EN5 Tryz.prog 65 [.agg (cellsV Tryz.prog 12 48 d),.agg (cellsV Tryz.prog 12 48 d)] (.c (.bool true)):=by
 have h:=wrapsU_ac (d.f 1).l
 have f0:((d.f 0).s.toList==(d.f 0).s.toList)=true:=by simp
 have k0:(((d.f 0).s.toList==(d.f 0).s.toList)==true)=false->False:=fun h=>by rw [f0] at h;cases h
 refine zN 17 Tryz.func65 rfl rfl rfl rfl ?_
 intro s w he
 repeat' (first
|exact (k0 ‹_›).elim
|refine zA ?_
|refine zB ?_
|refine zK ?_
|apply aw_1
 conv=>whnf
 refine ⟨?_,trivial⟩
|apply zT rfl rfl
 . conv=>lhs;whnf
 . conv=>lhs;whnf
 . first | exact bT1 ‹_› | exact bT2 ‹_›
|apply s_1
 conv=>whnf;arg 1;arg 4;arg 3;whnf
 refine ⟨?_,?_⟩
|apply zAA rfl rfl rfl rfl
 . conv=>lhs;whnf;arg 1;whnf
 . rfl
|apply zF rfl
 . conv=>lhs;whnf
 . conv=>lhs;whnf
 . first | rfl | assumption
 . conv=>lhs;whnf;arg 2;whnf
|apply zU rfl
 . conv=>lhs;whnf
 . conv=>lhs;whnf
 . first | rfl | assumption
 . conv=>lhs;whnf
 . first | exact h
|apply zC rfl
 . conv=>lhs;whnf
 . conv=>lhs;whnf
 . conv=>lhs;whnf;arg 2;whnf
|refine zE ?_
|refine ⟨_,by conv=>lhs;whnf;arg 2;whnf,?_⟩;conv=>rhs;whnf
|exact trivial
|intro hg)
noncomputable def HeK (d:D) (i:Nat):Vst 81:=stS 81 [(2,.bx 2 0),(3,.bx 3 0),(5,.c (.int .i64 (i:Int)))] [(2,.box 53 (cellsV Tryz.prog 12 53 d)),(3,.box 53 (cellsV Tryz.prog 12 53 d))]
noncomputable def HeI (d:D) (i:Nat):Vst 81:=stS 81 [(2,.bx 2 0),(3,.bx 3 0),(6,.c (.int .i64 (i:Int)))] [(2,.box 53 (cellsV Tryz.prog 12 53 d)),(3,.box 53 (cellsV Tryz.prog 12 53 d))]
theorem valU_ac : ∀ (k:Nat) (d:D),Dp k d->AC EN5 Tryz.prog 129 [.agg (cellsV Tryz.prog 12 53 d),.agg (cellsV Tryz.prog 12 53 d)] (.c (.bool true))
 |0,_,h=>h.elim
 |k+1,d,h=>by
  refine zA9 2 (by kernel_rfl) fun hL => ?_
  have hL:=zBB hL
  have hl3:(d.f 3).l.length<=9223372036854775807:=hL.1
  have hl4:(d.f 4).l.length<=9223372036854775807:=hL.2
  have ih:=fun i (hi:i<(d.f 3).l.length)=>valU_ac k (gD (d.f 3).l i) (h i hi)
  have f0:((d.f 0).n != (d.f 0).n)=false:=by simp
  have f1:((d.f 1).n != (d.f 1).n)=false:=by simp
  have f2:(!((d.f 2).s.toList==(d.f 2).s.toList))=false:=by simp
  have f3:(((d.f 3).l.length:Int) != ((d.f 3).l.length:Int))=false:=by simp
  have f4:(((d.f 4).l.length:Int) != ((d.f 4).l.length:Int))=false:=by simp
  have k0:(((d.f 0).n != (d.f 0).n)==false)=false->False:=fun h=>by rw [f0] at h;cases h
  have k1:(((d.f 1).n != (d.f 1).n)==false)=false->False:=fun h=>by rw [f1] at h;cases h
  have k2:((!((d.f 2).s.toList==(d.f 2).s.toList))==false)=false->False:=fun h=>by rw [f2] at h;cases h
  have k3:((((d.f 3).l.length:Int) != ((d.f 3).l.length:Int))==false)=false->False:=fun h=>by rw [f3] at h;cases h
  refine zN 81 Tryz.func129 rfl rfl rfl rfl ?_
  intro s w he
  repeat' (first
|apply zD
 . conv=>lhs;whnf
 . assumption
|exact (k0 ‹_›).elim
|exact (k1 ‹_›).elim
|exact (k2 ‹_›).elim
|exact (k3 ‹_›).elim
|refine zA ?_
|refine zB ?_
|refine zK ?_
|apply aw_1
 conv=>whnf
 refine ⟨?_,trivial⟩
|apply zQ rfl rfl
 . conv=>lhs;whnf
 . conv=>lhs;whnf
 . first | exact bF1 ‹_› | exact bF2 ‹_›
|apply s_1
 conv=>whnf;arg 1;arg 4;arg 3;whnf
 refine ⟨?_,?_⟩
|apply zAA rfl rfl rfl rfl
 . conv=>lhs;whnf;arg 1;whnf
 . rfl
|apply zF rfl
 . conv=>lhs;whnf
 . conv=>lhs;whnf
 . first | rfl | assumption
 . conv=>lhs;whnf;arg 2;whnf
|apply zC rfl
 . conv=>lhs;whnf
 . conv=>lhs;whnf
 . conv=>lhs;whnf;arg 2;whnf
|exact trivial
|intro hg)
  refine za (fun j st => ∃ i,i+j=(d.f 4).l.length/\Sub (cx EN5 Tryz.prog s w he) st (HeK d i)) (d.f 4).l.length ⟨0,by omega,Sub.live ⟨rfl,rfl,rfl,trivial⟩ ⟨rfl,rfl,trivial⟩⟩ ?_
  rintro j st ⟨i,hij,hs2⟩
  refine zi hs2 ?_
  clear hs2
  by_cases hi:i<(d.f 4).l.length
  . have g1:decide ((i:Int)<((d.f 4).l.length:Nat))=true:=decide_eq_true (by omega)
    have g2:(!((gD (d.f 4).l i).s.toList==(gD (d.f 4).l i).s.toList))=false:=by simp
    repeat' (first
|apply zG
 . conv=>lhs;whnf
 . assumption
|apply zD
 . conv=>lhs;whnf
 . assumption
|refine zA ?_
|refine zB ?_
|refine zK ?_
|refine zP ?_
|apply aw_1
 conv=>whnf
 refine ⟨?_,trivial⟩
|apply s_1
 conv=>whnf;arg 1;arg 4;arg 3;whnf
 refine ⟨?_,?_⟩
|apply zAC (by kernel_rfl) (by kernel_rfl)
|apply zAs
|apply zAr rfl
 . conv=>lhs;whnf
 . conv=>lhs;whnf;arg 2;whnf
|exact zj
|exact zr
|exact (1000000:Nat)
|exact trivial)
    all_goals first
     |exact zS (by omega)
     |exact zu hi
     |exact zH (j':=j-1) (by omega) ⟨i+1,by omega,Sub.live ⟨rfl,rfl,rfl,trivial⟩ ⟨rfl,rfl,trivial⟩⟩
  . have g1:decide ((i:Int)<((d.f 4).l.length:Nat))=false:=decide_eq_false (by omega)
    repeat' (first
|apply zD
 . conv=>lhs;whnf
 . assumption
|refine zA ?_
|refine zB ?_
|refine zK ?_
|apply aw_1
 conv=>whnf
 refine ⟨?_,trivial⟩
|apply s_1
 conv=>whnf;arg 1;arg 4;arg 3;whnf
 refine ⟨?_,?_⟩
|refine zL ?_
|refine zJ rfl ?_
|refine zI ?_
|exact trivial)
    refine za (fun j st => ∃ i,i+j=(d.f 3).l.length/\Sub (cx EN5 Tryz.prog s w he) st (HeI d i)) (d.f 3).l.length ⟨0,by omega,Sub.live ⟨rfl,rfl,rfl,trivial⟩ ⟨rfl,rfl,trivial⟩⟩ ?_
    rintro j st ⟨i,hij,hs2⟩
    refine zi hs2 ?_
    clear hs2
    by_cases hi:i<(d.f 3).l.length
    . have g1:decide ((i:Int)<((d.f 3).l.length:Nat))=true:=decide_eq_true (by omega)
      have ih2:=ih i hi
      repeat' (first
|apply zG
 . conv=>lhs;whnf
 . assumption
|refine zA ?_
|refine zB ?_
|refine zK ?_
|refine zP ?_
|apply aw_1
 conv=>whnf
 refine ⟨?_,trivial⟩
|apply s_1
 conv=>whnf;arg 1;arg 4;arg 3;whnf
 refine ⟨?_,?_⟩
|apply zAC (by kernel_rfl) (by kernel_rfl)
|apply zAs
|apply zAr rfl
 . conv=>lhs;whnf
 . conv=>lhs;whnf;arg 2;whnf
|apply zCX rfl
 . conv=>lhs;whnf
 . conv=>lhs;whnf
 . first | exact ih2
|exact zj
|exact zr
|exact (1000000:Nat)
|exact trivial)
      all_goals first
       |exact zS (by omega)
       |exact zu hi
       |exact zH (j':=j-1) (by omega) ⟨i+1,by omega,Sub.live ⟨rfl,rfl,rfl,trivial⟩ ⟨rfl,rfl,trivial⟩⟩
    . have g1:decide ((i:Int)<((d.f 3).l.length:Nat))=false:=decide_eq_false (by omega)
      repeat' (first
|apply zD
 . conv=>lhs;whnf
 . assumption
|refine zA ?_
|refine zB ?_
|refine zK ?_
|apply aw_1
 conv=>whnf
 refine ⟨?_,trivial⟩
|apply s_1
 conv=>whnf;arg 1;arg 4;arg 3;whnf
 refine ⟨?_,?_⟩
|refine zL ?_
|refine zJ rfl ?_
|refine zI ?_
|refine zE ?_
|refine ⟨_,by conv=>lhs;whnf;arg 2;whnf,?_⟩;conv=>rhs;whnf
|exact trivial)
end
section
open Go.RowKit
set_option linter.unusedSectionVars false
theorem zHV {n:Nat} {d:D} (h:LenT Tryz.prog (n+2) 108 d):(d.f 1).l.length<=maxLen:=(LenT.lst (t:=106) (e:=111) (by kernel_rfl) (LenT.fld 1 (fs:=Tryz.prog.fieldsOf 108) (f:=(Tryz.prog.fieldsOf 108)[1]!) (by kernel_rfl) (by kernel_rfl) h)).1
theorem len_def {n:Nat} {d:D} (h:LenT Tryz.prog (n+2) 45 d):(d.f 4).l.length<=maxLen/\(d.f 5).l.length<=maxLen:=
 ⟨(LenT.lst (t:=41) (e:=50) (by kernel_rfl) (LenT.fld 4 (fs:=Tryz.prog.fieldsOf 45) (f:=(Tryz.prog.fieldsOf 45)[4]!) (by kernel_rfl) (by kernel_rfl) h)).1,
  (LenT.lst (t:=42) (e:=79) (by kernel_rfl) (LenT.fld 5 (fs:=Tryz.prog.fieldsOf 45) (f:=(Tryz.prog.fieldsOf 45)[5]!) (by kernel_rfl) (by kernel_rfl) h)).1⟩
theorem zHU {n:Nat} {d:D} (h:LenT Tryz.prog (n+2) 25 d):(d.f 0).l.length<=maxLen:=(LenT.lst (t:=23) (e:=45) (by kernel_rfl) (LenT.fld 0 (fs:=Tryz.prog.fieldsOf 25) (f:=(Tryz.prog.fieldsOf 25)[0]!) (by kernel_rfl) (by kernel_rfl) h)).1
theorem valE_ac (d:D):AC EN5 Tryz.prog 129 [.agg (cellsV Tryz.prog 12 53 d),.agg (cellsV Tryz.prog 12 53 d)] (.c (.bool true)):=valU_ac _ d (zBP (bulkD d) d (Nat.le_refl _))
attribute [local irreducible] wpList Calls Code.wp AW AWo OpOk seqK zq zt loopK endK AC zg Yld Sub
attribute [local irreducible] ACB ACX ACE absLexG YldG absLexH
theorem eqs_f (s:ByteArray):(!(s.toList==s.toList))=false:=by simp
theorem eqs_k (s:ByteArray) (h:((!(s.toList==s.toList))==false)=false):False:=by simp at h
theorem eqn_f (n:Int):(n != n)=false:=by simp
theorem eqn_k (n:Int) (h:((n != n)==false)=false):False:=by simp at h
theorem eqb_k (b:Bool) (h:((b != b)==false)=false):False:=by cases b<;>cases h
theorem eqt_k (h:((!true)==false)=false):False:=by cases h
theorem eqt_f:(!true)=false:=rfl
noncomputable def HtX (l:List D) (i:Nat):Vst 26:=stS 26 [(0,.sl 9 l),(1,.sl 9 l),(5,.c (.int .i64 (i:Int)))] []
theorem textsE_ac (l:List D):AC EN5 Tryz.prog 62 [.sl 9 l,.sl 9 l] (.c (.bool true)):=by
 refine zDL 1 fun hl => ?_
 have hl:l.length<=9223372036854775807:=hl.1
 have f0:=eqn_f (l.length:Int)
 refine zN 26 Tryz.func62 rfl rfl rfl rfl ?_
 intro s w he
 repeat' (first
|apply zD
 . conv=>lhs;whnf
 . assumption
|refine zA ?_
|refine zB ?_
|refine zK ?_
|apply aw_1
 conv=>whnf
 refine ⟨?_,trivial⟩
|apply s_1
 conv=>whnf;arg 1;arg 4;arg 3;whnf
 refine ⟨?_,?_⟩
|exact trivial)
 refine za (fun j st => ∃ i,i+j=l.length/\Sub (cx EN5 Tryz.prog s w he) st (HtX l i)) l.length ⟨0,by omega,Sub.live ⟨rfl,rfl,rfl,trivial⟩ trivial⟩ ?_
 rintro j st ⟨i,hij,hs2⟩
 refine zi hs2 ?_
 clear hs2
 by_cases hi:i<l.length
 . have f1:decide ((i:Int)<(l.length:Nat))=true:=decide_eq_true (by omega)
   have f2:=eqs_f (gD l i).s
   repeat' (first
|apply zG
 . conv=>lhs;whnf
 . assumption
|apply zD
 . conv=>lhs;whnf
 . assumption
|refine zA ?_
|refine zB ?_
|refine zK ?_
|refine zP ?_
|apply aw_1
 conv=>whnf
 refine ⟨?_,trivial⟩
|apply s_1
 conv=>whnf;arg 1;arg 4;arg 3;whnf
 refine ⟨?_,?_⟩
|apply zAC (by kernel_rfl) (by kernel_rfl)
|apply zAs
|apply zAr rfl
 . conv=>lhs;whnf
 . conv=>lhs;whnf;arg 2;whnf
|exact zj
|exact zr
|exact (1000000:Nat)
|exact trivial)
   all_goals first
    |exact zS (by omega)
    |exact zu hi
    |exact zH (j':=j-1) (by omega) ⟨i+1,by omega,Sub.live ⟨rfl,rfl,rfl,trivial⟩ trivial⟩
 . have f1:decide ((i:Int)<(l.length:Nat))=false:=decide_eq_false (by omega)
   repeat' (first
|apply zD
 . conv=>lhs;whnf
 . assumption
|refine zA ?_
|refine zB ?_
|refine zK ?_
|apply aw_1
 conv=>whnf
 refine ⟨?_,trivial⟩
|apply s_1
 conv=>whnf;arg 1;arg 4;arg 3;whnf
 refine ⟨?_,?_⟩
|refine zL ?_
|refine zJ rfl ?_
|refine zI ?_
|refine zE ?_
|refine ⟨_,by conv=>lhs;whnf;arg 2;whnf,?_⟩;conv=>rhs;whnf
|exact trivial)
noncomputable def HuD (l:List D) (i:Nat):Vst 95:=stS 95 [(0,.sl 108 l),(1,.sl 108 l),(5,.c (.int .i64 (i:Int)))] []
noncomputable def HuE (l:List D) (i k:Nat):Vst 95:=stS 95 [(0,.sl 108 l),(1,.sl 108 l),(5,.c (.int .i64 (i:Int))),(6,.c (.int .i64 (k:Int)))] []
theorem zEw (l:List D):AC EN5 Tryz.prog 63 [.sl 108 l,.sl 108 l] (.c (.bool true)):=by
 refine zDL 2 fun hL => ?_
 have hl:l.length<=9223372036854775807:=hL.1
 have hla : ∀ i,i<l.length->((gD l i).f 1).l.length<=9223372036854775807:=fun i hi=>zHV (hL.2 (by decide +kernel) i hi)
 have f0:=eqn_f (l.length:Int)
 refine zN 95 Tryz.func63 rfl rfl rfl rfl ?_
 intro s w he
 repeat' (first
|apply zD
 . conv=>lhs;whnf
 . assumption
|refine zA ?_
|refine zB ?_
|refine zK ?_
|apply aw_1
 conv=>whnf
 refine ⟨?_,trivial⟩
|apply s_1
 conv=>whnf;arg 1;arg 4;arg 3;whnf
 refine ⟨?_,?_⟩
|exact trivial)
 refine za (fun j st => ∃ i,i+j=l.length/\Sub (cx EN5 Tryz.prog s w he) st (HuD l i)) l.length ⟨0,by omega,Sub.live ⟨rfl,rfl,rfl,trivial⟩ trivial⟩ ?_
 rintro j st ⟨i,hij,hs2⟩
 refine zi hs2 ?_
 clear hs2
 by_cases hi:i<l.length
 . have f1:decide ((i:Int)<(l.length:Nat))=true:=decide_eq_true (by omega)
   have k1:=eqs_k ((gD l i).f 0).s
   have f2:=eqn_f (((gD l i).f 1).l.length:Int)
   have ha:=hla i hi
   repeat' (first
|apply zG
 . conv=>lhs;whnf
 . assumption
|apply zD
 . conv=>lhs;whnf
 . assumption
|exact (k1 ‹_›).elim
|refine zA ?_
|refine zB ?_
|refine zK ?_
|apply aw_1
 conv=>whnf
 refine ⟨?_,trivial⟩
|apply s_1
 conv=>whnf;arg 1;arg 4;arg 3;whnf
 refine ⟨?_,?_⟩
|apply zAC (by kernel_rfl) (by kernel_rfl)
|apply zAs
|apply zEg rfl rfl
 . conv=>lhs;whnf
 . conv=>lhs;whnf
 . first | exact bF1 ‹_› | exact bF2 ‹_›
|apply zAr rfl
 . conv=>lhs;whnf
 . conv=>lhs;whnf;arg 2;whnf
|apply zBG rfl
 . conv=>lhs;whnf
 . conv=>lhs;whnf
 . first | rfl | assumption
 . conv=>lhs;whnf;arg 2;whnf
|apply zB8 rfl
 . conv=>lhs;whnf
 . conv=>lhs;whnf
 . conv=>lhs;whnf;arg 2;whnf
|exact zj
|exact ([]:List Nat)
|exact (1000000:Nat)
|exact trivial
|intro hg)
   all_goals first
    |exact zS (by omega)
    |exact zu hi
    |skip
   refine za (fun j st => ∃ k,k+j=((gD l i).f 1).l.length/\Sub (cx EN5 Tryz.prog s w he) st (HuE l i k)) ((gD l i).f 1).l.length ⟨0,by omega,Sub.live ⟨rfl,rfl,rfl,rfl,trivial⟩ trivial⟩ ?_
   rintro j2 st2 ⟨k,hkj,hs3⟩
   refine zi hs3 ?_
   clear hs3
   by_cases hk:k<((gD l i).f 1).l.length
   . have g1:decide ((k:Int)<(((gD l i).f 1).l.length:Nat))=true:=decide_eq_true (by omega)
     have k2:=eqs_k ((gD ((gD l i).f 1).l k).f 0).s
     have hv:=valE_ac ((gD ((gD l i).f 1).l k).f 1)
     have f3:=eqt_f
     repeat' (first
|apply zG
 . conv=>lhs;whnf
 . assumption
|apply zD
 . conv=>lhs;whnf
 . assumption
|exact (k2 ‹_›).elim
|refine zA ?_
|refine zB ?_
|refine zK ?_
|refine zP ?_
|apply aw_1
 conv=>whnf
 refine ⟨?_,trivial⟩
|apply s_1
 conv=>whnf;arg 1;arg 4;arg 3;whnf
 refine ⟨?_,?_⟩
|apply zAC (by kernel_rfl) (by kernel_rfl)
|apply zAs
|apply zEg rfl rfl
 . conv=>lhs;whnf
 . conv=>lhs;whnf
 . first | exact bF1 ‹_› | exact bF2 ‹_›
|apply zAr rfl
 . conv=>lhs;whnf
 . conv=>lhs;whnf;arg 2;whnf
|apply zBG rfl
 . conv=>lhs;whnf
 . conv=>lhs;whnf
 . first | rfl | assumption
 . conv=>lhs;whnf;arg 2;whnf
|apply zB7 rfl
 . conv=>lhs;whnf
 . conv=>lhs;whnf
 . first | rfl | assumption
 . conv=>lhs;whnf
 . first | exact hv
|apply zB8 rfl
 . conv=>lhs;whnf
 . conv=>lhs;whnf
 . conv=>lhs;whnf;arg 2;whnf
|exact zj
|exact ([]:List Nat)
|exact (1000000:Nat)
|exact trivial
|intro hg)
     all_goals first
      |exact zS (by omega)
      |exact zu hi
      |exact zu hk
      |exact zH (j':=j2-1) (by omega) ⟨k+1,by omega,Sub.live ⟨rfl,rfl,rfl,rfl,trivial⟩ trivial⟩
      |skip
   . have g1:decide ((k:Int)<(((gD l i).f 1).l.length:Nat))=false:=decide_eq_false (by omega)
     repeat' (first
|apply zD
 . conv=>lhs;whnf
 . assumption
|refine zA ?_
|refine zB ?_
|refine zK ?_
|refine zP ?_
|apply aw_1
 conv=>whnf
 refine ⟨?_,trivial⟩
|apply s_1
 conv=>whnf;arg 1;arg 4;arg 3;whnf
 refine ⟨?_,?_⟩
|refine zL ?_
|refine zJ rfl ?_
|refine zI ?_
|exact trivial)
     all_goals first
      |exact zS (by omega)
      |exact zu hi
      |exact zH (j':=j-1) (by omega) ⟨i+1,by omega,Sub.live ⟨rfl,rfl,rfl,trivial⟩ trivial⟩
      |skip
 . have f1:decide ((i:Int)<(l.length:Nat))=false:=decide_eq_false (by omega)
   repeat' (first
|apply zD
 . conv=>lhs;whnf
 . assumption
|refine zA ?_
|refine zB ?_
|refine zK ?_
|apply aw_1
 conv=>whnf
 refine ⟨?_,trivial⟩
|apply s_1
 conv=>whnf;arg 1;arg 4;arg 3;whnf
 refine ⟨?_,?_⟩
|refine zL ?_
|refine zJ rfl ?_
|refine zI ?_
|refine zE ?_
|refine ⟨_,by conv=>lhs;whnf;arg 2;whnf,?_⟩;conv=>rhs;whnf
|exact trivial)
end
section
open Go.RowKit
set_option linter.unusedSectionVars false
def wrapsI (l:List D):Nat->Nat->Bool
 |0,_=>true
 |j+1,i=>((gD l i).n==1||(gD l i).n==2) && !((gD l i).n==1&&decide (0<i)&&(gD l (i-1)).n==(gD l i).n)&&wrapsI l j (i+1)
theorem zE3 (x:D) (l:List D) : ∀ (j i:Nat),wrapsI (x::l) j (i+2)=wrapsI l j (i+1)
 |0,_=>rfl
 |j+1,i=>by
  unfold wrapsI
  rw [zE3 x l j (i+1)]
  have e1:gD (x::l) (i+2)=gD l (i+1):=rfl
  have e2:gD (x::l) (i+2-1)=gD l (i+1-1):=rfl
  have e3:decide (0<i+2)=decide (0<i+1):=by simp
  rw [e1,e2,e3]
theorem zGt : ∀ l:List D,wrapsI l l.length 0=zAi (l.map D.n)
 |[]=>rfl
 |[x]=>by
  show (((x.n==1||x.n==2) && !(x.n==1&&decide (0<0)&&_))&&true)=(x.n==1||x.n==2)
  simp
 |x::y::r=>by
  have ih:=zGt (y::r)
  show (((x.n==1||x.n==2) && !(x.n==1&&decide (0<0)&&_))&&wrapsI (x::y::r) (r.length+1) 1)=((x.n==1||x.n==2) && !(x.n==1&&y.n==1)&&zAi (y.n::r.map D.n))
  have e:wrapsI (x::y::r) (r.length+1) 1=(((y.n==1||y.n==2) && !(y.n==1&&true&&(x.n==y.n)))&&wrapsI (y::r) r.length 1):=by
   show (((y.n==1||y.n==2) && !(y.n==1&&true&&(x.n==y.n)))&&wrapsI (x::y::r) r.length 2)=_
   rw [zE3]
  have e2:wrapsI (y::r) (y::r).length 0=(((y.n==1||y.n==2) && !(y.n==1&&decide (0<0)&&false))&&wrapsI (y::r) r.length 1):=by
   show (((y.n==1||y.n==2) && !(y.n==1&&decide (0<0)&&_))&&wrapsI (y::r) r.length 1)=_
   simp
  rw [e]
  rw [e2] at ih
  have ih2:zAi (y.n::r.map D.n)=(((y.n==1||y.n==2) && !(y.n==1&&decide (0<0)&&false))&&wrapsI (y::r) r.length 1):=ih.symm
  rw [ih2]
  generalize wrapsI (y::r) r.length 1=q
  cases hy:(y.n==1)
  . generalize (x.n==1)=a1
    generalize (x.n==2)=a2
    generalize (y.n==2)=a3
    generalize (x.n==y.n)=a4
    cases a1<;>cases a2<;>cases a3<;>cases a4<;>cases q<;>rfl
  . have hy':y.n=1:=by simpa using hy
    rw [hy']
    generalize (x.n==1)=a1
    generalize (x.n==2)=a2
    cases a1<;>cases a2<;>cases q<;>rfl
noncomputable def HTr (d:D) (i:Nat):Vst 48:=stS 48 [(1,.bx 1 0),(16,.sl 3 (d.f 1).l),(17,.c (.int .i64 ((d.f 1).l.length:Nat))),(18,.c (.int .i64 (i:Int)))] [(1,.box 48 (cellsV Tryz.prog 12 48 d))]
end
section
open Go.RowKit
set_option linter.unusedSectionVars false
attribute [local irreducible] wpList Calls Code.wp AW AWo OpOk seqK zq zt loopK endK AC zg Yld Sub
attribute [local irreducible] ACB ACX ACE absLexG YldG absLexH
theorem zEo (s:ByteArray):AC EN5 Tryz.prog 67 [.c (.string s)] (.c (.bool (nameB s))):=by
 refine zFy (u:=.bool (nameB s)) fun σ w us hus he => ?_
 obtain ⟨rfl,hs⟩:=zG2 hus
 refine ⟨fun s' w'=>rel_b,(nameP s w hs).mono ?_⟩
 rintro e w' ⟨rfl,rfl⟩
 exact ⟨rfl,Below.refl _ _⟩
theorem zIS (d:D):AC EN5 Tryz.prog 132 [.agg (cellsV Tryz.prog 12 48 d)] (.c (.bool (refR d))):=by
 refine zA9 2 (by kernel_rfl) fun hL2 => ?_
 have hl:(d.f 1).l.length<=9223372036854775807:=len_ref hL2
 clear hL2
 have hn:=zEo (d.f 0).s
 have hR:refR d=(nameB (d.f 0).s&&decide ((d.f 1).l.length<=24)&&wrapsI (d.f 1).l (d.f 1).l.length 0):=by rw [zGt];rfl
 generalize refR d=R at hR |-
 have e:decide (((d.f 1).l.length:Int)>24) = !decide ((d.f 1).l.length<=24):=by
  rw [Bool.eq_iff_iff]
  simp only [decide_eq_true_eq,Bool.not_eq_true',decide_eq_false_iff_not]
  omega
 refine zN 48 Tryz.func132 rfl rfl rfl rfl ?_
 intro s w he
 repeat' (first
|refine zA ?_
|refine zB ?_
|refine zK ?_
|apply aw_1
 conv=>whnf
 refine ⟨?_,trivial⟩
|apply zT rfl rfl
 . conv=>lhs;whnf
 . conv=>lhs;whnf
 . first | exact bT1 ‹_› | exact bT2 ‹_›
|apply zQ rfl rfl
 . conv=>lhs;whnf
 . conv=>lhs;whnf
 . first | exact bF1 ‹_› | exact bF2 ‹_›
|apply s_1
 conv=>whnf;arg 1;arg 4;arg 3;whnf
 refine ⟨?_,?_⟩
|apply zb rfl
 . conv=>lhs;whnf
 . conv=>lhs;whnf
 . first | exact hn
|apply zAA rfl rfl rfl rfl
 . conv=>lhs;whnf;arg 1;whnf
 . rfl
|apply zF rfl
 . conv=>lhs;whnf
 . conv=>lhs;whnf
 . first | rfl | assumption
 . conv=>lhs;whnf;arg 2;whnf
|apply zX rfl
 . conv=>lhs;whnf
 . conv=>lhs;whnf
 . first | rfl | assumption
|apply zC rfl
 . conv=>lhs;whnf
 . conv=>lhs;whnf
 . conv=>lhs;whnf;arg 2;whnf
|refine zZ (by conv=>lhs;whnf) ?_ ?_<;>intro hb
|refine zM ?_
|refine zE ?_
|refine ⟨_,by conv=>lhs;whnf;arg 2;whnf,?_⟩;conv=>rhs;whnf
|exact trivial
|intro hg)
 . simp_all
   intros
   omega
 . have hR2:R=wrapsI (d.f 1).l (d.f 1).l.length 0:=by simp_all
   clear hR hn
   refine za (fun j st => ∃ i,i+j=(d.f 1).l.length/\R=wrapsI (d.f 1).l j i/\Sub (cx EN5 Tryz.prog s w he) st (HTr d i)) (d.f 1).l.length ⟨0,by omega,hR2,Sub.live ⟨rfl,rfl,rfl,rfl,trivial⟩ ⟨rfl,trivial⟩⟩ ?_
   clear hR2 hg hb e
   rintro j st ⟨i,hij,hR,hs2⟩
   refine zi hs2 ?_
   clear hs2
   by_cases hi:i<(d.f 1).l.length
   . obtain ⟨j,rfl⟩ : ∃ q,j=q+1:=⟨j-1,by omega⟩
     have f1:decide ((i:Int)<((d.f 1).l.length:Nat))=true:=decide_eq_true (by omega)
     have e1:decide ((i:Int)>0)=decide (0<i):=decide_eq_decide.2 (by omega)
     have eT:((i:Int)-1).toNat=i-1:=by omega
     have hR':R=(((gD (d.f 1).l (i:Int).toNat).n==1||(gD (d.f 1).l (i:Int).toNat).n==2) && !((gD (d.f 1).l (i:Int).toNat).n==1&&decide ((i:Int)>0)&&((gD (d.f (0+1)).l ((i:Int)-1).toNat).n==(gD (d.f 1).l (i:Int).toNat).n))&&wrapsI (d.f 1).l j (i+1)):=by
      rw [hR,e1,eT,Int.toNat_natCast];rfl
     clear hR e1
     repeat' (first
|apply zAK rfl rfl rfl
 . conv=>lhs;whnf
 . first | rfl | assumption
 . conv=>lhs;whnf
 . first | exact bT1 ‹_› | exact bT2 ‹_› | rfl
|apply zAH rfl rfl rfl
 . conv=>lhs;whnf
 . first | rfl | assumption
 . conv=>lhs;whnf
 . first | exact bF1 ‹_› | exact bF2 ‹_› | rfl
|apply zG
 . conv=>lhs;whnf
 . assumption
|refine zA ?_
|refine zB ?_
|refine zK ?_
|refine zP ?_
|apply aw_1
 conv=>whnf
 refine ⟨?_,trivial⟩
|apply zT rfl rfl
 . conv=>lhs;whnf
 . conv=>lhs;whnf
 . first | exact bT1 ‹_› | exact bT2 ‹_›
|apply zQ rfl rfl
 . conv=>lhs;whnf
 . conv=>lhs;whnf
 . first | exact bF1 ‹_› | exact bF2 ‹_›
|apply s_1
 conv=>whnf;arg 1;arg 4;arg 3;whnf
 refine ⟨?_,?_⟩
|apply zF rfl
 . conv=>lhs;whnf
 . conv=>lhs;whnf
 . first | rfl | assumption
 . conv=>lhs;whnf;arg 2;whnf
|apply zX rfl
 . conv=>lhs;whnf
 . conv=>lhs;whnf
 . first | rfl | assumption
|apply zC rfl
 . conv=>lhs;whnf
 . conv=>lhs;whnf
 . conv=>lhs;whnf;arg 2;whnf
|refine zZ (by conv=>lhs;whnf) ?_ ?_<;>intro hb
|refine zM ?_
|refine zO ?_
|refine zh ?_
|refine zE ?_
|refine ⟨_,by conv=>lhs;whnf;arg 2;whnf,?_⟩;conv=>rhs;whnf
|exact trivial
|intro hg)
     all_goals first
      |exact zS (by omega)
      |(have h0:(i:Int)>0:=by simp_all
        exact (show 0<=(i:Int)-1/\(i:Int)-1<(((d.f 1).l.length:Nat):Int) from ⟨by omega,by omega⟩))
      |exact zu hi
      |(have h0:(i:Int)>0:=by simp_all
        exact zS (by omega))
      |(have hN:R=wrapsI (d.f 1).l j (i+1):=by simp_all
        exact zH (j':=j) (by omega) ⟨i+1,by omega,hN,Sub.live ⟨rfl,rfl,rfl,rfl,trivial⟩ ⟨rfl,trivial⟩⟩)
      |skip
     all_goals
      refine congrArg (fun b=>V.c (.bool b)) ?_
      clear eT f1 hi hij he
      simp_all
   . obtain rfl:j=0:=by omega
     have f1:decide ((i:Int)<((d.f 1).l.length:Nat))=false:=decide_eq_false (by omega)
     repeat' (first
|apply zD
 . conv=>lhs;whnf
 . assumption
|refine zA ?_
|refine zB ?_
|refine zK ?_
|apply aw_1
 conv=>whnf
 refine ⟨?_,trivial⟩
|apply s_1
 conv=>whnf;arg 1;arg 4;arg 3;whnf
 refine ⟨?_,?_⟩
|refine zL ?_
|refine zJ rfl ?_
|refine zI ?_
|refine zE ?_
|refine ⟨_,by conv=>lhs;whnf;arg 2;whnf,?_⟩;conv=>rhs;whnf
|exact trivial)
     rw [hR];rfl
 . simp_all
end
section
open Go.RowKit
set_option linter.unusedSectionVars false
theorem zD5 (a b:Int):IntKind.i64.wrap (IntKind.i64.wrap a+b)=IntKind.i64.wrap (a+b):=by
 simp [IntKind.wrap,IntKind.min,IntKind.max,IntKind.bits,IntKind.signed]
 repeat' split
 all_goals omega
theorem zGA (a b:Int):IntKind.i64.wrap (a+IntKind.i64.wrap b)=IntKind.i64.wrap (a+b):=by
 rw [Int.add_comm,zD5,Int.add_comm]
theorem zCE (s:ByteArray) (l:List UInt8):(s.toList==(⟨l.toArray⟩:ByteArray).toList)=(s.data.toList==l):=by
 rw [Lib.toList_data,Lib.toList_data]
def zEU (k:Nat) (d:D):Int:=IntKind.i64.wrap (sizeR k d:Int)
def maxW (f:Nat->Int):Nat->Int
 |0=>0
 |n+1=>if maxW f n<f n then f n else maxW f n
def zBS:Nat->D->Int
 |0,_=>1
 |k+1,d=>IntKind.i64.wrap (maxW (fun i=>zBS k (gD (d.f 3).l i)) (d.f 3).l.length+1)
def litW (d:D):Bool:=decide (zEU (bulkD d) d<=4096)&&decide (zBS (bulkD d) d<=24)&&everyL (bulkD d) d
theorem zE5 {n:Int} (h:0<=n/\n<=9223372036854775807):IntKind.i64.wrap n=n:=zE4 (k:=.i64) ⟨by simp only [IntKind.min,IntKind.signed,IntKind.bits];omega,by simp only [IntKind.max,IntKind.signed,IntKind.bits];omega⟩
theorem zJo {f:Nat->Int} {g:Nat->Nat} : ∀ {n:Nat},(∀ i,i<n->f i=(g i:Int))->maxW f n=(maxN g n:Int)
 |0,_=>rfl
 |n+1,h=>by
  have e:=zJo (n:=n) fun i hi=>h i (by omega)
  unfold maxW maxN
  rw [e,h n (by omega)]
  exact max_i _ _
theorem maxN_at {g:Nat->Nat} : ∀ {n i:Nat},i<n->g i<=maxN g n
 |n+1,i,h=>by
  unfold maxN
  by_cases e:i=n
  . subst e;omega
  . have:=maxN_at (g:=g) (show i<n by omega);omega
theorem zJB : ∀ (k:Nat) (d:D),depthR k d<=24->zBS k d=(depthR k d:Int)
 |0,_,_=>rfl
 |k+1,d,h=>by
  unfold depthR at h
  unfold zBS depthR
  rw [zJo (g:=fun i=>depthR k (gD (d.f 3).l i)) fun i hi=>zJB k _ (by have:=maxN_at (g:=fun i=>depthR k (gD (d.f 3).l i)) hi;omega)]
  rw [zE5 ⟨by omega,by omega⟩]
  omega
theorem lit_W {d:D} (h:litR d=true):litW d=true:=by
 unfold litR at h
 simp only [Bool.and_eq_true,decide_eq_true_eq] at h
 unfold litW zEU
 rw [zJB _ _ h.1.2,zE5 ⟨by omega,by omega⟩,h.2,decide_eq_true (by omega),decide_eq_true (by omega)];rfl
attribute [local irreducible] wpList Calls Code.wp AW AWo OpOk seqK zq zt loopK endK AC zg Yld Sub
attribute [local irreducible] ACB ACX ACE absLexG YldG
theorem key1U_ac (x:D):AC EN5 Tryz.prog 250 [.c (.string x.s)] (.c (.bool (!nameB x.s))):=by
 have h:=zEo x.s
 refine zN 6 Tryz.func250 rfl rfl rfl rfl ?_
 intro s w he
 repeat' (first
|refine zA ?_
|refine zB ?_
|refine zK ?_
|apply aw_1
 conv=>whnf
 refine ⟨?_,trivial⟩
|apply s_1
 conv=>whnf;arg 1;arg 4;arg 3;whnf
 refine ⟨?_,?_⟩
|apply zb rfl
 . conv=>lhs;whnf
 . conv=>lhs;whnf
 . first | exact h
|refine zE ?_
|refine ⟨_,by conv=>lhs;whnf;arg 2;whnf,?_⟩;conv=>rhs;whnf
|exact trivial)
theorem twiceU_ac (l:List D):AC EN5 Tryz.prog 251 [.sl 9 l] (.c (.bool (twiceB [] l))):=by
 refine zDL 1 fun hL2 => ?_
 have hl:l.length<=9223372036854775807:=hL2.1
 refine zFy (u:=.bool (twiceB [] l)) fun σ w us hus he => ?_
 obtain ⟨u,rfl,h⟩:=zHD hus
 rw [rel] at h
 obtain ⟨k,A,c,rfl,h1,h2,h3,h4⟩:=h
 exact ⟨fun s' w'=>rel_b,twiceP A l c w w (Below.refl _ _) ⟨k,h4.sl⟩ hl⟩
noncomputable def HSzW (l:List D) (n:Int) (i:Nat):Vst 19:=stS 19 [(3,.c (.int .i64 n)),(7,.sl 53 l),(8,.c (.int .i64 (l.length:Nat))),(9,.c (.int .i64 (i:Int)))] []
theorem zKS : ∀ (k:Nat) (d:D),Dp k d->AC EN5 Tryz.prog 209 [.agg (cellsV Tryz.prog 12 53 d)] (.c (.int .i64 (zEU k d)))
 |0,_,h=>h.elim
 |k+1,d,h=>by
  refine zA9 2 (by kernel_rfl) fun hL => ?_
  have hl:(d.f 3).l.length<=9223372036854775807:=(zBB hL).1
  clear hL
  have ih:=fun i (hi:i<(d.f 3).l.length)=>zKS k (gD (d.f 3).l i) (h i hi)
  have hs:zEU (k+1) d=IntKind.i64.wrap ((1+sumN (fun i=>sizeR k (gD (d.f 3).l i)) (d.f 3).l.length:Nat):Int):=rfl
  refine zN 19 Tryz.func209 rfl rfl rfl rfl ?_
  intro s w he
  repeat' (first
|refine zA ?_
|refine zB ?_
|refine zK ?_
|apply aw_1
 conv=>whnf
 refine ⟨?_,trivial⟩
|apply s_1
 conv=>whnf;arg 1;arg 4;arg 3;whnf
 refine ⟨?_,?_⟩
|apply zAA rfl rfl rfl rfl
 . conv=>lhs;whnf;arg 1;whnf
 . rfl
|exact trivial)
  refine za (fun j st => ∃ i,i+j=(d.f 3).l.length/\Sub (cx EN5 Tryz.prog s w he) st (HSzW (d.f 3).l (IntKind.i64.wrap ((1+sumN (fun i=>sizeR k (gD (d.f 3).l i)) i:Nat):Int)) i)) (d.f 3).l.length ⟨0,by omega,Sub.live ⟨rfl,rfl,rfl,rfl,trivial⟩ trivial⟩ ?_
  rintro j st ⟨i,hij,hs2⟩
  refine zi hs2 ?_
  clear hs2
  by_cases hi:i<(d.f 3).l.length
  . have f0:decide ((i:Int)<((d.f 3).l.length:Nat))=true:=decide_eq_true (by omega)
    have ih2:=ih i hi
    have hss:sumN (fun i=>sizeR k (gD (d.f 3).l i)) (i+1)=sumN (fun i=>sizeR k (gD (d.f 3).l i)) i+sizeR k (gD (d.f 3).l i):=rfl
    repeat' (first
|apply zA8 (y:=.tmp _) rfl rfl rfl
 . conv=>lhs;whnf
 . conv=>lhs;whnf
|apply zG
 . conv=>lhs;whnf
 . assumption
|refine zA ?_
|refine zB ?_
|refine zK ?_
|refine zP ?_
|apply aw_1
 conv=>whnf
 refine ⟨?_,trivial⟩
|apply s_1
 conv=>whnf;arg 1;arg 4;arg 3;whnf
 refine ⟨?_,?_⟩
|apply zb rfl
 . conv=>lhs;whnf
 . conv=>lhs;whnf
 . first | exact ih2
|apply zV rfl rfl rfl
 . conv=>lhs;whnf
 . conv=>lhs;whnf;arg 1;whnf
 . conv=>lhs;whnf;arg 1;whnf
 . exact ⟨by kernel_rfl,by kernel_rfl⟩
 . rfl
|exact trivial)
    . refine zH (j':=j-1) (by omega) ⟨i+1,by omega,Sub.live ⟨?_,rfl,rfl,rfl,trivial⟩ trivial⟩
      refine congrArg (fun n=>V.c (.int .i64 n)) (?_:IntKind.i64.wrap (IntKind.i64.wrap ((1+sumN (fun i=>sizeR k (gD (d.f 3).l i)) i:Nat):Int)+zEU k (gD (d.f 3).l i))=IntKind.i64.wrap ((1+sumN (fun i=>sizeR k (gD (d.f 3).l i)) (i+1):Nat):Int))
      rw [zD5,hss]
      unfold zEU
      rw [zGA]
      congr 1
      omega
    all_goals first
     |exact zS (by omega)
     |exact ⟨by omega,by omega⟩
  . have f0:decide ((i:Int)<((d.f 3).l.length:Nat))=false:=decide_eq_false (by omega)
    repeat' (first
|apply zD
 . conv=>lhs;whnf
 . assumption
|refine zA ?_
|refine zB ?_
|refine zK ?_
|apply aw_1
 conv=>whnf
 refine ⟨?_,trivial⟩
|apply s_1
 conv=>whnf;arg 1;arg 4;arg 3;whnf
 refine ⟨?_,?_⟩
|refine zL ?_
|refine zJ rfl ?_
|refine zI ?_
|refine zE ?_
|refine ⟨_,by conv=>lhs;whnf;arg 2;whnf,?_⟩;conv=>rhs;whnf
|exact trivial)
    rw [hs,show i=(d.f 3).l.length by omega]
noncomputable def HDpW (l:List D) (n:Int) (i:Nat):Vst 20:=stS 20 [(3,.c (.int .i64 n)),(7,.sl 53 l),(8,.c (.int .i64 (l.length:Nat))),(9,.c (.int .i64 (i:Int)))] []
theorem zJC : ∀ (k:Nat) (d:D),Dp k d->AC EN5 Tryz.prog 210 [.agg (cellsV Tryz.prog 12 53 d)] (.c (.int .i64 (zBS k d)))
 |0,_,h=>h.elim
 |k+1,d,h=>by
  refine zA9 2 (by kernel_rfl) fun hL => ?_
  have hl:(d.f 3).l.length<=9223372036854775807:=(zBB hL).1
  clear hL
  have ih:=fun i (hi:i<(d.f 3).l.length)=>zJC k (gD (d.f 3).l i) (h i hi)
  have hs:zBS (k+1) d=IntKind.i64.wrap (maxW (fun i=>zBS k (gD (d.f 3).l i)) (d.f 3).l.length+1):=rfl
  refine zN 20 Tryz.func210 rfl rfl rfl rfl ?_
  intro s w he
  repeat' (first
|refine zA ?_
|refine zB ?_
|refine zK ?_
|apply aw_1
 conv=>whnf
 refine ⟨?_,trivial⟩
|apply s_1
 conv=>whnf;arg 1;arg 4;arg 3;whnf
 refine ⟨?_,?_⟩
|apply zAA rfl rfl rfl rfl
 . conv=>lhs;whnf;arg 1;whnf
 . rfl
|exact trivial)
  refine za (fun j st => ∃ i,i+j=(d.f 3).l.length/\Sub (cx EN5 Tryz.prog s w he) st (HDpW (d.f 3).l (maxW (fun i=>zBS k (gD (d.f 3).l i)) i) i)) (d.f 3).l.length ⟨0,by omega,Sub.live ⟨rfl,rfl,rfl,rfl,trivial⟩ trivial⟩ ?_
  rintro j st ⟨i,hij,hs2⟩
  refine zi hs2 ?_
  clear hs2
  by_cases hi:i<(d.f 3).l.length
  . have f0:decide ((i:Int)<((d.f 3).l.length:Nat))=true:=decide_eq_true (by omega)
    have ih2:=ih i hi
    repeat' (first
|apply s_max rfl rfl rfl
 . conv=>lhs;whnf;arg 1;whnf
 . conv=>lhs;whnf;arg 1;whnf
|apply zG
 . conv=>lhs;whnf
 . assumption
|refine zA ?_
|refine zB ?_
|refine zK ?_
|refine zP ?_
|apply aw_1
 conv=>whnf
 refine ⟨?_,trivial⟩
|apply s_1
 conv=>whnf;arg 1;arg 4;arg 3;whnf
 refine ⟨?_,?_⟩
|apply zb rfl
 . conv=>lhs;whnf
 . conv=>lhs;whnf
 . first | exact ih2
|apply zV rfl rfl rfl
 . conv=>lhs;whnf
 . conv=>lhs;whnf;arg 1;whnf
 . conv=>lhs;whnf;arg 1;whnf
 . exact ⟨by kernel_rfl,by kernel_rfl⟩
 . rfl
|exact trivial)
    all_goals first
     |exact zS (by omega)
     |exact ⟨by omega,by omega⟩
     |exact zH (j':=j-1) (by omega) ⟨i+1,by omega,Sub.live ⟨rfl,rfl,rfl,rfl,trivial⟩ trivial⟩
  . have f0:decide ((i:Int)<((d.f 3).l.length:Nat))=false:=decide_eq_false (by omega)
    have e:i=(d.f 3).l.length:=by omega
    subst e
    repeat' (first
|apply zA8 rfl rfl rfl
 . conv=>lhs;whnf
 . conv=>lhs;whnf
|apply zD
 . conv=>lhs;whnf
 . assumption
|refine zA ?_
|refine zB ?_
|refine zK ?_
|apply aw_1
 conv=>whnf
 refine ⟨?_,trivial⟩
|apply s_1
 conv=>whnf;arg 1;arg 4;arg 3;whnf
 refine ⟨?_,?_⟩
|refine zL ?_
|refine zJ rfl ?_
|refine zI ?_
|refine zE ?_
|refine ⟨_,by conv=>lhs;whnf;arg 2;whnf,?_⟩;conv=>rhs;whnf
|exact trivial)
    rfl
end
section
open Go.RowKit
set_option linter.unusedSectionVars false
theorem zER : ∀ (k:Nat) (d:D),bulkD d<=1048576->zBS k d=(depthR k d:Int)
 |0,_,_=>rfl
 |k+1,d,h=>by
  have hd:=zJD (k+1) d
  unfold depthR at hd
  unfold zBS depthR
  rw [zJo (g:=fun i=>depthR k (gD (d.f 3).l i)) fun i hi=>zER k _ (by have:=zD1 hi;have:=zl d;omega)]
  rw [zE5 ⟨by omega,by omega⟩]
  omega
theorem litW_small {d:D} (hb:bulkD d<=1048576) (h:litW d=true):litR d=true:=by
 unfold litW zEU at h
 have hs:=zKT (bulkD d) d
 rw [zER _ _ hb,zE5 ⟨by omega,by omega⟩] at h
 simp only [Bool.and_eq_true,decide_eq_true_eq] at h
 unfold litR
 rw [h.2,decide_eq_true (by omega),decide_eq_true (by omega)];rfl
theorem bk_f {d:D} {N:Nat} (h:bulkD d<=N) (j:Nat):bulkD (d.f j)<=N:=by
 have:=wD_f d j;have:=zl d;have:=zl (d.f j);omega
theorem bk_l {d:D} {N:Nat} (h:bulkD d<=N):bulkL d.l<=N:=by
 have:=zx d;have:=zl d;omega
theorem zB6 {p q:D->Bool} {N:Nat} (h : ∀ x,bulkD x<=N->p x=true->q x=true) {l:List D} (hb:bulkL l<=N) (hl:l.all p=true):l.all q=true:=by
 induction l with
 |nil=>rfl
 |cons a r ih =>
  unfold bulkL at hb
  rw [List.all_cons,Bool.and_eq_true] at hl |-
  exact ⟨h a (by omega) hl.1,ih (by omega) hl.2⟩
section
variable {lit lit':D->Bool} {N:Nat} (h : ∀ v,bulkD v<=N->lit v=true->lit' v=true)
include h
theorem zGD (v:D) (hb:bulkD v<=N) (hv:valY lit v=true):valY lit' v=true:=by
 unfold valY at *
 rw [Bool.and_eq_true] at *
 exact ⟨h v hb hv.1,hv.2⟩
theorem argY_monoB (v:D) (hb:bulkD v<=N) (hv:argY lit v=true):argY lit' v=true:=by
 unfold argY at *
 rw [Bool.and_eq_true] at *
 exact ⟨hv.1,zGD h _ (bk_f hb 1) hv.2⟩
theorem dirY_monoB (v:D) (hb:bulkD v<=N) (hv:dirY lit v=true):dirY lit' v=true:=by
 unfold dirY zEf at *
 simp only [Bool.and_eq_true] at *
 exact ⟨hv.1,hv.2.1,zB6 (argY_monoB h) (bk_l (bk_f hb 1)) hv.2.2⟩
theorem zCQ {l:List D} (hb:bulkL l<=N) (hv:dirsY lit l=true):dirsY lit' l=true:=by
 unfold dirsY at *
 rw [Bool.and_eq_true] at *
 exact ⟨hv.1,zB6 (dirY_monoB h) hb hv.2⟩
theorem inY_monoB (v:D) (hb:bulkD v<=N) (hv:inY lit v=true):inY lit' v=true:=by
 unfold inY at *
 simp only [Bool.and_eq_true] at *
 exact ⟨⟨⟨hv.1.1.1,zCQ h (bk_l (bk_f hb 4)) hv.1.1.2⟩,zGD h _ (bk_f hb 3) hv.1.2⟩,hv.2⟩
theorem zGb {l:List D} (hb:bulkL l<=N) (hv:insY lit l=true):insY lit' l=true:=by
 unfold insY at *
 rw [Bool.and_eq_true] at *
 exact ⟨hv.1,zB6 (inY_monoB h) hb hv.2⟩
theorem fdY_monoB (v:D) (hb:bulkD v<=N) (hv:fdY lit v=true):fdY lit' v=true:=by
 unfold fdY at *
 simp only [Bool.and_eq_true] at *
 exact ⟨⟨⟨hv.1.1.1,zGb h (bk_l (bk_f hb 1)) hv.1.1.2⟩,hv.1.2⟩,zCQ h (bk_l (bk_f hb 3)) hv.2⟩
theorem mbY_monoB (u:Bool) (v:D) (hb:bulkD v<=N) (hv:mbY lit u v=true):mbY lit' u v=true:=by
 unfold mbY at *
 rw [Bool.and_eq_true,Bool.and_eq_true] at *
 exact ⟨⟨hv.1.1,zCQ h (bk_l (bk_f hb 1)) hv.1.2⟩,hv.2⟩
theorem defY_monoB (v:D) (hb:bulkD v<=N) (hv:defY lit v=true):defY lit' v=true:=by
 unfold defY fdsY mbsY at *
 simp only [Bool.and_eq_true] at *
 exact ⟨⟨⟨⟨⟨⟨hv.1.1.1.1.1.1,hv.1.1.1.1.1.2⟩,zCQ h (bk_l (bk_f hb 3)) hv.1.1.1.1.2⟩,hv.1.1.1.2⟩,⟨hv.1.1.2.1,zB6 (fdY_monoB h) (bk_l (bk_f hb 4)) hv.1.1.2.2⟩⟩,⟨hv.1.2.1,zB6 (mbY_monoB h _) (bk_l (bk_f hb 5)) hv.1.2.2⟩⟩,zGb h (bk_l (bk_f hb 6)) hv.2⟩
theorem docY_monoB {l:List D} (hb:bulkL l<=N) (hv:docY lit l=true):docY lit' l=true:=by
 unfold docY at *
 rw [Bool.and_eq_true] at *
 exact ⟨hv.1,zB6 (defY_monoB h) hb hv.2⟩
end
theorem docY_small {l:List D} (hb:bulkL l<=1048576) (h:docY litW l=true):docY litR l=true:=docY_monoB (fun _=>litW_small) hb h
theorem zGW {l:List D} (h:l.length=0):l=[]:=List.eq_nil_of_length_eq_zero h
theorem null_id {j:Nat} {d:D} (h:Fits Tryz.prog j 53 d) (hy:litR d=true) (h0:(d.f 0).n=0):d=zDK:=by
 unfold litR at hy
 rw [Bool.and_eq_true] at hy
 obtain ⟨m,hm⟩ : ∃ m,bulkD d=m+1:=⟨bulkD d-1,by have:=zAY d;omega⟩
 rw [hm] at hy
 obtain ⟨hn,-⟩:=zDC hy.2
 obtain ⟨j,l,rfl,hl,hf⟩:=zCv Tryz.underlying53 h
 have hl:l.length=5:=hl
 obtain ⟨n0,e0⟩:=zGf (hf 0 _ rfl)
 obtain ⟨n1,e1⟩:=zGf (hf 1 _ rfl)
 obtain ⟨s2,e2⟩:=zCc (hf 2 _ rfl)
 obtain ⟨j3,l3,e3,-⟩:=zBL Tryz.underlying51 (hf 3 _ rfl)
 obtain ⟨j4,l4,e4,-⟩:=zBL Tryz.underlying39 (hf 4 _ rfl)
 have a1:=hn.int0;have a2:=hn.txt0;have a3:=hn.keys0;have a4:=hn.items0
 have h0':(gD l 0).n=0:=h0
 have q0:((D.obj l).f 0).n=0:=h0
 have b1:((D.obj l).f 1).n=0:=by omega
 have b2:tx ((D.obj l).f 2).s=[]:=by
  rcases a2 with h | h | h | h
  . omega
  . omega
  . omega
  . exact h
 have b3:((D.obj l).f 4).l.length=0:=by omega
 have b4:((D.obj l).f 3).l.length=0:=by omega
 have c1:(gD l 1).n=0:=b1
 have c2:tx (gD l 2).s=[]:=b2
 have c3:(gD l 4).l.length=0:=b3
 have c4:(gD l 3).l.length=0:=b4
 rw [e0] at h0';rw [e1] at c1;rw [e2] at c2;rw [e4] at c3;rw [e3] at c4
 have h0':n0=0:=h0'
 have c1:n1=0:=c1
 have c2:tx s2=[]:=c2
 have c3:l4.length=0:=c3
 have c4:l3.length=0:=c4
 rw [len5 hl,e0,e1,e2,e3,e4,h0',c1,zGW c3,zGW c4,<- zCY s2,c2]
 rfl
theorem cRef_id {j:Nat} {d:D} (h:Fits Tryz.prog j 48 d):refD (tx (d.f 0).s) ((d.f 1).l.map D.n)=d:=by
 obtain ⟨j1,l1,e1,hl1,hf1⟩:=zCv Tryz.underlying48 h
 subst e1
 have hl1:l1.length=2:=hl1
 obtain ⟨s1,e10⟩:=zCc (hf1 0 _ rfl)
 obtain ⟨j2,w1,e11,hw1⟩:=zBL Tryz.underlying46 (hf1 1 _ rfl)
 rw [len2 hl1,e10,e11]
 show refD (tx s1) (w1.map D.n)=_
 have b:(w1.map D.n).map D.int=w1:=by
  rw [List.map_map]
  refine zDq fun i hi => ?_
  obtain ⟨n,e⟩:=zGf (hw1 i hi)
  rw [e];rfl
 unfold refD
 rw [zCY,b]
theorem cIn_id {j:Nat} {d:D} (h:Fits Tryz.prog j 55 d) (hp:InP d):cIn d=d:=by
 obtain ⟨j,l,rfl,hl,hf⟩:=zCv Tryz.underlying55 h
 have hl:l.length=5:=hl
 obtain ⟨s0,e0⟩:=zCc (hf 0 _ rfl)
 have h1:Fits Tryz.prog j 48 (gD l 1):=hf 1 _ rfl
 obtain ⟨b2,e2⟩:=fits_b (hf 2 _ rfl)
 have h3:Fits Tryz.prog j 53 (gD l 3):=hf 3 _ rfl
 obtain ⟨j4,l4,e4,h4⟩:=zBL Tryz.underlying40 (hf 4 _ rfl)
 have r1:=cRef_id h1
 have q3:(if (gD l 2).b=true then cL (gD l 3) else zDK)=gD l 3:=by
  by_cases hb:(gD l 2).b=true
  . rw [if_pos hb,cL_id h3]
  . rw [if_neg hb,null_id h3 hp.val.lit (hp.has.resolve_left hb)]
 have q4:rgD cDir l4=l4:=zCZ fun i hi=>zHu (h4 i hi)
 have e:cIn (.obj l)=sInD (tx (gD l 0).s) (refD (tx ((gD l 1).f 0).s) (((gD l 1).f 1).l.map D.n)) (gD l 2).b (if (gD l 2).b=true then cL (gD l 3) else zDK) (rgD cDir (gD l 4).l):=rfl
 rw [e,r1,q3,len5 hl]
 show sInD (tx (gD l 0).s) (gD l 1) (gD l 2).b (gD l 3) (rgD cDir (gD l 4).l)=_
 rw [e0,e2,e4]
 show sInD (tx s0) (gD l 1) b2 (gD l 3) (rgD cDir l4)=_
 unfold sInD
 rw [q4,zCY]
theorem cFd_id {j:Nat} {d:D} (h:Fits Tryz.prog j 50 d) (hp:FdP d):cFd d=d:=by
 obtain ⟨j,l,rfl,hl,hf⟩:=zCv Tryz.underlying50 h
 have hl:l.length=4:=hl
 obtain ⟨s0,e0⟩:=zCc (hf 0 _ rfl)
 obtain ⟨j1,l1,e1,h1⟩:=zBL Tryz.underlying43 (hf 1 _ rfl)
 have h2:Fits Tryz.prog j 48 (gD l 2):=hf 2 _ rfl
 obtain ⟨j3,l3,e3,h3⟩:=zBL Tryz.underlying40 (hf 3 _ rfl)
 have r2:=cRef_id h2
 have hi:InsP (gD l 1).l:=hp.args
 rw [e1] at hi
 have hi:InsP l1:=hi
 have q1:rgD cIn l1=l1:=zCZ fun i hl=>cIn_id (h1 i hl) (hi.ins i hl)
 have q3:rgD cDir l3=l3:=zCZ fun i hi=>zHu (h3 i hi)
 have e:cFd (.obj l)=sFdD (tx (gD l 0).s) (rgD cIn (gD l 1).l) (refD (tx ((gD l 2).f 0).s) (((gD l 2).f 1).l.map D.n)) (rgD cDir (gD l 3).l):=rfl
 rw [e,r2,len4 hl]
 show sFdD (tx (gD l 0).s) (rgD cIn (gD l 1).l) (gD l 2) (rgD cDir (gD l 3).l)=_
 rw [e0,e1,e3]
 show sFdD (tx s0) (rgD cIn l1) (gD l 2) (rgD cDir l3)=_
 unfold sFdD
 rw [q1,q3,zCY]
theorem cMb_id {j:Nat} {d:D} (h:Fits Tryz.prog j 79 d):cMb d=d:=by
 obtain ⟨j,l,rfl,hl,hf⟩:=zCv Tryz.underlying79 h
 have hl:l.length=2:=hl
 obtain ⟨s0,e0⟩:=zCc (hf 0 _ rfl)
 obtain ⟨j1,l1,e1,h1⟩:=zBL Tryz.underlying40 (hf 1 _ rfl)
 have q1:rgD cDir l1=l1:=zCZ fun i hi=>zHu (h1 i hi)
 rw [len2 hl,e0,e1]
 show sMbD (tx s0) (rgD cDir l1)=_
 unfold sMbD
 rw [q1,zCY]
theorem cMu_id {j:Nat} {d:D} (h:Fits Tryz.prog j 79 d) (h0:(d.f 1).l.length=0):mbOf (cNm (d.f 0))=d:=by
 obtain ⟨j,l,rfl,hl,hf⟩:=zCv Tryz.underlying79 h
 have hl:l.length=2:=hl
 obtain ⟨s0,e0⟩:=zCc (hf 0 _ rfl)
 obtain ⟨j1,l1,e1,h1⟩:=zBL Tryz.underlying40 (hf 1 _ rfl)
 have h0:(gD l 1).l.length=0:=h0
 rw [e1] at h0
 have h0:l1.length=0:=h0
 rw [len2 hl,e0,e1,zGW h0]
 show mbOf (strD (tx s0))=_
 rw [zCY];rfl
theorem cDf_id {j:Nat} {d:D} (h:Fits Tryz.prog j 45 d) (hp:DefP d):cDf d=d:=by
 obtain ⟨j,l,rfl,hl,hf⟩:=zCv Tryz.underlying45 h
 have hl:l.length=7:=hl
 obtain ⟨n0,e0⟩:=zGf (hf 0 _ rfl)
 obtain ⟨s1,e1⟩:=zCc (hf 1 _ rfl)
 obtain ⟨j2,l2,e2,h2⟩:=zBL Tryz.underlying39 (hf 2 _ rfl)
 obtain ⟨j3,l3,e3,h3⟩:=zBL Tryz.underlying40 (hf 3 _ rfl)
 obtain ⟨j4,l4,e4,h4⟩:=zBL Tryz.underlying41 (hf 4 _ rfl)
 obtain ⟨j5,l5,e5,h5⟩:=zBL Tryz.underlying42 (hf 5 _ rfl)
 obtain ⟨j6,l6,e6,h6⟩:=zBL Tryz.underlying43 (hf 6 _ rfl)
 have q:D.obj l = .obj [.int n0,.str s1,.list l2,.list l3,.list l4,.list l5,.list l6]:=by rw [len7 hl,e0,e1,e2,e3,e4,e5,e6]
 rw [q] at hp |-
 have f0:(n0=1\/n0=2) ↔ 0<l4.length:=hp.f0
 have m0:(n0=3\/n0=4) ↔ 0<l5.length:=hp.m0
 have i0:n0=5 ↔ 0<l6.length:=hp.i0
 have p4 : ∀ i,i<l4.length->FdP (gD l4 i):=hp.fds
 have p5 : ∀ i,i<l5.length->MbP (n0==3) (gD l5 i):=hp.mbs
 have p6:InsP l6:=hp.ins
 have q2:l2.map cNm=l2:=zDq fun i hi=>by
  obtain ⟨s,e⟩:=zCc (h2 i hi)
  rw [e];exact zCY s
 have q3:rgD cDir l3=l3:=zCZ fun i hi=>zHu (h3 i hi)
 have q4:(if n0=1\/n0=2 then rgD cFd l4 else [])=l4:=by
  by_cases hk:n0=1\/n0=2
  . rw [if_pos hk];exact zCZ fun i hi=>cFd_id (h4 i hi) (p4 i hi)
  . rw [if_neg hk,zGW (l:=l4) (by have:=mt f0.2 hk;omega)]
 have q5:(if n0=3 then (l5.map fun x=>mbOf (cNm (x.f 0))) else if n0=4 then rgD cMb l5 else [])=l5:=by
  by_cases h3':n0=3
  . rw [if_pos h3']
    exact zDq fun i hi=>cMu_id (h5 i hi) ((p5 i hi).no (by rw [h3'];rfl))
  . rw [if_neg h3']
    by_cases h4':n0=4
    . rw [if_pos h4'];exact zCZ fun i hi=>cMb_id (h5 i hi)
    . rw [if_neg h4',zGW (l:=l5) (by have:=mt m0.2 (by omega);omega)]
 have q6:(if n0=5 then rgD cIn l6 else [])=l6:=by
  by_cases hk:n0=5
  . rw [if_pos hk];exact zCZ fun i hi=>cIn_id (h6 i hi) (p6.ins i hi)
  . rw [if_neg hk,zGW (l:=l6) (by have:=mt i0.2 hk;omega)]
 show sDfD n0 (tx s1) (l2.map cNm) (rgD cDir l3) (if n0=1\/n0=2 then rgD cFd l4 else []) (if n0=3 then (l5.map fun x=>mbOf (cNm (x.f 0))) else if n0=4 then rgD cMb l5 else []) (if n0=5 then rgD cIn l6 else [])=_
 rw [q2,q3,q4,q5,q6]
 unfold sDfD
 rw [zCY]
theorem doc_id {j:Nat} {d:D} (h:Fits Tryz.prog j 25 d) (hp:docY litR (d.f 0).l=true):d=zCl (rgD cDf (d.f 0).l):=by
 obtain ⟨j,l,rfl,hl,hf⟩:=zCv Tryz.underlying25 h
 have hl:l.length=1:=hl
 obtain ⟨j0,l0,e0,h0⟩:=zBL Tryz.underlying23 (hf 0 _ rfl)
 have e1:l=[gD l 0]:=by
  match l,hl with
  |[a],_=>rfl
 have hp:docY litR (gD l 0).l=true:=hp
 rw [e0] at hp
 obtain ⟨-,-,hd⟩:=docP (l:=l0) hp
 have q:rgD cDf l0=l0:=zCZ fun i hi=>cDf_id (h0 i hi) (hd i hi)
 rw [e1,e0]
 show _=zCl (rgD cDf l0)
 rw [q];rfl
end
section
theorem zBd (f:Nat->List UInt8) : ∀ n,(flatN f n).length=sumN (fun i=>(f i).length) n
 |0=>rfl
 |n+1=>by
  show (flatN f n++f n).length=_
  rw [List.length_append,zBd f n];rfl
theorem zGe (f:Nat->List UInt8) {i n:Nat} (h:i<=n):(flatN f i).length<=(flatN f n).length:=by
 rw [zBd,zBd];exact zBz _ h
theorem zAg (f:Nat->List UInt8) {i n:Nat} (h:i<n):(flatN f i).length+(f i).length<=(flatN f n).length:=by
 have:=zGe f (show i+1<=n from h)
 show _<=(flatN f n).length
 have e:(flatN f (i+1)).length=(flatN f i).length+(f i).length:=List.length_append
 omega
theorem zBe (f:D->List UInt8) (l:List D) (c:Nat) (h : ∀ i,i<l.length->(f (gD l i)).length<=c*bulkD (gD l i)):(zBf f l).length<=c*bulkL l:=by
 unfold zBf
 rw [zBd,zAd,<- zBW]
 exact zCD h
theorem zKf (n:List UInt8) : ∀ l:List D,(refB n l).length<=n.length+2*l.length
 |[]=>by show n.length<=_;omega
 |d::r=>by
  have:=zKf n r
  unfold refB
  split
  . simp only [List.length_append,List.length_cons,List.length_nil];omega
  . simp only [List.length_append,List.length_cons,List.length_nil];omega
theorem zAc : ∀ l:List D,l.length<=bulkL l
 |[]=>Nat.le_refl _
 |x::r=>by
  have:=zAc r
  have:=zAY x
  simp only [bulkL,List.length_cons];omega
theorem zKd (d:D):(refS d).length<=2*wD d:=by
 have h:=zKf (tx (d.f 0).s) (d.f 1).l
 have h1:=zAG d 2
 simp only [sumN] at h1
 have h2:=zAN (d.f 0)
 have h3:=zx (d.f 1)
 have h4:=zAc (d.f 1).l
 have h5:=zAR (d.f 0).s
 unfold refS
 omega
theorem zEq : ∀ (k:Nat) (d:D),wideD d->(litS k d).length+4<=32*bulkD d
 |0,d,_=>by have:=zAY d;simp [litS];omega
 |k+1,d,hw=>by
  have h1:=(hw.f 1).n
  have hd:=zl d
  have hf:=zAG d 5
  simp only [sumN] at hf
  have h2:=zAN (d.f 2)
  have h3:=zx (d.f 3)
  have h4:=zx (d.f 4)
  have t2:=zAR (d.f 2).s
  unfold litS
  split
  . simp only [List.length_cons,List.length_nil];omega
  split
  . split<;>simp only [List.length_cons,List.length_nil]<;>omega
  split
  . have:=zFW _ h1.1 h1.2;omega
  split
  . have:=zIU (tx (d.f 2).s);omega
  split
  . omega
  split
  . simp only [List.length_append,List.length_cons,List.length_nil];omega
  . have hs:(flatN (fun i=>(if (d.f 0).n=6 then [32]++tx (gD (d.f 4).l i).s++[32,58] else [])++([32]++litS k (gD (d.f 3).l i))) (d.f 3).l.length).length<=bulkL (d.f 4).l+32*bulkL (d.f 3).l:=by
     rw [zBd]
     refine Nat.le_trans (zCD (g:=fun i=>wD (gD (d.f 4).l i)+32*bulkD (gD (d.f 3).l i)) fun i hi => ?_) ?_
     . have a:=zEq k (gD (d.f 3).l i) ((hw.f 3).l i)
       have b:=zAN (gD (d.f 4).l i)
       have e:=zAR (gD (d.f 4).l i).s
       split<;>simp only [List.length_append,List.length_cons,List.length_nil]<;>omega
     . rw [zG0,zBW,<- zAd]
       have:=zJI (d.f 4).l (d.f 3).l.length
       omega
    rw [List.length_append,List.length_append]
    have e1:(if (d.f 0).n=6 then [123] else [91]:List UInt8).length=1:=by split<;>rfl
    have e2:(if (d.f 0).n=6 then [32,125] else [32,93]:List UInt8).length=2:=by split<;>rfl
    rw [e1,e2]
    omega
theorem zIq (d:D) (hw:wideD d):(zF3 d).length+4<=32*bulkD d:=zEq _ d hw
theorem argS_len (a:D) (h:wideD a):(argS a).length<=36*bulkD a:=by
 have h1:=zIq (a.f 1) (h.f 1)
 have h2:=zl (a.f 1)
 have h3:=zl a
 have h4:=zAN (a.f 0)
 have h5:=zAG a 2
 have h6:=zAR (a.f 0).s
 simp only [sumN] at h5
 simp only [argS,List.length_append,List.length_cons,List.length_nil]
 omega
theorem dirS_len (x:D) (h:wideD x):(dirS x).length<=40*bulkD x:=by
 have h1:=zBe argS (x.f 1).l 36 fun i _=>argS_len _ ((h.f 1).l i)
 have h3:=zl x
 have h4:=zAN (x.f 0)
 have h5:=zAG x 2
 have h6:=zx (x.f 1)
 have h7:=zAR (x.f 0).s
 simp only [sumN] at h5
 unfold dirS
 split<;>simp only [List.length_append,List.length_cons,List.length_nil]<;>omega
theorem zB5 (l:List D) (h : ∀ i,wideD (gD l i)):(dirsS l).length<=40*bulkL l:=zBe dirS l 40 fun i _=>dirS_len _ (h i)
theorem inS_len (x:D) (h:wideD x):(inS x).length<=44*bulkD x:=by
 have h1:=zB5 (x.f 4).l (h.f 4).l
 have h2:=zIq (x.f 3) (h.f 3)
 have h3:=zl x
 have h3':=zl (x.f 3)
 have h4:=zAN (x.f 0)
 have h5:=zAG x 5
 have h6:=zx (x.f 4)
 have h7:=zAR (x.f 0).s
 have h8:=zKd (x.f 1)
 simp only [sumN] at h5
 unfold inS
 split<;>simp only [List.length_append,List.length_cons,List.length_nil]<;>omega
theorem zEr (l:List D) (h : ∀ i,wideD (gD l i)):(insS l).length<=44*bulkL l:=zBe inS l 44 fun i _=>inS_len _ (h i)
theorem fdS_len (x:D) (h:wideD x):(fdS x).length<=48*bulkD x:=by
 have h1:=zB5 (x.f 3).l (h.f 3).l
 have h2:=zEr (x.f 1).l (h.f 1).l
 have h3:=zl x
 have h4:=zAN (x.f 0)
 have h5:=zAG x 4
 have h6:=zx (x.f 3)
 have h6':=zx (x.f 1)
 have h7:=zAR (x.f 0).s
 have h8:=zKd (x.f 2)
 simp only [sumN] at h5
 unfold fdS
 split<;>simp only [List.length_append,List.length_cons,List.length_nil]<;>omega
theorem mbS_len (x:D) (h:wideD x):(mbS x).length<=44*bulkD x:=by
 have h1:=zB5 (x.f 1).l (h.f 1).l
 have h3:=zl x
 have h4:=zAN (x.f 0)
 have h5:=zAG x 2
 have h6:=zx (x.f 1)
 have h7:=zAR (x.f 0).s
 simp only [sumN] at h5
 simp only [mbS,List.length_append,List.length_cons,List.length_nil]
 omega
theorem zKU (a b:List UInt8) (nm:D->D) (l:List D) (ha:a.length<=12) (hb:b.length<=12) (hn : ∀ x,(nm x).s.size<=wD x):(sepS a b nm l).length<=12*bulkL l:=by
 unfold sepS
 rw [zBd,zAd,<- zBW]
 refine zCD fun i _ => ?_
 have h1:=hn (gD l i)
 have h2:=zl (gD l i)
 have h3:=zAR (nm (gD l i)).s
 split<;>simp only [List.length_append]<;>omega
theorem zGj (l:List D):(zGk l).length<=12*bulkL l:=zKU _ _ _ l (by decide) (by decide) fun x=>zAN x
theorem zGG (l:List D):(zE8 l).length<=12*bulkL l:=zKU _ _ _ l (by decide) (by decide) fun x=>Nat.le_trans (zAN (x.f 0)) (wD_f x 0)
theorem zH1 (k:Int):(wordD k).length<=9:=by
 unfold wordD
 repeat' split
 all_goals decide
theorem defS_len (d:D) (h:wideD d):(defS d).length<=52*bulkD d:=by
 have h1:=zB5 (d.f 3).l (h.f 3).l
 have h2:=zEr (d.f 6).l (h.f 6).l
 have h9:=zBe fdS (d.f 4).l 48 fun i _=>fdS_len _ ((h.f 4).l i)
 have h10:=zBe mbS (d.f 5).l 44 fun i _=>mbS_len _ ((h.f 5).l i)
 have h11:=zGj (d.f 2).l
 have h12:=zGG (d.f 5).l
 have h13:=zH1 (d.f 0).n
 have h3:=zl d
 have h4:=zAN (d.f 1)
 have h5:=zAG d 7
 have h6:=zx (d.f 2)
 have h7:=zx (d.f 3)
 have h8:=zx (d.f 4)
 have h14:=zx (d.f 5)
 have h15:=zx (d.f 6)
 have h16:=zAR (d.f 1).s
 simp only [sumN] at h5
 unfold defS
 split<;>simp only [List.length_append,List.length_cons,List.length_nil]<;>omega
theorem docS_len (l:List D) (h : ∀ i,wideD (gD l i)):(docS l).length<=53*bulkL l:=by
 unfold docS
 rw [zBd,zAd,<- zBW]
 refine zCD fun i _ => ?_
 have h1:=defS_len (gD l i) (h i)
 have h2:=zAY (gD l i)
 split<;>simp only [List.length_append,List.length_cons,List.length_nil]<;>omega
end
section
open Go.RowKit
set_option linter.unusedSectionVars false
attribute [local irreducible] wpList Calls Code.wp AW AWo OpOk seqK zq zt loopK endK AC zg Yld Sub
attribute [local irreducible] ACB ACX ACE absLexG YldG
theorem nodeU_ac (d:D):AC EN5 Tryz.prog 234 [.agg (cellsV Tryz.prog 12 53 d),.c (.bool true)] (.c (.bool (nodeL d))):=by
 refine zA9 2 (by kernel_rfl) fun hL => ?_
 have hk:(d.f 4).l.length<=9223372036854775807:=(zBB hL).2
 clear hL
 have c1:=zEo (d.f 2).s
 have c2:=twiceU_ac (d.f 4).l
 rw [twice_strs] at c2
 have c3:=zF8 (d.f 4).l (fun x => !nameB x.s) hk fun i hi=>key1U_ac _
 have e:cellsV Tryz.prog 12 53 d=[.c (.int .i64 (d.f 0).n),.c (.int .i64 (d.f 1).n),.c (.string (d.f 2).s),.sl 53 (d.f 3).l,.sl 9 (d.f 4).l]:=rfl
 have hT:((d.f 2).s.toList==({ data:=#[] }:ByteArray).toList)=((d.f 2).s.data.toList==[]):=zCE _ []
 have hT1:((d.f 2).s.toList==({ data:=#[116,114,117,101] }:ByteArray).toList)=((d.f 2).s.data.toList==[116,114,117,101]):=zCE _ _
 have hT2:((d.f 2).s.toList==({ data:=#[102,97,108,115,101] }:ByteArray).toList)=((d.f 2).s.data.toList==[102,97,108,115,101]):=zCE _ _
 have hT3:((d.f 2).s.toList==({ data:=#[110,117,108,108] }:ByteArray).toList)=((d.f 2).s.data.toList==[110,117,108,108]):=zCE _ _
 unfold nodeL
 rw [e]
 by_cases h8:0<=(d.f 0).n/\(d.f 0).n<=7
 . have h9:(d.f 0).n=0\/(d.f 0).n=1\/(d.f 0).n=2\/(d.f 0).n=3\/(d.f 0).n=4\/(d.f 0).n=5\/(d.f 0).n=6\/(d.f 0).n=7:=by omega
   rcases h9 with hn | hn | hn | hn | hn | hn | hn | hn
   all_goals
    rw [hn]
    refine zN 137 Tryz.func234 rfl rfl rfl rfl ?_
    intro s w he
    repeat' (first
|apply zAK rfl rfl rfl
 . conv=>lhs;whnf
 . first | rfl | assumption
 . conv=>lhs;whnf
 . first | exact bT1 ‹_› | exact bT2 ‹_› | rfl
|apply zAH rfl rfl rfl
 . conv=>lhs;whnf
 . first | rfl | assumption
 . conv=>lhs;whnf
 . first | exact bF1 ‹_› | exact bF2 ‹_› | rfl
|refine zA ?_
|refine zB ?_
|refine zK ?_
|apply aw_1
 conv=>whnf
 refine ⟨?_,trivial⟩
|apply zT rfl rfl
 . conv=>lhs;whnf
 . conv=>lhs;whnf
 . first | exact bT1 ‹_› | exact bT2 ‹_›
|apply zQ rfl rfl
 . conv=>lhs;whnf
 . conv=>lhs;whnf
 . first | exact bF1 ‹_› | exact bF2 ‹_›
|apply s_1
 conv=>whnf;arg 1;arg 4;arg 3;whnf
 refine ⟨?_,?_⟩
|apply zb rfl
 . conv=>lhs;whnf
 . conv=>lhs;whnf
 . first | exact c1 | exact c2 | exact c3
|apply zAA rfl rfl rfl rfl
 . conv=>lhs;whnf;arg 1;whnf
 . rfl
|apply zF rfl
 . conv=>lhs;whnf
 . conv=>lhs;whnf
 . first | rfl | assumption
 . conv=>lhs;whnf;arg 2;whnf
|apply zU rfl
 . conv=>lhs;whnf
 . conv=>lhs;whnf
 . first | rfl | assumption
 . conv=>lhs;whnf
 . first | exact c1 | exact c2 | exact c3
|apply zX rfl
 . conv=>lhs;whnf
 . conv=>lhs;whnf
 . first | rfl | assumption
|apply zC rfl
 . conv=>lhs;whnf
 . conv=>lhs;whnf
 . conv=>lhs;whnf;arg 2;whnf
|refine zZ (by conv=>lhs;whnf) ?_ ?_<;>intro hb
|refine zM ?_
|refine zO ?_
|refine zE ?_
|refine ⟨_,by conv=>lhs;whnf;arg 2;whnf,?_⟩;conv=>rhs;whnf
|exact trivial
|intro hg)
    all_goals
     clear c1 c2 c3 he e hk
     simp only [hT,hT1,hT2,hT3] at *
     clear hT hT1 hT2 hT3
     unfold zEc
     generalize ((d.f 2).s.data.toList==[])=t at *
     generalize ((d.f 2).s.data.toList==[116,114,117,101])=t1 at *
     generalize ((d.f 2).s.data.toList==[102,97,108,115,101])=t2 at *
     generalize ((d.f 2).s.data.toList==[110,117,108,108])=t3 at *
     generalize nameB (d.f 2).s=v at *
     generalize ((d.f 4).l.any fun x => !nameB x.s)=ks at *
     generalize decide (strsR d).Nodup=y at *
     generalize (d.f 4).l.length=a at *
     generalize (d.f 3).l.length=b at *
     generalize (d.f 1).n=i at *
     refine congrArg (fun b=>V.c (.bool b)) ?_
     unfold zIg
     simp_all
    all_goals try (intros;omega)
 . have q1:((d.f 0).n==1)=false:=by simp;omega
   have q2:((d.f 0).n==2)=false:=by simp;omega
   have q3:((d.f 0).n==3)=false:=by simp;omega
   have q4:((d.f 0).n==4)=false:=by simp;omega
   have q5:((d.f 0).n==5)=false:=by simp;omega
   have q0:((d.f 0).n==0)=false:=by simp;omega
   have q6:((d.f 0).n==6)=false:=by simp;omega
   have q7:((d.f 0).n==7)=false:=by simp;omega
   have g1:(((d.f 0).n==1)==false)=true:=by rw [q1];rfl
   have g2:(((d.f 0).n==2)==false)=true:=by rw [q2];rfl
   have g3:(((d.f 0).n==3)==false)=true:=by rw [q3];rfl
   have g4:(((d.f 0).n==4)==false)=true:=by rw [q4];rfl
   have g7:(((d.f 0).n==7)==false)=true:=by rw [q7];rfl
   have m5:((d.f 0).n != 5)=true:=by simp;omega
   have n5:(((d.f 0).n != 5)==true)=true:=by rw [m5];rfl
   have m6:((d.f 0).n != 6)=true:=by simp;omega
   have n6:(((d.f 0).n != 6)==true)=true:=by rw [m6];rfl
   refine zN 137 Tryz.func234 rfl rfl rfl rfl ?_
   intro s w he
   repeat' (first
|apply zAK rfl rfl rfl
 . conv=>lhs;whnf
 . first | rfl | assumption
 . conv=>lhs;whnf
 . first | exact bT1 ‹_› | exact bT2 ‹_› | rfl
|apply zAH rfl rfl rfl
 . conv=>lhs;whnf
 . first | rfl | assumption
 . conv=>lhs;whnf
 . first | exact bF1 ‹_› | exact bF2 ‹_› | rfl
|apply zD
 . conv=>lhs;whnf
 . assumption
|refine zA ?_
|refine zB ?_
|refine zK ?_
|refine zP ?_
|apply aw_1
 conv=>whnf
 refine ⟨?_,trivial⟩
|apply zT rfl rfl
 . conv=>lhs;whnf
 . conv=>lhs;whnf
 . first | exact bT1 ‹_› | exact bT2 ‹_›
|apply zQ rfl rfl
 . conv=>lhs;whnf
 . conv=>lhs;whnf
 . first | exact bF1 ‹_› | exact bF2 ‹_›
|apply s_1
 conv=>whnf;arg 1;arg 4;arg 3;whnf
 refine ⟨?_,?_⟩
|apply zAA rfl rfl rfl rfl
 . conv=>lhs;whnf;arg 1;whnf
 . rfl
|apply zF rfl
 . conv=>lhs;whnf
 . conv=>lhs;whnf
 . first | rfl | assumption
 . conv=>lhs;whnf;arg 2;whnf
|apply zX rfl
 . conv=>lhs;whnf
 . conv=>lhs;whnf
 . first | rfl | assumption
|apply zC rfl
 . conv=>lhs;whnf
 . conv=>lhs;whnf
 . conv=>lhs;whnf;arg 2;whnf
|refine zZ (by conv=>lhs;whnf) ?_ ?_<;>intro hb
|refine zM ?_
|refine zE ?_
|refine ⟨_,by conv=>lhs;whnf;arg 2;whnf,?_⟩;conv=>rhs;whnf
|exact trivial
|intro hg)
   all_goals
    clear c1 c2 c3 he e hk
    simp only [hT,hT1,hT2,hT3] at *
    clear hT hT1 hT2 hT3
    unfold zEc
    generalize ((d.f 2).s.data.toList==[])=t at *
    generalize ((d.f 2).s.data.toList==[116,114,117,101])=t1 at *
    generalize ((d.f 2).s.data.toList==[102,97,108,115,101])=t2 at *
    generalize ((d.f 2).s.data.toList==[110,117,108,108])=t3 at *
    generalize nameB (d.f 2).s=v at *
    generalize ((d.f 4).l.any fun x => !nameB x.s)=ks at *
    generalize decide (strsR d).Nodup=y at *
    generalize (d.f 4).l.length=a at *
    generalize (d.f 3).l.length=b at *
    generalize (d.f 1).n=i at *
    generalize (d.f 0).n=n at *
    refine congrArg (fun b=>V.c (.bool b)) ?_
    unfold zIg
    simp_all
   all_goals try (intros;omega)
theorem zJ1 (x:D) (b:Bool) (h:AC EN5 Tryz.prog 211 [.agg (cellsV Tryz.prog 12 53 x),.c (.bool true)] (.c (.bool b))) :
 ACB EN5 Tryz.prog 236 [.agg (cellsV Tryz.prog 12 53 x),.bx (pn 0) 0] [.box 4 [.c (.bool true)]] (.c (.bool (!b))) [.box 4 [.c (.bool true)]]:=by
 refine zAe (fn:=Tryz.f236) 8 Tryz.func236 rfl rfl ?_
 intro pas w0 w he hpp
 repeat' (first
|refine zA ?_
|refine zB ?_
|refine zK ?_
|apply aw_1
 conv=>whnf
 refine ⟨?_,trivial⟩
|apply s_1
 conv=>whnf;arg 1;arg 4;arg 3;whnf
 refine ⟨?_,?_⟩
|apply zb rfl
 . conv=>lhs;whnf
 . conv=>lhs;whnf
 . first | exact h
|apply zAA rfl rfl rfl rfl
 . conv=>lhs;whnf;arg 1;whnf
 . rfl
|refine zCb ⟨?_,?_⟩
|refine ⟨_,by conv=>lhs;whnf;arg 2;whnf,?_⟩;conv=>rhs;whnf
|exact trivial)
 exact ⟨rfl,trivial⟩
theorem zI7 : ∀ (k:Nat) (d:D),Dp k d->AC EN5 Tryz.prog 211 [.agg (cellsV Tryz.prog 12 53 d),.c (.bool true)] (.c (.bool (everyL k d)))
 |0,_,h=>h.elim
 |k+1,d,h=>by
  refine zA9 2 (by kernel_rfl) fun hL => ?_
  have hl:(d.f 3).l.length<=9223372036854775807:=(zBB hL).1
  clear hL
  have hnode:=nodeU_ac d
  have hc:=zEE true (d.f 3).l (fun x => !everyL k x) hl fun i hi=>zJ1 _ _ (zI7 k _ (h i hi))
  have e:everyL (k+1) d=(nodeL d && !((d.f 3).l.any fun x => !everyL k x)):=rfl
  rw [e]
  refine zN 15 Tryz.func211 rfl rfl rfl rfl ?_
  intro s w he
  repeat' (first
|apply zEM (m:=3) rfl
 . conv=>lhs;whnf
 . conv=>lhs;whnf
 . conv=>lhs;whnf
 . rfl
 . conv=>lhs;whnf;arg 1;whnf
 . exact fun _=>rfl
 . first | exact hc
 . exact fun _=>rfl
 . exact fun _=>rfl
 . exact fun _=>rfl
|refine zA ?_
|refine zB ?_
|refine zK ?_
|apply aw_1
 conv=>whnf
 refine ⟨?_,trivial⟩
|apply zT rfl rfl
 . conv=>lhs;whnf
 . conv=>lhs;whnf
 . first | exact bT1 ‹_› | exact bT2 ‹_›
|apply zQ rfl rfl
 . conv=>lhs;whnf
 . conv=>lhs;whnf
 . first | exact bF1 ‹_› | exact bF2 ‹_›
|apply s_1
 conv=>whnf;arg 1;arg 4;arg 3;whnf
 refine ⟨?_,?_⟩
|apply zb rfl
 . conv=>lhs;whnf
 . conv=>lhs;whnf
 . first | exact hnode
|apply zAA rfl rfl rfl rfl
 . conv=>lhs;whnf;arg 1;whnf
 . rfl
|apply zF rfl
 . conv=>lhs;whnf
 . conv=>lhs;whnf
 . first | rfl | assumption
 . conv=>lhs;whnf;arg 2;whnf
|apply zX rfl
 . conv=>lhs;whnf
 . conv=>lhs;whnf
 . first | rfl | assumption
|apply zC rfl
 . conv=>lhs;whnf
 . conv=>lhs;whnf
 . conv=>lhs;whnf;arg 2;whnf
|refine zE ?_
|refine ⟨_,by conv=>lhs;whnf;arg 2;whnf,?_⟩;conv=>rhs;whnf
|exact trivial
|intro hg)
  all_goals
   clear hnode hc he e
   generalize nodeL d=b at *
   generalize ((d.f 3).l.any fun x => !everyL k x)=c at *
   cases b
   . first
      |rfl
      |(exfalso;simp at *)
   . first
      |rfl
      |(exfalso;simp at *)
theorem litU_ac (d:D):AC EN5 Tryz.prog 182 [.agg (cellsV Tryz.prog 12 53 d)] (.c (.bool (litW d))):=by
 have h:=zBP (bulkD d) d (Nat.le_refl _)
 have h1:=zKS _ d h
 have h2:=zJC _ d h
 have h3:=zI7 _ d h
 unfold litW
 refine zN 15 Tryz.func182 rfl rfl rfl rfl ?_
 intro s w he
 repeat' (first
|refine zA ?_
|refine zB ?_
|refine zK ?_
|apply aw_1
 conv=>whnf
 refine ⟨?_,trivial⟩
|apply zT rfl rfl
 . conv=>lhs;whnf
 . conv=>lhs;whnf
 . first | exact bT1 ‹_› | exact bT2 ‹_›
|apply zQ rfl rfl
 . conv=>lhs;whnf
 . conv=>lhs;whnf
 . first | exact bF1 ‹_› | exact bF2 ‹_›
|apply s_1
 conv=>whnf;arg 1;arg 4;arg 3;whnf
 refine ⟨?_,?_⟩
|apply zb rfl
 . conv=>lhs;whnf
 . conv=>lhs;whnf
 . first | exact h1 | exact h2 | exact h3
|apply zAA rfl rfl rfl rfl
 . conv=>lhs;whnf;arg 1;whnf
 . rfl
|apply zF rfl
 . conv=>lhs;whnf
 . conv=>lhs;whnf
 . first | rfl | assumption
 . conv=>lhs;whnf;arg 2;whnf
|apply zU rfl
 . conv=>lhs;whnf
 . conv=>lhs;whnf
 . first | rfl | assumption
 . conv=>lhs;whnf
 . first | exact h1 | exact h2 | exact h3
|apply zX rfl
 . conv=>lhs;whnf
 . conv=>lhs;whnf
 . first | rfl | assumption
|apply zC rfl
 . conv=>lhs;whnf
 . conv=>lhs;whnf
 . conv=>lhs;whnf;arg 2;whnf
|refine zE ?_
|refine ⟨_,by conv=>lhs;whnf;arg 2;whnf,?_⟩;conv=>rhs;whnf
|exact trivial
|intro hg)
 all_goals
  clear h1 h2 h3 he
  refine congrArg (fun b=>V.c (.bool b)) ?_
  simp_all
  try (intros;omega)
end
section
open Go.RowKit
set_option linter.unusedSectionVars false
attribute [local irreducible] wpList Calls Code.wp AW AWo OpOk seqK zq zt loopK endK AC zg Yld Sub
attribute [local irreducible] ACB ACX ACE absLexG YldG absLexH
theorem zAl (s:ByteArray):AC EN Tryz.prog 72 [.c (.string s)] (.c (.bool (nameB s))):=by
 refine ac_of (r:=.bool (nameB s)) fun σ w us hus _ => ?_
 obtain ⟨rfl,hs⟩:=zG2 hus
 refine ⟨trivial,(nameR s w hs).mono ?_⟩
 rintro e w' ⟨rfl,rfl⟩
 exact ⟨rfl,Below.refl _ _⟩
noncomputable def HSfW (d:D) (n:Int) (i:Nat):Vst 21:=stS 21 [(1,.bx 1 0),(3,.c (.int .i64 n)),(4,.c (.int .i64 (i:Int)))] [(1,.box 53 (cellsV Tryz.prog 12 53 d))]
theorem zID : ∀ (k:Nat) (d:D),Dp k d->AC EN Tryz.prog 184 [.agg (cellsV Tryz.prog 12 53 d)] (.c (.int .i64 (zEU k d)))
 |0,_,h=>h.elim
 |k+1,d,h=>by
  refine zA9 2 (by kernel_rfl) fun hL => ?_
  have hl:(d.f 3).l.length<=9223372036854775807:=(zBB hL).1
  clear hL
  have ih:=fun i (hi:i<(d.f 3).l.length)=>zID k (gD (d.f 3).l i) (h i hi)
  have hs:zEU (k+1) d=IntKind.i64.wrap ((1+sumN (fun i=>sizeR k (gD (d.f 3).l i)) (d.f 3).l.length:Nat):Int):=rfl
  refine zN 21 Tryz.func184 rfl rfl rfl rfl ?_
  intro s w he
  repeat' (first
|refine zA ?_
|refine zB ?_
|refine zK ?_
|apply aw_1
 conv=>whnf
 refine ⟨?_,trivial⟩
|apply s_1
 conv=>whnf;arg 1;arg 4;arg 3;whnf
 refine ⟨?_,?_⟩
|apply zAA rfl rfl rfl rfl
 . conv=>lhs;whnf;arg 1;whnf
 . rfl
|exact trivial)
  refine za (fun j st => ∃ i,i+j=(d.f 3).l.length/\Sub (cx EN Tryz.prog s w he) st (HSfW d (IntKind.i64.wrap ((1+sumN (fun i=>sizeR k (gD (d.f 3).l i)) i:Nat):Int)) i)) (d.f 3).l.length ⟨0,by omega,Sub.live ⟨rfl,rfl,rfl,trivial⟩ ⟨rfl,trivial⟩⟩ ?_
  rintro j st ⟨i,hij,hs2⟩
  refine zi hs2 ?_
  clear hs2
  by_cases hi:i<(d.f 3).l.length
  . have f0:decide ((i:Int)<((d.f 3).l.length:Nat))=true:=decide_eq_true (by omega)
    have ih2:=ih i hi
    have hss:sumN (fun i=>sizeR k (gD (d.f 3).l i)) (i+1)=sumN (fun i=>sizeR k (gD (d.f 3).l i)) i+sizeR k (gD (d.f 3).l i):=rfl
    repeat' (first
|apply zA8 (y:=.tmp _) rfl rfl rfl
 . conv=>lhs;whnf
 . conv=>lhs;whnf
|apply zG
 . conv=>lhs;whnf
 . assumption
|refine zA ?_
|refine zB ?_
|refine zK ?_
|refine zP ?_
|apply aw_1
 conv=>whnf
 refine ⟨?_,trivial⟩
|apply s_1
 conv=>whnf;arg 1;arg 4;arg 3;whnf
 refine ⟨?_,?_⟩
|apply zb rfl
 . conv=>lhs;whnf
 . conv=>lhs;whnf
 . first | exact ih2
|exact trivial)
    all_goals first
     |exact zS (by omega)
     |exact zu hi
     |(refine zH (j':=j-1) (by omega) ⟨i+1,by omega,Sub.live ⟨rfl,?_,rfl,trivial⟩ ⟨rfl,trivial⟩⟩
       refine congrArg (fun n=>V.c (.int .i64 n)) (?_:IntKind.i64.wrap (IntKind.i64.wrap ((1+sumN (fun i=>sizeR k (gD (d.f 3).l i)) i:Nat):Int)+zEU k (gD (d.f 3).l i))=IntKind.i64.wrap ((1+sumN (fun i=>sizeR k (gD (d.f 3).l i)) (i+1):Nat):Int))
       rw [zD5,hss]
       unfold zEU
       rw [zGA]
       congr 1
       omega)
  . have f0:decide ((i:Int)<((d.f 3).l.length:Nat))=false:=decide_eq_false (by omega)
    repeat' (first
|apply zD
 . conv=>lhs;whnf
 . assumption
|refine zA ?_
|refine zB ?_
|refine zK ?_
|apply aw_1
 conv=>whnf
 refine ⟨?_,trivial⟩
|apply s_1
 conv=>whnf;arg 1;arg 4;arg 3;whnf
 refine ⟨?_,?_⟩
|refine zL ?_
|refine zJ rfl ?_
|refine zI ?_
|refine zE ?_
|refine ⟨_,by conv=>lhs;whnf;arg 2;whnf,?_⟩;conv=>rhs;whnf
|exact trivial)
    rw [hs,show i=(d.f 3).l.length by omega]
noncomputable def HDfW (d:D) (n:Int) (i:Nat):Vst 22:=stS 22 [(1,.bx 1 0),(3,.c (.int .i64 n)),(4,.c (.int .i64 (i:Int)))] [(1,.box 53 (cellsV Tryz.prog 12 53 d))]
theorem zGn : ∀ (k:Nat) (d:D),Dp k d->AC EN Tryz.prog 185 [.agg (cellsV Tryz.prog 12 53 d)] (.c (.int .i64 (zBS k d)))
 |0,_,h=>h.elim
 |k+1,d,h=>by
  refine zA9 2 (by kernel_rfl) fun hL => ?_
  have hl:(d.f 3).l.length<=9223372036854775807:=(zBB hL).1
  clear hL
  have ih:=fun i (hi:i<(d.f 3).l.length)=>zGn k (gD (d.f 3).l i) (h i hi)
  have hs:zBS (k+1) d=IntKind.i64.wrap (maxW (fun i=>zBS k (gD (d.f 3).l i)) (d.f 3).l.length+1):=rfl
  refine zN 22 Tryz.func185 rfl rfl rfl rfl ?_
  intro s w he
  repeat' (first
|refine zA ?_
|refine zB ?_
|refine zK ?_
|apply aw_1
 conv=>whnf
 refine ⟨?_,trivial⟩
|apply s_1
 conv=>whnf;arg 1;arg 4;arg 3;whnf
 refine ⟨?_,?_⟩
|apply zAA rfl rfl rfl rfl
 . conv=>lhs;whnf;arg 1;whnf
 . rfl
|exact trivial)
  refine za (fun j st => ∃ i,i+j=(d.f 3).l.length/\Sub (cx EN Tryz.prog s w he) st (HDfW d (maxW (fun i=>zBS k (gD (d.f 3).l i)) i) i)) (d.f 3).l.length ⟨0,by omega,Sub.live ⟨rfl,rfl,rfl,trivial⟩ ⟨rfl,trivial⟩⟩ ?_
  rintro j st ⟨i,hij,hs2⟩
  refine zi hs2 ?_
  clear hs2
  by_cases hi:i<(d.f 3).l.length
  . have f0:decide ((i:Int)<((d.f 3).l.length:Nat))=true:=decide_eq_true (by omega)
    have ih2:=ih i hi
    repeat' (first
|apply s_max rfl rfl rfl
 . conv=>lhs;whnf;arg 1;whnf
 . conv=>lhs;whnf;arg 1;whnf
|apply zG
 . conv=>lhs;whnf
 . assumption
|refine zA ?_
|refine zB ?_
|refine zK ?_
|refine zP ?_
|apply aw_1
 conv=>whnf
 refine ⟨?_,trivial⟩
|apply s_1
 conv=>whnf;arg 1;arg 4;arg 3;whnf
 refine ⟨?_,?_⟩
|apply zb rfl
 . conv=>lhs;whnf
 . conv=>lhs;whnf
 . first | exact ih2
|exact trivial)
    all_goals first
     |exact zS (by omega)
     |exact zu hi
     |exact zH (j':=j-1) (by omega) ⟨i+1,by omega,Sub.live ⟨rfl,rfl,rfl,trivial⟩ ⟨rfl,trivial⟩⟩
  . have f0:decide ((i:Int)<((d.f 3).l.length:Nat))=false:=decide_eq_false (by omega)
    have e:i=(d.f 3).l.length:=by omega
    subst e
    repeat' (first
|apply zA8 rfl rfl rfl
 . conv=>lhs;whnf
 . conv=>lhs;whnf
|apply zD
 . conv=>lhs;whnf
 . assumption
|refine zA ?_
|refine zB ?_
|refine zK ?_
|apply aw_1
 conv=>whnf
 refine ⟨?_,trivial⟩
|apply s_1
 conv=>whnf;arg 1;arg 4;arg 3;whnf
 refine ⟨?_,?_⟩
|refine zL ?_
|refine zJ rfl ?_
|refine zI ?_
|refine zE ?_
|refine ⟨_,by conv=>lhs;whnf;arg 2;whnf,?_⟩;conv=>rhs;whnf
|exact trivial)
    rfl
def eqStU (l:List D) (i k:Nat):Bool:=(gD l i).s.toList==(gD l k).s.toList
def zHc (l:List D) (i:Nat):Nat->Nat->Bool
 |0,_=>false
 |j+1,k=>eqStU l i k||zHc l i j (k+1)
def zF2 (l:List D):Nat->Nat->Bool
 |0,_=>false
 |j+1,i=>zHc l i i 0||zF2 l j (i+1)
theorem zIv (l:List D) (i:Nat) : ∀ (j k:Nat),zHc l i j k=true ↔ ∃ m,k<=m/\m<k+j/\eqStU l i m=true
 |0,k=>by simp only [zHc,Bool.false_eq_true,false_iff];rintro ⟨m,h1,h2,-⟩;omega
 |j+1,k=>by
  rw [zHc,Bool.or_eq_true,zIv l i j (k+1)]
  constructor
  . rintro (h | ⟨m,h1,h2,h3⟩)
    . exact ⟨k,Nat.le_refl _,by omega,h⟩
    . exact ⟨m,by omega,by omega,h3⟩
  . rintro ⟨m,h1,h2,h3⟩
    by_cases e:m=k
    . subst e;exact .inl h3
    . exact .inr ⟨m,by omega,by omega,h3⟩
theorem zIa (l:List D) : ∀ (j i:Nat),zF2 l j i=true ↔ ∃ m,i<=m/\m<i+j /\ ∃ k,k<m/\eqStU l m k=true
 |0,i=>by simp only [zF2,Bool.false_eq_true,false_iff];rintro ⟨m,h1,h2,-⟩;omega
 |j+1,i=>by
  rw [zF2,Bool.or_eq_true,zIa l j (i+1),zIv]
  constructor
  . rintro (⟨k,h1,h2,h3⟩ | ⟨m,h1,h2,h3⟩)
    . exact ⟨i,Nat.le_refl _,by omega,k,by omega,h3⟩
    . exact ⟨m,by omega,by omega,h3⟩
  . rintro ⟨m,h1,h2,k,h3,h4⟩
    by_cases e:m=i
    . subst e;exact .inl ⟨k,by omega,by omega,h4⟩
    . exact .inr ⟨m,by omega,by omega,k,h3,h4⟩
theorem outT_RU (d:D):zF2 (d.f 4).l (d.f 4).l.length 0 = !decide (strsR d).Nodup:=by
 rw [Bool.eq_iff_iff,zIa,Bool.not_eq_true',decide_eq_false_iff_not]
 have hlen:(strsR d).length=(d.f 4).l.length:=by simp [strsR]
 have hg : ∀ i (h:i<(d.f 4).l.length),(strsR d)[i]'(by rw [hlen];exact h)=(gD (d.f 4).l i).s.data.toList:=fun i h=>by
  simp only [strsR,List.getElem_map]
  rw [gD,List.getD_eq_getElem?_getD,List.getElem?_eq_getElem h];rfl
 have he : ∀ i k,eqStU (d.f 4).l i k=true ↔ (gD (d.f 4).l i).s.data.toList=(gD (d.f 4).l k).s.data.toList:=fun i k=>by
  unfold eqStU;rw [Lib.toList_data,Lib.toList_data,beq_iff_eq]
 constructor
 . rintro ⟨m,-,h2,k,h3,h4⟩ hn
   have h5:=List.pairwise_iff_getElem.1 hn k m (by omega) (by omega) h3
   rw [hg k (by omega),hg m (by omega)] at h5
   exact h5 ((he m k).1 h4).symm
 . intro hn
   refine Classical.byContradiction fun hc=>hn (List.pairwise_iff_getElem.2 fun k m hk hm hkm hq=>hc ⟨m,Nat.zero_le _,by omega,k,hkm,?_⟩)
   rw [hg k (by omega),hg m (by omega)] at hq
   exact (he m k).2 hq.symm
noncomputable def HToU (l:List D) (i:Nat):Vst 25:=stS 25 [(0,.sl 9 l),(3,.c (.int .i64 (i:Int)))] []
noncomputable def HTiU (l:List D) (i k:Nat):Vst 25:=stS 25 [(0,.sl 9 l),(3,.c (.int .i64 (i:Int))),(4,.c (.int .i64 (k:Int)))] []
theorem twiceFU_ac (d:D):AC EN Tryz.prog 237 [.sl 9 (d.f 4).l] (.c (.bool (!decide (strsR d).Nodup))):=by
 refine zDL 1 fun hL2 => ?_
 have hl:(d.f 4).l.length<=9223372036854775807:=hL2.1
 clear hL2
 have hR:=outT_RU d
 generalize (!decide (strsR d).Nodup)=R at hR |-
 generalize (d.f 4).l=l at hR hl |-
 refine zN 25 Tryz.func237 rfl rfl rfl rfl ?_
 intro s w he
 repeat' (first
|refine zA ?_
|refine zB ?_
|refine zK ?_
|apply aw_1
 conv=>whnf
 refine ⟨?_,trivial⟩
|apply s_1
 conv=>whnf;arg 1;arg 4;arg 3;whnf
 refine ⟨?_,?_⟩
|exact trivial)
 refine za (fun j st => ∃ i,i+j=l.length/\zF2 l j i=R/\Sub (cx EN Tryz.prog s w he) st (HToU l i)) l.length ⟨0,by omega,hR,Sub.live ⟨rfl,rfl,trivial⟩ trivial⟩ ?_
 clear hR
 rintro j st ⟨i,hij,hR,hs2⟩
 refine zi hs2 ?_
 clear hs2
 by_cases hi:i<l.length
 . obtain ⟨j,rfl⟩ : ∃ q,j=q+1:=⟨j-1,by omega⟩
   have f1:decide ((i:Int)<(l.length:Nat))=true:=decide_eq_true (by omega)
   have hR':(zHc l i i 0||zF2 l j (i+1))=R:=hR
   clear hR
   repeat' (first
|apply zG
 . conv=>lhs;whnf
 . assumption
|refine zA ?_
|refine zB ?_
|refine zK ?_
|apply aw_1
 conv=>whnf
 refine ⟨?_,trivial⟩
|apply s_1
 conv=>whnf;arg 1;arg 4;arg 3;whnf
 refine ⟨?_,?_⟩
|exact trivial)
   refine za (fun jj st => ∃ k,k+jj=i/\(zHc l i jj k||zF2 l j (i+1))=R/\Sub (cx EN Tryz.prog s w he) st (HTiU l i k)) i ⟨0,by omega,hR',Sub.live ⟨rfl,rfl,rfl,trivial⟩ trivial⟩ ?_
   clear hR'
   rintro jj st ⟨k,hk,hR,hs2⟩
   refine zi hs2 ?_
   clear hs2
   by_cases hki:k<i
   . obtain ⟨jj,rfl⟩ : ∃ q,jj=q+1:=⟨jj-1,by omega⟩
     have f2:decide ((k:Int)<(i:Int))=true:=decide_eq_true (by omega)
     have hR':(eqStU l i k||zHc l i jj (k+1)||zF2 l j (i+1))=R:=hR
     have hkl:k<l.length:=by omega
     repeat' (first
|apply zG
 . conv=>lhs;whnf
 . assumption
|refine zA ?_
|refine zB ?_
|refine zK ?_
|refine zP ?_
|apply aw_1
 conv=>whnf
 refine ⟨?_,trivial⟩
|apply s_1
 conv=>whnf;arg 1;arg 4;arg 3;whnf
 refine ⟨?_,?_⟩
|apply zAC (by kernel_rfl) (by kernel_rfl)
|apply zAs
|apply zAr rfl
 . conv=>lhs;whnf
 . conv=>lhs;whnf;arg 2;whnf
|exact zj
|exact zr
|exact (1000000:Nat)
|refine zZ (by conv=>lhs;whnf) ?_ ?_<;>intro hb
|refine zM ?_
|refine zO ?_
|refine zh ?_
|refine zE ?_
|refine ⟨_,by conv=>lhs;whnf;arg 2;whnf,?_⟩;conv=>rhs;whnf
|exact trivial)
     all_goals first
      |exact zS (by omega)
      |exact zu hi
      |exact zu hkl
      |skip
     . have e:eqStU l i k=true:=by assumption
       rw [<- hR',e];rfl
     . have e:eqStU l i k=false:=by assumption
       exact zH (j':=jj) (by omega) ⟨k+1,by omega,by rw [<- hR',e,Bool.false_or],Sub.live ⟨rfl,rfl,rfl,trivial⟩ trivial⟩
   . obtain rfl:jj=0:=by omega
     have f2:decide ((k:Int)<(i:Int))=false:=decide_eq_false (by omega)
     have hR':zF2 l j (i+1)=R:=by rw [<- hR,zHc,Bool.false_or]
     repeat' (first
|apply zD
 . conv=>lhs;whnf
 . assumption
|refine zA ?_
|refine zB ?_
|refine zK ?_
|refine zP ?_
|apply aw_1
 conv=>whnf
 refine ⟨?_,trivial⟩
|apply s_1
 conv=>whnf;arg 1;arg 4;arg 3;whnf
 refine ⟨?_,?_⟩
|refine zL ?_
|refine zJ rfl ?_
|refine zI ?_
|exact trivial)
     all_goals first
      |exact zS (by omega)
      |exact zH (j':=j) (by omega) ⟨i+1,by omega,hR',Sub.live ⟨rfl,rfl,trivial⟩ trivial⟩
      |skip
 . obtain rfl:j=0:=by omega
   have f1:decide ((i:Int)<(l.length:Nat))=false:=decide_eq_false (by omega)
   repeat' (first
|apply zD
 . conv=>lhs;whnf
 . assumption
|refine zA ?_
|refine zB ?_
|refine zK ?_
|apply aw_1
 conv=>whnf
 refine ⟨?_,trivial⟩
|apply s_1
 conv=>whnf;arg 1;arg 4;arg 3;whnf
 refine ⟨?_,?_⟩
|refine zL ?_
|refine zJ rfl ?_
|refine zI ?_
|refine zE ?_
|refine ⟨_,by conv=>lhs;whnf;arg 2;whnf,?_⟩;conv=>rhs;whnf
|exact trivial)
   rw [<- hR];rfl
def zKl (n i:Int) (t:Bool) (a b:Nat) (x v y:Bool):Bool:=
 if n=0 then i==0&&t&&b==0&&a==0
 else if n=1 then (i==0||i==1)&&t&&b==0&&a==0
 else if n=2 then t&&b==0&&a==0
 else if n=3 then i==0&&b==0&&a==0
 else if n=4 then i==0&&b==0&&a==0&&x
 else if n=5 then i==0&&t&&a==0
 else if n=6 then i==0&&t&&a==b&&y
 else if n=7 then i==0&&b==0&&a==0&&v
 else false
theorem nodeF_KU (n i:Int) (t:Bool) (a b:Nat) (x v ks y:Bool) (hks:a=0->ks=true):(zKl n i t a b x v y&&ks)=zIg n i t a b x v ks y:=by
 have h0:(a==0)=true->ks=true:=fun h=>hks (by simpa using h)
 unfold zKl zIg
 by_cases n0:n=0
 . subst n0;cases ks<;>simp_all
   try ac_rfl
 by_cases n1:n=1
 . subst n1;cases ks<;>simp_all
   try ac_rfl
 by_cases n2:n=2
 . subst n2;cases ks<;>simp_all
   try ac_rfl
 by_cases n3:n=3
 . subst n3;cases ks<;>simp_all
   try ac_rfl
 by_cases n4:n=4
 . subst n4;cases ks<;>simp_all
   try ac_rfl
 by_cases n5:n=5
 . subst n5;cases ks<;>simp_all
   try ac_rfl
 by_cases n6:n=6
 . subst n6;cases ks<;>simp_all
   try ac_rfl
 by_cases n7:n=7
 . subst n7;cases ks<;>simp_all
   try ac_rfl
 have hd:decide (0<=n/\n<=7)=false:=decide_eq_false (by omega)
 rw [hd]
 simp [n0,n1,n2,n3,n4,n5,n6,n7]
def zEO (d:D):Bool:=zKl (d.f 0).n (d.f 1).n ((d.f 2).s.data.toList==[]) (d.f 4).l.length (d.f 3).l.length (zEc (d.f 2).s) (nameB (d.f 2).s) (decide (strsR d).Nodup)
theorem nodeD_LU (d:D):(zEO d && !((d.f 4).l.any fun x => !nameB x.s))=nodeL d:=
 nodeF_KU _ _ _ _ _ _ _ _ _ fun h=>by rw [List.eq_nil_of_length_eq_zero h];rfl
theorem nodeFU_ac (d:D):AC EN Tryz.prog 212 [.agg (cellsV Tryz.prog 12 53 d),.c (.bool true)] (.c (.bool (zEO d))):=by
 have h1:=zAl (d.f 2).s
 have h2:=twiceFU_ac d
 have e:cellsV Tryz.prog 12 53 d=[.c (.int .i64 (d.f 0).n),.c (.int .i64 (d.f 1).n),.c (.string (d.f 2).s),.sl 53 (d.f 3).l,.sl 9 (d.f 4).l]:=rfl
 have hT:((d.f 2).s.toList==({ data:=#[] }:ByteArray).toList)=((d.f 2).s.data.toList==[]):=zCE _ []
 have hT1:((d.f 2).s.toList==({ data:=#[116,114,117,101] }:ByteArray).toList)=((d.f 2).s.data.toList==[116,114,117,101]):=zCE _ _
 have hT2:((d.f 2).s.toList==({ data:=#[102,97,108,115,101] }:ByteArray).toList)=((d.f 2).s.data.toList==[102,97,108,115,101]):=zCE _ _
 have hT3:((d.f 2).s.toList==({ data:=#[110,117,108,108] }:ByteArray).toList)=((d.f 2).s.data.toList==[110,117,108,108]):=zCE _ _
 have z3:(((d.f 3).l.length:Int)==0)=((d.f 3).l.length==0):=by rw [Bool.eq_iff_iff];simp only [beq_iff_eq];omega
 have z4:(((d.f 4).l.length:Int)==0)=((d.f 4).l.length==0):=by rw [Bool.eq_iff_iff];simp only [beq_iff_eq];omega
 have z5:(((d.f 4).l.length:Int)==((d.f 3).l.length:Int))=((d.f 4).l.length==(d.f 3).l.length):=by rw [Bool.eq_iff_iff];simp only [beq_iff_eq];omega
 unfold zEO zKl zEc
 rw [e]
 by_cases h8:0<=(d.f 0).n/\(d.f 0).n<=7
 . have h9:(d.f 0).n=0\/(d.f 0).n=1\/(d.f 0).n=2\/(d.f 0).n=3\/(d.f 0).n=4\/(d.f 0).n=5\/(d.f 0).n=6\/(d.f 0).n=7:=by omega
   rcases h9 with hn | hn | hn | hn | hn | hn | hn | hn
   all_goals
    rw [hn]
    simp only [if_pos,if_neg,reduceIte,Int.reduceEq]
    refine zN 193 Tryz.func212 rfl rfl rfl rfl ?_
    intro s w he
    repeat' (first
|refine zA ?_
|refine zB ?_
|refine zK ?_
|apply aw_1
 conv=>whnf
 refine ⟨?_,trivial⟩
|apply zT rfl rfl
 . conv=>lhs;whnf
 . conv=>lhs;whnf
 . first | exact bT1 ‹_› | exact bT2 ‹_›
|apply zQ rfl rfl
 . conv=>lhs;whnf
 . conv=>lhs;whnf
 . first | exact bF1 ‹_› | exact bF2 ‹_›
|apply s_1
 conv=>whnf;arg 1;arg 4;arg 3;whnf
 refine ⟨?_,?_⟩
|apply zAA rfl rfl rfl rfl
 . conv=>lhs;whnf;arg 1;whnf
 . rfl
|apply zF rfl
 . conv=>lhs;whnf
 . conv=>lhs;whnf
 . first | rfl | assumption
 . conv=>lhs;whnf;arg 2;whnf
|apply zU rfl
 . conv=>lhs;whnf
 . conv=>lhs;whnf
 . first | rfl | assumption
 . conv=>lhs;whnf
 . first | exact h1 | exact h2
|apply zX rfl
 . conv=>lhs;whnf
 . conv=>lhs;whnf
 . first | rfl | assumption
|apply zC rfl
 . conv=>lhs;whnf
 . conv=>lhs;whnf
 . conv=>lhs;whnf;arg 2;whnf
|refine zM ?_
|refine zO ?_
|refine zE ?_
|refine ⟨_,by conv=>lhs;whnf;arg 2;whnf,?_⟩;conv=>rhs;whnf
|exact trivial
|intro hg)
    all_goals
     refine congrArg (fun b=>V.c (.bool b)) ?_
     clear h1 h2 he e
     simp only [hT,hT1,hT2,hT3,z3,z4,z5] at *
     clear hT hT1 hT2 hT3 z3 z4 z5
     generalize ((d.f 2).s.data.toList==[])=t at *
     generalize ((d.f 2).s.data.toList==[116,114,117,101])=t1 at *
     generalize ((d.f 2).s.data.toList==[102,97,108,115,101])=t2 at *
     generalize ((d.f 2).s.data.toList==[110,117,108,108])=t3 at *
     generalize nameB (d.f 2).s=v at *
     generalize decide (strsR d).Nodup=y at *
     generalize ((d.f 3).l.length==0)=b0 at *
     generalize ((d.f 4).l.length==0)=a0 at *
     generalize ((d.f 4).l.length==(d.f 3).l.length)=ab at *
     generalize (d.f 1).n=i at *
     simp_all
 have n0:(d.f 0).n≠0:=by omega
 have n1:(d.f 0).n≠1:=by omega
 have n2:(d.f 0).n≠2:=by omega
 have n3:(d.f 0).n≠3:=by omega
 have n4:(d.f 0).n≠4:=by omega
 have n5:(d.f 0).n≠5:=by omega
 have n6:(d.f 0).n≠6:=by omega
 have n7:(d.f 0).n≠7:=by omega
 rw [if_neg n0,if_neg n1,if_neg n2,if_neg n3,if_neg n4,if_neg n5,if_neg n6,if_neg n7]
 . have f0:((d.f 0).n==0)=false:=by simpa using n0
   have f1:((d.f 0).n==1)=false:=by simpa using n1
   have f2:((d.f 0).n==2)=false:=by simpa using n2
   have f3:((d.f 0).n==3)=false:=by simpa using n3
   have f4:((d.f 0).n==4)=false:=by simpa using n4
   have f5:((d.f 0).n==5)=false:=by simpa using n5
   have f6:((d.f 0).n==6)=false:=by simpa using n6
   have f7:((d.f 0).n==7)=false:=by simpa using n7
   refine zN 193 Tryz.func212 rfl rfl rfl rfl ?_
   intro s w he
   repeat' (first
|apply zD
 . conv=>lhs;whnf
 . assumption
|refine zA ?_
|refine zB ?_
|refine zK ?_
|refine zP ?_
|apply aw_1
 conv=>whnf
 refine ⟨?_,trivial⟩
|apply s_1
 conv=>whnf;arg 1;arg 4;arg 3;whnf
 refine ⟨?_,?_⟩
|apply zAA rfl rfl rfl rfl
 . conv=>lhs;whnf;arg 1;whnf
 . rfl
|refine zE ?_
|refine ⟨_,by conv=>lhs;whnf;arg 2;whnf,?_⟩;conv=>rhs;whnf
|exact trivial)
def zAM (p:D->Bool) (l:List D):Nat->Nat->Bool
 |0,_=>true
 |j+1,i=>p (gD l i)&&zAM p l j (i+1)
theorem zGr (p:D->Bool) (x:D) (l:List D) : ∀ (j i:Nat),zAM p (x::l) j (i+1)=zAM p l j i
 |0,_=>rfl
 |j+1,i=>by
  unfold zAM
  rw [zGr p x l j (i+1)]
  rfl
theorem zA5 (p:D->Bool) : ∀ l:List D,zAM p l l.length 0=l.all p
 |[]=>rfl
 |x::r=>by
  show (p x&&zAM p (x::r) r.length 1)=(p x&&r.all p)
  rw [zGr,zA5 p r]
theorem all_anyU (p:D->Bool) (l:List D):l.all p = !(l.any fun x => !p x):=by
 induction l with
 |nil=>rfl
 |cons x r ih=>simp only [List.all_cons,List.any_cons,ih,Bool.not_or,Bool.not_not]
theorem zFv (p:D->Bool) (l:List D):zAM p l l.length 0 = !(l.any fun x => !p x):=by rw [zA5,all_anyU]
noncomputable def HWkU (d:D) (i:Nat):Vst 43:=stS 43 [(1,.c (.bool true)),(2,.bx 2 0),(5,.c (.int .i64 (i:Int)))] [(2,.box 53 (cellsV Tryz.prog 12 53 d))]
noncomputable def HWiU (d:D) (i:Nat):Vst 43:=stS 43 [(1,.c (.bool true)),(2,.bx 2 0),(6,.c (.int .i64 (i:Int)))] [(2,.box 53 (cellsV Tryz.prog 12 53 d))]
theorem zGB : ∀ (k:Nat) (d:D),Dp k d->AC EN Tryz.prog 186 [.agg (cellsV Tryz.prog 12 53 d),.c (.bool true)] (.c (.bool (everyL k d)))
 |0,_,h=>h.elim
 |k+1,d,h=>by
  refine zA9 2 (by kernel_rfl) fun hL => ?_
  have hl:(d.f 3).l.length<=9223372036854775807:=(zBB hL).1
  have hlk:(d.f 4).l.length<=9223372036854775807:=(zBB hL).2
  clear hL
  have ih:=fun i (hi:i<(d.f 3).l.length)=>zGB k (gD (d.f 3).l i) (h i hi)
  have hn:=nodeFU_ac d
  have hname:=fun i (_:i<(d.f 4).l.length)=>zAl (gD (d.f 4).l i).s
  have hR:everyL (k+1) d=(zEO d&&zAM (fun x=>nameB x.s) (d.f 4).l (d.f 4).l.length 0&&zAM (everyL k) (d.f 3).l (d.f 3).l.length 0):=by
   rw [zFv,zFv,nodeD_LU];rfl
  generalize everyL (k+1) d=R at hR |-
  refine zN 43 Tryz.func186 rfl rfl rfl rfl ?_
  intro s w he
  repeat' (first
|refine zA ?_
|refine zB ?_
|refine zK ?_
|apply aw_1
 conv=>whnf
 refine ⟨?_,trivial⟩
|apply s_1
 conv=>whnf;arg 1;arg 4;arg 3;whnf
 refine ⟨?_,?_⟩
|apply zb rfl
 . conv=>lhs;whnf
 . conv=>lhs;whnf
 . first | exact hn
|apply zAA rfl rfl rfl rfl
 . conv=>lhs;whnf;arg 1;whnf
 . rfl
|refine zZ (by conv=>lhs;whnf) ?_ ?_<;>intro hb
|refine zM ?_
|refine zE ?_
|refine ⟨_,by conv=>lhs;whnf;arg 2;whnf,?_⟩;conv=>rhs;whnf
|exact trivial)
  . have hb:zEO d=false:=by simpa using (by assumption:(!zEO d)=true)
    rw [hR,hb];rfl
  have hb:zEO d=true:=by simpa using (by assumption:(!zEO d)=false)
  rw [hb,Bool.true_and] at hR
  clear hb hn
  refine za (fun j st => ∃ i,i+j=(d.f 4).l.length/\R=(zAM (fun x=>nameB x.s) (d.f 4).l j i&&zAM (everyL k) (d.f 3).l (d.f 3).l.length 0)/\Sub (cx EN Tryz.prog s w he) st (HWkU d i)) (d.f 4).l.length ⟨0,by omega,hR,Sub.live ⟨rfl,rfl,rfl,trivial⟩ ⟨rfl,trivial⟩⟩ ?_
  clear hR
  rintro j st ⟨i,hij,hR,hs2⟩
  refine zi hs2 ?_
  clear hs2
  by_cases hi:i<(d.f 4).l.length
  . obtain ⟨j,rfl⟩ : ∃ q,j=q+1:=⟨j-1,by omega⟩
    have f1:decide ((i:Int)<((d.f 4).l.length:Nat))=true:=decide_eq_true (by omega)
    have hR':R=(nameB (gD (d.f 4).l i).s&&zAM (fun x=>nameB x.s) (d.f 4).l j (i+1)&&zAM (everyL k) (d.f 3).l (d.f 3).l.length 0):=hR
    clear hR
    have hn1:=hname i hi
    repeat' (first
|apply zG
 . conv=>lhs;whnf
 . assumption
|refine zA ?_
|refine zB ?_
|refine zK ?_
|refine zP ?_
|apply aw_1
 conv=>whnf
 refine ⟨?_,trivial⟩
|apply s_1
 conv=>whnf;arg 1;arg 4;arg 3;whnf
 refine ⟨?_,?_⟩
|apply zU rfl
 . conv=>lhs;whnf
 . conv=>lhs;whnf
 . first | rfl | assumption
 . conv=>lhs;whnf
 . first | exact hn1
|refine zZ (by conv=>lhs;whnf) ?_ ?_<;>intro hb
|refine zM ?_
|refine zO ?_
|refine zh ?_
|refine zE ?_
|refine ⟨_,by conv=>lhs;whnf;arg 2;whnf,?_⟩;conv=>rhs;whnf
|exact trivial)
    all_goals first
     |exact zS (by omega)
     |exact zu hi
     |(have e:nameB (gD (d.f 4).l i).s=false:=by simpa using (by assumption:(!nameB (gD (d.f 4).l i).s)=true)
       rw [hR',e];rfl)
     |(have e:nameB (gD (d.f 4).l i).s=true:=by simpa using (by assumption:(!nameB (gD (d.f 4).l i).s)=false)
       exact zH (j':=j) (by omega) ⟨i+1,by omega,by rw [hR',e,Bool.true_and],Sub.live ⟨rfl,rfl,rfl,trivial⟩ ⟨rfl,trivial⟩⟩)
     |skip
  . obtain rfl:j=0:=by omega
    have f1:decide ((i:Int)<((d.f 4).l.length:Nat))=false:=decide_eq_false (by omega)
    have hR2:R=zAM (everyL k) (d.f 3).l (d.f 3).l.length 0:=by rw [hR,zAM,Bool.true_and]
    clear hR
    repeat' (first
|apply zD
 . conv=>lhs;whnf
 . assumption
|refine zA ?_
|refine zB ?_
|refine zK ?_
|apply aw_1
 conv=>whnf
 refine ⟨?_,trivial⟩
|apply s_1
 conv=>whnf;arg 1;arg 4;arg 3;whnf
 refine ⟨?_,?_⟩
|refine zL ?_
|refine zJ rfl ?_
|refine zI ?_
|exact trivial)
    refine za (fun j st => ∃ i,i+j=(d.f 3).l.length/\R=zAM (everyL k) (d.f 3).l j i/\Sub (cx EN Tryz.prog s w he) st (HWiU d i)) (d.f 3).l.length ⟨0,by omega,hR2,Sub.live ⟨rfl,rfl,rfl,trivial⟩ ⟨rfl,trivial⟩⟩ ?_
    clear hR2
    rintro j2 st2 ⟨i2,hij2,hR,hs2⟩
    refine zi hs2 ?_
    clear hs2
    by_cases hi2:i2<(d.f 3).l.length
    . obtain ⟨j2,rfl⟩ : ∃ q,j2=q+1:=⟨j2-1,by omega⟩
      have f2:decide ((i2:Int)<((d.f 3).l.length:Nat))=true:=decide_eq_true (by omega)
      have hR':R=(everyL k (gD (d.f 3).l i2)&&zAM (everyL k) (d.f 3).l j2 (i2+1)):=hR
      have ih2:=ih i2 hi2
      repeat' (first
|apply zG
 . conv=>lhs;whnf
 . assumption
|refine zA ?_
|refine zB ?_
|refine zK ?_
|refine zP ?_
|apply aw_1
 conv=>whnf
 refine ⟨?_,trivial⟩
|apply s_1
 conv=>whnf;arg 1;arg 4;arg 3;whnf
 refine ⟨?_,?_⟩
|apply zb rfl
 . conv=>lhs;whnf
 . conv=>lhs;whnf
 . first | exact ih2
|refine zZ (by conv=>lhs;whnf) ?_ ?_<;>intro hb
|refine zM ?_
|refine zO ?_
|refine zh ?_
|refine zE ?_
|refine ⟨_,by conv=>lhs;whnf;arg 2;whnf,?_⟩;conv=>rhs;whnf
|exact trivial)
      all_goals first
       |exact zS (by omega)
       |exact zu hi2
       |(have e:everyL k (gD (d.f 3).l i2)=false:=by simpa using (by assumption:(!everyL k (gD (d.f 3).l i2))=true)
         rw [hR',e];rfl)
       |(have e:everyL k (gD (d.f 3).l i2)=true:=by simpa using (by assumption:(!everyL k (gD (d.f 3).l i2))=false)
         exact zH (j':=j2) (by omega) ⟨i2+1,by omega,by rw [hR',e,Bool.true_and],Sub.live ⟨rfl,rfl,rfl,trivial⟩ ⟨rfl,trivial⟩⟩)
       |skip
    . obtain rfl:j2=0:=by omega
      have f2:decide ((i2:Int)<((d.f 3).l.length:Nat))=false:=decide_eq_false (by omega)
      repeat' (first
|apply zD
 . conv=>lhs;whnf
 . assumption
|refine zA ?_
|refine zB ?_
|refine zK ?_
|apply aw_1
 conv=>whnf
 refine ⟨?_,trivial⟩
|apply s_1
 conv=>whnf;arg 1;arg 4;arg 3;whnf
 refine ⟨?_,?_⟩
|refine zL ?_
|refine zJ rfl ?_
|refine zI ?_
|refine zE ?_
|refine ⟨_,by conv=>lhs;whnf;arg 2;whnf,?_⟩;conv=>rhs;whnf
|exact trivial)
      rw [hR];rfl
theorem zKw (d:D):AC EN Tryz.prog 135 [.agg (cellsV Tryz.prog 12 53 d)] (.c (.bool (litW d))):=by
 have h:=zBP (bulkD d) d (Nat.le_refl _)
 have h1:=zID _ d h
 have h2:=zGn _ d h
 have h3:=zGB _ d h
 unfold litW
 refine zN 15 Tryz.func135 rfl rfl rfl rfl ?_
 intro s w he
 repeat' (first
|refine zA ?_
|refine zB ?_
|refine zK ?_
|apply aw_1
 conv=>whnf
 refine ⟨?_,trivial⟩
|apply zT rfl rfl
 . conv=>lhs;whnf
 . conv=>lhs;whnf
 . first | exact bT1 ‹_› | exact bT2 ‹_›
|apply zQ rfl rfl
 . conv=>lhs;whnf
 . conv=>lhs;whnf
 . first | exact bF1 ‹_› | exact bF2 ‹_›
|apply s_1
 conv=>whnf;arg 1;arg 4;arg 3;whnf
 refine ⟨?_,?_⟩
|apply zb rfl
 . conv=>lhs;whnf
 . conv=>lhs;whnf
 . first | exact h1 | exact h2 | exact h3
|apply zAA rfl rfl rfl rfl
 . conv=>lhs;whnf;arg 1;whnf
 . rfl
|apply zF rfl
 . conv=>lhs;whnf
 . conv=>lhs;whnf
 . first | rfl | assumption
 . conv=>lhs;whnf;arg 2;whnf
|apply zU rfl
 . conv=>lhs;whnf
 . conv=>lhs;whnf
 . first | rfl | assumption
 . conv=>lhs;whnf
 . first | exact h1 | exact h2 | exact h3
|apply zX rfl
 . conv=>lhs;whnf
 . conv=>lhs;whnf
 . first | rfl | assumption
|apply zC rfl
 . conv=>lhs;whnf
 . conv=>lhs;whnf
 . conv=>lhs;whnf;arg 2;whnf
|refine zE ?_
|refine ⟨_,by conv=>lhs;whnf;arg 2;whnf,?_⟩;conv=>rhs;whnf
|exact trivial
|intro hg)
 all_goals
  clear h1 h2 h3 he
  refine congrArg (fun b=>V.c (.bool b)) ?_
  simp_all
  try (intros;omega)
end
end Go.Proofs.YthppafnlnnpciaaGreatDoor
