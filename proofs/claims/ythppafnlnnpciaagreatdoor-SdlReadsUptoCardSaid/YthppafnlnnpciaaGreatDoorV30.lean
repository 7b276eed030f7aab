import Derived.Test.YthppafnlnnpciaaGreatDoorProg
import Derived.KernelRfl
import Derived.Test.YthppafnlnnpciaaGreatDoorV29
set_option maxHeartbeats 8000000
set_option maxRecDepth 100000
set_option linter.unusedVariables false
set_option linter.unusedSimpArgs false
namespace Go.Proofs.YthppafnlnnpciaaGreatDoor
section
open Go.RowKit
attribute [local irreducible] wpList Calls Code.wp AW AWo OpOk seqK zq zt loopK endK AC zg Yld Sub
def goodV:Nat->D->Prop
 |0,_=>True
 |k+1,d=>((d.f 0).n=1->(d.f 1).n=0\/(d.f 1).n=1) /\ ∀ i,i<(d.f 3).l.length->goodV k (gD (d.f 3).l i)
structure ArgsOk (k:Nat) (l:List D):Prop where
 wide : ∀ i,wideD (gD l i)
 bulk:bulkL l<=1048576
 dp : ∀ i,i<l.length->Dp k ((gD l i).f 1)
 good : ∀ i,i<l.length->goodV k ((gD l i).f 1)
structure DirsOk (k:Nat) (l:List D):Prop where
 wide : ∀ i,wideD (gD l i)
 bulk:bulkL l<=1048576
 args : ∀ i,i<l.length->ArgsOk k ((gD l i).f 1).l
theorem zHX (l:List D):l.length<=bulkL l:=by
 induction l with
 |nil=>exact Nat.zero_le _
 |cons x r ih=>have:=zAY x;simp only [List.length_cons,bulkL];omega
theorem ArgsOk.val {k:Nat} {l:List D} (h:ArgsOk k l) {i:Nat} (hi:i<l.length):bulkD ((gD l i).f 1)<=1048576:=by
 have:=zAP hi
 have:=wD_f (gD l i) 1
 have:=zl ((gD l i).f 1)
 have:=zl (gD l i)
 have:=h.bulk
 omega
theorem ArgsOk.name {k:Nat} {l:List D} (h:ArgsOk k l) {i:Nat} (hi:i<l.length):((gD l i).f 0).s.size<=1048576:=by
 have:=zAP hi
 have:=wD_f (gD l i) 0
 have:=zAN ((gD l i).f 0)
 have:=zl (gD l i)
 have:=h.bulk
 omega
theorem ArgsOk.text {k:Nat} {l:List D} (h:ArgsOk k l) {i:Nat} (hi:i<l.length):(valT k ((gD l i).f 1)).length<=26000000:=by
 have:=h.val hi
 have:=zDf k ((gD l i).f 1) ((h.wide i).f 1)
 omega
theorem DirsOk.name {k:Nat} {l:List D} (h:DirsOk k l) {i:Nat} (hi:i<l.length):((gD l i).f 0).s.size<=1048576:=by
 have:=zAP hi
 have:=wD_f (gD l i) 0
 have:=zAN ((gD l i).f 0)
 have:=zl (gD l i)
 have:=h.bulk
 omega
theorem DirsOk.par {k:Nat} {l:List D} (h:DirsOk k l) {i:Nat} (hi:i<l.length):(argsT k ((gD l i).f 1).l).length<=30000000:=by
 have:=argsT_len k ((gD l i).f 1).l (h.args i hi).wide
 have:=(h.args i hi).bulk
 omega
theorem ArgsOk.len {k:Nat} {l:List D} (h:ArgsOk k l):l.length<=1048576:=Nat.le_trans (zHX l) h.bulk
theorem DirsOk.len {k:Nat} {l:List D} (h:DirsOk k l):l.length<=1048576:=Nat.le_trans (zHX l) h.bulk
theorem zGV (x:D):AC EN Tryz.prog 143 [.agg (cellsV Tryz.prog 12 48 x)] (.c (.bool (decide (0<(x.f 1).l.length)&&((gD (x.f 1).l 0).n==1)))):=by
 refine zN 14 Tryz.func143 rfl rfl rfl rfl ?_
 intro s w he
 repeat' (first
|refine zA ?_
|refine zB ?_
|refine zK ?_
|refine zP ?_
|refine zHZ ?_
|apply aw_1
 conv=>whnf
 refine ⟨?_,trivial⟩
|apply zT rfl rfl
 . conv=>lhs;whnf
 . conv=>lhs;whnf
 . first | exact bT1 ‹_› | exact bT2 ‹_›
|apply zQ rfl rfl
 . conv=>lhs;whnf
 . conv=>lhs;whnf
 . first | exact bF1 ‹_› | exact bF2 ‹_›
|apply s_1
 conv=>whnf;arg 1;arg 4;arg 3;whnf
 refine ⟨?_,?_⟩
|apply zJZ rfl
 . conv=>lhs;whnf
 . conv=>lhs;whnf;arg 2;whnf
|apply zAA rfl rfl rfl rfl
 . conv=>lhs;whnf;arg 1;whnf
 . rfl
|apply zF rfl
 . conv=>lhs;whnf
 . conv=>lhs;whnf
 . first | rfl | assumption
 . conv=>lhs;whnf;arg 2;whnf
|apply zU rfl
 . conv=>lhs;whnf
 . conv=>lhs;whnf
 . first | rfl | assumption
 . conv=>lhs;whnf
 . first | fail
|apply s_skip rfl
 . conv=>lhs;whnf
 . conv=>lhs;whnf
 . first | rfl | assumption
|apply zJa rfl
 . conv=>lhs;whnf
 . conv=>lhs;whnf
 . conv=>lhs;whnf;arg 2;whnf
|apply zIL rfl
 . conv=>lhs;whnf
 . conv=>lhs;whnf
 . conv=>lhs;whnf
 . first | fail
|apply zD2
 . conv=>lhs;whnf;arg 1;arg 1;whnf
|apply zD3
 . conv=>lhs;whnf;arg 1;arg 1;whnf
|refine zZ (by conv=>lhs;whnf) ?_ ?_<;>intro hb
|refine zJK ?_
|refine zFt ?_
|refine zL ?_
|refine zM ?_
|refine zO ?_
|refine zJ rfl ?_
|refine zBp rfl ?_
|refine zBo ?_
|refine zCL ?_
|refine zI ?_
|refine zh ?_
|refine k_end ?_
|refine zE ?_
|refine ⟨_,by conv=>lhs;whnf;arg 2;whnf,?_⟩;conv=>rhs;whnf
|exact trivial
|intro hg)
 . have hg:=bT1 hg
   simp at hg
   simp [hg]
 . have hg:=bT1 hg
   simpa using hg
 . have hg:=bF1 hg
   simp at hg
   simp [hg]
theorem cut_ac (x:D) (h0:0<(x.f 1).l.length) (h1:(x.f 1).l.length<=2000000):AC EN Tryz.prog 144 [.agg (cellsV Tryz.prog 12 48 x)] (.agg (cellsV Tryz.prog 12 48 (.obj [x.f 0,.list ((x.f 1).l.drop 1)]))):=by
 refine zN 11 Tryz.func144 rfl rfl rfl rfl ?_
 intro s w he
 repeat' (first
|refine zA ?_
|refine zB ?_
|refine zK ?_
|refine zP ?_
|refine zHZ ?_
|apply aw_1
 conv=>whnf
 refine ⟨?_,trivial⟩
|apply s_1
 conv=>whnf;arg 1;arg 4;arg 3;whnf
 refine ⟨?_,?_⟩
|apply zJZ rfl
 . conv=>lhs;whnf
 . conv=>lhs;whnf;arg 2;whnf
|apply zAA rfl rfl rfl rfl
 . conv=>lhs;whnf;arg 1;whnf
 . rfl
|apply s_alloc rfl rfl rfl rfl
 . conv=>lhs;whnf;arg 1;whnf
 . rfl
|apply zV rfl rfl rfl
 . conv=>lhs;whnf
 . conv=>lhs;whnf;arg 1;whnf
 . conv=>lhs;whnf;arg 1;whnf
 . exact ⟨by kernel_rfl,by kernel_rfl⟩
 . rfl
|apply zEW rfl rfl
 . conv=>lhs;whnf
 . first | exact zCP | (conv=>lhs;whnf;arg 1;whnf)
 . first | exact fun _=>rfl | (intro _;kernel_rfl)
 . conv=>lhs;whnf
 . conv=>lhs;whnf;arg 1;whnf
 . conv=>lhs;whnf
|apply s_app_nil rfl rfl rfl rfl
 . first | exact zCP | (conv=>lhs;whnf;arg 1;whnf)
 . first | exact fun _=>rfl | (intro _;kernel_rfl)
 . conv=>lhs;whnf
 . conv=>lhs;whnf
|apply s_lit0 rfl rfl
 . conv=>lhs;whnf
 . first | exact zCP | (conv=>lhs;whnf;arg 1;whnf)
|apply zKb rfl rfl
 . conv=>lhs;whnf
 . first | exact zCP | (conv=>lhs;whnf;arg 1;whnf)
 . conv=>lhs;whnf;arg 1;whnf
 . rfl
 . rfl
|apply s_onlit rfl rfl
 . conv=>lhs;whnf
 . first | exact zCP | (conv=>lhs;whnf;arg 1;whnf)
 . first | exact fun _=>rfl | (intro _;kernel_rfl)
 . conv=>lhs;whnf
 . conv=>lhs;whnf
|apply zAC (by kernel_rfl) (by kernel_rfl)
|apply zAs
|apply zAr rfl
 . conv=>lhs;whnf
 . conv=>lhs;whnf;arg 2;whnf
|apply y_store rfl rfl rfl
 . conv=>lhs;whnf
 . rfl
 . rfl
 . conv=>lhs;whnf;arg 1;whnf
 . conv=>lhs;whnf;arg 1;whnf
 . exact ⟨by kernel_rfl,by kernel_rfl⟩
 . rfl
|apply y_app rfl rfl
 . conv=>lhs;whnf
 . first | exact zCP | (conv=>lhs;whnf;arg 1;whnf)
 . first | exact fun _=>rfl | (intro _;kernel_rfl)
 . conv=>lhs;whnf
 . rfl
 . rfl
 . conv=>lhs;whnf;arg 1;whnf
 . conv=>lhs;whnf
|apply y_lit0 rfl rfl
 . conv=>lhs;whnf
 . first | exact zCP | (conv=>lhs;whnf;arg 1;whnf)
|apply y_lit1 rfl rfl
 . conv=>lhs;whnf
 . first | exact zCP | (conv=>lhs;whnf;arg 1;whnf)
 . conv=>lhs;whnf;arg 1;whnf
 . rfl
 . rfl
|apply y_onlit rfl rfl
 . conv=>lhs;whnf
 . first | exact zCP | (conv=>lhs;whnf;arg 1;whnf)
 . first | exact fun _=>rfl | (intro _;kernel_rfl)
 . conv=>lhs;whnf
 . conv=>lhs;whnf
|exact zj
|exact zr
|exact all_nil
|show List.all _ _=true;rfl
|show zC0 _ _=true;rfl
|exact ([]:List Nat)
|exact (1000000:Nat)
|apply zD2
 . conv=>lhs;whnf;arg 1;arg 1;whnf
|apply zD3
 . conv=>lhs;whnf;arg 1;arg 1;whnf
|refine zZ (by conv=>lhs;whnf) ?_ ?_<;>intro hb
|refine zJK ?_
|refine zFt ?_
|refine zL ?_
|refine zM ?_
|refine zO ?_
|refine zJ rfl ?_
|refine zBp rfl ?_
|refine zBo ?_
|refine zCL ?_
|refine zI ?_
|refine zh ?_
|refine k_end ?_
|refine zE ?_
|refine ⟨_,by conv=>lhs;whnf;arg 2;whnf,?_⟩;conv=>rhs;whnf
|exact trivial
|intro hg)
 . rfl
 . simp only [List.length_nil,List.length_drop,Nat.zero_add,maxLen];omega
 . simp only [Nat.zero_add];omega
def refB (n:List UInt8):List D->List UInt8
 |[]=>n
 |d::ds=>if d.n==1 then refB n ds++[33] else [91]++refB n ds++[93]
theorem zDV (n:List UInt8) : ∀ l,(refB n l).length<=n.length+2*l.length
 |[]=>by simp [refB]
 |d::ds=>by
  have:=zDV n ds
  unfold refB
  split<;>simp<;>omega
theorem refR_ac (n:List UInt8) (hn:n.length<=2000000) : ∀ (l:List D),l.length<=2000000->AC EN Tryz.prog 88 [.agg [.c (.string (bs n)),.sl 3 l]] (.c (.string (bs (refB n l))))
 |[],_=>by
  refine zN 20 Tryz.func88 rfl rfl rfl rfl ?_
  intro s w he
  have h1:AC EN Tryz.prog 143 [.agg [.c (.string (bs n)),.sl 3 []]] (.c (.bool false)):=zGV (.obj [.str (bs n),.list []])
  repeat' (first
|refine zA ?_
|refine zB ?_
|refine zK ?_
|refine zP ?_
|refine zHZ ?_
|apply aw_1
 conv=>whnf
 refine ⟨?_,trivial⟩
|apply s_1
 conv=>whnf;arg 1;arg 4;arg 3;whnf
 refine ⟨?_,?_⟩
|apply zJZ rfl
 . conv=>lhs;whnf
 . conv=>lhs;whnf;arg 2;whnf
|apply zb rfl
 . conv=>lhs;whnf
 . conv=>lhs;whnf
 . first | exact h1
|apply zAA rfl rfl rfl rfl
 . conv=>lhs;whnf;arg 1;whnf
 . rfl
|apply zD2
 . conv=>lhs;whnf;arg 1;arg 1;whnf
|apply zD3
 . conv=>lhs;whnf;arg 1;arg 1;whnf
|refine zZ (by conv=>lhs;whnf) ?_ ?_<;>intro hb
|refine zJK ?_
|refine zFt ?_
|refine zL ?_
|refine zM ?_
|refine zO ?_
|refine zJ rfl ?_
|refine zBp rfl ?_
|refine zBo ?_
|refine zCL ?_
|refine zI ?_
|refine zh ?_
|refine k_end ?_
|refine zE ?_
|refine ⟨_,by conv=>lhs;whnf;arg 2;whnf,?_⟩;conv=>rhs;whnf
|exact trivial
|intro hg)
  rfl
 |d::ds,hl=>by
  have ih:=refR_ac n hn ds (by simp at hl;omega)
  have h2:AC EN Tryz.prog 144 [.agg [.c (.string (bs n)),.sl 3 (d::ds)]] (.agg [.c (.string (bs n)),.sl 3 ds]):=cut_ac (.obj [.str (bs n),.list (d::ds)]) (Nat.succ_pos _) hl
  have h1:AC EN Tryz.prog 143 [.agg [.c (.string (bs n)),.sl 3 (d::ds)]] (.c (.bool (d.n==1))):=zGV (.obj [.str (bs n),.list (d::ds)])
  have hlen:=zDV n ds
  simp only [List.length_cons] at hl
  refine zN 20 Tryz.func88 rfl rfl rfl rfl ?_
  intro s w he
  repeat' (first
|refine zA ?_
|refine zB ?_
|refine zK ?_
|refine zP ?_
|refine zHZ ?_
|apply aw_1
 conv=>whnf
 refine ⟨?_,trivial⟩
|apply s_1
 conv=>whnf;arg 1;arg 4;arg 3;whnf
 refine ⟨?_,?_⟩
|apply zJZ rfl
 . conv=>lhs;whnf
 . conv=>lhs;whnf;arg 2;whnf
|apply zb rfl
 . conv=>lhs;whnf
 . conv=>lhs;whnf
 . first | exact h1 | exact h2 | exact ih
|apply zAA rfl rfl rfl rfl
 . conv=>lhs;whnf;arg 1;whnf
 . rfl
|apply zD2
 . conv=>lhs;whnf;arg 1;arg 1;whnf
|apply zD3
 . conv=>lhs;whnf;arg 1;arg 1;whnf
|refine zZ (by conv=>lhs;whnf) ?_ ?_<;>intro hb
|refine zJK ?_
|refine zFt ?_
|refine zL ?_
|refine zM ?_
|refine zO ?_
|refine zJ rfl ?_
|refine zBp rfl ?_
|refine zBo ?_
|refine zCL ?_
|refine zI ?_
|refine zh ?_
|refine k_end ?_
|refine zE ?_
|refine ⟨_,by conv=>lhs;whnf;arg 2;whnf,?_⟩;conv=>rhs;whnf
|exact trivial
|intro hg)
  all_goals first
   |(simp only [lit_bs,zBg,ze,List.length_append,List.length_cons,List.length_nil,maxLen];omega)
   |(simp only [lit_bs,zBg,refB,‹(d.n==1)=_›,if_true,if_false,Bool.false_eq_true,↓reduceIte];done)
   |(exfalso;simp at hb;done)
end
section
structure SelOk (K:Nat) (inner:List D->Prop) (s:D):Prop where
 args:ArgsOk K (s.f 4).l
 dirs:DirsOk K (s.f 5).l
 kind:(s.f 0).n=1\/((s.f 0).n=2/\(s.f 6).l=[])\/((s.f 0).n=3/\(s.f 6).l≠[])
 sub:inner (s.f 6).l
def SelsOk (K:Nat):Nat->List D->Prop
 |0,l=>l=[]
 |f+1,l => ∀ i,i<l.length->SelOk K (SelsOk K f) (gD l i)
def Mz {α:Type} (r:PR α):Prop:=∀ i e,r = .error (i,e)->0<e/\e<=100
section
variable {α β:Type}
theorem Mz.okk (p:α × PS):Mz (.ok p:PR α):=fun i e h=>by cases h
theorem Mz.err {i:Nat} {e:Int} (h:0<e/\e<=100):Mz (.error (i,e):PR α):=fun j e' hj=>by cases hj;exact h
theorem Mz.ite {c:Prop} [Decidable c] {a b:PR α} (h1:c->Mz a) (h2 : ¬ c->Mz b):Mz (if c then a else b):=by
 split
 . exact h1 ‹_›
 . exact h2 ‹_›
theorem Mz.then {r:PR α} {f:α->PS->PR β} (h:Mz r) (hf : ∀ a x,r = .ok (a,x)->Mz (f a x)):Mz (thenQ r f):=by
 cases hr:r with
 |error e =>
  rw [zn (r:=.error e) rfl]
  intro i e' hi
  cases hi
  exact h i e' hr
 |ok p =>
  obtain ⟨a,x⟩:=p
  rw [zY (r:=.ok (a,x)) rfl]
  exact hf a x hr
theorem zDT (s:List UInt8) (x:PS):Mz (takeQ s x):=by
 unfold takeQ
 exact .ite (fun _ => .okk _) fun _ => .err (by decide)
theorem zBu (x:PS):Mz (nameQ x):=by
 unfold nameQ
 exact .ite (fun _ => .okk _) fun _ => .err (by decide)
theorem zLd : ∀ (n:Nat) (w:List Int) (x:PS),Mz (closeQ n w x)
 |0,w,x=>by unfold closeQ;exact .okk _
 |n+1,w,x=>by unfold closeQ;exact .then (zDT _ _) fun _ y _=>zLd n _ y
theorem inner_mz (x:PS):Mz (zA1 x):=.then (zBu _) fun _ y _ => .then (zLd _ _ y) fun _ _ _ => .okk _
theorem typ_mz (x:PS):Mz (typQ x):=.then (inner_mz x) fun _ _ _ => .ite (fun _ => .err (by decide)) fun _ => .okk _
theorem zK4 {v:PS->PR D} (hv : ∀ y,En y->Mz (v y)) (hl : ∀ {y z a},En y->v y = .ok (a,z)->En z/\z.ts.length<y.ts.length) : ∀ (f:Nat) (acc:List D) (x:PS),En x->x.ts.length<f->Mz (itemsQ v f acc x)
 |0,_,_,_,h=>by omega
 |f+1,acc,x,hx,h=>by
  unfold itemsQ
  exact .ite (fun _ => .okk _) fun _ => .then (hv x hx) fun _ y hq=>zK4 hv hl f _ y (hl hx hq).1 (by have:=(hl hx hq).2;omega)
theorem zI3 {v:PS->PR D} (hv : ∀ y,En y->Mz (v y)) (hl : ∀ {y z a},En y->v y = .ok (a,z)->En z/\z.ts.length<y.ts.length) : ∀ (f:Nat) (ks:List (List UInt8)) (acc:List D) (x:PS),En x->x.ts.length<f->Mz (z7 v f ks acc x)
 |0,_,_,_,_,h=>by omega
 |f+1,ks,acc,x,hx,h=>by
  unfold z7
  refine .ite (fun _ => .okk _) fun _ => .then (zBu x) fun k y hn => .ite (fun _ => .err (by decide)) fun _ => .then (zDT _ y) fun u z ht => .then (hv z ?_) fun _ w hw=>zI3 hv hl f _ _ w ?_ ?_
  . exact ((hx.name hn).1.take ht).1
  . exact (hl ((hx.name hn).1.take ht).1 hw).1
  . have h1:=hx.name hn
    have h2:=h1.1.take ht
    have h3:=hl h2.1 hw
    omega
theorem zGx : ∀ (f lv:Nat) (x:PS),En x->lv<=25->26<=f+lv->Mz (valueQ f lv x)
 |0,lv,_,_,h1,h2=>by omega
 |f+1,lv,x,hx,h1,h2=>by
  have hy:En { nxT x with nd:=x.nd+1 }:=hx.nx0
  unfold valueQ
  refine .ite (fun _ => .err (by decide)) fun _ => .ite (fun _ => .err (by decide)) fun hlv => .ite (fun _ => .err (by decide)) fun _ => ?_
  dsimp only
  refine .ite (fun _ => .okk _) fun _ => .ite (fun _ => .okk _) fun _ => .ite (fun _ => .okk _) fun _ => .ite (fun _ => .then (zBu _) fun _ _ _ => .okk _) fun _ => .ite (fun _ => ?_) fun _ => ?_
  . exact .then (zK4 (fun y hy=>zGx f (lv+1) y hy (by omega) (by omega)) (fun hy hq=>hy.valueL hq) _ _ _ hy (Nat.lt_succ_self _)) fun _ _ _ => .okk _
  . exact .then (zI3 (fun y hy=>zGx f (lv+1) y hy (by omega) (by omega)) (fun hy hq=>hy.valueL hq) _ _ _ _ hy (Nat.lt_succ_self _)) fun _ _ _ => .okk _
theorem zKJ (x:PS) (h:En x):Mz (zAT x):=zGx 25 1 _ h (by omega) (by omega)
theorem zLm : ∀ (f:Nat) (acc:List D) (x:PS),En x->x.ts.length<=f->Mz (zEI f acc x)
 |0,_,x,hx,h=>by obtain ⟨t,r,ht⟩:=hx.cons;rw [ht] at h;simp at h
 |f+1,acc,x,hx,h=>by
  unfold zEI
  refine .ite (fun _ => .okk _) fun _ => .ite (fun _ => .err (by decide)) fun _ => .then (zBu x) fun n y hn => .then (zDT _ y) fun u z ht => .then (zKJ z ?_) fun _ w hw=>zLm f _ w ?_ ?_
  . exact ((hx.name hn).1.take ht).1
  . exact (((hx.name hn).1.take ht).1.whole hw).1
  . have h1:=hx.name hn
    have h2:=h1.1.take ht
    have h3:=h2.1.whole hw
    omega
theorem args_mz (x:PS) (h:En x):Mz (argsQ x):=.ite (fun hs=>zLm _ _ _ h.nx0 (by have:=(h.sg hs).2;omega)) fun _ => .okk _
theorem zLS : ∀ (f:Nat) (acc:List D) (x:PS),En x->x.ts.length<f->Mz (dirsF f acc x)
 |0,_,_,_,h=>by omega
 |f+1,acc,x,hx,h=>by
  unfold dirsF
  refine .ite (fun hs => .ite (fun _ => .err (by decide)) fun _ => .then (zBu _) fun n y hn => .then (args_mz y ?_) fun _ z hz=>zLS f _ z ?_ ?_) fun _ => .okk _
  . exact (hx.nx0.name hn).1
  . exact ((hx.nx0.name hn).1.args hz).1
  . have h1:=hx.sg hs
    have h2:=h1.1.name hn
    have h3:=h2.1.args hz
    omega
theorem zHn (x:PS) (h:En x):Mz (dirsQ x):=zLS _ _ _ h (Nat.lt_succ_self _)
end
end
section
open Go.RowKit
attribute [local irreducible] wpList Calls Code.wp AW AWo OpOk seqK zq zt loopK endK AC zg Yld Sub
theorem wrd_iff (c:UInt8):wrdU c=true ↔ (97<=c.toNat/\c.toNat<=122)\/(65<=c.toNat/\c.toNat<=90)\/c.toNat=95\/(48<=c.toNat/\c.toNat<=57):=by
 have:c=95 ↔ c.toNat=95:=⟨fun h=>by rw [h];rfl,fun h=>UInt8.toNat_inj.1 h⟩
 unfold wrdU letU digU
 simp only [Bool.or_eq_true,decide_eq_true_eq,beq_iff_eq,this]
 omega
theorem zB2 (c:UInt8):AC EN5 Tryz.prog 112 [.c (.int .i32 (c.toNat:Int))] (.c (.bool (wrdU c))):=by
 refine zN 29 Tryz.func112 rfl rfl rfl rfl ?_
 intro s w he
 repeat' (first
|apply zAK rfl rfl rfl
 . conv=>lhs;whnf
 . first | rfl | assumption
 . conv=>lhs;whnf
 . first | exact bT1 ‹_› | exact bT2 ‹_› | rfl
|apply zAH rfl rfl rfl
 . conv=>lhs;whnf
 . first | rfl | assumption
 . conv=>lhs;whnf
 . first | exact bF1 ‹_› | exact bF2 ‹_› | rfl
|refine zA ?_
|refine zB ?_
|refine zK ?_
|apply aw_1
 conv=>whnf
 refine ⟨?_,trivial⟩
|apply zT rfl rfl
 . conv=>lhs;whnf
 . conv=>lhs;whnf
 . first | exact bT1 ‹_› | exact bT2 ‹_›
|apply zQ rfl rfl
 . conv=>lhs;whnf
 . conv=>lhs;whnf
 . first | exact bF1 ‹_› | exact bF2 ‹_›
|apply s_1
 conv=>whnf;arg 1;arg 4;arg 3;whnf
 refine ⟨?_,?_⟩
|apply zF rfl
 . conv=>lhs;whnf
 . conv=>lhs;whnf
 . first | rfl | assumption
 . conv=>lhs;whnf;arg 2;whnf
|apply zX rfl
 . conv=>lhs;whnf
 . conv=>lhs;whnf
 . first | rfl | assumption
|apply zC rfl
 . conv=>lhs;whnf
 . conv=>lhs;whnf
 . conv=>lhs;whnf;arg 2;whnf
|refine zE ?_
|refine ⟨_,by conv=>lhs;whnf;arg 2;whnf,?_⟩;conv=>rhs;whnf
|exact trivial
|intro hg)
 all_goals
  refine congrArg (fun b=>V.c (.bool b)) ?_
  rw [Bool.eq_iff_iff,wrd_iff]
  clear he
  simp at *
  omega
theorem zEe {s:List UInt8} {k:Nat} (h:k<s.length):(bs s).data.toList.getD k 0=s[k]:=by
 rw [zAo,List.getD_eq_getElem?_getD,List.getElem?_eq_getElem h];rfl
theorem span_at {p:UInt8->Bool} {s:List UInt8} {k:Nat} (h:k<s.length):spanN p (s.drop k)=if p s[k] then spanN p (s.drop (k+1))+1 else 0:=by
 rw [List.drop_eq_getElem_cons h,spanN]
theorem zAX (c:UInt8):IntKind.i32.min<=((c.toNat:Nat):Int)/\((c.toNat:Nat):Int)<=IntKind.i32.max:=by
 have:=c.toNat_lt
 exact ⟨by show (-2147483648:Int)<=_;omega,by show _<=(2147483647:Int);omega⟩
noncomputable def HSp (s:List UInt8) (i:Nat):Vst 22:=
 stS 22 [(0,.c (.string (bs s))),(1,.c (.int .i64 (i:Int))),(2,.c (.func (.func 112) #[] #[]))] []
theorem zJW (s:List UInt8) (i:Nat) (hi:i<=s.length) (hs:s.length<=1000000):AC EN5 Tryz.prog 111 [.c (.string (bs s)),.c (.int .i64 (i:Int)),.c (.func (.func 112) #[] #[])] (.c (.int .i64 ((i+spanN wrdU (s.drop i):Nat):Int))):=by
 refine zN 22 Tryz.func111 rfl rfl rfl rfl ?_
 intro s0 w he
 repeat' (first
|refine zA ?_
|refine zB ?_
|refine zK ?_
|apply aw_1
 conv=>whnf
 refine ⟨?_,trivial⟩
|apply s_1
 conv=>whnf;arg 1;arg 4;arg 3;whnf
 refine ⟨?_,?_⟩
|exact trivial)
 refine za (fun j st => ∃ k,k+j=s.length/\i+spanN wrdU (s.drop i)=k+spanN wrdU (s.drop k)/\Sub (cx EN5 Tryz.prog s0 w he) st (HSp s k)) (s.length-i) ⟨i,by omega,rfl,?_⟩ ?_
 . exact Sub.live ⟨rfl,rfl,rfl,trivial⟩ trivial
 rintro j st ⟨k,hkj,hI,hs2⟩
 refine zi hs2 ?_
 clear hs2
 rw [hI]
 clear hI
 have hle : ∀ c:UInt8,AC EN5 Tryz.prog 112 [.c (.int .i32 (c.toNat:Int))] (.c (.bool (wrdU c))):=zB2
 repeat' (first
|refine zA ?_
|refine zB ?_
|refine zK ?_
|refine zP ?_
|apply aw_1
 conv=>whnf
 refine ⟨?_,trivial⟩
|apply zT rfl rfl
 . conv=>lhs;whnf
 . conv=>lhs;whnf
 . first | exact bT1 ‹_› | exact bT2 ‹_›
|apply zQ rfl rfl
 . conv=>lhs;whnf
 . conv=>lhs;whnf
 . first | exact bF1 ‹_› | exact bF2 ‹_›
|apply s_1
 conv=>whnf;arg 1;arg 4;arg 3;whnf
 refine ⟨?_,?_⟩
|apply zF rfl
 . conv=>lhs;whnf
 . conv=>lhs;whnf
 . first | rfl | assumption
 . conv=>lhs;whnf;arg 2;whnf
|apply zU rfl
 . conv=>lhs;whnf
 . conv=>lhs;whnf
 . first | rfl | assumption
 . conv=>lhs;whnf
 . first | exact hle _
|apply zX rfl
 . conv=>lhs;whnf
 . conv=>lhs;whnf
 . first | rfl | assumption
|apply zC rfl
 . conv=>lhs;whnf
 . conv=>lhs;whnf
 . conv=>lhs;whnf;arg 2;whnf
|refine zZ (by conv=>lhs;whnf) ?_ ?_<;>intro hb
|refine zL ?_
|refine zJ rfl ?_
|refine zI ?_
|refine zE ?_
|refine ⟨_,by conv=>lhs;whnf;arg 2;whnf,?_⟩;conv=>rhs;whnf
|exact trivial
|intro hg)
 . have hk:k<s.length:=by have:=ze s;simp at hg;omega
   have hb:wrdU s[k]=true:=by rw [<- zEe hk];exact hb
   refine zH (j':=j-1) (by omega) ⟨k+1,by omega,by rw [span_at hk,if_pos hb];omega,Sub.live ⟨rfl,rfl,rfl,trivial⟩ trivial⟩
 . exact zS (by omega)
 . have hk:k<s.length:=by have:=ze s;simp at hg;omega
   have hb:wrdU s[k]=false:=by rw [<- zEe hk];exact hb
   rw [span_at hk,if_neg (by rw [hb];decide)];rfl
 . exact zAX _
 . have hk:k<s.length:=by have:=ze s;simp at hg;omega
   exact ⟨by kernel_rfl,by omega,by rw [ze];omega⟩
 . have hk:k=s.length:=by have:=ze s;simp at hg;omega
   rw [hk,List.drop_length];rfl
 . show Tryz.prog.underlying _=_
   kernel_rfl
end
section
open Go.RowKit
attribute [local irreducible] wpList Calls Code.wp AW AWo OpOk seqK zq zt loopK endK AC zg Yld Sub
attribute [local irreducible] ACB ACX ACE absLexG YldG
section
variable {X:Cx} {nn:Nat} {st:Vst nn} {o:Oper} {ops:Array Oper} {l:List Oper} {d:Option Tmp} {KK:Vst nn->Prop}
theorem s_boxw {tR:TypeId} {f:FuncId} {m:Nat} {vs az:List V} {r:V} {cs cs':List V} (hg:o.guard=none) (hd:o.dst=d) (h:act1 X.P st.rs (ev st) o.op = .call f vs) (hv:(m,vs)=(m,vs))
 (hr:st.rs m=some (.box tR cs)) (hcs : ∀ φ,renL φ cs=cs) (hc:ACB X.e X.P f az [.box tR cs] r [.box tR cs']) (hcs' : ∀ φ,renL φ cs'=cs') (haz : ∀ _:Unit,renL (φin [m]) vs=az) (hrr : ∀ φ,renV φ r=r)
 (hK:AWo X ops l ((st.res m (.box tR cs')).put d r) KK):AWo X ops (o::l) st KK:=by
 refine zy hg (zAq [m] h hc (by simp) (haz ()) (by simp [hr,renR,hcs]) ?_)
 have e:([Res.box tR cs'].map (renR (φout [m])))=[Res.box tR cs']:=by simp [renR,hcs']
 rw [e,zCJ,hrr,hd]
 exact hK
theorem zEM {tR:TypeId} {f:FuncId} {m j:Nat} {want b:Bool} {vs az:List V} {r:V} {cs cs':List V} (hg:o.guard=some (j,want)) (hd:o.dst=d) (hb:gval ops st j=some b) (h:act1 X.P st.rs (ev st) o.op = .call f vs) (hv:(m,vs)=(m,vs))
 (hr:st.rs m=some (.box tR cs)) (hcs : ∀ φ,renL φ cs=cs) (hc:ACB X.e X.P f az [.box tR cs] r [.box tR cs']) (hcs' : ∀ φ,renL φ cs'=cs') (haz : ∀ _:Unit,renL (φin [m]) vs=az) (hrr : ∀ φ,renV φ r=r)
 (hK:(b==want)=true->AWo X ops l ((st.res m (.box tR cs')).put d r) KK) (hN:(b==want)=false->AWo X ops l (st.put d (.tup [])) KK):AWo X ops (o::l) st KK:=by
 cases e:b==want
 . exact zX hg hd hb e (hN e)
 . refine zBM hg hb (fun _ => ?_) fun e2=>(e2 (by simpa using e)).elim
   refine zAq [m] h hc (by simp) (haz ()) (by simp [hr,renR,hcs]) ?_
   have e:([Res.box tR cs'].map (renR (φout [m])))=[Res.box tR cs']:=by simp [renR,hcs']
   rw [e,zCJ,hrr,hd]
   exact hK ‹_›
end
def zAF (b:Bool) (c:UInt8):Bool × Bool:=if b then (true,false) else (!(c==34),c==92)
def zBH:Bool->List UInt8->Nat
 |_,[]=>0
 |b,c::r=>if (zAF b c).1 then zBH (zAF b c).2 r+1 else 0
def zJX:Bool->List UInt8->Bool
 |b,[]=>b
 |b,c::r=>if (zAF b c).1 then zJX (zAF b c).2 r else (zAF b c).2
theorem zHS : ∀ l:List UInt8,litN l=if zBH false l<l.length then some (zBH false l+1) else none
 |[]=>by simp [litN]
 |[c]=>by
  unfold litN
  by_cases h:c=34
  . subst h;simp [zBH,zAF]
  . have h2:(c==34)=false:=by simpa using h
    rw [h2]
    simp [zBH,zAF,h2]
 |c::d::r=>by
  have ih1:=zHS r
  have ih2:=zHS (d::r)
  unfold litN
  by_cases h:c=34
  . subst h;simp [zBH,zAF]
  . have h2:(c==34)=false:=by simpa using h
    rw [h2]
    by_cases h3:c=92
    . subst h3
      have e:zBH false (92::d::r)=zBH false r+2:=by
       show (if (zAF false 92).1 then zBH (zAF false 92).2 (d::r)+1 else 0)=_
       simp [zAF,zBH]
      rw [e,ih1]
      simp only [List.length_cons,Bool.false_eq_true,if_false,beq_self_eq_true,if_true]
      by_cases h4:zBH false r<r.length
      . rw [if_pos h4,if_pos (by omega)];rfl
      . rw [if_neg h4,if_neg (by omega)];rfl
    . have h4:(c==92)=false:=by simpa using h3
      have e:zBH false (c::d::r)=zBH false (d::r)+1:=by
       show (if (zAF false c).1 then zBH (zAF false c).2 (d::r)+1 else 0)=_
       simp [zAF,h2,h4]
      rw [e,ih2,h4]
      simp only [List.length_cons,Bool.false_eq_true,if_false]
      by_cases h5:zBH false (d::r)<r.length+1
      . rw [if_pos h5,if_pos (by omega)];rfl
      . rw [if_neg h5,if_neg (by omega)];rfl
theorem zKQ : ∀ (b:Bool) (l:List UInt8),zBH b l<=l.length
 |_,[]=>Nat.le_refl _
 |b,c::r=>by
  have:=zKQ (zAF b c).2 r
  unfold zBH
  split<;>simp<;>omega
theorem zE9 (c:UInt8) (n:Nat) (h:n<256):(((c.toNat:Nat):Int)==(n:Int))=(c==UInt8.ofNat n):=by
 rw [Bool.eq_iff_iff]
 simp only [beq_iff_eq]
 constructor
 . intro h1
   apply UInt8.toNat_inj.1
   rw [UInt8.toNat_ofNat']
   omega
 . intro h1
   rw [h1,UInt8.toNat_ofNat']
   omega
def boxL (b:Bool):Res:=.box 4 [.c (.bool b)]
theorem lit1_acb (c:UInt8) (b:Bool):ACB EN5 Tryz.prog 169 [.c (.int .i32 (c.toNat:Int)),.bx (pn 0) 0] [boxL b] (.c (.bool (zAF b c).1)) [boxL (zAF b c).2]:=by
 have e1:((c.toNat:Int)==92)=(c==92):=zE9 c 92 (by omega)
 have e2:((c.toNat:Int)==34)=(c==34):=zE9 c 34 (by omega)
 cases b
 . have e3:zAF false c=(!((c.toNat:Int)==34),(c.toNat:Int)==92):=by rw [e1,e2];rfl
   rw [e3]
   refine zAe (fn:=Tryz.f169) 9 Tryz.func169 rfl rfl ?_
   intro pas w0 w he hp
   repeat' (first
|refine zA ?_
|refine zB ?_
|refine zK ?_
|apply aw_1
 conv=>whnf
 refine ⟨?_,trivial⟩
|apply s_1
 conv=>whnf;arg 1;arg 4;arg 3;whnf
 refine ⟨?_,?_⟩
|apply zV rfl rfl rfl
 . conv=>lhs;whnf
 . conv=>lhs;whnf;arg 1;whnf
 . conv=>lhs;whnf;arg 1;whnf
 . exact ⟨by kernel_rfl,by kernel_rfl⟩
 . rfl
|refine zCb ⟨?_,?_⟩
|refine ⟨_,by conv=>lhs;whnf;arg 2;whnf,?_⟩;conv=>rhs;whnf
|exact trivial)
   all_goals first | exact ⟨rfl,trivial⟩ | rfl
 . have e3:zAF true c=(true,false):=rfl
   rw [e3]
   refine zAe (fn:=Tryz.f169) 9 Tryz.func169 rfl rfl ?_
   intro pas w0 w he hp
   repeat' (first
|refine zA ?_
|refine zB ?_
|refine zK ?_
|apply aw_1
 conv=>whnf
 refine ⟨?_,trivial⟩
|apply s_1
 conv=>whnf;arg 1;arg 4;arg 3;whnf
 refine ⟨?_,?_⟩
|apply zV rfl rfl rfl
 . conv=>lhs;whnf
 . conv=>lhs;whnf;arg 1;whnf
 . conv=>lhs;whnf;arg 1;whnf
 . exact ⟨by kernel_rfl,by kernel_rfl⟩
 . rfl
|refine zM ?_
|refine zCb ⟨?_,?_⟩
|refine ⟨_,by conv=>lhs;whnf;arg 2;whnf,?_⟩;conv=>rhs;whnf
|exact trivial)
   all_goals first | exact ⟨rfl,trivial⟩ | rfl
noncomputable def HSl (s:List UInt8) (i:Nat) (b:Bool):Vst 22:=
 stS 22 [(0,.c (.string (bs s))),(1,.c (.int .i64 (i:Int))),(2,.clo 169 [.bx (pn 0) 0])] [(pn 0,boxL b)]
theorem zG3 {b:Bool} {s:List UInt8} {k:Nat} (h:k<s.length):zBH b (s.drop k)=(if (zAF b s[k]).1 then zBH (zAF b s[k]).2 (s.drop (k+1))+1 else 0)/\zJX b (s.drop k)=(if (zAF b s[k]).1 then zJX (zAF b s[k]).2 (s.drop (k+1)) else (zAF b s[k]).2):=by
 rw [List.drop_eq_getElem_cons h]
 exact ⟨by rw [zBH],by rw [zJX]⟩
theorem spanl_acb (s:List UInt8) (i:Nat) (hi:i<=s.length) (hs:s.length<=1000000) (b:Bool):ACB EN5 Tryz.prog 111 [.c (.string (bs s)),.c (.int .i64 (i:Int)),.clo 169 [.bx (pn 0) 0]] [boxL b]
 (.c (.int .i64 ((i+zBH b (s.drop i):Nat):Int))) [boxL (zJX b (s.drop i))]:=by
 refine zAe (fn:=Tryz.f111) 22 Tryz.func111 rfl rfl ?_
 intro pas w0 w he hp
 repeat' (first
|refine zA ?_
|refine zB ?_
|refine zK ?_
|apply aw_1
 conv=>whnf
 refine ⟨?_,trivial⟩
|apply s_1
 conv=>whnf;arg 1;arg 4;arg 3;whnf
 refine ⟨?_,?_⟩
|exact trivial)
 refine za (fun j st => ∃ k b',k+j=s.length/\i+zBH b (s.drop i)=k+zBH b' (s.drop k)/\zJX b (s.drop i)=zJX b' (s.drop k)/\Sub ⟨Tryz.prog,pas,w0,w,EN5,he,hp,fun _ _ _=>False,[]⟩ st (HSl s k b')) (s.length-i) ⟨i,b,by omega,rfl,rfl,?_⟩ ?_
 . exact Sub.live ⟨rfl,rfl,rfl,trivial⟩ ⟨rfl,trivial⟩
 rintro j st ⟨k,b',hkj,hI,hS,hs2⟩
 refine zi hs2 ?_
 clear hs2
 rw [hI,hS]
 clear hI hS
 have hle : ∀ c:UInt8,ACB EN5 Tryz.prog 169 [.c (.int .i32 (c.toNat:Int)),.bx (pn 0) 0] [boxL b'] (.c (.bool (zAF b' c).1)) [boxL (zAF b' c).2]:=fun c=>lit1_acb c b'
 have hle2:=hle ((bs s).data.toList.getD ((k:Int)).toNat 0)
 have hin : ∀ h:(decide ((k:Int)<((bs s).size:Nat))==true)=true,∃ hk:k<s.length,(bs s).data.toList.getD ((k:Int)).toNat 0=s[k]:=fun h=>by
  have hz:=ze s
  have hk:k<s.length:=by simp at h;omega
  exact ⟨hk,zEe hk⟩
 have hout : ∀ h:(decide ((k:Int)<((bs s).size:Nat))==true)=false,s.drop k=[]:=fun h=>by
  have hz:=ze s
  have hk:s.length<=k:=by simp at h;omega
  exact List.drop_of_length_le hk
 repeat' (first
|apply zEM (m:=pn 0) rfl
 . conv=>lhs;whnf
 . conv=>lhs;whnf
 . conv=>lhs;whnf
 . rfl
 . conv=>lhs;whnf;arg 1;whnf
 . exact fun _=>rfl
 . first | exact hle2
 . exact fun _=>rfl
 . exact fun _=>rfl
 . exact fun _=>rfl
|refine zA ?_
|refine zB ?_
|refine zK ?_
|refine zP ?_
|apply aw_1
 conv=>whnf
 refine ⟨?_,trivial⟩
|apply zT rfl rfl
 . conv=>lhs;whnf
 . conv=>lhs;whnf
 . first | exact bT1 ‹_› | exact bT2 ‹_›
|apply zQ rfl rfl
 . conv=>lhs;whnf
 . conv=>lhs;whnf
 . first | exact bF1 ‹_› | exact bF2 ‹_›
|apply s_1
 conv=>whnf;arg 1;arg 4;arg 3;whnf
 refine ⟨?_,?_⟩
|apply zF rfl
 . conv=>lhs;whnf
 . conv=>lhs;whnf
 . first | rfl | assumption
 . conv=>lhs;whnf;arg 2;whnf
|apply zX rfl
 . conv=>lhs;whnf
 . conv=>lhs;whnf
 . first | rfl | assumption
|apply zC rfl
 . conv=>lhs;whnf
 . conv=>lhs;whnf
 . conv=>lhs;whnf;arg 2;whnf
|refine zZ (by conv=>lhs;whnf) ?_ ?_<;>intro hb
|refine zL ?_
|refine zJ rfl ?_
|refine zI ?_
|refine zCb ⟨?_,?_⟩
|refine ⟨_,by conv=>lhs;whnf;arg 2;whnf,?_⟩;conv=>rhs;whnf
|exact trivial
|intro hg)
 . obtain ⟨hk,e⟩:=hin hg
   obtain ⟨e1,e2⟩:=zG3 (b:=b') hk
   rw [e] at hb
   rw [if_pos hb] at e1 e2
   refine zH (j':=j-1) (by omega) ⟨k+1,(zAF b' ((bs s).data.toList.getD ((k:Int)).toNat 0)).2,by omega,by rw [e1,e];omega,by rw [e2,e],Sub.live ⟨rfl,rfl,rfl,trivial⟩ ⟨rfl,trivial⟩⟩
 . exact zS (by obtain ⟨hk,e⟩:=hin hg;omega)
 . obtain ⟨hk,e⟩:=hin hg
   obtain ⟨e1,e2⟩:=zG3 (b:=b') hk
   rw [e] at hb
   rw [if_neg (by rw [hb];decide)] at e1
   rw [e1];rfl
 . obtain ⟨hk,e⟩:=hin hg
   obtain ⟨e1,e2⟩:=zG3 (b:=b') hk
   have hb2:=hb
   rw [e] at hb2
   rw [if_neg (by rw [hb2];decide),<- e] at e2
   rw [e2]
   exact ⟨rfl,trivial⟩
 . rename_i h1
   rw [h1] at hg;cases hg
 . exact zAX _
 . obtain ⟨hk,e⟩:=hin hg
   exact ⟨by kernel_rfl,by omega,by rw [ze];omega⟩
 . rw [hout hg];rfl
 . rw [hout hg];exact ⟨rfl,trivial⟩
 . show Tryz.prog.underlying _=_
   kernel_rfl
def litV (s:List UInt8) (i:Nat):Int:=match litN (s.drop (i+1)) with
 |none => -1
 |some n=>((i+1+n:Nat):Int)
theorem lit_V {s:List UInt8} {i:Nat} (hi:i<s.length):litV s i=if (i+1+zBH false (s.drop (i+1)):Nat)<s.length then ((i+1+zBH false (s.drop (i+1))+1:Nat):Int) else -1:=by
 unfold litV
 rw [zHS,List.length_drop]
 by_cases h:zBH false (s.drop (i+1))<s.length-(i+1)
 . rw [if_pos h,if_pos (by omega)];rfl
 . rw [if_neg h,if_neg (by omega)]
theorem zGZ (s:List UInt8) (i:Nat) (hi:i<s.length) (hs:s.length<=1000000):AC EN5 Tryz.prog 114 [.c (.string (bs s)),.c (.int .i64 (i:Int))] (.c (.int .i64 (litV s i))):=by
 have hsp:=spanl_acb s (i+1) (by omega) hs false
 have hle:=zKQ false (s.drop (i+1))
 rw [List.length_drop] at hle
 rw [lit_V hi]
 refine zN 18 Tryz.func114 rfl rfl rfl rfl ?_
 intro s0 w he
 have hz:=ze s
 repeat' (first
|apply s_boxw (m:=5) rfl
 . conv=>lhs;whnf
 . conv=>lhs;whnf
 . rfl
 . conv=>lhs;whnf;arg 1;whnf
 . exact fun _=>rfl
 . first | exact hsp
 . exact fun _=>rfl
 . exact fun _=>rfl
 . exact fun _=>rfl
|refine zA ?_
|refine zB ?_
|refine zK ?_
|apply aw_1
 conv=>whnf
 refine ⟨?_,trivial⟩
|apply s_1
 conv=>whnf;arg 1;arg 4;arg 3;whnf
 refine ⟨?_,?_⟩
|apply zV rfl rfl rfl
 . conv=>lhs;whnf
 . conv=>lhs;whnf;arg 1;whnf
 . conv=>lhs;whnf;arg 1;whnf
 . exact ⟨by kernel_rfl,by kernel_rfl⟩
 . rfl
|refine zZ (by conv=>lhs;whnf) ?_ ?_<;>intro hb
|refine zM ?_
|refine zE ?_
|refine ⟨_,by conv=>lhs;whnf;arg 2;whnf,?_⟩;conv=>rhs;whnf
|exact trivial)
 . rw [if_neg (by simp at hb;omega)]
 . rw [if_pos (by simp at hb;omega)];rfl
 . exact zS (by omega)
 . show Tryz.prog.underlying _=_
   kernel_rfl
 . exact zS (by omega)
end
end Go.Proofs.YthppafnlnnpciaaGreatDoor
