import Derived.Shelf.Strings.Repeat
import Derived.Shelf.Strconv.Escaped
import Derived.Laws.Runes
import Derived.WalkMore
import Derived.Shelf.RegionOpenPlain
import Derived.Test.YthppafnlnnpciaaGreatDoorV28
import Derived.Test.YthppafnlnnpciaaGreatDoorV30
set_option maxHeartbeats 8000000
set_option maxRecDepth 1000000
set_option linter.unusedVariables false
set_option linter.unusedSimpArgs false
namespace Go.Proofs.YthppafnlnnpciaaGreatDoor
section
structure SelOk (K:Nat) (inner:List D->Prop) (s:D):Prop where
 args:ArgsOk K (s.f 4).l
 dirs:DirsOk K (s.f 5).l
 kind:(s.f 0).n=1\/((s.f 0).n=2/\(s.f 6).l=[])\/((s.f 0).n=3/\(s.f 6).l≠[])
 sub:inner (s.f 6).l
def SelsOk (K:Nat):Nat->List D->Prop
 |0,l=>l=[]
 |f+1,l => ∀ i,i<l.length->SelOk K (SelsOk K f) (gD l i)
def Mz {α:Type} (r:PR α):Prop:=∀ i e,r = .error (i,e)->0<e/\e<=100
section
variable {α β:Type}
theorem Mz.okk (p:α × PS):Mz (.ok p:PR α):=fun i e h=>by cases h
theorem Mz.err {i:Nat} {e:Int} (h:0<e/\e<=100):Mz (.error (i,e):PR α):=fun j e' hj=>by cases hj;exact h
theorem Mz.ite {c:Prop} [Decidable c] {a b:PR α} (h1:c->Mz a) (h2 : ¬ c->Mz b):Mz (if c then a else b):=by
 split
 . exact h1 ‹_›
 . exact h2 ‹_›
theorem Mz.then {r:PR α} {f:α->PS->PR β} (h:Mz r) (hf : ∀ a x,r = .ok (a,x)->Mz (f a x)):Mz (thenQ r f):=by
 cases hr:r with
 |error e =>
  rw [zw (r:=.error e) rfl]
  intro i e' hi
  cases hi
  exact h i e' hr
 |ok p =>
  obtain ⟨a,x⟩:=p
  rw [zX (r:=.ok (a,x)) rfl]
  exact hf a x hr
theorem zDT (s:List UInt8) (x:PS):Mz (takeQ s x):=by
 unfold takeQ
 exact .ite (fun _ => .okk _) fun _ => .err (by decide)
theorem zB4 (x:PS):Mz (nameQ x):=by
 unfold nameQ
 exact .ite (fun _ => .okk _) fun _ => .err (by decide)
theorem zKx : ∀ (n:Nat) (w:List Int) (x:PS),Mz (closeQ n w x)
 |0,w,x=>by unfold closeQ;exact .okk _
 |n+1,w,x=>by unfold closeQ;exact .then (zDT _ _) fun _ y _=>zKx n _ y
theorem inner_mz (x:PS):Mz (zA7 x):=.then (zB4 _) fun _ y _ => .then (zKx _ _ y) fun _ _ _ => .okk _
theorem typ_mz (x:PS):Mz (typQ x):=.then (inner_mz x) fun _ _ _ => .ite (fun _ => .err (by decide)) fun _ => .okk _
theorem zKO {v:PS->PR D} (hv : ∀ y,En y->Mz (v y)) (hl : ∀ {y z a},En y->v y = .ok (a,z)->En z/\z.ts.length<y.ts.length) : ∀ (f:Nat) (acc:List D) (x:PS),En x->x.ts.length<f->Mz (itemsQ v f acc x)
 |0,_,_,_,h=>by omega
 |f+1,acc,x,hx,h=>by
  unfold itemsQ
  exact .ite (fun _ => .okk _) fun _ => .then (hv x hx) fun _ y hq=>zKO hv hl f _ y (hl hx hq).1 (by have:=(hl hx hq).2;omega)
theorem zIT {v:PS->PR D} (hv : ∀ y,En y->Mz (v y)) (hl : ∀ {y z a},En y->v y = .ok (a,z)->En z/\z.ts.length<y.ts.length) : ∀ (f:Nat) (ks:List (List UInt8)) (acc:List D) (x:PS),En x->x.ts.length<f->Mz (zAG v f ks acc x)
 |0,_,_,_,_,h=>by omega
 |f+1,ks,acc,x,hx,h=>by
  unfold zAG
  refine .ite (fun _ => .okk _) fun _ => .then (zB4 x) fun k y hn => .ite (fun _ => .err (by decide)) fun _ => .then (zDT _ y) fun u z ht => .then (hv z ?_) fun _ w hw=>zIT hv hl f _ _ w ?_ ?_
  . exact ((hx.name hn).1.take ht).1
  . exact (hl ((hx.name hn).1.take ht).1 hw).1
  . have h1:=hx.name hn
    have h2:=h1.1.take ht
    have h3:=hl h2.1 hw
    omega
theorem zGj : ∀ (f lv:Nat) (x:PS),En x->lv<=25->26<=f+lv->Mz (valueQ f lv x)
 |0,lv,_,_,h1,h2=>by omega
 |f+1,lv,x,hx,h1,h2=>by
  have hy:En { nxT x with nd:=x.nd+1 }:=hx.nx0
  unfold valueQ
  refine .ite (fun _ => .err (by decide)) fun _ => .ite (fun _ => .err (by decide)) fun hlv => .ite (fun _ => .err (by decide)) fun _ => ?_
  dsimp only
  refine .ite (fun _ => .okk _) fun _ => .ite (fun _ => .okk _) fun _ => .ite (fun _ => .okk _) fun _ => .ite (fun _ => .then (zB4 _) fun _ _ _ => .okk _) fun _ => .ite (fun _ => ?_) fun _ => ?_
  . exact .then (zKO (fun y hy=>zGj f (lv+1) y hy (by omega) (by omega)) (fun hy hq=>hy.valueL hq) _ _ _ hy (Nat.lt_succ_self _)) fun _ _ _ => .okk _
  . exact .then (zIT (fun y hy=>zGj f (lv+1) y hy (by omega) (by omega)) (fun hy hq=>hy.valueL hq) _ _ _ _ hy (Nat.lt_succ_self _)) fun _ _ _ => .okk _
theorem zJm (x:PS) (h:En x):Mz (zAd x):=zGj 25 1 _ h (by omega) (by omega)
theorem zK7 : ∀ (f:Nat) (acc:List D) (x:PS),En x->x.ts.length<=f->Mz (zER f acc x)
 |0,_,x,hx,h=>by obtain ⟨t,r,ht⟩:=hx.cons;rw [ht] at h;simp at h
 |f+1,acc,x,hx,h=>by
  unfold zER
  refine .ite (fun _ => .okk _) fun _ => .ite (fun _ => .err (by decide)) fun _ => .then (zB4 x) fun n y hn => .then (zDT _ y) fun u z ht => .then (zJm z ?_) fun _ w hw=>zK7 f _ w ?_ ?_
  . exact ((hx.name hn).1.take ht).1
  . exact (((hx.name hn).1.take ht).1.whole hw).1
  . have h1:=hx.name hn
    have h2:=h1.1.take ht
    have h3:=h2.1.whole hw
    omega
theorem args_mz (x:PS) (h:En x):Mz (argsQ x):=.ite (fun hs=>zK7 _ _ _ h.nx0 (by have:=(h.sg hs).2;omega)) fun _ => .okk _
theorem zKl : ∀ (f:Nat) (acc:List D) (x:PS),En x->x.ts.length<f->Mz (dirsF f acc x)
 |0,_,_,_,h=>by omega
 |f+1,acc,x,hx,h=>by
  unfold dirsF
  refine .ite (fun hs => .ite (fun _ => .err (by decide)) fun _ => .then (zB4 _) fun n y hn => .then (args_mz y ?_) fun _ z hz=>zKl f _ z ?_ ?_) fun _ => .okk _
  . exact (hx.nx0.name hn).1
  . exact ((hx.nx0.name hn).1.args hz).1
  . have h1:=hx.sg hs
    have h2:=h1.1.name hn
    have h3:=h2.1.args hz
    omega
theorem zHP (x:PS) (h:En x):Mz (dirsQ x):=zKl _ _ _ h (Nat.lt_succ_self _)
end
end
section
open Go.RowKit
attribute [local irreducible] wpList Calls Code.wp AW AWo OpOk seqK zz z8 loopK endK AC zl Yld Sub
theorem wrd_iff (c:UInt8):wrdU c=true ↔ (97<=c.toNat/\c.toNat<=122)\/(65<=c.toNat/\c.toNat<=90)\/c.toNat=95\/(48<=c.toNat/\c.toNat<=57):=by
 have:c=95 ↔ c.toNat=95:=⟨fun h=>by rw [h];rfl,fun h=>UInt8.toNat_inj.1 h⟩
 unfold wrdU letU digU
 simp only [Bool.or_eq_true,decide_eq_true_eq,beq_iff_eq,this]
 omega
theorem zCA (c:UInt8):AC EN5 Tryz.prog 112 [.c (.int .i32 (c.toNat:Int))] (.c (.bool (wrdU c))):=by
 refine zN 29 Tryz.func112 rfl rfl rfl rfl ?_
 intro s w he
 repeat' (first
|apply zAj rfl rfl rfl
 . conv=>lhs;whnf
 . first | rfl | assumption
 . conv=>lhs;whnf
 . first | exact bT1 ‹_› | exact bT2 ‹_› | rfl
|apply zAe rfl rfl rfl
 . conv=>lhs;whnf
 . first | rfl | assumption
 . conv=>lhs;whnf
 . first | exact bF1 ‹_› | exact bF2 ‹_› | rfl
|refine zA ?_
|refine zB ?_
|refine zH ?_
|apply aw_1
 conv=>whnf
 refine ⟨?_,trivial⟩
|apply zq rfl rfl
 . conv=>lhs;whnf
 . conv=>lhs;whnf
 . first | exact bT1 ‹_› | exact bT2 ‹_›
|apply za rfl rfl
 . conv=>lhs;whnf
 . conv=>lhs;whnf
 . first | exact bF1 ‹_› | exact bF2 ‹_›
|apply s_1
 conv=>whnf;arg 1;arg 4;arg 3;whnf
 refine ⟨?_,?_⟩
|apply zL rfl
 . conv=>lhs;whnf
 . conv=>lhs;whnf
 . first | rfl | assumption
 . conv=>lhs;whnf;arg 2;whnf
|apply zr rfl
 . conv=>lhs;whnf
 . conv=>lhs;whnf
 . first | rfl | assumption
|apply zF rfl
 . conv=>lhs;whnf
 . conv=>lhs;whnf
 . conv=>lhs;whnf;arg 2;whnf
|refine zE ?_
|refine ⟨_,by conv=>lhs;whnf;arg 2;whnf,?_⟩;conv=>rhs;whnf
|exact trivial
|intro hg)
 all_goals
  refine congrArg (fun b=>V.c (.bool b)) ?_
  rw [Bool.eq_iff_iff,wrd_iff]
  clear he
  simp at *
  omega
theorem zEk {s:List UInt8} {k:Nat} (h:k<s.length):(bs s).data.toList.getD k 0=s[k]:=by
 rw [zAq,List.getD_eq_getElem?_getD,List.getElem?_eq_getElem h];rfl
theorem span_at {p:UInt8->Bool} {s:List UInt8} {k:Nat} (h:k<s.length):spanN p (s.drop k)=if p s[k] then spanN p (s.drop (k+1))+1 else 0:=by
 rw [List.drop_eq_getElem_cons h,spanN]
theorem zAc (c:UInt8):IntKind.i32.min<=((c.toNat:Nat):Int)/\((c.toNat:Nat):Int)<=IntKind.i32.max:=by
 have:=c.toNat_lt
 exact ⟨by show (-2147483648:Int)<=_;omega,by show _<=(2147483647:Int);omega⟩
noncomputable def HSp (s:List UInt8) (i:Nat):Vst 22:=
 stS 22 [(0,.c (.string (bs s))),(1,.c (.int .i64 (i:Int))),(2,.c (.func (.func 112) #[] #[]))] []
theorem zI0 (s:List UInt8) (i:Nat) (hi:i<=s.length) (hs:s.length<=1000000):AC EN5 Tryz.prog 111 [.c (.string (bs s)),.c (.int .i64 (i:Int)),.c (.func (.func 112) #[] #[])] (.c (.int .i64 ((i+spanN wrdU (s.drop i):Nat):Int))):=by
 refine zN 22 Tryz.func111 rfl rfl rfl rfl ?_
 intro s0 w he
 repeat' (first
|refine zA ?_
|refine zB ?_
|refine zH ?_
|apply aw_1
 conv=>whnf
 refine ⟨?_,trivial⟩
|apply s_1
 conv=>whnf;arg 1;arg 4;arg 3;whnf
 refine ⟨?_,?_⟩
|exact trivial)
 refine zi (fun j st => ∃ k,k+j=s.length/\i+spanN wrdU (s.drop i)=k+spanN wrdU (s.drop k)/\Sub (cx EN5 Tryz.prog s0 w he) st (HSp s k)) (s.length-i) ⟨i,by omega,rfl,?_⟩ ?_
 . exact Sub.live ⟨rfl,rfl,rfl,trivial⟩ trivial
 rintro j st ⟨k,hkj,hI,hs2⟩
 refine zg hs2 ?_
 clear hs2
 rw [hI]
 clear hI
 have hle : ∀ c:UInt8,AC EN5 Tryz.prog 112 [.c (.int .i32 (c.toNat:Int))] (.c (.bool (wrdU c))):=zCA
 repeat' (first
|refine zA ?_
|refine zB ?_
|refine zH ?_
|refine zR ?_
|apply aw_1
 conv=>whnf
 refine ⟨?_,trivial⟩
|apply zq rfl rfl
 . conv=>lhs;whnf
 . conv=>lhs;whnf
 . first | exact bT1 ‹_› | exact bT2 ‹_›
|apply za rfl rfl
 . conv=>lhs;whnf
 . conv=>lhs;whnf
 . first | exact bF1 ‹_› | exact bF2 ‹_›
|apply s_1
 conv=>whnf;arg 1;arg 4;arg 3;whnf
 refine ⟨?_,?_⟩
|apply zL rfl
 . conv=>lhs;whnf
 . conv=>lhs;whnf
 . first | rfl | assumption
 . conv=>lhs;whnf;arg 2;whnf
|apply zY rfl
 . conv=>lhs;whnf
 . conv=>lhs;whnf
 . first | rfl | assumption
 . conv=>lhs;whnf
 . first | exact hle _
|apply zr rfl
 . conv=>lhs;whnf
 . conv=>lhs;whnf
 . first | rfl | assumption
|apply zF rfl
 . conv=>lhs;whnf
 . conv=>lhs;whnf
 . conv=>lhs;whnf;arg 2;whnf
|refine zZ (by conv=>lhs;whnf) ?_ ?_<;>intro hb
|refine zM ?_
|refine zK rfl ?_
|refine zJ ?_
|refine zE ?_
|refine ⟨_,by conv=>lhs;whnf;arg 2;whnf,?_⟩;conv=>rhs;whnf
|exact trivial
|intro hg)
 . have hk:k<s.length:=by have:=zW s;simp at hg;omega
   have hb:wrdU s[k]=true:=by rw [<- zEk hk];exact hb
   refine zI (j':=j-1) (by omega) ⟨k+1,by omega,by rw [span_at hk,if_pos hb];omega,Sub.live ⟨rfl,rfl,rfl,trivial⟩ trivial⟩
 . exact zU (by omega)
 . have hk:k<s.length:=by have:=zW s;simp at hg;omega
   have hb:wrdU s[k]=false:=by rw [<- zEk hk];exact hb
   rw [span_at hk,if_neg (by rw [hb];decide)];rfl
 . exact zAc _
 . have hk:k<s.length:=by have:=zW s;simp at hg;omega
   exact ⟨by kernel_rfl,by omega,by rw [zW];omega⟩
 . have hk:k=s.length:=by have:=zW s;simp at hg;omega
   rw [hk,List.drop_length];rfl
 . show Tryz.prog.underlying _=_
   kernel_rfl
end
section
open Go.RowKit
attribute [local irreducible] wpList Calls Code.wp AW AWo OpOk seqK zz z8 loopK endK AC zl Yld Sub
attribute [local irreducible] ACB ACX ACE absLexG YldG
section
variable {X:Cx} {nn:Nat} {st:Vst nn} {o:Oper} {ops:Array Oper} {l:List Oper} {d:Option Tmp} {KK:Vst nn->Prop}
theorem s_boxw {tR:TypeId} {f:FuncId} {m:Nat} {vs az:List V} {r:V} {cs cs':List V} (hg:o.guard=none) (hd:o.dst=d) (h:act1 X.P st.rs (ev st) o.op = .call f vs) (hv:(m,vs)=(m,vs))
 (hr:st.rs m=some (.box tR cs)) (hcs : ∀ φ,renL φ cs=cs) (hc:ACB X.e X.P f az [.box tR cs] r [.box tR cs']) (hcs' : ∀ φ,renL φ cs'=cs') (haz : ∀ _:Unit,renL (φin [m]) vs=az) (hrr : ∀ φ,renV φ r=r)
 (hK:AWo X ops l ((st.res m (.box tR cs')).put d r) KK):AWo X ops (o::l) st KK:=by
 refine zAC hg (zBF [m] h hc (by simp) (haz ()) (by simp [hr,renR,hcs]) ?_)
 have e:([Res.box tR cs'].map (renR (φout [m])))=[Res.box tR cs']:=by simp [renR,hcs']
 rw [e,zB0,hrr,hd]
 exact hK
theorem zHs {tR:TypeId} {f:FuncId} {m j:Nat} {want b:Bool} {vs az:List V} {r:V} {cs cs':List V} (hg:o.guard=some (j,want)) (hd:o.dst=d) (hb:gval ops st j=some b) (h:act1 X.P st.rs (ev st) o.op = .call f vs) (hv:(m,vs)=(m,vs))
 (hr:st.rs m=some (.box tR cs)) (hcs : ∀ φ,renL φ cs=cs) (hc:ACB X.e X.P f az [.box tR cs] r [.box tR cs']) (hcs' : ∀ φ,renL φ cs'=cs') (haz : ∀ _:Unit,renL (φin [m]) vs=az) (hrr : ∀ φ,renV φ r=r)
 (hK:(b==want)=true->AWo X ops l ((st.res m (.box tR cs')).put d r) KK) (hN:(b==want)=false->AWo X ops l (st.put d (.tup [])) KK):AWo X ops (o::l) st KK:=by
 cases e:b==want
 . exact zr hg hd hb e (hN e)
 . refine zBr hg hb (fun _ => ?_) fun e2=>(e2 (by simpa using e)).elim
   refine zBF [m] h hc (by simp) (haz ()) (by simp [hr,renR,hcs]) ?_
   have e:([Res.box tR cs'].map (renR (φout [m])))=[Res.box tR cs']:=by simp [renR,hcs']
   rw [e,zB0,hrr,hd]
   exact hK ‹_›
end
def zAO (b:Bool) (c:UInt8):Bool × Bool:=if b then (true,false) else (!(c==34),c==92)
def zBP:Bool->List UInt8->Nat
 |_,[]=>0
 |b,c::r=>if (zAO b c).1 then zBP (zAO b c).2 r+1 else 0
def zI1:Bool->List UInt8->Bool
 |b,[]=>b
 |b,c::r=>if (zAO b c).1 then zI1 (zAO b c).2 r else (zAO b c).2
theorem zHA : ∀ l:List UInt8,litN l=if zBP false l<l.length then some (zBP false l+1) else none
 |[]=>by simp [litN]
 |[c]=>by
  unfold litN
  by_cases h:c=34
  . subst h;simp [zBP,zAO]
  . have h2:(c==34)=false:=by simpa using h
    rw [h2]
    simp [zBP,zAO,h2]
 |c::d::r=>by
  have ih1:=zHA r
  have ih2:=zHA (d::r)
  unfold litN
  by_cases h:c=34
  . subst h;simp [zBP,zAO]
  . have h2:(c==34)=false:=by simpa using h
    rw [h2]
    by_cases h3:c=92
    . subst h3
      have e:zBP false (92::d::r)=zBP false r+2:=by
       show (if (zAO false 92).1 then zBP (zAO false 92).2 (d::r)+1 else 0)=_
       simp [zAO,zBP]
      rw [e,ih1]
      simp only [List.length_cons,Bool.false_eq_true,if_false,beq_self_eq_true,if_true]
      by_cases h4:zBP false r<r.length
      . rw [if_pos h4,if_pos (by omega)];rfl
      . rw [if_neg h4,if_neg (by omega)];rfl
    . have h4:(c==92)=false:=by simpa using h3
      have e:zBP false (c::d::r)=zBP false (d::r)+1:=by
       show (if (zAO false c).1 then zBP (zAO false c).2 (d::r)+1 else 0)=_
       simp [zAO,h2,h4]
      rw [e,ih2,h4]
      simp only [List.length_cons,Bool.false_eq_true,if_false]
      by_cases h5:zBP false (d::r)<r.length+1
      . rw [if_pos h5,if_pos (by omega)];rfl
      . rw [if_neg h5,if_neg (by omega)];rfl
theorem zJs : ∀ (b:Bool) (l:List UInt8),zBP b l<=l.length
 |_,[]=>Nat.le_refl _
 |b,c::r=>by
  have:=zJs (zAO b c).2 r
  unfold zBP
  split<;>simp<;>omega
theorem zE5 (c:UInt8) (n:Nat) (h:n<256):(((c.toNat:Nat):Int)==(n:Int))=(c==UInt8.ofNat n):=by
 rw [Bool.eq_iff_iff]
 simp only [beq_iff_eq]
 constructor
 . intro h1
   apply UInt8.toNat_inj.1
   rw [UInt8.toNat_ofNat']
   omega
 . intro h1
   rw [h1,UInt8.toNat_ofNat']
   omega
def boxL (b:Bool):Res:=.box 4 [.c (.bool b)]
theorem lit1_acb (c:UInt8) (b:Bool):ACB EN5 Tryz.prog 169 [.c (.int .i32 (c.toNat:Int)),.bx (pn 0) 0] [boxL b] (.c (.bool (zAO b c).1)) [boxL (zAO b c).2]:=by
 have e1:((c.toNat:Int)==92)=(c==92):=zE5 c 92 (by omega)
 have e2:((c.toNat:Int)==34)=(c==34):=zE5 c 34 (by omega)
 cases b
 . have e3:zAO false c=(!((c.toNat:Int)==34),(c.toNat:Int)==92):=by rw [e1,e2];rfl
   rw [e3]
   refine zBX (fn:=Tryz.f169) 9 Tryz.func169 rfl rfl ?_
   intro pas w0 w he hp
   repeat' (first
|refine zA ?_
|refine zB ?_
|refine zH ?_
|apply aw_1
 conv=>whnf
 refine ⟨?_,trivial⟩
|apply s_1
 conv=>whnf;arg 1;arg 4;arg 3;whnf
 refine ⟨?_,?_⟩
|apply zS rfl rfl rfl
 . conv=>lhs;whnf
 . conv=>lhs;whnf;arg 1;whnf
 . conv=>lhs;whnf;arg 1;whnf
 . exact ⟨by kernel_rfl,by kernel_rfl⟩
 . rfl
|refine zEW ⟨?_,?_⟩
|refine ⟨_,by conv=>lhs;whnf;arg 2;whnf,?_⟩;conv=>rhs;whnf
|exact trivial)
   all_goals first | exact ⟨rfl,trivial⟩ | rfl
 . have e3:zAO true c=(true,false):=rfl
   rw [e3]
   refine zBX (fn:=Tryz.f169) 9 Tryz.func169 rfl rfl ?_
   intro pas w0 w he hp
   repeat' (first
|refine zA ?_
|refine zB ?_
|refine zH ?_
|apply aw_1
 conv=>whnf
 refine ⟨?_,trivial⟩
|apply s_1
 conv=>whnf;arg 1;arg 4;arg 3;whnf
 refine ⟨?_,?_⟩
|apply zS rfl rfl rfl
 . conv=>lhs;whnf
 . conv=>lhs;whnf;arg 1;whnf
 . conv=>lhs;whnf;arg 1;whnf
 . exact ⟨by kernel_rfl,by kernel_rfl⟩
 . rfl
|refine zO ?_
|refine zEW ⟨?_,?_⟩
|refine ⟨_,by conv=>lhs;whnf;arg 2;whnf,?_⟩;conv=>rhs;whnf
|exact trivial)
   all_goals first | exact ⟨rfl,trivial⟩ | rfl
noncomputable def HSl (s:List UInt8) (i:Nat) (b:Bool):Vst 22:=
 stS 22 [(0,.c (.string (bs s))),(1,.c (.int .i64 (i:Int))),(2,.clo 169 [.bx (pn 0) 0])] [(pn 0,boxL b)]
theorem zGo {b:Bool} {s:List UInt8} {k:Nat} (h:k<s.length):zBP b (s.drop k)=(if (zAO b s[k]).1 then zBP (zAO b s[k]).2 (s.drop (k+1))+1 else 0)/\zI1 b (s.drop k)=(if (zAO b s[k]).1 then zI1 (zAO b s[k]).2 (s.drop (k+1)) else (zAO b s[k]).2):=by
 rw [List.drop_eq_getElem_cons h]
 exact ⟨by rw [zBP],by rw [zI1]⟩
theorem spanl_acb (s:List UInt8) (i:Nat) (hi:i<=s.length) (hs:s.length<=1000000) (b:Bool):ACB EN5 Tryz.prog 111 [.c (.string (bs s)),.c (.int .i64 (i:Int)),.clo 169 [.bx (pn 0) 0]] [boxL b]
 (.c (.int .i64 ((i+zBP b (s.drop i):Nat):Int))) [boxL (zI1 b (s.drop i))]:=by
 refine zBX (fn:=Tryz.f111) 22 Tryz.func111 rfl rfl ?_
 intro pas w0 w he hp
 repeat' (first
|refine zA ?_
|refine zB ?_
|refine zH ?_
|apply aw_1
 conv=>whnf
 refine ⟨?_,trivial⟩
|apply s_1
 conv=>whnf;arg 1;arg 4;arg 3;whnf
 refine ⟨?_,?_⟩
|exact trivial)
 refine zi (fun j st => ∃ k b',k+j=s.length/\i+zBP b (s.drop i)=k+zBP b' (s.drop k)/\zI1 b (s.drop i)=zI1 b' (s.drop k)/\Sub ⟨Tryz.prog,pas,w0,w,EN5,he,hp,fun _ _ _=>False,[]⟩ st (HSl s k b')) (s.length-i) ⟨i,b,by omega,rfl,rfl,?_⟩ ?_
 . exact Sub.live ⟨rfl,rfl,rfl,trivial⟩ ⟨rfl,trivial⟩
 rintro j st ⟨k,b',hkj,hI,hS,hs2⟩
 refine zg hs2 ?_
 clear hs2
 rw [hI,hS]
 clear hI hS
 have hle : ∀ c:UInt8,ACB EN5 Tryz.prog 169 [.c (.int .i32 (c.toNat:Int)),.bx (pn 0) 0] [boxL b'] (.c (.bool (zAO b' c).1)) [boxL (zAO b' c).2]:=fun c=>lit1_acb c b'
 have hle2:=hle ((bs s).data.toList.getD ((k:Int)).toNat 0)
 have hin : ∀ h:(decide ((k:Int)<((bs s).size:Nat))==true)=true,∃ hk:k<s.length,(bs s).data.toList.getD ((k:Int)).toNat 0=s[k]:=fun h=>by
  have hz:=zW s
  have hk:k<s.length:=by simp at h;omega
  exact ⟨hk,zEk hk⟩
 have hout : ∀ h:(decide ((k:Int)<((bs s).size:Nat))==true)=false,s.drop k=[]:=fun h=>by
  have hz:=zW s
  have hk:s.length<=k:=by simp at h;omega
  exact List.drop_of_length_le hk
 repeat' (first
|apply zHs (m:=pn 0) rfl
 . conv=>lhs;whnf
 . conv=>lhs;whnf
 . conv=>lhs;whnf
 . rfl
 . conv=>lhs;whnf;arg 1;whnf
 . exact fun _=>rfl
 . first | exact hle2
 . exact fun _=>rfl
 . exact fun _=>rfl
 . exact fun _=>rfl
|refine zA ?_
|refine zB ?_
|refine zH ?_
|refine zR ?_
|apply aw_1
 conv=>whnf
 refine ⟨?_,trivial⟩
|apply zq rfl rfl
 . conv=>lhs;whnf
 . conv=>lhs;whnf
 . first | exact bT1 ‹_› | exact bT2 ‹_›
|apply za rfl rfl
 . conv=>lhs;whnf
 . conv=>lhs;whnf
 . first | exact bF1 ‹_› | exact bF2 ‹_›
|apply s_1
 conv=>whnf;arg 1;arg 4;arg 3;whnf
 refine ⟨?_,?_⟩
|apply zL rfl
 . conv=>lhs;whnf
 . conv=>lhs;whnf
 . first | rfl | assumption
 . conv=>lhs;whnf;arg 2;whnf
|apply zr rfl
 . conv=>lhs;whnf
 . conv=>lhs;whnf
 . first | rfl | assumption
|apply zF rfl
 . conv=>lhs;whnf
 . conv=>lhs;whnf
 . conv=>lhs;whnf;arg 2;whnf
|refine zZ (by conv=>lhs;whnf) ?_ ?_<;>intro hb
|refine zM ?_
|refine zK rfl ?_
|refine zJ ?_
|refine zEW ⟨?_,?_⟩
|refine ⟨_,by conv=>lhs;whnf;arg 2;whnf,?_⟩;conv=>rhs;whnf
|exact trivial
|intro hg)
 . obtain ⟨hk,e⟩:=hin hg
   obtain ⟨e1,e2⟩:=zGo (b:=b') hk
   rw [e] at hb
   rw [if_pos hb] at e1 e2
   refine zI (j':=j-1) (by omega) ⟨k+1,(zAO b' ((bs s).data.toList.getD ((k:Int)).toNat 0)).2,by omega,by rw [e1,e];omega,by rw [e2,e],Sub.live ⟨rfl,rfl,rfl,trivial⟩ ⟨rfl,trivial⟩⟩
 . exact zU (by obtain ⟨hk,e⟩:=hin hg;omega)
 . obtain ⟨hk,e⟩:=hin hg
   obtain ⟨e1,e2⟩:=zGo (b:=b') hk
   rw [e] at hb
   rw [if_neg (by rw [hb];decide)] at e1
   rw [e1];rfl
 . obtain ⟨hk,e⟩:=hin hg
   obtain ⟨e1,e2⟩:=zGo (b:=b') hk
   have hb2:=hb
   rw [e] at hb2
   rw [if_neg (by rw [hb2];decide),<- e] at e2
   rw [e2]
   exact ⟨rfl,trivial⟩
 . rename_i h1
   rw [h1] at hg;cases hg
 . exact zAc _
 . obtain ⟨hk,e⟩:=hin hg
   exact ⟨by kernel_rfl,by omega,by rw [zW];omega⟩
 . rw [hout hg];rfl
 . rw [hout hg];exact ⟨rfl,trivial⟩
 . show Tryz.prog.underlying _=_
   kernel_rfl
def litV (s:List UInt8) (i:Nat):Int:=match litN (s.drop (i+1)) with
 |none => -1
 |some n=>((i+1+n:Nat):Int)
theorem lit_V {s:List UInt8} {i:Nat} (hi:i<s.length):litV s i=if (i+1+zBP false (s.drop (i+1)):Nat)<s.length then ((i+1+zBP false (s.drop (i+1))+1:Nat):Int) else -1:=by
 unfold litV
 rw [zHA,List.length_drop]
 by_cases h:zBP false (s.drop (i+1))<s.length-(i+1)
 . rw [if_pos h,if_pos (by omega)];rfl
 . rw [if_neg h,if_neg (by omega)]
theorem zGL (s:List UInt8) (i:Nat) (hi:i<s.length) (hs:s.length<=1000000):AC EN5 Tryz.prog 114 [.c (.string (bs s)),.c (.int .i64 (i:Int))] (.c (.int .i64 (litV s i))):=by
 have hsp:=spanl_acb s (i+1) (by omega) hs false
 have hle:=zJs false (s.drop (i+1))
 rw [List.length_drop] at hle
 rw [lit_V hi]
 refine zN 18 Tryz.func114 rfl rfl rfl rfl ?_
 intro s0 w he
 have hz:=zW s
 repeat' (first
|apply s_boxw (m:=5) rfl
 . conv=>lhs;whnf
 . conv=>lhs;whnf
 . rfl
 . conv=>lhs;whnf;arg 1;whnf
 . exact fun _=>rfl
 . first | exact hsp
 . exact fun _=>rfl
 . exact fun _=>rfl
 . exact fun _=>rfl
|refine zA ?_
|refine zB ?_
|refine zH ?_
|apply aw_1
 conv=>whnf
 refine ⟨?_,trivial⟩
|apply s_1
 conv=>whnf;arg 1;arg 4;arg 3;whnf
 refine ⟨?_,?_⟩
|apply zS rfl rfl rfl
 . conv=>lhs;whnf
 . conv=>lhs;whnf;arg 1;whnf
 . conv=>lhs;whnf;arg 1;whnf
 . exact ⟨by kernel_rfl,by kernel_rfl⟩
 . rfl
|refine zZ (by conv=>lhs;whnf) ?_ ?_<;>intro hb
|refine zO ?_
|refine zE ?_
|refine ⟨_,by conv=>lhs;whnf;arg 2;whnf,?_⟩;conv=>rhs;whnf
|exact trivial)
 . rw [if_neg (by simp at hb;omega)]
 . rw [if_pos (by simp at hb;omega)];rfl
 . exact zU (by omega)
 . show Tryz.prog.underlying _=_
   kernel_rfl
 . exact zU (by omega)
end
section
open Go.Shelf Go.RowKit Go.Lib
variable {P:Program} {ρ:Ren}
theorem zEU {l:List UInt8} {b:UInt8} (h : ∀ c∈l,c.toNat<128) (hb:128<=b.toNat):Lib.indexByte l b = -1:=by
 have:l.contains b=false:=by
  rw [Bool.eq_false_iff]
  intro hc
  have:=h _ (List.contains_iff_mem.1 hc);omega
 have h2:=Lib.contains_iff_indexByte l b
 rw [this] at h2
 have h3 : ¬ (0:Int)<=Lib.indexByte l b:=of_decide_eq_false h2.symm
 have h4:=Lib.indexAny_ge [b] l
 rw [Lib.indexAny_one] at h4
 omega
theorem zBB (L:Lays.n152 P ρ) (mixed:P.follows .mixedOrders=true) (s:ByteArray) (r:Int) (w:World) (h0:128<=r) (h1:r≠65533) (hv:Lib.validRune r=true) (_hs:s.size<1000) (hascii : ∀ (j:Nat) b,s.data.toList[j]? = some b->b.toNat<128) :
 Calls P (ρ.f 152) #[.string s,.int .i32 r] w fun e w'=>e = .returned (.int .i64 (-1))/\(w'=w\/w'=w.drew.drew):=by
 have HA:Aside (∀ (j:Nat) b,s.data.toList[j]? = some b->b.toNat<128):=hascii
 clear hascii
 have t3:=L.t3;have a3:=L.a3;have z3:=L.z3;have v3:=L.v3
 have t4:=L.t4;have a4:=L.a4;have z4:=L.z4;have v4:=L.v4
 have t5:=L.t5;have a5:=L.a5;have z5:=L.z5;have v5:=L.v5
 have t9:=L.t9;have a9:=L.a9;have z9:=L.z9;have v9:=L.v9
 have t21:=L.t21;have a21:=L.a21;have z21:=L.z21;have v21:=L.v21
 have e137 : ∀ args w,(callFunc (ρ.f 137) args).run P w = .ok (.enter (ρ.f 137) args) w:=enters_of L.f137 (by kernel_rfl) rfl
 have e119 : ∀ args w,(callFunc (ρ.f 119) args).run P w = .ok (.enter (ρ.f 119) args) w:=enters_of L.f119 (by kernel_rfl) rfl
 have n1:decide (r<128)=false:=decide_eq_false (by omega)
 have n0:(0:Int)<=r:=by omega
 have n01:decide ((0:Int)<=r)=true:=decide_eq_true n0
 have n3 : ¬ r<128:=by omega
 have n2:(r==65533)=false:=beq_eq_false_iff_ne.2 h1
 have hvu:Utf8.valid r=true:=by rw [validRune_eq];exact hv
 obtain ⟨m1,m2,m3⟩:=encode_facts r hvu h0
 have hconv : ∀ w,(convert (ρ.t 21) (ρ.t 9) (.int .i32 r)).run P w = .ok (.string (Utf8.encode r)) w:=fun w=>run_convert_int_string w _ _ _ _ (by rw [t21];rfl) t9
 generalize Utf8.encode r=rs at hconv m1 m2 m3
 obtain ⟨k,hk⟩ : ∃ k,rs.size=k+1:=⟨rs.size-1,by omega⟩
 have hw1:IntKind.i64.wrap ((rs.size:Int)-1)=(k:Int):=by rw [Go.wrap_small _ (by omega) (by omega)];omega
 go_enter L.f152,Body.n152_ntmps ρ
 go_wp2_with (first
  |(go_at_fn (ρ.f 119);refine (Any.utf8_ValidRune { L with } _ _).mono ?_;rintro e w' ⟨rfl,hw⟩;rw [hw,hv])
  |(go_at_fn (ρ.f 137);refine (Any.strings_IndexByte { L with } _ _ _).mono ?_;rintro e w' ⟨rfl,hw⟩;rw [hw]))
 all_goals (try go_step3)
 all_goals go_wp2_with (first
  |(go_at_fn (ρ.f 137);refine (Any.strings_IndexByte { L with } _ _ _).mono ?_;rintro e w' ⟨rfl,hw⟩;rw [hw]))
 all_goals
  go_loopg [9] 1 (fun _ s9 wx=>s9 = .int .i64 (k:Int)/\wx=w)
  case atStart=>exact ⟨rfl,rfl⟩
  case round =>
   obtain ⟨rfl,rfl⟩:=hrel
   by_cases hi:k<s.size
   . have hiz:(k:Int)<(s.size:Int):=by omega
     obtain ⟨x,hx⟩ : ∃ x:UInt8,s[k]'hi=x:=⟨_,rfl⟩
     have hi2:k<rs.size:=by omega
     obtain ⟨y,hy⟩ : ∃ y:UInt8,rs[k]'hi2=y:=⟨_,rfl⟩
     have hxl:s.data.toList[k]? = some x:=by rw [<- hx];exact Lib.data_getElem? s _ hi
     have hx128:=HA.out _ _ hxl
     have hy128:128<=y.toNat:=by
      have:=m3 (by omega)
      have e:rs.size-1=k:=by omega
      simp only [e] at this
      rw [hy] at this;exact this
     have hkz:(k:Int)<(rs.size:Int):=by omega
     have hsl:(k:Int)+1<=(s.size:Int):=by omega
     have hsl2 : ¬ (s.size:Int)<(k:Int)+1:=by omega
     have hk0 : ¬ (k:Int)+1<0:=by omega
     have hk1:(0:Int)<=(k:Int)+1:=by omega
     have hwr:IntKind.i64.wrap ((k:Int)+1)=(k:Int)+1:=Go.wrap_small _ (by omega) (by omega)
     have hxy:((x.toNat:Int)==(y.toNat:Int))=false:=beq_eq_false_iff_ne.2 (by omega)
     have hidx:Lib.indexByte (List.take (s.size-(k+1)) (List.drop (k+1) s.data.toList)) y = -1:=zEU (fun c hc=>by
      obtain ⟨j,hj⟩:=List.getElem?_of_mem (List.mem_of_mem_drop (List.mem_of_mem_take hc))
      exact HA.out j c hj) hy128
     have hyy:((y.toNat:Int)).toNat.toUInt8=y:=by simp
     have hidx2:Lib.indexByte (s.extract (k+1) s.size).data.toList ((y.toNat:Int)).toNat.toUInt8 = -1:=by
      rw [hyy]
      exact zEU (fun c hc=>by
       obtain ⟨j,hj⟩:=List.getElem?_of_mem (mem_extract hc)
       exact HA.out j c hj) hy128
     go_wp2
     go_step3
     go_wp2
     go_region_o
     go_wp2
     go_region_with_o (go_at_fn (ρ.f 137);refine (Any.strings_IndexByte { L with } _ _ _).mono ?_;rintro e w' ⟨rfl,hw⟩;rw [hw];rw [hidx2])
     go_wp2
     simp only [Exit.noGoto_ret,Exit.then,Exit.inBlock]
     go_ret
     exact ⟨rfl,.inr rfl⟩
   . have hiz : ¬ (k:Int)<(s.size:Int):=by omega
     go_wp2
     go_ret
     exact ⟨rfl,.inl rfl⟩
theorem get_at (s:ByteArray) (k:Nat) (hk:k<s.size):s.get! k=s[k]'hk:=by
 simp [ByteArray.get!,getElem!_pos,hk]
 rfl
theorem zIb (s:ByteArray) (i:Nat) (h:i<s.size) (h2:128<=(s[i]'h).toNat):128<=(Utf8.decode s i).1/\Utf8.valid ((Utf8.decode s i).1:Int)=true/\1<=(Utf8.decode s i).2/\i+(Utf8.decode s i).2<=s.size /\ ∀ j,i<=j->j<i+(Utf8.decode s i).2->128<=(s.get! j).toNat:=by
 have g0:(s.get! (i+0)).toNat=(s[i]'h).toNat:=by rw [Nat.add_zero,get_at s i h]
 have g0':128<=(s.get! i).toNat:=by rw [get_at s i h];exact h2
 have lt : ∀ k,(s.get! k).toNat<256:=fun k=>UInt8.toNat_lt _
 have one : ∀ j,i<=j->j<i+1->128<=(s.get! j).toNat:=fun j h1 h3=>by
  obtain rfl:j=i:=by omega
  exact g0'
 unfold Utf8.decode
 simp only [Nat.add_zero,Bool.and_eq_true,decide_eq_true_eq,beq_iff_eq,ge_iff_le]
 generalize hb0:(s.get! i).toNat=b0 at *
 have l1:=lt (i+1)
 have l2:=lt (i+2)
 have l3:=lt (i+3)
 have ev : ∀ c:Nat,((128<=c/\c<55296)\/(57344<=c/\c<=1114111))->Utf8.valid (c:Int)=true:=fun c hc=>by
  unfold Utf8.valid
  simp
  rcases hc with hc | hc<;>omega
 rw [if_neg (by omega)]
 have cas : ∀ n,(∀ k,1<=k->k<n->128<=(s.get! (i+k)).toNat) -> ∀ j,i<=j->j<i+n->128<=(s.get! j).toNat:=fun n hn j h1 h3=>by
  by_cases e:j=i
  . subst e;rw [hb0];exact g0'
  . have:=hn (j-i) (by omega) (by omega)
    rwa [show i+(j-i)=j by omega] at this
 split
 . rename_i hc
   split
   . exact ⟨by omega,ev _ (by omega),by omega,by omega,cas 2 fun k h1 h3=>by
      obtain rfl:k=1:=by omega
      omega⟩
   . exact ⟨by decide,by decide,by omega,by omega,one⟩
 . split
   . rename_i hc
     split
     . rename_i hv
       refine ⟨by omega,hv.2,by omega,by omega,cas 3 fun k h1 h3 => ?_⟩
       obtain rfl | rfl:k=1\/k=2:=by omega
       all_goals omega
     . exact ⟨by decide,by decide,by omega,by omega,one⟩
   . split
     . rename_i hc
       split
       . rename_i hv
         refine ⟨by omega,hv.2,by omega,by omega,cas 4 fun k h1 h3 => ?_⟩
         obtain rfl | rfl | rfl:k=1\/k=2\/k=3:=by omega
         all_goals omega
       . exact ⟨by decide,by decide,by omega,by omega,one⟩
     . exact ⟨by decide,by decide,by omega,by omega,one⟩
theorem zCY (L:Lays.n152 P ρ) (s:ByteArray) (w:World) (hascii : ∀ (j:Nat) b,s.data.toList[j]? = some b->b.toNat<128) :
 Calls P (ρ.f 152) #[.string s,.int .i32 65533] w fun e w'=>e = .returned (.int .i64 (-1))/\w'=w.iter s s.size:=by
 have HA:Aside (∀ (j:Nat) b,s.data.toList[j]? = some b->b.toNat<128):=hascii
 clear hascii
 have t3:=L.t3;have a3:=L.a3;have z3:=L.z3;have v3:=L.v3
 have t4:=L.t4;have a4:=L.a4;have z4:=L.z4;have v4:=L.v4
 have t5:=L.t5;have a5:=L.a5;have z5:=L.z5;have v5:=L.v5
 have t9:=L.t9;have a9:=L.a9;have z9:=L.z9;have v9:=L.v9
 have t21:=L.t21;have a21:=L.a21;have z21:=L.z21;have v21:=L.v21
 go_enter L.f152,Body.n152_ntmps ρ
 go_wp2
 go_loopg [5,6] s.size (fun g _ _ wx => ∃ i:Nat,i+g=s.size/\wx=w.iter s i)
 case atStart=>exact ⟨0,by omega,rfl⟩
 case round =>
  obtain ⟨i,hig,rfl⟩:=hrel
  cases gk with
  |zero =>
   obtain rfl:i=s.size:=by omega
   have hnx:=run_next_end (P:=P) w s s.size
   go_wp2
   go_ret
   exact ⟨rfl,rfl⟩
  |succ g =>
   have hi:i<s.size:=by omega
   obtain ⟨x,hx⟩ : ∃ x:UInt8,s[i]'hi=x:=⟨_,rfl⟩
   have hxl:s.data.toList[i]? = some x:=by rw [<- hx];exact Lib.data_getElem? s i hi
   have hx128:x.toNat<128:=HA.out i x hxl
   have hnx:=fun ty=>run_next_ascii (P:=P) w s i ty hi (by rw [hx];exact hx128)
   rw [hx] at hnx
   have hne:((x.toNat:Int)==65533)=false:=beq_eq_false_iff_ne.2 (by omega)
   have hne2 : ¬ (x.toNat:Int)=65533:=by omega
   clear hxl hx
   go_wp2
   go_roundg g
   case measure=>omega
   case rel=>exact ⟨i+1,by omega,rfl⟩
theorem zBu (L:Lays.n151 P ρ) (mixed:P.follows .mixedOrders=true) (s:ByteArray) (r:Int) (w:World) (h0:128<=r) (h1:r≠65533) (hv:Lib.validRune r=true) (hs:s.size<1000) (hascii : ∀ (j:Nat) b,s.data.toList[j]? = some b->b.toNat<128) :
 Calls P (ρ.f 151) #[.string s,.int .i32 r] w fun e w'=>e = .returned (.bool false)/\(w'=w\/w'=w.drew.drew):=by
 have t3:=L.t3;have a3:=L.a3;have z3:=L.z3;have v3:=L.v3
 have t4:=L.t4;have a4:=L.a4;have z4:=L.z4;have v4:=L.v4
 have t9:=L.t9;have a9:=L.a9;have z9:=L.z9;have v9:=L.v9
 have t21:=L.t21;have a21:=L.a21;have z21:=L.z21;have v21:=L.v21
 have e152 : ∀ args w,(callFunc (ρ.f 152) args).run P w = .ok (.enter (ρ.f 152) args) w:=enters_of L.f152 (by kernel_rfl) rfl
 have hm:=zBB { L with } mixed s r w h0 h1 hv hs hascii
 clear hascii
 go_enter L.f151,Body.n151_ntmps ρ
 go_wp2_with (go_at_fn (ρ.f 152);refine hm.mono ?_;rintro e w' ⟨rfl,hw⟩)
 go_ret
 exact ⟨rfl,hw⟩
theorem zEX {B:Nat} {a w:World} (h:Go.RowKit.Below B a w) {k:Nat} (hk:B<=k) (s:ByteArray) (p:Nat):Go.RowKit.Below B a (w.iterAt k s p):=
 h.trans ⟨rfl,rfl,rfl,by simp [World.iterAt],fun j hj=>by
  show (w.heap.setIfInBounds k _)[j]? = _
  rw [Array.getElem?_setIfInBounds,if_neg (by omega)]⟩
theorem NoAny.jump {s:ByteArray} {chars:List UInt8} {i n:Nat} (h:Lib.NoAny s.data.toList chars i) (hc : ∀ b∈chars,b.toNat<128) (hn:i+n<=s.size) (hb : ∀ j,i<=j->j<i+n->128<=(s.get! j).toNat):Lib.NoAny s.data.toList chars (i+n):=by
 have : ∀ m,m<=n->Lib.NoAny s.data.toList chars (i+m):=fun m=>by
  induction m with
  |zero=>exact fun _=>h
  |succ m ih =>
   intro hm
   have hlt:i+m<s.size:=by omega
   refine (ih (by omega)).succ (x:=s[i+m]) (Lib.data_getElem? s _ hlt) ?_
   rw [Bool.eq_false_iff]
   intro hx
   have h1:=hc _ (List.contains_iff_mem.1 hx)
   have h2:=hb (i+m) (by omega) (by omega)
   rw [get_at s _ hlt] at h2
   omega
 exact this n (Nat.le_refl _)
theorem zCf (L:Lays.n153 P ρ) (mixed:P.follows .mixedOrders=true) (s chars:ByteArray) (w:World) (h2:2<=chars.size) (hcs:chars.size<1000) (h8:s.size<=8) (hascii : ∀ (j:Nat) b,chars.data.toList[j]? = some b->b.toNat<128) :
 Calls P (ρ.f 153) #[.string s,.string chars] w fun e w'=>e = .returned (.int .i64 (Lib.indexAny s.data.toList chars.data.toList))/\Below w.heap.size w w':=by
 have HA:Aside (∀ b∈chars.data.toList,b.toNat<128):=fun b hb=>by
  obtain ⟨j,hj⟩:=List.getElem?_of_mem hb
  exact hascii j b hj
 have hrune : ∀ (c:Int) (wq:World),128<=c->Lib.validRune c=true->Calls P (ρ.f 152) #[.string chars,.int .i32 c] wq fun e w'=>e = .returned (.int .i64 (-1))/\Below wq.heap.size wq w':=fun c wq h1 hv=>by
  by_cases e:c=65533
  . subst e
    refine (zCY { L with } chars wq hascii).mono ?_
    rintro e w' ⟨rfl,rfl⟩
    exact ⟨rfl,(Below.refl _ _).alloc (Nat.le_refl _) _⟩
  . refine (zBB { L with } mixed chars c wq h1 e hv hcs hascii).mono ?_
    rintro e w' ⟨rfl,rfl | rfl⟩
    . exact ⟨rfl,Below.refl _ _⟩
    . exact ⟨rfl,(Below.refl _ _).drew.drew⟩
 clear hascii
 have hemp:chars.toList.isEmpty=false:=by
  rw [Lib.toList_data]
  cases h:chars.data.toList with
  |nil=>have:=Lib.size_eq chars;rw [h,List.length_nil] at this;omega
  |cons _ _=>rfl
 have hn1:((chars.size:Int)==1)=false:=beq_eq_false_iff_ne.2 (by omega)
 have h8z:decide ((8:Int)<(s.size:Int))=false:=decide_eq_false (by omega)
 have t3:=L.t3;have a3:=L.a3;have z3:=L.z3;have v3:=L.v3
 have t4:=L.t4;have a4:=L.a4;have z4:=L.z4;have v4:=L.v4
 have t5:=L.t5;have a5:=L.a5;have z5:=L.z5;have v5:=L.v5
 have t9:=L.t9;have a9:=L.a9;have z9:=L.z9;have v9:=L.v9
 have t21:=L.t21;have a21:=L.a21;have z21:=L.z21;have v21:=L.v21
 have e152 : ∀ args w,(callFunc (ρ.f 152) args).run P w = .ok (.enter (ρ.f 152) args) w:=enters_of L.f152 (by kernel_rfl) rfl
 have e226 : ∀ args w,(callFunc (ρ.f 226) args).run P w = .ok (.enter (ρ.f 226) args) w:=enters_of L.f226 (by kernel_rfl) rfl
 go_enter L.f153,Body.n153_ntmps ρ
 go_wp2_with (go_at_fn (ρ.f 226);refine (Any.strings_shouldUseASCIISet { L with } _ _).mono ?_;rintro e w' ⟨rfl,hw⟩;rw [hw,h8z])
 go_loopg [9,10] s.size (fun g _ _ wx => ∃ i:Nat,i+g=s.size/\wx.heap[w.heap.size]? = some (.stringIter s i)/\Below w.heap.size w wx/\Lib.NoAny s.data.toList chars.data.toList i)
 case atStart=>exact ⟨0,by omega,World.iter_heap _ _ _,(Below.refl _ _).alloc (Nat.le_refl _) _,Lib.NoAny.zero _ _⟩
 case round =>
  obtain ⟨i,hig,hit,hbl,hno⟩:=hrel
  have HN:Aside (Lib.NoAny s.data.toList chars.data.toList i):=hno
  have HB:Aside (Below w.heap.size w wr):=hbl
  clear hno hbl
  cases gk with
  |zero =>
   obtain rfl:i=s.size:=by omega
   have hnx:=fun ty=>run_next_end_at (P:=P) wr w.heap.size s s.size ty hit (by omega)
   clear hit
   go_wp2
   go_ret
   exact ⟨by rw [Lib.indexAny_none (by rw [<- Lib.size_eq];exact HN.out)];rfl,HB.out⟩
  |succ g =>
   have hi:i<s.size:=by omega
   obtain ⟨x,hx⟩ : ∃ x:UInt8,s[i]'hi=x:=⟨_,rfl⟩
   have hxl:s.data.toList[i]? = some x:=by rw [<- hx];exact Lib.data_getElem? s i hi
   by_cases hx128:x.toNat<128
   . have hnx:=fun ty=>run_next_ascii_at (P:=P) wr w.heap.size s i ty hit hi (by rw [hx];exact hx128)
     have hit2:=iterAt_heap wr w.heap.size s i (i+1) hit
     have HI:Aside ((wr.iterAt w.heap.size s (i+1)).heap[w.heap.size]? = some (.stringIter s (i+1))/\Below w.heap.size w (wr.iterAt w.heap.size s (i+1))):=⟨hit2,zEX HB.out (Nat.le_refl _) _ _⟩
     clear hit2 hit
     rw [hx] at hnx
     have Hx:Aside (s.data.toList[i]? = some x):=hxl
     clear hxl hx
     have hcon:=Lib.contains_iff_indexByte chars.data.toList x
     have hback:((x.toNat:Int)).toNat.toUInt8=x:=by simp
     cases hin:chars.data.toList.contains x
     . rw [hin] at hcon
       have hlt : ¬ ((0:Int)<=Lib.indexByte chars.data.toList x):=of_decide_eq_false hcon.symm
       clear hcon
       go_wp2_with (go_at_fn (ρ.f 152);refine (Any.strings_IndexRune_ascii { L with } _ _ _ (by omega) (by omega)).mono ?_;rintro e w' ⟨rfl,hw⟩;rw [hw,hback])
       go_roundg g
       case measure=>omega
       case rel=>exact ⟨i+1,by omega,HI.out.1,HI.out.2,HN.out.succ Hx.out hin⟩
     . rw [hin] at hcon
       have hge:(0:Int)<=Lib.indexByte chars.data.toList x:=of_decide_eq_true hcon.symm
       clear hcon
       go_wp2_with (go_at_fn (ρ.f 152);refine (Any.strings_IndexRune_ascii { L with } _ _ _ (by omega) (by omega)).mono ?_;rintro e w' ⟨rfl,hw⟩;rw [hw,hback])
       go_ret
       exact ⟨by rw [Lib.indexAny_hit HN.out Hx.out hin];rfl,HI.out.2⟩
   . obtain ⟨d1,d2,d3,d4,d5⟩:=zIb s i hi (by rw [hx];omega)
     have hnx:=fun ty=>run_next_any_at (P:=P) wr w.heap.size s i ty hit hi
     have hj:Lib.NoAny s.data.toList chars.data.toList (i+(Utf8.decode s i).2):=NoAny.jump HN.out HA.out d4 d5
     have hv:Lib.validRune ((Utf8.decode s i).1:Int)=true:=by rw [validRune_eq] at d2;exact d2
     clear d5 d2
     generalize Utf8.decode s i=q at *
     obtain ⟨c,n⟩:=q
     simp only at hnx hj hv d1 d3 d4
     have hit2:=iterAt_heap wr w.heap.size s i (i+n) hit
     have HI:Aside ((wr.iterAt w.heap.size s (i+n)).heap[w.heap.size]? = some (.stringIter s (i+n))/\Below w.heap.size w (wr.iterAt w.heap.size s (i+n))/\w.heap.size<(wr.iterAt w.heap.size s (i+n)).heap.size):=⟨hit2,zEX HB.out (Nat.le_refl _) _ _,(Array.getElem?_eq_some_iff.1 hit2).1⟩
     have HJ:Aside (Lib.NoAny s.data.toList chars.data.toList (i+n)):=hj
     have hc:=hrune c (wr.iterAt w.heap.size s (i+n)) (by omega) hv
     generalize wr.iterAt w.heap.size s (i+n)=wi at *
     clear hit2 hit hxl hx hj hv hrune
     go_wp2_with (go_at_fn (ρ.f 152);refine hc.mono ?_;rintro e w' ⟨rfl,hw⟩)
     go_roundg (s.size-(i+n))
     case measure=>omega
     case rel=>exact ⟨i+n,by omega,by rw [hw.block _ HI.out.2.2];exact HI.out.1,HI.out.2.1.trans (hw.mono (Nat.le_of_lt HI.out.2.2)),HJ.out⟩
theorem zCe (L:Lays.n153 P ρ) (mixed:P.follows .mixedOrders=true) (hv116 : ∀ w,(zeroValue (ρ.t 116)).run P w = .ok (.agg (Array.replicate 256 (.bool false))) w) (hi116:(P.info? (ρ.t 116)).map (·.size)=some 256) (s chars:ByteArray) (w:World) (h2:2<=chars.size) (hcs:chars.size<1000) (hs:s.size<4294967281) (hascii : ∀ (j:Nat) b,chars.data.toList[j]? = some b->b.toNat<128) :
 Calls P (ρ.f 153) #[.string s,.string chars] w fun e w'=>e = .returned (.int .i64 (Lib.indexAny s.data.toList chars.data.toList))/\Below w.heap.size w w':=by
 by_cases h8:s.size<=8
 . exact zCf L mixed s chars w h2 hcs h8 hascii
 . refine (Any.strings_IndexAny_long L hv116 hi116 s chars w h2 (by omega) hs (by omega) hascii).mono ?_
   rintro e w' ⟨rfl,rfl⟩
   exact ⟨rfl,((Below.refl _ _).alloc (Nat.le_refl _) _).alloc (by simp) _⟩
end
section
open Go.RowKit
attribute [local irreducible] wpList Calls Code.wp AW AWo OpOk seqK zz z8 loopK endK AC zl Yld Sub
attribute [local irreducible] ACB ACX ACE absLexG YldG
section
variable {X:Cx} {nn:Nat} {st:Vst nn} {K:Exit->Vst nn->Prop}
theorem zG {c:Operand} {x y:Code} {b:Bool} (hc:ev st c = .c (.bool b)) (hb:b=true) (ht:AW X x st K):AW X (.cond c x y) st K:=zZ hc (fun _=>ht) (fun e=>by rw [hb] at e;cases e)
theorem zC {c:Operand} {x y:Code} {b:Bool} (hc:ev st c = .c (.bool b)) (hb:b=false) (ht:AW X y st K):AW X (.cond c x y) st K:=zZ hc (fun e=>by rw [hb] at e;cases e) (fun _=>ht)
end
theorem rel_cc {P:Program} {s:Sg} {w:World} {u v:Value} {us:Array Value} (h:relL P s w [.c u,.c v] us.toList):us = #[u,v]:=by
 obtain ⟨l⟩:=us
 match l,h with
 |[],h=>simp [relL] at h
 |[x],h=>simp [relL] at h
 |[x,y],h =>
  simp only [relL,rel,and_true] at h
  obtain ⟨⟨rfl,-⟩,rfl,-⟩:=h
  rfl
 |x::y::z::t,h=>simp [relL] at h
theorem rel_b {P:Program} {s:Sg} {w:World} {b:Bool}:rel P s w (.c (.bool b)) (.bool b):=by rw [rel];exact ⟨rfl,trivial⟩
theorem prefix_ac (s p:ByteArray):AC EN5 Tryz.prog 110 [.c (.string s),.c (.string p)] (.c (.bool (Lib.hasPrefix s.data.toList p.data.toList))):=by
 refine zIm (u:=.bool (Lib.hasPrefix s.data.toList p.data.toList)) fun σ w us hus he => ?_
 obtain rfl:=rel_cc hus
 refine ⟨fun s' w'=>rel_b,(Tryz.strings_HasPrefix s p w).mono ?_⟩
 rintro e w' ⟨rfl,rfl⟩
 exact ⟨rfl,Below.refl _ _⟩
theorem zK4 {l:List UInt8} (h : ∀ b∈l,b.toNat<128) : ∀ (j:Nat) b,l[j]? = some b->b.toNat<128:=fun j b hj=>h b (List.mem_of_getElem? hj)
theorem zDM (x:List UInt8) (cs:List UInt8) : -1<=Lib.indexAny x cs/\Lib.indexAny x cs<=x.length:=by
 refine ⟨Lib.indexAny_ge _ _,?_⟩
 induction x with
 |nil=>simp [Lib.indexAny]
 |cons c r ih =>
  unfold Lib.indexAny
  split
  . simp only [List.length_cons];omega
  . split<;>simp only [List.length_cons]<;>omega
theorem indexNl_ac (x:ByteArray) (hx:x.size<=1000000):AC EN5 Tryz.prog 108 [.c (.string x),.c (.string { data:=#[10,13] })] (.c (.int .i64 (Lib.indexAny x.data.toList [10,13]))):=by
 refine zIm (u:=.int .i64 (Lib.indexAny x.data.toList [10,13])) fun σ w us hus he => ?_
 obtain rfl:=rel_cc hus
 have hl:=zDM x.data.toList [10,13]
 have hz:x.data.toList.length=x.size:=(Lib.size_eq x).symm
 have h116:(Tryz.prog.info? (Tryz.lays153_ren.t 116)).map (fun i=>(i.zero,i.size))=some (some (.agg (Array.replicate 256 (.bool false))),256):=by kernel_rfl
 refine ⟨fun s' w'=>zGy (by omega),(zCe Tryz.lays153 (by kernel_rfl) (zero_of_info h116).1 (zero_of_info h116).2 x { data:=#[10,13] } w (by decide) (by decide) (by omega) (zK4 (by decide))).mono ?_⟩
 rintro e w' ⟨rfl,hb⟩
 exact ⟨rfl,hb⟩
def signsT:ByteArray:={ data:=#[33,36,38,40,41,58,61,64,91,93,123,124,125] }
theorem zAR (c:UInt8):AC EN5 Tryz.prog 109 [.c (.string signsT),.c (.int .i32 (c.toNat:Int))] (.c (.bool (zAi c))):=by
 refine zIm (u:=.bool (zAi c)) fun σ w us hus he => ?_
 obtain rfl:=rel_cc hus
 refine ⟨fun s' w'=>rel_b,?_⟩
 have hc:=c.toNat_lt
 by_cases h:c.toNat<128
 . refine (Tryz.strings_ContainsRune_ascii signsT (c.toNat:Int) w (by omega) (by omega)).mono ?_
   rintro e w' ⟨rfl,rfl⟩
   have hb:((c.toNat:Int)).toNat.toUInt8=c:=by simp
   rw [hb,<- Lib.contains_iff_indexByte]
   exact ⟨rfl,Below.refl _ _⟩
 . have hs:zAi c=false:=by
    unfold zAi
    rw [Bool.eq_false_iff]
    intro hx
    have:=List.contains_iff_mem.1 hx
    have h3 : ∀ b∈([33,36,38,40,41,58,61,64,91,93,123,124,125]:List UInt8),b.toNat<128:=by decide
    exact h (h3 c this)
   rw [hs]
   refine (zBu Tryz.lays151 (by kernel_rfl) signsT (c.toNat:Int) w (by omega) (by omega) (by unfold Lib.validRune;exact decide_eq_true (by omega)) (by decide) (zK4 (by decide))).mono ?_
   rintro e w' ⟨rfl,rfl | rfl⟩
   . exact ⟨rfl,Below.refl _ _⟩
   . exact ⟨rfl,(Below.refl _ _).drew.drew⟩
theorem skip_at {s:List UInt8} {k:Nat} (h:k<s.length):skipM false (s.drop k)=if sepB s[k] then skipM false (s.drop (k+1))+1 else if s[k]==35 then skipM true (s.drop (k+1))+1 else 0:=by
 rw [List.drop_eq_getElem_cons h,skipM]
theorem zHl : ∀ l:List UInt8,skipM true l=if Lib.indexAny l [10,13] = -1 then l.length else (Lib.indexAny l [10,13]).toNat+skipM false (l.drop (Lib.indexAny l [10,13]).toNat)
 |[]=>by simp [skipM,Lib.indexAny]
 |c::r=>by
  have ih:=zHl r
  have hge:=Lib.indexAny_ge [10,13] r
  unfold Lib.indexAny
  by_cases h:([10,13]:List UInt8).contains c=true
  . rw [if_pos h,if_neg (by decide)]
    show skipM true (c::r)=0+skipM false (c::r)
    have h2:c=10\/c=13:=by simpa using List.contains_iff_mem.1 h
    rcases h2 with rfl | rfl<;>simp [skipM,sepB]
  . rw [if_neg h]
    have h2:(c==10||c==13)=false:=by
     rw [Bool.eq_false_iff]
     intro hx
     apply h
     rw [List.contains_iff_mem]
     simpa using hx
    rw [skipM,h2]
    simp only [Bool.false_eq_true,if_false]
    rw [ih]
    by_cases h3:Lib.indexAny r [10,13] = -1
    . rw [if_pos h3,h3];simp
    . have h4:(Lib.indexAny r [10,13] == -1)=false:=by simpa using h3
      rw [if_neg h3,h4]
      simp only [Bool.false_eq_true,if_false]
      obtain ⟨n,hn⟩ : ∃ n:Nat,Lib.indexAny r [10,13]=n:=⟨(Lib.indexAny r [10,13]).toNat,by omega⟩
      rw [hn,if_neg (by omega)]
      have e:((n:Int)+1).toNat=n+1:=by omega
      rw [e,Int.toNat_natCast,List.drop_succ_cons]
      omega
theorem zKe (s:List UInt8) (k:Nat):((bs s).extract ((k:Int)).toNat (bs s).size).data.toList=s.drop k:=by
 have hz:=zW s
 rw [ByteArray.data_extract,Array.toList_extract,zAq,Int.toNat_natCast,hz]
 simp [List.extract]
 exact List.take_of_length_le (by simp)
noncomputable def HSk (s:List UInt8) (k:Nat):Vst 36:=stS 36 [(0,.c (.string (bs s))),(1,.c (.int .i64 (k:Int)))] []
theorem zCV {s:List UInt8} {k:Nat} (h:k<s.length):zh (bs s) ((k:Int)).toNat=(s[k].toNat:Int):=by
 unfold zh
 rw [Int.toNat_natCast,zEk h]
theorem skip_ac (s:List UInt8) (i:Nat) (hi:i<=s.length) (hs:s.length<=1000000):AC EN5 Tryz.prog 46 [.c (.string (bs s)),.c (.int .i64 (i:Int))] (.c (.int .i64 ((i+skipM false (s.drop i):Nat):Int))):=by
 refine zN 36 Tryz.func46 rfl rfl rfl rfl ?_
 intro s0 w he
 repeat' (first
|refine zA ?_
|refine zB ?_
|refine zH ?_
|apply aw_1
 conv=>whnf
 refine ⟨?_,trivial⟩
|apply s_1
 conv=>whnf;arg 1;arg 4;arg 3;whnf
 refine ⟨?_,?_⟩
|exact trivial)
 refine zi (fun j st => ∃ k,k+j=s.length/\i+skipM false (s.drop i)=k+skipM false (s.drop k)/\Sub (cx EN5 Tryz.prog s0 w he) st (HSk s k)) (s.length-i) ⟨i,by omega,rfl,?_⟩ ?_
 . exact Sub.live ⟨rfl,rfl,trivial⟩ trivial
 rintro j st ⟨k,hkj,hI,hs2⟩
 refine zg hs2 ?_
 clear hs2
 rw [hI]
 clear hI
 have hz:=zW s
 have hex:((bs s).extract ((k:Int)).toNat (bs s).size).size<=1000000:=by rw [ByteArray.size_extract];omega
 have hix:=indexNl_ac ((bs s).extract ((k:Int)).toNat (bs s).size) hex
 by_cases hk:k<s.length
 . have f0:decide ((k:Int)<((bs s).size:Nat))=true:=decide_eq_true (by omega)
   have hbt:=zCV hk
   have hsk:=skip_at hk
   have hdr:s.drop k=s[k]::s.drop (k+1):=List.drop_eq_getElem_cons hk
   generalize s[k]=c at hbt hsk hdr
   have q : ∀ n:Nat,n<256->(zh (bs s) ((k:Int)).toNat==(n:Int))=(c==UInt8.ofNat n):=fun n hn=>by rw [hbt];exact zE5 c n hn
   by_cases h32:c=32
   . have f32:(zh (bs s) ((k:Int)).toNat==32)=true:=(q 32 (by omega)).trans (by rw [h32];rfl)
     have hs1:skipM false (s.drop k)=skipM false (s.drop (k+1))+1:=by rw [hsk,h32];rfl
     repeat' (first
|apply zG
 . conv=>lhs;whnf
 . assumption
|refine zA ?_
|refine zB ?_
|refine zH ?_
|refine zR ?_
|apply aw_1
 conv=>whnf
 refine ⟨?_,trivial⟩
|apply s_1
 conv=>whnf;arg 1;arg 4;arg 3;whnf
 refine ⟨?_,?_⟩
|exact trivial)
     all_goals first
      |exact zU (by omega)
      |exact ⟨by kernel_rfl,by omega,by rw [zW];omega⟩
      |exact (show Tryz.prog.underlying _=some TypeDesc.string by kernel_rfl)
      |refine zI (j':=j-1) (by omega) ⟨k+1,by omega,by omega,Sub.live ⟨rfl,rfl,trivial⟩ trivial⟩
   have f32:(zh (bs s) ((k:Int)).toNat==32)=false:=(q 32 (by omega)).trans (by simpa using h32)
   by_cases h9:c=9
   . have f9:(zh (bs s) ((k:Int)).toNat==9)=true:=(q 9 (by omega)).trans (by rw [h9];rfl)
     have hs1:skipM false (s.drop k)=skipM false (s.drop (k+1))+1:=by rw [hsk,h9];rfl
     repeat' (first
|apply zG
 . conv=>lhs;whnf
 . assumption
|apply zC
 . conv=>lhs;whnf
 . assumption
|refine zA ?_
|refine zB ?_
|refine zH ?_
|refine zR ?_
|apply aw_1
 conv=>whnf
 refine ⟨?_,trivial⟩
|apply s_1
 conv=>whnf;arg 1;arg 4;arg 3;whnf
 refine ⟨?_,?_⟩
|exact trivial)
     all_goals first
      |exact zU (by omega)
      |exact ⟨by kernel_rfl,by omega,by rw [zW];omega⟩
      |exact (show Tryz.prog.underlying _=some TypeDesc.string by kernel_rfl)
      |refine zI (j':=j-1) (by omega) ⟨k+1,by omega,by omega,Sub.live ⟨rfl,rfl,trivial⟩ trivial⟩
   have f9:(zh (bs s) ((k:Int)).toNat==9)=false:=(q 9 (by omega)).trans (by simpa using h9)
   by_cases h10:c=10
   . have f10:(zh (bs s) ((k:Int)).toNat==10)=true:=(q 10 (by omega)).trans (by rw [h10];rfl)
     have hs1:skipM false (s.drop k)=skipM false (s.drop (k+1))+1:=by rw [hsk,h10];rfl
     repeat' (first
|apply zG
 . conv=>lhs;whnf
 . assumption
|apply zC
 . conv=>lhs;whnf
 . assumption
|refine zA ?_
|refine zB ?_
|refine zH ?_
|refine zR ?_
|apply aw_1
 conv=>whnf
 refine ⟨?_,trivial⟩
|apply s_1
 conv=>whnf;arg 1;arg 4;arg 3;whnf
 refine ⟨?_,?_⟩
|exact trivial)
     all_goals first
      |exact zU (by omega)
      |exact ⟨by kernel_rfl,by omega,by rw [zW];omega⟩
      |exact (show Tryz.prog.underlying _=some TypeDesc.string by kernel_rfl)
      |refine zI (j':=j-1) (by omega) ⟨k+1,by omega,by omega,Sub.live ⟨rfl,rfl,trivial⟩ trivial⟩
   have f10:(zh (bs s) ((k:Int)).toNat==10)=false:=(q 10 (by omega)).trans (by simpa using h10)
   by_cases h13:c=13
   . have f13:(zh (bs s) ((k:Int)).toNat==13)=true:=(q 13 (by omega)).trans (by rw [h13];rfl)
     have hs1:skipM false (s.drop k)=skipM false (s.drop (k+1))+1:=by rw [hsk,h13];rfl
     repeat' (first
|apply zG
 . conv=>lhs;whnf
 . assumption
|apply zC
 . conv=>lhs;whnf
 . assumption
|refine zA ?_
|refine zB ?_
|refine zH ?_
|refine zR ?_
|apply aw_1
 conv=>whnf
 refine ⟨?_,trivial⟩
|apply s_1
 conv=>whnf;arg 1;arg 4;arg 3;whnf
 refine ⟨?_,?_⟩
|exact trivial)
     all_goals first
      |exact zU (by omega)
      |exact ⟨by kernel_rfl,by omega,by rw [zW];omega⟩
      |exact (show Tryz.prog.underlying _=some TypeDesc.string by kernel_rfl)
      |refine zI (j':=j-1) (by omega) ⟨k+1,by omega,by omega,Sub.live ⟨rfl,rfl,trivial⟩ trivial⟩
   have f13:(zh (bs s) ((k:Int)).toNat==13)=false:=(q 13 (by omega)).trans (by simpa using h13)
   by_cases h44:c=44
   . have f44:(zh (bs s) ((k:Int)).toNat==44)=true:=(q 44 (by omega)).trans (by rw [h44];rfl)
     have hs1:skipM false (s.drop k)=skipM false (s.drop (k+1))+1:=by rw [hsk,h44];rfl
     repeat' (first
|apply zG
 . conv=>lhs;whnf
 . assumption
|apply zC
 . conv=>lhs;whnf
 . assumption
|refine zA ?_
|refine zB ?_
|refine zH ?_
|refine zR ?_
|apply aw_1
 conv=>whnf
 refine ⟨?_,trivial⟩
|apply s_1
 conv=>whnf;arg 1;arg 4;arg 3;whnf
 refine ⟨?_,?_⟩
|exact trivial)
     all_goals first
      |exact zU (by omega)
      |exact ⟨by kernel_rfl,by omega,by rw [zW];omega⟩
      |exact (show Tryz.prog.underlying _=some TypeDesc.string by kernel_rfl)
      |refine zI (j':=j-1) (by omega) ⟨k+1,by omega,by omega,Sub.live ⟨rfl,rfl,trivial⟩ trivial⟩
   have f44:(zh (bs s) ((k:Int)).toNat==44)=false:=(q 44 (by omega)).trans (by simpa using h44)
   have hns:sepB c=false:=by simp [sepB,h32,h9,h10,h13,h44]
   by_cases h35:c=35
   . have f35:(zh (bs s) ((k:Int)).toNat==35)=true:=(q 35 (by omega)).trans (by rw [h35];rfl)
     have hx:=zKe s k
     have hcm:skipM false (s.drop k)=skipM true (s.drop k):=by rw [hsk,hns,hdr,h35];rfl
     have hco:=zHl (s.drop k)
     rw [<- hcm] at hco
     have hra:=zDM (s.drop k) [10,13]
     rw [List.length_drop] at hra
     have h1:Lib.indexAny (s.drop k) [10,13]≠0:=by
      rw [hdr,h35]
      have:=Lib.indexAny_ge [10,13] (s.drop (k+1))
      unfold Lib.indexAny
      rw [if_neg (by decide)]
      split
      . decide
      . rename_i hq
        have hq2 : ¬ Lib.indexAny (s.drop (k+1)) [10,13] = -1:=by simpa using hq
        omega
     rw [hx] at hix
     repeat' (first
|apply zG
 . conv=>lhs;whnf
 . assumption
|apply zC
 . conv=>lhs;whnf
 . assumption
|refine zA ?_
|refine zB ?_
|refine zH ?_
|refine zR ?_
|apply aw_1
 conv=>whnf
 refine ⟨?_,trivial⟩
|apply s_1
 conv=>whnf;arg 1;arg 4;arg 3;whnf
 refine ⟨?_,?_⟩
|apply ze rfl
 . conv=>lhs;whnf
 . conv=>lhs;whnf
 . first | exact hix
|refine zZ (by conv=>lhs;whnf) ?_ ?_<;>intro hb
|exact trivial)
     . obtain ⟨n,hn⟩ : ∃ n:Nat,Lib.indexAny (s.drop k) [10,13]=n:=⟨(Lib.indexAny (s.drop k) [10,13]).toNat,by simp at hb;omega⟩
       rw [hn] at hco hra h1 |-
       rw [if_neg (by omega),Int.toNat_natCast,List.drop_drop] at hco
       refine zI (j':=j-n) (by omega) ⟨k+n,by omega,by omega,Sub.live ⟨rfl,rfl,trivial⟩ trivial⟩
     . exact zU (by omega)
     . have h2:Lib.indexAny (s.drop k) [10,13] = -1:=by simp at hb;omega
       rw [if_pos h2,List.length_drop] at hco
       refine zI (j':=0) (by omega) ⟨s.length,by omega,by rw [hco,List.drop_length];show k+(s.length-k)=s.length+0;omega,Sub.live ⟨rfl,?_,trivial⟩ trivial⟩
       show V.c (.int .i64 ((bs s).size:Nat))=V.c (.int .i64 (s.length:Nat))
       rw [hz]
     all_goals first
      |exact (show Tryz.prog.underlying _=some TypeDesc.string by kernel_rfl)
      |exact ⟨by kernel_rfl,by omega,by rw [zW];omega⟩
   have f35:(zh (bs s) ((k:Int)).toNat==35)=false:=(q 35 (by omega)).trans (by simpa using h35)
   have hs1:skipM false (s.drop k)=0:=by rw [hsk,hns];simp [h35]
   repeat' (first
|apply zG
 . conv=>lhs;whnf
 . assumption
|apply zC
 . conv=>lhs;whnf
 . assumption
|refine zA ?_
|refine zB ?_
|refine zH ?_
|apply aw_1
 conv=>whnf
 refine ⟨?_,trivial⟩
|apply s_1
 conv=>whnf;arg 1;arg 4;arg 3;whnf
 refine ⟨?_,?_⟩
|refine zO ?_
|refine zQ ?_
|refine zy ?_
|refine zE ?_
|refine ⟨_,by conv=>lhs;whnf;arg 2;whnf,?_⟩;conv=>rhs;whnf
|exact trivial)
   . rw [hs1];rfl
   all_goals first
    |exact (show Tryz.prog.underlying _=some TypeDesc.string by kernel_rfl)
    |exact ⟨by kernel_rfl,by omega,by rw [zW];omega⟩
 . have f0:decide ((k:Int)<((bs s).size:Nat))=false:=decide_eq_false (by omega)
   have hs1:skipM false (s.drop k)=0:=by rw [List.drop_of_length_le (by omega)];rfl
   repeat' (first
|apply zC
 . conv=>lhs;whnf
 . assumption
|refine zA ?_
|refine zB ?_
|refine zH ?_
|apply aw_1
 conv=>whnf
 refine ⟨?_,trivial⟩
|apply s_1
 conv=>whnf;arg 1;arg 4;arg 3;whnf
 refine ⟨?_,?_⟩
|refine zM ?_
|refine zK rfl ?_
|refine zJ ?_
|refine zE ?_
|refine ⟨_,by conv=>lhs;whnf;arg 2;whnf,?_⟩;conv=>rhs;whnf
|exact trivial)
   . rw [hs1];rfl
   . exact (show Tryz.prog.underlying _=some TypeDesc.string by kernel_rfl)
end
end Go.Proofs.YthppafnlnnpciaaGreatDoor
