import Derived.Test.YtdlnnlglmifceaaGreatDoorProg
import Derived.KernelRfl
import Derived.Test.YtdlnnlglmifceaaGreatDoorQ30
set_option maxHeartbeats 8000000
set_option maxRecDepth 100000
set_option linter.unusedVariables false
set_option linter.unusedSimpArgs false
namespace Go.Proofs.YtdlnnlglmifceaaGreatDoor
open Go.RowKit
attribute [local irreducible] wpList Calls Code.wp AW AWo OpOk seqK zAP zAR loopK endK AC zy Yld Sub
def goodV : Nat -> D -> Prop
 | 0,_ => True
 | k + 1,d => ((d.f 0).n = 1 -> (d.f 1).n = 0 \/ (d.f 1).n = 1) /\ ∀ i,i < (d.f 3).l.length -> goodV k (gD (d.f 3).l i)
structure ArgsOk (k : Nat) (l : List D) : Prop where
 wide : ∀ i,wideD (gD l i)
 bulk : bulkL l <= 1048576
 dp : ∀ i,i < l.length -> Dp k ((gD l i).f 1)
 good : ∀ i,i < l.length -> goodV k ((gD l i).f 1)
structure DirsOk (k : Nat) (l : List D) : Prop where
 wide : ∀ i,wideD (gD l i)
 bulk : bulkL l <= 1048576
 args : ∀ i,i < l.length -> ArgsOk k ((gD l i).f 1).l
theorem zHw (l : List D) : l.length <= bulkL l:=by
 induction l with
 | nil => exact Nat.zero_le _
 | cons x r ih => have:=zBc x; simp only [List.length_cons,bulkL]; omega
theorem ArgsOk.val {k : Nat} {l : List D} (h : ArgsOk k l) {i : Nat} (hi : i < l.length) : bulkD ((gD l i).f 1) <= 1048576:=by
 have:=zA9 hi
 have:=wD_f (gD l i) 1
 have:=zBQ ((gD l i).f 1)
 have:=zBQ (gD l i)
 have:=h.bulk
 omega
theorem ArgsOk.name {k : Nat} {l : List D} (h : ArgsOk k l) {i : Nat} (hi : i < l.length) : ((gD l i).f 0).s.size <= 1048576:=by
 have:=zA9 hi
 have:=wD_f (gD l i) 0
 have:=zDx ((gD l i).f 0)
 have:=zBQ (gD l i)
 have:=h.bulk
 omega
theorem ArgsOk.text {k : Nat} {l : List D} (h : ArgsOk k l) {i : Nat} (hi : i < l.length) : (valT k ((gD l i).f 1)).length <= 26000000:=by
 have:=h.val hi
 have:=zFN k ((gD l i).f 1) ((h.wide i).f 1)
 omega
theorem DirsOk.name {k : Nat} {l : List D} (h : DirsOk k l) {i : Nat} (hi : i < l.length) : ((gD l i).f 0).s.size <= 1048576:=by
 have:=zA9 hi
 have:=wD_f (gD l i) 0
 have:=zDx ((gD l i).f 0)
 have:=zBQ (gD l i)
 have:=h.bulk
 omega
theorem ArgsOk.len {k : Nat} {l : List D} (h : ArgsOk k l) : l.length <= 1048576:=Nat.le_trans (zHw l) h.bulk
theorem DirsOk.len {k : Nat} {l : List D} (h : DirsOk k l) : l.length <= 1048576:=Nat.le_trans (zHw l) h.bulk
def refB (n : List UInt8) : List D -> List UInt8
 | [] => n
 | d :: ds => if d.n == 1 then refB n ds ++ [33] else [91] ++ refB n ds ++ [93]
end Go.Proofs.YtdlnnlglmifceaaGreatDoor
namespace Go.Proofs.YtdlnnlglmifceaaGreatDoor
structure SelOk (K : Nat) (inner : List D -> Prop) (s : D) : Prop where
 args : ArgsOk K (s.f 4).l
 dirs : DirsOk K (s.f 5).l
 kind : (s.f 0).n = 1 \/ ((s.f 0).n = 2 /\ (s.f 6).l = []) \/ ((s.f 0).n = 3 /\ (s.f 6).l ≠ [])
 sub : inner (s.f 6).l
def SelsOk (K : Nat) : Nat -> List D -> Prop
 | 0,l => l = []
 | f + 1,l => ∀ i,i < l.length -> SelOk K (SelsOk K f) (gD l i)
structure J (e : Tok) (r : List Tok) (a : List Tok) (x x' : PS) : Prop where
 l : x.ts = a ++ [e]
 r : x'.ts = a ++ r
 vr : x'.vr = x.vr
 nd : x'.nd = x.nd
def LO (e : Tok) (r : List Tok) {α : Type} (a : List Tok) (p p' : PR α) : Prop:=
 ∀ v y,p = .ok (v,y) -> ∃ b,(∃ d,a = d ++ b) /\ y.ts = b ++ [e] /\ (b ≠ [] -> ∃ y',p' = .ok (v,y') /\ J e r b y y')
def LS (e : Tok) (r : List Tok) {α : Type} (a : List Tok) (p p' : PR α) : Prop:=
 ∀ v y,p = .ok (v,y) -> ∃ b y',(∃ t d,a = t :: d ++ b) /\ p' = .ok (v,y') /\ J e r b y y'
structure Ends (e : Tok) (r : List Tok) : Prop where
 k : e.k = 5
 r : r ≠ []
section
variable {e : Tok} {r : List Tok} {α β : Type}
theorem LS.lo {a : List Tok} {p p' : PR α} (h : LS e r a p p') : LO e r a p p':=fun v y hp => by
 obtain ⟨b,y',⟨t,d,hd⟩,h1,h2⟩:=h v y hp
 exact ⟨b,⟨t :: d,hd⟩,h2.l,fun _ => ⟨y',h1,h2⟩⟩
theorem LO.zero {p p' p'' : PR α} (h : LO e r [] p p') : LO e r [] p p'':=fun v y hp => by
 obtain ⟨b,⟨d,hd⟩,h1,h2⟩:=h v y hp
 have : b = []:=(List.append_eq_nil_iff.1 hd.symm).2
 subst this
 exact ⟨[],⟨[],rfl⟩,h1,fun h => (h rfl).elim⟩
theorem LS.zero {p p' p'' : PR α} (h : LS e r [] p p') : LS e r [] p p'':=fun v y hp => by
 obtain ⟨b,y',⟨t,d,hd⟩,-⟩:=h v y hp
 cases hd
theorem LO.err {a : List Tok} {q : Nat × Int} {p' : PR α} : LO e r a (.error q) p':=fun _ _ h => by cases h
theorem LS.err {a : List Tok} {q : Nat × Int} {p' : PR α} : LS e r a (.error q) p':=fun _ _ h => by cases h
theorem LO.okk {a : List Tok} {x x' : PS} (h : J e r a x x') (v : α) : LO e r a (.ok (v,x)) (.ok (v,x')):=fun w y hp => by
 cases hp
 exact ⟨a,⟨[],rfl⟩,h.l,fun _ => ⟨x',rfl,h⟩⟩
theorem LO.mono {a b : List Tok} {p p' : PR α} (h : LO e r b p p') (hab : ∃ d,a = d ++ b) : LO e r a p p':=fun v y hp => by
 obtain ⟨c,⟨d,hd⟩,h1⟩:=h v y hp
 obtain ⟨d2,hd2⟩:=hab
 exact ⟨c,⟨d2 ++ d,by rw [hd2,hd,List.append_assoc]⟩,h1⟩
theorem LS.mono {a b : List Tok} {p p' : PR α} (h : LS e r b p p') (hab : ∃ d,a = d ++ b) : LS e r a p p':=fun v y hp => by
 obtain ⟨c,y',⟨t,d,hd⟩,h1⟩:=h v y hp
 obtain ⟨d2,hd2⟩:=hab
 cases d2 with
 | nil => exact ⟨c,y',⟨t,d,by rw [hd2,hd]; rfl⟩,h1⟩
 | cons t2 d2 => exact ⟨c,y',⟨t2,d2 ++ t :: d,by rw [hd2,hd]; simp⟩,h1⟩
theorem LS.okn {t : Tok} {a : List Tok} {x x' : PS} (h : J e r a x x') (v : α) : LS e r (t :: a) (.ok (v,x)) (.ok (v,x')):=fun w y hp => by
 cases hp
 exact ⟨a,x',⟨t,[],rfl⟩,rfl,h⟩
theorem LO.ite {a : List Tok} {c c' : Prop} [Decidable c] [Decidable c'] {A A' B B' : PR α} (hc : a ≠ [] -> (c ↔ c')) (h1 : c -> LO e r a A A') (h2 : ¬ c -> LO e r a B B') : LO e r a (if c then A else B) (if c' then A' else B'):=by
 by_cases ha : a = []
 . subst ha
   by_cases h : c
   . rw [if_pos h]; exact (h1 h).zero
   . rw [if_neg h]; exact (h2 h).zero
 . by_cases h : c
   . rw [if_pos h,if_pos ((hc ha).1 h)]; exact h1 h
   . rw [if_neg h,if_neg fun h' => h ((hc ha).2 h')]; exact h2 h
theorem LS.ite {a : List Tok} {c c' : Prop} [Decidable c] [Decidable c'] {A A' B B' : PR α} (hc : a ≠ [] -> (c ↔ c')) (h1 : c -> LS e r a A A') (h2 : ¬ c -> LS e r a B B') : LS e r a (if c then A else B) (if c' then A' else B'):=by
 by_cases ha : a = []
 . subst ha
   by_cases h : c
   . rw [if_pos h]; exact (h1 h).zero
   . rw [if_neg h]; exact (h2 h).zero
 . by_cases h : c
   . rw [if_pos h,if_pos ((hc ha).1 h)]; exact h1 h
   . rw [if_neg h,if_neg fun h' => h ((hc ha).2 h')]; exact h2 h
theorem LO.then {a : List Tok} {p p' : PR α} {f f' : α -> PS -> PR β} (h : LO e r a p p') (hf : ∀ v b y y',J e r b y y' -> LO e r b (f v y) (f' v y')) : LO e r a (zw p f) (zw p' f'):=fun w z hp => by
 cases hpp : p with
 | error q => rw [hpp] at hp; cases hp
 | ok q =>
   obtain ⟨v,y⟩:=q
   obtain ⟨b,hab,h1,h2⟩:=h v y hpp
   rw [hpp] at hp
   have hp : f v y = .ok (w,z):=hp
   by_cases hb : b = []
   . subst hb
     obtain ⟨c,⟨d,hd⟩,h3,-⟩:=hf v [] y ⟨r,y.vr,y.nd⟩ ⟨h1,rfl,rfl,rfl⟩ w z hp
     have : c = []:=(List.append_eq_nil_iff.1 hd.symm).2
     subst this
     exact ⟨[],hab,h3,fun h => (h rfl).elim⟩
   . obtain ⟨y',h3,h4⟩:=h2 hb
     rw [h3]
     exact ((hf v b y y' h4).mono hab) w z hp
theorem LS.then {a : List Tok} {p p' : PR α} {f f' : α -> PS -> PR β} (h : LO e r a p p') (hf : ∀ v b y y',J e r b y y' -> LS e r b (f v y) (f' v y')) : LS e r a (zw p f) (zw p' f'):=fun w z hp => by
 cases hpp : p with
 | error q => rw [hpp] at hp; cases hp
 | ok q =>
   obtain ⟨v,y⟩:=q
   obtain ⟨b,hab,h1,h2⟩:=h v y hpp
   rw [hpp] at hp
   have hp : f v y = .ok (w,z):=hp
   by_cases hb : b = []
   . subst hb
     obtain ⟨c,y',⟨t,d,hd⟩,-⟩:=hf v [] y ⟨r,y.vr,y.nd⟩ ⟨h1,rfl,rfl,rfl⟩ w z hp
     cases hd
   . obtain ⟨y',h3,h4⟩:=h2 hb
     rw [h3]
     exact ((hf v b y y' h4).mono hab) w z hp
theorem LS.pure {a : List Tok} {p p' : PR α} {f f' : α -> PS -> PR β} (h : LS e r a p p') (hf : ∀ v b y y',J e r b y y' -> ∃ w z z',f v y = .ok (w,z) /\ f' v y' = .ok (w,z') /\ J e r b z z') : LS e r a (zw p f) (zw p' f'):=fun w z hp => by
 cases hpp : p with
 | error q => rw [hpp] at hp; cases hp
 | ok q =>
   obtain ⟨v,y⟩:=q
   obtain ⟨b,y',hab,h1,h2⟩:=h v y hpp
   rw [hpp] at hp
   have hp : f v y = .ok (w,z):=hp
   obtain ⟨w2,z2,z',h3,h4,h5⟩:=hf v b y y' h2
   rw [hp] at h3
   cases h3
   rw [h1]
   exact ⟨b,z',hab,h4,h5⟩
variable (hE : Ends e r)
theorem J.hd {a : List Tok} {x x' : PS} (h : J e r a x x') (ha : a ≠ []) : hdT x' = hdT x:=by
 cases a with
 | nil => exact (ha rfl).elim
 | cons t a => unfold hdT; rw [h.l,h.r]; rfl
theorem J.sg {a : List Tok} {x x' : PS} (h : J e r a x x') (s : List UInt8) (ha : a ≠ []) : isS x s = true ↔ isS x' s = true:=by
 unfold isS; rw [h.hd ha]
include hE
theorem J.k5 {x x' : PS} (h : J e r [] x x') : (hdT x).k = 5:=by unfold hdT; rw [h.l]; exact hE.k
theorem J.ne_of_k {a : List Tok} {x x' : PS} (h : J e r a x x') (hk : (hdT x).k ≠ 5) : ∃ t a',a = t :: a' /\ J e r a' (nxT x) (nxT x'):=by
 cases a with
 | nil => exact (hk (h.k5 hE)).elim
 | cons t a =>
   have h1:=h.hd (by simp)
   refine ⟨t,a,rfl,?_⟩
   unfold nxT
   rw [h1,if_neg hk,if_neg hk]
   exact ⟨by show x.ts.drop 1 = _; rw [h.l]; rfl,by show x'.ts.drop 1 = _; rw [h.r]; rfl,h.vr,h.nd⟩
theorem J.ne_of_isS {a : List Tok} {x x' : PS} (h : J e r a x x') {s : List UInt8} (hs : isS x s = true) : ∃ t a',a = t :: a' /\ J e r a' (nxT x) (nxT x'):=by
 refine h.ne_of_k hE ?_
 unfold isS at hs
 simp only [Bool.and_eq_true,beq_iff_eq] at hs
 rw [hs.1]; decide
theorem J.len {a : List Tok} {x x' : PS} (h : J e r a x x') : x.ts.length <= x'.ts.length:=by
 rw [h.l,h.r,List.length_append,List.length_append]
 have : 0 < r.length:=List.length_pos_iff.2 hE.r
 simp; omega
theorem zCB {a : List Tok} {x x' : PS} (h : J e r a x x') (s : List UInt8) : LS e r a (takeQ s x) (takeQ s x'):=by
 unfold takeQ
 refine .ite (h.sg s) (fun hs => ?_) fun _ => .err
 obtain ⟨t,a',rfl,h'⟩:=h.ne_of_isS hE hs
 exact .okn h' _
theorem zA6 {a : List Tok} {x x' : PS} (h : J e r a x x') : LS e r a (nameQ x) (nameQ x'):=by
 unfold nameQ
 refine .ite (fun ha => by rw [h.hd ha]) (fun hk => ?_) fun _ => .err
 obtain ⟨t,a',rfl,h'⟩:=h.ne_of_k hE (by rw [hk]; decide)
 rw [h.hd (by simp)]
 exact .okn h' _
theorem open_j : ∀ (f g : Nat) {a : List Tok} {x x' : PS},J e r a x x' -> x.ts.length <= f -> x'.ts.length <= g -> ∃ b,(∃ d,a = d ++ b) /\ (openQ f x).2.ts = b ++ [e] /\ (b ≠ [] -> (openQ g x').1 = (openQ f x).1 /\ J e r b (openQ f x).2 (openQ g x').2)
 | 0,g,a,x,x',h,hf,_ => by rw [h.l] at hf; simp at hf
 | f + 1,0,a,x,x',h,_,hg => by have:=h.len hE; rw [h.l] at this; simp at this; omega
 | f + 1,g + 1,a,x,x',h,hf,hg => by
   by_cases hs : isS x [91] = true
   . obtain ⟨t,a',rfl,h'⟩:=h.ne_of_isS hE hs
     have hs':=(h.sg [91] (by simp)).1 hs
     have e1 : openQ (f + 1) x = ((openQ f (nxT x)).1 + 1,(openQ f (nxT x)).2):=by rw [openQ,if_pos hs]
     have e2 : openQ (g + 1) x' = ((openQ g (nxT x')).1 + 1,(openQ g (nxT x')).2):=by rw [openQ,if_pos hs']
     rw [e1,e2]
     obtain ⟨b,⟨d,hd⟩,h1,h2⟩:=open_j f g h' (by rw [h'.l]; rw [h.l] at hf; simpa using hf) (by rw [h'.r]; rw [h.r] at hg; simpa using hg)
     exact ⟨b,⟨t :: d,by rw [hd]; rfl⟩,h1,fun hb => ⟨by rw [(h2 hb).1],(h2 hb).2⟩⟩
   . have e1 : openQ (f + 1) x = (0,x):=by rw [openQ,if_neg hs]
     rw [e1]
     refine ⟨a,⟨[],rfl⟩,h.l,fun ha => ?_⟩
     have e2 : openQ (g + 1) x' = (0,x'):=by rw [openQ,if_neg fun hq => hs ((h.sg [91] ha).2 hq)]
     rw [e2]
     exact ⟨rfl,h⟩
theorem zFq : ∀ (n : Nat) (w : List Int) {a : List Tok} {x x' : PS},J e r a x x' -> LO e r a (closeQ n w x) (closeQ n w x')
 | 0,w,a,x,x',h => by
   have e1 : ∀ x,closeQ 0 w x = if isS x [33] = true then .ok (1 :: w,nxT x) else .ok (w,x):=fun x => by unfold closeQ; split <;> rfl
   rw [e1,e1]
   refine .ite (h.sg _) (fun hs => ?_) fun _ => .okk h _
   obtain ⟨t,a',rfl,h'⟩:=h.ne_of_isS hE hs
   exact (LS.okn h' _).lo
 | n + 1,w,a,x,x',h => by
   have e1 : ∀ x,closeQ (n + 1) w x = if isS x [33] = true then zw (takeQ [93] (nxT x)) fun _ y => closeQ n (2 :: 1 :: w) y else zw (takeQ [93] x) fun _ y => closeQ n (2 :: w) y:=fun x => by
    rw [closeQ]; split <;> rfl
   rw [e1,e1]
   refine .ite (h.sg _) (fun hs => ?_) fun _ => .then (zCB hE h _).lo fun _ _ _ _ hy => zFq n _ hy
   obtain ⟨t,a',rfl,h'⟩:=h.ne_of_isS hE hs
   exact (LO.then (zCB hE h' _).lo fun _ _ _ _ hy => zFq n _ hy).mono ⟨[t],rfl⟩
theorem inner_lo {a : List Tok} {x x' : PS} (h : J e r a x x') : LO e r a (innerQ x) (innerQ x'):=by
 obtain ⟨b,hab,h1,h2⟩:=open_j hE x.ts.length x'.ts.length h (Nat.le_refl _) (Nat.le_refl _)
 unfold innerQ
 by_cases hb : b = []
 . subst hb
   intro v y hp
   have hk : nameQ (openQ x.ts.length x).2 = .error ((hdT (openQ x.ts.length x).2).i,3):=by
    unfold nameQ
    rw [if_neg]
    unfold hdT
    rw [h1]
    show ¬ e.k = 2
    rw [hE.k]; decide
   rw [hk] at hp
   cases hp
 . obtain ⟨h3,h4⟩:=h2 hb
   rw [h3]
   refine LO.mono (b:=b) ?_ hab
   exact .then (zA6 hE h4).lo fun _ _ _ _ hy => .then (zFq hE _ _ hy) fun _ _ _ _ hz => .okk hz _
theorem typ_lo {a : List Tok} {x x' : PS} (h : J e r a x x') : LO e r a (typQ x) (typQ x'):=
 .then (inner_lo hE h) fun _ _ _ _ hy => .ite (fun _ => Iff.rfl) (fun _ => .err) fun _ => .okk hy _
theorem zFi {v v' : PS -> PR D} (hv : ∀ {a : List Tok} {x x' : PS},J e r a x x' -> LO e r a (v x) (v' x')) : ∀ (f g : Nat) (acc : List D) {a : List Tok} {x x' : PS},f <= g -> J e r a x x' -> LS e r a (itemsQ v f acc x) (itemsQ v' g acc x')
 | 0,_,_,_,_,_,_,_ => .err
 | f + 1,0,_,_,_,_,hfg,_ => by omega
 | f + 1,g + 1,acc,a,x,x',hfg,h => by
   unfold itemsQ
   refine .ite (h.sg _) (fun hs => ?_) fun _ => .then (hv h) fun _ _ _ _ hy => zFi hv f g _ (by omega) hy
   obtain ⟨t,a',rfl,h'⟩:=h.ne_of_isS hE hs
   exact .okn h' _
theorem zEI {v v' : PS -> PR D} (hv : ∀ {a : List Tok} {x x' : PS},J e r a x x' -> LO e r a (v x) (v' x')) : ∀ (f g : Nat) (ks : List (List UInt8)) (acc : List D) {a : List Tok} {x x' : PS},f <= g -> J e r a x x' -> LS e r a (zAV v f ks acc x) (zAV v' g ks acc x')
 | 0,_,_,_,_,_,_,_,_ => .err
 | f + 1,0,_,_,_,_,_,hfg,_ => by omega
 | f + 1,g + 1,ks,acc,a,x,x',hfg,h => by
   unfold zAV
   refine .ite (h.sg _) (fun hs => ?_) fun _ => .then (zA6 hE h).lo fun k _ _ _ hy => .ite (fun _ => Iff.rfl) (fun _ => .err) fun _ => .then (zCB hE hy _).lo fun _ _ _ _ hz => .then (hv hz) fun _ _ _ _ hu => zEI hv f g _ _ (by omega) hu
   obtain ⟨t,a',rfl,h'⟩:=h.ne_of_isS hE hs
   exact .okn h' _
theorem zCQ : ∀ (f lv : Nat) {a : List Tok} {x x' : PS},J e r a x x' -> LO e r a (valueQ f lv x) (valueQ f lv x')
 | 0,_,_,_,_,_ => .err
 | f + 1,lv,a,x,x',h => by
   by_cases ha : a = []
   . intro v y hp
     subst ha
     have hk:=h.k5 hE
     unfold valueQ at hp
     rw [if_pos (by unfold zCG; rw [hk]; rfl)] at hp
     cases hp
   . have hh:=h.hd ha
     have hn : zCG x' = zCG x:=by unfold zCG isS; rw [hh,h.vr]
     unfold valueQ
     rw [hn,hh,h.nd]
     refine .ite (fun _ => Iff.rfl) (fun _ => .err) fun hno => ?_
     obtain ⟨t,a',rfl,h'⟩:=h.ne_of_k hE (fun hk => hno (by unfold zCG; rw [hk]; rfl))
     have hy : J e r a' { nxT x with nd:=x.nd + 1 } { nxT x' with nd:=x.nd + 1 }:=⟨h'.l,h'.r,h'.vr,rfl⟩
     have hlen : (nxT x).ts.length <= (nxT x').ts.length:=h'.len hE
     refine .ite (fun _ => Iff.rfl) (fun _ => .err) fun _ => .ite (fun _ => Iff.rfl) (fun _ => .err) fun _ => ?_
     dsimp only
     refine LO.mono (b:=a') ?_ ⟨[t],rfl⟩
     refine .ite (fun _ => Iff.rfl) (fun _ => .okk hy _) fun _ => .ite (fun _ => Iff.rfl) (fun _ => .okk hy _) fun _ => .ite (fun _ => Iff.rfl) (fun _ => .okk hy _) fun _ => .ite (fun _ => Iff.rfl) (fun _ => .then (zA6 hE hy).lo fun _ _ _ _ hz => .okk hz _) fun _ => .ite (fun _ => Iff.rfl) (fun _ => ?_) fun _ => ?_
     . exact .then (zFi hE (fun h => zCQ f (lv + 1) h) _ _ _ (by omega) hy).lo fun _ _ _ _ hz => .okk hz _
     . exact .then (zEI hE (fun h => zCQ f (lv + 1) h) _ _ _ _ (by omega) hy).lo fun _ _ _ _ hz => .okk hz _
theorem zFI {a : List Tok} {x x' : PS} (h : J e r a x x') : LO e r a (zAx x) (zAx x'):=zCQ hE _ _ ⟨h.l,h.r,h.vr,rfl⟩
theorem zIV : ∀ (f g : Nat) (acc : List D) {a : List Tok} {x x' : PS},f <= g -> J e r a x x' -> LS e r a (argsF f acc x) (argsF g acc x')
 | 0,_,_,_,_,_,_,_ => .err
 | f + 1,0,_,_,_,_,hfg,_ => by omega
 | f + 1,g + 1,acc,a,x,x',hfg,h => by
   unfold argsF
   refine .ite (fun ha => by rw [h.sg _ ha]) (fun hs => ?_) fun _ => .ite (fun ha => by rw [h.hd ha]) (fun _ => .err) fun _ => .then (zA6 hE h).lo fun _ _ _ _ hy => .then (zCB hE hy _).lo fun _ _ _ _ hz => .then (zFI hE hz) fun _ _ _ _ hu => zIV f g _ (by omega) hu
   obtain ⟨t,a',rfl,h'⟩:=h.ne_of_isS hE hs.2
   exact .okn h' _
theorem zFs {a : List Tok} {x x' : PS} (h : J e r a x x') : LO e r a (argsQ x) (argsQ x'):=by
 unfold argsQ
 refine .ite (h.sg _) (fun hs => ?_) fun _ => .okk h _
 obtain ⟨t,a',rfl,h'⟩:=h.ne_of_isS hE hs
 exact (zIV hE _ _ _ (h.len hE) h').lo.mono ⟨[t],rfl⟩
theorem zIF : ∀ (f g : Nat) (acc : List D) {a : List Tok} {x x' : PS},f <= g -> J e r a x x' -> LO e r a (dirsF f acc x) (dirsF g acc x')
 | 0,_,_,_,_,_,_,_ => .err
 | f + 1,0,_,_,_,_,hfg,_ => by omega
 | f + 1,g + 1,acc,a,x,x',hfg,h => by
   unfold dirsF
   refine .ite (h.sg _) (fun hs => ?_) fun _ => .okk h _
   obtain ⟨t,a',rfl,h'⟩:=h.ne_of_isS hE hs
   exact LO.mono (b:=a') (.ite (fun _ => Iff.rfl) (fun _ => .err) fun _ => .then (zA6 hE h').lo fun _ _ _ _ hy => .then (zFs hE hy) fun _ _ _ _ hz => zIF f g _ (by omega) hz) ⟨[t],rfl⟩
theorem zCm {a : List Tok} {x x' : PS} (h : J e r a x x') : LO e r a (dirsQ x) (dirsQ x'):=zIF hE _ _ _ (by have:=h.len hE; omega) h
theorem sel_lo {v v' : PS -> PR (List D)} (hv : ∀ {a : List Tok} {x x' : PS},J e r a x x' -> LO e r a (v x) (v' x')) {a : List Tok} {x x' : PS} (h : J e r a x x') : LO e r a (selQ v x) (selQ v' x'):=by
 unfold selQ
 refine .ite (h.sg _) (fun hs => ?_) fun _ => ?_
 . obtain ⟨t,a',rfl,h'⟩:=h.ne_of_isS hE hs
   refine LO.mono (b:=a') ?_ ⟨[t],rfl⟩
   dsimp only
   refine .ite (fun ha => by rw [h'.hd ha]) (fun hk => ?_) fun _ => ?_
   . obtain ⟨t2,a2,rfl,h2⟩:=h'.ne_of_k hE (by rw [hk.1]; decide)
     rw [h'.hd (by simp)]
     exact LO.mono (b:=a2) (.then (zCm hE h2) fun _ _ _ _ hz => .okk hz _) ⟨[t2],rfl⟩
   . refine .then (.ite (fun ha => by rw [h'.hd ha]) (fun hk => ?_) fun _ => .okk h' _) fun _ _ _ _ hz => .then (zCm hE hz) fun _ _ _ _ hu => .then (hv hu) fun _ _ _ _ ho => .okk ho _
     obtain ⟨t2,a2,rfl,h2⟩:=h'.ne_of_k hE (by rw [hk]; decide)
     exact (zA6 hE h2).lo.mono ⟨[t2],rfl⟩
 . refine .then (zA6 hE h).lo fun n _ y y' hy => .then (.ite (hy.sg _) (fun hs => ?_) fun _ => .okk hy _) fun _ _ _ _ hz => .then (zFs hE hz) fun _ _ _ _ hu => .then (zCm hE hu) fun _ _ _ _ hw => .then (.ite (hw.sg _) (fun _ => hv hw) fun _ => .okk hw _) fun _ _ _ _ ho => .okk ho _
   obtain ⟨t2,a2,rfl,h2⟩:=hy.ne_of_isS hE hs
   exact LO.mono (b:=a2) (.then (zA6 hE h2).lo fun _ _ _ _ hz => .okk hz _) ⟨[t2],rfl⟩
theorem setF_ls {v v' : PS -> PR D} (hv : ∀ {a : List Tok} {x x' : PS},J e r a x x' -> LO e r a (v x) (v' x')) : ∀ (f g : Nat) (acc : List D) {a : List Tok} {x x' : PS},f <= g -> J e r a x x' -> LS e r a (setF v f acc x) (setF v' g acc x')
 | 0,_,_,_,_,_,_,_ => .err
 | f + 1,0,_,_,_,_,hfg,_ => by omega
 | f + 1,g + 1,acc,a,x,x',hfg,h => by
   unfold setF
   refine .ite (fun ha => by rw [h.sg _ ha]) (fun hs => ?_) fun _ => .ite (fun ha => by rw [h.hd ha,h.sg _ ha]) (fun _ => .err) fun _ => .then (hv h) fun _ _ _ _ hy => setF_ls hv f g _ (by omega) hy
   obtain ⟨t,a',rfl,h'⟩:=h.ne_of_isS hE hs.2
   exact .okn h' _
theorem zDH : ∀ (f lv : Nat) {a : List Tok} {x x' : PS},J e r a x x' -> LS e r a (selsQ f lv x) (selsQ f lv x')
 | 0,_,_,_,_,_ => .err
 | f + 1,lv,a,x,x',h => by
   unfold selsQ
   refine .ite (fun ha => by rw [h.sg _ ha]) (fun _ => .err) fun _ => .then (zCB hE h _).lo fun _ _ y y' hy => ?_
   exact setF_ls hE (fun h => sel_lo hE (fun h => (zDH f (lv + 1) h).lo) h) _ _ _ (by have:=hy.len hE; omega) hy
theorem set_ls {a : List Tok} {x x' : PS} (h : J e r a x x') : LS e r a (setQ x) (setQ x'):=zDH hE _ _ h
theorem zHW : ∀ (f g : Nat) (acc : List D) {a : List Tok} {x x' : PS},f <= g -> J e r a x x' -> LS e r a (varsF f acc x) (varsF g acc x')
 | 0,_,_,_,_,_,_,_ => .err
 | f + 1,0,_,_,_,_,hfg,_ => by omega
 | f + 1,g + 1,acc,a,x,x',hfg,h => by
   unfold varsF
   refine .ite (fun ha => by rw [h.sg _ ha]) (fun hs => ?_) fun _ => .ite (fun ha => by rw [h.sg _ ha]) (fun _ => .err) fun _ => .then (zCB hE h _).lo fun _ _ _ _ hy => .then (zA6 hE hy).lo fun _ _ _ _ hz => .then (zCB hE hz _).lo fun _ _ _ _ hu => .then (typ_lo hE hu) fun _ _ v v' hv => .then (.ite (hv.sg _) (fun hs => ?_) fun _ => .okk hv _) fun _ _ _ _ ho => zHW f g _ (by omega) ho
   . obtain ⟨t,a',rfl,h'⟩:=h.ne_of_isS hE hs.2
     exact .okn h' _
   . obtain ⟨t,a',rfl,h'⟩:=hv.ne_of_isS hE hs
     exact LO.mono (b:=a') (.then (zFI hE (x:={ nxT v with vr:=false }) (x':={ nxT v' with vr:=false }) ⟨h'.l,h'.r,rfl,h'.nd⟩) fun _ _ o o' ho => .okk (x:={ o with vr:=true }) (x':={ o' with vr:=true }) ⟨ho.l,ho.r,rfl,ho.nd⟩ _) ⟨[t],rfl⟩
theorem op_ls (k : Int) {a : List Tok} {x x' : PS} (h : J e r a x x') : LS e r a (opQ k x) (opQ k x'):=by
 unfold opQ
 refine .then (.ite (fun ha => by rw [h.hd ha]) (fun hk => ?_) fun _ => .okk h _) fun _ _ y y' hy => .then (.ite (hy.sg _) (fun hs => ?_) fun _ => .okk hy _) fun _ _ _ _ hz => .pure (set_ls hE hz) fun _ _ u u' hu => ⟨_,u,u',rfl,rfl,hu⟩
 . obtain ⟨t,a',rfl,h'⟩:=h.ne_of_k hE (by rw [hk]; decide)
   rw [h.hd (by simp)]
   exact (LS.okn h' _).lo
 . obtain ⟨t,a',rfl,h'⟩:=hy.ne_of_isS hE hs
   exact (zHW hE _ _ _ (hy.len hE) h').lo.mono ⟨[t],rfl⟩
theorem frag_ls {a : List Tok} {x x' : PS} (h : J e r a x x') : LS e r a (zBb x) (zBb x'):=by
 unfold zBb
 refine .ite (fun ha => by rw [h.hd ha]) (fun _ => .err) fun _ => .then (zA6 hE h).lo fun _ _ y y' hy => .ite (fun ha => by rw [hy.hd ha]) (fun hk => ?_) fun _ => .err
 obtain ⟨t,a',rfl,h'⟩:=hy.ne_of_k hE (by rw [hk.1]; decide)
 refine LS.mono (b:=a') ?_ ⟨[t],rfl⟩
 exact .then (zA6 hE h').lo fun _ _ _ _ hz => .pure (set_ls hE hz) fun _ _ u u' hu => ⟨_,u,u',rfl,rfl,hu⟩
end
end Go.Proofs.YtdlnnlglmifceaaGreatDoor
namespace Go.Proofs.YtdlnnlglmifceaaGreatDoor
def En (x : PS) : Prop:=∃ a e,x.ts = a ++ [e] /\ e.k = 5 /\ ∀ t ∈ x.ts,t.s.length <= 100000
theorem En.cons {x : PS} (h : En x) : ∃ t r,x.ts = t :: r:=by
 obtain ⟨a,e,h1,-⟩:=h
 rw [h1]
 cases a with
 | nil => exact ⟨e,[],rfl⟩
 | cons t a => exact ⟨t,a ++ [e],rfl⟩
theorem En.lo {α : Type} {x y : PS} {v : α} (h : En x) {p : PS -> PR α} (hp : ∀ {e : Tok} {a : List Tok} {x x' : PS},Ends e [e] -> J e [e] a x x' -> LO e [e] a (p x) (p x')) (hq : p x = .ok (v,y)) : En y /\ y.ts.length <= x.ts.length:=by
 obtain ⟨a,e,h1,h2,h4⟩:=h
 obtain ⟨b,⟨d,hd⟩,h3,-⟩:=hp (e:=e) (a:=a) (x:=x) (x':=x) ⟨h2,by simp⟩ ⟨h1,h1,rfl,rfl⟩ v y hq
 exact ⟨⟨b,e,h3,h2,fun t ht => h4 t (by rw [h1,hd]; rw [h3] at ht; simp at ht |-; exact .inr ht)⟩,by rw [h3,h1,hd]; simp⟩
theorem En.ls {α : Type} {x y : PS} {v : α} (h : En x) {p : PS -> PR α} (hp : ∀ {e : Tok} {a : List Tok} {x x' : PS},Ends e [e] -> J e [e] a x x' -> LS e [e] a (p x) (p x')) (hq : p x = .ok (v,y)) : En y /\ y.ts.length < x.ts.length:=by
 obtain ⟨a,e,h1,h2,h4⟩:=h
 obtain ⟨b,y',⟨t,d,hd⟩,-,h3⟩:=hp (e:=e) (a:=a) (x:=x) (x':=x) ⟨h2,by simp⟩ ⟨h1,h1,rfl,rfl⟩ v y hq
 exact ⟨⟨b,e,h3.l,h2,fun t ht => h4 t (by rw [h1,hd]; rw [h3.l] at ht; simp at ht |-; exact .inr (.inr ht))⟩,by rw [h3.l,h1,hd]; simp; omega⟩
theorem En.name {x y : PS} {v : List UInt8} (h : En x) (hq : nameQ x = .ok (v,y)) : En y /\ y.ts.length < x.ts.length:=h.ls (p:=nameQ) (fun hE h => zA6 hE h) hq
theorem En.take {x y : PS} {s : List UInt8} (h : En x) (hq : takeQ s x = .ok ((),y)) : En y /\ y.ts.length < x.ts.length:=h.ls (p:=takeQ s) (fun hE h => zCB hE h s) hq
theorem En.typ {x y : PS} {v : D} (h : En x) (hq : typQ x = .ok (v,y)) : En y /\ y.ts.length <= x.ts.length:=h.lo (p:=typQ) (fun hE h => typ_lo hE h) hq
theorem En.value {f lv : Nat} {x y : PS} {v : D} (h : En x) (hq : valueQ f lv x = .ok (v,y)) : En y /\ y.ts.length <= x.ts.length:=h.lo (p:=valueQ f lv) (fun hE h => zCQ hE f lv h) hq
theorem En.whole {x y : PS} {v : D} (h : En x) (hq : zAx x = .ok (v,y)) : En y /\ y.ts.length <= x.ts.length:=h.lo (p:=zAx) (fun hE h => zFI hE h) hq
theorem En.args {x y : PS} {v : List D} (h : En x) (hq : argsQ x = .ok (v,y)) : En y /\ y.ts.length <= x.ts.length:=h.lo (p:=argsQ) (fun hE h => zFs hE h) hq
theorem En.dirs {x y : PS} {v : List D} (h : En x) (hq : dirsQ x = .ok (v,y)) : En y /\ y.ts.length <= x.ts.length:=h.lo (p:=dirsQ) (fun hE h => zCm hE h) hq
theorem En.sel {f lv : Nat} {x y : PS} {v : D} (h : En x) (hq : selQ (selsQ f lv) x = .ok (v,y)) : En y /\ y.ts.length <= x.ts.length:=h.lo (p:=selQ (selsQ f lv)) (fun hE h => sel_lo hE (fun h => (zDH hE f lv h).lo) h) hq
theorem En.sels {f lv : Nat} {x y : PS} {v : List D} (h : En x) (hq : selsQ f lv x = .ok (v,y)) : En y /\ y.ts.length < x.ts.length:=h.ls (p:=selsQ f lv) (fun hE h => zDH hE f lv h) hq
theorem En.op {k : Int} {x y : PS} {v : D} (h : En x) (hq : opQ k x = .ok (v,y)) : En y /\ y.ts.length < x.ts.length:=h.ls (p:=opQ k) (fun hE h => op_ls hE k h) hq
theorem En.frag {x y : PS} {v : D} (h : En x) (hq : zBb x = .ok (v,y)) : En y /\ y.ts.length < x.ts.length:=h.ls (p:=zBb) (fun hE h => frag_ls hE h) hq
theorem En.nx {x : PS} (h : En x) (hk : (hdT x).k ≠ 5) : En (nxT x) /\ (nxT x).ts.length < x.ts.length:=by
 obtain ⟨a,e,h1,h2,h4⟩:=h
 have hJ : J e [e] a x x:=⟨h1,h1,rfl,rfl⟩
 obtain ⟨t,a',rfl,h3⟩:=hJ.ne_of_k (e:=e) (r:=[e]) ⟨h2,by simp⟩ hk
 exact ⟨⟨a',e,h3.l,h2,fun t ht => h4 t (by rw [h1]; rw [h3.l] at ht; simp at ht |-; exact .inr ht)⟩,by rw [h3.l,h1]; simp⟩
theorem En.hd {x : PS} (h : En x) : (hdT x).s.length <= 100000:=by
 obtain ⟨t,r,ht⟩:=h.cons
 obtain ⟨a,e,-,-,h4⟩:=h
 have : hdT x = t:=by unfold hdT; rw [ht]; rfl
 rw [this]
 exact h4 t (by rw [ht]; simp)
theorem En.sg {x : PS} {s : List UInt8} (h : En x) (hk : isS x s = true) : En (nxT x) /\ (nxT x).ts.length < x.ts.length:=by
 refine h.nx ?_
 unfold isS at hk
 simp only [Bool.and_eq_true,beq_iff_eq] at hk
 rw [hk.1]; decide
theorem En.nx0 {x : PS} (h : En x) : En (nxT x):=by
 by_cases hk : (hdT x).k = 5
 . have : nxT x = x:=by unfold nxT; rw [if_pos hk]
   rw [this]; exact h
 . exact (h.nx hk).1
theorem En.valueL {f lv : Nat} {x y : PS} {v : D} (h : En x) (hq : valueQ f lv x = .ok (v,y)) : En y /\ y.ts.length < x.ts.length:=by
 refine ⟨(h.value hq).1,?_⟩
 cases f with
 | zero => cases hq
 | succ f =>
   unfold valueQ at hq
   split at hq
   . cases hq
   . rename_i hno
     have hk : (hdT x).k ≠ 5:=fun hk => hno (by unfold zCG; rw [hk]; rfl)
     have h1:=h.nx hk
     have hy : En ({ nxT x with nd:=x.nd + 1 } : PS):=h1.1
     split at hq
     . cases hq
     split at hq
     . cases hq
     dsimp only at hq
     split at hq
     . cases hq; exact h1.2
     split at hq
     . cases hq; exact h1.2
     split at hq
     . cases hq; exact h1.2
     split at hq
     . have:=(hy.lo (p:=fun x => zw (nameQ x) fun n z => .ok (valD 7 0 n [] [],z)) (fun hE h => .then (zA6 hE h).lo fun _ _ _ _ hz => .okk hz _) hq).2
       exact Nat.lt_of_le_of_lt this h1.2
     split at hq
     . have:=(hy.lo (p:=fun x => zw (itemsQ (valueQ f (lv + 1)) (x.ts.length + 1) [] x) fun l z => .ok (valD 5 0 [] l [],z)) (fun hE h => .then (zFi hE (fun h => zCQ hE f (lv + 1) h) _ _ _ (by have:=h.len hE; omega) h).lo fun _ _ _ _ hz => .okk hz _) hq).2
       exact Nat.lt_of_le_of_lt this h1.2
     . have:=(hy.lo (p:=fun x => zw (zAV (valueQ f (lv + 1)) (x.ts.length + 1) [] [] x) fun l z => .ok (valD 6 0 [] l.2 l.1,z)) (fun hE h => .then (zEI hE (fun h => zCQ hE f (lv + 1) h) _ _ _ _ (by have:=h.len hE; omega) h).lo fun _ _ _ _ hz => .okk hz _) hq).2
       exact Nat.lt_of_le_of_lt this h1.2
theorem zAu {x : PS} {t : Tok} {r : List Tok} (h : x.ts = t :: r) : hdT x = t:=by unfold hdT; rw [h]; rfl
end Go.Proofs.YtdlnnlglmifceaaGreatDoor
