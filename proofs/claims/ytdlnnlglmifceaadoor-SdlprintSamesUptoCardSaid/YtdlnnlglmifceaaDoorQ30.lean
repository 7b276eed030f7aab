import Derived.Shelf.Strings.Repeat
import Derived.Test.YtdlnnlglmifceaaDoorQ29
set_option maxHeartbeats 8000000
set_option maxRecDepth 100000
set_option linter.unusedVariables false
set_option linter.unusedSimpArgs false
namespace Go.Proofs.YtdlnnlglmifceaaDoor
open Go.RowKit
attribute [local irreducible] wpList Calls Code.wp AW AWo OpOk seqK zAf zAj loopK endK AC zAH Yld Sub
attribute [local irreducible] ACB YldG
theorem arr_size (l : List UInt8) : (⟨l.toArray⟩ : ByteArray).size = l.length:=zAM l
def opens : List D -> List UInt8
 | [] => []
 | d :: ds => if d.n == 1 then opens ds else opens ds ++ [91]
def closes : List D -> List UInt8
 | [] => []
 | d :: ds => if d.n == 1 then closes ds ++ [33] else closes ds ++ [93]
theorem zE9 : ∀ l,[91] ++ opens l = opens l ++ [91]
 | [] => rfl
 | d :: ds => by
   have:=zE9 ds
   unfold opens
   split
   . exact this
   . rw [<- List.append_assoc,this]
theorem refB_eq (n : List UInt8) : ∀ l,refB n l = opens l ++ n ++ closes l
 | [] => by simp [refB,opens,closes]
 | d :: ds => by
   unfold refB opens closes
   rw [refB_eq n ds]
   split
   . simp
   . rw [<- zE9]; simp
theorem zDj : ∀ l,(opens l).length <= l.length
 | [] => Nat.le_refl _
 | d :: ds => by
   have:=zDj ds
   unfold opens
   split <;> simp <;> omega
theorem zDP : ∀ l,(closes l).length = l.length
 | [] => rfl
 | d :: ds => by
   have:=zDP ds
   unfold closes
   split <;> simp <;> omega
def H150 (n : List UInt8) (l : List D) (j : Nat) : Vst 29:=
 stS 29 [(1,.bx 1 0),(3,.bx 3 0),(4,.bx 4 0),(5,.c (.int .i64 ((j : Int) - 1)))] [(1,.box 38 [.c (.string (bs n)),.sl 3 l]),(3,.bld 89 5 (opens (l.drop j))),(4,.bld 89 5 (closes (l.drop j)))]
theorem refP_ac (n : List UInt8) (l : List D) (hn : n.length <= 2000000) (hl : l.length <= 2000000) : AC EN Tryd.prog 64 [.agg [.c (.string (bs n)),.sl 3 l]] (.c (.string (bs (refB n l)))):=by
 have ho:=zDj
 have hc:=zDP
 refine zV 29 Tryd.func64 rfl rfl rfl rfl ?_
 intro s w he
 repeat' (first
|refine zA ?_
|refine zI ?_
|refine zZ ?_
|refine zW ?_
|refine zi ?_
|apply aw_1
 conv => whnf
 refine ⟨?_,trivial⟩
|apply s_1
 conv => whnf; arg 1; arg 4; arg 3; whnf
 refine ⟨?_,?_⟩
|apply zAF rfl
 . conv => lhs; whnf
 . conv => lhs; whnf; arg 2; whnf
|apply zk rfl
 . conv => lhs; whnf
 . conv => lhs; whnf
 . first | fail
|apply zAO rfl rfl rfl rfl
 . conv => lhs; whnf; arg 1; whnf
 . rfl
|apply zAV rfl rfl rfl rfl
 . conv => lhs; whnf; arg 1; whnf
 . rfl
|apply zq (by kernel_rfl) (by kernel_rfl)
|apply zAR
|apply zAQ rfl
 . conv => lhs; whnf
 . conv => lhs; whnf; arg 2; whnf
|apply zAU rfl
 . conv => lhs; whnf
 . conv => lhs; whnf
 . first | fail
|exact zR
|exact zX
|exact all_nil
|show List.all _ _ = true; rfl
|show zAC _ _ = true; rfl
|exact ([] : List Nat)
|exact (1000000 : Nat)
|apply zS
 . conv => lhs; whnf; arg 1; arg 1; whnf
|apply zU
 . conv => lhs; whnf; arg 1; arg 1; whnf
|refine zd (by conv => lhs; whnf) ?_ ?_ <;> intro hb
|refine zv ?_
|refine zh ?_
|refine zJ ?_
|refine zK ?_
|refine zH ?_
|refine zE rfl ?_
|refine zM rfl ?_
|refine zL ?_
|refine zO ?_
|refine zC ?_
|refine zN ?_
|refine zAG ?_
|refine zB ?_
|refine ⟨_,by conv => lhs; whnf; arg 2; whnf,?_⟩; conv => rhs; whnf
|exact trivial
|intro hg)
 . refine zAA ((Sub.bld (m:=3) (e:=5) rfl).trans (Sub.bld (m:=4) (e:=5) rfl)) ?_
   refine z7 (fun j st => j <= l.length /\ Sub (cx EN Tryd.prog s w he) st (H150 n l j)) l.length ⟨Nat.le_refl _,?_⟩ ?_
   . refine Sub.live ⟨rfl,rfl,rfl,rfl,trivial⟩ ⟨rfl,?_,?_,trivial⟩
     . rw [List.drop_length]; rfl
     . rw [List.drop_length]; rfl
   . rintro j st ⟨hj,hs⟩
     refine zAA hs ?_
     have h1:=ho (l.drop j)
     have h2:=hc (l.drop j)
     rw [List.length_drop] at h1 h2
     have hdrop : 0 < j -> l.drop (j - 1) = gD l (j - 1) :: l.drop j:=fun h => by
      have hlt : j - 1 < l.length:=by omega
      rw [List.drop_eq_getElem_cons hlt,show j - 1 + 1 = j by omega]
      congr 1
      unfold gD; rw [List.getD_eq_getElem?_getD,List.getElem?_eq_getElem hlt]; rfl
     have hnat : ((j : Int) - 1).toNat = j - 1:=by omega
     repeat' (first
|apply s_wb rfl
 . conv => lhs; whnf
 . conv => lhs; whnf
 . rfl
 . conv => lhs; whnf; arg 1; whnf
 . rfl
 . rfl
|apply y_bs rfl
 . conv => lhs; whnf
 . conv => lhs; whnf
 . rfl
 . conv => lhs; whnf; arg 1; whnf
 . rfl
|refine zA ?_
|refine zI ?_
|refine zZ ?_
|refine zW ?_
|refine zi ?_
|apply aw_1
 conv => whnf
 refine ⟨?_,trivial⟩
|apply s_1
 conv => whnf; arg 1; arg 4; arg 3; whnf
 refine ⟨?_,?_⟩
|apply zAF rfl
 . conv => lhs; whnf
 . conv => lhs; whnf; arg 2; whnf
|apply zk rfl
 . conv => lhs; whnf
 . conv => lhs; whnf
 . first | fail
|apply zAO rfl rfl rfl rfl
 . conv => lhs; whnf; arg 1; whnf
 . rfl
|apply zAV rfl rfl rfl rfl
 . conv => lhs; whnf; arg 1; whnf
 . rfl
|apply zq (by kernel_rfl) (by kernel_rfl)
|apply zAR
|apply zAQ rfl
 . conv => lhs; whnf
 . conv => lhs; whnf; arg 2; whnf
|apply zAU rfl
 . conv => lhs; whnf
 . conv => lhs; whnf
 . first | fail
|exact zR
|exact zX
|exact all_nil
|show List.all _ _ = true; rfl
|show zAC _ _ = true; rfl
|exact ([] : List Nat)
|exact (1000000 : Nat)
|apply zS
 . conv => lhs; whnf; arg 1; arg 1; whnf
|apply zU
 . conv => lhs; whnf; arg 1; arg 1; whnf
|refine zd (by conv => lhs; whnf) ?_ ?_ <;> intro hb
|refine zv ?_
|refine zh ?_
|refine zJ ?_
|refine zK ?_
|refine zH ?_
|refine zE rfl ?_
|refine zM rfl ?_
|refine zL ?_
|refine zO ?_
|refine zC ?_
|refine zN ?_
|refine zAG ?_
|refine zB ?_
|refine ⟨_,by conv => lhs; whnf; arg 2; whnf,?_⟩; conv => rhs; whnf
|exact trivial
|intro hg)
     . rename_i hb0
       have hj0 : 0 < j:=by simp at hb0; omega
       refine za (j':=j - 1) (by omega) ⟨by omega,Sub.live ⟨rfl,rfl,rfl,?_,trivial⟩ ⟨rfl,?_,?_,trivial⟩⟩
       . show V.c (.int .i64 ((j : Int) - 1 - 1)) = _
         rw [show ((j - 1 : Nat) : Int) - 1 = (j : Int) - 1 - 1 by omega]
       . show some (Res.bld _ _ (opens (l.drop j))) = _
         rw [hdrop hj0,opens]
         rw [hnat] at hb
         rw [if_pos hb]
       . show some (Res.bld _ _ (closes (l.drop j) ++ [33])) = _
         rw [hdrop hj0,closes]
         rw [hnat] at hb
         rw [if_pos hb]
     . exact zu (by omega)
     . omega
     . rename_i hb0
       have hj0 : 0 < j:=by simp at hb0; omega
       refine za (j':=j - 1) (by omega) ⟨by omega,Sub.live ⟨rfl,rfl,rfl,?_,trivial⟩ ⟨rfl,?_,?_,trivial⟩⟩
       . show V.c (.int .i64 ((j : Int) - 1 - 1)) = _
         rw [show ((j - 1 : Nat) : Int) - 1 = (j : Int) - 1 - 1 by omega]
       . show some (Res.bld _ _ (opens (l.drop j) ++ [91])) = _
         rw [hdrop hj0,opens]
         rw [hnat] at hb
         rw [if_neg (by rw [hb]; simp)]
       . show some (Res.bld _ _ (closes (l.drop j) ++ [93])) = _
         rw [hdrop hj0,closes]
         rw [hnat] at hb
         rw [if_neg (by rw [hb]; simp)]
     . exact zu (by omega)
     . omega
     . omega
     . simp at hb; omega
     . have hj0 : j = 0:=by simp at hb; omega
       subst hj0
       rw [List.drop_zero,refB_eq,<- zAk,<- zAk]
       rfl
     all_goals (simp only [ByteArray.size_append,zAM,arr_size,maxLen]; omega)
 . exact zu (by omega)
end Go.Proofs.YtdlnnlglmifceaaDoor
namespace Go.Proofs.YtdlnnlglmifceaaDoor
structure SelOk (K : Nat) (inner : List D -> Prop) (s : D) : Prop where
 args : ArgsOk K (s.f 4).l
 dirs : DirsOk K (s.f 5).l
 kind : (s.f 0).n = 1 \/ ((s.f 0).n = 2 /\ (s.f 6).l = []) \/ ((s.f 0).n = 3 /\ (s.f 6).l ≠ [])
 sub : inner (s.f 6).l
def SelsOk (K : Nat) : Nat -> List D -> Prop
 | 0,l => l = []
 | f + 1,l => ∀ i,i < l.length -> SelOk K (SelsOk K f) (gD l i)
structure J (e : Tok) (r : List Tok) (a : List Tok) (x x' : PS) : Prop where
 l : x.ts = a ++ [e]
 r : x'.ts = a ++ r
 vr : x'.vr = x.vr
 nd : x'.nd = x.nd
def LO (e : Tok) (r : List Tok) {α : Type} (a : List Tok) (p p' : PR α) : Prop:=
 ∀ v y,p = .ok (v,y) -> ∃ b,(∃ d,a = d ++ b) /\ y.ts = b ++ [e] /\ (b ≠ [] -> ∃ y',p' = .ok (v,y') /\ J e r b y y')
def LS (e : Tok) (r : List Tok) {α : Type} (a : List Tok) (p p' : PR α) : Prop:=
 ∀ v y,p = .ok (v,y) -> ∃ b y',(∃ t d,a = t :: d ++ b) /\ p' = .ok (v,y') /\ J e r b y y'
structure Ends (e : Tok) (r : List Tok) : Prop where
 k : e.k = 5
 r : r ≠ []
section
variable {e : Tok} {r : List Tok} {α β : Type}
theorem LS.lo {a : List Tok} {p p' : PR α} (h : LS e r a p p') : LO e r a p p':=fun v y hp => by
 obtain ⟨b,y',⟨t,d,hd⟩,h1,h2⟩:=h v y hp
 exact ⟨b,⟨t :: d,hd⟩,h2.l,fun _ => ⟨y',h1,h2⟩⟩
theorem LO.zero {p p' p'' : PR α} (h : LO e r [] p p') : LO e r [] p p'':=fun v y hp => by
 obtain ⟨b,⟨d,hd⟩,h1,h2⟩:=h v y hp
 have : b = []:=(List.append_eq_nil_iff.1 hd.symm).2
 subst this
 exact ⟨[],⟨[],rfl⟩,h1,fun h => (h rfl).elim⟩
theorem LS.zero {p p' p'' : PR α} (h : LS e r [] p p') : LS e r [] p p'':=fun v y hp => by
 obtain ⟨b,y',⟨t,d,hd⟩,-⟩:=h v y hp
 cases hd
theorem LO.err {a : List Tok} {q : Nat × Int} {p' : PR α} : LO e r a (.error q) p':=fun _ _ h => by cases h
theorem LS.err {a : List Tok} {q : Nat × Int} {p' : PR α} : LS e r a (.error q) p':=fun _ _ h => by cases h
theorem LO.okk {a : List Tok} {x x' : PS} (h : J e r a x x') (v : α) : LO e r a (.ok (v,x)) (.ok (v,x')):=fun w y hp => by
 cases hp
 exact ⟨a,⟨[],rfl⟩,h.l,fun _ => ⟨x',rfl,h⟩⟩
theorem LO.mono {a b : List Tok} {p p' : PR α} (h : LO e r b p p') (hab : ∃ d,a = d ++ b) : LO e r a p p':=fun v y hp => by
 obtain ⟨c,⟨d,hd⟩,h1⟩:=h v y hp
 obtain ⟨d2,hd2⟩:=hab
 exact ⟨c,⟨d2 ++ d,by rw [hd2,hd,List.append_assoc]⟩,h1⟩
theorem LS.mono {a b : List Tok} {p p' : PR α} (h : LS e r b p p') (hab : ∃ d,a = d ++ b) : LS e r a p p':=fun v y hp => by
 obtain ⟨c,y',⟨t,d,hd⟩,h1⟩:=h v y hp
 obtain ⟨d2,hd2⟩:=hab
 cases d2 with
 | nil => exact ⟨c,y',⟨t,d,by rw [hd2,hd]; rfl⟩,h1⟩
 | cons t2 d2 => exact ⟨c,y',⟨t2,d2 ++ t :: d,by rw [hd2,hd]; simp⟩,h1⟩
theorem LS.okn {t : Tok} {a : List Tok} {x x' : PS} (h : J e r a x x') (v : α) : LS e r (t :: a) (.ok (v,x)) (.ok (v,x')):=fun w y hp => by
 cases hp
 exact ⟨a,x',⟨t,[],rfl⟩,rfl,h⟩
theorem LO.ite {a : List Tok} {c c' : Prop} [Decidable c] [Decidable c'] {A A' B B' : PR α} (hc : a ≠ [] -> (c ↔ c')) (h1 : c -> LO e r a A A') (h2 : ¬ c -> LO e r a B B') : LO e r a (if c then A else B) (if c' then A' else B'):=by
 by_cases ha : a = []
 . subst ha
   by_cases h : c
   . rw [if_pos h]; exact (h1 h).zero
   . rw [if_neg h]; exact (h2 h).zero
 . by_cases h : c
   . rw [if_pos h,if_pos ((hc ha).1 h)]; exact h1 h
   . rw [if_neg h,if_neg fun h' => h ((hc ha).2 h')]; exact h2 h
theorem LS.ite {a : List Tok} {c c' : Prop} [Decidable c] [Decidable c'] {A A' B B' : PR α} (hc : a ≠ [] -> (c ↔ c')) (h1 : c -> LS e r a A A') (h2 : ¬ c -> LS e r a B B') : LS e r a (if c then A else B) (if c' then A' else B'):=by
 by_cases ha : a = []
 . subst ha
   by_cases h : c
   . rw [if_pos h]; exact (h1 h).zero
   . rw [if_neg h]; exact (h2 h).zero
 . by_cases h : c
   . rw [if_pos h,if_pos ((hc ha).1 h)]; exact h1 h
   . rw [if_neg h,if_neg fun h' => h ((hc ha).2 h')]; exact h2 h
theorem LO.then {a : List Tok} {p p' : PR α} {f f' : α -> PS -> PR β} (h : LO e r a p p') (hf : ∀ v b y y',J e r b y y' -> LO e r b (f v y) (f' v y')) : LO e r a (thenQ p f) (thenQ p' f'):=fun w z hp => by
 cases hpp : p with
 | error q => rw [hpp] at hp; cases hp
 | ok q =>
   obtain ⟨v,y⟩:=q
   obtain ⟨b,hab,h1,h2⟩:=h v y hpp
   rw [hpp] at hp
   have hp : f v y = .ok (w,z):=hp
   by_cases hb : b = []
   . subst hb
     obtain ⟨c,⟨d,hd⟩,h3,-⟩:=hf v [] y ⟨r,y.vr,y.nd⟩ ⟨h1,rfl,rfl,rfl⟩ w z hp
     have : c = []:=(List.append_eq_nil_iff.1 hd.symm).2
     subst this
     exact ⟨[],hab,h3,fun h => (h rfl).elim⟩
   . obtain ⟨y',h3,h4⟩:=h2 hb
     rw [h3]
     exact ((hf v b y y' h4).mono hab) w z hp
theorem LS.then {a : List Tok} {p p' : PR α} {f f' : α -> PS -> PR β} (h : LO e r a p p') (hf : ∀ v b y y',J e r b y y' -> LS e r b (f v y) (f' v y')) : LS e r a (thenQ p f) (thenQ p' f'):=fun w z hp => by
 cases hpp : p with
 | error q => rw [hpp] at hp; cases hp
 | ok q =>
   obtain ⟨v,y⟩:=q
   obtain ⟨b,hab,h1,h2⟩:=h v y hpp
   rw [hpp] at hp
   have hp : f v y = .ok (w,z):=hp
   by_cases hb : b = []
   . subst hb
     obtain ⟨c,y',⟨t,d,hd⟩,-⟩:=hf v [] y ⟨r,y.vr,y.nd⟩ ⟨h1,rfl,rfl,rfl⟩ w z hp
     cases hd
   . obtain ⟨y',h3,h4⟩:=h2 hb
     rw [h3]
     exact ((hf v b y y' h4).mono hab) w z hp
theorem LS.pure {a : List Tok} {p p' : PR α} {f f' : α -> PS -> PR β} (h : LS e r a p p') (hf : ∀ v b y y',J e r b y y' -> ∃ w z z',f v y = .ok (w,z) /\ f' v y' = .ok (w,z') /\ J e r b z z') : LS e r a (thenQ p f) (thenQ p' f'):=fun w z hp => by
 cases hpp : p with
 | error q => rw [hpp] at hp; cases hp
 | ok q =>
   obtain ⟨v,y⟩:=q
   obtain ⟨b,y',hab,h1,h2⟩:=h v y hpp
   rw [hpp] at hp
   have hp : f v y = .ok (w,z):=hp
   obtain ⟨w2,z2,z',h3,h4,h5⟩:=hf v b y y' h2
   rw [hp] at h3
   cases h3
   rw [h1]
   exact ⟨b,z',hab,h4,h5⟩
variable (hE : Ends e r)
theorem J.hd {a : List Tok} {x x' : PS} (h : J e r a x x') (ha : a ≠ []) : hdT x' = hdT x:=by
 cases a with
 | nil => exact (ha rfl).elim
 | cons t a => unfold hdT; rw [h.l,h.r]; rfl
theorem J.sg {a : List Tok} {x x' : PS} (h : J e r a x x') (s : List UInt8) (ha : a ≠ []) : isS x s = true ↔ isS x' s = true:=by
 unfold isS; rw [h.hd ha]
include hE
theorem J.k5 {x x' : PS} (h : J e r [] x x') : (hdT x).k = 5:=by unfold hdT; rw [h.l]; exact hE.k
theorem J.ne_of_k {a : List Tok} {x x' : PS} (h : J e r a x x') (hk : (hdT x).k ≠ 5) : ∃ t a',a = t :: a' /\ J e r a' (nxT x) (nxT x'):=by
 cases a with
 | nil => exact (hk (h.k5 hE)).elim
 | cons t a =>
   have h1:=h.hd (by simp)
   refine ⟨t,a,rfl,?_⟩
   unfold nxT
   rw [h1,if_neg hk,if_neg hk]
   exact ⟨by show x.ts.drop 1 = _; rw [h.l]; rfl,by show x'.ts.drop 1 = _; rw [h.r]; rfl,h.vr,h.nd⟩
theorem J.ne_of_isS {a : List Tok} {x x' : PS} (h : J e r a x x') {s : List UInt8} (hs : isS x s = true) : ∃ t a',a = t :: a' /\ J e r a' (nxT x) (nxT x'):=by
 refine h.ne_of_k hE ?_
 unfold isS at hs
 simp only [Bool.and_eq_true,beq_iff_eq] at hs
 rw [hs.1]; decide
theorem J.len {a : List Tok} {x x' : PS} (h : J e r a x x') : x.ts.length <= x'.ts.length:=by
 rw [h.l,h.r,List.length_append,List.length_append]
 have : 0 < r.length:=List.length_pos_iff.2 hE.r
 simp; omega
theorem zB2 {a : List Tok} {x x' : PS} (h : J e r a x x') (s : List UInt8) : LS e r a (takeQ s x) (takeQ s x'):=by
 unfold takeQ
 refine .ite (h.sg s) (fun hs => ?_) fun _ => .err
 obtain ⟨t,a',rfl,h'⟩:=h.ne_of_isS hE hs
 exact .okn h' _
theorem zA3 {a : List Tok} {x x' : PS} (h : J e r a x x') : LS e r a (zA0 x) (zA0 x'):=by
 unfold zA0
 refine .ite (fun ha => by rw [h.hd ha]) (fun hk => ?_) fun _ => .err
 obtain ⟨t,a',rfl,h'⟩:=h.ne_of_k hE (by rw [hk]; decide)
 rw [h.hd (by simp)]
 exact .okn h' _
theorem open_j : ∀ (f g : Nat) {a : List Tok} {x x' : PS},J e r a x x' -> x.ts.length <= f -> x'.ts.length <= g -> ∃ b,(∃ d,a = d ++ b) /\ (zBK f x).2.ts = b ++ [e] /\ (b ≠ [] -> (zBK g x').1 = (zBK f x).1 /\ J e r b (zBK f x).2 (zBK g x').2)
 | 0,g,a,x,x',h,hf,_ => by rw [h.l] at hf; simp at hf
 | f + 1,0,a,x,x',h,_,hg => by have:=h.len hE; rw [h.l] at this; simp at this; omega
 | f + 1,g + 1,a,x,x',h,hf,hg => by
   by_cases hs : isS x [91] = true
   . obtain ⟨t,a',rfl,h'⟩:=h.ne_of_isS hE hs
     have hs':=(h.sg [91] (by simp)).1 hs
     have e1 : zBK (f + 1) x = ((zBK f (nxT x)).1 + 1,(zBK f (nxT x)).2):=by rw [zBK,if_pos hs]
     have e2 : zBK (g + 1) x' = ((zBK g (nxT x')).1 + 1,(zBK g (nxT x')).2):=by rw [zBK,if_pos hs']
     rw [e1,e2]
     obtain ⟨b,⟨d,hd⟩,h1,h2⟩:=open_j f g h' (by rw [h'.l]; rw [h.l] at hf; simpa using hf) (by rw [h'.r]; rw [h.r] at hg; simpa using hg)
     exact ⟨b,⟨t :: d,by rw [hd]; rfl⟩,h1,fun hb => ⟨by rw [(h2 hb).1],(h2 hb).2⟩⟩
   . have e1 : zBK (f + 1) x = (0,x):=by rw [zBK,if_neg hs]
     rw [e1]
     refine ⟨a,⟨[],rfl⟩,h.l,fun ha => ?_⟩
     have e2 : zBK (g + 1) x' = (0,x'):=by rw [zBK,if_neg fun hq => hs ((h.sg [91] ha).2 hq)]
     rw [e2]
     exact ⟨rfl,h⟩
theorem zF9 : ∀ (n : Nat) (w : List Int) {a : List Tok} {x x' : PS},J e r a x x' -> LO e r a (closeQ n w x) (closeQ n w x')
 | 0,w,a,x,x',h => by
   have e1 : ∀ x,closeQ 0 w x = if isS x [33] = true then .ok (1 :: w,nxT x) else .ok (w,x):=fun x => by unfold closeQ; split <;> rfl
   rw [e1,e1]
   refine .ite (h.sg _) (fun hs => ?_) fun _ => .okk h _
   obtain ⟨t,a',rfl,h'⟩:=h.ne_of_isS hE hs
   exact (LS.okn h' _).lo
 | n + 1,w,a,x,x',h => by
   have e1 : ∀ x,closeQ (n + 1) w x = if isS x [33] = true then thenQ (takeQ [93] (nxT x)) fun _ y => closeQ n (2 :: 1 :: w) y else thenQ (takeQ [93] x) fun _ y => closeQ n (2 :: w) y:=fun x => by
    rw [closeQ]; split <;> rfl
   rw [e1,e1]
   refine .ite (h.sg _) (fun hs => ?_) fun _ => .then (zB2 hE h _).lo fun _ _ _ _ hy => zF9 n _ hy
   obtain ⟨t,a',rfl,h'⟩:=h.ne_of_isS hE hs
   exact (LO.then (zB2 hE h' _).lo fun _ _ _ _ hy => zF9 n _ hy).mono ⟨[t],rfl⟩
theorem inner_lo {a : List Tok} {x x' : PS} (h : J e r a x x') : LO e r a (zFG x) (zFG x'):=by
 obtain ⟨b,hab,h1,h2⟩:=open_j hE x.ts.length x'.ts.length h (Nat.le_refl _) (Nat.le_refl _)
 unfold zFG
 by_cases hb : b = []
 . subst hb
   intro v y hp
   have hk : zA0 (zBK x.ts.length x).2 = .error ((hdT (zBK x.ts.length x).2).i,3):=by
    unfold zA0
    rw [if_neg]
    unfold hdT
    rw [h1]
    show ¬ e.k = 2
    rw [hE.k]; decide
   rw [hk] at hp
   cases hp
 . obtain ⟨h3,h4⟩:=h2 hb
   rw [h3]
   refine LO.mono (b:=b) ?_ hab
   exact .then (zA3 hE h4).lo fun _ _ _ _ hy => .then (zF9 hE _ _ hy) fun _ _ _ _ hz => .okk hz _
theorem typ_lo {a : List Tok} {x x' : PS} (h : J e r a x x') : LO e r a (typQ x) (typQ x'):=
 .then (inner_lo hE h) fun _ _ _ _ hy => .ite (fun _ => Iff.rfl) (fun _ => .err) fun _ => .okk hy _
theorem zFz {v v' : PS -> PR D} (hv : ∀ {a : List Tok} {x x' : PS},J e r a x x' -> LO e r a (v x) (v' x')) : ∀ (f g : Nat) (acc : List D) {a : List Tok} {x x' : PS},f <= g -> J e r a x x' -> LS e r a (zCK v f acc x) (zCK v' g acc x')
 | 0,_,_,_,_,_,_,_ => .err
 | f + 1,0,_,_,_,_,hfg,_ => by omega
 | f + 1,g + 1,acc,a,x,x',hfg,h => by
   unfold zCK
   refine .ite (h.sg _) (fun hs => ?_) fun _ => .then (hv h) fun _ _ _ _ hy => zFz hv f g _ (by omega) hy
   obtain ⟨t,a',rfl,h'⟩:=h.ne_of_isS hE hs
   exact .okn h' _
theorem zEW {v v' : PS -> PR D} (hv : ∀ {a : List Tok} {x x' : PS},J e r a x x' -> LO e r a (v x) (v' x')) : ∀ (f g : Nat) (ks : List (List UInt8)) (acc : List D) {a : List Tok} {x x' : PS},f <= g -> J e r a x x' -> LS e r a (zBa v f ks acc x) (zBa v' g ks acc x')
 | 0,_,_,_,_,_,_,_,_ => .err
 | f + 1,0,_,_,_,_,_,hfg,_ => by omega
 | f + 1,g + 1,ks,acc,a,x,x',hfg,h => by
   unfold zBa
   refine .ite (h.sg _) (fun hs => ?_) fun _ => .then (zA3 hE h).lo fun k _ _ _ hy => .ite (fun _ => Iff.rfl) (fun _ => .err) fun _ => .then (zB2 hE hy _).lo fun _ _ _ _ hz => .then (hv hz) fun _ _ _ _ hu => zEW hv f g _ _ (by omega) hu
   obtain ⟨t,a',rfl,h'⟩:=h.ne_of_isS hE hs
   exact .okn h' _
theorem zCb : ∀ (f lv : Nat) {a : List Tok} {x x' : PS},J e r a x x' -> LO e r a (valueQ f lv x) (valueQ f lv x')
 | 0,_,_,_,_,_ => .err
 | f + 1,lv,a,x,x',h => by
   by_cases ha : a = []
   . intro v y hp
     subst ha
     have hk:=h.k5 hE
     unfold valueQ at hp
     rw [if_pos (by unfold zGY; rw [hk]; rfl)] at hp
     cases hp
   . have hh:=h.hd ha
     have hn : zGY x' = zGY x:=by unfold zGY isS; rw [hh,h.vr]
     unfold valueQ
     rw [hn,hh,h.nd]
     refine .ite (fun _ => Iff.rfl) (fun _ => .err) fun hno => ?_
     obtain ⟨t,a',rfl,h'⟩:=h.ne_of_k hE (fun hk => hno (by unfold zGY; rw [hk]; rfl))
     have hy : J e r a' { nxT x with nd:=x.nd + 1 } { nxT x' with nd:=x.nd + 1 }:=⟨h'.l,h'.r,h'.vr,rfl⟩
     have hlen : (nxT x).ts.length <= (nxT x').ts.length:=h'.len hE
     refine .ite (fun _ => Iff.rfl) (fun _ => .err) fun _ => .ite (fun _ => Iff.rfl) (fun _ => .err) fun _ => ?_
     dsimp only
     refine LO.mono (b:=a') ?_ ⟨[t],rfl⟩
     refine .ite (fun _ => Iff.rfl) (fun _ => .okk hy _) fun _ => .ite (fun _ => Iff.rfl) (fun _ => .okk hy _) fun _ => .ite (fun _ => Iff.rfl) (fun _ => .okk hy _) fun _ => .ite (fun _ => Iff.rfl) (fun _ => .then (zA3 hE hy).lo fun _ _ _ _ hz => .okk hz _) fun _ => .ite (fun _ => Iff.rfl) (fun _ => ?_) fun _ => ?_
     . exact .then (zFz hE (fun h => zCb f (lv + 1) h) _ _ _ (by omega) hy).lo fun _ _ _ _ hz => .okk hz _
     . exact .then (zEW hE (fun h => zCb f (lv + 1) h) _ _ _ _ (by omega) hy).lo fun _ _ _ _ hz => .okk hz _
theorem zCz {a : List Tok} {x x' : PS} (h : J e r a x x') : LO e r a (zCP x) (zCP x'):=zCb hE _ _ ⟨h.l,h.r,h.vr,rfl⟩
theorem zIY : ∀ (f g : Nat) (acc : List D) {a : List Tok} {x x' : PS},f <= g -> J e r a x x' -> LS e r a (zG0 f acc x) (zG0 g acc x')
 | 0,_,_,_,_,_,_,_ => .err
 | f + 1,0,_,_,_,_,hfg,_ => by omega
 | f + 1,g + 1,acc,a,x,x',hfg,h => by
   unfold zG0
   refine .ite (fun ha => by rw [h.sg _ ha]) (fun hs => ?_) fun _ => .ite (fun ha => by rw [h.hd ha]) (fun _ => .err) fun _ => .then (zA3 hE h).lo fun _ _ _ _ hy => .then (zB2 hE hy _).lo fun _ _ _ _ hz => .then (zCz hE hz) fun _ _ _ _ hu => zIY f g _ (by omega) hu
   obtain ⟨t,a',rfl,h'⟩:=h.ne_of_isS hE hs.2
   exact .okn h' _
theorem zGD {a : List Tok} {x x' : PS} (h : J e r a x x') : LO e r a (argsQ x) (argsQ x'):=by
 unfold argsQ
 refine .ite (h.sg _) (fun hs => ?_) fun _ => .okk h _
 obtain ⟨t,a',rfl,h'⟩:=h.ne_of_isS hE hs
 exact (zIY hE _ _ _ (h.len hE) h').lo.mono ⟨[t],rfl⟩
theorem zIN : ∀ (f g : Nat) (acc : List D) {a : List Tok} {x x' : PS},f <= g -> J e r a x x' -> LO e r a (dirsF f acc x) (dirsF g acc x')
 | 0,_,_,_,_,_,_,_ => .err
 | f + 1,0,_,_,_,_,hfg,_ => by omega
 | f + 1,g + 1,acc,a,x,x',hfg,h => by
   unfold dirsF
   refine .ite (h.sg _) (fun hs => ?_) fun _ => .okk h _
   obtain ⟨t,a',rfl,h'⟩:=h.ne_of_isS hE hs
   exact LO.mono (b:=a') (.ite (fun _ => Iff.rfl) (fun _ => .err) fun _ => .then (zA3 hE h').lo fun _ _ _ _ hy => .then (zGD hE hy) fun _ _ _ _ hz => zIN f g _ (by omega) hz) ⟨[t],rfl⟩
theorem zDd {a : List Tok} {x x' : PS} (h : J e r a x x') : LO e r a (dirsQ x) (dirsQ x'):=zIN hE _ _ _ (by have:=h.len hE; omega) h
theorem sel_lo {v v' : PS -> PR (List D)} (hv : ∀ {a : List Tok} {x x' : PS},J e r a x x' -> LO e r a (v x) (v' x')) {a : List Tok} {x x' : PS} (h : J e r a x x') : LO e r a (selQ v x) (selQ v' x'):=by
 unfold selQ
 refine .ite (h.sg _) (fun hs => ?_) fun _ => ?_
 . obtain ⟨t,a',rfl,h'⟩:=h.ne_of_isS hE hs
   refine LO.mono (b:=a') ?_ ⟨[t],rfl⟩
   dsimp only
   refine .ite (fun ha => by rw [h'.hd ha]) (fun hk => ?_) fun _ => ?_
   . obtain ⟨t2,a2,rfl,h2⟩:=h'.ne_of_k hE (by rw [hk.1]; decide)
     rw [h'.hd (by simp)]
     exact LO.mono (b:=a2) (.then (zDd hE h2) fun _ _ _ _ hz => .okk hz _) ⟨[t2],rfl⟩
   . refine .then (.ite (fun ha => by rw [h'.hd ha]) (fun hk => ?_) fun _ => .okk h' _) fun _ _ _ _ hz => .then (zDd hE hz) fun _ _ _ _ hu => .then (hv hu) fun _ _ _ _ ho => .okk ho _
     obtain ⟨t2,a2,rfl,h2⟩:=h'.ne_of_k hE (by rw [hk]; decide)
     exact (zA3 hE h2).lo.mono ⟨[t2],rfl⟩
 . refine .then (zA3 hE h).lo fun n _ y y' hy => .then (.ite (hy.sg _) (fun hs => ?_) fun _ => .okk hy _) fun _ _ _ _ hz => .then (zGD hE hz) fun _ _ _ _ hu => .then (zDd hE hu) fun _ _ _ _ hw => .then (.ite (hw.sg _) (fun _ => hv hw) fun _ => .okk hw _) fun _ _ _ _ ho => .okk ho _
   obtain ⟨t2,a2,rfl,h2⟩:=hy.ne_of_isS hE hs
   exact LO.mono (b:=a2) (.then (zA3 hE h2).lo fun _ _ _ _ hz => .okk hz _) ⟨[t2],rfl⟩
theorem setF_ls {v v' : PS -> PR D} (hv : ∀ {a : List Tok} {x x' : PS},J e r a x x' -> LO e r a (v x) (v' x')) : ∀ (f g : Nat) (acc : List D) {a : List Tok} {x x' : PS},f <= g -> J e r a x x' -> LS e r a (setF v f acc x) (setF v' g acc x')
 | 0,_,_,_,_,_,_,_ => .err
 | f + 1,0,_,_,_,_,hfg,_ => by omega
 | f + 1,g + 1,acc,a,x,x',hfg,h => by
   unfold setF
   refine .ite (fun ha => by rw [h.sg _ ha]) (fun hs => ?_) fun _ => .ite (fun ha => by rw [h.hd ha,h.sg _ ha]) (fun _ => .err) fun _ => .then (hv h) fun _ _ _ _ hy => setF_ls hv f g _ (by omega) hy
   obtain ⟨t,a',rfl,h'⟩:=h.ne_of_isS hE hs.2
   exact .okn h' _
theorem zFo : ∀ (f lv : Nat) {a : List Tok} {x x' : PS},J e r a x x' -> LS e r a (zFp f lv x) (zFp f lv x')
 | 0,_,_,_,_,_ => .err
 | f + 1,lv,a,x,x',h => by
   unfold zFp
   refine .ite (fun ha => by rw [h.sg _ ha]) (fun _ => .err) fun _ => .then (zB2 hE h _).lo fun _ _ y y' hy => ?_
   exact setF_ls hE (fun h => sel_lo hE (fun h => (zFo f (lv + 1) h).lo) h) _ _ _ (by have:=hy.len hE; omega) hy
theorem set_ls {a : List Tok} {x x' : PS} (h : J e r a x x') : LS e r a (setQ x) (setQ x'):=zFo hE _ _ h
theorem zHg : ∀ (f g : Nat) (acc : List D) {a : List Tok} {x x' : PS},f <= g -> J e r a x x' -> LS e r a (varsF f acc x) (varsF g acc x')
 | 0,_,_,_,_,_,_,_ => .err
 | f + 1,0,_,_,_,_,hfg,_ => by omega
 | f + 1,g + 1,acc,a,x,x',hfg,h => by
   unfold varsF
   refine .ite (fun ha => by rw [h.sg _ ha]) (fun hs => ?_) fun _ => .ite (fun ha => by rw [h.sg _ ha]) (fun _ => .err) fun _ => .then (zB2 hE h _).lo fun _ _ _ _ hy => .then (zA3 hE hy).lo fun _ _ _ _ hz => .then (zB2 hE hz _).lo fun _ _ _ _ hu => .then (typ_lo hE hu) fun _ _ v v' hv => .then (.ite (hv.sg _) (fun hs => ?_) fun _ => .okk hv _) fun _ _ _ _ ho => zHg f g _ (by omega) ho
   . obtain ⟨t,a',rfl,h'⟩:=h.ne_of_isS hE hs.2
     exact .okn h' _
   . obtain ⟨t,a',rfl,h'⟩:=hv.ne_of_isS hE hs
     exact LO.mono (b:=a') (.then (zCz hE (x:={ nxT v with vr:=false }) (x':={ nxT v' with vr:=false }) ⟨h'.l,h'.r,rfl,h'.nd⟩) fun _ _ o o' ho => .okk (x:={ o with vr:=true }) (x':={ o' with vr:=true }) ⟨ho.l,ho.r,rfl,ho.nd⟩ _) ⟨[t],rfl⟩
theorem op_ls (k : Int) {a : List Tok} {x x' : PS} (h : J e r a x x') : LS e r a (opQ k x) (opQ k x'):=by
 unfold opQ
 refine .then (.ite (fun ha => by rw [h.hd ha]) (fun hk => ?_) fun _ => .okk h _) fun _ _ y y' hy => .then (.ite (hy.sg _) (fun hs => ?_) fun _ => .okk hy _) fun _ _ _ _ hz => .pure (set_ls hE hz) fun _ _ u u' hu => ⟨_,u,u',rfl,rfl,hu⟩
 . obtain ⟨t,a',rfl,h'⟩:=h.ne_of_k hE (by rw [hk]; decide)
   rw [h.hd (by simp)]
   exact (LS.okn h' _).lo
 . obtain ⟨t,a',rfl,h'⟩:=hy.ne_of_isS hE hs
   exact (zHg hE _ _ _ (hy.len hE) h').lo.mono ⟨[t],rfl⟩
theorem frag_ls {a : List Tok} {x x' : PS} (h : J e r a x x') : LS e r a (fragQ x) (fragQ x'):=by
 unfold fragQ
 refine .ite (fun ha => by rw [h.hd ha]) (fun _ => .err) fun _ => .then (zA3 hE h).lo fun _ _ y y' hy => .ite (fun ha => by rw [hy.hd ha]) (fun hk => ?_) fun _ => .err
 obtain ⟨t,a',rfl,h'⟩:=hy.ne_of_k hE (by rw [hk.1]; decide)
 refine LS.mono (b:=a') ?_ ⟨[t],rfl⟩
 exact .then (zA3 hE h').lo fun _ _ _ _ hz => .pure (set_ls hE hz) fun _ _ u u' hu => ⟨_,u,u',rfl,rfl,hu⟩
end
end Go.Proofs.YtdlnnlglmifceaaDoor
namespace Go.Proofs.YtdlnnlglmifceaaDoor
def En (x : PS) : Prop:=∃ a e,x.ts = a ++ [e] /\ e.k = 5 /\ ∀ t ∈ x.ts,t.s.length <= 100000
theorem En.cons {x : PS} (h : En x) : ∃ t r,x.ts = t :: r:=by
 obtain ⟨a,e,h1,-⟩:=h
 rw [h1]
 cases a with
 | nil => exact ⟨e,[],rfl⟩
 | cons t a => exact ⟨t,a ++ [e],rfl⟩
theorem En.lo {α : Type} {x y : PS} {v : α} (h : En x) {p : PS -> PR α} (hp : ∀ {e : Tok} {a : List Tok} {x x' : PS},Ends e [e] -> J e [e] a x x' -> LO e [e] a (p x) (p x')) (hq : p x = .ok (v,y)) : En y /\ y.ts.length <= x.ts.length:=by
 obtain ⟨a,e,h1,h2,h4⟩:=h
 obtain ⟨b,⟨d,hd⟩,h3,-⟩:=hp (e:=e) (a:=a) (x:=x) (x':=x) ⟨h2,by simp⟩ ⟨h1,h1,rfl,rfl⟩ v y hq
 exact ⟨⟨b,e,h3,h2,fun t ht => h4 t (by rw [h1,hd]; rw [h3] at ht; simp at ht |-; exact .inr ht)⟩,by rw [h3,h1,hd]; simp⟩
theorem En.ls {α : Type} {x y : PS} {v : α} (h : En x) {p : PS -> PR α} (hp : ∀ {e : Tok} {a : List Tok} {x x' : PS},Ends e [e] -> J e [e] a x x' -> LS e [e] a (p x) (p x')) (hq : p x = .ok (v,y)) : En y /\ y.ts.length < x.ts.length:=by
 obtain ⟨a,e,h1,h2,h4⟩:=h
 obtain ⟨b,y',⟨t,d,hd⟩,-,h3⟩:=hp (e:=e) (a:=a) (x:=x) (x':=x) ⟨h2,by simp⟩ ⟨h1,h1,rfl,rfl⟩ v y hq
 exact ⟨⟨b,e,h3.l,h2,fun t ht => h4 t (by rw [h1,hd]; rw [h3.l] at ht; simp at ht |-; exact .inr (.inr ht))⟩,by rw [h3.l,h1,hd]; simp; omega⟩
theorem En.name {x y : PS} {v : List UInt8} (h : En x) (hq : zA0 x = .ok (v,y)) : En y /\ y.ts.length < x.ts.length:=h.ls (p:=zA0) (fun hE h => zA3 hE h) hq
theorem En.take {x y : PS} {s : List UInt8} (h : En x) (hq : takeQ s x = .ok ((),y)) : En y /\ y.ts.length < x.ts.length:=h.ls (p:=takeQ s) (fun hE h => zB2 hE h s) hq
theorem En.value {f lv : Nat} {x y : PS} {v : D} (h : En x) (hq : valueQ f lv x = .ok (v,y)) : En y /\ y.ts.length <= x.ts.length:=h.lo (p:=valueQ f lv) (fun hE h => zCb hE f lv h) hq
theorem En.whole {x y : PS} {v : D} (h : En x) (hq : zCP x = .ok (v,y)) : En y /\ y.ts.length <= x.ts.length:=h.lo (p:=zCP) (fun hE h => zCz hE h) hq
theorem En.args {x y : PS} {v : List D} (h : En x) (hq : argsQ x = .ok (v,y)) : En y /\ y.ts.length <= x.ts.length:=h.lo (p:=argsQ) (fun hE h => zGD hE h) hq
theorem En.dirs {x y : PS} {v : List D} (h : En x) (hq : dirsQ x = .ok (v,y)) : En y /\ y.ts.length <= x.ts.length:=h.lo (p:=dirsQ) (fun hE h => zDd hE h) hq
theorem En.sel {f lv : Nat} {x y : PS} {v : D} (h : En x) (hq : selQ (zFp f lv) x = .ok (v,y)) : En y /\ y.ts.length <= x.ts.length:=h.lo (p:=selQ (zFp f lv)) (fun hE h => sel_lo hE (fun h => (zFo hE f lv h).lo) h) hq
theorem En.sels {f lv : Nat} {x y : PS} {v : List D} (h : En x) (hq : zFp f lv x = .ok (v,y)) : En y /\ y.ts.length < x.ts.length:=h.ls (p:=zFp f lv) (fun hE h => zFo hE f lv h) hq
theorem En.op {k : Int} {x y : PS} {v : D} (h : En x) (hq : opQ k x = .ok (v,y)) : En y /\ y.ts.length < x.ts.length:=h.ls (p:=opQ k) (fun hE h => op_ls hE k h) hq
theorem En.frag {x y : PS} {v : D} (h : En x) (hq : fragQ x = .ok (v,y)) : En y /\ y.ts.length < x.ts.length:=h.ls (p:=fragQ) (fun hE h => frag_ls hE h) hq
theorem En.nx {x : PS} (h : En x) (hk : (hdT x).k ≠ 5) : En (nxT x) /\ (nxT x).ts.length < x.ts.length:=by
 obtain ⟨a,e,h1,h2,h4⟩:=h
 have hJ : J e [e] a x x:=⟨h1,h1,rfl,rfl⟩
 obtain ⟨t,a',rfl,h3⟩:=hJ.ne_of_k (e:=e) (r:=[e]) ⟨h2,by simp⟩ hk
 exact ⟨⟨a',e,h3.l,h2,fun t ht => h4 t (by rw [h1]; rw [h3.l] at ht; simp at ht |-; exact .inr ht)⟩,by rw [h3.l,h1]; simp⟩
theorem En.hd {x : PS} (h : En x) : (hdT x).s.length <= 100000:=by
 obtain ⟨t,r,ht⟩:=h.cons
 obtain ⟨a,e,-,-,h4⟩:=h
 have : hdT x = t:=by unfold hdT; rw [ht]; rfl
 rw [this]
 exact h4 t (by rw [ht]; simp)
theorem En.sg {x : PS} {s : List UInt8} (h : En x) (hk : isS x s = true) : En (nxT x) /\ (nxT x).ts.length < x.ts.length:=by
 refine h.nx ?_
 unfold isS at hk
 simp only [Bool.and_eq_true,beq_iff_eq] at hk
 rw [hk.1]; decide
theorem En.valueL {f lv : Nat} {x y : PS} {v : D} (h : En x) (hq : valueQ f lv x = .ok (v,y)) : En y /\ y.ts.length < x.ts.length:=by
 refine ⟨(h.value hq).1,?_⟩
 cases f with
 | zero => cases hq
 | succ f =>
   unfold valueQ at hq
   split at hq
   . cases hq
   . rename_i hno
     have hk : (hdT x).k ≠ 5:=fun hk => hno (by unfold zGY; rw [hk]; rfl)
     have h1:=h.nx hk
     have hy : En ({ nxT x with nd:=x.nd + 1 } : PS):=h1.1
     split at hq
     . cases hq
     split at hq
     . cases hq
     dsimp only at hq
     split at hq
     . cases hq; exact h1.2
     split at hq
     . cases hq; exact h1.2
     split at hq
     . cases hq; exact h1.2
     split at hq
     . have:=(hy.lo (p:=fun x => thenQ (zA0 x) fun n z => .ok (valD 7 0 n [] [],z)) (fun hE h => .then (zA3 hE h).lo fun _ _ _ _ hz => .okk hz _) hq).2
       exact Nat.lt_of_le_of_lt this h1.2
     split at hq
     . have:=(hy.lo (p:=fun x => thenQ (zCK (valueQ f (lv + 1)) (x.ts.length + 1) [] x) fun l z => .ok (valD 5 0 [] l [],z)) (fun hE h => .then (zFz hE (fun h => zCb hE f (lv + 1) h) _ _ _ (by have:=h.len hE; omega) h).lo fun _ _ _ _ hz => .okk hz _) hq).2
       exact Nat.lt_of_le_of_lt this h1.2
     . have:=(hy.lo (p:=fun x => thenQ (zBa (valueQ f (lv + 1)) (x.ts.length + 1) [] [] x) fun l z => .ok (valD 6 0 [] l.2 l.1,z)) (fun hE h => .then (zEW hE (fun h => zCb hE f (lv + 1) h) _ _ _ _ (by have:=h.len hE; omega) h).lo fun _ _ _ _ hz => .okk hz _) hq).2
       exact Nat.lt_of_le_of_lt this h1.2
end Go.Proofs.YtdlnnlglmifceaaDoor
namespace Go.Proofs.YtdlnnlglmifceaaDoor
open Go.RowKit
attribute [local irreducible] wpList Calls Code.wp AW AWo OpOk seqK zAf zAj loopK endK AC zAH Yld Sub
attribute [local irreducible] ACB ACX YldG
theorem En.nd {x : PS} (h : En x) (n : Nat) (v : Bool) : En ⟨x.ts,v,n⟩:=h
theorem zFh {α β : Type} {r : PR α} {f : α -> PS -> PR β} {a : α} {x : PS} (h : r = .ok (a,x)) : thenQ r f = f a x:=by rw [h]; rfl
theorem zDu {α β : Type} {r : PR α} {f : α -> PS -> PR β} {e : Nat × Int} (h : r = .error e) : thenQ r f = .error e:=by rw [h]; rfl
end Go.Proofs.YtdlnnlglmifceaaDoor
namespace Go.Proofs.YtdlnnlglmifceaaDoor
def Nz {α : Type} (r : PR α) : Prop:=∀ i,r ≠ .error (i,0)
section
variable {α β : Type}
theorem Nz.okk (p : α × PS) : Nz (.ok p : PR α):=fun i h => by cases h
theorem Nz.err {i : Nat} {e : Int} (h : e ≠ 0) : Nz (.error (i,e) : PR α):=fun j hj => by cases hj; exact h rfl
theorem Nz.ite {c : Prop} [Decidable c] {a b : PR α} (h1 : c -> Nz a) (h2 : ¬ c -> Nz b) : Nz (if c then a else b):=by
 split
 . exact h1 ‹_›
 . exact h2 ‹_›
theorem Nz.then {r : PR α} {f : α -> PS -> PR β} (h : Nz r) (hf : ∀ a x,r = .ok (a,x) -> Nz (f a x)) : Nz (thenQ r f):=by
 cases hr : r with
 | error e =>
   rw [zDu (r:=.error e) rfl]
   intro i hi
   cases hi
   exact h i hr
 | ok p =>
   obtain ⟨a,x⟩:=p
   rw [zFh (r:=.ok (a,x)) rfl]
   exact hf a x hr
end
end Go.Proofs.YtdlnnlglmifceaaDoor
namespace Go.Proofs.YtdlnnlglmifceaaDoor
def Mz {α : Type} (r : PR α) : Prop:=∀ i e,r = .error (i,e) -> 0 < e /\ e <= 100
section
variable {α β : Type}
theorem Mz.okk (p : α × PS) : Mz (.ok p : PR α):=fun i e h => by cases h
theorem Mz.err {i : Nat} {e : Int} (h : 0 < e /\ e <= 100) : Mz (.error (i,e) : PR α):=fun j e' hj => by cases hj; exact h
theorem Mz.ite {c : Prop} [Decidable c] {a b : PR α} (h1 : c -> Mz a) (h2 : ¬ c -> Mz b) : Mz (if c then a else b):=by
 split
 . exact h1 ‹_›
 . exact h2 ‹_›
theorem Mz.then {r : PR α} {f : α -> PS -> PR β} (h : Mz r) (hf : ∀ a x,r = .ok (a,x) -> Mz (f a x)) : Mz (thenQ r f):=by
 cases hr : r with
 | error e =>
   rw [zDu (r:=.error e) rfl]
   intro i e' hi
   cases hi
   exact h i e' hr
 | ok p =>
   obtain ⟨a,x⟩:=p
   rw [zFh (r:=.ok (a,x)) rfl]
   exact hf a x hr
end
end Go.Proofs.YtdlnnlglmifceaaDoor
namespace Go.Proofs.YtdlnnlglmifceaaDoor
def tw : List Tok -> Nat
 | [] => 0
 | t :: r => t.s.length + 40 + tw r
def Bd {α : Type} (μ : α -> Nat) (N : Nat) (r : PR α) : Prop:=∀ v y,r = .ok (v,y) -> μ v + tw y.ts <= N
section
variable {α β : Type} {μ : α -> Nat} {ν : β -> Nat} {N M : Nat}
theorem Bd.okk {v : α} {y : PS} (h : μ v + tw y.ts <= N) : Bd μ N (.ok (v,y) : PR α):=fun _ _ e => by cases e; exact h
theorem Bd.err {e : Nat × Int} : Bd μ N (.error e : PR α):=fun _ _ h => by cases h
theorem Bd.ite {c : Prop} [Decidable c] {a b : PR α} (h1 : c -> Bd μ N a) (h2 : ¬ c -> Bd μ N b) : Bd μ N (if c then a else b):=by
 split
 . exact h1 ‹_›
 . exact h2 ‹_›
theorem Bd.then {r : PR α} {f : α -> PS -> PR β} (h : Bd μ N r) (hf : ∀ a x,μ a + tw x.ts <= N -> Bd ν M (f a x)) : Bd ν M (thenQ r f):=by
 cases hr : r with
 | error e =>
   rw [zDu (r:=.error e) rfl]
   exact .err
 | ok p =>
   obtain ⟨a,x⟩:=p
   rw [zFh (r:=.ok (a,x)) rfl]
   exact hf a x (h a x hr)
end
def sl (s : List UInt8) : Nat:=s.length + 40
section
variable {v : PS -> PR D} (hv : ∀ y,Bd bulkD (tw y.ts) (v y))
include hv
end
end Go.Proofs.YtdlnnlglmifceaaDoor
namespace Go.Proofs.YtdlnnlglmifceaaDoor
def Hr {α : Type} (Q : α -> PS -> Prop) (r : PR α) : Prop:=∀ v z,r = .ok (v,z) -> Q v z
section
variable {α β : Type} {Q : α -> PS -> Prop} {R : β -> PS -> Prop}
theorem Hr.okk {v : α} {z : PS} (h : Q v z) : Hr Q (.ok (v,z) : PR α):=fun _ _ e => by cases e; exact h
theorem Hr.err {e : Nat × Int} : Hr Q (.error e : PR α):=fun _ _ h => by cases h
theorem Hr.ite {c : Prop} [Decidable c] {a b : PR α} (h1 : c -> Hr Q a) (h2 : ¬ c -> Hr Q b) : Hr Q (if c then a else b):=by
 split
 . exact h1 ‹_›
 . exact h2 ‹_›
theorem Hr.then {r : PR α} {f : α -> PS -> PR β} (h : Hr Q r) (hf : ∀ a x,Q a x -> Hr R (f a x)) : Hr R (thenQ r f):=by
 cases hr : r with
 | error e =>
   rw [zDu (r:=.error e) rfl]
   exact .err
 | ok p =>
   obtain ⟨a,x⟩:=p
   rw [zFh (r:=.ok (a,x)) rfl]
   exact hf a x (h a x hr)
theorem Hr.mono {r : PR α} {Q' : α -> PS -> Prop} (h : Hr Q r) (hq : ∀ a x,Q a x -> Q' a x) : Hr Q' r:=fun v z e => hq v z (h v z e)
end
def GT (x : PS) : Prop:=∀ t ∈ x.ts,(t.k = 2 -> nameB ⟨t.s.toArray⟩ = true) /\ 1 <= t.k /\ t.k <= 5
theorem GT.nx {x : PS} (h : GT x) : GT (nxT x):=fun t ht => by
 unfold nxT at ht
 split at ht
 . exact h t ht
 . exact h t (List.mem_of_mem_drop ht)
theorem nx_vr (x : PS) : (nxT x).vr = x.vr:=by unfold nxT; split <;> rfl
theorem nx_nd2 (x : PS) : (nxT x).nd = x.nd:=by unfold nxT; split <;> rfl
theorem GT.hd {x : PS} (h : GT x) : ((hdT x).k = 2 -> nameB ⟨(hdT x).s.toArray⟩ = true) /\ 1 <= (hdT x).k /\ (hdT x).k <= 5:=by
 unfold hdT
 cases hx : x.ts with
 | nil => exact ⟨fun h => absurd h (by decide),by decide,by decide⟩
 | cons t r => exact h t (by rw [hx]; exact List.mem_cons_self ..)
structure Pv (x z : PS) : Prop where
 gt : GT z
 vr : z.vr = x.vr
theorem Pv.trans {x y z : PS} (h1 : Pv x y) (h2 : Pv y z) : Pv x z:=⟨h2.gt,h2.vr.trans h1.vr⟩
theorem GT.pvn {x : PS} (h : GT x) : Pv x (nxT x):=⟨h.nx,nx_vr x⟩
theorem Pv.nx {x y : PS} (h : Pv x y) : Pv x (nxT y):=h.trans h.gt.pvn
theorem name_rt {x : PS} (h : GT x) : Hr (fun n z => nameB ⟨n.toArray⟩ = true /\ Pv x z /\ z.nd = x.nd) (zA0 x):=by
 unfold zA0
 exact .ite (fun hk => .okk ⟨h.hd.1 hk,h.pvn,nx_nd2 x⟩) fun _ => .err
structure VOk (lv : Nat) (vr : Bool) (n0 : Nat) (v : D) (n1 : Nat) : Prop where
 sz : ∀ k,Dp k v -> sizeR k v + n0 = n1
 dp : ∀ k,Dp k v -> depthR k v + lv <= 25
 ev : ∀ k,Dp k v -> everyL k v = true
 br : vr = false -> ∀ k,Dp k v -> bareR k v = true
structure CH (lv : Nat) (vr : Bool) (n0 : Nat) (l : List D) (n1 : Nat) : Prop where
 sz : ∀ k,(∀ i,i < l.length -> Dp k (gD l i)) -> sumN (fun i => sizeR k (gD l i)) l.length + n0 = n1
 dp : ∀ i,i < l.length -> ∀ k,Dp k (gD l i) -> depthR k (gD l i) + lv <= 25
 ev : ∀ i,i < l.length -> ∀ k,Dp k (gD l i) -> everyL k (gD l i) = true
 br : vr = false -> ∀ i,i < l.length -> ∀ k,Dp k (gD l i) -> bareR k (gD l i) = true
theorem CH.nil {lv : Nat} {vr : Bool} {n : Nat} : CH lv vr n [] n:=
 ⟨fun k _ => by simp [sumN],fun i hi => absurd hi (Nat.not_lt_zero i),fun i hi => absurd hi (Nat.not_lt_zero i),fun _ i hi => absurd hi (Nat.not_lt_zero i)⟩
section
variable {val : PS -> PR D} {lv n0 : Nat} {vr : Bool} (hv : ∀ y,GT y -> y.vr = vr -> y.nd <= 4096 -> Hr (fun v z => Pv y z /\ VOk lv vr y.nd v z.nd /\ z.nd <= 4096) (val y))
include hv
end
def Al (p : D -> Bool) (l : List D) : Prop:=∀ i,i < l.length -> p (gD l i) = true
theorem Al.nil {p : D -> Bool} : Al p []:=fun i hi => absurd hi (Nat.not_lt_zero i)
theorem Hr.name {β : Type} {R : β -> PS -> Prop} {x : PS} {f : List UInt8 -> PS -> PR β} (h : GT x) (hf : ∀ n z,(hdT x).k = 2 -> nameB ⟨n.toArray⟩ = true -> Pv x z -> Hr R (f n z)) : Hr R (thenQ (zA0 x) f):=by
 by_cases hk : (hdT x).k = 2
 . exact .then (name_rt h) fun n z hz => hf n z hk hz.1 hz.2.1
 . unfold zA0
   rw [if_neg hk]
   exact .err
end Go.Proofs.YtdlnnlglmifceaaDoor
namespace Go.Proofs.YtdlnnlglmifceaaDoor
abbrev KS:=List (Int × List UInt8)
theorem letB_u : ∀ c : UInt8,letB (c.toNat : Int) = true -> letU c = true:=fun c =>
 zEr (p:=fun c => letB (c.toNat : Int) = true -> letU c = true) (by decide +kernel) c
theorem wrdB_u : ∀ c : UInt8,(letB (c.toNat : Int) || digB (c.toNat : Int)) = true -> wrdU c = true:=fun c =>
 zEr (p:=fun c => (letB (c.toNat : Int) || digB (c.toNat : Int)) = true -> wrdU c = true) (by decide +kernel) c
theorem name_u {s : ByteArray} (h : nameB s = true) : nameU (tx s) = true:=by
 unfold nameB at h
 have h:=of_decide_eq_true h
 obtain ⟨h1,h2,h3,h4⟩:=h
 have hl:=zBL s
 have hb : ∀ i,i < s.size -> wrdU ((tx s).getD i 0) = true:=fun i hi => wrdB_u _ (h4 i hi)
 have h0:=h4 0 h1
 rw [h3,Bool.or_false] at h0
 have h5 : letU ((tx s).getD 0 0) = true:=letB_u _ h0
 generalize tx s = t at hl hb h5
 cases t with
 | nil => simp at hl; omega
 | cons c q =>
   simp only [List.length_cons] at hl
   simp only [nameU,Bool.and_eq_true,decide_eq_true_eq]
   refine ⟨⟨h5,List.all_eq_true.2 fun x hx => ?_⟩,by omega⟩
   obtain ⟨i,hi,rfl⟩:=List.getElem_of_mem hx
   have:=hb (i + 1) (by omega)
   rw [List.getD_cons_succ,List.getD_eq_getElem?_getD,List.getElem?_eq_getElem hi] at this
   exact this
theorem Pw.nm {s : ByteArray} (h : nameB s = true) : Pw (tx s) [(2,tx s)]:=.name (name_u h)
def gK (g : Nat -> KS) (j m : Nat) : KS:=(List.range' j m).flatMap g
theorem zEV (g : Nat -> KS) (j : Nat) : gK g j 0 = []:=rfl
theorem zB4 (g : Nat -> KS) (j m : Nat) : gK g j (m + 1) = g j ++ gK g (j + 1) m:=by
 unfold gK
 rw [List.range'_succ,List.flatMap_cons]
theorem gK_last (g : Nat -> KS) : ∀ m,gK g 0 (m + 1) = gK g 0 m ++ g m:=fun m => by
 unfold gK
 rw [List.range'_concat,List.flatMap_append]
 simp
theorem zDH (g : Nat -> KS) (h : ∀ i,1 <= (g i).length) : ∀ m j,m <= (gK g j m).length
 | 0,_ => Nat.zero_le _
 | m + 1,j => by
   have:=zDH g h m (j + 1)
   have:=h j
   rw [zB4,List.length_append]
   omega
def Gap (sep : List UInt8) : Prop:=Ps sep [] /\ sep ≠ [] /\ bnd sep
theorem Gap.comma : Gap commaT:=⟨(Ps.sep (c:=44) rfl).app (Ps.sep (c:=32) rfl),by decide,zAz (by decide)⟩
theorem Gap.space : Gap [32]:=⟨.sep rfl,by decide,zAz (by decide)⟩
theorem Gap.line : Gap [10]:=⟨.sep rfl,by decide,zAz (by decide)⟩
theorem Pw.gap {a b sep : List UInt8} {ka kb : KS} (h : Pw a ka) (hs : Gap sep) (k : Pw b kb) : Pw (a ++ sep ++ b) (ka ++ kb):=by
 have h1:=h.app hs.1 ⟨hs.2.1,hs.2.2⟩
 rw [List.append_nil] at h1
 exact h1.appw k
theorem Pw.join {f : Nat -> List UInt8} {g : Nat -> KS} {sep : List UInt8} (hs : Gap sep) : ∀ n,(∀ i,i < n -> Pw (f i) (g i)) -> Pw (Lib.join ((List.range n).map f) sep) (gK g 0 n)
 | 0,_ => Ps.nil.w
 | n + 1,h => by
   have ih:=Pw.join (f:=f) (g:=g) hs n fun i hi => h i (by omega)
   rw [gK_last,List.range_succ,List.map_append]
   cases n with
   | zero =>
     have e : Lib.join ((List.range 0).map f ++ [0].map f) sep = f 0:=by simp [Lib.join_one]
     rw [e]
     exact h 0 (by omega)
   | succ n =>
     have e : (List.range (n + 1)).map f ≠ []:=fun e => by have:=congrArg List.length e; simp at this
     rw [List.map_cons,List.map_nil,zH7 _ _ _ e]
     exact ih.gap hs (h (n + 1) (by omega))
theorem zEM (l : List D) (f : D -> List UInt8) : l.map f = (List.range l.length).map fun i => f (gD l i):=by
 apply List.ext_getElem (by simp)
 intro i h1 h2
 simp [zBo (l:=l) (i:=i) (by simpa using h1)]
def rgK (g : D -> KS) (l : List D) : KS:=gK (fun i => g (gD l i)) 0 l.length
theorem Pw.joinL {f : D -> List UInt8} {g : D -> KS} {sep : List UInt8} (hs : Gap sep) (l : List D) (h : ∀ i,i < l.length -> Pw (f (gD l i)) (g (gD l i))) : Pw (Lib.join (l.map f) sep) (rgK g l):=by
 rw [zEM]
 exact Pw.join hs _ h
theorem Ps.wrap {a b : UInt8} {t : List UInt8} {k : KS} (ha : zC8 a = true) (hb : zC8 b = true) (h : Pw t k) : Ps ([a] ++ t ++ [b]) ((1,[a]) :: (k ++ [(1,[b])])):=by
 have h1:=(Ps.sign ha).appw h
 have h2:=h1.app (Ps.sign hb) ⟨by simp,zAz (zE5 b hb).2.2⟩
 exact h2
def valK : Nat -> D -> KS
 | 0,_ => []
 | k + 1,d =>
   if (d.f 0).n = 1 then [(2,if (d.f 1).n = 1 then [116,114,117,101] else [102,97,108,115,101])]
   else if (d.f 0).n = 2 then [(3,Lib.itoa (d.f 1).n)]
   else if (d.f 0).n = 3 then [(4,tx (d.f 2).s)]
   else if (d.f 0).n = 4 then [(2,tx (d.f 2).s)]
   else if (d.f 0).n = 7 then [(1,[36]),(2,tx (d.f 2).s)]
   else if (d.f 0).n = 5 then (1,[91]) :: (gK (fun i => valK k (gD (d.f 3).l i)) 0 (d.f 3).l.length ++ [(1,[93])])
   else if (d.f 0).n = 6 then (1,[123]) :: (gK (fun i => (2,tx (gD (d.f 4).l i).s) :: (1,[58]) :: valK k (gD (d.f 3).l i)) 0 (d.f 3).l.length ++ [(1,[125])])
   else [(2,[110,117,108,108])]
structure NodeF (d : D) : Prop where
 int0 : (d.f 0).n = 1 \/ (d.f 0).n = 2 \/ (d.f 1).n = 0
 txt0 : (d.f 0).n = 3 \/ (d.f 0).n = 4 \/ (d.f 0).n = 7 \/ tx (d.f 2).s = []
 keys0 : (d.f 0).n = 6 \/ (d.f 4).l.length = 0
 items0 : (d.f 0).n = 6 \/ (d.f 0).n = 5 \/ (d.f 3).l.length = 0
 kind : 0 <= (d.f 0).n /\ (d.f 0).n <= 7
 bool : (d.f 0).n = 1 -> (d.f 1).n = 0 \/ (d.f 1).n = 1
 enum : (d.f 0).n = 4 -> enumR (d.f 2).s = true
 var : (d.f 0).n = 7 -> nameB (d.f 2).s = true
 obj : (d.f 0).n = 6 -> (∀ i,i < (d.f 4).l.length -> nameB (gD (d.f 4).l i).s = true) /\ (d.f 4).l.length = (d.f 3).l.length /\ (strsR d).Nodup
theorem zCx {p : D -> Bool} {l : List D} (h : (l.any fun x => !p x) = false) : ∀ i,i < l.length -> p (gD l i) = true:=fun i hi => by
 rw [List.any_eq_false] at h
 have:=h _ (gD_mem hi)
 simpa using this
theorem xnode {d : D} (h : zFv d = true) : NodeF d:=by
 unfold zFv nodeK at h
 simp only [Bool.and_eq_true,Bool.or_eq_true,beq_iff_eq,decide_eq_true_eq,Bool.not_eq_true',beq_eq_false_iff_ne] at h
 obtain ⟨⟨⟨⟨⟨⟨⟨⟨h1,h2⟩,h3⟩,h4⟩,h5⟩,h6⟩,h7⟩,h8⟩,h9⟩:=h
 refine ⟨?_,?_,h3,?_,h5,?_,?_,?_,?_⟩
 . rcases h1 with (h | h) | h
   . exact .inl h
   . exact .inr (.inl h)
   . exact .inr (.inr h)
 . rcases h2 with ((h | h) | h) | h
   . exact .inl h
   . exact .inr (.inl h)
   . exact .inr (.inr (.inl h))
   . exact .inr (.inr (.inr h))
 . rcases h4 with (h | h) | h
   . exact .inl h
   . exact .inr (.inl h)
   . exact .inr (.inr h)
 . intro h
   rcases h6 with (h' | h') | h'
   . exact absurd h h'
   . exact .inl h'
   . exact .inr h'
 . intro h
   rcases h7 with h' | h'
   . exact absurd h h'
   . exact h'
 . intro h
   rcases h8 with h' | h'
   . exact absurd h h'
   . exact h'
 . intro h
   rcases h9 with h' | h'
   . exact absurd h h'
   . exact ⟨zCx h'.1.1,h'.1.2,h'.2⟩
theorem zCg {k : Nat} {d : D} (h : everyL (k + 1) d = true) : NodeF d /\ ∀ i,i < (d.f 3).l.length -> everyL k (gD (d.f 3).l i) = true:=by
 unfold everyL at h
 rw [Bool.and_eq_true,Bool.not_eq_true'] at h
 exact ⟨xnode h.1,zCx h.2⟩
theorem zGq {s : ByteArray} (h : enumR s = true) : nameB s = true /\ tx s ≠ [116,114,117,101] /\ tx s ≠ [102,97,108,115,101] /\ tx s ≠ [110,117,108,108]:=by
 unfold enumR at h
 simp only [Bool.and_eq_true,Bool.not_eq_true',beq_eq_false_iff_ne] at h
 exact ⟨h.1.1.1,h.1.1.2,h.1.2,h.2⟩
theorem zG5 : ∀ (k : Nat) (d : D),wideD d -> everyL k d = true -> Pw (valT k d) (valK k d)
 | 0,_,_,h => by cases h
 | k + 1,d,hw,h => by
   obtain ⟨hn,hi⟩:=zCg h
   unfold valT valK
   split
   . split
     . exact .name rfl
     . exact .name rfl
   split
   . exact .int _ (hw.f 1).n.1 (hw.f 1).n.2
   split
   . exact (Ps.quote _).w
   split
   . exact .nm (zGq (hn.enum ‹_›)).1
   split
   . exact (Ps.sign (c:=36) rfl).appw (.nm (hn.var ‹_›))
   split
   . exact (Ps.wrap rfl rfl (Pw.join (f:=fun i => valT k (gD (d.f 3).l i)) (g:=fun i => valK k (gD (d.f 3).l i)) .comma _ fun i hl => zG5 k _ ((hw.f 3).l i) (hi i hl))).w
   split
   . obtain ⟨h1,h2,-⟩:=hn.obj ‹_›
     rw [show min (d.f 4).l.length (d.f 3).l.length = (d.f 3).l.length by omega]
     refine (Ps.wrap rfl rfl (Pw.join (f:=fun i => tx (gD (d.f 4).l i).s ++ [58,32] ++ valT k (gD (d.f 3).l i)) (g:=fun i => (2,tx (gD (d.f 4).l i).s) :: (1,[58]) :: valK k (gD (d.f 3).l i)) .comma _ fun i hl => ?_)).w
     have p1:=(Pw.nm (h1 i (by omega))).app ((Ps.sign (c:=58) rfl).app (Ps.sep (c:=32) rfl)) ⟨by simp,zAz (by decide)⟩
     exact p1.appw (zG5 k _ ((hw.f 3).l i) (hi i hl))
   . exact .name rfl
theorem valT_eq {a b : Nat} {d : D} (ha : Dp a d) (hb : Dp b d) : valT a d = valT b d:=by
 rcases Nat.le_total a b with h | h
 . exact (zD9 ha h).symm
 . exact zD9 hb h
def litK (d : D) : KS:=valK (bulkD d) d
theorem litT_pw {K : Nat} {d : D} (hd : Dp K d) (hw : wideD d) (h : litR d = true) : Pw (valT K d) (litK d):=by
 unfold litR at h
 rw [Bool.and_eq_true] at h
 rw [valT_eq hd (zBS (bulkD d) d (Nat.le_refl _))]
 exact zG5 _ _ hw h.2
def argK (a : D) : KS:=(2,tx (a.f 0).s) :: (1,[58]) :: litK (a.f 1)
def parK (l : List D) : KS:=if l.length = 0 then [] else (1,[40]) :: (rgK argK l ++ [(1,[41])])
def dirK (x : D) : KS:=(1,[64]) :: (2,tx (x.f 0).s) :: parK (x.f 1).l
theorem zEm {l : List D} (h : zEn l = true) : l.length <= 16 /\ ∀ i,i < l.length -> nameB ((gD l i).f 0).s = true /\ litR ((gD l i).f 1) = true:=by
 unfold zEn at h
 rw [Bool.and_eq_true,Bool.not_eq_true',decide_eq_true_eq] at h
 refine ⟨h.1,fun i hi => ?_⟩
 have:=zCx h.2 i hi
 unfold argR at this
 rwa [Bool.and_eq_true] at this
theorem zGr {l : List D} (h : zF7 l = true) : l.length <= 16 /\ ∀ i,i < l.length -> nameB ((gD l i).f 0).s = true /\ zEn ((gD l i).f 1).l = true:=by
 unfold zF7 at h
 rw [Bool.and_eq_true,Bool.not_eq_true',decide_eq_true_eq] at h
 refine ⟨h.1,fun i hi => ?_⟩
 have:=zCx h.2 i hi
 unfold dirR at this
 rwa [Bool.and_eq_true] at this
theorem zIR {s : ByteArray} {t : List UInt8} {k : KS} (hs : nameB s = true) (h : Pw t k) : Pw (tx s ++ [58,32] ++ t) ((2,tx s) :: (1,[58]) :: k):=by
 have p1:=(Pw.nm hs).app ((Ps.sign (c:=58) rfl).app (Ps.sep (c:=32) rfl)) ⟨by simp,zAz (by decide)⟩
 exact p1.appw h
theorem argsT_pw {K : Nat} {l : List D} (h : zEn l = true) (hd : ∀ i,i < l.length -> Dp K ((gD l i).f 1)) (hw : ∀ i,wideD (gD l i)) : Pw (zGz K l) (rgK argK l):=by
 unfold zGz
 exact Pw.joinL .comma l fun i hi => zIR ((zEm h).2 i hi).1 (litT_pw (hd i hi) ((hw i).f 1) ((zEm h).2 i hi).2)
theorem parT_ps {K : Nat} {l : List D} (h : zEn l = true) (hd : ∀ i,i < l.length -> Dp K ((gD l i).f 1)) (hw : ∀ i,wideD (gD l i)) : Ps (parT K l) (parK l):=by
 unfold parT parK
 split
 . exact .nil
 . exact Ps.wrap rfl rfl (argsT_pw h hd hw)
theorem parT_bnd (K : Nat) (l : List D) : bnd (parT K l):=by
 unfold parT
 split
 . exact zGC
 . exact zAz (by decide)
theorem dirsT_pw {K : Nat} {l : List D} (h : zF7 l = true) (hd : DirsOk K l) : Pw (zHY K l) (rgK dirK l):=by
 unfold zHY
 refine Pw.joinL .space l fun i hi => ?_
 obtain ⟨h1,h2⟩:=(zGr h).2 i hi
 have p1:=(Ps.sign (c:=64) rfl).appw (Pw.nm h1)
 exact p1.appw (parT_ps h2 (hd.args i hi).dp (hd.args i hi).wide).w (parT_bnd _ _)
theorem tailT_pw {K : Nat} {l : List D} (h : zF7 l = true) (hd : DirsOk K l) : Pw (zAr K l) (rgK dirK l):=by
 unfold zAr
 split
 . rename_i h0
   unfold rgK
   rw [h0]
   exact Ps.nil.w
 . exact (Ps.sep (c:=32) rfl).appw (dirsT_pw h hd)
theorem tailT_bnd (K : Nat) (l : List D) : bnd (zAr K l):=by
 unfold zAr
 split
 . exact zGC
 . exact zAz (by decide)
def blkK (k : KS) : KS:=(1,[123]) :: (k ++ [(1,[125])])
structure SelF (sub : List D -> Nat -> Prop) (d : D) : Prop where
 args : zEn (d.f 4).l = true
 dirs : zF7 (d.f 5).l = true
 field : (d.f 0).n = 1 -> tx (d.f 3).s = [] /\ nameB (d.f 2).s = true /\ (tx (d.f 1).s = [] \/ nameB (d.f 1).s = true) /\ sub (d.f 6).l 0
 spread : (d.f 0).n = 2 -> tx (d.f 3).s = [] /\ tx (d.f 1).s = [] /\ (d.f 4).l.length = 0 /\ (d.f 6).l.length = 0 /\ nameB (d.f 2).s = true /\ tx (d.f 2).s ≠ [111,110]
 inline : (d.f 0).n = 3 -> tx (d.f 1).s = [] /\ tx (d.f 2).s = [] /\ (d.f 4).l.length = 0 /\ (tx (d.f 3).s = [] \/ nameB (d.f 3).s = true) /\ sub (d.f 6).l 1
 kind : (d.f 0).n = 1 \/ (d.f 0).n = 2 \/ (d.f 0).n = 3
def SetF (sel : D -> Prop) (lv : Nat) (l : List D) (least : Nat) : Prop:=least <= l.length /\ l.length <= 64 /\ (l.length = 0 \/ lv <= 24) /\ ∀ i,i < l.length -> sel (gD l i)
end Go.Proofs.YtdlnnlglmifceaaDoor
namespace Go.Proofs.YtdlnnlglmifceaaDoor
open Go.RowKit
attribute [local irreducible] wpList Calls Code.wp AW AWo OpOk seqK zAf zAj loopK endK AC zAH Yld Sub
structure VarsOk (K : Nat) (l : List D) : Prop where
 wide : ∀ i,wideD (gD l i)
 bulk : bulkL l <= 1048576
 dp : ∀ i,i < l.length -> Dp K ((gD l i).f 3)
 good : ∀ i,i < l.length -> goodV K ((gD l i).f 3)
structure VarSz (K : Nat) (v : D) : Prop where
 name : (v.f 0).s.size <= 1048576
 rname : ((v.f 1).f 0).s.size <= 1048576
 wraps : ((v.f 1).f 1).l.length <= 1048576
 rtext : (refB (tx ((v.f 1).f 0).s) ((v.f 1).f 1).l).length <= 4000000
 dflt : bulkD (v.f 3) <= 1048576
 dtext : (valT K (v.f 3)).length <= 26000000
theorem VarsOk.sz {K : Nat} {l : List D} (h : VarsOk K l) {i : Nat} (hi : i < l.length) : VarSz K (gD l i):=by
 have h0:=zAa hi
 have h0':=h.bulk
 have h1:=zBT K ((gD l i).f 3) ((h.wide i).f 3)
 have h2:=zy ((gD l i).f 3)
 have h3:=zy (gD l i)
 have h4:=zAv ((gD l i).f 0)
 have h5:=zAd (gD l i) 4
 have h7:=zEK (tx (((gD l i).f 1).f 0).s) (((gD l i).f 1).f 1).l
 have h8:=zAd ((gD l i).f 1) 2
 have h9:=zAv (((gD l i).f 1).f 0)
 have h10:=zBL (((gD l i).f 1).f 0).s
 have h11:=Nat.le_trans (zAY (((gD l i).f 1).f 1).l) (zAE (((gD l i).f 1).f 1))
 simp only [sumN] at h5 h8
 refine ⟨?_,?_,?_,?_,?_,?_⟩ <;> omega
end Go.Proofs.YtdlnnlglmifceaaDoor
namespace Go.Proofs.YtdlnnlglmifceaaDoor
open Go.RowKit
attribute [local irreducible] wpList Calls Code.wp AW AWo OpOk seqK zAf zAj loopK endK AC zAH Yld Sub
attribute [local irreducible] ACB YldG
structure DocOk (K f : Nat) (q : D) : Prop where
 wide : wideD q
 bulk : bulkD q <= 1048576
 deep : f <= 299
 vars : ∀ i,i < (q.f 0).l.length -> VarsOk K ((gD (q.f 0).l i).f 2).l
 sels : ∀ i,i < (q.f 0).l.length -> SelsOk K (f + 1) ((gD (q.f 0).l i).f 3).l
 frag : ∀ i,i < (q.f 1).l.length -> SelsOk K (f + 1) ((gD (q.f 1).l i).f 2).l
end Go.Proofs.YtdlnnlglmifceaaDoor
namespace Go.Proofs.YtdlnnlglmifceaaDoor
def refK (n : List UInt8) : List D -> KS
 | [] => [(2,n)]
 | d :: ds => if d.n == 1 then refK n ds ++ [(1,[33])] else (1,[91]) :: (refK n ds ++ [(1,[93])])
theorem zHB {s : ByteArray} (h : nameB s = true) : ∀ l : List D,Pw (refB (tx s) l) (refK (tx s) l)
 | [] => .nm h
 | d :: ds => by
   have ih:=zHB h ds
   unfold refB refK
   split
   . exact (ih.app (Ps.sign (c:=33) rfl) ⟨by simp,zAz (by decide)⟩).w
   . exact (Ps.wrap rfl rfl ih).w
structure VarF (v : D) : Prop where
 name : nameB (v.f 0).s = true
 rname : nameB ((v.f 1).f 0).s = true
 rlen : ((v.f 1).f 1).l.length <= 24
 wraps : zCH (((v.f 1).f 1).l.map D.n) = true
 has : (v.f 2).b = true -> litR (v.f 3) = true /\ bareR (bulkD (v.f 3)) (v.f 3) = true
 hasnt : (v.f 2).b = false -> ((v.f 3).f 0).n = 0 /\ ((v.f 3).f 1).n = 0 /\ tx ((v.f 3).f 2).s = [] /\ ((v.f 3).f 3).l.length = 0 /\ ((v.f 3).f 4).l.length = 0
structure OpF (o : D) : Prop where
 kind : 1 <= (o.f 0).n /\ (o.f 0).n <= 3
 name : tx (o.f 1).s = [] \/ nameB (o.f 1).s = true
 vlen : (o.f 2).l.length <= 16
 vars : ∀ i,i < (o.f 2).l.length -> VarF (gD (o.f 2).l i)
 sels : SetF (fun d => selR (bulkL (o.f 3).l) 1 d = true) 1 (o.f 3).l 1
structure FragF (o : D) : Prop where
 name : nameB (o.f 0).s = true
 notOn : tx (o.f 0).s ≠ [111,110]
 on : nameB (o.f 1).s = true
 sels : SetF (fun d => selR (bulkL (o.f 2).l) 1 d = true) 1 (o.f 2).l 1
structure QueF (q : D) : Prop where
 len : 1 <= (q.f 0).l.length + (q.f 1).l.length /\ (q.f 0).l.length + (q.f 1).l.length <= 64
 ops : ∀ i,i < (q.f 0).l.length -> OpF (gD (q.f 0).l i)
 frags : ∀ i,i < (q.f 1).l.length -> FragF (gD (q.f 1).l i)
def mkT (p : Int × List UInt8) : Tok:=⟨p.1,p.2,0⟩
def pst (l : KS) (v : Bool) (n : Nat) : PS:=⟨l.map mkT,v,n⟩
theorem zID (k : Int) (s : List UInt8) (r : KS) (v : Bool) (n : Nat) : hdT (pst ((k,s) :: r) v n) = ⟨k,s,0⟩:=rfl
theorem zBY {k : Int} {s : List UInt8} {r : KS} {v : Bool} {n : Nat} (h : k ≠ 5) : nxT (pst ((k,s) :: r) v n) = pst r v n:=by
 unfold nxT
 rw [zID,if_neg h]
 rfl
theorem zDl (k : Int) (s : List UInt8) (r : KS) (v : Bool) (n : Nat) (t : List UInt8) : isS (pst ((k,s) :: r) v n) t = (k == 1 && s == t):=rfl
theorem zBR (s : List UInt8) (r : KS) (v : Bool) (n : Nat) : isS (pst ((1,s) :: r) v n) s = true:=by
 rw [zDl]; simp
theorem zBf (s : List UInt8) (r : KS) (v : Bool) (n : Nat) : takeQ s (pst ((1,s) :: r) v n) = .ok ((),pst r v n):=by
 unfold takeQ
 rw [if_pos (zBR s r v n),zBY (by decide)]
theorem zBE (s : List UInt8) (r : KS) (v : Bool) (n : Nat) : zA0 (pst ((2,s) :: r) v n) = .ok (s,pst r v n):=by
 unfold zA0
 rw [zID,if_pos rfl,zBY (by decide)]
theorem zp {α β : Type} {a : α} {x : PS} {f : α -> PS -> PR β} : thenQ (.ok (a,x)) f = f a x:=rfl
def nS (r : KS) (s : List UInt8) : Prop:=∀ v n,isS (pst r v n) s = false
theorem zA4 {k : Int} {s t : List UInt8} {r : KS} (h : (k == 1 && s == t) = false) : nS ((k,s) :: r) t:=fun _ _ => h
theorem nS_gK {g : Nat -> KS} {j m : Nat} {r : KS} {s : List UInt8} (hg : ∀ i r,nS (g i ++ r) s) (hr : nS r s) : nS (gK g j m ++ r) s:=by
 cases m with
 | zero => exact hr
 | succ m => rw [zB4,List.append_assoc]; exact hg _ _
def cnt : List Int -> Nat
 | [] => 0
 | d :: l => if d = 1 then cnt l else cnt l + 1
theorem zDO (d : Int) (l : List Int) : cnt (d :: l) = if d = 1 then cnt l else cnt l + 1:=rfl
theorem cnt_app (a b : List Int) : cnt (a ++ b) = cnt a + cnt b:=by
 induction a with
 | nil => simp [cnt]
 | cons d l ih =>
   rw [List.cons_append,zDO,zDO]
   split <;> omega
def clsK (es : List Int) : KS:=es.map fun d => (1,[if d = 1 then 33 else 93])
theorem refK_eq (n : List UInt8) : ∀ ds : List D,refK n ds = List.replicate (cnt (ds.map D.n)) (1,[91]) ++ (2,n) :: clsK (ds.map D.n).reverse
 | [] => rfl
 | d :: ds => by
   have ih:=refK_eq n ds
   unfold refK
   rw [ih,List.map_cons,List.reverse_cons,zDO]
   by_cases h : d.n = 1
   . rw [if_pos (by rw [h]; rfl),if_pos h]
     simp [clsK,h]
   . rw [if_neg (by simpa using h),if_neg h,List.replicate_succ]
     simp [clsK,h]
theorem cnt_rev (l : List Int) : cnt l.reverse = cnt l:=by
 induction l with
 | nil => rfl
 | cons d l ih =>
   rw [List.reverse_cons,cnt_app,ih,zDO,zDO]
   split <;> simp [cnt]
theorem zHv {r : KS} {v : Bool} {n : Nat} (hr : nS r [91]) : ∀ (m f : Nat),m <= f -> zBK f (pst (List.replicate m (1,[91]) ++ r) v n) = (m,pst r v n)
 | 0,0,_ => rfl
 | 0,f + 1,_ => by
   unfold zBK
   rw [if_neg (by rw [List.replicate_zero,List.nil_append,hr]; decide)]
   rfl
 | m + 1,0,h => by omega
 | m + 1,f + 1,h => by
   unfold zBK
   rw [List.replicate_succ,List.cons_append,if_pos (zBR _ _ _ _),zBY (by decide),zHv hr m f (by omega)]
theorem zHe : ∀ {l : List Int},zCH l = true -> (∀ x ∈ l,x = 1 \/ x = 2) /\ ∀ p a b q,l = p ++ a :: b :: q -> ¬ (a = 1 /\ b = 1)
 | [],_ => ⟨fun _ h => absurd h (by simp),fun p a b q e => by have:=congrArg List.length e; simp at this⟩
 | [w],h => by
   unfold zCH at h
   simp only [Bool.or_eq_true,beq_iff_eq] at h
   refine ⟨fun x hx => ?_,fun p a b q e => ?_⟩
   . rw [List.mem_singleton] at hx; rw [hx]; exact h
   . have:=congrArg List.length e; simp at this; omega
 | w :: u :: r,h => by
   unfold zCH at h
   simp only [Bool.and_eq_true,Bool.or_eq_true,beq_iff_eq,Bool.not_eq_true',Bool.and_eq_false_iff,beq_eq_false_iff_ne] at h
   obtain ⟨⟨h1,h2⟩,h3⟩:=h
   obtain ⟨i1,i2⟩:=zHe h3
   refine ⟨fun x hx => ?_,fun p a b q e => ?_⟩
   . rcases List.mem_cons.1 hx with rfl | hx
     . exact h1
     . exact i1 x hx
   . cases p with
     | nil =>
       rw [List.nil_append] at e
       injection e with e1 e2
       injection e2 with e2 e3
       subst e1 e2
       rintro ⟨a1,a2⟩
       rcases h2 with h2 | h2
       . exact h2 a1
       . exact h2 a2
     | cons y p =>
       rw [List.cons_append] at e
       injection e with e1 e2
       exact i2 p a b q e2
theorem zEi {r : KS} {v : Bool} {n : Nat} (hr : nS r [33]) : ∀ (es w : List Int),(∀ x ∈ es,x = 1 \/ x = 2) -> (∀ p a b q,es = p ++ a :: b :: q -> ¬ (a = 1 /\ b = 1)) ->
 closeQ (cnt es) w (pst (clsK es ++ r) v n) = .ok (es.reverse ++ w,pst r v n)
 | [],w,_,_ => by
   show closeQ 0 w (pst r v n) = _
   unfold closeQ
   rw [if_neg (by rw [hr]; decide)]
   rfl
 | [d],w,h,_ => by
   rcases h d (by simp) with rfl | rfl
   . show closeQ 0 w (pst ((1,[33]) :: r) v n) = _
     unfold closeQ
     rw [if_pos (zBR _ _ _ _),zBY (by decide)]
     rfl
   . show closeQ 1 w (pst ((1,[93]) :: r) v n) = _
     unfold closeQ
     rw [if_neg (by rw [zDl]; decide),if_neg (by rw [zDl]; decide),zBf,zp]
     unfold closeQ
     rw [if_neg (by rw [hr]; decide)]
     rfl
 | d :: e :: es,w,h,ha => by
   rcases h d (by simp) with rfl | rfl
   . have he : e = 2:=by
      rcases h e (by simp) with h' | h'
      . exact absurd ⟨rfl,h'⟩ (ha [] 1 e es rfl)
      . exact h'
     subst he
     have ih:=zEi (v:=v) (n:=n) hr es (2 :: 1 :: w) (fun x hx => h x (by simp [hx])) (fun p a b q e' => ha (1 :: 2 :: p) a b q (by rw [e']; rfl))
     show closeQ (cnt es + 1) w (pst ((1,[33]) :: (1,[93]) :: (clsK es ++ r)) v n) = _
     unfold closeQ
     rw [if_pos (zBR _ _ _ _),if_pos (zBR _ _ _ _),zBY (by decide),zBf,zp,ih]
     simp
   . have ih:=zEi (v:=v) (n:=n) hr (e :: es) (2 :: w) (fun x hx => h x (by simp at hx |-; exact .inr hx)) (fun p a b q e' => ha (2 :: p) a b q (by rw [e']; rfl))
     show closeQ (cnt (e :: es) + 1) w (pst ((1,[93]) :: (clsK (e :: es) ++ r)) v n) = _
     unfold closeQ
     rw [if_neg (by rw [zDl]; decide),if_neg (by rw [zDl]; decide),zBf,zp,ih]
     simp
theorem typ_pst {nm : List UInt8} {ds : List D} {r : KS} {v : Bool} {n : Nat} (hw : zCH (ds.map D.n) = true) (hl : ds.length <= 24) (hr : nS r [33]) : typQ (pst (refK nm ds ++ r) v n) = .ok (refD nm (ds.map D.n),pst r v n):=by
 obtain ⟨h1,h2⟩:=zHe hw
 have e : refK nm ds ++ r = List.replicate (cnt (ds.map D.n)) (1,[91]) ++ (2,nm) :: (clsK (ds.map D.n).reverse ++ r):=by rw [refK_eq]; simp
 have ho:=zHv (r:=(2,nm) :: (clsK (ds.map D.n).reverse ++ r)) (v:=v) (n:=n) (zA4 rfl) (cnt (ds.map D.n)) (pst (refK nm ds ++ r) v n).ts.length (by rw [e]; simp [pst])
 have hc:=zEi (v:=v) (n:=n) hr (ds.map D.n).reverse [] (fun x hx => h1 x (by simpa using hx)) (fun p a b q e' => fun hab => by
  have e2 : ds.map D.n = q.reverse ++ b :: a :: p.reverse:=by have:=congrArg List.reverse e'; simpa using this
  exact h2 _ _ _ _ e2 ⟨hab.2,hab.1⟩)
 rw [cnt_rev] at hc
 unfold typQ zFG
 rw [e] at ho |-
 rw [ho]
 dsimp only
 rw [zBE,zp,hc,zp,zp]
 dsimp only
 rw [if_neg (by simp; omega)]
 simp
def cnV : Nat -> D -> D
 | 0,d => d
 | k + 1,d => valD (d.f 0).n (d.f 1).n (tx (d.f 2).s) ((List.range (d.f 3).l.length).map fun i => cnV k (gD (d.f 3).l i)) (strsR d)
theorem zIS (k : Nat) (d : D) : cnV (k + 1) d = valD (d.f 0).n (d.f 1).n (tx (d.f 2).s) ((List.range (d.f 3).l.length).map fun i => cnV k (gD (d.f 3).l i)) (strsR d):=rfl
def cL (d : D) : D:=cnV (bulkD d) d
theorem zBt {f lv : Nat} {kk : Int} {s : List UInt8} {r : KS} {v : Bool} {n : Nat} (h0 : zGY (pst ((kk,s) :: r) v n) = false) (hk : kk ≠ 5) (hlv : lv <= 24) (hn : n < 4096) :
 valueQ (f + 1) lv (pst ((kk,s) :: r) v n) = (if kk = 3 then .ok (valD 2 (numQ s) [] [] [],pst r v (n + 1)) else if kk = 4 then .ok (valD 3 0 s [] [],pst r v (n + 1)) else if kk = 2 then .ok (wordV s,pst r v (n + 1))
  else if s = [36] then thenQ (zA0 (pst r v (n + 1))) (fun n z => .ok (valD 7 0 n [] [],z))
  else if s = [91] then thenQ (zCK (valueQ f (lv + 1)) (r.length + 1) [] (pst r v (n + 1))) (fun l z => .ok (valD 5 0 [] l [],z))
  else thenQ (zBa (valueQ f (lv + 1)) (r.length + 1) [] [] (pst r v (n + 1))) (fun l z => .ok (valD 6 0 [] l.2 l.1,z))):=by
 have hy : ({ nxT (pst ((kk,s) :: r) v n) with nd:=n + 1 } : PS) = pst r v (n + 1):=by rw [zBY hk]; rfl
 have hlen : (pst r v (n + 1)).ts.length = r.length:=by simp [pst]
 unfold valueQ
 rw [show (pst ((kk,s) :: r) v n).nd = n from rfl,if_neg (by rw [h0]; decide),if_neg (by omega),if_neg (show ¬ 4096 <= n by omega)]
 dsimp only
 rw [hy,zID,zBY hk]
 dsimp only
 rw [show (pst r v n).ts.length = r.length by simp [pst]]
theorem zGg {val : PS -> PR D} {g : Nat -> KS} {c : Nat -> D} {sz : Nat -> Nat} {v : Bool} {n0 N : Nat} (hval : ∀ i r,i < N -> val (pst (g i ++ r) v (n0 + sumN sz i)) = .ok (c i,pst r v (n0 + sumN sz (i + 1))))
 (hfst : ∀ i r n,i < N -> isS (pst (g i ++ r) v n) [93] = false) : ∀ (m j f : Nat) (r : KS),j + m = N -> m < f ->
 zCK val f ((List.range j).map c) (pst (gK g j m ++ (1,[93]) :: r) v (n0 + sumN sz j)) = .ok ((List.range N).map c,pst r v (n0 + sumN sz N))
 | _,_,0,_,_,hf => by omega
 | 0,j,f + 1,r,hj,_ => by
   have e : j = N:=by omega
   subst e
   unfold zCK
   rw [zEV,List.nil_append,if_pos (zBR _ _ _ _),zBY (by decide)]
 | m + 1,j,f + 1,r,hj,hf => by
   have ih:=zGg hval hfst m (j + 1) f r (by omega) (by omega)
   unfold zCK
   rw [zB4,List.append_assoc,if_neg (by rw [hfst j _ _ (by omega)]; decide),hval j _ (by omega),zp]
   rw [List.range_succ,List.map_append] at ih
   exact ih
theorem zFK {val : PS -> PR D} {g : Nat -> KS} {c : Nat -> D} {key : Nat -> List UInt8} {sz : Nat -> Nat} {v : Bool} {n0 N : Nat} (hval : ∀ i r,i < N -> val (pst (g i ++ r) v (n0 + sumN sz i)) = .ok (c i,pst r v (n0 + sumN sz (i + 1))))
 (hnd : ∀ i j,i < j -> j < N -> key i ≠ key j) : ∀ (m j f : Nat) (r : KS),j + m = N -> m < f ->
 zBa val f ((List.range j).map key) ((List.range j).map c) (pst (gK (fun i => (2,key i) :: (1,[58]) :: g i) j m ++ (1,[125]) :: r) v (n0 + sumN sz j)) = .ok (((List.range N).map key,(List.range N).map c),pst r v (n0 + sumN sz N))
 | _,_,0,_,_,hf => by omega
 | 0,j,f + 1,r,hj,_ => by
   have e : j = N:=by omega
   subst e
   unfold zBa
   rw [zEV,List.nil_append,if_pos (zBR _ _ _ _),zBY (by decide)]
 | m + 1,j,f + 1,r,hj,hf => by
   have ih:=zFK hval hnd m (j + 1) f r (by omega) (by omega)
   have hc : ((List.range j).map key).contains (key j) = false:=by
    simp only [List.contains_eq_mem,decide_eq_false_iff_not,List.mem_map,List.mem_range]
    rintro ⟨i,hi,e⟩
    exact hnd i j hi (by omega) e
   unfold zBa
   rw [zB4,List.append_assoc,List.cons_append,List.cons_append,if_neg (by rw [zDl]; simp),zBE,zp,if_neg (by rw [hc]; decide),zBf,zp,hval j _ (by omega),zp]
   rw [List.range_succ,List.map_append,List.map_append] at ih
   exact ih
theorem zH2 {f : Nat -> Nat} : ∀ {n i : Nat},i < n -> f i <= maxN f n
 | 0,_,h => by omega
 | n + 1,i,h => by
   unfold maxN
   by_cases e : i = n
   . subst e; omega
   . have:=zH2 (f:=f) (n:=n) (i:=i) (by omega); omega
theorem zHk {d : D} (h : (d.f 4).l.length = 0) : strsR d = []:=by
 unfold strsR
 rw [List.length_eq_zero_iff.1 h]; rfl
theorem zCi {k : Nat} {d : D} (h : (d.f 3).l.length = 0) (h2 : (d.f 4).l.length = 0) : cnV (k + 1) d = valD (d.f 0).n (d.f 1).n (tx (d.f 2).s) [] [] /\ sizeR (k + 1) d = 1:=by
 unfold cnV sizeR
 rw [h,zHk h2]
 exact ⟨rfl,rfl⟩
theorem zHh {k : Nat} {d : D} (h : everyL k d = true) : ∃ kk s t,valK k d = (kk,s) :: t /\ (kk == 1 && s == [93]) = false:=by
 cases k with
 | zero => cases h
 | succ k =>
   unfold valK
   repeat' split
   all_goals exact ⟨_,_,_,rfl,rfl⟩
theorem zGH : ∀ (k f lv : Nat) (d : D) (r : KS) (v : Bool) (n : Nat),everyL k d = true -> wideD d -> lv + depthR k d <= 25 -> depthR k d <= f -> n + sizeR k d <= 4096 -> (v = false -> bareR k d = true) ->
 valueQ f lv (pst (valK k d ++ r) v n) = .ok (cnV k d,pst r v (n + sizeR k d))
 | 0,_,_,_,_,_,_,h,_,_,_,_,_ => by cases h
 | k + 1,f,lv,d,r,v,n,h,hw,hlv,hf,hn,hb => by
   obtain ⟨hN,hi⟩:=zCg h
   have hd1 : 1 <= depthR (k + 1) d:=by unfold depthR; omega
   have hs1 : 1 <= sizeR (k + 1) d:=by unfold sizeR; omega
   obtain ⟨f,rfl⟩ : ∃ q,f = q + 1:=⟨f - 1,by omega⟩
   have hdep : ∀ i,i < (d.f 3).l.length -> depthR k (gD (d.f 3).l i) + 1 <= depthR (k + 1) d:=fun i hl => by
    have:=zH2 (f:=fun i => depthR k (gD (d.f 3).l i)) hl
    have e : depthR (k + 1) d = maxN (fun i => depthR k (gD (d.f 3).l i)) (d.f 3).l.length + 1:=rfl
    omega
   have hsz : sizeR (k + 1) d = 1 + sumN (fun i => sizeR k (gD (d.f 3).l i)) (d.f 3).l.length:=rfl
   have hbar : v = false -> (d.f 0).n ≠ 7 /\ ∀ i,i < (d.f 3).l.length -> bareR k (gD (d.f 3).l i) = true:=fun e => by
    have:=hb e
    unfold bareR at this
    simp only [Bool.and_eq_true,Bool.not_eq_true',beq_eq_false_iff_ne] at this
    exact ⟨this.1,zCx this.2⟩
   have hval : ∀ i r,i < (d.f 3).l.length -> valueQ f (lv + 1) (pst (valK k (gD (d.f 3).l i) ++ r) v (n + 1 + sumN (fun i => sizeR k (gD (d.f 3).l i)) i)) = .ok (cnV k (gD (d.f 3).l i),pst r v (n + 1 + sumN (fun i => sizeR k (gD (d.f 3).l i)) (i + 1))):=fun i r hl => by
    have h1:=hdep i hl
    have h2:=zA5 (fun i => sizeR k (gD (d.f 3).l i)) (show i + 1 <= (d.f 3).l.length by omega)
    have h3 : sumN (fun i => sizeR k (gD (d.f 3).l i)) (i + 1) = sumN (fun i => sizeR k (gD (d.f 3).l i)) i + sizeR k (gD (d.f 3).l i):=rfl
    rw [zGH k f (lv + 1) _ r v _ (hi i hl) ((hw.f 3).l i) (by omega) (by omega) (by omega) fun e => (hbar e).2 i hl,h3,Nat.add_assoc (n + 1)]
   by_cases k1 : (d.f 0).n = 1
   . have i0 : (d.f 3).l.length = 0:=by rcases hN.items0 with e | e | e <;> omega
     have q0 : (d.f 4).l.length = 0:=by rcases hN.keys0 with e | e <;> omega
     have t0 : tx (d.f 2).s = []:=by rcases hN.txt0 with e | e | e | e <;> first | omega | exact e
     obtain ⟨e1,e2⟩:=zCi (k:=k) i0 q0
     rw [e1,e2,t0,k1]
     unfold valK
     rw [if_pos k1,List.cons_append,List.nil_append,zBt rfl (by decide) (by omega) (by omega),if_neg (by decide),if_neg (by decide),if_pos rfl]
     rcases hN.bool k1 with e | e
     . rw [e,if_neg (by decide)]; rfl
     . rw [e,if_pos rfl]; rfl
   by_cases k2 : (d.f 0).n = 2
   . have i0 : (d.f 3).l.length = 0:=by rcases hN.items0 with e | e | e <;> omega
     have q0 : (d.f 4).l.length = 0:=by rcases hN.keys0 with e | e <;> omega
     have t0 : tx (d.f 2).s = []:=by rcases hN.txt0 with e | e | e | e <;> first | omega | exact e
     obtain ⟨e1,e2⟩:=zCi (k:=k) i0 q0
     rw [e1,e2,t0,k2]
     unfold valK
     rw [if_neg k1,if_pos k2,List.cons_append,List.nil_append,zBt rfl (by decide) (by omega) (by omega),if_pos rfl]
     unfold numQ
     rw [zHx _ (hw.f 1).n.1 (hw.f 1).n.2]
   by_cases k3 : (d.f 0).n = 3
   . have i0 : (d.f 3).l.length = 0:=by rcases hN.items0 with e | e | e <;> omega
     have q0 : (d.f 4).l.length = 0:=by rcases hN.keys0 with e | e <;> omega
     have n0 : (d.f 1).n = 0:=by rcases hN.int0 with e | e | e <;> omega
     obtain ⟨e1,e2⟩:=zCi (k:=k) i0 q0
     rw [e1,e2,n0,k3]
     unfold valK
     rw [if_neg k1,if_neg k2,if_pos k3,List.cons_append,List.nil_append,zBt rfl (by decide) (by omega) (by omega),if_neg (by decide),if_pos rfl]
   by_cases k4 : (d.f 0).n = 4
   . have i0 : (d.f 3).l.length = 0:=by rcases hN.items0 with e | e | e <;> omega
     have q0 : (d.f 4).l.length = 0:=by rcases hN.keys0 with e | e <;> omega
     have n0 : (d.f 1).n = 0:=by rcases hN.int0 with e | e | e <;> omega
     obtain ⟨-,w1,w2,w3⟩:=zGq (hN.enum k4)
     obtain ⟨e1,e2⟩:=zCi (k:=k) i0 q0
     rw [e1,e2,n0,k4]
     unfold valK
     rw [if_neg k1,if_neg k2,if_neg k3,if_pos k4,List.cons_append,List.nil_append,zBt rfl (by decide) (by omega) (by omega),if_neg (by decide),if_neg (by decide),if_pos rfl]
     unfold wordV
     rw [if_neg w1,if_neg w2,if_neg w3]
   by_cases k7 : (d.f 0).n = 7
   . have i0 : (d.f 3).l.length = 0:=by rcases hN.items0 with e | e | e <;> omega
     have q0 : (d.f 4).l.length = 0:=by rcases hN.keys0 with e | e <;> omega
     have n0 : (d.f 1).n = 0:=by rcases hN.int0 with e | e | e <;> omega
     obtain ⟨e1,e2⟩:=zCi (k:=k) i0 q0
     cases v with
     | false => exact absurd k7 (hbar rfl).1
     | true =>
       rw [e1,e2,n0,k7]
       unfold valK
       rw [if_neg k1,if_neg k2,if_neg k3,if_neg k4,if_pos k7,List.cons_append,List.cons_append,List.nil_append,zBt rfl (by decide) (by omega) (by omega),if_neg (by decide),if_neg (by decide),if_neg (by decide),if_pos rfl,zBE]
       rfl
   by_cases k5 : (d.f 0).n = 5
   . have q0 : (d.f 4).l.length = 0:=by rcases hN.keys0 with e | e <;> omega
     have n0 : (d.f 1).n = 0:=by rcases hN.int0 with e | e | e <;> omega
     have t0 : tx (d.f 2).s = []:=by rcases hN.txt0 with e | e | e | e <;> first | omega | exact e
     have hit:=zGg (v:=v) hval (fun i r n hl => by
      obtain ⟨kk,s,t,e,hk⟩:=zHh (hi i hl)
      rw [e,List.cons_append,zDl]; exact hk) (d.f 3).l.length 0 ((gK (fun i => valK k (gD (d.f 3).l i)) 0 (d.f 3).l.length ++ (1,[93]) :: r).length + 1) r (by omega) (by
       have:=zDH (fun i => if i < (d.f 3).l.length then valK k (gD (d.f 3).l i) else [(1,[])]) (fun i => by
        split
        . rename_i hl
          obtain ⟨kk,s,t,e,-⟩:=zHh (hi i hl)
          rw [e]; simp
        . simp) (d.f 3).l.length 0
       have e2 : gK (fun i => if i < (d.f 3).l.length then valK k (gD (d.f 3).l i) else [(1,[])]) 0 (d.f 3).l.length = gK (fun i => valK k (gD (d.f 3).l i)) 0 (d.f 3).l.length:=by
        unfold gK
        rw [List.flatMap_def,List.flatMap_def]
        congr 1
        refine List.map_congr_left fun i hi2 => ?_
        have : i < (d.f 3).l.length:=by simpa using List.mem_range'.1 hi2 |>.elim fun x hx => by omega
        rw [if_pos this]
       rw [e2] at this
       rw [List.length_append]
       omega)
     have e0 : n + 1 + sumN (fun i => sizeR k (gD (d.f 3).l i)) 0 = n + 1:=rfl
     rw [e0] at hit
     unfold valK
     rw [if_neg k1,if_neg k2,if_neg k3,if_neg k4,if_neg k7,if_pos k5]
     have ea : (1,[91]) :: (gK (fun i => valK k (gD (d.f 3).l i)) 0 (d.f 3).l.length ++ [(1,[93])]) ++ r = ((1 : Int),[(91 : UInt8)]) :: (gK (fun i => valK k (gD (d.f 3).l i)) 0 (d.f 3).l.length ++ (1,[93]) :: r):=by simp
     rw [ea,zBt rfl (by decide) (by omega) (by omega),if_neg (by decide),if_neg (by decide),if_neg (by decide),if_neg (by decide),if_pos rfl]
     have hit' : zCK (valueQ f (lv + 1)) ((gK (fun i => valK k (gD (d.f 3).l i)) 0 (d.f 3).l.length ++ (1,[93]) :: r).length + 1) [] (pst (gK (fun i => valK k (gD (d.f 3).l i)) 0 (d.f 3).l.length ++ (1,[93]) :: r) v (n + 1)) = _:=hit
     rw [hit',zp,hsz,Nat.add_assoc n 1,zIS,k5,n0,t0,zHk q0]
   by_cases k6 : (d.f 0).n = 6
   . obtain ⟨-,hlen,hnd⟩:=hN.obj k6
     have n0 : (d.f 1).n = 0:=by rcases hN.int0 with e | e | e <;> omega
     have t0 : tx (d.f 2).s = []:=by rcases hN.txt0 with e | e | e | e <;> first | omega | exact e
     have hst : strsR d = (List.range (d.f 3).l.length).map fun i => tx (gD (d.f 4).l i).s:=by
      unfold strsR
      rw [<- hlen]
      exact zEM (d.f 4).l fun x => tx x.s
     have hkey : ∀ i j,i < j -> j < (d.f 3).l.length -> tx (gD (d.f 4).l i).s ≠ tx (gD (d.f 4).l j).s:=fun i j hij hj => by
      rw [hst] at hnd
      have:=List.pairwise_iff_getElem.1 hnd i j (by simp; omega) (by simp; omega) hij
      simpa using this
     have hit:=zFK (key:=fun i => tx (gD (d.f 4).l i).s) (v:=v) hval hkey (d.f 3).l.length 0 ((gK (fun i => (2,tx (gD (d.f 4).l i).s) :: (1,[58]) :: valK k (gD (d.f 3).l i)) 0 (d.f 3).l.length ++ (1,[125]) :: r).length + 1) r (by omega) (by
      have:=zDH (fun i => (2,tx (gD (d.f 4).l i).s) :: (1,[58]) :: valK k (gD (d.f 3).l i)) (fun i => by simp) (d.f 3).l.length 0
      rw [List.length_append]
      omega)
     have e0 : n + 1 + sumN (fun i => sizeR k (gD (d.f 3).l i)) 0 = n + 1:=rfl
     rw [e0] at hit
     unfold valK
     rw [if_neg k1,if_neg k2,if_neg k3,if_neg k4,if_neg k7,if_neg k5,if_pos k6]
     have ea : (1,[123]) :: (gK (fun i => (2,tx (gD (d.f 4).l i).s) :: (1,[58]) :: valK k (gD (d.f 3).l i)) 0 (d.f 3).l.length ++ [(1,[125])]) ++ r = ((1 : Int),[(123 : UInt8)]) :: (gK (fun i => (2,tx (gD (d.f 4).l i).s) :: (1,[58]) :: valK k (gD (d.f 3).l i)) 0 (d.f 3).l.length ++ (1,[125]) :: r):=by simp
     rw [ea,zBt rfl (by decide) (by omega) (by omega),if_neg (by decide),if_neg (by decide),if_neg (by decide),if_neg (by decide),if_neg (by decide)]
     have hit' : zBa (valueQ f (lv + 1)) ((gK (fun i => (2,tx (gD (d.f 4).l i).s) :: (1,[58]) :: valK k (gD (d.f 3).l i)) 0 (d.f 3).l.length ++ (1,[125]) :: r).length + 1) [] [] (pst (gK (fun i => (2,tx (gD (d.f 4).l i).s) :: (1,[58]) :: valK k (gD (d.f 3).l i)) 0 (d.f 3).l.length ++ (1,[125]) :: r) v (n + 1)) = _:=hit
     rw [hit',zp,hsz,Nat.add_assoc n 1,zIS,k6,n0,t0,hst]
   . have kd:=hN.kind
     have k0 : (d.f 0).n = 0:=by omega
     have i0 : (d.f 3).l.length = 0:=by rcases hN.items0 with e | e | e <;> omega
     have q0 : (d.f 4).l.length = 0:=by rcases hN.keys0 with e | e <;> omega
     have n0 : (d.f 1).n = 0:=by rcases hN.int0 with e | e | e <;> omega
     have t0 : tx (d.f 2).s = []:=by rcases hN.txt0 with e | e | e | e <;> first | omega | exact e
     obtain ⟨e1,e2⟩:=zCi (k:=k) i0 q0
     rw [e1,e2,n0,t0,k0]
     unfold valK
     rw [if_neg k1,if_neg k2,if_neg k3,if_neg k4,if_neg k7,if_neg k5,if_neg k6,List.cons_append,List.nil_append,zBt rfl (by decide) (by omega) (by omega),if_neg (by decide),if_neg (by decide),if_pos rfl]
     rfl
theorem zGF {d : D} {r : KS} {v : Bool} {n : Nat} (h : litR d = true) (hw : wideD d) (hb : v = false -> bareR (bulkD d) d = true) : zCP (pst (litK d ++ r) v n) = .ok (cL d,pst r v (sizeR (bulkD d) d)):=by
 unfold litR at h
 simp only [Bool.and_eq_true,decide_eq_true_eq] at h
 have:=zGH (bulkD d) 25 1 d r v 0 h.2 hw (by omega) (by omega) (by omega) hb
 rw [Nat.zero_add] at this
 exact this
def rgD (c : D -> D) (l : List D) : List D:=(List.range l.length).map fun i => c (gD l i)
def cA (a : D) : D:=argD (tx (a.f 0).s) (cL (a.f 1))
def cDir (x : D) : D:=dirD (tx (x.f 0).s) (rgD cA (x.f 1).l)
theorem zEs (c : Nat -> D) (j : Nat) : ((List.range j).map c).length = j:=by simp
theorem zHH {l : List D} {r : KS} {s : List UInt8} (h : ([64] == s) = false) (hr : nS r s) : nS (rgK dirK l ++ r) s:=
 nS_gK (fun i r => zA4 (by simpa using h)) hr
def SDp : Nat -> List D -> Prop
 | 0,l => l = []
 | f + 1,l => ∀ i,i < l.length -> SDp f ((gD l i).f 6).l
structure QuePs (f : Nat) (q : D) : Prop where
 right : QueF q
 wide : wideD q
 ops : ∀ i,i < (q.f 0).l.length -> SDp f ((gD (q.f 0).l i).f 3).l
 frags : ∀ i,i < (q.f 1).l.length -> SDp f ((gD (q.f 1).l i).f 2).l
end Go.Proofs.YtdlnnlglmifceaaDoor
namespace Go.Proofs.YtdlnnlglmifceaaDoor
open Go.RowKit
theorem zAn {k : Nat} {d : D} (h : Fits Tryd.prog k 9 d) : ∃ s,d = .str s:=by
 cases k with
 | zero => exact h.elim
 | succ k => unfold Fits at h; rw [Tryd.underlying9] at h; exact h
theorem zBy {k : Nat} {d : D} (h : Fits Tryd.prog k 3 d) : ∃ n,d = .int n:=by
 cases k with
 | zero => exact h.elim
 | succ k => unfold Fits at h; rw [Tryd.underlying3] at h; exact h
theorem fits_b {k : Nat} {d : D} (h : Fits Tryd.prog k 4 d) : ∃ n,d = .bool n:=by
 cases k with
 | zero => exact h.elim
 | succ k => unfold Fits at h; rw [Tryd.underlying4] at h; exact h
theorem zAW {P : Program} {t e : TypeId} (hu : P.underlying t = some (.slice e)) {k : Nat} {d : D} (h : Fits P k t d) : ∃ j l,d = .list l /\ ∀ i,i < l.length -> Fits P j e (gD l i):=by
 cases k with
 | zero => exact h.elim
 | succ k => unfold Fits at h; rw [hu] at h; exact ⟨k,h⟩
theorem zAp {P : Program} {t : TypeId} {fs : Array Field} (hu : P.underlying t = some (.struct fs)) {k : Nat} {d : D} (h : Fits P k t d) : ∃ j l,d = .obj l /\ l.length = fs.size /\ ∀ i f,fs[i]? = some f -> Fits P j f.type (gD l i):=by
 cases k with
 | zero => exact h.elim
 | succ k => unfold Fits at h; rw [hu] at h; exact ⟨k,h⟩
theorem len2 {l : List D} (h : l.length = 2) : l = [gD l 0,gD l 1]:=by
 match l,h with
 | [a,b],_ => rfl
theorem len4 {l : List D} (h : l.length = 4) : l = [gD l 0,gD l 1,gD l 2,gD l 3]:=by
 match l,h with
 | [a,b,c,d],_ => rfl
theorem len5 {l : List D} (h : l.length = 5) : l = [gD l 0,gD l 1,gD l 2,gD l 3,gD l 4]:=by
 match l,h with
 | [a,b,c,d,e],_ => rfl
theorem len7 {l : List D} (h : l.length = 7) : l = [gD l 0,gD l 1,gD l 2,gD l 3,gD l 4,gD l 5,gD l 6]:=by
 match l,h with
 | [a,b,c,d,e,f,g],_ => rfl
theorem zCI (s : ByteArray) : strD (tx s) = .str s:=by unfold strD tx; simp
theorem zCJ {c : D -> D} {l : List D} (h : ∀ i,i < l.length -> c (gD l i) = gD l i) : rgD c l = l:=by
 unfold rgD
 apply List.ext_getElem (by simp)
 intro i h1 h2
 have:=h i h2
 rw [zBo h2] at this
 simp [zBo h2,this]
theorem zDG {c : D -> D} {l : List D} (h : ∀ i,i < l.length -> c (gD l i) = gD l i) : l.map c = l:=by
 have:=zCJ h
 unfold rgD at this
 have e : l.map c = (List.range l.length).map fun i => c (gD l i):=by
  apply List.ext_getElem (by simp)
  intro i h1 h2
  simp [zBo (l:=l) (i:=i) (by simpa using h1)]
 rw [e,this]
theorem cnV_id : ∀ (k : Nat) {j : Nat} {d : D},Fits Tryd.prog j 44 d -> cnV k d = d
 | 0,_,_,_ => rfl
 | k + 1,j,d,h => by
   obtain ⟨j,l,rfl,hl,hf⟩:=zAp Tryd.underlying44 h
   have hl : l.length = 5:=hl
   obtain ⟨n0,e0⟩:=zBy (hf 0 _ rfl)
   obtain ⟨n1,e1⟩:=zBy (hf 1 _ rfl)
   obtain ⟨s2,e2⟩:=zAn (hf 2 _ rfl)
   obtain ⟨j3,l3,e3,h3⟩:=zAW Tryd.underlying42 (hf 3 _ rfl)
   obtain ⟨j4,l4,e4,h4⟩:=zAW Tryd.underlying29 (hf 4 _ rfl)
   rw [len5 hl,e0,e1,e2,e3,e4]
   show valD n0 n1 (tx s2) ((List.range l3.length).map fun i => cnV k (gD l3 i)) (l4.map fun x => x.s.data.toList) = _
   have a : ((List.range l3.length).map fun i => cnV k (gD l3 i)) = l3:=zCJ fun i hi => cnV_id k (h3 i hi)
   have b : (l4.map fun x => x.s.data.toList).map strD = l4:=by
    rw [List.map_map]
    refine zDG fun i hi => ?_
    obtain ⟨s,e⟩:=zAn (h4 i hi)
    rw [e]
    exact zCI s
   unfold valD
   rw [a,b,zCI]
theorem cL_id {j : Nat} {d : D} (h : Fits Tryd.prog j 44 d) : cL d = d:=cnV_id _ h
theorem cA_id {j : Nat} {d : D} (h : Fits Tryd.prog j 67 d) : cA d = d:=by
 obtain ⟨j,l,rfl,hl,hf⟩:=zAp Tryd.underlying67 h
 have hl : l.length = 2:=hl
 obtain ⟨s0,e0⟩:=zAn (hf 0 _ rfl)
 have h1 : Fits Tryd.prog j 44 (gD l 1):=hf 1 _ rfl
 rw [len2 hl,e0]
 show argD (tx s0) (cL (gD l 1)) = _
 rw [cL_id h1]
 unfold argD
 rw [zCI]
theorem zGB {j : Nat} {d : D} (h : Fits Tryd.prog j 64 d) : cDir d = d:=by
 obtain ⟨j,l,rfl,hl,hf⟩:=zAp Tryd.underlying64 h
 have hl : l.length = 2:=hl
 obtain ⟨s0,e0⟩:=zAn (hf 0 _ rfl)
 obtain ⟨j1,l1,e1,h1⟩:=zAW Tryd.underlying62 (hf 1 _ rfl)
 rw [len2 hl,e0,e1]
 show dirD (tx s0) (rgD cA l1) = _
 rw [zCJ fun i hi => cA_id (h1 i hi)]
 unfold dirD
 rw [zCI]
theorem zFT {f : D -> D -> Int} (d : D) (h : ∀ x,f x x = 0) : ∀ (j i : Nat),zCN f d d j i = 0
 | 0,_ => by simp [zCN,ordI]
 | j + 1,i => by
   unfold zCN
   rw [(zB8 _ _).2 rfl,h]
   simp [zFT d h j]
theorem zGv : ∀ (m : Nat) (d : D),cmpV m d d = 0
 | 0,_ => rfl
 | m + 1,d => by
   have e : cmp0 d d = 0:=by simp [cmp0,ordI,(zB8 _ _).2 rfl]
   rw [cmpV_0,e]
   simpa using zFT d (zGv m) _ _
theorem zA7 {f : D -> D -> Bool} {l : List D} (h : ∀ i,i < l.length -> f (gD l i) (gD l i) = true) : eqL f l l = true:=zA1 rfl h
theorem zBv (a : D) : sEq a a = true:=by simp [sEq]
theorem zE2 (a : D) : zEu a a = true:=by simp [zEu,zGv]
theorem argEq_self (a : D) : argEq a a = true:=by simp [argEq,zBv,zE2]
theorem zCh (a : D) : dirEq a a = true:=by
 unfold dirEq
 rw [zBv,zA7 fun i _ => argEq_self _]; rfl
theorem zHI {l m : List D} (hl : l.length = m.length) (h : ∀ i,i < l.length -> gD l i = gD m i) : l = m:=by
 apply List.ext_getElem hl
 intro i h1 h2
 have:=h i h1
 rwa [zBo h1,zBo h2] at this
theorem zBz {f : D -> D -> Bool} {l m : List D} (h : eqL f l m = true) (hf : ∀ i,i < l.length -> f (gD l i) (gD m i) = true -> gD l i = gD m i) : l = m:=by
 obtain ⟨h1,h2⟩:=zBg.1 h
 exact zHI h1 fun i hi => hf i hi (h2 i hi)
theorem zDi {a b : ByteArray} (h : sEq (.str a) (.str b) = true) : a = b:=by
 have h : (a.toList == b.toList) = true:=h
 rw [beq_iff_eq,zEC,zEC] at h
 exact Go.WideShapes.bytes_inj h
theorem zFS {f : D -> D -> Int} {a b : D} : ∀ (j i : Nat),zCN f a b j i = 0 -> (a.f 3).l.length = (b.f 3).l.length /\ ∀ q,i <= q -> q < i + j -> tx (keyD a q) = tx (keyD b q) /\ f (gD (a.f 3).l q) (gD (b.f 3).l q) = 0
 | 0,i,h => ⟨by have:=zB5.1 h; omega,fun q h1 h2 => by omega⟩
 | j + 1,i,h => by
   unfold zCN at h
   by_cases h1 : Lib.compareBytes (tx (keyD a i)) (tx (keyD b i)) = 0
   . rw [if_neg (by simp [h1])] at h
     by_cases h2 : f (gD (a.f 3).l i) (gD (b.f 3).l i) = 0
     . rw [if_neg (by simp [h2])] at h
       obtain ⟨e1,e2⟩:=zFS j (i + 1) h
       refine ⟨e1,fun q hq hq2 => ?_⟩
       by_cases e : q = i
       . subst e; exact ⟨(zB8 _ _).1 h1,h2⟩
       . exact e2 q (by omega) (by omega)
     . rw [if_pos (by simpa using h2)] at h
       exact absurd h h2
   . rw [if_pos (by simpa using h1)] at h
     exact absurd h h1
theorem cmpV_zero {m : Nat} {a b : D} (h : cmpV (m + 1) a b = 0) : (a.f 0).n = (b.f 0).n /\ (a.f 1).n = (b.f 1).n /\ tx (a.f 2).s = tx (b.f 2).s /\ (a.f 3).l.length = (b.f 3).l.length /\ ∀ q,q < (a.f 3).l.length -> tx (keyD a q) = tx (keyD b q) /\ cmpV m (gD (a.f 3).l q) (gD (b.f 3).l q) = 0:=by
 rw [cmpV_0] at h
 by_cases h0 : cmp0 a b = 0
 . rw [if_pos (by simp [h0])] at h
   obtain ⟨e1,e2⟩:=zFS _ _ h
   have e3 : (a.f 0).n = (b.f 0).n:=by
    unfold cmp0 at h0
    by_cases q : ordI (a.f 0).n (b.f 0).n = 0
    . exact zB5.1 q
    . rw [if_neg (by simpa using q)] at h0; exact absurd h0 q
   unfold cmp0 at h0
   rw [if_pos (by simp [zB5.2 e3])] at h0
   have e4 : (a.f 1).n = (b.f 1).n:=by
    by_cases q : ordI (a.f 1).n (b.f 1).n = 0
    . exact zB5.1 q
    . rw [if_neg (by simpa using q)] at h0; exact absurd h0 q
   rw [if_pos (by simp [zB5.2 e4])] at h0
   exact ⟨e3,e4,(zB8 _ _).1 h0,e1,fun q hq => e2 q (Nat.zero_le _) (by omega)⟩
 . rw [if_neg (by simpa using h0)] at h
   exact absurd h h0
theorem tx_inj {a b : ByteArray} (h : tx a = tx b) : a = b:=Go.WideShapes.bytes_inj h
theorem node_keys {a b : D} (ha : zFv a = true) (hb : zFv b = true) (hk : (a.f 0).n = (b.f 0).n) (hl : (a.f 3).l.length = (b.f 3).l.length) : (a.f 4).l.length = (b.f 4).l.length /\ (a.f 4).l.length <= (a.f 3).l.length:=by
 have na:=xnode ha
 have nb:=xnode hb
 by_cases h : (a.f 0).n = 6
 . have h1:=(na.obj h).2.1
   have h2:=(nb.obj (by rw [<- hk]; exact h)).2.1
   omega
 . have h1:=na.keys0.resolve_left h
   have h2:=nb.keys0.resolve_left (by rw [<- hk]; exact h)
   omega
theorem val_eq : ∀ (m : Nat) {k1 k2 j1 j2 : Nat} {a b : D},Dp m a -> everyL k1 a = true -> everyL k2 b = true -> Fits Tryd.prog j1 44 a -> Fits Tryd.prog j2 44 b -> cmpV m a b = 0 -> a = b
 | 0,_,_,_,_,_,_,h,_,_,_,_,_ => h.elim
 | m + 1,0,_,_,_,_,_,_,h,_,_,_,_ => by cases h
 | m + 1,_ + 1,0,_,_,_,_,_,_,h,_,_,_ => by cases h
 | m + 1,k1 + 1,k2 + 1,j1,j2,a,b,hd,ha,hb,fa,fb,h => by
   obtain ⟨c0,c1,c2,c3,c4⟩:=cmpV_zero h
   unfold everyL at ha hb
   rw [Bool.and_eq_true,Bool.not_eq_true'] at ha hb
   obtain ⟨q1,q2⟩:=node_keys ha.1 hb.1 c0 c3
   have ia:=zCx ha.2
   have ib:=zCx hb.2
   obtain ⟨j,l,rfl,hl,hf⟩:=zAp Tryd.underlying44 fa
   obtain ⟨j',l',rfl,hl',hf'⟩:=zAp Tryd.underlying44 fb
   have hl : l.length = 5:=hl
   have hl' : l'.length = 5:=hl'
   obtain ⟨n0,e0⟩:=zBy (hf 0 _ rfl)
   obtain ⟨n1,e1⟩:=zBy (hf 1 _ rfl)
   obtain ⟨s2,e2⟩:=zAn (hf 2 _ rfl)
   obtain ⟨j3,l3,e3,h3⟩:=zAW Tryd.underlying42 (hf 3 _ rfl)
   obtain ⟨j4,l4,e4,h4⟩:=zAW Tryd.underlying29 (hf 4 _ rfl)
   obtain ⟨n0',e0'⟩:=zBy (hf' 0 _ rfl)
   obtain ⟨n1',e1'⟩:=zBy (hf' 1 _ rfl)
   obtain ⟨s2',e2'⟩:=zAn (hf' 2 _ rfl)
   obtain ⟨j3',l3',e3',h3'⟩:=zAW Tryd.underlying42 (hf' 3 _ rfl)
   obtain ⟨j4',l4',e4',h4'⟩:=zAW Tryd.underlying29 (hf' 4 _ rfl)
   have el:=len5 hl
   rw [e0,e1,e2,e3,e4] at el
   have el':=len5 hl'
   rw [e0',e1',e2',e3',e4'] at el'
   subst el
   subst el'
   have c0 : n0 = n0':=c0
   have c1 : n1 = n1':=c1
   have c2 : tx s2 = tx s2':=c2
   have c3 : l3.length = l3'.length:=c3
   have q1 : l4.length = l4'.length:=q1
   have q2 : l4.length <= l3.length:=q2
   have c4 : ∀ q,q < l3.length -> tx (keyD (.obj [.int n0,.int n1,.str s2,.list l3,.list l4]) q) = tx (keyD (.obj [.int n0',.int n1',.str s2',.list l3',.list l4']) q) /\ cmpV m (gD l3 q) (gD l3' q) = 0:=c4
   have hd : ∀ i,i < l3.length -> Dp m (gD l3 i):=hd
   have ia : ∀ i,i < l3.length -> everyL k1 (gD l3 i) = true:=ia
   have ib : ∀ i,i < l3'.length -> everyL k2 (gD l3' i) = true:=ib
   have r3 : l3 = l3':=zHI c3 fun i hi => val_eq m (hd i hi) (ia i hi) (ib i (by omega)) (h3 i hi) (h3' i (by omega)) (c4 i hi).2
   have r4 : l4 = l4':=zHI q1 fun i hi => by
    obtain ⟨s,x1⟩:=zAn (h4 i hi)
    obtain ⟨s',x2⟩:=zAn (h4' i (by omega))
    have t:=tx_inj (c4 i (by omega)).1
    unfold keyD at t
    have t : (if i < l4.length then (gD l4 i).s else ⟨#[]⟩) = (if i < l4'.length then (gD l4' i).s else ⟨#[]⟩):=t
    rw [if_pos hi,if_pos (by omega),x1,x2] at t
    have t : s = s':=t
    rw [x1,x2,t]
   rw [c0,c1,tx_inj c2,r3,r4]
theorem lit_eq {j1 j2 : Nat} {a b : D} (ha : litR a = true) (hb : litR b = true) (fa : Fits Tryd.prog j1 44 a) (fb : Fits Tryd.prog j2 44 b) (h : zEu a b = true) : a = b:=by
 unfold litR at ha hb
 rw [Bool.and_eq_true] at ha hb
 exact val_eq (bulkD a + bulkD b) (zBS _ _ (by omega)) ha.2 hb.2 fa fb (by simpa [zEu] using h)
end Go.Proofs.YtdlnnlglmifceaaDoor
namespace Go.Proofs.YtdlnnlglmifceaaDoor
def sInD (n : List UInt8) (t : D) (h : Bool) (v : D) (ds : List D) : D:=.obj [strD n,t,.bool h,v,.list ds]
def sFdD (n : List UInt8) (aa : List D) (t : D) (ds : List D) : D:=.obj [strD n,.list aa,t,.list ds]
def sMbD (n : List UInt8) (ds : List D) : D:=.obj [strD n,.list ds]
def sDfD (k : Int) (n : List UInt8) (im ds fs ms ins : List D) : D:=.obj [.int k,strD n,.list im,.list ds,.list fs,.list ms,.list ins]
def sDocD (l : List D) : D:=.obj [.list l]
def manyF (el : PS -> PR D) (e : List UInt8) (most : Nat) : Nat -> List D -> PS -> PR (List D)
 | 0,_,x => .error ((hdT x).i,0)
 | f + 1,acc,x =>
   if acc.length ≠ 0 /\ isS x e = true then .ok (acc,nxT x)
   else if (hdT x).k = 2 /\ most <= acc.length then .error ((hdT x).i,4)
   else thenQ (el x) fun a y => manyF el e most f (acc ++ [a]) y
def argQ (x : PS) : PR D:=thenQ (zA0 x) fun n y => thenQ (takeQ [58] y) fun _ z => thenQ (zCP z) fun v u => .ok (argD n v,u)
theorem zG6 {α β γ : Type} (r : PR α) (f : α -> PS -> PR β) (g : β -> PS -> PR γ) : thenQ (thenQ r f) g = thenQ r fun a x => thenQ (f a x) g:=by
 cases r <;> rfl
theorem zEo : ∀ (f : Nat) (acc : List D) (x : PS),zG0 f acc x = manyF argQ [41] 16 f acc x
 | 0,_,_ => rfl
 | f + 1,acc,x => by
   unfold zG0 manyF argQ
   split
   . rfl
   split
   . rfl
   . simp only [zG6]
     congr 1; funext n y; congr 1; funext _ z; congr 1; funext v u
     exact zEo f _ _
def inQ (x : PS) : PR D:=
 thenQ (zA0 x) fun n y => thenQ (takeQ [58] y) fun _ z => thenQ (typQ z) fun t u =>
  thenQ (if isS u [61] = true then thenQ (zCP (nxT u)) fun d o => .ok ((true,d),o) else .ok ((false,zHE),u)) fun d v =>
   thenQ (dirsQ v) fun ds w => .ok (sInD n t d.1 d.2 ds,w)
def insQ (e : List UInt8) (x : PS) : PR (List D):=manyF inQ e 16 (x.ts.length + 1) [] x
def fdQ (x : PS) : PR D:=
 thenQ (zA0 x) fun n y => thenQ (if isS y [40] = true then insQ [41] (nxT y) else .ok ([],y)) fun aa z =>
  thenQ (takeQ [58] z) fun _ u => thenQ (typQ u) fun t v => thenQ (dirsQ v) fun ds w => .ok (sFdD n aa t ds,w)
def mbQ (x : PS) : PR D:=thenQ (zA0 x) fun n y => thenQ (dirsQ y) fun ds z => .ok (sMbD n ds,z)
def fdsQ (x : PS) : PR (List D):=manyF fdQ [125] 64 (x.ts.length + 1) [] x
def mbsQ (x : PS) : PR (List D):=manyF mbQ [125] 64 (x.ts.length + 1) [] x
def zCo (s : List UInt8) : Nat -> List D -> PS -> PR (List D)
 | 0,_,x => .error ((hdT x).i,0)
 | f + 1,acc,x =>
   if (hdT x).k = 2 /\ 64 <= acc.length then .error ((hdT x).i,4)
   else thenQ (zA0 x) fun n y => if isS y s = true then zCo s f (acc ++ [strD n]) (nxT y) else .ok (acc ++ [strD n],y)
def zFC (s : List UInt8) (x : PS) : PR (List D):=zCo s (x.ts.length + 1) [] x
def zF2 : List UInt8:=[105,109,112,108,101,109,101,110,116,115]
def typeT : List UInt8:=[116,121,112,101]
def ifaceT : List UInt8:=[105,110,116,101,114,102,97,99,101]
def unionT : List UInt8:=[117,110,105,111,110]
def enumT : List UInt8:=[101,110,117,109]
def inputT : List UInt8:=[105,110,112,117,116]
def kindS (s : List UInt8) : Int:=if s = typeT then 1 else if s = ifaceT then 2 else if s = unionT then 3 else if s = enumT then 4 else if s = inputT then 5 else 0
def facesQ (k : Int) (x : PS) : PR (List D):=if k = 1 /\ (hdT x).k = 2 /\ (hdT x).s = zF2 then zFC [38] (nxT x) else .ok ([],x)
def mbOf (d : D) : D:=.obj [d,.list []]
def bodyQ (k : Int) (x : PS) : PR (List D × List D × List D):=
 if k = 3 then thenQ (takeQ [61] x) fun _ y => thenQ (zFC [124] y) fun l z => .ok (([],l.map mbOf,[]),z)
 else thenQ (takeQ [123] x) fun _ y =>
  if k = 5 then thenQ (insQ [125] y) fun l z => .ok (([],[],l),z)
  else if k = 4 then thenQ (mbsQ y) fun l z => .ok (([],l,[]),z)
  else thenQ (fdsQ y) fun l z => .ok ((l,[],[]),z)
def sdefQ (k : Int) (x : PS) : PR D:=
 thenQ (zA0 x) fun n y => thenQ (facesQ k y) fun im z => thenQ (dirsQ z) fun ds u => thenQ (bodyQ k u) fun b v =>
  .ok (sDfD k n im ds b.1 b.2.1 b.2.2,v)
def sdocF : Nat -> List D -> PS -> PR (List D)
 | 0,_,x => .error ((hdT x).i,0)
 | f + 1,acc,x =>
   if acc.length ≠ 0 /\ (hdT x).k = 5 then .ok (acc,x)
   else if ¬ ((hdT x).k = 2 /\ 0 < kindS (hdT x).s) then .error ((hdT x).i,3)
   else if 64 <= acc.length then .error ((hdT x).i,4)
   else thenQ (sdefQ (kindS (hdT x).s) (nxT x)) fun d y => sdocF f (acc ++ [d]) y
def sdocQ (ts : List Tok) : PR (List D):=sdocF (ts.length + 1) [] ⟨ts,false,0⟩
section
variable {e : Tok} {r : List Tok} (hE : Ends e r)
include hE
theorem many_ls {el el' : PS -> PR D} (hv : ∀ {a : List Tok} {x x' : PS},J e r a x x' -> LO e r a (el x) (el' x')) (s : List UInt8) (most : Nat) : ∀ (f g : Nat) (acc : List D) {a : List Tok} {x x' : PS},f <= g -> J e r a x x' -> LS e r a (manyF el s most f acc x) (manyF el' s most g acc x')
 | 0,_,_,_,_,_,_,_ => .err
 | f + 1,0,_,_,_,_,hfg,_ => by omega
 | f + 1,g + 1,acc,a,x,x',hfg,h => by
   unfold manyF
   refine .ite (fun ha => by rw [h.sg _ ha]) (fun hs => ?_) fun _ => .ite (fun ha => by rw [h.hd ha]) (fun _ => .err) fun _ => .then (hv h) fun _ _ _ _ hy => many_ls hv s most f g _ (by omega) hy
   obtain ⟨t,a',rfl,h'⟩:=h.ne_of_isS hE hs.2
   exact .okn h' _
theorem in_lo {a : List Tok} {x x' : PS} (h : J e r a x x') : LO e r a (inQ x) (inQ x'):=by
 unfold inQ
 refine .then (zA3 hE h).lo fun _ _ _ _ hy => .then (zB2 hE hy _).lo fun _ _ _ _ hz => .then (typ_lo hE hz) fun _ _ u u' hu => .then (.ite (hu.sg _) (fun hs => ?_) fun _ => .okk hu _) fun _ _ _ _ hv => .then (zDd hE hv) fun _ _ _ _ hw => .okk hw _
 obtain ⟨t,a',rfl,h'⟩:=hu.ne_of_isS hE hs
 exact LO.mono (b:=a') (.then (zCz hE h') fun _ _ _ _ ho => .okk ho _) ⟨[t],rfl⟩
theorem ins_ls (s : List UInt8) {a : List Tok} {x x' : PS} (h : J e r a x x') : LS e r a (insQ s x) (insQ s x'):=many_ls hE (in_lo hE) _ _ _ _ _ (by have:=h.len hE; omega) h
theorem zGb (s : List UInt8) : ∀ (f g : Nat) (acc : List D) {a : List Tok} {x x' : PS},f <= g -> J e r a x x' -> LO e r a (zCo s f acc x) (zCo s g acc x')
 | 0,_,_,_,_,_,_,_ => .err
 | f + 1,0,_,_,_,_,hfg,_ => by omega
 | f + 1,g + 1,acc,a,x,x',hfg,h => by
   unfold zCo
   refine .ite (fun ha => by rw [h.hd ha]) (fun _ => .err) fun _ => .then (zA3 hE h).lo fun _ _ y y' hy => .ite (hy.sg _) (fun hs => ?_) fun _ => .okk hy _
   obtain ⟨t,a',rfl,h'⟩:=hy.ne_of_isS hE hs
   exact (zGb s f g _ (by omega) h').mono ⟨[t],rfl⟩
theorem names_lo (s : List UInt8) {a : List Tok} {x x' : PS} (h : J e r a x x') : LO e r a (zFC s x) (zFC s x'):=zGb hE s _ _ _ (by have:=h.len hE; omega) h
end
def VR {α : Type} (x : PS) (q : PR α) : Prop:=∀ a y,q = .ok (a,y) -> y.vr = x.vr
section
variable {α β : Type} {x y : PS}
theorem VR.err {e : Nat × Int} : VR (α:=α) x (.error e):=fun _ _ h => by cases h
theorem VR.okk {a : α} (h : y.vr = x.vr) : VR x (.ok (a,y)):=fun _ _ e => by cases e; exact h
theorem VR.ite {c : Prop} [Decidable c] {p q : PR α} (h1 : VR x p) (h2 : VR x q) : VR x (if c then p else q):=by split <;> assumption
theorem VR.then {q : PR α} {f : α -> PS -> PR β} (h : VR x q) (hf : ∀ a y,VR y (f a y)) : VR x (thenQ q f):=fun a z e => by
 cases hq : q with
 | error e' => rw [hq] at e; cases e
 | ok p =>
   obtain ⟨b,y⟩:=p
   rw [hq] at e
   exact (hf b y a z e).trans (h b y hq)
theorem VR.of {q : PR α} (h : VR y q) (e : y.vr = x.vr) : VR x q:=fun a z hq => (h a z hq).trans e
theorem nx_vr1 (x : PS) : (nxT x).vr = x.vr:=by unfold nxT; split <;> rfl
theorem zED (s : List UInt8) (x : PS) : VR x (takeQ s x):=.ite (.okk (nx_vr1 x)) .err
theorem zCV (x : PS) : VR x (zA0 x):=.ite (.okk (nx_vr1 x)) .err
theorem open_vr : ∀ (f : Nat) (x : PS),(zBK f x).2.vr = x.vr
 | 0,_ => rfl
 | f + 1,x => by
   unfold zBK
   split
   . exact (open_vr f (nxT x)).trans (nx_vr1 x)
   . rfl
theorem zIU : ∀ (n : Nat) (w : List Int) (x : PS),VR x (closeQ n w x)
 | 0,w,x => fun a y h => by
   unfold closeQ at h
   split at h
   . cases h; exact nx_vr1 x
   . cases h; rfl
 | n + 1,w,x => by
   unfold closeQ
   refine .then (.of (zED _ _) ?_) fun _ y => zIU n _ y
   split
   . exact nx_vr1 x
   . rfl
theorem inner_vr (x : PS) : VR x (zFG x):=.then (.of (zCV _) (open_vr _ x)) fun _ y => .then (zIU _ _ y) fun _ _ => .okk rfl
theorem typ_vr (x : PS) : VR x (typQ x):=.then (inner_vr x) fun _ _ => .ite .err (.okk rfl)
theorem zH8 {v : PS -> PR D} (hv : ∀ x,VR x (v x)) : ∀ (f : Nat) (acc : List D) (x : PS),VR x (zCK v f acc x)
 | 0,_,_ => .err
 | f + 1,acc,x => .ite (.okk (nx_vr1 x)) (.then (hv x) fun _ y => zH8 hv f _ y)
theorem zGn {v : PS -> PR D} (hv : ∀ x,VR x (v x)) : ∀ (f : Nat) (ks : List (List UInt8)) (acc : List D) (x : PS),VR x (zBa v f ks acc x)
 | 0,_,_,_ => .err
 | f + 1,ks,acc,x => .ite (.okk (nx_vr1 x)) (.then (zCV x) fun _ y => .ite .err (.then (zED _ y) fun _ z => .then (hv z) fun _ u => zGn hv f _ _ u))
theorem zFf : ∀ (f lv : Nat) (x : PS),VR x (valueQ f lv x)
 | 0,_,_ => .err
 | f + 1,lv,x => by
   have hy : ∀ n,({ nxT x with nd:=n } : PS).vr = x.vr:=fun _ => nx_vr1 x
   unfold valueQ
   refine .ite .err (.ite .err (.ite .err ?_))
   dsimp only
   exact .ite (.okk (hy _)) (.ite (.okk (hy _)) (.ite (.okk (hy _)) (.ite (.then (.of (zCV _) (hy _)) fun _ _ => .okk rfl)
    (.ite (.then (.of (zH8 (zFf f (lv + 1)) _ _ _) (hy _)) fun _ _ => .okk rfl) (.then (.of (zGn (zFf f (lv + 1)) _ _ _ _) (hy _)) fun _ _ => .okk rfl)))))
theorem zFe (x : PS) : VR x (zCP x):=fun a y h => zFf 25 1 { x with nd:=0 } a y h
theorem zIX : ∀ (f : Nat) (acc : List D) (x : PS),VR x (zG0 f acc x)
 | 0,_,_ => .err
 | f + 1,acc,x => .ite (.okk (nx_vr1 x)) (.ite .err (.then (zCV x) fun _ y => .then (zED _ y) fun _ z => .then (zFe z) fun _ u => zIX f _ u))
theorem args_vr (x : PS) : VR x (argsQ x):=.ite (.of (zIX _ _ _) (nx_vr1 x)) (.okk rfl)
theorem zIM : ∀ (f : Nat) (acc : List D) (x : PS),VR x (dirsF f acc x)
 | 0,_,_ => .err
 | f + 1,acc,x => .ite (.ite .err (.then (.of (zCV _) (nx_vr1 x)) fun _ y => .then (args_vr y) fun _ z => zIM f _ z)) (.okk rfl)
theorem dirs_vr (x : PS) : VR x (dirsQ x):=zIM _ _ x
theorem many_vr {el : PS -> PR D} (hv : ∀ x,VR x (el x)) (s : List UInt8) (most : Nat) : ∀ (f : Nat) (acc : List D) (x : PS),VR x (manyF el s most f acc x)
 | 0,_,_ => .err
 | f + 1,acc,x => .ite (.okk (nx_vr1 x)) (.ite .err (.then (hv x) fun _ y => many_vr hv s most f _ y))
theorem in_vr (x : PS) : VR x (inQ x):=.then (zCV x) fun _ y => .then (zED _ y) fun _ z => .then (typ_vr z) fun _ u => .then (.ite (.then (.of (zFe _) (nx_vr1 u)) fun _ _ => .okk rfl) (.okk rfl)) fun _ v => .then (dirs_vr v) fun _ _ => .okk rfl
theorem ins_vr (s : List UInt8) (x : PS) : VR x (insQ s x):=many_vr in_vr _ _ _ _ _
theorem zGa (s : List UInt8) : ∀ (f : Nat) (acc : List D) (x : PS),VR x (zCo s f acc x)
 | 0,_,_ => .err
 | f + 1,acc,x => .ite .err (.then (zCV x) fun _ y => .ite (.of (zGa s f _ _) (nx_vr1 y)) (.okk rfl))
end
structure Sx (al : List Tok) (x : PS) : Prop where
 en : En x
 vr : x.vr = false
 sf : x.ts <:+ al
theorem En.sf {α : Type} {x y : PS} {v : α} (h : En x) {p : PS -> PR α} (hp : ∀ {e : Tok} {a : List Tok} {x x' : PS},Ends e [e] -> J e [e] a x x' -> LO e [e] a (p x) (p x')) (hq : p x = .ok (v,y)) : y.ts <:+ x.ts:=by
 obtain ⟨a,e,h1,h2,h4⟩:=h
 obtain ⟨b,⟨d,hd⟩,h3,-⟩:=hp (e:=e) (a:=a) (x:=x) (x':=x) ⟨h2,by simp⟩ ⟨h1,h1,rfl,rfl⟩ v y hq
 exact ⟨d,by rw [h3,h1,hd,List.append_assoc]⟩
section
variable {al : List Tok} {x y : PS} {α : Type} {v : α}
theorem Sx.lo (h : Sx al x) {p : PS -> PR α} (hp : ∀ {e : Tok} {a : List Tok} {x x' : PS},Ends e [e] -> J e [e] a x x' -> LO e [e] a (p x) (p x')) (hv : VR x (p x)) (hq : p x = .ok (v,y)) : Sx al y /\ y.ts.length <= x.ts.length:=
 ⟨⟨(h.en.lo hp hq).1,(hv v y hq).trans h.vr,(h.en.sf hp hq).trans h.sf⟩,(h.en.lo hp hq).2⟩
theorem Sx.ls (h : Sx al x) {p : PS -> PR α} (hp : ∀ {e : Tok} {a : List Tok} {x x' : PS},Ends e [e] -> J e [e] a x x' -> LS e [e] a (p x) (p x')) (hv : VR x (p x)) (hq : p x = .ok (v,y)) : Sx al y /\ y.ts.length < x.ts.length:=
 ⟨(h.lo (fun hE h => (hp hE h).lo) hv hq).1,(h.en.ls hp hq).2⟩
theorem Sx.name {v : List UInt8} (h : Sx al x) (hq : zA0 x = .ok (v,y)) : Sx al y /\ y.ts.length < x.ts.length:=h.ls (fun hE h => zA3 hE h) (zCV x) hq
theorem Sx.take {s : List UInt8} (h : Sx al x) (hq : takeQ s x = .ok ((),y)) : Sx al y /\ y.ts.length < x.ts.length:=h.ls (fun hE h => zB2 hE h s) (zED s x) hq
theorem Sx.whole {v : D} (h : Sx al x) (hq : zCP x = .ok (v,y)) : Sx al y /\ y.ts.length < x.ts.length:=⟨(h.lo (fun hE h => zCz hE h) (zFe x) hq).1,(En.valueL (x:={ x with nd:=0 }) h.en hq).2⟩
theorem Sx.args {v : List D} (h : Sx al x) (hq : argsQ x = .ok (v,y)) : Sx al y /\ y.ts.length <= x.ts.length:=h.lo (fun hE h => zGD hE h) (args_vr x) hq
theorem Sx.dirs {v : List D} (h : Sx al x) (hq : dirsQ x = .ok (v,y)) : Sx al y /\ y.ts.length <= x.ts.length:=h.lo (fun hE h => zDd hE h) (dirs_vr x) hq
theorem Sx.ins {s : List UInt8} {v : List D} (h : Sx al x) (hq : insQ s x = .ok (v,y)) : Sx al y /\ y.ts.length < x.ts.length:=h.ls (fun hE h => ins_ls hE s h) (ins_vr s x) hq
theorem Sx.names {s : List UInt8} {v : List D} (h : Sx al x) (hq : zFC s x = .ok (v,y)) : Sx al y /\ y.ts.length <= x.ts.length:=h.lo (fun hE h => names_lo hE s h) (zGa s _ _ x) hq
theorem zC4 {α β : Type} {q : PR α} {f : α -> PS -> PR β} {b : β} {z : PS} (h : thenQ q f = .ok (b,z)) : ∃ a y,q = .ok (a,y) /\ f a y = .ok (b,z):=by
 cases q with
 | error e => cases h
 | ok p => obtain ⟨a,y⟩:=p; exact ⟨a,y,rfl,h⟩
theorem Sx.arg {v : D} (h : Sx al x) (hq : argQ x = .ok (v,y)) : Sx al y /\ y.ts.length < x.ts.length:=by
 obtain ⟨n,z,h1,hq⟩:=zC4 hq
 obtain ⟨u,z2,h2,hq⟩:=zC4 hq
 obtain ⟨d,z3,h3,hq⟩:=zC4 hq
 have a1:=h.name h1
 have a2:=a1.1.take h2
 have a3:=a2.1.whole h3
 cases hq
 exact ⟨a3.1,by omega⟩
theorem Sx.mb {v : D} (h : Sx al x) (hq : mbQ x = .ok (v,y)) : Sx al y /\ y.ts.length < x.ts.length:=by
 obtain ⟨n,z,h1,h2⟩:=zC4 hq
 obtain ⟨d,z2,h3,hq⟩:=zC4 h2
 have a1:=h.name h1
 have a2:=a1.1.dirs h3
 cases hq
 exact ⟨a2.1,by omega⟩
theorem Sx.nx (h : Sx al x) (hk : (hdT x).k ≠ 5) : Sx al (nxT x) /\ (nxT x).ts.length + 1 = x.ts.length:=by
 have h1:=h.en.nx hk
 refine ⟨⟨h1.1,(nx_vr1 x).trans h.vr,?_⟩,?_⟩
 . unfold nxT; rw [if_neg hk]; exact (List.drop_suffix 1 x.ts).trans h.sf
 . have h2:=h1.2
   revert h2
   unfold nxT
   rw [if_neg hk]
   show (x.ts.drop 1).length < _ -> (x.ts.drop 1).length + 1 = _
   rw [List.length_drop]; omega
theorem Sx.sg {s : List UInt8} (h : Sx al x) (hs : isS x s = true) : Sx al (nxT x) /\ (nxT x).ts.length + 1 = x.ts.length:=by
 refine h.nx ?_
 unfold isS at hs
 simp only [Bool.and_eq_true,beq_iff_eq] at hs
 rw [hs.1]; decide
theorem Sx.len (h : Sx al x) : x.ts.length <= al.length:=h.sf.length_le
theorem Sx.nd (h : Sx al x) (n : Nat) : Sx al { x with nd:=n }:=⟨h.en,h.vr,h.sf⟩
theorem Sx.hd (h : Sx al x) : al.getD (al.length - x.ts.length) ⟨5,[],0⟩ = hdT x:=by
 obtain ⟨d,hd⟩:=h.sf
 have e : al.length - x.ts.length = d.length:=by rw [<- hd,List.length_append]; omega
 unfold hdT
 rw [e,<- hd,List.getD_eq_getElem?_getD,List.getElem?_append_right (Nat.le_refl _),Nat.sub_self,List.headD_eq_head?_getD,List.head?_eq_getElem?]
end
end Go.Proofs.YtdlnnlglmifceaaDoor
namespace Go.Proofs.YtdlnnlglmifceaaDoor
structure RS where
 at' : Nat
 ct : Nat
 fx : Bool
 er : Int
 wr : Nat
def tkZ (l : List Tok) (x : RS) : Tok:=l.getD x.at' ⟨5,[],0⟩
def sgZ (l : List Tok) (s : List UInt8) (x : RS) : Bool:=x.er == 0 && (tkZ l x).k == 1 && (tkZ l x).s == s
def nmZ (l : List Tok) (x : RS) : Bool:=x.er == 0 && (tkZ l x).k == 2
def upZ (x : RS) : RS:={ x with at':=x.at' + 1 }
end Go.Proofs.YtdlnnlglmifceaaDoor
namespace Go.Proofs.YtdlnnlglmifceaaDoor
set_option linter.unusedSectionVars false
def Ed (l : List Tok) : Prop:=∀ i,i < l.length -> (l.getD i ⟨5,[],0⟩).k ≠ 5 -> i + 1 < l.length
def Ck (x : RS) : Prop:=x.ct <= 4097 /\ (x.er = 0 -> x.ct <= 4096)
structure Mw (l : List Tok) (x y : RS) : Prop where
 lo : x.at' <= y.at'
 hi : y.at' < l.length
 er : x.er ≠ 0 -> y.er = x.er /\ y.wr = x.wr
 ct : Ck x -> Ck y
section
variable {l : List Tok} {x y z : RS}
theorem Mw.refl (h : x.at' < l.length) : Mw l x x:=⟨Nat.le_refl _,h,fun _ => ⟨rfl,rfl⟩,id⟩
theorem Mw.zero (h : Mw l x y) (h0 : y.er = 0) : x.er = 0:=by
 rcases Classical.em (x.er = 0) with h1 | h1
 . exact h1
 . exact (h.er h1).1.symm.trans h0
theorem Mw.trans (h1 : Mw l x y) (h2 : Mw l y z) : Mw l x z:=
 ⟨Nat.le_trans h1.lo h2.lo,h2.hi,fun h => by
   have a:=h1.er h
   have b:=h2.er (by rw [a.1]; exact h)
   exact ⟨b.1.trans a.1,b.2.trans a.2⟩,fun h => h2.ct (h1.ct h)⟩
variable (hE : Ed l)
include hE
omit hE in
omit hE in
omit hE in
omit hE in
omit hE in
omit hE in
omit hE in
omit hE in
omit hE in
omit hE in
end
end Go.Proofs.YtdlnnlglmifceaaDoor
namespace Go.Proofs.YtdlnnlglmifceaaDoor
set_option linter.unusedSectionVars false
structure Rl (l : List Tok) (c : RS -> PS -> Prop) (x : RS) (y : PS) : Prop where
 er : x.er = 0
 lt : x.at' < l.length
 ts : l.drop x.at' = y.ts
 c : c x y
def c0 (_ : RS) (y : PS) : Prop:=y.vr = true
def Rf {α β : Type} (l : List Tok) (c : RS -> PS -> Prop) (φ : α -> β -> Prop) (p : α × RS) : PR β -> Prop
 | .ok (b,y) => φ p.1 b /\ Rl l c p.2 y
 | .error e => e.2 ≠ 0 -> p.2.er = e.2 /\ p.2.wr = e.1
def CC (c : RS -> PS -> Prop) : Prop:=∀ x y,c x y -> c (upZ x) (nxT y)
theorem headD_drop (l : List Tok) (n : Nat) (e : Tok) : (l.drop n).headD e = l.getD n e:=by
 rw [List.headD_eq_head?_getD,List.head?_drop,List.getD_eq_getElem?_getD]
section
variable {l : List Tok} {c : RS -> PS -> Prop} {x : RS} {y : PS} {α β γ δ : Type}
theorem Rl.hd (h : Rl l c x y) : tkZ l x = hdT y:=by
 unfold tkZ hdT
 rw [<- h.ts,headD_drop]
theorem Rl.er' (h : Rl l c x y) : (x.er == 0) = true:=by rw [h.er]; rfl
theorem Rl.sg (h : Rl l c x y) (s : List UInt8) : sgZ l s x = isS y s:=by
 unfold sgZ isS
 rw [h.hd,h.er',Bool.true_and]
theorem Rl.nm (h : Rl l c x y) : nmZ l x = ((hdT y).k == 2):=by
 unfold nmZ
 rw [h.hd,h.er',Bool.true_and]
theorem Rl.len (h : Rl l c x y) : y.ts.length = l.length - x.at':=by rw [<- h.ts,List.length_drop]
theorem Rf.then {φ : α -> β -> Prop} {ψ : γ -> δ -> Prop} {c' : RS -> PS -> Prop} {p : α × RS} {q : PR β} {r : γ × RS} {G : β -> PS -> PR δ} (h : Rf l c φ p q) (hm : Mw l p.2 r.2) (hf : ∀ b y,q = .ok (b,y) -> φ p.1 b -> Rl l c p.2 y -> Rf l c' ψ r (G b y)) : Rf l c' ψ r (thenQ q G):=by
 unfold thenQ
 cases q with
 | error e =>
   intro he
   have h1:=h he
   have h2:=hm.er (by rw [h1.1]; exact he)
   exact ⟨h2.1.trans h1.1,h2.2.trans h1.2⟩
 | ok a =>
   obtain ⟨b,y⟩:=a
   exact hf b y rfl h.1 h.2
theorem Rf.mono {φ ψ : α -> β -> Prop} {c' : RS -> PS -> Prop} {p : α × RS} {q : PR β} (h : Rf l c φ p q) (hφ : ∀ b,φ p.1 b -> ψ p.1 b) (hc : ∀ x y,c x y -> c' x y) : Rf l c' ψ p q:=by
 cases q with
 | error e => exact h
 | ok a => obtain ⟨b,y⟩:=a; exact ⟨hφ _ h.1,⟨h.2.er,h.2.lt,h.2.ts,hc _ _ h.2.c⟩⟩
variable (hE : Ed l) (hC : CC c)
include hE
omit hE in
include hC
omit hE hC in
omit hE hC in
omit hE hC in
omit hE hC in
omit hE hC in
omit hE hC in
end
end Go.Proofs.YtdlnnlglmifceaaDoor
namespace Go.Proofs.YtdlnnlglmifceaaDoor
set_option linter.unusedSectionVars false
def Kd (l : List Tok) : Prop:=∀ i,i < l.length -> 1 <= (l.getD i ⟨5,[],0⟩).k /\ (l.getD i ⟨5,[],0⟩).k <= 5
section
variable {l : List Tok} {c : RS -> PS -> Prop} {x : RS} {y : PS} (hE : Ed l)
include hE
variable (hK : Kd l)
include hK
omit hK in
omit hE hK in
omit hE hK in
omit hK in
omit hE hK in
omit hE hK in
omit hE hK in
end
end Go.Proofs.YtdlnnlglmifceaaDoor
namespace Go.Proofs.YtdlnnlglmifceaaDoor
set_option linter.unusedSectionVars false
def c1 (_ : RS) (y : PS) : Prop:=y.vr = false
section
variable {l : List Tok} {x : RS} {y : PS} (hE : Ed l) (hK : Kd l)
include hE
omit hE in
include hK
omit hK in
omit hK in
omit hK in
omit hK in
end
end Go.Proofs.YtdlnnlglmifceaaDoor
namespace Go.Proofs.YtdlnnlglmifceaaDoor
theorem zC6 : ∀ (b : Bool) (l r : List UInt8),skipM b l = l.length -> skipM b (l ++ 10 :: r) = l.length + 1 + skipM false r
 | false,[],r,_ => by
   show skipM false (10 :: r) = _
   rw [skipM,if_pos (show sepB 10 = true from rfl),List.length_nil]; omega
 | true,[],r,_ => by
   show skipM true (10 :: r) = _
   rw [skipM,if_pos (show ((10 : UInt8) == 10 || (10 : UInt8) == 13) = true from rfl),List.length_nil]; omega
 | false,c :: l,r,h => by
   rw [skipM] at h
   rw [List.cons_append,skipM]
   split at h
   . rename_i hc
     rw [if_pos hc,zC6 false l r (by simpa using h),List.length_cons]; omega
   . rename_i hc
     rw [if_neg hc]
     split at h
     . rename_i hd
       rw [if_pos hd,zC6 true l r (by simpa using h),List.length_cons]; omega
     . simp at h
 | true,c :: l,r,h => by
   rw [skipM] at h
   rw [List.cons_append,skipM]
   split at h
   . rename_i hc
     rw [if_pos hc,zC6 false l r (by simpa using h),List.length_cons]; omega
   . rename_i hc
     rw [if_neg hc,zC6 true l r (by simpa using h),List.length_cons]; omega
theorem zCT : ∀ (b : Bool) (l r : List UInt8),skipM b l < l.length -> skipM b (l ++ r) = skipM b l
 | b,[],r,h => by cases b <;> simp [skipM] at h
 | false,c :: l,r,h => by
   rw [skipM] at h |-
   rw [List.cons_append,skipM]
   split at h
   . rename_i hc
     rw [if_pos hc,if_pos hc,zCT false l r (by simpa using h)]
   . rename_i hc
     rw [if_neg hc,if_neg hc]
     split at h
     . rename_i hd
       rw [if_pos hd,if_pos hd,zCT true l r (by simpa using h)]
     . rename_i hd
       rw [if_neg hd,if_neg hd]
 | true,c :: l,r,h => by
   rw [skipM] at h |-
   rw [List.cons_append,skipM]
   split at h
   . rename_i hc
     rw [if_pos hc,if_pos hc,zCT false l r (by simpa using h)]
   . rename_i hc
     rw [if_neg hc,if_neg hc,zCT true l r (by simpa using h)]
theorem zGK {p : UInt8 -> Bool} {x : List UInt8} (hx : ∀ c,x.head? = some c -> p c = false) : ∀ l : List UInt8,spanN p (l ++ x) = spanN p l
 | [] => by
   cases x with
   | nil => rfl
   | cons c r => show spanN p (c :: r) = 0; rw [spanN,if_neg (by rw [hx c rfl]; decide)]
 | c :: l => by
   rw [List.cons_append,spanN,spanN,zGK hx l]
theorem zEE {l x : List UInt8} {n : Nat} (h : n <= l.length) : (l ++ x).take n = l.take n:=by
 rw [List.take_append_of_le_length h]
theorem zFw : ∀ (l x : List UInt8) (n : Nat),litN l = some n -> litN (l ++ x) = some n
 | [],_,_,h => by simp [litN] at h
 | [c],x,n,h => by
   unfold litN at h
   split at h
   . rename_i hc
     cases h
     cases x with
     | nil => show litN [c] = _; unfold litN; rw [if_pos hc]
     | cons d r => show litN (c :: d :: r) = _; rw [litN,if_pos hc]
   . cases h
 | c :: d :: r,x,n,h => by
   rw [litN] at h
   show litN (c :: d :: (r ++ x)) = _
   rw [litN]
   split at h
   . rename_i hc
     rw [if_pos hc,h]
   . rename_i hc
     rw [if_neg hc]
     split at h
     . rename_i hd
       obtain ⟨m,hm,rfl⟩:=Option.map_eq_some_iff.1 h
       rw [if_pos hd,zFw r x m hm]; rfl
     . rename_i hd
       obtain ⟨m,hm,rfl⟩:=Option.map_eq_some_iff.1 h
       have:=zFw (d :: r) x m hm
       rw [if_neg hd]
       rw [List.cons_append] at this
       rw [this]; rfl
theorem readU_part {l x : List UInt8} {k : Int} {s : List UInt8} {n : Nat} (hx : bnd x) (h : zDC l = .ok (k,s,n)) : zDC (l ++ x) = .ok (k,s,n):=by
 cases l with
 | nil => cases h
 | cons c r =>
   have hsp:=zGK (p:=wrdU) hx r
   have htk : (r ++ x).take (spanN wrdU r) = r.take (spanN wrdU r):=zEE (zFl wrdU r)
   unfold zDC at h
   dsimp only at h
   show zDC (c :: (r ++ x)) = _
   unfold zDC
   dsimp only
   rw [hsp,htk]
   split at h
   . rename_i h1; rw [if_pos h1,h]
   rename_i h1; rw [if_neg h1]
   split at h
   . rename_i h2
     rw [if_pos h2]
     split at h
     . rename_i h3
       have : (r.take 2).length = 2:=by rw [h3]; rfl
       rw [List.length_take] at this
       rw [zEE (by omega),if_pos h3,h]
     . cases h
   rename_i h2; rw [if_neg h2]
   split at h
   . rename_i h3
     rw [if_pos h3,h]
   rename_i h3; rw [if_neg h3]
   split at h
   . rename_i h4
     rw [if_pos h4,h]
   rename_i h4; rw [if_neg h4]
   split at h
   . rename_i h5
     rw [if_pos h5]
     cases hl : litN r with
     | none => rw [hl] at h; cases h
     | some m =>
       rw [hl] at h
       rw [zFw r x m hl]
       dsimp only at h |-
       rw [zEE (zFx r m hl).2,h]
   . cases h
theorem Lex.join {l : List UInt8} {ks : List (Int × List UInt8)} (h : Lex l ks) : ∀ {r : List UInt8} {kr : List (Int × List UInt8)},Lex r kr -> Lex (l ++ 10 :: r) (ks ++ kr):=by
 induction h with
 | done h =>
   rename_i l
   intro r kr hr
   have h1 : skipM false l = l.length:=by
    have:=zC7 false l
    have h2:=congrArg List.length h
    rw [List.length_drop,List.length_nil] at h2
    omega
   have e : (l ++ 10 :: r).drop (skipM false (l ++ 10 :: r)) = r.drop (skipM false r):=by
    rw [zC6 false l r h1,<- List.drop_drop,show l.length + 1 = (l ++ [10]).length by simp,show l ++ 10 :: r = (l ++ [10]) ++ r by simp,List.drop_left]
   cases hr with
   | done h => exact .done (by rw [e]; exact h)
   | tok h ht hr => exact .tok (by rw [e]; exact h) ht hr
 | tok h ht hr ih =>
   rename_i l c r0 k s n ks
   intro r kr hk
   have hlen:=congrArg List.length h
   rw [List.length_drop,List.length_cons] at hlen
   have hn:=zFr ht
   refine .tok (c:=c) (r:=r0 ++ 10 :: r) (n:=n) ?_ (readU_part (l:=c :: r0) (zAz rfl) ht) ?_
   . rw [zCT false l _ (by omega),List.drop_append_of_le_length (by omega),h]; rfl
   . have:=ih hk
     rw [show (c :: (r0 ++ 10 :: r)) = (c :: r0) ++ 10 :: r from rfl,List.drop_append_of_le_length hn.2.1]
     exact this
structure XN (M : Prop) (V : Bool) (T : Tok -> Tok -> Prop) (x x' : PS) : Prop where
 ts : All2 T x.ts x'.ts
 vr : x.vr = V
 vr' : x'.vr = V
 nd : M -> x.nd = x'.nd
def RN (M : Prop) (V : Bool) (T : Tok -> Tok -> Prop) (I : Nat -> Nat -> Prop) {α : Type} : PR α -> PR α -> Prop
 | .ok (a,x),.ok (a',x') => a = a' /\ XN M V T x x'
 | .error e,.error e' => I e.1 e'.1 /\ e.2 = e'.2
 | _,_ => False
section
variable {M : Prop} {V W : Bool} {T : Tok -> Tok -> Prop} {I : Nat -> Nat -> Prop} {α β : Type}
theorem XN.hd (hT : TR T I) {x x' : PS} (h : XN M V T x x') : (hdT x').k = (hdT x).k /\ (hdT x').s = (hdT x).s /\ I (hdT x).i (hdT x').i:=by
 obtain ⟨h1,-,-,-⟩:=h
 unfold hdT
 generalize x.ts = a at h1
 generalize x'.ts = b at h1
 cases h1 with
 | nil => exact ⟨rfl,rfl,hT.z⟩
 | cons h2 h3 => exact ⟨(hT.k h2).symm,(hT.s h2).symm,hT.i h2⟩
theorem XN.isS (hT : TR T I) {x x' : PS} (h : XN M V T x x') (s : List UInt8) : isS x' s = isS x s:=by
 obtain ⟨h1,h2,-⟩:=h.hd hT
 unfold Go.Proofs.YtdlnnlglmifceaaDoor.isS
 rw [h1,h2]
theorem XN.len {x x' : PS} (h : XN M V T x x') : x'.ts.length = x.ts.length:=(zEq h.ts).symm
theorem RN.then {r r' : PR α} {f f' : α -> PS -> PR β} (h : RN M V T I r r') (hf : ∀ a x x',XN M V T x x' -> RN M W T I (f a x) (f' a x')) : RN M W T I (thenQ r f) (thenQ r' f'):=by
 unfold thenQ
 cases r with
 | error e => cases r' with | error e' => exact h | ok a' => exact h.elim
 | ok a =>
   cases r' with
   | error e' => exact h.elim
   | ok a' =>
     obtain ⟨a,x⟩:=a
     obtain ⟨a',x'⟩:=a'
     obtain ⟨rfl,hx⟩:=h
     exact hf _ _ _ hx
variable (hT : TR T I)
include hT
end
end Go.Proofs.YtdlnnlglmifceaaDoor
namespace Go.Proofs.YtdlnnlglmifceaaDoor
def LN (e : Tok) (r : List Tok) {α : Type} (a : List Tok) (p p' : PR α) : Prop:=
 ∀ v y,p = .ok (v,y) -> ∃ b y',(∃ d,a = d ++ b) /\ p' = .ok (v,y') /\ J e r b y y'
section
variable {e : Tok} {r : List Tok} {α β : Type}
theorem LN.mono {a b : List Tok} {p p' : PR α} (h : LN e r b p p') (hab : ∃ d,a = d ++ b) : LN e r a p p':=fun v y hp => by
 obtain ⟨c,y',⟨d,hd⟩,h1⟩:=h v y hp
 obtain ⟨d2,hd2⟩:=hab
 exact ⟨c,y',⟨d2 ++ d,by rw [hd2,hd,List.append_assoc]⟩,h1⟩
variable (hE : Ends e r) (hN : ∃ t r',r = t :: r' /\ t.k = 2)
include hE hN
end
end Go.Proofs.YtdlnnlglmifceaaDoor
namespace Go.Proofs.YtdlnnlglmifceaaDoor
section
variable (lit : D -> Bool)
def valY (v : D) : Bool:=lit v && bareR (bulkD v) v
def argY (a : D) : Bool:=nameB (a.f 0).s && valY lit (a.f 1)
def argsY (l : List D) : Bool:=decide (l.length <= 16) && l.all (argY lit)
def dirY (x : D) : Bool:=nameB (x.f 0).s && argsY lit (x.f 1).l
def dirsY (l : List D) : Bool:=decide (l.length <= 16) && l.all (dirY lit)
def inY (x : D) : Bool:=nameB (x.f 0).s && refR (x.f 1) && dirsY lit (x.f 4).l && valY lit (x.f 3) && ((x.f 2).b || ((x.f 3).f 0).n == 0)
def insY (l : List D) : Bool:=decide (l.length <= 16) && l.all (inY lit)
def fdY (x : D) : Bool:=nameB (x.f 0).s && insY lit (x.f 1).l && refR (x.f 2) && dirsY lit (x.f 3).l
def fdsY (l : List D) : Bool:=decide (l.length <= 64) && l.all (fdY lit)
def mbY (u : Bool) (x : D) : Bool:=nameB (x.f 0).s && dirsY lit (x.f 1).l && (!u || decide ((x.f 1).l.length = 0))
def mbsY (u : Bool) (l : List D) : Bool:=decide (l.length <= 64) && l.all (mbY lit u)
def imY (l : List D) : Bool:=decide (l.length <= 64) && l.all fun x => nameB x.s
def kindY (k : Int) (a b c e : Nat) : Bool:=
 decide (1 <= k /\ k <= 5) && (decide (e = 0) || k == 1) && ((k == 1 || k == 2) == decide (0 < a)) && ((k == 3 || k == 4) == decide (0 < b)) && ((k == 5) == decide (0 < c))
def defY (d : D) : Bool:=
 kindY (d.f 0).n (d.f 4).l.length (d.f 5).l.length (d.f 6).l.length (d.f 2).l.length && nameB (d.f 1).s && dirsY lit (d.f 3).l && imY (d.f 2).l &&
 fdsY lit (d.f 4).l && mbsY lit ((d.f 0).n == 3) (d.f 5).l && insY lit (d.f 6).l
def docY (l : List D) : Bool:=decide (1 <= l.length /\ l.length <= 64) && l.all (defY lit)
end
theorem zDo {p : D -> Bool} {l : List D} (h : l.all p = true) : ∀ i,i < l.length -> p (gD l i) = true:=fun i hi => by
 rw [zBo hi]; exact List.all_eq_true.1 h _ (List.getElem_mem hi)
structure ValP (v : D) : Prop where
 lit : litR v = true
 bare : bareR (bulkD v) v = true
structure ArgP (a : D) : Prop where
 name : nameB (a.f 0).s = true
 val : ValP (a.f 1)
structure DirP (x : D) : Prop where
 name : nameB (x.f 0).s = true
 len : (x.f 1).l.length <= 16
 args : ∀ i,i < (x.f 1).l.length -> ArgP (gD (x.f 1).l i)
structure DirsP (l : List D) : Prop where
 len : l.length <= 16
 dirs : ∀ i,i < l.length -> DirP (gD l i)
structure InP (x : D) : Prop where
 name : nameB (x.f 0).s = true
 rname : nameB ((x.f 1).f 0).s = true
 rlen : ((x.f 1).f 1).l.length <= 24
 wraps : zCH (((x.f 1).f 1).l.map D.n) = true
 dirs : DirsP (x.f 4).l
 val : ValP (x.f 3)
 has : (x.f 2).b = true \/ ((x.f 3).f 0).n = 0
structure InsP (l : List D) : Prop where
 len : l.length <= 16
 ins : ∀ i,i < l.length -> InP (gD l i)
structure FdP (x : D) : Prop where
 name : nameB (x.f 0).s = true
 args : InsP (x.f 1).l
 rname : nameB ((x.f 2).f 0).s = true
 rlen : ((x.f 2).f 1).l.length <= 24
 wraps : zCH (((x.f 2).f 1).l.map D.n) = true
 dirs : DirsP (x.f 3).l
structure MbP (u : Bool) (x : D) : Prop where
 name : nameB (x.f 0).s = true
 dirs : DirsP (x.f 1).l
 no : u = true -> (x.f 1).l.length = 0
structure DefP (d : D) : Prop where
 kind : 1 <= (d.f 0).n /\ (d.f 0).n <= 5
 name : nameB (d.f 1).s = true
 dirs : DirsP (d.f 3).l
 ilen : (d.f 2).l.length <= 64
 im : ∀ i,i < (d.f 2).l.length -> nameB (gD (d.f 2).l i).s = true
 im0 : (d.f 2).l.length = 0 \/ (d.f 0).n = 1
 f0 : ((d.f 0).n = 1 \/ (d.f 0).n = 2) ↔ 0 < (d.f 4).l.length
 m0 : ((d.f 0).n = 3 \/ (d.f 0).n = 4) ↔ 0 < (d.f 5).l.length
 i0 : (d.f 0).n = 5 ↔ 0 < (d.f 6).l.length
 flen : (d.f 4).l.length <= 64
 fds : ∀ i,i < (d.f 4).l.length -> FdP (gD (d.f 4).l i)
 mlen : (d.f 5).l.length <= 64
 mbs : ∀ i,i < (d.f 5).l.length -> MbP ((d.f 0).n == 3) (gD (d.f 5).l i)
 ins : InsP (d.f 6).l
theorem valP {v : D} (h : valY litR v = true) : ValP v:=by
 unfold valY at h
 rw [Bool.and_eq_true] at h
 exact ⟨h.1,h.2⟩
theorem argP {a : D} (h : argY litR a = true) : ArgP a:=by
 unfold argY at h
 rw [Bool.and_eq_true] at h
 exact ⟨h.1,valP h.2⟩
theorem dirP {x : D} (h : dirY litR x = true) : DirP x:=by
 unfold dirY argsY at h
 simp only [Bool.and_eq_true,decide_eq_true_eq] at h
 exact ⟨h.1,h.2.1,fun i hi => argP (zDo h.2.2 i hi)⟩
theorem dirsP {l : List D} (h : dirsY litR l = true) : DirsP l:=by
 unfold dirsY at h
 simp only [Bool.and_eq_true,decide_eq_true_eq] at h
 exact ⟨h.1,fun i hi => dirP (zDo h.2 i hi)⟩
theorem inP {x : D} (h : inY litR x = true) : InP x:=by
 unfold inY refR at h
 simp only [Bool.and_eq_true,decide_eq_true_eq,Bool.or_eq_true,beq_iff_eq] at h
 obtain ⟨⟨⟨⟨h1,⟨h2,h3⟩,h4⟩,h5⟩,h6⟩,h7⟩:=h
 exact ⟨h1,h2,h3,h4,dirsP h5,valP h6,h7⟩
theorem insP {l : List D} (h : insY litR l = true) : InsP l:=by
 unfold insY at h
 simp only [Bool.and_eq_true,decide_eq_true_eq] at h
 exact ⟨h.1,fun i hi => inP (zDo h.2 i hi)⟩
theorem fdP {x : D} (h : fdY litR x = true) : FdP x:=by
 unfold fdY refR at h
 simp only [Bool.and_eq_true,decide_eq_true_eq] at h
 obtain ⟨⟨⟨h1,h2⟩,⟨h3,h4⟩,h5⟩,h6⟩:=h
 exact ⟨h1,insP h2,h3,h4,h5,dirsP h6⟩
theorem mbP {u : Bool} {x : D} (h : mbY litR u x = true) : MbP u x:=by
 unfold mbY at h
 simp only [Bool.and_eq_true,decide_eq_true_eq,Bool.or_eq_true,Bool.not_eq_true'] at h
 refine ⟨h.1.1,dirsP h.1.2,fun hu => ?_⟩
 rcases h.2 with h2 | h2
 . rw [hu] at h2; cases h2
 . exact h2
theorem defP {d : D} (h : defY litR d = true) : DefP d:=by
 unfold defY kindY imY fdsY mbsY at h
 simp only [Bool.and_eq_true,decide_eq_true_eq,Bool.or_eq_true,beq_iff_eq] at h
 obtain ⟨⟨⟨⟨⟨⟨⟨⟨⟨⟨k1,k2⟩,k3⟩,k4⟩,k5⟩,h1⟩,h2⟩,h3,h4⟩,h5,h6⟩,h7,h8⟩,h9⟩:=h
 refine ⟨k1,h1,dirsP h2,h3,fun i hi => zDo h4 i hi,k2,?_,?_,?_,h5,fun i hi => fdP (zDo h6 i hi),h7,fun i hi => mbP (zDo h8 i hi),insP h9⟩
 . rw [<- decide_eq_true_iff (p:=0 < (d.f 4).l.length),<- k3]; simp
 . rw [<- decide_eq_true_iff (p:=0 < (d.f 5).l.length),<- k4]; simp
 . rw [<- decide_eq_true_iff (p:=0 < (d.f 6).l.length),<- k5]; simp
theorem docP {l : List D} (h : docY litR l = true) : 1 <= l.length /\ l.length <= 64 /\ ∀ i,i < l.length -> DefP (gD l i):=by
 unfold docY at h
 simp only [Bool.and_eq_true,decide_eq_true_eq] at h
 exact ⟨h.1.1,h.1.2,fun i hi => defP (zDo h.2 i hi)⟩
end Go.Proofs.YtdlnnlglmifceaaDoor
namespace Go.Proofs.YtdlnnlglmifceaaDoor
def insK (l : List D) (g : D -> KS) : KS:=if l.length = 0 then [] else (1,[40]) :: (rgK g l ++ [(1,[41])])
def inK (x : D) : KS:=(2,tx (x.f 0).s) :: (1,[58]) :: (refK (tx ((x.f 1).f 0).s) ((x.f 1).f 1).l ++ ((if (x.f 2).b = true then (1,[61]) :: litK (x.f 3) else []) ++ rgK dirK (x.f 4).l))
def fdK (x : D) : KS:=(2,tx (x.f 0).s) :: (insK (x.f 1).l inK ++ (1,[58]) :: (refK (tx ((x.f 2).f 0).s) ((x.f 2).f 1).l ++ rgK dirK (x.f 3).l))
def mbK (x : D) : KS:=(2,tx (x.f 0).s) :: rgK dirK (x.f 1).l
def sepK (s : List UInt8) : List D -> KS
 | [] => []
 | [x] => [(2,tx x.s)]
 | x :: y :: r => (2,tx x.s) :: (1,s) :: sepK s (y :: r)
def zBr (k : Int) : List UInt8:=if k = 1 then typeT else if k = 2 then ifaceT else if k = 3 then unionT else if k = 4 then enumT else inputT
def zBc (l : List D) : KS:=if l.length = 0 then [] else (2,zF2) :: sepK [38] l
def bodyK (d : D) : KS:=
 if (d.f 0).n = 3 then (1,[61]) :: sepK [124] ((d.f 5).l.map fun x => x.f 0)
 else blkK (if (d.f 0).n = 5 then rgK inK (d.f 6).l else if (d.f 0).n = 4 then rgK mbK (d.f 5).l else rgK fdK (d.f 4).l)
def zDp (d : D) : KS:=(2,zBr (d.f 0).n) :: (2,tx (d.f 1).s) :: (zBc (d.f 2).l ++ (rgK dirK (d.f 3).l ++ bodyK d))
def sdocK (l : List D) : KS:=rgK zDp l
def cIn (x : D) : D:=sInD (tx (x.f 0).s) (refD (tx ((x.f 1).f 0).s) (((x.f 1).f 1).l.map D.n)) (x.f 2).b (if (x.f 2).b = true then cL (x.f 3) else zHE) (rgD cDir (x.f 4).l)
def cFd (x : D) : D:=sFdD (tx (x.f 0).s) (rgD cIn (x.f 1).l) (refD (tx ((x.f 2).f 0).s) (((x.f 2).f 1).l.map D.n)) (rgD cDir (x.f 3).l)
def cMb (x : D) : D:=sMbD (tx (x.f 0).s) (rgD cDir (x.f 1).l)
def cNm (x : D) : D:=strD (tx x.s)
def cDf (d : D) : D:=sDfD (d.f 0).n (tx (d.f 1).s) ((d.f 2).l.map cNm) (rgD cDir (d.f 3).l) (if (d.f 0).n = 1 \/ (d.f 0).n = 2 then rgD cFd (d.f 4).l else [])
 (if (d.f 0).n = 3 then ((d.f 5).l.map fun x => mbOf (cNm (x.f 0))) else if (d.f 0).n = 4 then rgD cMb (d.f 5).l else []) (if (d.f 0).n = 5 then rgD cIn (d.f 6).l else [])
structure EndO (r : KS) : Prop where
 bang : nS r [33]
 at_ : nS r [64]
 par : nS r [40]
 eq : nS r [61]
theorem endO_name (s : List UInt8) (r : KS) : EndO ((2,s) :: r):=⟨zA4 rfl,zA4 rfl,zA4 rfl,zA4 rfl⟩
theorem endO_sign {s : List UInt8} {r : KS} (h : s ≠ [33] /\ s ≠ [64] /\ s ≠ [40] /\ s ≠ [61]) : EndO ((1,s) :: r):=
 ⟨zA4 (by simp [h.1]),zA4 (by simp [h.2.1]),zA4 (by simp [h.2.2.1]),zA4 (by simp [h.2.2.2])⟩
theorem zCW {el : PS -> PR D} {g : D -> KS} {c : D -> D} {e : List UInt8} {most : Nat} {l : List D} (hl : l.length <= most) (h0 : 0 < l.length) (he : e ≠ [33] /\ e ≠ [64] /\ e ≠ [40] /\ e ≠ [61])
 (hel : ∀ i r n,i < l.length -> EndO r -> ∃ n',el (pst (g (gD l i) ++ r) false n) = .ok (c (gD l i),pst r false n')) (hg : ∀ x,∃ s r,g x = (2,s) :: r) : ∀ (m j f : Nat) (r : KS) (n : Nat),j + m = l.length -> m < f ->
 ∃ n',manyF el e most f ((List.range j).map fun i => c (gD l i)) (pst (gK (fun i => g (gD l i)) j m ++ (1,e) :: r) false n) = .ok (rgD c l,pst r false n')
 | _,_,0,_,_,_,hf => by omega
 | 0,j,f + 1,r,n,hj,_ => by
   have e' : j = l.length:=by omega
   subst e'
   unfold manyF
   rw [zEs,zEV,List.nil_append,if_pos ⟨by omega,zBR _ _ _ _⟩,zBY (by decide)]
   exact ⟨n,rfl⟩
 | m + 1,j,f + 1,r,n,hj,hf => by
   have hj2 : j < l.length:=by omega
   have hend : EndO (gK (fun i => g (gD l i)) (j + 1) m ++ (1,e) :: r):=by
    cases m with
    | zero => exact endO_sign he
    | succ m =>
      obtain ⟨s,q,hs⟩:=hg (gD l (j + 1))
      rw [zB4,hs]
      exact endO_name _ _
   obtain ⟨n1,e1⟩:=hel j _ n hj2 hend
   obtain ⟨n',ih⟩:=zCW hl h0 he hel hg m (j + 1) f r n1 (by omega) (by omega)
   refine ⟨n',?_⟩
   obtain ⟨s,q,hs⟩:=hg (gD l j)
   unfold manyF
   rw [zEs,zB4,List.append_assoc]
   have hn1 : ¬ (j ≠ 0 /\ isS (pst (g (gD l j) ++ (gK (fun i => g (gD l i)) (j + 1) m ++ (1,e) :: r)) false n) e = true):=fun h => by
    have:=h.2
    rw [hs] at this
    have h2 : (2 == (1 : Int) && s == e) = true:=this
    simp at h2
   rw [if_neg hn1,if_neg (fun h => by omega),e1,zp]
   rw [List.range_succ,List.map_append] at ih
   exact ih
theorem arg_pst {a : D} (h : ArgP a) (hw : wideD a) (r : KS) (n : Nat) : ∃ n',argQ (pst (argK a ++ r) false n) = .ok (cA a,pst r false n'):=by
 have e : argK a ++ r = (2,tx (a.f 0).s) :: (1,[58]) :: (litK (a.f 1) ++ r):=rfl
 unfold argQ
 rw [e,zBE,zp,zBf,zp,zGF h.val.lit (hw.f 1) (fun _ => h.val.bare),zp]
 exact ⟨_,rfl⟩
theorem args_psy {l : List D} (hl : l.length <= 16) (h : ∀ i,i < l.length -> ArgP (gD l i)) (hw : ∀ i,wideD (gD l i)) {r : KS} (hr : nS r [40]) (n : Nat) : ∃ n',argsQ (pst (parK l ++ r) false n) = .ok (rgD cA l,pst r false n'):=by
 unfold argsQ parK
 by_cases h0 : l.length = 0
 . rw [if_pos h0,List.nil_append,if_neg (by rw [hr]; decide)]
   rw [List.length_eq_zero_iff.1 h0]
   exact ⟨n,rfl⟩
 . have e : (1,[40]) :: (rgK argK l ++ [(1,[41])]) ++ r = ((1 : Int),[(40 : UInt8)]) :: (gK (fun i => argK (gD l i)) 0 l.length ++ (1,[41]) :: r):=by simp [rgK]
   rw [if_neg h0,e,if_pos (zBR _ _ _ _),zBY (by decide),zEo]
   have hlen:=zDH (fun i => argK (gD l i)) (fun i => by simp [argK]) l.length 0
   exact zCW hl (by omega) (by decide) (fun i r n hi _ => arg_pst (h i hi) (hw i) r n) (fun x => ⟨_,_,rfl⟩) l.length 0 _ r n (by omega) (by simp only [pst,List.length_map,List.length_cons,List.length_append]; omega)
theorem zGt {l : List D} (h : DirsP l) (hw : ∀ i,wideD (gD l i)) : ∀ (m j f : Nat) (r : KS) (n : Nat),j + m = l.length -> m < f -> nS r [64] -> nS r [40] ->
 ∃ n',dirsF f ((List.range j).map fun i => cDir (gD l i)) (pst (gK (fun i => dirK (gD l i)) j m ++ r) false n) = .ok (rgD cDir l,pst r false n')
 | _,_,0,_,_,_,hf,_,_ => by omega
 | 0,j,f + 1,r,n,hj,_,h1,_ => by
   have e : j = l.length:=by omega
   subst e
   unfold dirsF
   rw [zEV,List.nil_append,if_neg (by rw [h1]; decide)]
   exact ⟨n,rfl⟩
 | m + 1,j,f + 1,r,n,hj,hf,h1,h2 => by
   have hl:=h.len
   have hj2 : j < l.length:=by omega
   have hd:=h.dirs j hj2
   obtain ⟨n1,e1⟩:=args_psy hd.len hd.args (fun i => ((hw j).f 1).l i) (r:=gK (fun i => dirK (gD l i)) (j + 1) m ++ r) (nS_gK (fun i r => zA4 (by decide)) h2) n
   obtain ⟨n',ih⟩:=zGt h hw m (j + 1) f r n1 (by omega) (by omega) h1 h2
   refine ⟨n',?_⟩
   unfold dirsF
   rw [zEs,zB4,List.append_assoc]
   have e : dirK (gD l j) ++ (gK (fun i => dirK (gD l i)) (j + 1) m ++ r) = (1,[64]) :: (2,tx ((gD l j).f 0).s) :: (parK ((gD l j).f 1).l ++ (gK (fun i => dirK (gD l i)) (j + 1) m ++ r)):=rfl
   rw [e,if_pos (zBR _ _ _ _),if_neg (by omega),zBY (by decide),zBE,zp,e1,zp]
   rw [List.range_succ,List.map_append] at ih
   exact ih
theorem zDL {l : List D} (h : DirsP l) (hw : ∀ i,wideD (gD l i)) {r : KS} (h1 : nS r [64]) (h2 : nS r [40]) (n : Nat) : ∃ n',dirsQ (pst (rgK dirK l ++ r) false n) = .ok (rgD cDir l,pst r false n'):=by
 unfold dirsQ
 have hlen:=zDH (fun i => dirK (gD l i)) (fun i => by simp [dirK]) l.length 0
 exact zGt h hw l.length 0 _ r n (by omega) (by simp only [pst,List.length_map,List.length_append,rgK]; omega) h1 h2
theorem in_pst {x : D} (h : InP x) (hw : wideD x) {r : KS} (hr : EndO r) (n : Nat) : ∃ n',inQ (pst (inK x ++ r) false n) = .ok (cIn x,pst r false n'):=by
 have e : inK x ++ r = (2,tx (x.f 0).s) :: (1,[58]) :: (refK (tx ((x.f 1).f 0).s) ((x.f 1).f 1).l ++ ((if (x.f 2).b = true then (1,[61]) :: litK (x.f 3) else []) ++ (rgK dirK (x.f 4).l ++ r))):=by simp [inK]
 unfold inQ
 rw [e,zBE,zp,zBf,zp]
 have hdn : ∀ t,([64] == t) = false -> nS r t -> nS (rgK dirK (x.f 4).l ++ r) t:=fun t h1 h2 => zHH h1 h2
 have ht:=typ_pst (nm:=tx ((x.f 1).f 0).s) (ds:=((x.f 1).f 1).l) (r:=(if (x.f 2).b = true then (1,[61]) :: litK (x.f 3) else []) ++ (rgK dirK (x.f 4).l ++ r)) (v:=false) (n:=n) h.wraps h.rlen (by
  split
  . exact zA4 (by decide)
  . exact hdn _ (by decide) hr.bang)
 rw [ht,zp]
 by_cases hb : (x.f 2).b = true
 . rw [if_pos hb,List.cons_append,if_pos (zBR _ _ _ _),zBY (by decide),zGF h.val.lit (hw.f 3) (fun _ => h.val.bare),zp,zp]
   obtain ⟨n',e2⟩:=zDL h.dirs (fun i => (hw.f 4).l i) (r:=r) hr.at_ hr.par (sizeR (bulkD (x.f 3)) (x.f 3))
   rw [e2,zp]
   refine ⟨n',?_⟩
   unfold cIn
   rw [if_pos hb,hb]
 . rw [if_neg hb,List.nil_append,if_neg (by rw [hdn _ (by decide) hr.eq]; decide),zp]
   obtain ⟨n',e2⟩:=zDL h.dirs (fun i => (hw.f 4).l i) (r:=r) hr.at_ hr.par n
   rw [e2,zp]
   refine ⟨n',?_⟩
   unfold cIn
   rw [if_neg hb,show (x.f 2).b = false by simpa using hb]
theorem inK_fst (x : D) : ∃ s r,inK x = (2,s) :: r:=⟨_,_,rfl⟩
theorem ins_pst {l : List D} (h : InsP l) (hw : ∀ i,wideD (gD l i)) (h0 : 0 < l.length) {e : List UInt8} (he : e ≠ [33] /\ e ≠ [64] /\ e ≠ [40] /\ e ≠ [61]) (r : KS) (n : Nat) : ∃ n',insQ e (pst (rgK inK l ++ (1,e) :: r) false n) = .ok (rgD cIn l,pst r false n'):=by
 unfold insQ
 have hlen:=zDH (fun i => inK (gD l i)) (fun i => by simp [inK]) l.length 0
 exact zCW h.len h0 he (fun i r n hi hr => in_pst (h.ins i hi) (hw i) hr n) inK_fst l.length 0 _ r n (by omega) (by simp only [pst,List.length_map,List.length_append,List.length_cons,rgK]; omega)
theorem fd_pst {x : D} (h : FdP x) (hw : wideD x) {r : KS} (hr : EndO r) (n : Nat) : ∃ n',fdQ (pst (fdK x ++ r) false n) = .ok (cFd x,pst r false n'):=by
 have e : fdK x ++ r = (2,tx (x.f 0).s) :: (insK (x.f 1).l inK ++ ((1,[58]) :: (refK (tx ((x.f 2).f 0).s) ((x.f 2).f 1).l ++ (rgK dirK (x.f 3).l ++ r)))):=by simp [fdK]
 unfold fdQ
 rw [e,zBE,zp]
 have tail : ∀ n1,∃ n',(thenQ (takeQ [58] (pst ((1,[58]) :: (refK (tx ((x.f 2).f 0).s) ((x.f 2).f 1).l ++ (rgK dirK (x.f 3).l ++ r))) false n1)) fun _ u => thenQ (typQ u) fun t v => thenQ (dirsQ v) fun ds w => (.ok (sFdD (tx (x.f 0).s) (rgD cIn (x.f 1).l) t ds,w) : PR D)) = .ok (cFd x,pst r false n'):=fun n1 => by
  rw [zBf,zp,typ_pst h.wraps h.rlen (zHH (by decide) hr.bang),zp]
  obtain ⟨n',e2⟩:=zDL h.dirs (fun i => (hw.f 3).l i) (r:=r) hr.at_ hr.par n1
  rw [e2,zp]
  exact ⟨n',rfl⟩
 unfold insK
 by_cases h0 : (x.f 1).l.length = 0
 . rw [if_pos h0,List.nil_append,if_neg (by rw [zDl]; decide),zp]
   have:=tail n
   rwa [List.length_eq_zero_iff.1 h0] at this
 . rw [if_neg h0,List.cons_append,if_pos (zBR _ _ _ _),zBY (by decide),List.append_assoc]
   obtain ⟨n1,e1⟩:=ins_pst h.args (fun i => (hw.f 1).l i) (by omega) (e:=[41]) (by decide) ((1,[58]) :: (refK (tx ((x.f 2).f 0).s) ((x.f 2).f 1).l ++ (rgK dirK (x.f 3).l ++ r))) n
   rw [List.singleton_append,e1,zp]
   exact tail n1
theorem mb_pst {u : Bool} {x : D} (h : MbP u x) (hw : wideD x) {r : KS} (hr : EndO r) (n : Nat) : ∃ n',mbQ (pst (mbK x ++ r) false n) = .ok (cMb x,pst r false n'):=by
 have e : mbK x ++ r = (2,tx (x.f 0).s) :: (rgK dirK (x.f 1).l ++ r):=rfl
 unfold mbQ
 rw [e,zBE,zp]
 obtain ⟨n',e2⟩:=zDL h.dirs (fun i => (hw.f 1).l i) (r:=r) hr.at_ hr.par n
 rw [e2,zp]
 exact ⟨n',rfl⟩
theorem zFD (s : List UInt8) {r : KS} (hr : nS r s) (n : Nat) : ∀ (l acc : List D) (f : Nat),l ≠ [] -> acc.length + l.length <= 64 -> l.length <= f -> zCo s f acc (pst (sepK s l ++ r) false n) = .ok (acc ++ l.map cNm,pst r false n)
 | [],_,_,h,_,_ => (h rfl).elim
 | x :: l,_,0,_,_,hf => by simp at hf
 | [x],acc,f + 1,_,hl,hf => by
   unfold zCo
   show (if (hdT (pst ((2,tx x.s) :: r) false n)).k = 2 /\ 64 <= acc.length then _ else thenQ (zA0 (pst ((2,tx x.s) :: r) false n)) _) = _
   simp only [List.length_cons,List.length_nil] at hl
   rw [if_neg (fun h => by omega),zBE,zp,if_neg (by rw [hr]; decide)]
   rfl
 | x :: y :: l,acc,f + 1,_,hl,hf => by
   simp only [List.length_cons] at hl hf
   have ih:=zFD s hr n (y :: l) (acc ++ [cNm x]) f (by simp) (by simp; omega) (by simp; omega)
   unfold zCo
   show (if (hdT (pst ((2,tx x.s) :: (1,s) :: (sepK s (y :: l) ++ r)) false n)).k = 2 /\ 64 <= acc.length then _ else thenQ (zA0 (pst ((2,tx x.s) :: (1,s) :: (sepK s (y :: l) ++ r)) false n)) _) = _
   rw [if_neg (fun h => by omega),zBE,zp,if_pos (zBR _ _ _ _),zBY (by decide)]
   show zCo s f (acc ++ [cNm x]) _ = _
   rw [ih]; simp
theorem zHn (s : List UInt8) : ∀ l : List D,l.length <= (sepK s l).length
 | [] => Nat.le_refl _
 | [_] => Nat.le_refl _
 | x :: y :: l => by
   have:=zHn s (y :: l)
   unfold sepK
   simp only [List.length_cons] at *
   omega
theorem zGZ (s : List UInt8) {r : KS} (hr : nS r s) (n : Nat) {l : List D} (h0 : l ≠ []) (hl : l.length <= 64) : zFC s (pst (sepK s l ++ r) false n) = .ok (l.map cNm,pst r false n):=by
 have:=zFD s hr n l [] ((pst (sepK s l ++ r) false n).ts.length + 1) h0 (by simpa using hl) (by have:=zHn s l; simp only [pst,List.length_map,List.length_append]; omega)
 exact this
theorem faces_pst {k : Int} {l : List D} (hl : l.length <= 64) (hk : l.length = 0 \/ k = 1) {r : KS} (hr : nS r [38]) (hni : ∀ n,¬ ((hdT (pst r false n)).k = 2 /\ (hdT (pst r false n)).s = zF2)) (n : Nat) : facesQ k (pst (zBc l ++ r) false n) = .ok (l.map cNm,pst r false n):=by
 unfold facesQ zBc
 by_cases h0 : l.length = 0
 . rw [if_pos h0,List.nil_append,if_neg (fun h => hni n h.2),List.length_eq_zero_iff.1 h0]; rfl
 . have hk : k = 1:=by rcases hk with h | h; exact (h0 h).elim; exact h
   rw [if_neg h0,List.cons_append,if_pos ⟨hk,rfl,rfl⟩,zBY (by decide)]
   exact zGZ [38] hr n (fun e => h0 (by rw [e]; rfl)) hl
theorem body_fst (d : D) (r : KS) : (∀ t,([61] == t) = false -> ([123] == t) = false -> nS (bodyK d ++ r) t) /\ ∀ n,(hdT (pst (bodyK d ++ r) false n)).k = 1:=by
 unfold bodyK
 split
 . exact ⟨fun t h1 _ => zA4 (by simpa using h1),fun n => rfl⟩
 . exact ⟨fun t _ h2 => zA4 (by simpa using h2),fun n => rfl⟩
theorem body_pst {d : D} (h : DefP d) (hw : wideD d) {r : KS} (hr : nS r [124]) (n : Nat) : ∃ n',bodyQ (d.f 0).n (pst (bodyK d ++ r) false n) =
 .ok (((if (d.f 0).n = 1 \/ (d.f 0).n = 2 then rgD cFd (d.f 4).l else []),(if (d.f 0).n = 3 then ((d.f 5).l.map fun x => mbOf (cNm (x.f 0))) else if (d.f 0).n = 4 then rgD cMb (d.f 5).l else []),(if (d.f 0).n = 5 then rgD cIn (d.f 6).l else [])),pst r false n'):=by
 have hk:=h.kind
 unfold bodyQ bodyK
 by_cases k3 : (d.f 0).n = 3
 . have hm:=h.m0.1 (.inl k3)
   rw [if_pos k3,if_pos k3,if_neg (by omega),if_pos k3,if_neg (by omega),List.cons_append,zBf,zp,zGZ [124] hr n (l:=(d.f 5).l.map fun x => x.f 0) (fun e => by
    have:=congrArg List.length e
    rw [List.length_map] at this
    simp at this; rw [this] at hm; simp at hm) (by rw [List.length_map]; exact h.mlen),zp]
   exact ⟨n,by rw [List.map_map,List.map_map]; rfl⟩
 rw [if_neg k3,if_neg k3]
 have eb : ∀ k : KS,blkK k ++ r = (1,[123]) :: (k ++ (1,[125]) :: r):=fun k => by simp [blkK]
 rw [eb,zBf,zp]
 by_cases k5 : (d.f 0).n = 5
 . have hm:=h.i0.1 k5
   rw [if_pos k5,if_pos k5,if_neg (by omega),if_neg k3,if_neg (by omega),if_pos k5]
   obtain ⟨n',e1⟩:=ins_pst h.ins (fun i => (hw.f 6).l i) hm (e:=[125]) (by decide) r n
   rw [e1,zp]
   exact ⟨n',rfl⟩
 rw [if_neg k5,if_neg k5]
 by_cases k4 : (d.f 0).n = 4
 . have hm:=h.m0.1 (.inr k4)
   rw [if_pos k4,if_pos k4,if_neg (by omega),if_neg k3,if_pos k4,if_neg k5]
   have hlen:=zDH (fun i => mbK (gD (d.f 5).l i)) (fun i => by simp [mbK]) (d.f 5).l.length 0
   obtain ⟨n',e1⟩:=zCW (el:=mbQ) (g:=mbK) (c:=cMb) (e:=[125]) h.mlen hm (by decide) (fun i r n hi hr => mb_pst (h.mbs i hi) ((hw.f 5).l i) hr n) (fun x => ⟨_,_,rfl⟩) (d.f 5).l.length 0 ((pst (rgK mbK (d.f 5).l ++ (1,[125]) :: r) false n).ts.length + 1) r n (by omega) (by simp only [pst,List.length_map,List.length_append,List.length_cons,rgK]; omega)
   unfold mbsQ
   have e1 : manyF mbQ [125] 64 _ [] (pst (rgK mbK (d.f 5).l ++ (1,[125]) :: r) false n) = _:=e1
   rw [e1,zp]
   exact ⟨n',rfl⟩
 . have hm:=h.f0.1 (by omega)
   rw [if_neg k4,if_neg k4,if_pos (by omega),if_neg k3,if_neg k4,if_neg k5]
   have hlen:=zDH (fun i => fdK (gD (d.f 4).l i)) (fun i => by simp [fdK]) (d.f 4).l.length 0
   obtain ⟨n',e1⟩:=zCW (el:=fdQ) (g:=fdK) (c:=cFd) (e:=[125]) h.flen hm (by decide) (fun i r n hi hr => fd_pst (h.fds i hi) ((hw.f 4).l i) hr n) (fun x => ⟨_,_,rfl⟩) (d.f 4).l.length 0 ((pst (rgK fdK (d.f 4).l ++ (1,[125]) :: r) false n).ts.length + 1) r n (by omega) (by simp only [pst,List.length_map,List.length_append,List.length_cons,rgK]; omega)
   unfold fdsQ
   have e1 : manyF fdQ [125] 64 _ [] (pst (rgK fdK (d.f 4).l ++ (1,[125]) :: r) false n) = _:=e1
   rw [e1,zp]
   exact ⟨n',rfl⟩
theorem sdef_pst {d : D} (h : DefP d) (hw : wideD d) {r : KS} (hr : nS r [124]) (n : Nat) : ∃ n',sdefQ (d.f 0).n (pst ((2,tx (d.f 1).s) :: (zBc (d.f 2).l ++ (rgK dirK (d.f 3).l ++ bodyK d)) ++ r) false n) = .ok (cDf d,pst r false n'):=by
 have e : (2,tx (d.f 1).s) :: (zBc (d.f 2).l ++ (rgK dirK (d.f 3).l ++ bodyK d)) ++ r = ((2 : Int),tx (d.f 1).s) :: (zBc (d.f 2).l ++ (rgK dirK (d.f 3).l ++ (bodyK d ++ r))):=by simp
 obtain ⟨b1,b2⟩:=body_fst d r
 unfold sdefQ
 rw [e,zBE,zp,faces_pst h.ilen h.im0 (zHH (by decide) (b1 _ (by decide) (by decide))) (fun n hh => by
  have hx : (hdT (pst (rgK dirK (d.f 3).l ++ (bodyK d ++ r)) false n)).k = 1:=by
   unfold rgK
   cases (d.f 3).l.length with
   | zero => exact b2 n
   | succ m => rw [zB4,List.append_assoc]; rfl
  rw [hx] at hh
  exact absurd hh.1 (by decide)),zp]
 obtain ⟨n1,e1⟩:=zDL h.dirs (fun i => (hw.f 3).l i) (r:=bodyK d ++ r) (b1 _ (by decide) (by decide)) (b1 _ (by decide) (by decide)) n
 obtain ⟨n2,e2⟩:=body_pst h hw hr n1
 rw [e1,zp,e2,zp]
 exact ⟨n2,rfl⟩
theorem word_kindS {k : Int} (h : 1 <= k /\ k <= 5) : kindS (zBr k) = k:=by
 obtain rfl | rfl | rfl | rfl | rfl : k = 1 \/ k = 2 \/ k = 3 \/ k = 4 \/ k = 5:=by omega
 all_goals decide
theorem zGO {l : List D} (hl : l.length <= 64) (h0 : 0 < l.length) (h : ∀ i,i < l.length -> DefP (gD l i)) (hw : ∀ i,wideD (gD l i)) : ∀ (m j f : Nat) (n : Nat),j + m = l.length -> m < f ->
 ∃ n',sdocF f ((List.range j).map fun i => cDf (gD l i)) (pst (gK (fun i => zDp (gD l i)) j m ++ [endK5]) false n) = .ok (rgD cDf l,pst [endK5] false n')
 | _,_,0,_,_,hf => by omega
 | 0,j,f + 1,n,hj,_ => by
   have e : j = l.length:=by omega
   subst e
   unfold sdocF
   rw [zEs,zEV,List.nil_append,if_pos ⟨by omega,rfl⟩]
   exact ⟨n,rfl⟩
 | m + 1,j,f + 1,n,hj,hf => by
   have hj2 : j < l.length:=by omega
   have hd:=h j hj2
   have e : gK (fun i => zDp (gD l i)) j (m + 1) ++ [endK5] = (2,zBr ((gD l j).f 0).n) :: ((2,tx ((gD l j).f 1).s) :: (zBc ((gD l j).f 2).l ++ (rgK dirK ((gD l j).f 3).l ++ bodyK (gD l j))) ++ (gK (fun i => zDp (gD l i)) (j + 1) m ++ [endK5])):=by
    rw [zB4]; simp [zDp]
   have hend : nS (gK (fun i => zDp (gD l i)) (j + 1) m ++ [endK5]) [124]:=by
    cases m with
    | zero => exact zA4 rfl
    | succ m => rw [zB4]; exact zA4 rfl
   have hk:=word_kindS hd.kind
   obtain ⟨n1,e1⟩:=sdef_pst hd (hw j) hend n
   obtain ⟨n',ih⟩:=zGO hl h0 h hw m (j + 1) f n1 (by omega) (by omega)
   refine ⟨n',?_⟩
   unfold sdocF
   rw [zEs,e,zID]
   dsimp only
   rw [if_neg (fun q => absurd q.2 (by decide)),hk,if_neg (fun q => q ⟨rfl,by have:=hd.kind; omega⟩),if_neg (by omega),zBY (by decide),e1,zp]
   rw [List.range_succ,List.map_append] at ih
   exact ih
theorem zHo {l : List D} (hl : l.length <= 64) (h0 : 0 < l.length) (h : ∀ i,i < l.length -> DefP (gD l i)) (hw : ∀ i,wideD (gD l i)) : ∃ z,sdocQ ((sdocK l ++ [endK5]).map mkT) = .ok (rgD cDf l,z):=by
 have hlen:=zDH (fun i => zDp (gD l i)) (fun i => by simp [zDp]) l.length 0
 obtain ⟨n',e⟩:=zGO hl h0 h hw l.length 0 (((sdocK l ++ [endK5]).map mkT).length + 1) 0 (by omega) (by simp only [List.length_map,List.length_append,sdocK,rgK,List.length_cons,List.length_nil]; omega)
 exact ⟨_,e⟩
structure Psp (t : List UInt8) (k : KS) : Prop where
 pw : Pw t k
 bd : bnd t
theorem Psp.nil : Psp [] []:=⟨Ps.nil.w,zGC⟩
theorem Psp.sp {t : List UInt8} {k : KS} (h : Pw t k) : Psp (32 :: t) k:=⟨(Ps.sep (c:=32) rfl).appw h,zAz (by decide)⟩
theorem Psp.sg {c : UInt8} (h : zC8 c = true) : Psp [32,c] [(1,[c])]:=.sp (Ps.sign h).w
theorem Psp.app {a b : List UInt8} {ka kb : KS} (h : Psp a ka) (k : Psp b kb) : Psp (a ++ b) (ka ++ kb):=⟨h.pw.appw k.pw k.bd,fun c hc => by
 cases a with
 | nil => exact k.bd c hc
 | cons x y => exact h.bd c hc⟩
theorem Pw.spp {a b : List UInt8} {ka kb : KS} (h : Pw a ka) (k : Psp b kb) : Pw (a ++ b) (ka ++ kb):=h.appw k.pw k.bd
def flatN (f : Nat -> List UInt8) : Nat -> List UInt8
 | 0 => []
 | n + 1 => flatN f n ++ f n
theorem Psp.flat {f : Nat -> List UInt8} {g : Nat -> KS} : ∀ n,(∀ i,i < n -> Psp (f i) (g i)) -> Psp (flatN f n) (gK g 0 n)
 | 0,_ => .nil
 | n + 1,h => by
   rw [gK_last]
   exact (Psp.flat n fun i hi => h i (by omega)).app (h n (by omega))
def refS (d : D) : List UInt8:=refB (tx (d.f 0).s) (d.f 1).l
def sepS (a b : List UInt8) (nm : D -> D) (l : List D) : List UInt8:=flatN (fun i => (if i = 0 then a else b) ++ tx (nm (gD l i)).s) l.length
def facesS (l : List D) : List UInt8:=sepS ([32] ++ zF2 ++ [32]) [32,38,32] id l
def unionS (l : List D) : List UInt8:=sepS [32,61,32] [32,124,32] (fun x => x.f 0) l
theorem zCv (f : Nat -> List UInt8) : ∀ n,flatN f (n + 1) = f 0 ++ flatN (fun i => f (i + 1)) n
 | 0 => by simp [flatN]
 | n + 1 => by
   have:=zCv f n
   show flatN f (n + 1) ++ f (n + 1) = f 0 ++ (flatN (fun i => f (i + 1)) n ++ f (n + 1))
   rw [this,List.append_assoc]
theorem zGM {c : UInt8} (hc : zC8 c = true) {nm : D -> D} : ∀ (l : List D),(∀ i,i < l.length -> nameB (nm (gD l i)).s = true) -> Psp (flatN (fun i => [32,c,32] ++ tx (nm (gD l i)).s) l.length) ((l.map nm).flatMap fun x => [(1,[c]),(2,tx x.s)])
 | [],_ => .nil
 | x :: r,h => by
   have ih:=zGM hc r fun i hi => h (i + 1) (by simpa using hi)
   have h1:=((Psp.sg hc).app (Psp.sp (Pw.nm (h 0 (by simp))))).app ih
   rw [List.length_cons,zCv]
   exact h1
theorem sepK_eq (s : List UInt8) : ∀ (x : D) (r : List D),sepK s (x :: r) = (2,tx x.s) :: r.flatMap fun x => [(1,s),(2,tx x.s)]
 | x,[] => rfl
 | x,y :: r => by
   show (2,tx x.s) :: (1,s) :: sepK s (y :: r) = _
   rw [sepK_eq s y r]; rfl
theorem sepS_sp {a : List UInt8} {ka : KS} {c : UInt8} (ha : Psp a ka) (hc : zC8 c = true) {nm : D -> D} (l : List D) (h0 : l ≠ []) (h : ∀ i,i < l.length -> nameB (nm (gD l i)).s = true) :
 Psp (sepS (a ++ [32]) [32,c,32] nm l) (ka ++ sepK [c] (l.map nm)):=by
 cases l with
 | nil => exact (h0 rfl).elim
 | cons x r =>
   have h1:=(ha.app (Psp.sp (Pw.nm (h 0 (by simp))))).app (zGM hc r fun i hi => h (i + 1) (by simpa using hi))
   unfold sepS
   rw [List.length_cons,zCv,List.map_cons,sepK_eq]
   have e : ((if 0 = 0 then a ++ [32] else [32,c,32]) ++ tx (nm (gD (x :: r) 0)).s : List UInt8) = a ++ 32 :: tx (nm (gD (x :: r) 0)).s:=by simp
   rw [e]
   have e2 : (ka ++ ((2,tx (nm x).s) :: (r.map nm).flatMap fun x => [(1,[c]),(2,tx x.s)]) : KS) = (ka ++ [(2,tx (nm x).s)]) ++ (r.map nm).flatMap fun x => [(1,[c]),(2,tx x.s)]:=by simp
   rw [e2]
   exact h1
theorem facesS_sp (l : List D) (h : ∀ i,i < l.length -> nameB (gD l i).s = true) : Psp (facesS l) (zBc l):=by
 unfold zBc
 by_cases h0 : l.length = 0
 . rw [if_pos h0,List.eq_nil_of_length_eq_zero h0]; exact .nil
 . rw [if_neg h0]
   have h1:=sepS_sp (a:=[32] ++ zF2) (ka:=[(2,zF2)]) (c:=38) (Psp.sp (.name rfl)) rfl (nm:=id) l (fun e => h0 (by rw [e]; rfl)) h
   rw [List.map_id] at h1
   exact h1
theorem unionS_sp (l : List D) (h0 : l ≠ []) (h : ∀ i,i < l.length -> nameB ((gD l i).f 0).s = true) : Psp (unionS l) ((1,[61]) :: sepK [124] (l.map fun x => x.f 0)):=
 sepS_sp (a:=[32,61]) (ka:=[(1,[61])]) (c:=124) (Psp.sg (c:=61) rfl) rfl (nm:=fun x => x.f 0) l h0 h
theorem word_nameD {k : Int} : nameU (zBr k) = true:=by
 unfold zBr
 repeat' split
 all_goals rfl
theorem zDJ (f : Nat -> List UInt8) : ∀ n,(flatN f n).length = sumN (fun i => (f i).length) n
 | 0 => rfl
 | n + 1 => by
   show (flatN f n ++ f n).length = _
   rw [List.length_append,zDJ f n]; rfl
theorem flatN_mono (f : Nat -> List UInt8) {i n : Nat} (h : i <= n) : (flatN f i).length <= (flatN f n).length:=by
 rw [zDJ,zDJ]; exact zA5 _ h
theorem zB6 (f : Nat -> List UInt8) {i n : Nat} (h : i < n) : (flatN f i).length + (f i).length <= (flatN f n).length:=by
 have:=flatN_mono f (show i + 1 <= n from h)
 show _ <= (flatN f n).length
 have e : (flatN f (i + 1)).length = (flatN f i).length + (f i).length:=List.length_append
 omega
theorem zDx (n : List UInt8) : ∀ l : List D,(refB n l).length <= n.length + 2 * l.length
 | [] => by show n.length <= _; omega
 | d :: r => by
   have:=zDx n r
   unfold refB
   split
   . simp only [List.length_append,List.length_cons,List.length_nil]; omega
   . simp only [List.length_append,List.length_cons,List.length_nil]; omega
theorem zAe : ∀ l : List D,l.length <= bulkL l
 | [] => Nat.le_refl _
 | x :: r => by
   have:=zAe r
   have:=zA2 x
   simp only [bulkL,List.length_cons]; omega
theorem zHr (d : D) : (refS d).length <= 2 * wD d:=by
 have h:=zDx (tx (d.f 0).s) (d.f 1).l
 have h1:=zAd d 2
 simp only [sumN] at h1
 have h2:=zAv (d.f 0)
 have h3:=zAE (d.f 1)
 have h4:=zAe (d.f 1).l
 have h5:=zBL (d.f 0).s
 unfold refS
 omega
end Go.Proofs.YtdlnnlglmifceaaDoor
namespace Go.Proofs.YtdlnnlglmifceaaDoor
open Go.RowKit
set_option linter.unusedSectionVars false
attribute [local irreducible] wpList Calls Code.wp AW AWo OpOk seqK zAf zAj loopK endK AC zAH Yld Sub
attribute [local irreducible] ACB ACX YldG absLexH
def inEq7 (a b : D) : Bool:=sEq (a.f 0) (b.f 0) && (zDq (a.f 1) (b.f 1) && ((a.f 2).b == (b.f 2).b && (zEu (a.f 3) (b.f 3) && eqL dirEq (a.f 4).l (b.f 4).l)))
def fdEq7 (a b : D) : Bool:=sEq (a.f 0) (b.f 0) && (zDq (a.f 2) (b.f 2) && (eqL inEq7 (a.f 1).l (b.f 1).l && eqL dirEq (a.f 3).l (b.f 3).l))
def mbEq7 (a b : D) : Bool:=sEq (a.f 0) (b.f 0) && eqL dirEq (a.f 1).l (b.f 1).l
def dfEq7 (a b : D) : Bool:=((a.f 0).n == (b.f 0).n) && (sEq (a.f 1) (b.f 1) && (eqL sEq (a.f 2).l (b.f 2).l && (eqL dirEq (a.f 3).l (b.f 3).l && (eqL fdEq7 (a.f 4).l (b.f 4).l && (eqL inEq7 (a.f 6).l (b.f 6).l && eqL mbEq7 (a.f 5).l (b.f 5).l)))))
def zDT (a b : D) : Bool:=eqL dfEq7 (a.f 0).l (b.f 0).l
noncomputable def HGArg (l m : List D) (i : Nat) : Vst 32:=stS 32 [(1,.sl 67 m),(2,.c (.func (.func 29) #[] #[])),(15,.sl 67 l),(16,.c (.int .i64 (l.length : Nat))),(17,.c (.int .i64 (i : Int)))] []
theorem eqGArg_ac (l m : List D) (f : D -> D -> Bool) (hn : l.length <= 100000000) (hn2 : m.length <= 100000000) (hg : ∀ i,i < l.length -> i < m.length -> AC EN Tryd.prog 29 [.agg (cellsV Tryd.prog 12 67 (gD l i)),.agg (cellsV Tryd.prog 12 67 (gD m i))] (.c (.bool (f (gD l i) (gD m i))))) : AC EN Tryd.prog 28 [.sl 67 l,.sl 67 m,.c (.func (.func 29) #[] #[])] (.c (.bool (eqL f l m))):=by
 by_cases hne : l.length ≠ m.length
 . have f0 : ((l.length : Int) != (m.length : Int)) = true:=by rw [bne_iff_ne]; omega
   rw [zBd f0]
   refine zV 32 Tryd.func28 rfl rfl rfl rfl ?_
   intro s w he
   repeat' (first
|apply zG
 . conv => lhs; whnf
 . assumption
|refine zA ?_
|refine zI ?_
|refine zZ ?_
|apply aw_1
 conv => whnf
 refine ⟨?_,trivial⟩
|apply s_1
 conv => whnf; arg 1; arg 4; arg 3; whnf
 refine ⟨?_,?_⟩
|refine zK ?_
|refine zB ?_
|refine ⟨_,by conv => lhs; whnf; arg 2; whnf,?_⟩; conv => rhs; whnf
|exact trivial)
 have hlen : l.length = m.length:=by omega
 clear hne
 have f0 : ((l.length : Int) != (m.length : Int)) = false:=by rw [hlen]; simp
 refine zV 32 Tryd.func28 rfl rfl rfl rfl ?_
 intro s w he
 repeat' (first
|apply zF
 . conv => lhs; whnf
 . assumption
|refine zA ?_
|refine zI ?_
|refine zZ ?_
|apply aw_1
 conv => whnf
 refine ⟨?_,trivial⟩
|apply s_1
 conv => whnf; arg 1; arg 4; arg 3; whnf
 refine ⟨?_,?_⟩
|exact trivial)
 refine z7 (fun j st => ∃ i,i + j = l.length /\ (∀ q,q < i -> f (gD l q) (gD m q) = true) /\ Sub (cx EN Tryd.prog s w he) st (HGArg l m i)) l.length ⟨0,by omega,fun q hq => by omega,Sub.live ⟨rfl,rfl,rfl,rfl,rfl,trivial⟩ trivial⟩ ?_
 rintro j st ⟨i,hij,hall,hs2⟩
 refine zAA hs2 ?_
 clear hs2
 by_cases hi : i < l.length
 . have f1 : decide ((i : Int) < (l.length : Nat)) = true:=decide_eq_true (by omega)
   have him : i < m.length:=by omega
   have hc:=hg i hi him
   cases hf : f (gD l i) (gD m i) with
   | true =>
     rw [hf] at hc
     have f3 : (!true) = false:=rfl
     repeat' (first
|apply zG
 . conv => lhs; whnf
 . assumption
|apply zF
 . conv => lhs; whnf
 . assumption
|refine zA ?_
|refine zI ?_
|refine zZ ?_
|refine zW ?_
|apply aw_1
 conv => whnf
 refine ⟨?_,trivial⟩
|apply s_1
 conv => whnf; arg 1; arg 4; arg 3; whnf
 refine ⟨?_,?_⟩
|apply zk rfl
 . conv => lhs; whnf
 . conv => lhs; whnf
 . first | exact hc
|apply z8 rfl rfl rfl
 . conv => lhs; whnf
 . conv => lhs; whnf; arg 1; whnf
 . conv => lhs; whnf; arg 1; whnf
 . exact ⟨by kernel_rfl,by kernel_rfl⟩
 . rfl
|exact trivial)
     all_goals first
      | exact zu (by omega)
      | exact zx hi
      | exact zx him
      | (refine za (j':=j - 1) (by omega) ⟨i + 1,by omega,fun q hq => ?_,Sub.live ⟨rfl,rfl,rfl,rfl,rfl,trivial⟩ trivial⟩
         by_cases e : q = i
         . subst e; exact hf
         . exact hall q (by omega))
      | skip
   | false =>
     rw [hf] at hc
     have f3 : (!false) = true:=rfl
     rw [zAg hi hf]
     repeat' (first
|apply zG
 . conv => lhs; whnf
 . assumption
|refine zA ?_
|refine zI ?_
|refine zZ ?_
|apply aw_1
 conv => whnf
 refine ⟨?_,trivial⟩
|apply s_1
 conv => whnf; arg 1; arg 4; arg 3; whnf
 refine ⟨?_,?_⟩
|apply zk rfl
 . conv => lhs; whnf
 . conv => lhs; whnf
 . first | exact hc
|apply z8 rfl rfl rfl
 . conv => lhs; whnf
 . conv => lhs; whnf; arg 1; whnf
 . conv => lhs; whnf; arg 1; whnf
 . exact ⟨by kernel_rfl,by kernel_rfl⟩
 . rfl
|refine zK ?_
|refine zH ?_
|refine zN ?_
|refine zB ?_
|refine ⟨_,by conv => lhs; whnf; arg 2; whnf,?_⟩; conv => rhs; whnf
|exact trivial)
     all_goals first
      | exact zu (by omega)
      | exact zx hi
      | exact zx him
      | skip
 . have f1 : decide ((i : Int) < (l.length : Nat)) = false:=decide_eq_false (by omega)
   rw [zA1 hlen fun q hq => hall q (by omega)]
   repeat' (first
|apply zF
 . conv => lhs; whnf
 . assumption
|refine zA ?_
|refine zI ?_
|refine zZ ?_
|apply aw_1
 conv => whnf
 refine ⟨?_,trivial⟩
|apply s_1
 conv => whnf; arg 1; arg 4; arg 3; whnf
 refine ⟨?_,?_⟩
|refine zJ ?_
|refine zE rfl ?_
|refine zC ?_
|refine zB ?_
|refine ⟨_,by conv => lhs; whnf; arg 2; whnf,?_⟩; conv => rhs; whnf
|exact trivial)
noncomputable def HGDir (l m : List D) (i : Nat) : Vst 32:=stS 32 [(1,.sl 64 m),(2,.c (.func (.func 27) #[] #[])),(15,.sl 64 l),(16,.c (.int .i64 (l.length : Nat))),(17,.c (.int .i64 (i : Int)))] []
theorem eqGDir_ac (l m : List D) (f : D -> D -> Bool) (hn : l.length <= 100000000) (hn2 : m.length <= 100000000) (hg : ∀ i,i < l.length -> i < m.length -> AC EN Tryd.prog 27 [.agg (cellsV Tryd.prog 12 64 (gD l i)),.agg (cellsV Tryd.prog 12 64 (gD m i))] (.c (.bool (f (gD l i) (gD m i))))) : AC EN Tryd.prog 26 [.sl 64 l,.sl 64 m,.c (.func (.func 27) #[] #[])] (.c (.bool (eqL f l m))):=by
 by_cases hne : l.length ≠ m.length
 . have f0 : ((l.length : Int) != (m.length : Int)) = true:=by rw [bne_iff_ne]; omega
   rw [zBd f0]
   refine zV 32 Tryd.func26 rfl rfl rfl rfl ?_
   intro s w he
   repeat' (first
|apply zG
 . conv => lhs; whnf
 . assumption
|refine zA ?_
|refine zI ?_
|refine zZ ?_
|apply aw_1
 conv => whnf
 refine ⟨?_,trivial⟩
|apply s_1
 conv => whnf; arg 1; arg 4; arg 3; whnf
 refine ⟨?_,?_⟩
|refine zK ?_
|refine zB ?_
|refine ⟨_,by conv => lhs; whnf; arg 2; whnf,?_⟩; conv => rhs; whnf
|exact trivial)
 have hlen : l.length = m.length:=by omega
 clear hne
 have f0 : ((l.length : Int) != (m.length : Int)) = false:=by rw [hlen]; simp
 refine zV 32 Tryd.func26 rfl rfl rfl rfl ?_
 intro s w he
 repeat' (first
|apply zF
 . conv => lhs; whnf
 . assumption
|refine zA ?_
|refine zI ?_
|refine zZ ?_
|apply aw_1
 conv => whnf
 refine ⟨?_,trivial⟩
|apply s_1
 conv => whnf; arg 1; arg 4; arg 3; whnf
 refine ⟨?_,?_⟩
|exact trivial)
 refine z7 (fun j st => ∃ i,i + j = l.length /\ (∀ q,q < i -> f (gD l q) (gD m q) = true) /\ Sub (cx EN Tryd.prog s w he) st (HGDir l m i)) l.length ⟨0,by omega,fun q hq => by omega,Sub.live ⟨rfl,rfl,rfl,rfl,rfl,trivial⟩ trivial⟩ ?_
 rintro j st ⟨i,hij,hall,hs2⟩
 refine zAA hs2 ?_
 clear hs2
 by_cases hi : i < l.length
 . have f1 : decide ((i : Int) < (l.length : Nat)) = true:=decide_eq_true (by omega)
   have him : i < m.length:=by omega
   have hc:=hg i hi him
   cases hf : f (gD l i) (gD m i) with
   | true =>
     rw [hf] at hc
     have f3 : (!true) = false:=rfl
     repeat' (first
|apply zG
 . conv => lhs; whnf
 . assumption
|apply zF
 . conv => lhs; whnf
 . assumption
|refine zA ?_
|refine zI ?_
|refine zZ ?_
|refine zW ?_
|apply aw_1
 conv => whnf
 refine ⟨?_,trivial⟩
|apply s_1
 conv => whnf; arg 1; arg 4; arg 3; whnf
 refine ⟨?_,?_⟩
|apply zk rfl
 . conv => lhs; whnf
 . conv => lhs; whnf
 . first | exact hc
|apply z8 rfl rfl rfl
 . conv => lhs; whnf
 . conv => lhs; whnf; arg 1; whnf
 . conv => lhs; whnf; arg 1; whnf
 . exact ⟨by kernel_rfl,by kernel_rfl⟩
 . rfl
|exact trivial)
     all_goals first
      | exact zu (by omega)
      | exact zx hi
      | exact zx him
      | (refine za (j':=j - 1) (by omega) ⟨i + 1,by omega,fun q hq => ?_,Sub.live ⟨rfl,rfl,rfl,rfl,rfl,trivial⟩ trivial⟩
         by_cases e : q = i
         . subst e; exact hf
         . exact hall q (by omega))
      | skip
   | false =>
     rw [hf] at hc
     have f3 : (!false) = true:=rfl
     rw [zAg hi hf]
     repeat' (first
|apply zG
 . conv => lhs; whnf
 . assumption
|refine zA ?_
|refine zI ?_
|refine zZ ?_
|apply aw_1
 conv => whnf
 refine ⟨?_,trivial⟩
|apply s_1
 conv => whnf; arg 1; arg 4; arg 3; whnf
 refine ⟨?_,?_⟩
|apply zk rfl
 . conv => lhs; whnf
 . conv => lhs; whnf
 . first | exact hc
|apply z8 rfl rfl rfl
 . conv => lhs; whnf
 . conv => lhs; whnf; arg 1; whnf
 . conv => lhs; whnf; arg 1; whnf
 . exact ⟨by kernel_rfl,by kernel_rfl⟩
 . rfl
|refine zK ?_
|refine zH ?_
|refine zN ?_
|refine zB ?_
|refine ⟨_,by conv => lhs; whnf; arg 2; whnf,?_⟩; conv => rhs; whnf
|exact trivial)
     all_goals first
      | exact zu (by omega)
      | exact zx hi
      | exact zx him
      | skip
 . have f1 : decide ((i : Int) < (l.length : Nat)) = false:=decide_eq_false (by omega)
   rw [zA1 hlen fun q hq => hall q (by omega)]
   repeat' (first
|apply zF
 . conv => lhs; whnf
 . assumption
|refine zA ?_
|refine zI ?_
|refine zZ ?_
|apply aw_1
 conv => whnf
 refine ⟨?_,trivial⟩
|apply s_1
 conv => whnf; arg 1; arg 4; arg 3; whnf
 refine ⟨?_,?_⟩
|refine zJ ?_
|refine zE rfl ?_
|refine zC ?_
|refine zB ?_
|refine ⟨_,by conv => lhs; whnf; arg 2; whnf,?_⟩; conv => rhs; whnf
|exact trivial)
noncomputable def HGInput (l m : List D) (i : Nat) : Vst 32:=stS 32 [(1,.sl 76 m),(2,.c (.func (.func 35) #[] #[])),(15,.sl 76 l),(16,.c (.int .i64 (l.length : Nat))),(17,.c (.int .i64 (i : Int)))] []
theorem zHW (l m : List D) (f : D -> D -> Bool) (hn : l.length <= 100000000) (hn2 : m.length <= 100000000) (hg : ∀ i,i < l.length -> i < m.length -> AC EN Tryd.prog 35 [.agg (cellsV Tryd.prog 12 76 (gD l i)),.agg (cellsV Tryd.prog 12 76 (gD m i))] (.c (.bool (f (gD l i) (gD m i))))) : AC EN Tryd.prog 34 [.sl 76 l,.sl 76 m,.c (.func (.func 35) #[] #[])] (.c (.bool (eqL f l m))):=by
 by_cases hne : l.length ≠ m.length
 . have f0 : ((l.length : Int) != (m.length : Int)) = true:=by rw [bne_iff_ne]; omega
   rw [zBd f0]
   refine zV 32 Tryd.func34 rfl rfl rfl rfl ?_
   intro s w he
   repeat' (first
|apply zG
 . conv => lhs; whnf
 . assumption
|refine zA ?_
|refine zI ?_
|refine zZ ?_
|apply aw_1
 conv => whnf
 refine ⟨?_,trivial⟩
|apply s_1
 conv => whnf; arg 1; arg 4; arg 3; whnf
 refine ⟨?_,?_⟩
|refine zK ?_
|refine zB ?_
|refine ⟨_,by conv => lhs; whnf; arg 2; whnf,?_⟩; conv => rhs; whnf
|exact trivial)
 have hlen : l.length = m.length:=by omega
 clear hne
 have f0 : ((l.length : Int) != (m.length : Int)) = false:=by rw [hlen]; simp
 refine zV 32 Tryd.func34 rfl rfl rfl rfl ?_
 intro s w he
 repeat' (first
|apply zF
 . conv => lhs; whnf
 . assumption
|refine zA ?_
|refine zI ?_
|refine zZ ?_
|apply aw_1
 conv => whnf
 refine ⟨?_,trivial⟩
|apply s_1
 conv => whnf; arg 1; arg 4; arg 3; whnf
 refine ⟨?_,?_⟩
|exact trivial)
 refine z7 (fun j st => ∃ i,i + j = l.length /\ (∀ q,q < i -> f (gD l q) (gD m q) = true) /\ Sub (cx EN Tryd.prog s w he) st (HGInput l m i)) l.length ⟨0,by omega,fun q hq => by omega,Sub.live ⟨rfl,rfl,rfl,rfl,rfl,trivial⟩ trivial⟩ ?_
 rintro j st ⟨i,hij,hall,hs2⟩
 refine zAA hs2 ?_
 clear hs2
 by_cases hi : i < l.length
 . have f1 : decide ((i : Int) < (l.length : Nat)) = true:=decide_eq_true (by omega)
   have him : i < m.length:=by omega
   have hc:=hg i hi him
   cases hf : f (gD l i) (gD m i) with
   | true =>
     rw [hf] at hc
     have f3 : (!true) = false:=rfl
     repeat' (first
|apply zG
 . conv => lhs; whnf
 . assumption
|apply zF
 . conv => lhs; whnf
 . assumption
|refine zA ?_
|refine zI ?_
|refine zZ ?_
|refine zW ?_
|apply aw_1
 conv => whnf
 refine ⟨?_,trivial⟩
|apply s_1
 conv => whnf; arg 1; arg 4; arg 3; whnf
 refine ⟨?_,?_⟩
|apply zk rfl
 . conv => lhs; whnf
 . conv => lhs; whnf
 . first | exact hc
|apply z8 rfl rfl rfl
 . conv => lhs; whnf
 . conv => lhs; whnf; arg 1; whnf
 . conv => lhs; whnf; arg 1; whnf
 . exact ⟨by kernel_rfl,by kernel_rfl⟩
 . rfl
|exact trivial)
     all_goals first
      | exact zu (by omega)
      | exact zx hi
      | exact zx him
      | (refine za (j':=j - 1) (by omega) ⟨i + 1,by omega,fun q hq => ?_,Sub.live ⟨rfl,rfl,rfl,rfl,rfl,trivial⟩ trivial⟩
         by_cases e : q = i
         . subst e; exact hf
         . exact hall q (by omega))
      | skip
   | false =>
     rw [hf] at hc
     have f3 : (!false) = true:=rfl
     rw [zAg hi hf]
     repeat' (first
|apply zG
 . conv => lhs; whnf
 . assumption
|refine zA ?_
|refine zI ?_
|refine zZ ?_
|apply aw_1
 conv => whnf
 refine ⟨?_,trivial⟩
|apply s_1
 conv => whnf; arg 1; arg 4; arg 3; whnf
 refine ⟨?_,?_⟩
|apply zk rfl
 . conv => lhs; whnf
 . conv => lhs; whnf
 . first | exact hc
|apply z8 rfl rfl rfl
 . conv => lhs; whnf
 . conv => lhs; whnf; arg 1; whnf
 . conv => lhs; whnf; arg 1; whnf
 . exact ⟨by kernel_rfl,by kernel_rfl⟩
 . rfl
|refine zK ?_
|refine zH ?_
|refine zN ?_
|refine zB ?_
|refine ⟨_,by conv => lhs; whnf; arg 2; whnf,?_⟩; conv => rhs; whnf
|exact trivial)
     all_goals first
      | exact zu (by omega)
      | exact zx hi
      | exact zx him
      | skip
 . have f1 : decide ((i : Int) < (l.length : Nat)) = false:=decide_eq_false (by omega)
   rw [zA1 hlen fun q hq => hall q (by omega)]
   repeat' (first
|apply zF
 . conv => lhs; whnf
 . assumption
|refine zA ?_
|refine zI ?_
|refine zZ ?_
|apply aw_1
 conv => whnf
 refine ⟨?_,trivial⟩
|apply s_1
 conv => whnf; arg 1; arg 4; arg 3; whnf
 refine ⟨?_,?_⟩
|refine zJ ?_
|refine zE rfl ?_
|refine zC ?_
|refine zB ?_
|refine ⟨_,by conv => lhs; whnf; arg 2; whnf,?_⟩; conv => rhs; whnf
|exact trivial)
noncomputable def HGMember (l m : List D) (i : Nat) : Vst 32:=stS 32 [(1,.sl 53 m),(2,.c (.func (.func 19) #[] #[])),(15,.sl 53 l),(16,.c (.int .i64 (l.length : Nat))),(17,.c (.int .i64 (i : Int)))] []
theorem zGo (l m : List D) (f : D -> D -> Bool) (hn : l.length <= 100000000) (hn2 : m.length <= 100000000) (hg : ∀ i,i < l.length -> i < m.length -> AC EN Tryd.prog 19 [.agg (cellsV Tryd.prog 12 53 (gD l i)),.agg (cellsV Tryd.prog 12 53 (gD m i))] (.c (.bool (f (gD l i) (gD m i))))) : AC EN Tryd.prog 18 [.sl 53 l,.sl 53 m,.c (.func (.func 19) #[] #[])] (.c (.bool (eqL f l m))):=by
 by_cases hne : l.length ≠ m.length
 . have f0 : ((l.length : Int) != (m.length : Int)) = true:=by rw [bne_iff_ne]; omega
   rw [zBd f0]
   refine zV 32 Tryd.func18 rfl rfl rfl rfl ?_
   intro s w he
   repeat' (first
|apply zG
 . conv => lhs; whnf
 . assumption
|refine zA ?_
|refine zI ?_
|refine zZ ?_
|apply aw_1
 conv => whnf
 refine ⟨?_,trivial⟩
|apply s_1
 conv => whnf; arg 1; arg 4; arg 3; whnf
 refine ⟨?_,?_⟩
|refine zK ?_
|refine zB ?_
|refine ⟨_,by conv => lhs; whnf; arg 2; whnf,?_⟩; conv => rhs; whnf
|exact trivial)
 have hlen : l.length = m.length:=by omega
 clear hne
 have f0 : ((l.length : Int) != (m.length : Int)) = false:=by rw [hlen]; simp
 refine zV 32 Tryd.func18 rfl rfl rfl rfl ?_
 intro s w he
 repeat' (first
|apply zF
 . conv => lhs; whnf
 . assumption
|refine zA ?_
|refine zI ?_
|refine zZ ?_
|apply aw_1
 conv => whnf
 refine ⟨?_,trivial⟩
|apply s_1
 conv => whnf; arg 1; arg 4; arg 3; whnf
 refine ⟨?_,?_⟩
|exact trivial)
 refine z7 (fun j st => ∃ i,i + j = l.length /\ (∀ q,q < i -> f (gD l q) (gD m q) = true) /\ Sub (cx EN Tryd.prog s w he) st (HGMember l m i)) l.length ⟨0,by omega,fun q hq => by omega,Sub.live ⟨rfl,rfl,rfl,rfl,rfl,trivial⟩ trivial⟩ ?_
 rintro j st ⟨i,hij,hall,hs2⟩
 refine zAA hs2 ?_
 clear hs2
 by_cases hi : i < l.length
 . have f1 : decide ((i : Int) < (l.length : Nat)) = true:=decide_eq_true (by omega)
   have him : i < m.length:=by omega
   have hc:=hg i hi him
   cases hf : f (gD l i) (gD m i) with
   | true =>
     rw [hf] at hc
     have f3 : (!true) = false:=rfl
     repeat' (first
|apply zG
 . conv => lhs; whnf
 . assumption
|apply zF
 . conv => lhs; whnf
 . assumption
|refine zA ?_
|refine zI ?_
|refine zZ ?_
|refine zW ?_
|apply aw_1
 conv => whnf
 refine ⟨?_,trivial⟩
|apply s_1
 conv => whnf; arg 1; arg 4; arg 3; whnf
 refine ⟨?_,?_⟩
|apply zk rfl
 . conv => lhs; whnf
 . conv => lhs; whnf
 . first | exact hc
|apply z8 rfl rfl rfl
 . conv => lhs; whnf
 . conv => lhs; whnf; arg 1; whnf
 . conv => lhs; whnf; arg 1; whnf
 . exact ⟨by kernel_rfl,by kernel_rfl⟩
 . rfl
|exact trivial)
     all_goals first
      | exact zu (by omega)
      | exact zx hi
      | exact zx him
      | (refine za (j':=j - 1) (by omega) ⟨i + 1,by omega,fun q hq => ?_,Sub.live ⟨rfl,rfl,rfl,rfl,rfl,trivial⟩ trivial⟩
         by_cases e : q = i
         . subst e; exact hf
         . exact hall q (by omega))
      | skip
   | false =>
     rw [hf] at hc
     have f3 : (!false) = true:=rfl
     rw [zAg hi hf]
     repeat' (first
|apply zG
 . conv => lhs; whnf
 . assumption
|refine zA ?_
|refine zI ?_
|refine zZ ?_
|apply aw_1
 conv => whnf
 refine ⟨?_,trivial⟩
|apply s_1
 conv => whnf; arg 1; arg 4; arg 3; whnf
 refine ⟨?_,?_⟩
|apply zk rfl
 . conv => lhs; whnf
 . conv => lhs; whnf
 . first | exact hc
|apply z8 rfl rfl rfl
 . conv => lhs; whnf
 . conv => lhs; whnf; arg 1; whnf
 . conv => lhs; whnf; arg 1; whnf
 . exact ⟨by kernel_rfl,by kernel_rfl⟩
 . rfl
|refine zK ?_
|refine zH ?_
|refine zN ?_
|refine zB ?_
|refine ⟨_,by conv => lhs; whnf; arg 2; whnf,?_⟩; conv => rhs; whnf
|exact trivial)
     all_goals first
      | exact zu (by omega)
      | exact zx hi
      | exact zx him
      | skip
 . have f1 : decide ((i : Int) < (l.length : Nat)) = false:=decide_eq_false (by omega)
   rw [zA1 hlen fun q hq => hall q (by omega)]
   repeat' (first
|apply zF
 . conv => lhs; whnf
 . assumption
|refine zA ?_
|refine zI ?_
|refine zZ ?_
|apply aw_1
 conv => whnf
 refine ⟨?_,trivial⟩
|apply s_1
 conv => whnf; arg 1; arg 4; arg 3; whnf
 refine ⟨?_,?_⟩
|refine zJ ?_
|refine zE rfl ?_
|refine zC ?_
|refine zB ?_
|refine ⟨_,by conv => lhs; whnf; arg 2; whnf,?_⟩; conv => rhs; whnf
|exact trivial)
noncomputable def HGField (l m : List D) (i : Nat) : Vst 32:=stS 32 [(1,.sl 40 m),(2,.c (.func (.func 32) #[] #[])),(15,.sl 40 l),(16,.c (.int .i64 (l.length : Nat))),(17,.c (.int .i64 (i : Int)))] []
theorem zHX (l m : List D) (f : D -> D -> Bool) (hn : l.length <= 100000000) (hn2 : m.length <= 100000000) (hg : ∀ i,i < l.length -> i < m.length -> AC EN Tryd.prog 32 [.agg (cellsV Tryd.prog 12 40 (gD l i)),.agg (cellsV Tryd.prog 12 40 (gD m i))] (.c (.bool (f (gD l i) (gD m i))))) : AC EN Tryd.prog 31 [.sl 40 l,.sl 40 m,.c (.func (.func 32) #[] #[])] (.c (.bool (eqL f l m))):=by
 by_cases hne : l.length ≠ m.length
 . have f0 : ((l.length : Int) != (m.length : Int)) = true:=by rw [bne_iff_ne]; omega
   rw [zBd f0]
   refine zV 32 Tryd.func31 rfl rfl rfl rfl ?_
   intro s w he
   repeat' (first
|apply zG
 . conv => lhs; whnf
 . assumption
|refine zA ?_
|refine zI ?_
|refine zZ ?_
|apply aw_1
 conv => whnf
 refine ⟨?_,trivial⟩
|apply s_1
 conv => whnf; arg 1; arg 4; arg 3; whnf
 refine ⟨?_,?_⟩
|refine zK ?_
|refine zB ?_
|refine ⟨_,by conv => lhs; whnf; arg 2; whnf,?_⟩; conv => rhs; whnf
|exact trivial)
 have hlen : l.length = m.length:=by omega
 clear hne
 have f0 : ((l.length : Int) != (m.length : Int)) = false:=by rw [hlen]; simp
 refine zV 32 Tryd.func31 rfl rfl rfl rfl ?_
 intro s w he
 repeat' (first
|apply zF
 . conv => lhs; whnf
 . assumption
|refine zA ?_
|refine zI ?_
|refine zZ ?_
|apply aw_1
 conv => whnf
 refine ⟨?_,trivial⟩
|apply s_1
 conv => whnf; arg 1; arg 4; arg 3; whnf
 refine ⟨?_,?_⟩
|exact trivial)
 refine z7 (fun j st => ∃ i,i + j = l.length /\ (∀ q,q < i -> f (gD l q) (gD m q) = true) /\ Sub (cx EN Tryd.prog s w he) st (HGField l m i)) l.length ⟨0,by omega,fun q hq => by omega,Sub.live ⟨rfl,rfl,rfl,rfl,rfl,trivial⟩ trivial⟩ ?_
 rintro j st ⟨i,hij,hall,hs2⟩
 refine zAA hs2 ?_
 clear hs2
 by_cases hi : i < l.length
 . have f1 : decide ((i : Int) < (l.length : Nat)) = true:=decide_eq_true (by omega)
   have him : i < m.length:=by omega
   have hc:=hg i hi him
   cases hf : f (gD l i) (gD m i) with
   | true =>
     rw [hf] at hc
     have f3 : (!true) = false:=rfl
     repeat' (first
|apply zG
 . conv => lhs; whnf
 . assumption
|apply zF
 . conv => lhs; whnf
 . assumption
|refine zA ?_
|refine zI ?_
|refine zZ ?_
|refine zW ?_
|apply aw_1
 conv => whnf
 refine ⟨?_,trivial⟩
|apply s_1
 conv => whnf; arg 1; arg 4; arg 3; whnf
 refine ⟨?_,?_⟩
|apply zk rfl
 . conv => lhs; whnf
 . conv => lhs; whnf
 . first | exact hc
|apply z8 rfl rfl rfl
 . conv => lhs; whnf
 . conv => lhs; whnf; arg 1; whnf
 . conv => lhs; whnf; arg 1; whnf
 . exact ⟨by kernel_rfl,by kernel_rfl⟩
 . rfl
|exact trivial)
     all_goals first
      | exact zu (by omega)
      | exact zx hi
      | exact zx him
      | (refine za (j':=j - 1) (by omega) ⟨i + 1,by omega,fun q hq => ?_,Sub.live ⟨rfl,rfl,rfl,rfl,rfl,trivial⟩ trivial⟩
         by_cases e : q = i
         . subst e; exact hf
         . exact hall q (by omega))
      | skip
   | false =>
     rw [hf] at hc
     have f3 : (!false) = true:=rfl
     rw [zAg hi hf]
     repeat' (first
|apply zG
 . conv => lhs; whnf
 . assumption
|refine zA ?_
|refine zI ?_
|refine zZ ?_
|apply aw_1
 conv => whnf
 refine ⟨?_,trivial⟩
|apply s_1
 conv => whnf; arg 1; arg 4; arg 3; whnf
 refine ⟨?_,?_⟩
|apply zk rfl
 . conv => lhs; whnf
 . conv => lhs; whnf
 . first | exact hc
|apply z8 rfl rfl rfl
 . conv => lhs; whnf
 . conv => lhs; whnf; arg 1; whnf
 . conv => lhs; whnf; arg 1; whnf
 . exact ⟨by kernel_rfl,by kernel_rfl⟩
 . rfl
|refine zK ?_
|refine zH ?_
|refine zN ?_
|refine zB ?_
|refine ⟨_,by conv => lhs; whnf; arg 2; whnf,?_⟩; conv => rhs; whnf
|exact trivial)
     all_goals first
      | exact zu (by omega)
      | exact zx hi
      | exact zx him
      | skip
 . have f1 : decide ((i : Int) < (l.length : Nat)) = false:=decide_eq_false (by omega)
   rw [zA1 hlen fun q hq => hall q (by omega)]
   repeat' (first
|apply zF
 . conv => lhs; whnf
 . assumption
|refine zA ?_
|refine zI ?_
|refine zZ ?_
|apply aw_1
 conv => whnf
 refine ⟨?_,trivial⟩
|apply s_1
 conv => whnf; arg 1; arg 4; arg 3; whnf
 refine ⟨?_,?_⟩
|refine zJ ?_
|refine zE rfl ?_
|refine zC ?_
|refine zB ?_
|refine ⟨_,by conv => lhs; whnf; arg 2; whnf,?_⟩; conv => rhs; whnf
|exact trivial)
noncomputable def HGDef (l m : List D) (i : Nat) : Vst 32:=stS 32 [(1,.sl 35 m),(2,.c (.func (.func 13) #[] #[])),(15,.sl 35 l),(16,.c (.int .i64 (l.length : Nat))),(17,.c (.int .i64 (i : Int)))] []
theorem eqGDef_ac (l m : List D) (f : D -> D -> Bool) (hn : l.length <= 100000000) (hn2 : m.length <= 100000000) (hg : ∀ i,i < l.length -> i < m.length -> AC EN Tryd.prog 13 [.agg (cellsV Tryd.prog 12 35 (gD l i)),.agg (cellsV Tryd.prog 12 35 (gD m i))] (.c (.bool (f (gD l i) (gD m i))))) : AC EN Tryd.prog 12 [.sl 35 l,.sl 35 m,.c (.func (.func 13) #[] #[])] (.c (.bool (eqL f l m))):=by
 by_cases hne : l.length ≠ m.length
 . have f0 : ((l.length : Int) != (m.length : Int)) = true:=by rw [bne_iff_ne]; omega
   rw [zBd f0]
   refine zV 32 Tryd.func12 rfl rfl rfl rfl ?_
   intro s w he
   repeat' (first
|apply zG
 . conv => lhs; whnf
 . assumption
|refine zA ?_
|refine zI ?_
|refine zZ ?_
|apply aw_1
 conv => whnf
 refine ⟨?_,trivial⟩
|apply s_1
 conv => whnf; arg 1; arg 4; arg 3; whnf
 refine ⟨?_,?_⟩
|refine zK ?_
|refine zB ?_
|refine ⟨_,by conv => lhs; whnf; arg 2; whnf,?_⟩; conv => rhs; whnf
|exact trivial)
 have hlen : l.length = m.length:=by omega
 clear hne
 have f0 : ((l.length : Int) != (m.length : Int)) = false:=by rw [hlen]; simp
 refine zV 32 Tryd.func12 rfl rfl rfl rfl ?_
 intro s w he
 repeat' (first
|apply zF
 . conv => lhs; whnf
 . assumption
|refine zA ?_
|refine zI ?_
|refine zZ ?_
|apply aw_1
 conv => whnf
 refine ⟨?_,trivial⟩
|apply s_1
 conv => whnf; arg 1; arg 4; arg 3; whnf
 refine ⟨?_,?_⟩
|exact trivial)
 refine z7 (fun j st => ∃ i,i + j = l.length /\ (∀ q,q < i -> f (gD l q) (gD m q) = true) /\ Sub (cx EN Tryd.prog s w he) st (HGDef l m i)) l.length ⟨0,by omega,fun q hq => by omega,Sub.live ⟨rfl,rfl,rfl,rfl,rfl,trivial⟩ trivial⟩ ?_
 rintro j st ⟨i,hij,hall,hs2⟩
 refine zAA hs2 ?_
 clear hs2
 by_cases hi : i < l.length
 . have f1 : decide ((i : Int) < (l.length : Nat)) = true:=decide_eq_true (by omega)
   have him : i < m.length:=by omega
   have hc:=hg i hi him
   cases hf : f (gD l i) (gD m i) with
   | true =>
     rw [hf] at hc
     have f3 : (!true) = false:=rfl
     repeat' (first
|apply zG
 . conv => lhs; whnf
 . assumption
|apply zF
 . conv => lhs; whnf
 . assumption
|refine zA ?_
|refine zI ?_
|refine zZ ?_
|refine zW ?_
|apply aw_1
 conv => whnf
 refine ⟨?_,trivial⟩
|apply s_1
 conv => whnf; arg 1; arg 4; arg 3; whnf
 refine ⟨?_,?_⟩
|apply zk rfl
 . conv => lhs; whnf
 . conv => lhs; whnf
 . first | exact hc
|apply z8 rfl rfl rfl
 . conv => lhs; whnf
 . conv => lhs; whnf; arg 1; whnf
 . conv => lhs; whnf; arg 1; whnf
 . exact ⟨by kernel_rfl,by kernel_rfl⟩
 . rfl
|exact trivial)
     all_goals first
      | exact zu (by omega)
      | exact zx hi
      | exact zx him
      | (refine za (j':=j - 1) (by omega) ⟨i + 1,by omega,fun q hq => ?_,Sub.live ⟨rfl,rfl,rfl,rfl,rfl,trivial⟩ trivial⟩
         by_cases e : q = i
         . subst e; exact hf
         . exact hall q (by omega))
      | skip
   | false =>
     rw [hf] at hc
     have f3 : (!false) = true:=rfl
     rw [zAg hi hf]
     repeat' (first
|apply zG
 . conv => lhs; whnf
 . assumption
|refine zA ?_
|refine zI ?_
|refine zZ ?_
|apply aw_1
 conv => whnf
 refine ⟨?_,trivial⟩
|apply s_1
 conv => whnf; arg 1; arg 4; arg 3; whnf
 refine ⟨?_,?_⟩
|apply zk rfl
 . conv => lhs; whnf
 . conv => lhs; whnf
 . first | exact hc
|apply z8 rfl rfl rfl
 . conv => lhs; whnf
 . conv => lhs; whnf; arg 1; whnf
 . conv => lhs; whnf; arg 1; whnf
 . exact ⟨by kernel_rfl,by kernel_rfl⟩
 . rfl
|refine zK ?_
|refine zH ?_
|refine zN ?_
|refine zB ?_
|refine ⟨_,by conv => lhs; whnf; arg 2; whnf,?_⟩; conv => rhs; whnf
|exact trivial)
     all_goals first
      | exact zu (by omega)
      | exact zx hi
      | exact zx him
      | skip
 . have f1 : decide ((i : Int) < (l.length : Nat)) = false:=decide_eq_false (by omega)
   rw [zA1 hlen fun q hq => hall q (by omega)]
   repeat' (first
|apply zF
 . conv => lhs; whnf
 . assumption
|refine zA ?_
|refine zI ?_
|refine zZ ?_
|apply aw_1
 conv => whnf
 refine ⟨?_,trivial⟩
|apply s_1
 conv => whnf; arg 1; arg 4; arg 3; whnf
 refine ⟨?_,?_⟩
|refine zJ ?_
|refine zE rfl ?_
|refine zC ?_
|refine zB ?_
|refine ⟨_,by conv => lhs; whnf; arg 2; whnf,?_⟩; conv => rhs; whnf
|exact trivial)
noncomputable def HGStr (l m : List D) (i : Nat) : Vst 26:=stS 26 [(0,.sl 9 l),(1,.sl 9 m),(11,.sl 9 l),(12,.c (.int .i64 (l.length : Nat))),(13,.c (.int .i64 (i : Int)))] []
theorem eqGStr_ac (l m : List D) (hn : l.length <= 100000000) (hn2 : m.length <= 100000000) : AC EN Tryd.prog 14 [.sl 9 l,.sl 9 m] (.c (.bool (eqL sEq l m))):=by
 by_cases hne : l.length ≠ m.length
 . have f0 : ((l.length : Int) != (m.length : Int)) = true:=by rw [bne_iff_ne]; omega
   rw [zBd f0]
   refine zV 26 Tryd.func14 rfl rfl rfl rfl ?_
   intro s w he
   repeat' (first
|apply zG
 . conv => lhs; whnf
 . assumption
|refine zA ?_
|refine zI ?_
|refine zZ ?_
|apply aw_1
 conv => whnf
 refine ⟨?_,trivial⟩
|apply s_1
 conv => whnf; arg 1; arg 4; arg 3; whnf
 refine ⟨?_,?_⟩
|refine zK ?_
|refine zB ?_
|refine ⟨_,by conv => lhs; whnf; arg 2; whnf,?_⟩; conv => rhs; whnf
|exact trivial)
 have hlen : l.length = m.length:=by omega
 clear hne
 have f0 : ((l.length : Int) != (m.length : Int)) = false:=by rw [hlen]; simp
 refine zV 26 Tryd.func14 rfl rfl rfl rfl ?_
 intro s w he
 repeat' (first
|apply zF
 . conv => lhs; whnf
 . assumption
|refine zA ?_
|refine zI ?_
|refine zZ ?_
|apply aw_1
 conv => whnf
 refine ⟨?_,trivial⟩
|apply s_1
 conv => whnf; arg 1; arg 4; arg 3; whnf
 refine ⟨?_,?_⟩
|exact trivial)
 refine z7 (fun j st => ∃ i,i + j = l.length /\ (∀ q,q < i -> sEq (gD l q) (gD m q) = true) /\ Sub (cx EN Tryd.prog s w he) st (HGStr l m i)) l.length ⟨0,by omega,fun q hq => by omega,Sub.live ⟨rfl,rfl,rfl,rfl,rfl,trivial⟩ trivial⟩ ?_
 rintro j st ⟨i,hij,hall,hs2⟩
 refine zAA hs2 ?_
 clear hs2
 by_cases hi : i < l.length
 . have f1 : decide ((i : Int) < (l.length : Nat)) = true:=decide_eq_true (by omega)
   have him : i < m.length:=by omega
   cases hf : sEq (gD l i) (gD m i) with
   | true =>
     have f3 : (!sEq (gD l i) (gD m i)) = false:=by rw [hf]; rfl
     unfold sEq at f3
     repeat' (first
|apply zG
 . conv => lhs; whnf
 . assumption
|apply zF
 . conv => lhs; whnf
 . assumption
|refine zA ?_
|refine zI ?_
|refine zZ ?_
|refine zW ?_
|apply aw_1
 conv => whnf
 refine ⟨?_,trivial⟩
|apply s_1
 conv => whnf; arg 1; arg 4; arg 3; whnf
 refine ⟨?_,?_⟩
|apply zq (by kernel_rfl) (by kernel_rfl)
|apply zAR
|apply zAQ rfl
 . conv => lhs; whnf
 . conv => lhs; whnf; arg 2; whnf
|exact zR
|exact zX
|exact (1000000 : Nat)
|exact trivial)
     all_goals first
      | exact zu (by omega)
      | exact zx hi
      | exact zx him
      | (refine za (j':=j - 1) (by omega) ⟨i + 1,by omega,fun q hq => ?_,Sub.live ⟨rfl,rfl,rfl,rfl,rfl,trivial⟩ trivial⟩
         by_cases e : q = i
         . subst e; exact hf
         . exact hall q (by omega))
      | skip
   | false =>
     have f3 : (!sEq (gD l i) (gD m i)) = true:=by rw [hf]; rfl
     unfold sEq at f3
     rw [zAg hi hf]
     repeat' (first
|apply zG
 . conv => lhs; whnf
 . assumption
|refine zA ?_
|refine zI ?_
|refine zZ ?_
|apply aw_1
 conv => whnf
 refine ⟨?_,trivial⟩
|apply s_1
 conv => whnf; arg 1; arg 4; arg 3; whnf
 refine ⟨?_,?_⟩
|apply zq (by kernel_rfl) (by kernel_rfl)
|apply zAR
|apply zAQ rfl
 . conv => lhs; whnf
 . conv => lhs; whnf; arg 2; whnf
|exact zR
|exact zX
|exact (1000000 : Nat)
|refine zK ?_
|refine zH ?_
|refine zN ?_
|refine zB ?_
|refine ⟨_,by conv => lhs; whnf; arg 2; whnf,?_⟩; conv => rhs; whnf
|exact trivial)
     all_goals first
      | exact zu (by omega)
      | exact zx hi
      | exact zx him
      | skip
 . have f1 : decide ((i : Int) < (l.length : Nat)) = false:=decide_eq_false (by omega)
   rw [zA1 hlen fun q hq => hall q (by omega)]
   repeat' (first
|apply zF
 . conv => lhs; whnf
 . assumption
|refine zA ?_
|refine zI ?_
|refine zZ ?_
|apply aw_1
 conv => whnf
 refine ⟨?_,trivial⟩
|apply s_1
 conv => whnf; arg 1; arg 4; arg 3; whnf
 refine ⟨?_,?_⟩
|refine zJ ?_
|refine zE rfl ?_
|refine zC ?_
|refine zB ?_
|refine ⟨_,by conv => lhs; whnf; arg 2; whnf,?_⟩; conv => rhs; whnf
|exact trivial)
theorem argG_ac (a b : D) (ha : bulkD a <= 100000000) (hb : bulkD b <= 100000000) : AC EN Tryd.prog 29 [.agg (cellsV Tryd.prog 12 67 a),.agg (cellsV Tryd.prog 12 67 b)] (.c (.bool (argEq a b))):=by
 have h1:=valP_ac (a.f 1) (b.f 1) (by have:=zr a 1; omega) (by have:=zr b 1; omega)
 unfold argEq sEq
 refine zV 17 Tryd.func29 rfl rfl rfl rfl ?_
 intro s w he
 repeat' (first
|refine zA ?_
|refine zI ?_
|refine zZ ?_
|apply aw_1
 conv => whnf
 refine ⟨?_,trivial⟩
|apply zn rfl rfl
 . conv => lhs; whnf
 . conv => lhs; whnf
 . first | exact bT1 ‹_› | exact bT2 ‹_›
|apply zl rfl rfl
 . conv => lhs; whnf
 . conv => lhs; whnf
 . first | exact bF1 ‹_› | exact bF2 ‹_›
|apply s_1
 conv => whnf; arg 1; arg 4; arg 3; whnf
 refine ⟨?_,?_⟩
|apply zAO rfl rfl rfl rfl
 . conv => lhs; whnf; arg 1; whnf
 . rfl
|apply zQ rfl
 . conv => lhs; whnf
 . conv => lhs; whnf
 . first | rfl | assumption
 . conv => lhs; whnf; arg 2; whnf
|apply zP rfl
 . conv => lhs; whnf
 . conv => lhs; whnf
 . first | rfl | assumption
 . conv => lhs; whnf
 . first | exact h1
|apply zAB rfl
 . conv => lhs; whnf
 . conv => lhs; whnf
 . first | rfl | assumption
|apply zb rfl
 . conv => lhs; whnf
 . conv => lhs; whnf
 . conv => lhs; whnf; arg 2; whnf
|refine zB ?_
|refine ⟨_,by conv => lhs; whnf; arg 2; whnf,?_⟩; conv => rhs; whnf
|exact trivial
|intro hg)
 all_goals first
  | exact (show Tryd.prog.underlying 4 = some TypeDesc.bool by kernel_rfl)
  | rfl
  | (simp only [beq_true,beq_false] at *; simp only [*,Bool.true_and,Bool.false_and,Bool.and_true,Bool.and_false]; done)
  | (simp_all [bne]; done)
  | skip
theorem dirG_ac (a b : D) (ha : bulkD a <= 100000000) (hb : bulkD b <= 100000000) : AC EN Tryd.prog 27 [.agg (cellsV Tryd.prog 12 64 a),.agg (cellsV Tryd.prog 12 64 b)] (.c (.bool (dirEq a b))):=by
 have h1:=eqGArg_ac (a.f 1).l (b.f 1).l argEq (by have:=zAY (a.f 1).l; have:=zr a 1; omega) (by have:=zAY (b.f 1).l; have:=zr b 1; omega) fun i hi hj => argG_ac _ _ (by have:=zr a 1; have:=zAZ hi (Nat.le_refl _); omega) (by have:=zr b 1; have:=zAZ hj (Nat.le_refl _); omega)
 unfold dirEq sEq
 refine zV 17 Tryd.func27 rfl rfl rfl rfl ?_
 intro s w he
 repeat' (first
|refine zA ?_
|refine zI ?_
|refine zZ ?_
|apply aw_1
 conv => whnf
 refine ⟨?_,trivial⟩
|apply zn rfl rfl
 . conv => lhs; whnf
 . conv => lhs; whnf
 . first | exact bT1 ‹_› | exact bT2 ‹_›
|apply zl rfl rfl
 . conv => lhs; whnf
 . conv => lhs; whnf
 . first | exact bF1 ‹_› | exact bF2 ‹_›
|apply s_1
 conv => whnf; arg 1; arg 4; arg 3; whnf
 refine ⟨?_,?_⟩
|apply zAO rfl rfl rfl rfl
 . conv => lhs; whnf; arg 1; whnf
 . rfl
|apply zQ rfl
 . conv => lhs; whnf
 . conv => lhs; whnf
 . first | rfl | assumption
 . conv => lhs; whnf; arg 2; whnf
|apply zP rfl
 . conv => lhs; whnf
 . conv => lhs; whnf
 . first | rfl | assumption
 . conv => lhs; whnf
 . first | exact h1
|apply zAB rfl
 . conv => lhs; whnf
 . conv => lhs; whnf
 . first | rfl | assumption
|apply zb rfl
 . conv => lhs; whnf
 . conv => lhs; whnf
 . conv => lhs; whnf; arg 2; whnf
|refine zB ?_
|refine ⟨_,by conv => lhs; whnf; arg 2; whnf,?_⟩; conv => rhs; whnf
|exact trivial
|intro hg)
 all_goals first
  | exact (show Tryd.prog.underlying 4 = some TypeDesc.bool by kernel_rfl)
  | rfl
  | (simp only [beq_true,beq_false] at *; simp only [*,Bool.true_and,Bool.false_and,Bool.and_true,Bool.and_false]; done)
  | (simp_all [bne]; done)
  | skip
theorem zD1 (l m : List D) (ha : bulkL l <= 100000000) (hb : bulkL m <= 100000000) : AC EN Tryd.prog 15 [.sl 64 l,.sl 64 m] (.c (.bool (eqL dirEq l m))):=by
 have h1:=eqGDir_ac l m dirEq (by have:=zAY l; omega) (by have:=zAY m; omega) fun i hi hj => dirG_ac _ _ (zAZ hi ha) (zAZ hj hb)
 refine zV 8 Tryd.func15 rfl rfl rfl rfl ?_
 intro s w he
 repeat' (first
|refine zA ?_
|refine zI ?_
|refine zZ ?_
|apply aw_1
 conv => whnf
 refine ⟨?_,trivial⟩
|apply s_1
 conv => whnf; arg 1; arg 4; arg 3; whnf
 refine ⟨?_,?_⟩
|apply zk rfl
 . conv => lhs; whnf
 . conv => lhs; whnf
 . first | exact h1
|refine zB ?_
|refine ⟨_,by conv => lhs; whnf; arg 2; whnf,?_⟩; conv => rhs; whnf
|exact trivial)
theorem inG_ac (a b : D) (ha : bulkD a <= 100000000) (hb : bulkD b <= 100000000) : AC EN Tryd.prog 35 [.agg (cellsV Tryd.prog 12 76 a),.agg (cellsV Tryd.prog 12 76 b)] (.c (.bool (inEq7 a b))):=by
 have h1:=refE_ac (a.f 1) (b.f 1) (by have:=zr a 1; omega) (by have:=zr b 1; omega)
 have h2:=valP_ac (a.f 3) (b.f 3) (by have:=zr a 3; omega) (by have:=zr b 3; omega)
 have h3:=zD1 (a.f 4).l (b.f 4).l (by have:=zr a 4; omega) (by have:=zr b 4; omega)
 unfold inEq7 sEq
 refine zV 38 Tryd.func35 rfl rfl rfl rfl ?_
 intro s w he
 repeat' (first
|refine zA ?_
|refine zI ?_
|refine zZ ?_
|apply aw_1
 conv => whnf
 refine ⟨?_,trivial⟩
|apply zn rfl rfl
 . conv => lhs; whnf
 . conv => lhs; whnf
 . first | exact bT1 ‹_› | exact bT2 ‹_›
|apply zl rfl rfl
 . conv => lhs; whnf
 . conv => lhs; whnf
 . first | exact bF1 ‹_› | exact bF2 ‹_›
|apply s_1
 conv => whnf; arg 1; arg 4; arg 3; whnf
 refine ⟨?_,?_⟩
|apply zAO rfl rfl rfl rfl
 . conv => lhs; whnf; arg 1; whnf
 . rfl
|apply zQ rfl
 . conv => lhs; whnf
 . conv => lhs; whnf
 . first | rfl | assumption
 . conv => lhs; whnf; arg 2; whnf
|apply zP rfl
 . conv => lhs; whnf
 . conv => lhs; whnf
 . first | rfl | assumption
 . conv => lhs; whnf
 . first | exact h1 | exact h2 | exact h3
|apply zAB rfl
 . conv => lhs; whnf
 . conv => lhs; whnf
 . first | rfl | assumption
|apply zb rfl
 . conv => lhs; whnf
 . conv => lhs; whnf
 . conv => lhs; whnf; arg 2; whnf
|refine zB ?_
|refine ⟨_,by conv => lhs; whnf; arg 2; whnf,?_⟩; conv => rhs; whnf
|exact trivial
|intro hg)
 all_goals first
  | exact (show Tryd.prog.underlying 4 = some TypeDesc.bool by kernel_rfl)
  | rfl
  | (simp only [beq_true,beq_false] at *; simp only [*,Bool.true_and,Bool.false_and,Bool.and_true,Bool.and_false]; done)
  | (simp_all [bne]; done)
  | skip
theorem insG_ac (l m : List D) (ha : bulkL l <= 100000000) (hb : bulkL m <= 100000000) : AC EN Tryd.prog 17 [.sl 76 l,.sl 76 m] (.c (.bool (eqL inEq7 l m))):=by
 have h1:=zHW l m inEq7 (by have:=zAY l; omega) (by have:=zAY m; omega) fun i hi hj => inG_ac _ _ (zAZ hi ha) (zAZ hj hb)
 refine zV 8 Tryd.func17 rfl rfl rfl rfl ?_
 intro s w he
 repeat' (first
|refine zA ?_
|refine zI ?_
|refine zZ ?_
|apply aw_1
 conv => whnf
 refine ⟨?_,trivial⟩
|apply s_1
 conv => whnf; arg 1; arg 4; arg 3; whnf
 refine ⟨?_,?_⟩
|apply zk rfl
 . conv => lhs; whnf
 . conv => lhs; whnf
 . first | exact h1
|refine zB ?_
|refine ⟨_,by conv => lhs; whnf; arg 2; whnf,?_⟩; conv => rhs; whnf
|exact trivial)
theorem fdG_ac (a b : D) (ha : bulkD a <= 100000000) (hb : bulkD b <= 100000000) : AC EN Tryd.prog 32 [.agg (cellsV Tryd.prog 12 40 a),.agg (cellsV Tryd.prog 12 40 b)] (.c (.bool (fdEq7 a b))):=by
 have h1:=refE_ac (a.f 2) (b.f 2) (by have:=zr a 2; omega) (by have:=zr b 2; omega)
 have h2:=insG_ac (a.f 1).l (b.f 1).l (by have:=zr a 1; omega) (by have:=zr b 1; omega)
 have h3:=zD1 (a.f 3).l (b.f 3).l (by have:=zr a 3; omega) (by have:=zr b 3; omega)
 unfold fdEq7 sEq
 refine zV 31 Tryd.func32 rfl rfl rfl rfl ?_
 intro s w he
 repeat' (first
|refine zA ?_
|refine zI ?_
|refine zZ ?_
|apply aw_1
 conv => whnf
 refine ⟨?_,trivial⟩
|apply zn rfl rfl
 . conv => lhs; whnf
 . conv => lhs; whnf
 . first | exact bT1 ‹_› | exact bT2 ‹_›
|apply zl rfl rfl
 . conv => lhs; whnf
 . conv => lhs; whnf
 . first | exact bF1 ‹_› | exact bF2 ‹_›
|apply s_1
 conv => whnf; arg 1; arg 4; arg 3; whnf
 refine ⟨?_,?_⟩
|apply zAO rfl rfl rfl rfl
 . conv => lhs; whnf; arg 1; whnf
 . rfl
|apply zQ rfl
 . conv => lhs; whnf
 . conv => lhs; whnf
 . first | rfl | assumption
 . conv => lhs; whnf; arg 2; whnf
|apply zP rfl
 . conv => lhs; whnf
 . conv => lhs; whnf
 . first | rfl | assumption
 . conv => lhs; whnf
 . first | exact h1 | exact h2 | exact h3
|apply zAB rfl
 . conv => lhs; whnf
 . conv => lhs; whnf
 . first | rfl | assumption
|apply zb rfl
 . conv => lhs; whnf
 . conv => lhs; whnf
 . conv => lhs; whnf; arg 2; whnf
|refine zB ?_
|refine ⟨_,by conv => lhs; whnf; arg 2; whnf,?_⟩; conv => rhs; whnf
|exact trivial
|intro hg)
 all_goals first
  | exact (show Tryd.prog.underlying 4 = some TypeDesc.bool by kernel_rfl)
  | rfl
  | (simp only [beq_true,beq_false] at *; simp only [*,Bool.true_and,Bool.false_and,Bool.and_true,Bool.and_false]; done)
  | (simp_all [bne]; done)
  | skip
theorem fdsG_ac (l m : List D) (ha : bulkL l <= 100000000) (hb : bulkL m <= 100000000) : AC EN Tryd.prog 16 [.sl 40 l,.sl 40 m] (.c (.bool (eqL fdEq7 l m))):=by
 have h1:=zHX l m fdEq7 (by have:=zAY l; omega) (by have:=zAY m; omega) fun i hi hj => fdG_ac _ _ (zAZ hi ha) (zAZ hj hb)
 refine zV 8 Tryd.func16 rfl rfl rfl rfl ?_
 intro s w he
 repeat' (first
|refine zA ?_
|refine zI ?_
|refine zZ ?_
|apply aw_1
 conv => whnf
 refine ⟨?_,trivial⟩
|apply s_1
 conv => whnf; arg 1; arg 4; arg 3; whnf
 refine ⟨?_,?_⟩
|apply zk rfl
 . conv => lhs; whnf
 . conv => lhs; whnf
 . first | exact h1
|refine zB ?_
|refine ⟨_,by conv => lhs; whnf; arg 2; whnf,?_⟩; conv => rhs; whnf
|exact trivial)
theorem mbG_ac (a b : D) (ha : bulkD a <= 100000000) (hb : bulkD b <= 100000000) : AC EN Tryd.prog 19 [.agg (cellsV Tryd.prog 12 53 a),.agg (cellsV Tryd.prog 12 53 b)] (.c (.bool (mbEq7 a b))):=by
 have h3:=zD1 (a.f 1).l (b.f 1).l (by have:=zr a 1; omega) (by have:=zr b 1; omega)
 unfold mbEq7 sEq
 refine zV 17 Tryd.func19 rfl rfl rfl rfl ?_
 intro s w he
 repeat' (first
|refine zA ?_
|refine zI ?_
|refine zZ ?_
|apply aw_1
 conv => whnf
 refine ⟨?_,trivial⟩
|apply zn rfl rfl
 . conv => lhs; whnf
 . conv => lhs; whnf
 . first | exact bT1 ‹_› | exact bT2 ‹_›
|apply zl rfl rfl
 . conv => lhs; whnf
 . conv => lhs; whnf
 . first | exact bF1 ‹_› | exact bF2 ‹_›
|apply s_1
 conv => whnf; arg 1; arg 4; arg 3; whnf
 refine ⟨?_,?_⟩
|apply zAO rfl rfl rfl rfl
 . conv => lhs; whnf; arg 1; whnf
 . rfl
|apply zQ rfl
 . conv => lhs; whnf
 . conv => lhs; whnf
 . first | rfl | assumption
 . conv => lhs; whnf; arg 2; whnf
|apply zP rfl
 . conv => lhs; whnf
 . conv => lhs; whnf
 . first | rfl | assumption
 . conv => lhs; whnf
 . first | exact h3
|apply zAB rfl
 . conv => lhs; whnf
 . conv => lhs; whnf
 . first | rfl | assumption
|apply zb rfl
 . conv => lhs; whnf
 . conv => lhs; whnf
 . conv => lhs; whnf; arg 2; whnf
|refine zB ?_
|refine ⟨_,by conv => lhs; whnf; arg 2; whnf,?_⟩; conv => rhs; whnf
|exact trivial
|intro hg)
 all_goals first
  | exact (show Tryd.prog.underlying 4 = some TypeDesc.bool by kernel_rfl)
  | rfl
  | (simp only [beq_true,beq_false] at *; simp only [*,Bool.true_and,Bool.false_and,Bool.and_true,Bool.and_false]; done)
  | (simp_all [bne]; done)
  | skip
theorem dfG_ac (a b : D) (ha : bulkD a <= 100000000) (hb : bulkD b <= 100000000) : AC EN Tryd.prog 13 [.agg (cellsV Tryd.prog 12 35 a),.agg (cellsV Tryd.prog 12 35 b)] (.c (.bool (dfEq7 a b))):=by
 have h1:=eqGStr_ac (a.f 2).l (b.f 2).l (by have:=zAY (a.f 2).l; have:=zr a 2; omega) (by have:=zAY (b.f 2).l; have:=zr b 2; omega)
 have h2:=zD1 (a.f 3).l (b.f 3).l (by have:=zr a 3; omega) (by have:=zr b 3; omega)
 have h3:=fdsG_ac (a.f 4).l (b.f 4).l (by have:=zr a 4; omega) (by have:=zr b 4; omega)
 have h4:=insG_ac (a.f 6).l (b.f 6).l (by have:=zr a 6; omega) (by have:=zr b 6; omega)
 have h5:=zGo (a.f 5).l (b.f 5).l mbEq7 (by have:=zAY (a.f 5).l; have:=zr a 5; omega) (by have:=zAY (b.f 5).l; have:=zr b 5; omega) fun i hi hj => mbG_ac _ _ (by have:=zr a 5; have:=zAZ hi (Nat.le_refl _); omega) (by have:=zr b 5; have:=zAZ hj (Nat.le_refl _); omega)
 unfold dfEq7
 rw [show sEq (a.f 1) (b.f 1) = ((a.f 1).s.toList == (b.f 1).s.toList) from rfl]
 refine zV 52 Tryd.func13 rfl rfl rfl rfl ?_
 intro s w he
 repeat' (first
|refine zA ?_
|refine zI ?_
|refine zZ ?_
|apply aw_1
 conv => whnf
 refine ⟨?_,trivial⟩
|apply zn rfl rfl
 . conv => lhs; whnf
 . conv => lhs; whnf
 . first | exact bT1 ‹_› | exact bT2 ‹_›
|apply zl rfl rfl
 . conv => lhs; whnf
 . conv => lhs; whnf
 . first | exact bF1 ‹_› | exact bF2 ‹_›
|apply s_1
 conv => whnf; arg 1; arg 4; arg 3; whnf
 refine ⟨?_,?_⟩
|apply zk rfl
 . conv => lhs; whnf
 . conv => lhs; whnf
 . first | exact h1 | exact h2 | exact h3 | exact h4 | exact h5
|apply zAO rfl rfl rfl rfl
 . conv => lhs; whnf; arg 1; whnf
 . rfl
|apply zQ rfl
 . conv => lhs; whnf
 . conv => lhs; whnf
 . first | rfl | assumption
 . conv => lhs; whnf; arg 2; whnf
|apply zP rfl
 . conv => lhs; whnf
 . conv => lhs; whnf
 . first | rfl | assumption
 . conv => lhs; whnf
 . first | exact h1 | exact h2 | exact h3 | exact h4 | exact h5
|apply zAB rfl
 . conv => lhs; whnf
 . conv => lhs; whnf
 . first | rfl | assumption
|apply zb rfl
 . conv => lhs; whnf
 . conv => lhs; whnf
 . conv => lhs; whnf; arg 2; whnf
|refine zd (by conv => lhs; whnf) ?_ ?_ <;> intro hb
|refine zK ?_
|refine zB ?_
|refine ⟨_,by conv => lhs; whnf; arg 2; whnf,?_⟩; conv => rhs; whnf
|exact trivial
|intro hg)
 all_goals first
  | exact (show Tryd.prog.underlying 4 = some TypeDesc.bool by kernel_rfl)
  | rfl
  | (simp only [beq_true,beq_false] at *; simp only [*,Bool.true_and,Bool.false_and,Bool.and_true,Bool.and_false]; done)
  | (simp_all [bne]; done)
  | skip
theorem sdG_ac (a b : D) (ha : bulkD a <= 100000000) (hb : bulkD b <= 100000000) : AC EN Tryd.prog 6 [.agg (cellsV Tryd.prog 12 24 a),.agg (cellsV Tryd.prog 12 24 b)] (.c (.bool (zDT a b))):=by
 have h1:=eqGDef_ac (a.f 0).l (b.f 0).l dfEq7 (by have:=zAY (a.f 0).l; have:=zr a 0; omega) (by have:=zAY (b.f 0).l; have:=zr b 0; omega) fun i hi hj => dfG_ac _ _ (by have:=zr a 0; have:=zAZ hi (Nat.le_refl _); omega) (by have:=zr b 0; have:=zAZ hj (Nat.le_refl _); omega)
 unfold zDT
 refine zV 10 Tryd.func6 rfl rfl rfl rfl ?_
 intro s w he
 repeat' (first
|refine zA ?_
|refine zI ?_
|refine zZ ?_
|apply aw_1
 conv => whnf
 refine ⟨?_,trivial⟩
|apply s_1
 conv => whnf; arg 1; arg 4; arg 3; whnf
 refine ⟨?_,?_⟩
|apply zk rfl
 . conv => lhs; whnf
 . conv => lhs; whnf
 . first | exact h1
|apply zAO rfl rfl rfl rfl
 . conv => lhs; whnf; arg 1; whnf
 . rfl
|refine zB ?_
|refine ⟨_,by conv => lhs; whnf; arg 2; whnf,?_⟩; conv => rhs; whnf
|exact trivial)
end Go.Proofs.YtdlnnlglmifceaaDoor
namespace Go.Proofs.YtdlnnlglmifceaaDoor
open Go.RowKit
set_option linter.unusedSectionVars false
def wrapsI (l : List D) : Nat -> Nat -> Bool
 | 0,_ => true
 | j + 1,i => ((gD l i).n == 1 || (gD l i).n == 2) && !((gD l i).n == 1 && decide (0 < i) && (gD l (i - 1)).n == (gD l i).n) && wrapsI l j (i + 1)
theorem zD5 (x : D) (l : List D) : ∀ (j i : Nat),wrapsI (x :: l) j (i + 2) = wrapsI l j (i + 1)
 | 0,_ => rfl
 | j + 1,i => by
   unfold wrapsI
   rw [zD5 x l j (i + 1)]
   have e1 : gD (x :: l) (i + 2) = gD l (i + 1):=rfl
   have e2 : gD (x :: l) (i + 2 - 1) = gD l (i + 1 - 1):=rfl
   have e3 : decide (0 < i + 2) = decide (0 < i + 1):=by simp
   rw [e1,e2,e3]
theorem zHf : ∀ l : List D,wrapsI l l.length 0 = zCH (l.map D.n)
 | [] => rfl
 | [x] => by
   show (((x.n == 1 || x.n == 2) && !(x.n == 1 && decide (0 < 0) && _)) && true) = (x.n == 1 || x.n == 2)
   simp
 | x :: y :: r => by
   have ih:=zHf (y :: r)
   show (((x.n == 1 || x.n == 2) && !(x.n == 1 && decide (0 < 0) && _)) && wrapsI (x :: y :: r) (r.length + 1) 1) = ((x.n == 1 || x.n == 2) && !(x.n == 1 && y.n == 1) && zCH (y.n :: r.map D.n))
   have e : wrapsI (x :: y :: r) (r.length + 1) 1 = (((y.n == 1 || y.n == 2) && !(y.n == 1 && true && (x.n == y.n))) && wrapsI (y :: r) r.length 1):=by
    show (((y.n == 1 || y.n == 2) && !(y.n == 1 && true && (x.n == y.n))) && wrapsI (x :: y :: r) r.length 2) = _
    rw [zD5]
   have e2 : wrapsI (y :: r) (y :: r).length 0 = (((y.n == 1 || y.n == 2) && !(y.n == 1 && decide (0 < 0) && false)) && wrapsI (y :: r) r.length 1):=by
    show (((y.n == 1 || y.n == 2) && !(y.n == 1 && decide (0 < 0) && _)) && wrapsI (y :: r) r.length 1) = _
    simp
   rw [e]
   rw [e2] at ih
   have ih2 : zCH (y.n :: r.map D.n) = (((y.n == 1 || y.n == 2) && !(y.n == 1 && decide (0 < 0) && false)) && wrapsI (y :: r) r.length 1):=ih.symm
   rw [ih2]
   generalize wrapsI (y :: r) r.length 1 = q
   cases hy : (y.n == 1)
   . generalize (x.n == 1) = a1
     generalize (x.n == 2) = a2
     generalize (y.n == 2) = a3
     generalize (x.n == y.n) = a4
     cases a1 <;> cases a2 <;> cases a3 <;> cases a4 <;> cases q <;> rfl
   . have hy' : y.n = 1:=by simpa using hy
     rw [hy']
     generalize (x.n == 1) = a1
     generalize (x.n == 2) = a2
     cases a1 <;> cases a2 <;> cases q <;> rfl
theorem zEy (a b : Int) : IntKind.i64.wrap (IntKind.i64.wrap a + b) = IntKind.i64.wrap (a + b):=by
 simp [IntKind.wrap,IntKind.min,IntKind.max,IntKind.bits,IntKind.signed]
 repeat' split
 all_goals omega
theorem wrap_add_r (a b : Int) : IntKind.i64.wrap (a + IntKind.i64.wrap b) = IntKind.i64.wrap (a + b):=by
 rw [Int.add_comm,zEy,Int.add_comm]
theorem zEF (s : ByteArray) (l : List UInt8) : (s.toList == (⟨l.toArray⟩ : ByteArray).toList) = (s.data.toList == l):=by
 rw [Lib.toList_data,Lib.toList_data]
def zG8 (k : Nat) (d : D) : Int:=IntKind.i64.wrap (sizeR k d : Int)
def maxW (f : Nat -> Int) : Nat -> Int
 | 0 => 0
 | n + 1 => if maxW f n < f n then f n else maxW f n
def zCp : Nat -> D -> Int
 | 0,_ => 1
 | k + 1,d => IntKind.i64.wrap (maxW (fun i => zCp k (gD (d.f 3).l i)) (d.f 3).l.length + 1)
def litW (d : D) : Bool:=decide (zG8 (bulkD d) d <= 4096) && decide (zCp (bulkD d) d <= 24) && everyL (bulkD d) d
theorem wrap_id {n : Int} (h : 0 <= n /\ n <= 9223372036854775807) : IntKind.i64.wrap n = n:=zD6 (k:=.i64) ⟨by simp only [IntKind.min,IntKind.signed,IntKind.bits]; omega,by simp only [IntKind.max,IntKind.signed,IntKind.bits]; omega⟩
theorem maxW_eq {f : Nat -> Int} {g : Nat -> Nat} : ∀ {n : Nat},(∀ i,i < n -> f i = (g i : Int)) -> maxW f n = (maxN g n : Int)
 | 0,_ => rfl
 | n + 1,h => by
   have e:=maxW_eq (n:=n) fun i hi => h i (by omega)
   unfold maxW maxN
   rw [e,h n (by omega)]
   exact max_i _ _
attribute [local irreducible] wpList Calls Code.wp AW AWo OpOk seqK zAf zAj loopK endK AC zAH Yld Sub
attribute [local irreducible] ACB ACX YldG
end Go.Proofs.YtdlnnlglmifceaaDoor
namespace Go.Proofs.YtdlnnlglmifceaaDoor
open Go.RowKit
set_option linter.unusedSectionVars false
theorem zDn : ∀ (k : Nat) (d : D),bulkD d <= 1048576 -> zCp k d = (depthR k d : Int)
 | 0,_,_ => rfl
 | k + 1,d,h => by
   have hd:=zGu (k + 1) d
   unfold depthR at hd
   unfold zCp depthR
   rw [maxW_eq (g:=fun i => depthR k (gD (d.f 3).l i)) fun i hi => zDn k _ (by have:=zBq hi; have:=zy d; omega)]
   rw [wrap_id ⟨by omega,by omega⟩]
   omega
theorem litW_small {d : D} (hb : bulkD d <= 1048576) (h : litW d = true) : litR d = true:=by
 unfold litW zG8 at h
 have hs:=zHm (bulkD d) d
 rw [zDn _ _ hb,wrap_id ⟨by omega,by omega⟩] at h
 simp only [Bool.and_eq_true,decide_eq_true_eq] at h
 unfold litR
 rw [h.2,decide_eq_true (by omega),decide_eq_true (by omega)]; rfl
theorem bk_f {d : D} {N : Nat} (h : bulkD d <= N) (j : Nat) : bulkD (d.f j) <= N:=by
 have:=wD_f d j; have:=zy d; have:=zy (d.f j); omega
theorem bk_l {d : D} {N : Nat} (h : bulkD d <= N) : bulkL d.l <= N:=by
 have:=zAE d; have:=zy d; omega
theorem zCB {p q : D -> Bool} {N : Nat} (h : ∀ x,bulkD x <= N -> p x = true -> q x = true) {l : List D} (hb : bulkL l <= N) (hl : l.all p = true) : l.all q = true:=by
 induction l with
 | nil => rfl
 | cons a r ih =>
   unfold bulkL at hb
   rw [List.all_cons,Bool.and_eq_true] at hl |-
   exact ⟨h a (by omega) hl.1,ih (by omega) hl.2⟩
section
variable {lit lit' : D -> Bool} {N : Nat} (h : ∀ v,bulkD v <= N -> lit v = true -> lit' v = true)
include h
theorem zE1 (v : D) (hb : bulkD v <= N) (hv : valY lit v = true) : valY lit' v = true:=by
 unfold valY at *
 rw [Bool.and_eq_true] at *
 exact ⟨h v hb hv.1,hv.2⟩
theorem argY_monoB (v : D) (hb : bulkD v <= N) (hv : argY lit v = true) : argY lit' v = true:=by
 unfold argY at *
 rw [Bool.and_eq_true] at *
 exact ⟨hv.1,zE1 h _ (bk_f hb 1) hv.2⟩
theorem dirY_monoB (v : D) (hb : bulkD v <= N) (hv : dirY lit v = true) : dirY lit' v = true:=by
 unfold dirY argsY at *
 simp only [Bool.and_eq_true] at *
 exact ⟨hv.1,hv.2.1,zCB (argY_monoB h) (bk_l (bk_f hb 1)) hv.2.2⟩
theorem zCG {l : List D} (hb : bulkL l <= N) (hv : dirsY lit l = true) : dirsY lit' l = true:=by
 unfold dirsY at *
 rw [Bool.and_eq_true] at *
 exact ⟨hv.1,zCB (dirY_monoB h) hb hv.2⟩
theorem inY_monoB (v : D) (hb : bulkD v <= N) (hv : inY lit v = true) : inY lit' v = true:=by
 unfold inY at *
 simp only [Bool.and_eq_true] at *
 exact ⟨⟨⟨hv.1.1.1,zCG h (bk_l (bk_f hb 4)) hv.1.1.2⟩,zE1 h _ (bk_f hb 3) hv.1.2⟩,hv.2⟩
theorem zFF {l : List D} (hb : bulkL l <= N) (hv : insY lit l = true) : insY lit' l = true:=by
 unfold insY at *
 rw [Bool.and_eq_true] at *
 exact ⟨hv.1,zCB (inY_monoB h) hb hv.2⟩
theorem fdY_monoB (v : D) (hb : bulkD v <= N) (hv : fdY lit v = true) : fdY lit' v = true:=by
 unfold fdY at *
 simp only [Bool.and_eq_true] at *
 exact ⟨⟨⟨hv.1.1.1,zFF h (bk_l (bk_f hb 1)) hv.1.1.2⟩,hv.1.2⟩,zCG h (bk_l (bk_f hb 3)) hv.2⟩
theorem mbY_monoB (u : Bool) (v : D) (hb : bulkD v <= N) (hv : mbY lit u v = true) : mbY lit' u v = true:=by
 unfold mbY at *
 rw [Bool.and_eq_true,Bool.and_eq_true] at *
 exact ⟨⟨hv.1.1,zCG h (bk_l (bk_f hb 1)) hv.1.2⟩,hv.2⟩
theorem defY_monoB (v : D) (hb : bulkD v <= N) (hv : defY lit v = true) : defY lit' v = true:=by
 unfold defY fdsY mbsY at *
 simp only [Bool.and_eq_true] at *
 exact ⟨⟨⟨⟨⟨⟨hv.1.1.1.1.1.1,hv.1.1.1.1.1.2⟩,zCG h (bk_l (bk_f hb 3)) hv.1.1.1.1.2⟩,hv.1.1.1.2⟩,⟨hv.1.1.2.1,zCB (fdY_monoB h) (bk_l (bk_f hb 4)) hv.1.1.2.2⟩⟩,⟨hv.1.2.1,zCB (mbY_monoB h _) (bk_l (bk_f hb 5)) hv.1.2.2⟩⟩,zFF h (bk_l (bk_f hb 6)) hv.2⟩
theorem docY_monoB {l : List D} (hb : bulkL l <= N) (hv : docY lit l = true) : docY lit' l = true:=by
 unfold docY at *
 rw [Bool.and_eq_true] at *
 exact ⟨hv.1,zCB (defY_monoB h) hb hv.2⟩
end
theorem zFO {l : List D} (hb : bulkL l <= 1048576) (h : docY litW l = true) : docY litR l = true:=docY_monoB (fun _ => litW_small) hb h
theorem zFB {l : List D} (h : l.length = 0) : l = []:=List.eq_nil_of_length_eq_zero h
theorem null_id {j : Nat} {d : D} (h : Fits Tryd.prog j 44 d) (hy : litR d = true) (h0 : (d.f 0).n = 0) : d = zHE:=by
 unfold litR at hy
 rw [Bool.and_eq_true] at hy
 obtain ⟨m,hm⟩ : ∃ m,bulkD d = m + 1:=⟨bulkD d - 1,by have:=zA2 d; omega⟩
 rw [hm] at hy
 obtain ⟨hn,-⟩:=zCg hy.2
 obtain ⟨j,l,rfl,hl,hf⟩:=zAp Tryd.underlying44 h
 have hl : l.length = 5:=hl
 obtain ⟨n0,e0⟩:=zBy (hf 0 _ rfl)
 obtain ⟨n1,e1⟩:=zBy (hf 1 _ rfl)
 obtain ⟨s2,e2⟩:=zAn (hf 2 _ rfl)
 obtain ⟨j3,l3,e3,-⟩:=zAW Tryd.underlying42 (hf 3 _ rfl)
 obtain ⟨j4,l4,e4,-⟩:=zAW Tryd.underlying29 (hf 4 _ rfl)
 have a1:=hn.int0; have a2:=hn.txt0; have a3:=hn.keys0; have a4:=hn.items0
 have h0' : (gD l 0).n = 0:=h0
 have q0 : ((D.obj l).f 0).n = 0:=h0
 have b1 : ((D.obj l).f 1).n = 0:=by omega
 have b2 : tx ((D.obj l).f 2).s = []:=by
  rcases a2 with h | h | h | h
  . omega
  . omega
  . omega
  . exact h
 have b3 : ((D.obj l).f 4).l.length = 0:=by omega
 have b4 : ((D.obj l).f 3).l.length = 0:=by omega
 have c1 : (gD l 1).n = 0:=b1
 have c2 : tx (gD l 2).s = []:=b2
 have c3 : (gD l 4).l.length = 0:=b3
 have c4 : (gD l 3).l.length = 0:=b4
 rw [e0] at h0'; rw [e1] at c1; rw [e2] at c2; rw [e4] at c3; rw [e3] at c4
 have h0' : n0 = 0:=h0'
 have c1 : n1 = 0:=c1
 have c2 : tx s2 = []:=c2
 have c3 : l4.length = 0:=c3
 have c4 : l3.length = 0:=c4
 rw [len5 hl,e0,e1,e2,e3,e4,h0',c1,zFB c3,zFB c4,<- zCI s2,c2]
 rfl
theorem cRef_id {j : Nat} {d : D} (h : Fits Tryd.prog j 38 d) : refD (tx (d.f 0).s) ((d.f 1).l.map D.n) = d:=by
 obtain ⟨j1,l1,e1,hl1,hf1⟩:=zAp Tryd.underlying38 h
 subst e1
 have hl1 : l1.length = 2:=hl1
 obtain ⟨s1,e10⟩:=zAn (hf1 0 _ rfl)
 obtain ⟨j2,w1,e11,hw1⟩:=zAW Tryd.underlying36 (hf1 1 _ rfl)
 rw [len2 hl1,e10,e11]
 show refD (tx s1) (w1.map D.n) = _
 have b : (w1.map D.n).map D.int = w1:=by
  rw [List.map_map]
  refine zDG fun i hi => ?_
  obtain ⟨n,e⟩:=zBy (hw1 i hi)
  rw [e]; rfl
 unfold refD
 rw [zCI,b]
theorem cIn_id {j : Nat} {d : D} (h : Fits Tryd.prog j 76 d) (hp : InP d) : cIn d = d:=by
 obtain ⟨j,l,rfl,hl,hf⟩:=zAp Tryd.underlying76 h
 have hl : l.length = 5:=hl
 obtain ⟨s0,e0⟩:=zAn (hf 0 _ rfl)
 have h1 : Fits Tryd.prog j 38 (gD l 1):=hf 1 _ rfl
 obtain ⟨b2,e2⟩:=fits_b (hf 2 _ rfl)
 have h3 : Fits Tryd.prog j 44 (gD l 3):=hf 3 _ rfl
 obtain ⟨j4,l4,e4,h4⟩:=zAW Tryd.underlying30 (hf 4 _ rfl)
 have r1:=cRef_id h1
 have q3 : (if (gD l 2).b = true then cL (gD l 3) else zHE) = gD l 3:=by
  by_cases hb : (gD l 2).b = true
  . rw [if_pos hb,cL_id h3]
  . rw [if_neg hb,null_id h3 hp.val.lit (hp.has.resolve_left hb)]
 have q4 : rgD cDir l4 = l4:=zCJ fun i hi => zGB (h4 i hi)
 have e : cIn (.obj l) = sInD (tx (gD l 0).s) (refD (tx ((gD l 1).f 0).s) (((gD l 1).f 1).l.map D.n)) (gD l 2).b (if (gD l 2).b = true then cL (gD l 3) else zHE) (rgD cDir (gD l 4).l):=rfl
 rw [e,r1,q3,len5 hl]
 show sInD (tx (gD l 0).s) (gD l 1) (gD l 2).b (gD l 3) (rgD cDir (gD l 4).l) = _
 rw [e0,e2,e4]
 show sInD (tx s0) (gD l 1) b2 (gD l 3) (rgD cDir l4) = _
 unfold sInD
 rw [q4,zCI]
theorem cFd_id {j : Nat} {d : D} (h : Fits Tryd.prog j 40 d) (hp : FdP d) : cFd d = d:=by
 obtain ⟨j,l,rfl,hl,hf⟩:=zAp Tryd.underlying40 h
 have hl : l.length = 4:=hl
 obtain ⟨s0,e0⟩:=zAn (hf 0 _ rfl)
 obtain ⟨j1,l1,e1,h1⟩:=zAW Tryd.underlying33 (hf 1 _ rfl)
 have h2 : Fits Tryd.prog j 38 (gD l 2):=hf 2 _ rfl
 obtain ⟨j3,l3,e3,h3⟩:=zAW Tryd.underlying30 (hf 3 _ rfl)
 have r2:=cRef_id h2
 have hi : InsP (gD l 1).l:=hp.args
 rw [e1] at hi
 have hi : InsP l1:=hi
 have q1 : rgD cIn l1 = l1:=zCJ fun i hl => cIn_id (h1 i hl) (hi.ins i hl)
 have q3 : rgD cDir l3 = l3:=zCJ fun i hi => zGB (h3 i hi)
 have e : cFd (.obj l) = sFdD (tx (gD l 0).s) (rgD cIn (gD l 1).l) (refD (tx ((gD l 2).f 0).s) (((gD l 2).f 1).l.map D.n)) (rgD cDir (gD l 3).l):=rfl
 rw [e,r2,len4 hl]
 show sFdD (tx (gD l 0).s) (rgD cIn (gD l 1).l) (gD l 2) (rgD cDir (gD l 3).l) = _
 rw [e0,e1,e3]
 show sFdD (tx s0) (rgD cIn l1) (gD l 2) (rgD cDir l3) = _
 unfold sFdD
 rw [q1,q3,zCI]
theorem cMb_id {j : Nat} {d : D} (h : Fits Tryd.prog j 53 d) : cMb d = d:=by
 obtain ⟨j,l,rfl,hl,hf⟩:=zAp Tryd.underlying53 h
 have hl : l.length = 2:=hl
 obtain ⟨s0,e0⟩:=zAn (hf 0 _ rfl)
 obtain ⟨j1,l1,e1,h1⟩:=zAW Tryd.underlying30 (hf 1 _ rfl)
 have q1 : rgD cDir l1 = l1:=zCJ fun i hi => zGB (h1 i hi)
 rw [len2 hl,e0,e1]
 show sMbD (tx s0) (rgD cDir l1) = _
 unfold sMbD
 rw [q1,zCI]
theorem cMu_id {j : Nat} {d : D} (h : Fits Tryd.prog j 53 d) (h0 : (d.f 1).l.length = 0) : mbOf (cNm (d.f 0)) = d:=by
 obtain ⟨j,l,rfl,hl,hf⟩:=zAp Tryd.underlying53 h
 have hl : l.length = 2:=hl
 obtain ⟨s0,e0⟩:=zAn (hf 0 _ rfl)
 obtain ⟨j1,l1,e1,h1⟩:=zAW Tryd.underlying30 (hf 1 _ rfl)
 have h0 : (gD l 1).l.length = 0:=h0
 rw [e1] at h0
 have h0 : l1.length = 0:=h0
 rw [len2 hl,e0,e1,zFB h0]
 show mbOf (strD (tx s0)) = _
 rw [zCI]; rfl
theorem cDf_id {j : Nat} {d : D} (h : Fits Tryd.prog j 35 d) (hp : DefP d) : cDf d = d:=by
 obtain ⟨j,l,rfl,hl,hf⟩:=zAp Tryd.underlying35 h
 have hl : l.length = 7:=hl
 obtain ⟨n0,e0⟩:=zBy (hf 0 _ rfl)
 obtain ⟨s1,e1⟩:=zAn (hf 1 _ rfl)
 obtain ⟨j2,l2,e2,h2⟩:=zAW Tryd.underlying29 (hf 2 _ rfl)
 obtain ⟨j3,l3,e3,h3⟩:=zAW Tryd.underlying30 (hf 3 _ rfl)
 obtain ⟨j4,l4,e4,h4⟩:=zAW Tryd.underlying31 (hf 4 _ rfl)
 obtain ⟨j5,l5,e5,h5⟩:=zAW Tryd.underlying32 (hf 5 _ rfl)
 obtain ⟨j6,l6,e6,h6⟩:=zAW Tryd.underlying33 (hf 6 _ rfl)
 have q : D.obj l = .obj [.int n0,.str s1,.list l2,.list l3,.list l4,.list l5,.list l6]:=by rw [len7 hl,e0,e1,e2,e3,e4,e5,e6]
 rw [q] at hp |-
 have f0 : (n0 = 1 \/ n0 = 2) ↔ 0 < l4.length:=hp.f0
 have m0 : (n0 = 3 \/ n0 = 4) ↔ 0 < l5.length:=hp.m0
 have i0 : n0 = 5 ↔ 0 < l6.length:=hp.i0
 have p4 : ∀ i,i < l4.length -> FdP (gD l4 i):=hp.fds
 have p5 : ∀ i,i < l5.length -> MbP (n0 == 3) (gD l5 i):=hp.mbs
 have p6 : InsP l6:=hp.ins
 have q2 : l2.map cNm = l2:=zDG fun i hi => by
  obtain ⟨s,e⟩:=zAn (h2 i hi)
  rw [e]; exact zCI s
 have q3 : rgD cDir l3 = l3:=zCJ fun i hi => zGB (h3 i hi)
 have q4 : (if n0 = 1 \/ n0 = 2 then rgD cFd l4 else []) = l4:=by
  by_cases hk : n0 = 1 \/ n0 = 2
  . rw [if_pos hk]; exact zCJ fun i hi => cFd_id (h4 i hi) (p4 i hi)
  . rw [if_neg hk,zFB (l:=l4) (by have:=mt f0.2 hk; omega)]
 have q5 : (if n0 = 3 then (l5.map fun x => mbOf (cNm (x.f 0))) else if n0 = 4 then rgD cMb l5 else []) = l5:=by
  by_cases h3' : n0 = 3
  . rw [if_pos h3']
    exact zDG fun i hi => cMu_id (h5 i hi) ((p5 i hi).no (by rw [h3']; rfl))
  . rw [if_neg h3']
    by_cases h4' : n0 = 4
    . rw [if_pos h4']; exact zCJ fun i hi => cMb_id (h5 i hi)
    . rw [if_neg h4',zFB (l:=l5) (by have:=mt m0.2 (by omega); omega)]
 have q6 : (if n0 = 5 then rgD cIn l6 else []) = l6:=by
  by_cases hk : n0 = 5
  . rw [if_pos hk]; exact zCJ fun i hi => cIn_id (h6 i hi) (p6.ins i hi)
  . rw [if_neg hk,zFB (l:=l6) (by have:=mt i0.2 hk; omega)]
 show sDfD n0 (tx s1) (l2.map cNm) (rgD cDir l3) (if n0 = 1 \/ n0 = 2 then rgD cFd l4 else []) (if n0 = 3 then (l5.map fun x => mbOf (cNm (x.f 0))) else if n0 = 4 then rgD cMb l5 else []) (if n0 = 5 then rgD cIn l6 else []) = _
 rw [q2,q3,q4,q5,q6]
 unfold sDfD
 rw [zCI]
theorem doc_id {j : Nat} {d : D} (h : Fits Tryd.prog j 24 d) (hp : docY litR (d.f 0).l = true) : d = sDocD (rgD cDf (d.f 0).l):=by
 obtain ⟨j,l,rfl,hl,hf⟩:=zAp Tryd.underlying24 h
 have hl : l.length = 1:=hl
 obtain ⟨j0,l0,e0,h0⟩:=zAW Tryd.underlying22 (hf 0 _ rfl)
 have e1 : l = [gD l 0]:=by
  match l,hl with
  | [a],_ => rfl
 have hp : docY litR (gD l 0).l = true:=hp
 rw [e0] at hp
 obtain ⟨-,-,hd⟩:=docP (l:=l0) hp
 have q : rgD cDf l0 = l0:=zCJ fun i hi => cDf_id (h0 i hi) (hd i hi)
 rw [e1,e0]
 show _ = sDocD (rgD cDf l0)
 rw [q]; rfl
end Go.Proofs.YtdlnnlglmifceaaDoor
namespace Go.Proofs.YtdlnnlglmifceaaDoor
open Go.RowKit
theorem zE7 (a : D) : zDq a a = true:=by
 unfold zDq
 rw [zBv,zA7 fun i _ => by simp [intEq]]; rfl
theorem zFH (a : D) : inEq7 a a = true:=by
 unfold inEq7
 rw [zBv,zE7,zE2,zA7 fun i _ => zCh _]; simp
theorem fdEq7_self (a : D) : fdEq7 a a = true:=by
 unfold fdEq7
 rw [zBv,zE7,zA7 fun i _ => zFH _,zA7 fun i _ => zCh _]; rfl
theorem mbEq7_self (a : D) : mbEq7 a a = true:=by
 unfold mbEq7
 rw [zBv,zA7 fun i _ => zCh _]; rfl
theorem dfEq7_self (a : D) : dfEq7 a a = true:=by
 unfold dfEq7
 rw [zBv,zA7 fun i _ => zBv _,zA7 fun i _ => zCh _,zA7 fun i _ => fdEq7_self _,zA7 fun i _ => zFH _,zA7 fun i _ => mbEq7_self _]; simp
theorem zE6 (a : D) : zDT a a = true:=by
 unfold zDT
 exact zA7 fun i _ => dfEq7_self _
theorem arg7_eq {j1 j2 : Nat} {a b : D} (ha : ArgP a) (hb : ArgP b) (fa : Fits Tryd.prog j1 67 a) (fb : Fits Tryd.prog j2 67 b) (h : argEq a b = true) : a = b:=by
 have ha:=ha.val.lit
 have hb:=hb.val.lit
 unfold argEq at h
 rw [Bool.and_eq_true] at h
 obtain ⟨j,l,rfl,hl,hf⟩:=zAp Tryd.underlying67 fa
 obtain ⟨j',l',rfl,hl',hf'⟩:=zAp Tryd.underlying67 fb
 have hl : l.length = 2:=hl
 have hl' : l'.length = 2:=hl'
 obtain ⟨s0,e0⟩:=zAn (hf 0 _ rfl)
 obtain ⟨s0',e0'⟩:=zAn (hf' 0 _ rfl)
 have f1 : Fits Tryd.prog j 44 (gD l 1):=hf 1 _ rfl
 have f1' : Fits Tryd.prog j' 44 (gD l' 1):=hf' 1 _ rfl
 have c0 : sEq (gD l 0) (gD l' 0) = true:=h.1
 rw [e0,e0'] at c0
 have c1:=lit_eq (a:=gD l 1) (b:=gD l' 1) ha hb f1 f1' h.2
 rw [len2 hl,len2 hl',e0,e0',zDi c0,c1]
theorem dir7_eq {j1 j2 : Nat} {a b : D} (ha : DirP a) (hb : DirP b) (fa : Fits Tryd.prog j1 64 a) (fb : Fits Tryd.prog j2 64 b) (h : dirEq a b = true) : a = b:=by
 have ha:=ha.args
 have hb:=hb.args
 unfold dirEq at h
 rw [Bool.and_eq_true] at h
 obtain ⟨j,l,rfl,hl,hf⟩:=zAp Tryd.underlying64 fa
 obtain ⟨j',l',rfl,hl',hf'⟩:=zAp Tryd.underlying64 fb
 have hl : l.length = 2:=hl
 have hl' : l'.length = 2:=hl'
 obtain ⟨s0,e0⟩:=zAn (hf 0 _ rfl)
 obtain ⟨s0',e0'⟩:=zAn (hf' 0 _ rfl)
 obtain ⟨j1,l1,e1,h1⟩:=zAW Tryd.underlying62 (hf 1 _ rfl)
 obtain ⟨j1',l1',e1',h1'⟩:=zAW Tryd.underlying62 (hf' 1 _ rfl)
 have c0 : sEq (gD l 0) (gD l' 0) = true:=h.1
 rw [e0,e0'] at c0
 have c1 : eqL argEq (gD l 1).l (gD l' 1).l = true:=h.2
 have ha2 : ∀ i,i < (gD l 1).l.length -> ArgP (gD (gD l 1).l i):=ha
 have hb2 : ∀ i,i < (gD l' 1).l.length -> ArgP (gD (gD l' 1).l i):=hb
 rw [e1] at c1 ha2
 rw [e1'] at c1 hb2
 have c1 : eqL argEq l1 l1' = true:=c1
 have hlen:=(zBg.1 c1).1
 have c1 : l1 = l1':=zBz c1 fun i hi => arg7_eq (ha2 i hi) (hb2 i (show i < l1'.length by omega)) (h1 i hi) (h1' i (by omega))
 rw [len2 hl,len2 hl',e0,e0',e1,e1',zDi c0,c1]
theorem zD2 {j1 j2 : Nat} {l m : List D} (ha : DirsP l) (hb : DirsP m) (fa : ∀ i,i < l.length -> Fits Tryd.prog j1 64 (gD l i)) (fb : ∀ i,i < m.length -> Fits Tryd.prog j2 64 (gD m i)) (h : eqL dirEq l m = true) : l = m:=by
 have hl:=(zBg.1 h).1
 exact zBz h fun i hi => dir7_eq (ha.dirs i hi) (hb.dirs i (by omega)) (fa i hi) (fb i (by omega))
theorem ref7_eq {j1 j2 : Nat} {a b : D} (fa : Fits Tryd.prog j1 38 a) (fb : Fits Tryd.prog j2 38 b) (h : zDq a b = true) : a = b:=by
 unfold zDq at h
 rw [Bool.and_eq_true] at h
 obtain ⟨j,l,rfl,hl,hf⟩:=zAp Tryd.underlying38 fa
 obtain ⟨j',l',rfl,hl',hf'⟩:=zAp Tryd.underlying38 fb
 have hl : l.length = 2:=hl
 have hl' : l'.length = 2:=hl'
 obtain ⟨s0,e0⟩:=zAn (hf 0 _ rfl)
 obtain ⟨s0',e0'⟩:=zAn (hf' 0 _ rfl)
 obtain ⟨j1,l1,e1,h1⟩:=zAW Tryd.underlying36 (hf 1 _ rfl)
 obtain ⟨j1',l1',e1',h1'⟩:=zAW Tryd.underlying36 (hf' 1 _ rfl)
 have c0 : sEq (gD l 0) (gD l' 0) = true:=h.1
 rw [e0,e0'] at c0
 have c1 : eqL intEq (gD l 1).l (gD l' 1).l = true:=h.2
 rw [e1,e1'] at c1
 have c1 : eqL intEq l1 l1' = true:=c1
 have hlen:=(zBg.1 c1).1
 have c1 : l1 = l1':=zBz c1 fun i hi q => by
  obtain ⟨x,ex⟩:=zBy (h1 i hi)
  obtain ⟨y,ey⟩:=zBy (h1' i (by omega))
  rw [ex,ey] at q |-
  have q : x = y:=eq_of_beq (show (x == y) = true from q)
  rw [q]
 rw [len2 hl,len2 hl',e0,e0',e1,e1',zDi c0,c1]
theorem in7_eq {j1 j2 : Nat} {a b : D} (ha : InP a) (hb : InP b) (fa : Fits Tryd.prog j1 76 a) (fb : Fits Tryd.prog j2 76 b) (h : inEq7 a b = true) : a = b:=by
 have va:=ha.val.lit
 have vb:=hb.val.lit
 have da:=ha.dirs
 have db:=hb.dirs
 clear ha hb
 unfold inEq7 at h
 simp only [Bool.and_eq_true] at h
 obtain ⟨c0,c1,c2,c3,c4⟩:=h
 obtain ⟨j,l,rfl,hl,hf⟩:=zAp Tryd.underlying76 fa
 obtain ⟨j',l',rfl,hl',hf'⟩:=zAp Tryd.underlying76 fb
 have hl : l.length = 5:=hl
 have hl' : l'.length = 5:=hl'
 obtain ⟨s0,e0⟩:=zAn (hf 0 _ rfl)
 obtain ⟨s0',e0'⟩:=zAn (hf' 0 _ rfl)
 have f1 : Fits Tryd.prog j 38 (gD l 1):=hf 1 _ rfl
 have f1' : Fits Tryd.prog j' 38 (gD l' 1):=hf' 1 _ rfl
 obtain ⟨b2,e2⟩:=fits_b (hf 2 _ rfl)
 obtain ⟨b2',e2'⟩:=fits_b (hf' 2 _ rfl)
 have f3 : Fits Tryd.prog j 44 (gD l 3):=hf 3 _ rfl
 have f3' : Fits Tryd.prog j' 44 (gD l' 3):=hf' 3 _ rfl
 obtain ⟨j4,l4,e4,h4⟩:=zAW Tryd.underlying30 (hf 4 _ rfl)
 obtain ⟨j4',l4',e4',h4'⟩:=zAW Tryd.underlying30 (hf' 4 _ rfl)
 have c0 : sEq (gD l 0) (gD l' 0) = true:=c0
 rw [e0,e0'] at c0
 have c1 : gD l 1 = gD l' 1:=ref7_eq f1 f1' c1
 have c2 : ((gD l 2).b == (gD l' 2).b) = true:=c2
 rw [e2,e2'] at c2
 have c2 : b2 = b2':=eq_of_beq (show (b2 == b2') = true from c2)
 have c3 : gD l 3 = gD l' 3:=lit_eq va vb f3 f3' c3
 have da : DirsP (gD l 4).l:=da
 have db : DirsP (gD l' 4).l:=db
 have c4 : eqL dirEq (gD l 4).l (gD l' 4).l = true:=c4
 rw [e4] at c4 da
 rw [e4'] at c4 db
 have c4 : l4 = l4':=zD2 da db h4 h4' c4
 rw [len5 hl,len5 hl',e0,e0',c1,e2,e2',c3,e4,e4',zDi c0,c2,c4]
theorem ins7_eq {j1 j2 : Nat} {l m : List D} (ha : InsP l) (hb : InsP m) (fa : ∀ i,i < l.length -> Fits Tryd.prog j1 76 (gD l i)) (fb : ∀ i,i < m.length -> Fits Tryd.prog j2 76 (gD m i)) (h : eqL inEq7 l m = true) : l = m:=by
 have hl:=(zBg.1 h).1
 exact zBz h fun i hi => in7_eq (ha.ins i hi) (hb.ins i (by omega)) (fa i hi) (fb i (by omega))
theorem fd7_eq {j1 j2 : Nat} {a b : D} (ha : FdP a) (hb : FdP b) (fa : Fits Tryd.prog j1 40 a) (fb : Fits Tryd.prog j2 40 b) (h : fdEq7 a b = true) : a = b:=by
 have ia:=ha.args
 have ib:=hb.args
 have da:=ha.dirs
 have db:=hb.dirs
 clear ha hb
 unfold fdEq7 at h
 simp only [Bool.and_eq_true] at h
 obtain ⟨c0,c2,c1,c3⟩:=h
 obtain ⟨j,l,rfl,hl,hf⟩:=zAp Tryd.underlying40 fa
 obtain ⟨j',l',rfl,hl',hf'⟩:=zAp Tryd.underlying40 fb
 have hl : l.length = 4:=hl
 have hl' : l'.length = 4:=hl'
 obtain ⟨s0,e0⟩:=zAn (hf 0 _ rfl)
 obtain ⟨s0',e0'⟩:=zAn (hf' 0 _ rfl)
 obtain ⟨j1,l1,e1,h1⟩:=zAW Tryd.underlying33 (hf 1 _ rfl)
 obtain ⟨j1',l1',e1',h1'⟩:=zAW Tryd.underlying33 (hf' 1 _ rfl)
 have f2 : Fits Tryd.prog j 38 (gD l 2):=hf 2 _ rfl
 have f2' : Fits Tryd.prog j' 38 (gD l' 2):=hf' 2 _ rfl
 obtain ⟨j4,l4,e4,h4⟩:=zAW Tryd.underlying30 (hf 3 _ rfl)
 obtain ⟨j4',l4',e4',h4'⟩:=zAW Tryd.underlying30 (hf' 3 _ rfl)
 have c0 : sEq (gD l 0) (gD l' 0) = true:=c0
 rw [e0,e0'] at c0
 have c2 : gD l 2 = gD l' 2:=ref7_eq f2 f2' c2
 have ia : InsP (gD l 1).l:=ia
 have ib : InsP (gD l' 1).l:=ib
 have c1 : eqL inEq7 (gD l 1).l (gD l' 1).l = true:=c1
 rw [e1] at c1 ia
 rw [e1'] at c1 ib
 have c1 : l1 = l1':=ins7_eq ia ib h1 h1' c1
 have da : DirsP (gD l 3).l:=da
 have db : DirsP (gD l' 3).l:=db
 have c4 : eqL dirEq (gD l 3).l (gD l' 3).l = true:=c3
 rw [e4] at c4 da
 rw [e4'] at c4 db
 have c4 : l4 = l4':=zD2 da db h4 h4' c4
 rw [len4 hl,len4 hl',e0,e0',c2,e1,e1',e4,e4',zDi c0,c1,c4]
theorem mb7_eq {j1 j2 : Nat} {u v : Bool} {a b : D} (ha : MbP u a) (hb : MbP v b) (fa : Fits Tryd.prog j1 53 a) (fb : Fits Tryd.prog j2 53 b) (h : mbEq7 a b = true) : a = b:=by
 have da:=ha.dirs
 have db:=hb.dirs
 clear ha hb
 unfold mbEq7 at h
 simp only [Bool.and_eq_true] at h
 obtain ⟨c0,c3⟩:=h
 obtain ⟨j,l,rfl,hl,hf⟩:=zAp Tryd.underlying53 fa
 obtain ⟨j',l',rfl,hl',hf'⟩:=zAp Tryd.underlying53 fb
 have hl : l.length = 2:=hl
 have hl' : l'.length = 2:=hl'
 obtain ⟨s0,e0⟩:=zAn (hf 0 _ rfl)
 obtain ⟨s0',e0'⟩:=zAn (hf' 0 _ rfl)
 obtain ⟨j4,l4,e4,h4⟩:=zAW Tryd.underlying30 (hf 1 _ rfl)
 obtain ⟨j4',l4',e4',h4'⟩:=zAW Tryd.underlying30 (hf' 1 _ rfl)
 have c0 : sEq (gD l 0) (gD l' 0) = true:=c0
 rw [e0,e0'] at c0
 have da : DirsP (gD l 1).l:=da
 have db : DirsP (gD l' 1).l:=db
 have c4 : eqL dirEq (gD l 1).l (gD l' 1).l = true:=c3
 rw [e4] at c4 da
 rw [e4'] at c4 db
 have c4 : l4 = l4':=zD2 da db h4 h4' c4
 rw [len2 hl,len2 hl',e0,e0',e4,e4',zDi c0,c4]
theorem strs7_eq {j1 j2 : Nat} {l m : List D} (fa : ∀ i,i < l.length -> Fits Tryd.prog j1 9 (gD l i)) (fb : ∀ i,i < m.length -> Fits Tryd.prog j2 9 (gD m i)) (h : eqL sEq l m = true) : l = m:=by
 have hl:=(zBg.1 h).1
 exact zBz h fun i hi q => by
  obtain ⟨x,ex⟩:=zAn (fa i hi)
  obtain ⟨y,ey⟩:=zAn (fb i (by omega))
  rw [ex,ey] at q |-
  rw [zDi q]
theorem df7_eq {j1 j2 : Nat} {a b : D} (ha : DefP a) (hb : DefP b) (fa : Fits Tryd.prog j1 35 a) (fb : Fits Tryd.prog j2 35 b) (h : dfEq7 a b = true) : a = b:=by
 have da:=ha.dirs
 have db:=hb.dirs
 have pa:=ha.fds
 have pb:=hb.fds
 have ma:=ha.mbs
 have mb:=hb.mbs
 have ia:=ha.ins
 have ib:=hb.ins
 clear ha hb
 unfold dfEq7 at h
 simp only [Bool.and_eq_true] at h
 obtain ⟨c0,c1,c2,c3,c4,c6,c5⟩:=h
 generalize ((a.f 0).n == 3) = u at ma
 generalize ((b.f 0).n == 3) = v at mb
 obtain ⟨j,l,rfl,hl,hf⟩:=zAp Tryd.underlying35 fa
 obtain ⟨j',l',rfl,hl',hf'⟩:=zAp Tryd.underlying35 fb
 have hl : l.length = 7:=hl
 have hl' : l'.length = 7:=hl'
 obtain ⟨n0,e0⟩:=zBy (hf 0 _ rfl)
 obtain ⟨n0',e0'⟩:=zBy (hf' 0 _ rfl)
 obtain ⟨s1,e1⟩:=zAn (hf 1 _ rfl)
 obtain ⟨s1',e1'⟩:=zAn (hf' 1 _ rfl)
 obtain ⟨j2,l2,e2,h2⟩:=zAW Tryd.underlying29 (hf 2 _ rfl)
 obtain ⟨j2',l2',e2',h2'⟩:=zAW Tryd.underlying29 (hf' 2 _ rfl)
 obtain ⟨j3,l3,e3,h3⟩:=zAW Tryd.underlying30 (hf 3 _ rfl)
 obtain ⟨j3',l3',e3',h3'⟩:=zAW Tryd.underlying30 (hf' 3 _ rfl)
 obtain ⟨j4,l4,e4,h4⟩:=zAW Tryd.underlying31 (hf 4 _ rfl)
 obtain ⟨j4',l4',e4',h4'⟩:=zAW Tryd.underlying31 (hf' 4 _ rfl)
 obtain ⟨j5,l5,e5,h5⟩:=zAW Tryd.underlying32 (hf 5 _ rfl)
 obtain ⟨j5',l5',e5',h5'⟩:=zAW Tryd.underlying32 (hf' 5 _ rfl)
 obtain ⟨j6,l6,e6,h6⟩:=zAW Tryd.underlying33 (hf 6 _ rfl)
 obtain ⟨j6',l6',e6',h6'⟩:=zAW Tryd.underlying33 (hf' 6 _ rfl)
 have el:=len7 hl
 rw [e0,e1,e2,e3,e4,e5,e6] at el
 have el':=len7 hl'
 rw [e0',e1',e2',e3',e4',e5',e6'] at el'
 clear hf hf' hl hl' e0 e1 e2 e3 e4 e5 e6 e0' e1' e2' e3' e4' e5' e6'
 subst el
 subst el'
 have c0 : n0 = n0':=eq_of_beq (show (n0 == n0') = true from c0)
 have c1 : s1 = s1':=zDi c1
 have c2 : l2 = l2':=strs7_eq h2 h2' c2
 have c3 : l3 = l3':=zD2 da db h3 h3' c3
 have c4 : eqL fdEq7 l4 l4' = true:=c4
 have hlen:=(zBg.1 c4).1
 have pa : ∀ i,i < l4.length -> FdP (gD l4 i):=pa
 have pb : ∀ i,i < l4'.length -> FdP (gD l4' i):=pb
 have c4 : l4 = l4':=zBz c4 fun i hi => fd7_eq (pa i hi) (pb i (by omega)) (h4 i hi) (h4' i (by omega))
 have c5 : eqL mbEq7 l5 l5' = true:=c5
 have hlen:=(zBg.1 c5).1
 have ma : ∀ i,i < l5.length -> MbP u (gD l5 i):=ma
 have mb : ∀ i,i < l5'.length -> MbP v (gD l5' i):=mb
 have c5 : l5 = l5':=zBz c5 fun i hi => mb7_eq (ma i hi) (mb i (by omega)) (h5 i hi) (h5' i (by omega))
 have c6 : l6 = l6':=ins7_eq ia ib h6 h6' c6
 rw [c0,c1,c2,c3,c4,c5,c6]
theorem sd7_eq {j1 j2 : Nat} {a b : D} (ha : docY litR (a.f 0).l = true) (hb : docY litR (b.f 0).l = true) (fa : Fits Tryd.prog j1 24 a) (fb : Fits Tryd.prog j2 24 b) (h : zDT a b = true) : a = b:=by
 obtain ⟨n1,n2,pa⟩:=docP ha
 obtain ⟨m1,m2,pb⟩:=docP hb
 clear ha hb
 unfold zDT at h
 obtain ⟨j,l,rfl,hl,hf⟩:=zAp Tryd.underlying24 fa
 obtain ⟨j',l',rfl,hl',hf'⟩:=zAp Tryd.underlying24 fb
 have hl : l.length = 1:=hl
 have hl' : l'.length = 1:=hl'
 obtain ⟨j0,l0,e0,h0⟩:=zAW Tryd.underlying22 (hf 0 _ rfl)
 obtain ⟨j0',l0',e0',h0'⟩:=zAW Tryd.underlying22 (hf' 0 _ rfl)
 have h : eqL dfEq7 (gD l 0).l (gD l' 0).l = true:=h
 have pa : ∀ i,i < (gD l 0).l.length -> DefP (gD (gD l 0).l i):=pa
 have pb : ∀ i,i < (gD l' 0).l.length -> DefP (gD (gD l' 0).l i):=pb
 rw [e0] at h pa
 rw [e0'] at h pb
 have h : eqL dfEq7 l0 l0' = true:=h
 have hlen:=(zBg.1 h).1
 have c : l0 = l0':=zBz h fun i hi => df7_eq (pa i hi) (pb i (show i < l0'.length by omega)) (h0 i hi) (h0' i (by omega))
 have e1 : ∀ x : List D,x.length = 1 -> x = [gD x 0]:=fun x hx => by
  match x,hx with
  | [y],_ => rfl
 rw [e1 l hl,e1 l' hl',e0,e0',c]
end Go.Proofs.YtdlnnlglmifceaaDoor
namespace Go.Proofs.YtdlnnlglmifceaaDoor
open Go.RowKit
set_option linter.unusedSectionVars false
attribute [local irreducible] wpList Calls Code.wp AW AWo OpOk seqK zAf zAj loopK endK AC zAH Yld Sub
attribute [local irreducible] ACB ACX YldG absLexH
theorem chain2 : ∀ a b : Bool,a = false \/ (a = true /\ b = false) \/ (a = true /\ b = true):=by decide
theorem chain4 : ∀ a b c d : Bool,a = false \/ (a = true /\ b = false) \/ (a = true /\ b = true /\ c = false) \/ (a = true /\ b = true /\ c = true /\ d = false) \/ (a = true /\ b = true /\ c = true /\ d = true):=by decide
theorem b_t {t e : Bool} (h : e = true) (ht : t = !e) : t = false /\ (t == false) = true /\ ((t == false) = false -> False):=by subst h; subst ht; exact ⟨rfl,rfl,fun h => by cases h⟩
theorem b_f {t e : Bool} (h : e = false) (ht : t = !e) : t = true /\ (t == false) = false /\ ((t == false) = true -> False):=by subst h; subst ht; exact ⟨rfl,rfl,fun h => by cases h⟩
end Go.Proofs.YtdlnnlglmifceaaDoor
namespace Go.Proofs.YtdlnnlglmifceaaDoor
theorem good_of : ∀ (K m : Nat) (d : D),everyL m d = true -> goodV K d
 | 0,_,_,_ => trivial
 | K + 1,0,_,h => by cases h
 | K + 1,m + 1,d,h => by
   obtain ⟨hn,hi⟩:=zCg h
   exact ⟨hn.bool,fun i hl => good_of K m _ (hi i hl)⟩
theorem zH4 {K : Nat} {d : D} (h : litR d = true) : goodV K d:=by
 unfold litR at h
 rw [Bool.and_eq_true] at h
 exact good_of K _ d h.2
theorem in_bulk {l : List D} {i : Nat} (h : i < l.length) (j : Nat) : bulkD ((gD l i).f j) <= bulkL l /\ bulkL ((gD l i).f j).l <= bulkL l:=by
 have h1:=zAa h
 have h2:=wD_f (gD l i) j
 have h3:=zy (gD l i)
 have h4:=zy ((gD l i).f j)
 have h5:=zAE ((gD l i).f j)
 omega
section
variable {K : Nat} (hK : 1048576 <= K)
include hK
theorem argsOk_of {l : List D} (h : zEn l = true) (hw : ∀ i,wideD (gD l i)) (hb : bulkL l <= 1048576) : ArgsOk K l:=
 ⟨hw,hb,fun i hi => zBS K _ (by have:=(in_bulk hi 1).1; omega),fun i hi => zH4 ((zEm h).2 i hi).2⟩
theorem zGs {l : List D} (h : zF7 l = true) (hw : ∀ i,wideD (gD l i)) (hb : bulkL l <= 1048576) : DirsOk K l:=
 ⟨hw,hb,fun i hi => argsOk_of hK ((zGr h).2 i hi).2 (fun q => ((hw i).f 1).l q) (by have:=(in_bulk hi 1).2; omega)⟩
end
end Go.Proofs.YtdlnnlglmifceaaDoor
