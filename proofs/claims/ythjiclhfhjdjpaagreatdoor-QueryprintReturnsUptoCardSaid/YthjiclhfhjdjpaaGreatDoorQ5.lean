import Derived.Lib.Strings
import Derived.Test.YthjiclhfhjdjpaaGreatDoorQ4
set_option linter.unusedVariables false
set_option linter.unusedSimpArgs false
namespace Go.Proofs.YthjiclhfhjdjpaaGreatDoor
def bV (s : ByteArray) (i : Nat) : Int:=((s.data.toList.getD i 0).toNat : Int)
theorem zCl (s : ByteArray) (i : Nat) : 0 <= bV s i /\ bV s i <= 255:=by
 unfold bV
 have:=(s.data.toList.getD i 0).toNat_lt
 omega
theorem zHq {s : ByteArray} {i : Nat} (h : i < s.size) : ((s[i]'h).toNat : Int) = bV s i:=by
 unfold bV
 have h' : i < s.data.toList.length:=by simpa using h
 rw [List.getD_eq_getElem?_getD,List.getElem?_eq_getElem h']
 rfl
def letB (v : Int) : Bool:=decide (65 <= v /\ v <= 90 \/ 97 <= v /\ v <= 122 \/ v = 95)
def digB (v : Int) : Bool:=decide (48 <= v /\ v <= 57)
def nameB (s : ByteArray) : Bool:=decide (0 < s.size /\ s.size <= 64 /\ digB (bV s 0) = false /\ ∀ i,i < s.size -> (letB (bV s i) || digB (bV s i)) = true)
theorem zJT {s : ByteArray} (h : ¬ (0 < s.size /\ s.size <= 64)) : nameB s = false:=decide_eq_false fun h' => h ⟨h'.1,h'.2.1⟩
theorem nameB_dig {s : ByteArray} (h : digB (bV s 0) = true) : nameB s = false:=decide_eq_false fun h' => by rw [h'.2.2.1] at h; cases h
theorem nameB_at {s : ByteArray} {i : Nat} (hi : i < s.size) (h : (letB (bV s i) || digB (bV s i)) = false) : nameB s = false:=decide_eq_false fun h' => by rw [h'.2.2.2 i hi] at h; cases h
theorem nameB_yes {s : ByteArray} (h0 : 0 < s.size) (h1 : s.size <= 64) (h2 : digB (bV s 0) = false) (h3 : ∀ i,i < s.size -> (letB (bV s i) || digB (bV s i)) = true) : nameB s = true:=decide_eq_true ⟨h0,h1,h2,h3⟩
theorem letB_true {v : Int} (h : 65 <= v /\ v <= 90 \/ 97 <= v /\ v <= 122 \/ v = 95) : letB v = true:=decide_eq_true h
theorem letB_false {v : Int} (h : ¬ (65 <= v /\ v <= 90 \/ 97 <= v /\ v <= 122 \/ v = 95)) : letB v = false:=decide_eq_false h
theorem zHd {v : Int} (h : 48 <= v /\ v <= 57) : digB v = true:=decide_eq_true h
theorem zCi {v : Int} (h : ¬ (48 <= v /\ v <= 57)) : digB v = false:=decide_eq_false h
theorem nm_cases (v : Int) : v < 48 \/ (48 <= v /\ v <= 57) \/ (58 <= v /\ v <= 64) \/ (65 <= v /\ v <= 90) \/ (91 <= v /\ v <= 94) \/ v = 95 \/ v = 96 \/ (97 <= v /\ v <= 122) \/ 123 <= v:=by omega
inductive Lex : List UInt8 -> List (Int × List UInt8) -> Prop where
 | done {l : List UInt8} (h : l.drop (skipM false l) = []) : Lex l []
 | tok {l : List UInt8} {c : UInt8} {r : List UInt8} {k : Int} {s : List UInt8} {n : Nat} {ks : List (Int × List UInt8)} (h : l.drop (skipM false l) = c :: r) (ht : readU (c :: r) = .ok (k,s,n)) (hr : Lex ((c :: r).drop n) ks) : Lex l ((k,s) :: ks)
def bare (t : Tok) : Int × List UInt8:=(t.k,t.s)
def endK5 : Int × List UInt8:=(5,[])
theorem readT_any {l : List UInt8} {k : Int} {s : List UInt8} {n : Nat} (h : readU l = .ok (k,s,n)) (j : Nat) : zD8 l j = .ok (⟨k,s,j⟩,n):=by
 unfold zD8
 rw [h]
theorem Lex.scan {l : List UInt8} {ks : List (Int × List UInt8)} (h : Lex l ks) : ∀ (f i : Nat),l.length < f -> ∃ ts,scanF f l i = .ok ts /\ ts.map bare = ks ++ [endK5]:=by
 induction h with
 | done h =>
   intro f i hf
   cases f with
   | zero => omega
   | succ f =>
     exact ⟨[⟨5,[],i + _⟩],by unfold scanF; rw [h],rfl⟩
 | tok h ht hr ih =>
   rename_i l c r k s n ks
   intro f i hf
   cases f with
   | zero => omega
   | succ f =>
     have hn:=zEF ht
     have hlen : (c :: r).length <= l.length:=by rw [<- h,List.length_drop]; omega
     obtain ⟨ts,h1,h2⟩:=ih f (i + skipM false l + n) (by rw [List.length_drop]; omega)
     refine ⟨⟨k,s,i + skipM false l⟩ :: ts,?_,?_⟩
     . unfold scanF
       rw [h]
       dsimp only
       rw [readT_any ht]
       dsimp only
       rw [h1]
     . rw [List.map_cons,h2]; rfl
def bnd (l : List UInt8) : Prop:=∀ c,l.head? = some c -> wrdU c = false
theorem zIn : bnd []:=fun _ h => by cases h
theorem zAX {c : UInt8} {r : List UInt8} (h : wrdU c = false) : bnd (c :: r):=fun _ e => by cases e; exact h
def Ps (t : List UInt8) (ks : List (Int × List UInt8)) : Prop:=∀ r kr,Lex r kr -> Lex (t ++ r) (ks ++ kr)
def Pw (t : List UInt8) (ks : List (Int × List UInt8)) : Prop:=∀ r kr,bnd r -> Lex r kr -> Lex (t ++ r) (ks ++ kr)
theorem Ps.w {t : List UInt8} {ks : List (Int × List UInt8)} (h : Ps t ks) : Pw t ks:=fun r kr _ hr => h r kr hr
theorem Ps.nil : Ps [] []:=fun _ _ h => h
theorem Ps.app {a b : List UInt8} {ka kb : List (Int × List UInt8)} (h : Ps a ka) (k : Ps b kb) : Ps (a ++ b) (ka ++ kb):=fun r kr hr => by
 rw [List.append_assoc,List.append_assoc]; exact h _ _ (k r kr hr)
theorem Ps.appw {a b : List UInt8} {ka kb : List (Int × List UInt8)} (h : Ps a ka) (k : Pw b kb) : Pw (a ++ b) (ka ++ kb):=fun r kr hb hr => by
 rw [List.append_assoc,List.append_assoc]; exact h _ _ (k r kr hb hr)
theorem Pw.app {a b : List UInt8} {ka kb : List (Int × List UInt8)} (h : Pw a ka) (k : Ps b kb) (hb : b ≠ [] /\ bnd b) : Ps (a ++ b) (ka ++ kb):=fun r kr hr => by
 rw [List.append_assoc,List.append_assoc]
 refine h _ _ (fun c hc => hb.2 c ?_) (k r kr hr)
 cases b with
 | nil => exact (hb.1 rfl).elim
 | cons x y => exact hc
theorem Pw.appw {a b : List UInt8} {ka kb : List (Int × List UInt8)} (h : Pw a ka) (k : Pw b kb) (hb : bnd b) : Pw (a ++ b) (ka ++ kb):=fun r kr hr hl => by
 rw [List.append_assoc,List.append_assoc]
 refine h _ _ (fun c hc => ?_) (k r kr hr hl)
 cases b with
 | nil => exact hr c hc
 | cons x y => exact hb c hc
theorem Lex.sep {c : UInt8} {r : List UInt8} {kr : List (Int × List UInt8)} (hc : sepB c = true) (h : Lex r kr) : Lex (c :: r) kr:=by
 have e : (c :: r).drop (skipM false (c :: r)) = r.drop (skipM false r):=by
  rw [skipM,if_pos hc,List.drop_succ_cons]
 cases h with
 | done h => exact .done (by rw [e]; exact h)
 | tok h ht hr => exact .tok (by rw [e]; exact h) ht hr
theorem Ps.sep {c : UInt8} (hc : sepB c = true) : Ps [c] []:=fun _ _ h => h.sep hc
theorem zFJ (c : UInt8) : zAc c = true -> sepB c = false /\ (c == 35) = false /\ wrdU c = false:=
 zD4 (p:=fun c => zAc c = true -> sepB c = false /\ (c == 35) = false /\ wrdU c = false) (by decide +kernel) c
theorem zEU {c : UInt8} {r : List UInt8} (h : sepB c = false) (h2 : (c == 35) = false) : skipM false (c :: r) = 0:=by
 rw [skipM,if_neg (by rw [h]; decide),if_neg (by rw [h2]; decide)]
theorem Ps.sign {c : UInt8} (hc : zAc c = true) : Ps [c] [(1,[c])]:=fun r kr h => by
 obtain ⟨h1,h2,-⟩:=zFJ c hc
 refine .tok (l:=c :: r) (c:=c) (r:=r) (n:=1) (by rw [zEU h1 h2]; rfl) ?_ h
 unfold readU
 simp only [hc,if_true]
theorem Ps.dots : Ps [46,46,46] [(1,[46,46,46])]:=fun r kr h => by
 refine .tok (l:=46 :: 46 :: 46 :: r) (c:=46) (r:=46 :: 46 :: r) (n:=3) rfl ?_ h
 unfold readU
 simp only [show zAc 46 = false from rfl,Bool.false_eq_true,if_false,show ((46 : UInt8) == 46) = true from rfl,if_true,List.take_succ_cons,List.take_zero]
def nameU (l : List UInt8) : Bool:=match l with | [] => false | c :: r => letU c && r.all wrdU && decide (r.length < 64)
theorem let_plain (c : UInt8) : letU c = true -> sepB c = false /\ (c == 35) = false /\ zAc c = false /\ (c == 46) = false /\ (c == 45 || digU c) = false /\ wrdU c = true:=
 zD4 (p:=fun c => letU c = true -> sepB c = false /\ (c == 35) = false /\ zAc c = false /\ (c == 46) = false /\ (c == 45 || digU c) = false /\ wrdU c = true) (by decide +kernel) c
theorem zFx {p : UInt8 -> Bool} : ∀ (l r : List UInt8),l.all p = true -> (∀ c,r.head? = some c -> p c = false) -> spanN p (l ++ r) = l.length
 | [],[],_,_ => rfl
 | [],c :: r,_,h => by
   show spanN p (c :: r) = 0
   rw [spanN,if_neg (by rw [h c rfl]; decide)]
 | c :: l,r,ha,h => by
   rw [List.all_cons,Bool.and_eq_true] at ha
   rw [List.cons_append,spanN,if_pos ha.1,zFx l r ha.2 h,List.length_cons]
theorem Pw.name {l : List UInt8} (h : nameU l = true) : Pw l [(2,l)]:=fun r kr hb hr => by
 cases l with
 | nil => cases h
 | cons c q =>
   simp only [nameU,Bool.and_eq_true,decide_eq_true_eq] at h
   obtain ⟨⟨h1,h2⟩,h3⟩:=h
   obtain ⟨p1,p2,p3,p4,p5,p6⟩:=let_plain c h1
   have hs:=zFx q r h2 hb
   refine .tok (l:=c :: (q ++ r)) (c:=c) (r:=q ++ r) (n:=q.length + 1) (by rw [zEU p1 p2]; rfl) ?_ (by rw [List.drop_succ_cons,List.drop_left]; exact hr)
   unfold readU
   simp only [p3,p4,p5,h1,hs,Bool.false_eq_true,if_false,if_true,List.take_left]
   rw [if_neg (by omega)]
theorem zJr : ∀ {l : List UInt8},l.all digU = true -> l.all wrdU = true:=fun {l} h => by
 rw [List.all_eq_true] at h |-
 intro x hx
 unfold wrdU
 rw [h x hx,Bool.or_true]
theorem num_plain (c : UInt8) : (c == 45 || digU c) = true -> sepB c = false /\ (c == 35) = false /\ zAc c = false /\ (c == 46) = false:=
 zD4 (p:=fun c => (c == 45 || digU c) = true -> sepB c = false /\ (c == 35) = false /\ zAc c = false /\ (c == 46) = false) (by decide +kernel) c
theorem Pw.num {l : List UInt8} {n : Int} (h : numU l = .ok n) (h1 : ∃ c q,l = c :: q /\ (c == 45 || digU c) = true /\ q.all wrdU = true) : Pw l [(3,l)]:=fun r kr hb hr => by
 obtain ⟨c,q,rfl,h2,h3⟩:=h1
 obtain ⟨p1,p2,p3,p4⟩:=num_plain c h2
 have hs:=zFx q r h3 hb
 refine .tok (l:=c :: (q ++ r)) (c:=c) (r:=q ++ r) (n:=q.length + 1) (by rw [zEU p1 p2]; rfl) ?_ (by rw [List.drop_succ_cons,List.drop_left]; exact hr)
 unfold readU
 simp only [p3,p4,h2,hs,Bool.false_eq_true,if_false,if_true,List.take_left,h,nerU]
theorem itoa_shape (n : Int) : ∃ c q,Lib.itoa n = c :: q /\ (c == 45 || digU c) = true /\ q.all wrdU = true:=by
 unfold Lib.itoa
 split
 . exact ⟨45,_,rfl,rfl,zJr (zEz _)⟩
 . have h:=zEz n.toNat
   cases hd : Lib.decDigits n.toNat with
   | nil => exact (zJt _ hd).elim
   | cons c q =>
     rw [hd,List.all_cons,Bool.and_eq_true] at h
     exact ⟨c,q,rfl,by rw [h.1,Bool.or_true],zJr h.2⟩
theorem Pw.int (n : Int) (h0 : -9223372036854775808 <= n) (h1 : n <= 9223372036854775807) : Pw (Lib.itoa n) [(3,Lib.itoa n)]:=Pw.num (zJR n h0 h1) (itoa_shape n)
theorem lit_esc (c : UInt8) (r : List UInt8) : litN (escU c ++ r) = (litN r).map (· + (escU c).length):=
 zD4 (p:=fun c => ∀ r,litN (escU c ++ r) = (litN r).map (· + (escU c).length)) (fun i => by
  revert i
  have key : ∀ (c : UInt8) (r : List UInt8),(c == 34) = false -> (c == 92) = false -> litN (c :: r) = (litN r).map (· + 1):=fun c r h h2 => by
   cases r with
   | nil => unfold litN; simp only [h,Bool.false_eq_true,if_false]; rfl
   | cons d r => rw [litN]; simp only [h,h2,Bool.false_eq_true,if_false]
  have key2 : ∀ (c : UInt8) (r : List UInt8),litN (92 :: c :: r) = (litN r).map (· + 2):=fun c r => by
   rw [litN]
   simp only [show ((92 : UInt8) == 34) = false from rfl,Bool.false_eq_true,if_false,show ((92 : UInt8) == 92) = true from rfl,if_true]
  have both : ∀ (e : List UInt8),(e.all (fun c => !(c == 34) && !(c == 92)) = true \/ ∃ d q,e = 92 :: d :: q /\ q.all (fun c => !(c == 34) && !(c == 92)) = true) -> ∀ r,litN (e ++ r) = (litN r).map (· + e.length):=by
   have plain : ∀ (e : List UInt8),e.all (fun c => !(c == 34) && !(c == 92)) = true -> ∀ r,litN (e ++ r) = (litN r).map (· + e.length):=fun e => by
    induction e with
    | nil => intro _ r; simp
    | cons c q ih =>
      intro h r
      simp only [List.all_cons,Bool.and_eq_true,Bool.not_eq_true'] at h
      rw [List.cons_append,key c _ h.1.1 h.1.2,ih (by simpa using h.2) r,Option.map_map]
      congr 1
   rintro e (h | ⟨d,q,rfl,h⟩) r
   . exact plain e h r
   . rw [List.cons_append,List.cons_append,key2,plain q h r,Option.map_map]
     congr 1
  have shape : ∀ i : Fin 256,((escU (UInt8.ofNat i.val)).all (fun c => !(c == 34) && !(c == 92)) || (match escU (UInt8.ofNat i.val) with | 92 :: _ :: q => q.all (fun c => !(c == 34) && !(c == 92)) | _ => false)) = true:=by decide +kernel
  intro i r
  refine both _ ?_ r
  have h:=shape i
  rw [Bool.or_eq_true] at h
  rcases h with h | h
  . exact .inl h
  . refine .inr ?_
    split at h
    . rename_i d q hq; exact ⟨d,q,hq,h⟩
    . cases h) c r
theorem lit_escL (l r : List UInt8) : litN (escL l ++ r) = (litN r).map (· + (escL l).length):=by
 induction l with
 | nil => simp [escL]
 | cons c q ih =>
   have e : escL (c :: q) = escU c ++ escL q:=by simp [escL]
   rw [e,List.append_assoc,lit_esc,ih,Option.map_map]
   cases litN r with
   | none => rfl
   | some n => simp [List.length_append]; omega
theorem Ps.quote (s : List UInt8) : Ps (zA2 s) [(4,s)]:=fun r kr h => by
 have e : zA2 s ++ r = 34 :: (escL s ++ 34 :: r):=by simp [zA2]
 have hl : litN (escL s ++ 34 :: r) = some ((escL s).length + 1):=by
  rw [lit_escL]
  have : litN (34 :: r) = some 1:=by cases r <;> (unfold litN; rfl)
  rw [this]
  show some (1 + (escL s).length) = _
  rw [Nat.add_comm]
 have ht : (escL s ++ 34 :: r).take ((escL s).length + 1) = escL s ++ [34]:=by
  rw [List.take_append,Nat.add_sub_cancel_left,List.take_of_length_le (by omega)]; rfl
 rw [e]
 refine .tok (c:=34) (r:=escL s ++ 34 :: r) (n:=(escL s).length + 1 + 1) rfl ?_ ?_
 . unfold readU
   simp only [show zAc 34 = false from rfl,show ((34 : UInt8) == 46) = false from rfl,show ((34 : UInt8) == 45 || digU 34) = false from rfl,show letU 34 = false from rfl,show ((34 : UInt8) == 34) = true from rfl,Bool.false_eq_true,if_false,if_true,hl,ht]
   have hq : unquoteU (34 :: (escL s ++ [34])) = some s:=by
    have:=zFr s
    simpa [zA2] using this
   rw [hq]
 . have : (34 :: (escL s ++ 34 :: r)).drop ((escL s).length + 1 + 1) = r:=by
    rw [List.drop_succ_cons,List.drop_append,Nat.add_sub_cancel_left,List.drop_of_length_le (by omega)]; rfl
   rw [this]
   exact h
inductive All2 (T : Tok -> Tok -> Prop) : List Tok -> List Tok -> Prop where
 | nil : All2 T [] []
 | cons {a b : Tok} {l m : List Tok} (h : T a b) (t : All2 T l m) : All2 T (a :: l) (b :: m)
structure TR (T : Tok -> Tok -> Prop) (I : Nat -> Nat -> Prop) : Prop where
 k : ∀ {t t'},T t t' -> t.k = t'.k
 s : ∀ {t t'},T t t' -> t.s = t'.s
 i : ∀ {t t'},T t t' -> I t.i t'.i
 z : I 0 0
structure XR (T : Tok -> Tok -> Prop) (x x' : PS) : Prop where
 ts : All2 T x.ts x'.ts
 vr : x.vr = x'.vr
 nd : x.nd = x'.nd
def RR (T : Tok -> Tok -> Prop) (I : Nat -> Nat -> Prop) {α : Type} : PR α -> PR α -> Prop
 | .ok (a,x),.ok (a',x') => a = a' /\ XR T x x'
 | .error e,.error e' => I e.1 e'.1 /\ e.2 = e'.2
 | _,_ => False
section
variable {T : Tok -> Tok -> Prop} {I : Nat -> Nat -> Prop} {α β : Type}
theorem zE5 {a b : List Tok} (h : All2 T a b) : a.length = b.length:=by induction h with | nil => rfl | cons _ _ ih => simp [ih]
theorem all2_drop {a b : List Tok} (h : All2 T a b) : ∀ n,All2 T (a.drop n) (b.drop n):=by
 induction h with
 | nil => intro n; simp; exact .nil
 | cons h1 h2 ih =>
   intro n
   cases n with
   | zero => exact .cons h1 h2
   | succ n => simpa using ih n
theorem XR.hd (hT : TR T I) {x x' : PS} (h : XR T x x') : (hdT x').k = (hdT x).k /\ (hdT x').s = (hdT x).s /\ I (hdT x).i (hdT x').i:=by
 obtain ⟨h1,-,-⟩:=h
 unfold hdT
 generalize x.ts = a at h1
 generalize x'.ts = b at h1
 cases h1 with
 | nil => exact ⟨rfl,rfl,hT.z⟩
 | cons h2 h3 => exact ⟨(hT.k h2).symm,(hT.s h2).symm,hT.i h2⟩
theorem XR.isS (hT : TR T I) {x x' : PS} (h : XR T x x') (s : List UInt8) : isS x' s = isS x s:=by
 obtain ⟨h1,h2,-⟩:=h.hd hT
 unfold Go.Proofs.YthjiclhfhjdjpaaGreatDoor.isS
 rw [h1,h2]
theorem XR.nx (hT : TR T I) {x x' : PS} (h : XR T x x') : XR T (nxT x) (nxT x'):=by
 obtain ⟨h1,-,-⟩:=h.hd hT
 unfold nxT
 rw [h1]
 split
 . exact h
 . exact ⟨all2_drop h.ts 1,h.vr,h.nd⟩
theorem XR.len {x x' : PS} (h : XR T x x') : x'.ts.length = x.ts.length:=(zE5 h.ts).symm
theorem RR.err (hT : TR T I) {x x' : PS} (h : XR T x x') (e : Int) : RR T I (α:=α) (.error ((hdT x).i,e)) (.error ((hdT x').i,e)):=⟨(h.hd hT).2.2,rfl⟩
theorem RR.okk {x x' : PS} (h : XR T x x') (a : α) : RR T I (.ok (a,x)) (.ok (a,x')):=⟨rfl,h⟩
theorem RR.ite {c : Prop} [Decidable c] {a b a' b' : PR α} (h1 : c -> RR T I a a') (h2 : ¬ c -> RR T I b b') : RR T I (if c then a else b) (if c then a' else b'):=by
 split
 . rename_i h; exact h1 h
 . rename_i h; exact h2 h
theorem RR.then {r r' : PR α} {f f' : α -> PS -> PR β} (h : RR T I r r') (hf : ∀ a x x',XR T x x' -> RR T I (f a x) (f' a x')) : RR T I (thenQ r f) (thenQ r' f'):=by
 unfold thenQ
 cases r with
 | error e => cases r' with | error e' => exact h | ok a' => exact h.elim
 | ok a =>
   cases r' with
   | error e' => exact h.elim
   | ok a' =>
     obtain ⟨a,x⟩:=a
     obtain ⟨a',x'⟩:=a'
     obtain ⟨rfl,hx⟩:=h
     exact hf _ _ _ hx
variable (hT : TR T I)
include hT
theorem zDh {x x' : PS} (h : XR T x x') (s : List UInt8) : RR T I (takeQ s x) (takeQ s x'):=by
 unfold takeQ
 rw [h.isS hT]
 exact .ite (fun _ => .okk (h.nx hT) _) fun _ => .err hT h _
theorem zBN {x x' : PS} (h : XR T x x') : RR T I (nameQ x) (nameQ x'):=by
 unfold nameQ
 rw [(h.hd hT).1,(h.hd hT).2.1]
 exact .ite (fun _ => .okk (h.nx hT) _) fun _ => .err hT h _
theorem open_rr : ∀ (f : Nat) {x x' : PS},XR T x x' -> (openQ f x').1 = (openQ f x).1 /\ XR T (openQ f x).2 (openQ f x').2
 | 0,_,_,h => ⟨rfl,h⟩
 | f + 1,x,x',h => by
   unfold openQ
   rw [h.isS hT]
   split
   . obtain ⟨h1,h2⟩:=open_rr f (h.nx hT)
     exact ⟨by simp [h1],h2⟩
   . exact ⟨rfl,h⟩
theorem zJz : ∀ (n : Nat) (w : List Int) {x x' : PS},XR T x x' -> RR T I (closeQ n w x) (closeQ n w x')
 | 0,w,x,x',h => by
   unfold closeQ
   rw [h.isS hT]
   split
   . exact .okk (h.nx hT) _
   . exact .okk h _
 | n + 1,w,x,x',h => by
   unfold closeQ
   rw [h.isS hT]
   refine .then (zDh hT ?_ _) fun _ y y' hy => zJz n _ hy
   split
   . exact h.nx hT
   . exact h
theorem inner_rr {x x' : PS} (h : XR T x x') : RR T I (innerQ x) (innerQ x'):=by
 unfold innerQ
 rw [h.len]
 obtain ⟨h1,h2⟩:=open_rr hT x.ts.length h
 rw [h1]
 exact .then (zBN hT h2) fun _ _ _ hy => .then (zJz hT _ _ hy) fun _ _ _ hz => .okk hz _
theorem typ_rr {x x' : PS} (h : XR T x x') : RR T I (typQ x) (typQ x'):=
 .then (inner_rr hT h) fun _ _ _ hy => .ite (fun _ => .err hT h _) fun _ => .okk hy _
theorem zJX {v : PS -> PR D} (hv : ∀ {x x' : PS},XR T x x' -> RR T I (v x) (v x')) : ∀ (f : Nat) (acc : List D) {x x' : PS},XR T x x' -> RR T I (itemsQ v f acc x) (itemsQ v f acc x')
 | 0,_,_,_,h => .err hT h _
 | f + 1,acc,x,x',h => by
   unfold itemsQ
   rw [h.isS hT]
   exact .ite (fun _ => .okk (h.nx hT) _) fun _ => .then (hv h) fun _ _ _ hy => zJX hv f _ hy
theorem zHU {v : PS -> PR D} (hv : ∀ {x x' : PS},XR T x x' -> RR T I (v x) (v x')) : ∀ (f : Nat) (ks : List (List UInt8)) (acc : List D) {x x' : PS},XR T x x' -> RR T I (zu v f ks acc x) (zu v f ks acc x')
 | 0,_,_,_,_,h => .err hT h _
 | f + 1,ks,acc,x,x',h => by
   unfold zu
   rw [h.isS hT]
   exact .ite (fun _ => .okk (h.nx hT) _) fun _ => .then (zBN hT h) fun k _ _ hy => .ite (fun _ => .err hT h _) fun _ => .then (zDh hT hy _) fun _ _ _ hz => .then (hv hz) fun _ _ _ hu => zHU hv f _ _ hu
theorem noVal_rr {x x' : PS} (h : XR T x x') : zB8 x' = zB8 x:=by
 unfold zB8
 rw [(h.hd hT).1,h.isS hT,h.isS hT,h.isS hT,h.vr]
theorem zFo : ∀ (f lv : Nat) {x x' : PS},XR T x x' -> RR T I (valueQ f lv x) (valueQ f lv x')
 | 0,_,_,_,h => .err hT h _
 | f + 1,lv,x,x',h => by
   have hy : XR T { nxT x with nd:=x.nd + 1 } { nxT x' with nd:=x'.nd + 1 }:=⟨(h.nx hT).ts,(h.nx hT).vr,by show x.nd + 1 = x'.nd + 1; rw [h.nd]⟩
   unfold valueQ
   rw [noVal_rr hT h,<- h.nd,(h.hd hT).1,(h.hd hT).2.1]
   rw [<- h.nd] at hy
   refine .ite (fun _ => .err hT h _) fun _ => .ite (fun _ => .err hT h _) fun _ => .ite (fun _ => .err hT h _) fun _ => ?_
   dsimp only
   refine .ite (fun _ => .okk hy _) fun _ => .ite (fun _ => .okk hy _) fun _ => .ite (fun _ => .okk hy _) fun _ => .ite (fun _ => .then (zBN hT hy) fun _ _ _ hz => .okk hz _) fun _ => .ite (fun _ => ?_) fun _ => ?_
   . have e : (nxT x').ts.length = (nxT x).ts.length:=(h.nx hT).len
     rw [e]
     exact .then (zJX hT (fun h => zFo f (lv + 1) h) _ _ hy) fun _ _ _ hz => .okk hz _
   . have e : (nxT x').ts.length = (nxT x).ts.length:=(h.nx hT).len
     rw [e]
     exact .then (zHU hT (fun h => zFo f (lv + 1) h) _ _ _ hy) fun _ _ _ hz => .okk hz _
theorem zIu {x x' : PS} (h : XR T x x') : RR T I (zAf x) (zAf x'):=zFo hT _ _ ⟨h.ts,h.vr,rfl⟩
theorem zJ9 : ∀ (f : Nat) (acc : List D) {x x' : PS},XR T x x' -> RR T I (argsF f acc x) (argsF f acc x')
 | 0,_,_,_,h => .err hT h _
 | f + 1,acc,x,x',h => by
   unfold argsF
   rw [h.isS hT,(h.hd hT).1]
   exact .ite (fun _ => .okk (h.nx hT) _) fun _ => .ite (fun _ => .err hT h _) fun _ => .then (zBN hT h) fun _ _ _ hy => .then (zDh hT hy _) fun _ _ _ hz => .then (zIu hT hz) fun _ _ _ hu => zJ9 f _ hu
theorem args_rr {x x' : PS} (h : XR T x x') : RR T I (argsQ x) (argsQ x'):=by
 unfold argsQ
 rw [h.isS hT,h.len]
 exact .ite (fun _ => zJ9 hT _ _ (h.nx hT)) fun _ => .okk h _
theorem zJo : ∀ (f : Nat) (acc : List D) {x x' : PS},XR T x x' -> RR T I (dirsF f acc x) (dirsF f acc x')
 | 0,_,_,_,h => .err hT h _
 | f + 1,acc,x,x',h => by
   unfold dirsF
   rw [h.isS hT]
   exact .ite (fun _ => .ite (fun _ => .err hT h _) fun _ => .then (zBN hT (h.nx hT)) fun _ _ _ hy => .then (args_rr hT hy) fun _ _ _ hz => zJo f _ hz) fun _ => .okk h _
theorem zIf {x x' : PS} (h : XR T x x') : RR T I (dirsQ x) (dirsQ x'):=by
 unfold dirsQ
 rw [h.len]
 exact zJo hT _ _ h
theorem sel_rr {v : PS -> PR (List D)} (hv : ∀ {x x' : PS},XR T x x' -> RR T I (v x) (v x')) {x x' : PS} (h : XR T x x') : RR T I (selQ v x) (selQ v x'):=by
 have hy:=h.nx hT
 unfold selQ
 rw [h.isS hT]
 dsimp only
 rw [(hy.hd hT).1,(hy.hd hT).2.1]
 refine .ite (fun _ => .ite (fun _ => .then (zIf hT (hy.nx hT)) fun _ _ _ hz => .okk hz _) fun _ => .then (.ite (fun _ => zBN hT (hy.nx hT)) fun _ => .okk hy _) fun _ _ _ hz => .then (zIf hT hz) fun _ _ _ hu => .then (hv hu) fun _ _ _ ho => .okk ho _) fun _ => ?_
 refine .then (zBN hT h) fun n y y' hy => ?_
 rw [hy.isS hT]
 refine .then (.ite (fun _ => .then (zBN hT (hy.nx hT)) fun _ _ _ hz => .okk hz _) fun _ => .okk hy _) fun _ _ _ hz => .then (args_rr hT hz) fun _ _ _ hu => .then (zIf hT hu) fun _ _ _ hw => ?_
 rw [hw.isS hT]
 exact .then (.ite (fun _ => hv hw) fun _ => .okk hw _) fun _ _ _ ho => .okk ho _
theorem setF_rr {v : PS -> PR D} (hv : ∀ {x x' : PS},XR T x x' -> RR T I (v x) (v x')) : ∀ (f : Nat) (acc : List D) {x x' : PS},XR T x x' -> RR T I (setF v f acc x) (setF v f acc x')
 | 0,_,_,_,h => .err hT h _
 | f + 1,acc,x,x',h => by
   unfold setF
   rw [h.isS hT,h.isS hT,(h.hd hT).1]
   exact .ite (fun _ => .okk (h.nx hT) _) fun _ => .ite (fun _ => .err hT h _) fun _ => .then (hv h) fun _ _ _ hy => setF_rr hv f _ hy
theorem sels_rr : ∀ (f lv : Nat) {x x' : PS},XR T x x' -> RR T I (selsQ f lv x) (selsQ f lv x')
 | 0,_,_,_,h => .err hT h _
 | f + 1,lv,x,x',h => by
   unfold selsQ
   rw [h.isS hT]
   refine .ite (fun _ => .err hT h _) fun _ => .then (zDh hT h _) fun _ y y' hy => ?_
   rw [hy.len]
   exact setF_rr hT (fun h => sel_rr hT (fun h => sels_rr f (lv + 1) h) h) _ _ hy
theorem set_rr {x x' : PS} (h : XR T x x') : RR T I (setQ x) (setQ x'):=sels_rr hT _ _ h
theorem zIw : ∀ (f : Nat) (acc : List D) {x x' : PS},XR T x x' -> RR T I (varsF f acc x) (varsF f acc x')
 | 0,_,_,_,h => .err hT h _
 | f + 1,acc,x,x',h => by
   unfold varsF
   rw [h.isS hT,h.isS hT]
   refine .ite (fun _ => .okk (h.nx hT) _) fun _ => .ite (fun _ => .err hT h _) fun _ => .then (zDh hT h _) fun _ _ _ hy => .then (zBN hT hy) fun _ _ _ hz => .then (zDh hT hz _) fun _ _ _ hu => .then (typ_rr hT hu) fun _ v v' hv => ?_
   rw [hv.isS hT]
   refine .then (.ite (fun _ => .then (zIu hT ?_) fun d o o' ho => RR.okk (x:={ o with vr:=true }) (x':={ o' with vr:=true }) ⟨ho.ts,rfl,ho.nd⟩ (true,d)) fun _ => .okk hv _) fun _ _ _ ho => zIw f _ ho
   exact ⟨(hv.nx hT).ts,rfl,(hv.nx hT).nd⟩
theorem op_rr (k : Int) {x x' : PS} (h : XR T x x') : RR T I (opQ k x) (opQ k x'):=by
 unfold opQ
 rw [(h.hd hT).1,(h.hd hT).2.1]
 refine .then (.ite (fun _ => .okk (h.nx hT) _) fun _ => .okk h _) fun _ y y' hy => ?_
 rw [hy.isS hT,hy.len]
 exact .then (.ite (fun _ => zIw hT _ _ (hy.nx hT)) fun _ => .okk hy _) fun _ _ _ hz => .then (set_rr hT hz) fun _ _ _ hu => .okk hu _
theorem frag_rr {x x' : PS} (h : XR T x x') : RR T I (fragQ x) (fragQ x'):=by
 unfold fragQ
 rw [(h.hd hT).2.1]
 refine .ite (fun _ => .err hT h _) fun _ => .then (zBN hT h) fun _ y y' hy => ?_
 rw [(hy.hd hT).1,(hy.hd hT).2.1]
 exact .ite (fun _ => .then (zBN hT (hy.nx hT)) fun _ _ _ hz => .then (set_rr hT hz) fun _ _ _ hu => .okk hu _) fun _ => .err hT hy _
theorem zGP : ∀ (f n : Nat) (ops frs : List D) {x x' : PS},XR T x x' -> RR T I (docF f n ops frs x) (docF f n ops frs x')
 | 0,_,_,_,_,_,h => .err hT h _
 | f + 1,n,ops,frs,x,x',h => by
   unfold docF
   rw [h.isS hT,(h.hd hT).1,(h.hd hT).2.1]
   dsimp only
   refine .ite (fun _ => .okk h _) fun _ => .ite (fun _ => .err hT h _) fun _ => .ite (fun _ => .err hT h _) fun _ => .ite (fun _ => .then (set_rr hT h) fun _ _ _ hy => zGP f _ _ _ hy) fun _ => .ite (fun _ => .then (op_rr hT _ (h.nx hT)) fun _ _ _ hy => zGP f _ _ _ hy) fun _ => .then (frag_rr hT (h.nx hT)) fun _ _ _ hy => zGP f _ _ _ hy
theorem doc_rr {ts ts' : List Tok} (h : All2 T ts ts') : RR T I (docQ ts) (docQ ts'):=by
 unfold docQ
 rw [<- zE5 h]
 exact zGP hT _ _ _ _ ⟨h,rfl,rfl⟩
end
theorem zGy {p : UInt8 -> Bool} : ∀ (l : List UInt8),(l.take (spanN p l)).all p = true /\ (l.take (spanN p l)).length = spanN p l
 | [] => ⟨rfl,rfl⟩
 | c :: r => by
   have ih:=zGy (p:=p) r
   rw [spanN]
   split
   . rename_i h
     rw [List.take_succ_cons,List.all_cons,h,ih.1]
     exact ⟨rfl,by rw [List.length_cons,ih.2]⟩
   . exact ⟨rfl,rfl⟩
theorem Lex.kinds {l : List UInt8} {ks : List (Int × List UInt8)} (h : Lex l ks) : ∀ p ∈ ks,p.1 ≠ 5:=by
 induction h with
 | done h => intro p hp; cases hp
 | tok h ht hr ih =>
   intro p hp
   rcases List.mem_cons.1 hp with rfl | hp
   . have:=zEF ht
     show _ ≠ _
     omega
   . exact ih p hp
def likeT (t t' : Tok) : Prop:=t.k = t'.k /\ t.s = t'.s
theorem likeT_tr : TR likeT fun _ _ => True:=⟨fun h => h.1,fun h => h.2,fun _ => trivial,trivial⟩
theorem zHv : ∀ {a b : List Tok},a.map bare = b.map bare -> All2 likeT a b
 | [],[],_ => .nil
 | [],_ :: _,h => by cases h
 | _ :: _,[],h => by cases h
 | x :: a,y :: b,h => by
   have h1 : bare x = bare y:=(List.cons.inj h).1
   have h2 : a.map bare = b.map bare:=(List.cons.inj h).2
   exact .cons ⟨congrArg Prod.fst h1,congrArg Prod.snd h1⟩ (zHv h2)
theorem doc_like {ts ts' : List Tok} (h : ts'.map bare = ts.map bare) : (∀ q z,docQ ts = .ok (q,z) -> ∃ z',docQ ts' = .ok (q,z')) /\ (∀ i e,docQ ts = .error (i,e) -> ∃ i',docQ ts' = .error (i',e)):=by
 have hr:=doc_rr likeT_tr (zHv h.symm)
 constructor
 . intro q z hq
   rw [hq] at hr
   cases h2 : docQ ts' with
   | error e => rw [h2] at hr; exact hr.elim
   | ok p =>
     obtain ⟨q',z'⟩:=p
     rw [h2] at hr
     obtain ⟨rfl,-⟩:=hr
     exact ⟨z',rfl⟩
 . intro i e hq
   rw [hq] at hr
   cases h2 : docQ ts' with
   | error e' =>
     obtain ⟨i',e'⟩:=e'
     rw [h2] at hr
     obtain ⟨-,rfl⟩:=hr
     exact ⟨i',rfl⟩
   | ok p => rw [h2] at hr; exact hr.elim
end Go.Proofs.YthjiclhfhjdjpaaGreatDoor
