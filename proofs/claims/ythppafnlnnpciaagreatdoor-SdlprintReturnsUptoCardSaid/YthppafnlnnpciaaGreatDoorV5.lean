import Derived.Lib.Strings
import Derived.Test.YthppafnlnnpciaaGreatDoorV4
set_option linter.unusedVariables false
set_option linter.unusedSimpArgs false
namespace Go.Proofs.YthppafnlnnpciaaGreatDoor
section
def bV (s:ByteArray) (i:Nat):Int:=((s.data.toList.getD i 0).toNat:Int)
theorem zDG (s:ByteArray) (i:Nat):0<=bV s i/\bV s i<=255:=by
 unfold bV
 have:=(s.data.toList.getD i 0).toNat_lt
 omega
theorem zIf {s:ByteArray} {i:Nat} (h:i<s.size):((s[i]'h).toNat:Int)=bV s i:=by
 unfold bV
 have h':i<s.data.toList.length:=by simpa using h
 rw [List.getD_eq_getElem?_getD,List.getElem?_eq_getElem h']
 rfl
def letB (v:Int):Bool:=decide (65<=v/\v<=90\/97<=v/\v<=122\/v=95)
def digB (v:Int):Bool:=decide (48<=v/\v<=57)
def nameB (s:ByteArray):Bool:=decide (0<s.size/\s.size<=64/\digB (bV s 0)=false /\ ∀ i,i<s.size->(letB (bV s i)||digB (bV s i))=true)
theorem zKC {s:ByteArray} (h : ¬ (0<s.size/\s.size<=64)):nameB s=false:=decide_eq_false fun h'=>h ⟨h'.1,h'.2.1⟩
theorem nameB_dig {s:ByteArray} (h:digB (bV s 0)=true):nameB s=false:=decide_eq_false fun h'=>by rw [h'.2.2.1] at h;cases h
theorem nameB_at {s:ByteArray} {i:Nat} (hi:i<s.size) (h:(letB (bV s i)||digB (bV s i))=false):nameB s=false:=decide_eq_false fun h'=>by rw [h'.2.2.2 i hi] at h;cases h
theorem nameB_yes {s:ByteArray} (h0:0<s.size) (h1:s.size<=64) (h2:digB (bV s 0)=false) (h3 : ∀ i,i<s.size->(letB (bV s i)||digB (bV s i))=true):nameB s=true:=decide_eq_true ⟨h0,h1,h2,h3⟩
theorem letB_true {v:Int} (h:65<=v/\v<=90\/97<=v/\v<=122\/v=95):letB v=true:=decide_eq_true h
theorem letB_false {v:Int} (h : ¬ (65<=v/\v<=90\/97<=v/\v<=122\/v=95)):letB v=false:=decide_eq_false h
theorem zIZ {v:Int} (h:48<=v/\v<=57):digB v=true:=decide_eq_true h
theorem zDC {v:Int} (h : ¬ (48<=v/\v<=57)):digB v=false:=decide_eq_false h
theorem nm_cases (v:Int):v<48\/(48<=v/\v<=57)\/(58<=v/\v<=64)\/(65<=v/\v<=90)\/(91<=v/\v<=94)\/v=95\/v=96\/(97<=v/\v<=122)\/123<=v:=by omega
inductive Lex:List UInt8->List (Int × List UInt8)->Prop where
 |done {l:List UInt8} (h:l.drop (skipM false l)=[]):Lex l []
 |tok {l:List UInt8} {c:UInt8} {r:List UInt8} {k:Int} {s:List UInt8} {n:Nat} {ks:List (Int × List UInt8)} (h:l.drop (skipM false l)=c::r) (ht:readU (c::r) = .ok (k,s,n)) (hr:Lex ((c::r).drop n) ks):Lex l ((k,s)::ks)
def bare (t:Tok):Int × List UInt8:=(t.k,t.s)
def endK5:Int × List UInt8:=(5,[])
theorem readT_any {l:List UInt8} {k:Int} {s:List UInt8} {n:Nat} (h:readU l = .ok (k,s,n)) (j:Nat):zEh l j = .ok (⟨k,s,j⟩,n):=by
 unfold zEh
 rw [h]
theorem Lex.scan {l:List UInt8} {ks:List (Int × List UInt8)} (h:Lex l ks) : ∀ (f i:Nat),l.length<f -> ∃ ts,scanF f l i = .ok ts/\ts.map bare=ks++[endK5]:=by
 induction h with
 |done h =>
  intro f i hf
  cases f with
  |zero=>omega
  |succ f =>
   exact ⟨[⟨5,[],i+_⟩],by unfold scanF;rw [h],rfl⟩
 |tok h ht hr ih =>
  rename_i l c r k s n ks
  intro f i hf
  cases f with
  |zero=>omega
  |succ f =>
   have hn:=zC6 ht
   have hlen:(c::r).length<=l.length:=by rw [<- h,List.length_drop];omega
   obtain ⟨ts,h1,h2⟩:=ih f (i+skipM false l+n) (by rw [List.length_drop];omega)
   refine ⟨⟨k,s,i+skipM false l⟩::ts,?_,?_⟩
   . unfold scanF
     rw [h]
     dsimp only
     rw [readT_any ht]
     dsimp only
     rw [h1]
   . rw [List.map_cons,h2];rfl
def bnd (l:List UInt8):Prop:=∀ c,l.head? = some c->wrdU c=false
theorem zHX:bnd []:=fun _ h=>by cases h
theorem zAh {c:UInt8} {r:List UInt8} (h:wrdU c=false):bnd (c::r):=fun _ e=>by cases e;exact h
def Ps (t:List UInt8) (ks:List (Int × List UInt8)):Prop:=∀ r kr,Lex r kr->Lex (t++r) (ks++kr)
def Pw (t:List UInt8) (ks:List (Int × List UInt8)):Prop:=∀ r kr,bnd r->Lex r kr->Lex (t++r) (ks++kr)
theorem Ps.w {t:List UInt8} {ks:List (Int × List UInt8)} (h:Ps t ks):Pw t ks:=fun r kr _ hr=>h r kr hr
theorem Ps.nil:Ps [] []:=fun _ _ h=>h
theorem Ps.app {a b:List UInt8} {ka kb:List (Int × List UInt8)} (h:Ps a ka) (k:Ps b kb):Ps (a++b) (ka++kb):=fun r kr hr=>by
 rw [List.append_assoc,List.append_assoc];exact h _ _ (k r kr hr)
theorem Ps.appw {a b:List UInt8} {ka kb:List (Int × List UInt8)} (h:Ps a ka) (k:Pw b kb):Pw (a++b) (ka++kb):=fun r kr hb hr=>by
 rw [List.append_assoc,List.append_assoc];exact h _ _ (k r kr hb hr)
theorem Pw.app {a b:List UInt8} {ka kb:List (Int × List UInt8)} (h:Pw a ka) (k:Ps b kb) (hb:b≠[]/\bnd b):Ps (a++b) (ka++kb):=fun r kr hr=>by
 rw [List.append_assoc,List.append_assoc]
 refine h _ _ (fun c hc=>hb.2 c ?_) (k r kr hr)
 cases b with
 |nil=>exact (hb.1 rfl).elim
 |cons x y=>exact hc
theorem Pw.appw {a b:List UInt8} {ka kb:List (Int × List UInt8)} (h:Pw a ka) (k:Pw b kb) (hb:bnd b):Pw (a++b) (ka++kb):=fun r kr hr hl=>by
 rw [List.append_assoc,List.append_assoc]
 refine h _ _ (fun c hc => ?_) (k r kr hr hl)
 cases b with
 |nil=>exact hr c hc
 |cons x y=>exact hb c hc
theorem Pw.lex {t:List UInt8} {ks:List (Int × List UInt8)} (h:Pw t ks):Lex t ks:=by
 have:=h [] [] zHX (.done rfl)
 rwa [List.append_nil,List.append_nil] at this
theorem Lex.sep {c:UInt8} {r:List UInt8} {kr:List (Int × List UInt8)} (hc:sepB c=true) (h:Lex r kr):Lex (c::r) kr:=by
 have e:(c::r).drop (skipM false (c::r))=r.drop (skipM false r):=by
  rw [skipM,if_pos hc,List.drop_succ_cons]
 cases h with
 |done h=>exact .done (by rw [e];exact h)
 |tok h ht hr=>exact .tok (by rw [e];exact h) ht hr
theorem Ps.sep {c:UInt8} (hc:sepB c=true):Ps [c] []:=fun _ _ h=>h.sep hc
theorem zF7 (c:UInt8):zAi c=true->sepB c=false/\(c==35)=false/\wrdU c=false:=
 zEd (p:=fun c=>zAi c=true->sepB c=false/\(c==35)=false/\wrdU c=false) (by decide +kernel) c
theorem zFA {c:UInt8} {r:List UInt8} (h:sepB c=false) (h2:(c==35)=false):skipM false (c::r)=0:=by
 rw [skipM,if_neg (by rw [h];decide),if_neg (by rw [h2];decide)]
theorem Ps.sign {c:UInt8} (hc:zAi c=true):Ps [c] [(1,[c])]:=fun r kr h=>by
 obtain ⟨h1,h2,-⟩:=zF7 c hc
 refine .tok (l:=c::r) (c:=c) (r:=r) (n:=1) (by rw [zFA h1 h2];rfl) ?_ h
 unfold readU
 simp only [hc,if_true]
def nameU (l:List UInt8):Bool:=match l with | []=>false | c::r=>letU c&&r.all wrdU&&decide (r.length<64)
theorem let_plain (c:UInt8):letU c=true->sepB c=false/\(c==35)=false/\zAi c=false/\(c==46)=false/\(c==45||digU c)=false/\wrdU c=true:=
 zEd (p:=fun c=>letU c=true->sepB c=false/\(c==35)=false/\zAi c=false/\(c==46)=false/\(c==45||digU c)=false/\wrdU c=true) (by decide +kernel) c
theorem zGp {p:UInt8->Bool} : ∀ (l r:List UInt8),l.all p=true->(∀ c,r.head? = some c->p c=false)->spanN p (l++r)=l.length
 |[],[],_,_=>rfl
 |[],c::r,_,h=>by
  show spanN p (c::r)=0
  rw [spanN,if_neg (by rw [h c rfl];decide)]
 |c::l,r,ha,h=>by
  rw [List.all_cons,Bool.and_eq_true] at ha
  rw [List.cons_append,spanN,if_pos ha.1,zGp l r ha.2 h,List.length_cons]
theorem Pw.name {l:List UInt8} (h:nameU l=true):Pw l [(2,l)]:=fun r kr hb hr=>by
 cases l with
 |nil=>cases h
 |cons c q =>
  simp only [nameU,Bool.and_eq_true,decide_eq_true_eq] at h
  obtain ⟨⟨h1,h2⟩,h3⟩:=h
  obtain ⟨p1,p2,p3,p4,p5,p6⟩:=let_plain c h1
  have hs:=zGp q r h2 hb
  refine .tok (l:=c::(q++r)) (c:=c) (r:=q++r) (n:=q.length+1) (by rw [zFA p1 p2];rfl) ?_ (by rw [List.drop_succ_cons,List.drop_left];exact hr)
  unfold readU
  simp only [p3,p4,p5,h1,hs,Bool.false_eq_true,if_false,if_true,List.take_left]
  rw [if_neg (by omega)]
theorem zKn : ∀ {l:List UInt8},l.all digU=true->l.all wrdU=true:=fun {l} h=>by
 rw [List.all_eq_true] at h |-
 intro x hx
 unfold wrdU
 rw [h x hx,Bool.or_true]
theorem num_plain (c:UInt8):(c==45||digU c)=true->sepB c=false/\(c==35)=false/\zAi c=false/\(c==46)=false:=
 zEd (p:=fun c=>(c==45||digU c)=true->sepB c=false/\(c==35)=false/\zAi c=false/\(c==46)=false) (by decide +kernel) c
theorem Pw.num {l:List UInt8} {n:Int} (h:numU l = .ok n) (h1 : ∃ c q,l=c::q/\(c==45||digU c)=true/\q.all wrdU=true):Pw l [(3,l)]:=fun r kr hb hr=>by
 obtain ⟨c,q,rfl,h2,h3⟩:=h1
 obtain ⟨p1,p2,p3,p4⟩:=num_plain c h2
 have hs:=zGp q r h3 hb
 refine .tok (l:=c::(q++r)) (c:=c) (r:=q++r) (n:=q.length+1) (by rw [zFA p1 p2];rfl) ?_ (by rw [List.drop_succ_cons,List.drop_left];exact hr)
 unfold readU
 simp only [p3,p4,h2,hs,Bool.false_eq_true,if_false,if_true,List.take_left,h,nerU]
theorem itoa_shape (n:Int) : ∃ c q,Lib.itoa n=c::q/\(c==45||digU c)=true/\q.all wrdU=true:=by
 unfold Lib.itoa
 split
 . exact ⟨45,_,rfl,rfl,zKn (zFh _)⟩
 . have h:=zFh n.toNat
   cases hd:Lib.decDigits n.toNat with
   |nil=>exact (zKq _ hd).elim
   |cons c q =>
    rw [hd,List.all_cons,Bool.and_eq_true] at h
    exact ⟨c,q,rfl,by rw [h.1,Bool.or_true],zKn h.2⟩
theorem Pw.int (n:Int) (h0 : -9223372036854775808<=n) (h1:n<=9223372036854775807):Pw (Lib.itoa n) [(3,Lib.itoa n)]:=Pw.num (zJ8 n h0 h1) (itoa_shape n)
theorem lit_esc (c:UInt8) (r:List UInt8):litN (escU c++r)=(litN r).map (· + (escU c).length):=
 zEd (p:=fun c => ∀ r,litN (escU c++r)=(litN r).map (· + (escU c).length)) (fun i=>by
  revert i
  have key : ∀ (c:UInt8) (r:List UInt8),(c==34)=false->(c==92)=false->litN (c::r)=(litN r).map (· + 1):=fun c r h h2=>by
   cases r with
   |nil=>unfold litN;simp only [h,Bool.false_eq_true,if_false];rfl
   |cons d r=>rw [litN];simp only [h,h2,Bool.false_eq_true,if_false]
  have key2 : ∀ (c:UInt8) (r:List UInt8),litN (92::c::r)=(litN r).map (· + 2):=fun c r=>by
   rw [litN]
   simp only [show ((92:UInt8)==34)=false from rfl,Bool.false_eq_true,if_false,show ((92:UInt8)==92)=true from rfl,if_true]
  have both : ∀ (e:List UInt8),(e.all (fun c => !(c==34) && !(c==92))=true \/ ∃ d q,e=92::d::q/\q.all (fun c => !(c==34) && !(c==92))=true) -> ∀ r,litN (e++r)=(litN r).map (· + e.length):=by
   have plain : ∀ (e:List UInt8),e.all (fun c => !(c==34) && !(c==92))=true -> ∀ r,litN (e++r)=(litN r).map (· + e.length):=fun e=>by
    induction e with
    |nil=>intro _ r;simp
    |cons c q ih =>
     intro h r
     simp only [List.all_cons,Bool.and_eq_true,Bool.not_eq_true'] at h
     rw [List.cons_append,key c _ h.1.1 h.1.2,ih (by simpa using h.2) r,Option.map_map]
     congr 1
   rintro e (h | ⟨d,q,rfl,h⟩) r
   . exact plain e h r
   . rw [List.cons_append,List.cons_append,key2,plain q h r,Option.map_map]
     congr 1
  have shape : ∀ i:Fin 256,((escU (UInt8.ofNat i.val)).all (fun c => !(c==34) && !(c==92))||(match escU (UInt8.ofNat i.val) with | 92::_::q=>q.all (fun c => !(c==34) && !(c==92)) | _=>false))=true:=by decide +kernel
  intro i r
  refine both _ ?_ r
  have h:=shape i
  rw [Bool.or_eq_true] at h
  rcases h with h | h
  . exact .inl h
  . refine .inr ?_
    split at h
    . rename_i d q hq;exact ⟨d,q,hq,h⟩
    . cases h) c r
theorem lit_escL (l r:List UInt8):litN (escL l++r)=(litN r).map (· + (escL l).length):=by
 induction l with
 |nil=>simp [escL]
 |cons c q ih =>
  have e:escL (c::q)=escU c++escL q:=by simp [escL]
  rw [e,List.append_assoc,lit_esc,ih,Option.map_map]
  cases litN r with
  |none=>rfl
  |some n=>simp [List.length_append];omega
theorem Ps.quote (s:List UInt8):Ps (zBC s) [(4,s)]:=fun r kr h=>by
 have e:zBC s++r=34::(escL s++34::r):=by simp [zBC]
 have hl:litN (escL s++34::r)=some ((escL s).length+1):=by
  rw [lit_escL]
  have:litN (34::r)=some 1:=by cases r<;>(unfold litN;rfl)
  rw [this]
  show some (1+(escL s).length)=_
  rw [Nat.add_comm]
 have ht:(escL s++34::r).take ((escL s).length+1)=escL s++[34]:=by
  rw [List.take_append,Nat.add_sub_cancel_left,List.take_of_length_le (by omega)];rfl
 rw [e]
 refine .tok (c:=34) (r:=escL s++34::r) (n:=(escL s).length+1+1) rfl ?_ ?_
 . unfold readU
   simp only [show zAi 34=false from rfl,show ((34:UInt8)==46)=false from rfl,show ((34:UInt8)==45||digU 34)=false from rfl,show letU 34=false from rfl,show ((34:UInt8)==34)=true from rfl,Bool.false_eq_true,if_false,if_true,hl,ht]
   have hq:unquoteU (34::(escL s++[34]))=some s:=by
    have:=zGk s
    simpa [zBC] using this
   rw [hq]
 . have:(34::(escL s++34::r)).drop ((escL s).length+1+1)=r:=by
    rw [List.drop_succ_cons,List.drop_append,Nat.add_sub_cancel_left,List.drop_of_length_le (by omega)];rfl
   rw [this]
   exact h
inductive All2 (T:Tok->Tok->Prop):List Tok->List Tok->Prop where
 |nil:All2 T [] []
 |cons {a b:Tok} {l m:List Tok} (h:T a b) (t:All2 T l m):All2 T (a::l) (b::m)
structure TR (T:Tok->Tok->Prop) (I:Nat->Nat->Prop):Prop where
 k : ∀ {t t'},T t t'->t.k=t'.k
 s : ∀ {t t'},T t t'->t.s=t'.s
 i : ∀ {t t'},T t t'->I t.i t'.i
 z:I 0 0
structure XR (T:Tok->Tok->Prop) (x x':PS):Prop where
 ts:All2 T x.ts x'.ts
 vr:x.vr=x'.vr
 nd:x.nd=x'.nd
def RR (T:Tok->Tok->Prop) (I:Nat->Nat->Prop) {α:Type}:PR α->PR α->Prop
 |.ok (a,x),.ok (a',x')=>a=a'/\XR T x x'
 |.error e,.error e'=>I e.1 e'.1/\e.2=e'.2
 |_,_=>False
section
variable {T:Tok->Tok->Prop} {I:Nat->Nat->Prop} {α β:Type}
theorem zDc {a b:List Tok} (h:All2 T a b):a.length=b.length:=by induction h with | nil=>rfl | cons _ _ ih=>simp [ih]
theorem zIk {a b:List Tok} (h:All2 T a b) : ∀ n,All2 T (a.drop n) (b.drop n):=by
 induction h with
 |nil=>intro n;simp;exact .nil
 |cons h1 h2 ih =>
  intro n
  cases n with
  |zero=>exact .cons h1 h2
  |succ n=>simpa using ih n
theorem XR.hd (hT:TR T I) {x x':PS} (h:XR T x x'):(hdT x').k=(hdT x).k/\(hdT x').s=(hdT x).s/\I (hdT x).i (hdT x').i:=by
 obtain ⟨h1,-,-⟩:=h
 unfold hdT
 generalize x.ts=a at h1
 generalize x'.ts=b at h1
 cases h1 with
 |nil=>exact ⟨rfl,rfl,hT.z⟩
 |cons h2 h3=>exact ⟨(hT.k h2).symm,(hT.s h2).symm,hT.i h2⟩
theorem XR.isS (hT:TR T I) {x x':PS} (h:XR T x x') (s:List UInt8):isS x' s=isS x s:=by
 obtain ⟨h1,h2,-⟩:=h.hd hT
 unfold Go.Proofs.YthppafnlnnpciaaGreatDoor.isS
 rw [h1,h2]
theorem XR.nx (hT:TR T I) {x x':PS} (h:XR T x x'):XR T (nxT x) (nxT x'):=by
 obtain ⟨h1,-,-⟩:=h.hd hT
 unfold nxT
 rw [h1]
 split
 . exact h
 . exact ⟨zIk h.ts 1,h.vr,h.nd⟩
theorem XR.len {x x':PS} (h:XR T x x'):x'.ts.length=x.ts.length:=(zDc h.ts).symm
theorem RR.err (hT:TR T I) {x x':PS} (h:XR T x x') (e:Int):RR T I (α:=α) (.error ((hdT x).i,e)) (.error ((hdT x').i,e)):=⟨(h.hd hT).2.2,rfl⟩
theorem RR.okk {x x':PS} (h:XR T x x') (a:α):RR T I (.ok (a,x)) (.ok (a,x')):=⟨rfl,h⟩
theorem RR.ite {c:Prop} [Decidable c] {a b a' b':PR α} (h1:c->RR T I a a') (h2 : ¬ c->RR T I b b'):RR T I (if c then a else b) (if c then a' else b'):=by
 split
 . rename_i h;exact h1 h
 . rename_i h;exact h2 h
theorem RR.then {r r':PR α} {f f':α->PS->PR β} (h:RR T I r r') (hf : ∀ a x x',XR T x x'->RR T I (f a x) (f' a x')):RR T I (thenQ r f) (thenQ r' f'):=by
 unfold thenQ
 cases r with
 |error e=>cases r' with | error e'=>exact h | ok a'=>exact h.elim
 |ok a =>
  cases r' with
  |error e'=>exact h.elim
  |ok a' =>
   obtain ⟨a,x⟩:=a
   obtain ⟨a',x'⟩:=a'
   obtain ⟨rfl,hx⟩:=h
   exact hf _ _ _ hx
variable (hT:TR T I)
include hT
theorem zDS {x x':PS} (h:XR T x x') (s:List UInt8):RR T I (takeQ s x) (takeQ s x'):=by
 unfold takeQ
 rw [h.isS hT]
 exact .ite (fun _ => .okk (h.nx hT) _) fun _ => .err hT h _
theorem zB3 {x x':PS} (h:XR T x x'):RR T I (nameQ x) (nameQ x'):=by
 unfold nameQ
 rw [(h.hd hT).1,(h.hd hT).2.1]
 exact .ite (fun _ => .okk (h.nx hT) _) fun _ => .err hT h _
theorem open_rr : ∀ (f:Nat) {x x':PS},XR T x x'->(openQ f x').1=(openQ f x).1/\XR T (openQ f x).2 (openQ f x').2
 |0,_,_,h=>⟨rfl,h⟩
 |f+1,x,x',h=>by
  unfold openQ
  rw [h.isS hT]
  split
  . obtain ⟨h1,h2⟩:=open_rr f (h.nx hT)
    exact ⟨by simp [h1],h2⟩
  . exact ⟨rfl,h⟩
theorem zKw : ∀ (n:Nat) (w:List Int) {x x':PS},XR T x x'->RR T I (closeQ n w x) (closeQ n w x')
 |0,w,x,x',h=>by
  unfold closeQ
  rw [h.isS hT]
  split
  . exact .okk (h.nx hT) _
  . exact .okk h _
 |n+1,w,x,x',h=>by
  unfold closeQ
  rw [h.isS hT]
  refine .then (zDS hT ?_ _) fun _ y y' hy=>zKw n _ hy
  split
  . exact h.nx hT
  . exact h
theorem inner_rr {x x':PS} (h:XR T x x'):RR T I (zA7 x) (zA7 x'):=by
 unfold zA7
 rw [h.len]
 obtain ⟨h1,h2⟩:=open_rr hT x.ts.length h
 rw [h1]
 exact .then (zB3 hT h2) fun _ _ _ hy => .then (zKw hT _ _ hy) fun _ _ _ hz => .okk hz _
theorem typ_rr {x x':PS} (h:XR T x x'):RR T I (typQ x) (typQ x'):=
 .then (inner_rr hT h) fun _ _ _ hy => .ite (fun _ => .err hT h _) fun _ => .okk hy _
theorem zKN {v:PS->PR D} (hv : ∀ {x x':PS},XR T x x'->RR T I (v x) (v x')) : ∀ (f:Nat) (acc:List D) {x x':PS},XR T x x'->RR T I (itemsQ v f acc x) (itemsQ v f acc x')
 |0,_,_,_,h => .err hT h _
 |f+1,acc,x,x',h=>by
  unfold itemsQ
  rw [h.isS hT]
  exact .ite (fun _ => .okk (h.nx hT) _) fun _ => .then (hv h) fun _ _ _ hy=>zKN hv f _ hy
theorem zIS {v:PS->PR D} (hv : ∀ {x x':PS},XR T x x'->RR T I (v x) (v x')) : ∀ (f:Nat) (ks:List (List UInt8)) (acc:List D) {x x':PS},XR T x x'->RR T I (zAG v f ks acc x) (zAG v f ks acc x')
 |0,_,_,_,_,h => .err hT h _
 |f+1,ks,acc,x,x',h=>by
  unfold zAG
  rw [h.isS hT]
  exact .ite (fun _ => .okk (h.nx hT) _) fun _ => .then (zB3 hT h) fun k _ _ hy => .ite (fun _ => .err hT h _) fun _ => .then (zDS hT hy _) fun _ _ _ hz => .then (hv hz) fun _ _ _ hu=>zIS hv f _ _ hu
theorem noVal_rr {x x':PS} (h:XR T x x'):zCN x'=zCN x:=by
 unfold zCN
 rw [(h.hd hT).1,h.isS hT,h.isS hT,h.isS hT,h.vr]
theorem zGi : ∀ (f lv:Nat) {x x':PS},XR T x x'->RR T I (valueQ f lv x) (valueQ f lv x')
 |0,_,_,_,h => .err hT h _
 |f+1,lv,x,x',h=>by
  have hy:XR T { nxT x with nd:=x.nd+1 } { nxT x' with nd:=x'.nd+1 }:=⟨(h.nx hT).ts,(h.nx hT).vr,by show x.nd+1=x'.nd+1;rw [h.nd]⟩
  unfold valueQ
  rw [noVal_rr hT h,<- h.nd,(h.hd hT).1,(h.hd hT).2.1]
  rw [<- h.nd] at hy
  refine .ite (fun _ => .err hT h _) fun _ => .ite (fun _ => .err hT h _) fun _ => .ite (fun _ => .err hT h _) fun _ => ?_
  dsimp only
  refine .ite (fun _ => .okk hy _) fun _ => .ite (fun _ => .okk hy _) fun _ => .ite (fun _ => .okk hy _) fun _ => .ite (fun _ => .then (zB3 hT hy) fun _ _ _ hz => .okk hz _) fun _ => .ite (fun _ => ?_) fun _ => ?_
  . have e:(nxT x').ts.length=(nxT x).ts.length:=(h.nx hT).len
    rw [e]
    exact .then (zKN hT (fun h=>zGi f (lv+1) h) _ _ hy) fun _ _ _ hz => .okk hz _
  . have e:(nxT x').ts.length=(nxT x).ts.length:=(h.nx hT).len
    rw [e]
    exact .then (zIS hT (fun h=>zGi f (lv+1) h) _ _ _ hy) fun _ _ _ hz => .okk hz _
theorem zJl {x x':PS} (h:XR T x x'):RR T I (zAd x) (zAd x'):=zGi hT _ _ ⟨h.ts,h.vr,rfl⟩
theorem zK6 : ∀ (f:Nat) (acc:List D) {x x':PS},XR T x x'->RR T I (zER f acc x) (zER f acc x')
 |0,_,_,_,h => .err hT h _
 |f+1,acc,x,x',h=>by
  unfold zER
  rw [h.isS hT,(h.hd hT).1]
  exact .ite (fun _ => .okk (h.nx hT) _) fun _ => .ite (fun _ => .err hT h _) fun _ => .then (zB3 hT h) fun _ _ _ hy => .then (zDS hT hy _) fun _ _ _ hz => .then (zJl hT hz) fun _ _ _ hu=>zK6 f _ hu
theorem args_rr {x x':PS} (h:XR T x x'):RR T I (argsQ x) (argsQ x'):=by
 unfold argsQ
 rw [h.isS hT,h.len]
 exact .ite (fun _=>zK6 hT _ _ (h.nx hT)) fun _ => .okk h _
theorem zKk : ∀ (f:Nat) (acc:List D) {x x':PS},XR T x x'->RR T I (dirsF f acc x) (dirsF f acc x')
 |0,_,_,_,h => .err hT h _
 |f+1,acc,x,x',h=>by
  unfold dirsF
  rw [h.isS hT]
  exact .ite (fun _ => .ite (fun _ => .err hT h _) fun _ => .then (zB3 hT (h.nx hT)) fun _ _ _ hy => .then (args_rr hT hy) fun _ _ _ hz=>zKk f _ hz) fun _ => .okk h _
theorem zHO {x x':PS} (h:XR T x x'):RR T I (dirsQ x) (dirsQ x'):=by
 unfold dirsQ
 rw [h.len]
 exact zKk hT _ _ h
end
end
section
structure J (e:Tok) (r:List Tok) (a:List Tok) (x x':PS):Prop where
 l:x.ts=a++[e]
 r:x'.ts=a++r
 vr:x'.vr=x.vr
 nd:x'.nd=x.nd
def LO (e:Tok) (r:List Tok) {α:Type} (a:List Tok) (p p':PR α):Prop:=
 ∀ v y,p = .ok (v,y) -> ∃ b,(∃ d,a=d++b)/\y.ts=b++[e]/\(b≠[] -> ∃ y',p' = .ok (v,y')/\J e r b y y')
def LS (e:Tok) (r:List Tok) {α:Type} (a:List Tok) (p p':PR α):Prop:=
 ∀ v y,p = .ok (v,y) -> ∃ b y',(∃ t d,a=t::d++b)/\p' = .ok (v,y')/\J e r b y y'
structure Ends (e:Tok) (r:List Tok):Prop where
 k:e.k=5
 r:r≠[]
section
variable {e:Tok} {r:List Tok} {α β:Type}
theorem LS.lo {a:List Tok} {p p':PR α} (h:LS e r a p p'):LO e r a p p':=fun v y hp=>by
 obtain ⟨b,y',⟨t,d,hd⟩,h1,h2⟩:=h v y hp
 exact ⟨b,⟨t::d,hd⟩,h2.l,fun _=>⟨y',h1,h2⟩⟩
theorem LO.zero {p p' p'':PR α} (h:LO e r [] p p'):LO e r [] p p'':=fun v y hp=>by
 obtain ⟨b,⟨d,hd⟩,h1,h2⟩:=h v y hp
 have:b=[]:=(List.append_eq_nil_iff.1 hd.symm).2
 subst this
 exact ⟨[],⟨[],rfl⟩,h1,fun h=>(h rfl).elim⟩
theorem LS.zero {p p' p'':PR α} (h:LS e r [] p p'):LS e r [] p p'':=fun v y hp=>by
 obtain ⟨b,y',⟨t,d,hd⟩,-⟩:=h v y hp
 cases hd
theorem LO.err {a:List Tok} {q:Nat × Int} {p':PR α}:LO e r a (.error q) p':=fun _ _ h=>by cases h
theorem LS.err {a:List Tok} {q:Nat × Int} {p':PR α}:LS e r a (.error q) p':=fun _ _ h=>by cases h
theorem LO.okk {a:List Tok} {x x':PS} (h:J e r a x x') (v:α):LO e r a (.ok (v,x)) (.ok (v,x')):=fun w y hp=>by
 cases hp
 exact ⟨a,⟨[],rfl⟩,h.l,fun _=>⟨x',rfl,h⟩⟩
theorem LO.mono {a b:List Tok} {p p':PR α} (h:LO e r b p p') (hab : ∃ d,a=d++b):LO e r a p p':=fun v y hp=>by
 obtain ⟨c,⟨d,hd⟩,h1⟩:=h v y hp
 obtain ⟨d2,hd2⟩:=hab
 exact ⟨c,⟨d2++d,by rw [hd2,hd,List.append_assoc]⟩,h1⟩
theorem LS.mono {a b:List Tok} {p p':PR α} (h:LS e r b p p') (hab : ∃ d,a=d++b):LS e r a p p':=fun v y hp=>by
 obtain ⟨c,y',⟨t,d,hd⟩,h1⟩:=h v y hp
 obtain ⟨d2,hd2⟩:=hab
 cases d2 with
 |nil=>exact ⟨c,y',⟨t,d,by rw [hd2,hd];rfl⟩,h1⟩
 |cons t2 d2=>exact ⟨c,y',⟨t2,d2++t::d,by rw [hd2,hd];simp⟩,h1⟩
theorem LS.okn {t:Tok} {a:List Tok} {x x':PS} (h:J e r a x x') (v:α):LS e r (t::a) (.ok (v,x)) (.ok (v,x')):=fun w y hp=>by
 cases hp
 exact ⟨a,x',⟨t,[],rfl⟩,rfl,h⟩
theorem LO.ite {a:List Tok} {c c':Prop} [Decidable c] [Decidable c'] {A A' B B':PR α} (hc:a≠[]->(c ↔ c')) (h1:c->LO e r a A A') (h2 : ¬ c->LO e r a B B'):LO e r a (if c then A else B) (if c' then A' else B'):=by
 by_cases ha:a=[]
 . subst ha
   by_cases h:c
   . rw [if_pos h];exact (h1 h).zero
   . rw [if_neg h];exact (h2 h).zero
 . by_cases h:c
   . rw [if_pos h,if_pos ((hc ha).1 h)];exact h1 h
   . rw [if_neg h,if_neg fun h'=>h ((hc ha).2 h')];exact h2 h
theorem LS.ite {a:List Tok} {c c':Prop} [Decidable c] [Decidable c'] {A A' B B':PR α} (hc:a≠[]->(c ↔ c')) (h1:c->LS e r a A A') (h2 : ¬ c->LS e r a B B'):LS e r a (if c then A else B) (if c' then A' else B'):=by
 by_cases ha:a=[]
 . subst ha
   by_cases h:c
   . rw [if_pos h];exact (h1 h).zero
   . rw [if_neg h];exact (h2 h).zero
 . by_cases h:c
   . rw [if_pos h,if_pos ((hc ha).1 h)];exact h1 h
   . rw [if_neg h,if_neg fun h'=>h ((hc ha).2 h')];exact h2 h
theorem LO.then {a:List Tok} {p p':PR α} {f f':α->PS->PR β} (h:LO e r a p p') (hf : ∀ v b y y',J e r b y y'->LO e r b (f v y) (f' v y')):LO e r a (thenQ p f) (thenQ p' f'):=fun w z hp=>by
 cases hpp:p with
 |error q=>rw [hpp] at hp;cases hp
 |ok q =>
  obtain ⟨v,y⟩:=q
  obtain ⟨b,hab,h1,h2⟩:=h v y hpp
  rw [hpp] at hp
  have hp:f v y = .ok (w,z):=hp
  by_cases hb:b=[]
  . subst hb
    obtain ⟨c,⟨d,hd⟩,h3,-⟩:=hf v [] y ⟨r,y.vr,y.nd⟩ ⟨h1,rfl,rfl,rfl⟩ w z hp
    have:c=[]:=(List.append_eq_nil_iff.1 hd.symm).2
    subst this
    exact ⟨[],hab,h3,fun h=>(h rfl).elim⟩
  . obtain ⟨y',h3,h4⟩:=h2 hb
    rw [h3]
    exact ((hf v b y y' h4).mono hab) w z hp
theorem LS.then {a:List Tok} {p p':PR α} {f f':α->PS->PR β} (h:LO e r a p p') (hf : ∀ v b y y',J e r b y y'->LS e r b (f v y) (f' v y')):LS e r a (thenQ p f) (thenQ p' f'):=fun w z hp=>by
 cases hpp:p with
 |error q=>rw [hpp] at hp;cases hp
 |ok q =>
  obtain ⟨v,y⟩:=q
  obtain ⟨b,hab,h1,h2⟩:=h v y hpp
  rw [hpp] at hp
  have hp:f v y = .ok (w,z):=hp
  by_cases hb:b=[]
  . subst hb
    obtain ⟨c,y',⟨t,d,hd⟩,-⟩:=hf v [] y ⟨r,y.vr,y.nd⟩ ⟨h1,rfl,rfl,rfl⟩ w z hp
    cases hd
  . obtain ⟨y',h3,h4⟩:=h2 hb
    rw [h3]
    exact ((hf v b y y' h4).mono hab) w z hp
theorem LS.pure {a:List Tok} {p p':PR α} {f f':α->PS->PR β} (h:LS e r a p p') (hf : ∀ v b y y',J e r b y y' -> ∃ w z z',f v y = .ok (w,z)/\f' v y' = .ok (w,z')/\J e r b z z'):LS e r a (thenQ p f) (thenQ p' f'):=fun w z hp=>by
 cases hpp:p with
 |error q=>rw [hpp] at hp;cases hp
 |ok q =>
  obtain ⟨v,y⟩:=q
  obtain ⟨b,y',hab,h1,h2⟩:=h v y hpp
  rw [hpp] at hp
  have hp:f v y = .ok (w,z):=hp
  obtain ⟨w2,z2,z',h3,h4,h5⟩:=hf v b y y' h2
  rw [hp] at h3
  cases h3
  rw [h1]
  exact ⟨b,z',hab,h4,h5⟩
variable (hE:Ends e r)
theorem J.hd {a:List Tok} {x x':PS} (h:J e r a x x') (ha:a≠[]):hdT x'=hdT x:=by
 cases a with
 |nil=>exact (ha rfl).elim
 |cons t a=>unfold hdT;rw [h.l,h.r];rfl
theorem J.sg {a:List Tok} {x x':PS} (h:J e r a x x') (s:List UInt8) (ha:a≠[]):isS x s=true ↔ isS x' s=true:=by
 unfold isS;rw [h.hd ha]
include hE
theorem J.k5 {x x':PS} (h:J e r [] x x'):(hdT x).k=5:=by unfold hdT;rw [h.l];exact hE.k
theorem J.ne_of_k {a:List Tok} {x x':PS} (h:J e r a x x') (hk:(hdT x).k≠5) : ∃ t a',a=t::a'/\J e r a' (nxT x) (nxT x'):=by
 cases a with
 |nil=>exact (hk (h.k5 hE)).elim
 |cons t a =>
  have h1:=h.hd (by simp)
  refine ⟨t,a,rfl,?_⟩
  unfold nxT
  rw [h1,if_neg hk,if_neg hk]
  exact ⟨by show x.ts.drop 1=_;rw [h.l];rfl,by show x'.ts.drop 1=_;rw [h.r];rfl,h.vr,h.nd⟩
theorem J.ne_of_isS {a:List Tok} {x x':PS} (h:J e r a x x') {s:List UInt8} (hs:isS x s=true) : ∃ t a',a=t::a'/\J e r a' (nxT x) (nxT x'):=by
 refine h.ne_of_k hE ?_
 unfold isS at hs
 simp only [Bool.and_eq_true,beq_iff_eq] at hs
 rw [hs.1];decide
theorem J.len {a:List Tok} {x x':PS} (h:J e r a x x'):x.ts.length<=x'.ts.length:=by
 rw [h.l,h.r,List.length_append,List.length_append]
 have:0<r.length:=List.length_pos_iff.2 hE.r
 simp;omega
theorem zA1 {a:List Tok} {x x':PS} (h:J e r a x x') (s:List UInt8):LS e r a (takeQ s x) (takeQ s x'):=by
 unfold takeQ
 refine .ite (h.sg s) (fun hs => ?_) fun _ => .err
 obtain ⟨t,a',rfl,h'⟩:=h.ne_of_isS hE hs
 exact .okn h' _
theorem zAa {a:List Tok} {x x':PS} (h:J e r a x x'):LS e r a (nameQ x) (nameQ x'):=by
 unfold nameQ
 refine .ite (fun ha=>by rw [h.hd ha]) (fun hk => ?_) fun _ => .err
 obtain ⟨t,a',rfl,h'⟩:=h.ne_of_k hE (by rw [hk];decide)
 rw [h.hd (by simp)]
 exact .okn h' _
theorem open_j : ∀ (f g:Nat) {a:List Tok} {x x':PS},J e r a x x'->x.ts.length<=f->x'.ts.length<=g -> ∃ b,(∃ d,a=d++b)/\(openQ f x).2.ts=b++[e]/\(b≠[]->(openQ g x').1=(openQ f x).1/\J e r b (openQ f x).2 (openQ g x').2)
 |0,g,a,x,x',h,hf,_=>by rw [h.l] at hf;simp at hf
 |f+1,0,a,x,x',h,_,hg=>by have:=h.len hE;rw [h.l] at this;simp at this;omega
 |f+1,g+1,a,x,x',h,hf,hg=>by
  by_cases hs:isS x [91]=true
  . obtain ⟨t,a',rfl,h'⟩:=h.ne_of_isS hE hs
    have hs':=(h.sg [91] (by simp)).1 hs
    have e1:openQ (f+1) x=((openQ f (nxT x)).1+1,(openQ f (nxT x)).2):=by rw [openQ,if_pos hs]
    have e2:openQ (g+1) x'=((openQ g (nxT x')).1+1,(openQ g (nxT x')).2):=by rw [openQ,if_pos hs']
    rw [e1,e2]
    obtain ⟨b,⟨d,hd⟩,h1,h2⟩:=open_j f g h' (by rw [h'.l];rw [h.l] at hf;simpa using hf) (by rw [h'.r];rw [h.r] at hg;simpa using hg)
    exact ⟨b,⟨t::d,by rw [hd];rfl⟩,h1,fun hb=>⟨by rw [(h2 hb).1],(h2 hb).2⟩⟩
  . have e1:openQ (f+1) x=(0,x):=by rw [openQ,if_neg hs]
    rw [e1]
    refine ⟨a,⟨[],rfl⟩,h.l,fun ha => ?_⟩
    have e2:openQ (g+1) x'=(0,x'):=by rw [openQ,if_neg fun hq=>hs ((h.sg [91] ha).2 hq)]
    rw [e2]
    exact ⟨rfl,h⟩
theorem zHU : ∀ (n:Nat) (w:List Int) {a:List Tok} {x x':PS},J e r a x x'->LO e r a (closeQ n w x) (closeQ n w x')
 |0,w,a,x,x',h=>by
  have e1 : ∀ x,closeQ 0 w x=if isS x [33]=true then .ok (1::w,nxT x) else .ok (w,x):=fun x=>by unfold closeQ;split<;>rfl
  rw [e1,e1]
  refine .ite (h.sg _) (fun hs => ?_) fun _ => .okk h _
  obtain ⟨t,a',rfl,h'⟩:=h.ne_of_isS hE hs
  exact (LS.okn h' _).lo
 |n+1,w,a,x,x',h=>by
  have e1 : ∀ x,closeQ (n+1) w x=if isS x [33]=true then thenQ (takeQ [93] (nxT x)) fun _ y=>closeQ n (2::1::w) y else thenQ (takeQ [93] x) fun _ y=>closeQ n (2::w) y:=fun x=>by
   rw [closeQ];split<;>rfl
  rw [e1,e1]
  refine .ite (h.sg _) (fun hs => ?_) fun _ => .then (zA1 hE h _).lo fun _ _ _ _ hy=>zHU n _ hy
  obtain ⟨t,a',rfl,h'⟩:=h.ne_of_isS hE hs
  exact (LO.then (zA1 hE h' _).lo fun _ _ _ _ hy=>zHU n _ hy).mono ⟨[t],rfl⟩
theorem inner_lo {a:List Tok} {x x':PS} (h:J e r a x x'):LO e r a (zA7 x) (zA7 x'):=by
 obtain ⟨b,hab,h1,h2⟩:=open_j hE x.ts.length x'.ts.length h (Nat.le_refl _) (Nat.le_refl _)
 unfold zA7
 by_cases hb:b=[]
 . subst hb
   intro v y hp
   have hk:nameQ (openQ x.ts.length x).2 = .error ((hdT (openQ x.ts.length x).2).i,3):=by
    unfold nameQ
    rw [if_neg]
    unfold hdT
    rw [h1]
    show ¬ e.k=2
    rw [hE.k];decide
   rw [hk] at hp
   cases hp
 . obtain ⟨h3,h4⟩:=h2 hb
   rw [h3]
   refine LO.mono (b:=b) ?_ hab
   exact .then (zAa hE h4).lo fun _ _ _ _ hy => .then (zHU hE _ _ hy) fun _ _ _ _ hz => .okk hz _
theorem zF4 {a:List Tok} {x x':PS} (h:J e r a x x'):LO e r a (typQ x) (typQ x'):=
 .then (inner_lo hE h) fun _ _ _ _ hy => .ite (fun _=>Iff.rfl) (fun _ => .err) fun _ => .okk hy _
theorem zHF {v v':PS->PR D} (hv : ∀ {a:List Tok} {x x':PS},J e r a x x'->LO e r a (v x) (v' x')) : ∀ (f g:Nat) (acc:List D) {a:List Tok} {x x':PS},f<=g->J e r a x x'->LS e r a (itemsQ v f acc x) (itemsQ v' g acc x')
 |0,_,_,_,_,_,_,_ => .err
 |f+1,0,_,_,_,_,hfg,_=>by omega
 |f+1,g+1,acc,a,x,x',hfg,h=>by
  unfold itemsQ
  refine .ite (h.sg _) (fun hs => ?_) fun _ => .then (hv h) fun _ _ _ _ hy=>zHF hv f g _ (by omega) hy
  obtain ⟨t,a',rfl,h'⟩:=h.ne_of_isS hE hs
  exact .okn h' _
theorem zFX {v v':PS->PR D} (hv : ∀ {a:List Tok} {x x':PS},J e r a x x'->LO e r a (v x) (v' x')) : ∀ (f g:Nat) (ks:List (List UInt8)) (acc:List D) {a:List Tok} {x x':PS},f<=g->J e r a x x'->LS e r a (zAG v f ks acc x) (zAG v' g ks acc x')
 |0,_,_,_,_,_,_,_,_ => .err
 |f+1,0,_,_,_,_,_,hfg,_=>by omega
 |f+1,g+1,ks,acc,a,x,x',hfg,h=>by
  unfold zAG
  refine .ite (h.sg _) (fun hs => ?_) fun _ => .then (zAa hE h).lo fun k _ _ _ hy => .ite (fun _=>Iff.rfl) (fun _ => .err) fun _ => .then (zA1 hE hy _).lo fun _ _ _ _ hz => .then (hv hz) fun _ _ _ _ hu=>zFX hv f g _ _ (by omega) hu
  obtain ⟨t,a',rfl,h'⟩:=h.ne_of_isS hE hs
  exact .okn h' _
theorem zCI : ∀ (f lv:Nat) {a:List Tok} {x x':PS},J e r a x x'->LO e r a (valueQ f lv x) (valueQ f lv x')
 |0,_,_,_,_,_ => .err
 |f+1,lv,a,x,x',h=>by
  by_cases ha:a=[]
  . intro v y hp
    subst ha
    have hk:=h.k5 hE
    unfold valueQ at hp
    rw [if_pos (by unfold zCN;rw [hk];rfl)] at hp
    cases hp
  . have hh:=h.hd ha
    have hn:zCN x'=zCN x:=by unfold zCN isS;rw [hh,h.vr]
    unfold valueQ
    rw [hn,hh,h.nd]
    refine .ite (fun _=>Iff.rfl) (fun _ => .err) fun hno => ?_
    obtain ⟨t,a',rfl,h'⟩:=h.ne_of_k hE (fun hk=>hno (by unfold zCN;rw [hk];rfl))
    have hy:J e r a' { nxT x with nd:=x.nd+1 } { nxT x' with nd:=x.nd+1 }:=⟨h'.l,h'.r,h'.vr,rfl⟩
    have hlen:(nxT x).ts.length<=(nxT x').ts.length:=h'.len hE
    refine .ite (fun _=>Iff.rfl) (fun _ => .err) fun _ => .ite (fun _=>Iff.rfl) (fun _ => .err) fun _ => ?_
    dsimp only
    refine LO.mono (b:=a') ?_ ⟨[t],rfl⟩
    refine .ite (fun _=>Iff.rfl) (fun _ => .okk hy _) fun _ => .ite (fun _=>Iff.rfl) (fun _ => .okk hy _) fun _ => .ite (fun _=>Iff.rfl) (fun _ => .okk hy _) fun _ => .ite (fun _=>Iff.rfl) (fun _ => .then (zAa hE hy).lo fun _ _ _ _ hz => .okk hz _) fun _ => .ite (fun _=>Iff.rfl) (fun _ => ?_) fun _ => ?_
    . exact .then (zHF hE (fun h=>zCI f (lv+1) h) _ _ _ (by omega) hy).lo fun _ _ _ _ hz => .okk hz _
    . exact .then (zFX hE (fun h=>zCI f (lv+1) h) _ _ _ _ (by omega) hy).lo fun _ _ _ _ hz => .okk hz _
theorem zC2 {a:List Tok} {x x':PS} (h:J e r a x x'):LO e r a (zAd x) (zAd x'):=zCI hE _ _ ⟨h.l,h.r,h.vr,rfl⟩
theorem zK8 : ∀ (f g:Nat) (acc:List D) {a:List Tok} {x x':PS},f<=g->J e r a x x'->LS e r a (zER f acc x) (zER g acc x')
 |0,_,_,_,_,_,_,_ => .err
 |f+1,0,_,_,_,_,hfg,_=>by omega
 |f+1,g+1,acc,a,x,x',hfg,h=>by
  unfold zER
  refine .ite (fun ha=>by rw [h.sg _ ha]) (fun hs => ?_) fun _ => .ite (fun ha=>by rw [h.hd ha]) (fun _ => .err) fun _ => .then (zAa hE h).lo fun _ _ _ _ hy => .then (zA1 hE hy _).lo fun _ _ _ _ hz => .then (zC2 hE hz) fun _ _ _ _ hu=>zK8 f g _ (by omega) hu
  obtain ⟨t,a',rfl,h'⟩:=h.ne_of_isS hE hs.2
  exact .okn h' _
theorem zHY {a:List Tok} {x x':PS} (h:J e r a x x'):LO e r a (argsQ x) (argsQ x'):=by
 unfold argsQ
 refine .ite (h.sg _) (fun hs => ?_) fun _ => .okk h _
 obtain ⟨t,a',rfl,h'⟩:=h.ne_of_isS hE hs
 exact (zK8 hE _ _ _ (h.len hE) h').lo.mono ⟨[t],rfl⟩
theorem zKm : ∀ (f g:Nat) (acc:List D) {a:List Tok} {x x':PS},f<=g->J e r a x x'->LO e r a (dirsF f acc x) (dirsF g acc x')
 |0,_,_,_,_,_,_,_ => .err
 |f+1,0,_,_,_,_,hfg,_=>by omega
 |f+1,g+1,acc,a,x,x',hfg,h=>by
  unfold dirsF
  refine .ite (h.sg _) (fun hs => ?_) fun _ => .okk h _
  obtain ⟨t,a',rfl,h'⟩:=h.ne_of_isS hE hs
  exact LO.mono (b:=a') (.ite (fun _=>Iff.rfl) (fun _ => .err) fun _ => .then (zAa hE h').lo fun _ _ _ _ hy => .then (zHY hE hy) fun _ _ _ _ hz=>zKm f g _ (by omega) hz) ⟨[t],rfl⟩
theorem zB7 {a:List Tok} {x x':PS} (h:J e r a x x'):LO e r a (dirsQ x) (dirsQ x'):=zKm hE _ _ _ (by have:=h.len hE;omega) h
theorem sel_lo {v v':PS->PR (List D)} (hv : ∀ {a:List Tok} {x x':PS},J e r a x x'->LO e r a (v x) (v' x')) {a:List Tok} {x x':PS} (h:J e r a x x'):LO e r a (selQ v x) (selQ v' x'):=by
 unfold selQ
 refine .ite (h.sg _) (fun hs => ?_) fun _ => ?_
 . obtain ⟨t,a',rfl,h'⟩:=h.ne_of_isS hE hs
   refine LO.mono (b:=a') ?_ ⟨[t],rfl⟩
   dsimp only
   refine .ite (fun ha=>by rw [h'.hd ha]) (fun hk => ?_) fun _ => ?_
   . obtain ⟨t2,a2,rfl,h2⟩:=h'.ne_of_k hE (by rw [hk.1];decide)
     rw [h'.hd (by simp)]
     exact LO.mono (b:=a2) (.then (zB7 hE h2) fun _ _ _ _ hz => .okk hz _) ⟨[t2],rfl⟩
   . refine .then (.ite (fun ha=>by rw [h'.hd ha]) (fun hk => ?_) fun _ => .okk h' _) fun _ _ _ _ hz => .then (zB7 hE hz) fun _ _ _ _ hu => .then (hv hu) fun _ _ _ _ ho => .okk ho _
     obtain ⟨t2,a2,rfl,h2⟩:=h'.ne_of_k hE (by rw [hk];decide)
     exact (zAa hE h2).lo.mono ⟨[t2],rfl⟩
 . refine .then (zAa hE h).lo fun n _ y y' hy => .then (.ite (hy.sg _) (fun hs => ?_) fun _ => .okk hy _) fun _ _ _ _ hz => .then (zHY hE hz) fun _ _ _ _ hu => .then (zB7 hE hu) fun _ _ _ _ hw => .then (.ite (hw.sg _) (fun _=>hv hw) fun _ => .okk hw _) fun _ _ _ _ ho => .okk ho _
   obtain ⟨t2,a2,rfl,h2⟩:=hy.ne_of_isS hE hs
   exact LO.mono (b:=a2) (.then (zAa hE h2).lo fun _ _ _ _ hz => .okk hz _) ⟨[t2],rfl⟩
theorem setF_ls {v v':PS->PR D} (hv : ∀ {a:List Tok} {x x':PS},J e r a x x'->LO e r a (v x) (v' x')) : ∀ (f g:Nat) (acc:List D) {a:List Tok} {x x':PS},f<=g->J e r a x x'->LS e r a (setF v f acc x) (setF v' g acc x')
 |0,_,_,_,_,_,_,_ => .err
 |f+1,0,_,_,_,_,hfg,_=>by omega
 |f+1,g+1,acc,a,x,x',hfg,h=>by
  unfold setF
  refine .ite (fun ha=>by rw [h.sg _ ha]) (fun hs => ?_) fun _ => .ite (fun ha=>by rw [h.hd ha,h.sg _ ha]) (fun _ => .err) fun _ => .then (hv h) fun _ _ _ _ hy=>setF_ls hv f g _ (by omega) hy
  obtain ⟨t,a',rfl,h'⟩:=h.ne_of_isS hE hs.2
  exact .okn h' _
theorem zGr : ∀ (f lv:Nat) {a:List Tok} {x x':PS},J e r a x x'->LS e r a (zGs f lv x) (zGs f lv x')
 |0,_,_,_,_,_ => .err
 |f+1,lv,a,x,x',h=>by
  unfold zGs
  refine .ite (fun ha=>by rw [h.sg _ ha]) (fun _ => .err) fun _ => .then (zA1 hE h _).lo fun _ _ y y' hy => ?_
  exact setF_ls hE (fun h=>sel_lo hE (fun h=>(zGr f (lv+1) h).lo) h) _ _ _ (by have:=hy.len hE;omega) hy
theorem set_ls {a:List Tok} {x x':PS} (h:J e r a x x'):LS e r a (setQ x) (setQ x'):=zGr hE _ _ h
theorem zJn : ∀ (f g:Nat) (acc:List D) {a:List Tok} {x x':PS},f<=g->J e r a x x'->LS e r a (varsF f acc x) (varsF g acc x')
 |0,_,_,_,_,_,_,_ => .err
 |f+1,0,_,_,_,_,hfg,_=>by omega
 |f+1,g+1,acc,a,x,x',hfg,h=>by
  unfold varsF
  refine .ite (fun ha=>by rw [h.sg _ ha]) (fun hs => ?_) fun _ => .ite (fun ha=>by rw [h.sg _ ha]) (fun _ => .err) fun _ => .then (zA1 hE h _).lo fun _ _ _ _ hy => .then (zAa hE hy).lo fun _ _ _ _ hz => .then (zA1 hE hz _).lo fun _ _ _ _ hu => .then (zF4 hE hu) fun _ _ v v' hv => .then (.ite (hv.sg _) (fun hs => ?_) fun _ => .okk hv _) fun _ _ _ _ ho=>zJn f g _ (by omega) ho
  . obtain ⟨t,a',rfl,h'⟩:=h.ne_of_isS hE hs.2
    exact .okn h' _
  . obtain ⟨t,a',rfl,h'⟩:=hv.ne_of_isS hE hs
    exact LO.mono (b:=a') (.then (zC2 hE (x:={ nxT v with vr:=false }) (x':={ nxT v' with vr:=false }) ⟨h'.l,h'.r,rfl,h'.nd⟩) fun _ _ o o' ho => .okk (x:={ o with vr:=true }) (x':={ o' with vr:=true }) ⟨ho.l,ho.r,rfl,ho.nd⟩ _) ⟨[t],rfl⟩
theorem op_ls (k:Int) {a:List Tok} {x x':PS} (h:J e r a x x'):LS e r a (opQ k x) (opQ k x'):=by
 unfold opQ
 refine .then (.ite (fun ha=>by rw [h.hd ha]) (fun hk => ?_) fun _ => .okk h _) fun _ _ y y' hy => .then (.ite (hy.sg _) (fun hs => ?_) fun _ => .okk hy _) fun _ _ _ _ hz => .pure (set_ls hE hz) fun _ _ u u' hu=>⟨_,u,u',rfl,rfl,hu⟩
 . obtain ⟨t,a',rfl,h'⟩:=h.ne_of_k hE (by rw [hk];decide)
   rw [h.hd (by simp)]
   exact (LS.okn h' _).lo
 . obtain ⟨t,a',rfl,h'⟩:=hy.ne_of_isS hE hs
   exact (zJn hE _ _ _ (hy.len hE) h').lo.mono ⟨[t],rfl⟩
theorem frag_ls {a:List Tok} {x x':PS} (h:J e r a x x'):LS e r a (fragQ x) (fragQ x'):=by
 unfold fragQ
 refine .ite (fun ha=>by rw [h.hd ha]) (fun _ => .err) fun _ => .then (zAa hE h).lo fun _ _ y y' hy => .ite (fun ha=>by rw [hy.hd ha]) (fun hk => ?_) fun _ => .err
 obtain ⟨t,a',rfl,h'⟩:=hy.ne_of_k hE (by rw [hk.1];decide)
 refine LS.mono (b:=a') ?_ ⟨[t],rfl⟩
 exact .then (zAa hE h').lo fun _ _ _ _ hz => .pure (set_ls hE hz) fun _ _ u u' hu=>⟨_,u,u',rfl,rfl,hu⟩
end
end
section
def En (x:PS):Prop:=∃ a e,x.ts=a++[e]/\e.k=5 /\ ∀ t∈x.ts,t.s.length<=100000
theorem En.cons {x:PS} (h:En x) : ∃ t r,x.ts=t::r:=by
 obtain ⟨a,e,h1,-⟩:=h
 rw [h1]
 cases a with
 |nil=>exact ⟨e,[],rfl⟩
 |cons t a=>exact ⟨t,a++[e],rfl⟩
theorem En.lo {α:Type} {x y:PS} {v:α} (h:En x) {p:PS->PR α} (hp : ∀ {e:Tok} {a:List Tok} {x x':PS},Ends e [e]->J e [e] a x x'->LO e [e] a (p x) (p x')) (hq:p x = .ok (v,y)):En y/\y.ts.length<=x.ts.length:=by
 obtain ⟨a,e,h1,h2,h4⟩:=h
 obtain ⟨b,⟨d,hd⟩,h3,-⟩:=hp (e:=e) (a:=a) (x:=x) (x':=x) ⟨h2,by simp⟩ ⟨h1,h1,rfl,rfl⟩ v y hq
 exact ⟨⟨b,e,h3,h2,fun t ht=>h4 t (by rw [h1,hd];rw [h3] at ht;simp at ht |-;exact .inr ht)⟩,by rw [h3,h1,hd];simp⟩
theorem En.ls {α:Type} {x y:PS} {v:α} (h:En x) {p:PS->PR α} (hp : ∀ {e:Tok} {a:List Tok} {x x':PS},Ends e [e]->J e [e] a x x'->LS e [e] a (p x) (p x')) (hq:p x = .ok (v,y)):En y/\y.ts.length<x.ts.length:=by
 obtain ⟨a,e,h1,h2,h4⟩:=h
 obtain ⟨b,y',⟨t,d,hd⟩,-,h3⟩:=hp (e:=e) (a:=a) (x:=x) (x':=x) ⟨h2,by simp⟩ ⟨h1,h1,rfl,rfl⟩ v y hq
 exact ⟨⟨b,e,h3.l,h2,fun t ht=>h4 t (by rw [h1,hd];rw [h3.l] at ht;simp at ht |-;exact .inr (.inr ht))⟩,by rw [h3.l,h1,hd];simp;omega⟩
theorem En.name {x y:PS} {v:List UInt8} (h:En x) (hq:nameQ x = .ok (v,y)):En y/\y.ts.length<x.ts.length:=h.ls (p:=nameQ) (fun hE h=>zAa hE h) hq
theorem En.take {x y:PS} {s:List UInt8} (h:En x) (hq:takeQ s x = .ok ((),y)):En y/\y.ts.length<x.ts.length:=h.ls (p:=takeQ s) (fun hE h=>zA1 hE h s) hq
theorem En.typ {x y:PS} {v:D} (h:En x) (hq:typQ x = .ok (v,y)):En y/\y.ts.length<=x.ts.length:=h.lo (p:=typQ) (fun hE h=>zF4 hE h) hq
theorem En.value {f lv:Nat} {x y:PS} {v:D} (h:En x) (hq:valueQ f lv x = .ok (v,y)):En y/\y.ts.length<=x.ts.length:=h.lo (p:=valueQ f lv) (fun hE h=>zCI hE f lv h) hq
theorem En.whole {x y:PS} {v:D} (h:En x) (hq:zAd x = .ok (v,y)):En y/\y.ts.length<=x.ts.length:=h.lo (p:=zAd) (fun hE h=>zC2 hE h) hq
theorem En.args {x y:PS} {v:List D} (h:En x) (hq:argsQ x = .ok (v,y)):En y/\y.ts.length<=x.ts.length:=h.lo (p:=argsQ) (fun hE h=>zHY hE h) hq
theorem En.dirs {x y:PS} {v:List D} (h:En x) (hq:dirsQ x = .ok (v,y)):En y/\y.ts.length<=x.ts.length:=h.lo (p:=dirsQ) (fun hE h=>zB7 hE h) hq
theorem En.sel {f lv:Nat} {x y:PS} {v:D} (h:En x) (hq:selQ (zGs f lv) x = .ok (v,y)):En y/\y.ts.length<=x.ts.length:=h.lo (p:=selQ (zGs f lv)) (fun hE h=>sel_lo hE (fun h=>(zGr hE f lv h).lo) h) hq
theorem En.sels {f lv:Nat} {x y:PS} {v:List D} (h:En x) (hq:zGs f lv x = .ok (v,y)):En y/\y.ts.length<x.ts.length:=h.ls (p:=zGs f lv) (fun hE h=>zGr hE f lv h) hq
theorem En.op {k:Int} {x y:PS} {v:D} (h:En x) (hq:opQ k x = .ok (v,y)):En y/\y.ts.length<x.ts.length:=h.ls (p:=opQ k) (fun hE h=>op_ls hE k h) hq
theorem En.frag {x y:PS} {v:D} (h:En x) (hq:fragQ x = .ok (v,y)):En y/\y.ts.length<x.ts.length:=h.ls (p:=fragQ) (fun hE h=>frag_ls hE h) hq
theorem En.nx {x:PS} (h:En x) (hk:(hdT x).k≠5):En (nxT x)/\(nxT x).ts.length<x.ts.length:=by
 obtain ⟨a,e,h1,h2,h4⟩:=h
 have hJ:J e [e] a x x:=⟨h1,h1,rfl,rfl⟩
 obtain ⟨t,a',rfl,h3⟩:=hJ.ne_of_k (e:=e) (r:=[e]) ⟨h2,by simp⟩ hk
 exact ⟨⟨a',e,h3.l,h2,fun t ht=>h4 t (by rw [h1];rw [h3.l] at ht;simp at ht |-;exact .inr ht)⟩,by rw [h3.l,h1];simp⟩
theorem En.hd {x:PS} (h:En x):(hdT x).s.length<=100000:=by
 obtain ⟨t,r,ht⟩:=h.cons
 obtain ⟨a,e,-,-,h4⟩:=h
 have:hdT x=t:=by unfold hdT;rw [ht];rfl
 rw [this]
 exact h4 t (by rw [ht];simp)
theorem En.sg {x:PS} {s:List UInt8} (h:En x) (hk:isS x s=true):En (nxT x)/\(nxT x).ts.length<x.ts.length:=by
 refine h.nx ?_
 unfold isS at hk
 simp only [Bool.and_eq_true,beq_iff_eq] at hk
 rw [hk.1];decide
theorem En.nx0 {x:PS} (h:En x):En (nxT x):=by
 by_cases hk:(hdT x).k=5
 . have:nxT x=x:=by unfold nxT;rw [if_pos hk]
   rw [this];exact h
 . exact (h.nx hk).1
theorem En.valueL {f lv:Nat} {x y:PS} {v:D} (h:En x) (hq:valueQ f lv x = .ok (v,y)):En y/\y.ts.length<x.ts.length:=by
 refine ⟨(h.value hq).1,?_⟩
 cases f with
 |zero=>cases hq
 |succ f =>
  unfold valueQ at hq
  split at hq
  . cases hq
  . rename_i hno
    have hk:(hdT x).k≠5:=fun hk=>hno (by unfold zCN;rw [hk];rfl)
    have h1:=h.nx hk
    have hy:En ({ nxT x with nd:=x.nd+1 }:PS):=h1.1
    split at hq
    . cases hq
    split at hq
    . cases hq
    dsimp only at hq
    split at hq
    . cases hq;exact h1.2
    split at hq
    . cases hq;exact h1.2
    split at hq
    . cases hq;exact h1.2
    split at hq
    . have:=(hy.lo (p:=fun x=>thenQ (nameQ x) fun n z => .ok (valD 7 0 n [] [],z)) (fun hE h => .then (zAa hE h).lo fun _ _ _ _ hz => .okk hz _) hq).2
      exact Nat.lt_of_le_of_lt this h1.2
    split at hq
    . have:=(hy.lo (p:=fun x=>thenQ (itemsQ (valueQ f (lv+1)) (x.ts.length+1) [] x) fun l z => .ok (valD 5 0 [] l [],z)) (fun hE h => .then (zHF hE (fun h=>zCI hE f (lv+1) h) _ _ _ (by have:=h.len hE;omega) h).lo fun _ _ _ _ hz => .okk hz _) hq).2
      exact Nat.lt_of_le_of_lt this h1.2
    . have:=(hy.lo (p:=fun x=>thenQ (zAG (valueQ f (lv+1)) (x.ts.length+1) [] [] x) fun l z => .ok (valD 6 0 [] l.2 l.1,z)) (fun hE h => .then (zFX hE (fun h=>zCI hE f (lv+1) h) _ _ _ _ (by have:=h.len hE;omega) h).lo fun _ _ _ _ hz => .okk hz _) hq).2
      exact Nat.lt_of_le_of_lt this h1.2
section
variable {e:Tok} {r:List Tok} (hE:Ends e r)
include hE
theorem zG9 {el el':PS->PR D} (hv : ∀ {a:List Tok} {x x':PS},J e r a x x'->LO e r a (el x) (el' x')) (s:List UInt8) (most:Nat) : ∀ (f g:Nat) (acc:List D) {a:List Tok} {x x':PS},f<=g->J e r a x x'->LS e r a (manyF el s most f acc x) (manyF el' s most g acc x')
 |0,_,_,_,_,_,_,_ => .err
 |f+1,0,_,_,_,_,hfg,_=>by omega
 |f+1,g+1,acc,a,x,x',hfg,h=>by
  unfold manyF
  refine .ite (fun ha=>by rw [h.sg _ ha]) (fun hs => ?_) fun _ => .ite (fun ha=>by rw [h.hd ha]) (fun _ => .err) fun _ => .then (hv h) fun _ _ _ _ hy=>zG9 hv s most f g _ (by omega) hy
  obtain ⟨t,a',rfl,h'⟩:=h.ne_of_isS hE hs.2
  exact .okn h' _
theorem in_lo {a:List Tok} {x x':PS} (h:J e r a x x'):LO e r a (inQ x) (inQ x'):=by
 unfold inQ
 refine .then (zAa hE h).lo fun _ _ _ _ hy => .then (zA1 hE hy _).lo fun _ _ _ _ hz => .then (zF4 hE hz) fun _ _ u u' hu => .then (.ite (hu.sg _) (fun hs => ?_) fun _ => .okk hu _) fun _ _ _ _ hv => .then (zB7 hE hv) fun _ _ _ _ hw => .okk hw _
 obtain ⟨t,a',rfl,h'⟩:=hu.ne_of_isS hE hs
 exact LO.mono (b:=a') (.then (zC2 hE h') fun _ _ _ _ ho => .okk ho _) ⟨[t],rfl⟩
theorem ins_ls (s:List UInt8) {a:List Tok} {x x':PS} (h:J e r a x x'):LS e r a (insQ s x) (insQ s x'):=zG9 hE (in_lo hE) _ _ _ _ _ (by have:=h.len hE;omega) h
theorem fd_lo {a:List Tok} {x x':PS} (h:J e r a x x'):LO e r a (fdQ x) (fdQ x'):=by
 unfold fdQ
 refine .then (zAa hE h).lo fun _ _ y y' hy => .then (.ite (hy.sg _) (fun hs => ?_) fun _ => .okk hy _) fun _ _ _ _ hz => .then (zA1 hE hz _).lo fun _ _ _ _ hu => .then (zF4 hE hu) fun _ _ _ _ hv => .then (zB7 hE hv) fun _ _ _ _ hw => .okk hw _
 obtain ⟨t,a',rfl,h'⟩:=hy.ne_of_isS hE hs
 exact LO.mono (b:=a') (ins_ls hE _ h').lo ⟨[t],rfl⟩
theorem mb_lo {a:List Tok} {x x':PS} (h:J e r a x x'):LO e r a (mbQ x) (mbQ x'):=.then (zAa hE h).lo fun _ _ _ _ hy => .then (zB7 hE hy) fun _ _ _ _ hz => .okk hz _
theorem fds_ls {a:List Tok} {x x':PS} (h:J e r a x x'):LS e r a (fdsQ x) (fdsQ x'):=zG9 hE (fd_lo hE) _ _ _ _ _ (by have:=h.len hE;omega) h
theorem mbs_ls {a:List Tok} {x x':PS} (h:J e r a x x'):LS e r a (mbsQ x) (mbsQ x'):=zG9 hE (mb_lo hE) _ _ _ _ _ (by have:=h.len hE;omega) h
theorem zIE (s:List UInt8) : ∀ (f g:Nat) (acc:List D) {a:List Tok} {x x':PS},f<=g->J e r a x x'->LO e r a (namesF s f acc x) (namesF s g acc x')
 |0,_,_,_,_,_,_,_ => .err
 |f+1,0,_,_,_,_,hfg,_=>by omega
 |f+1,g+1,acc,a,x,x',hfg,h=>by
  unfold namesF
  refine .ite (fun ha=>by rw [h.hd ha]) (fun _ => .err) fun _ => .then (zAa hE h).lo fun _ _ y y' hy => .ite (hy.sg _) (fun hs => ?_) fun _ => .okk hy _
  obtain ⟨t,a',rfl,h'⟩:=hy.ne_of_isS hE hs
  exact (zIE s f g _ (by omega) h').mono ⟨[t],rfl⟩
theorem zG5 (s:List UInt8) {a:List Tok} {x x':PS} (h:J e r a x x'):LO e r a (zBl s x) (zBl s x'):=zIE hE s _ _ _ (by have:=h.len hE;omega) h
theorem zKd (k:Int) {a:List Tok} {x x':PS} (h:J e r a x x'):LO e r a (zBT k x) (zBT k x'):=by
 unfold zBT
 refine .ite (fun ha=>by rw [h.hd ha]) (fun hk => ?_) fun _ => .okk h _
 obtain ⟨t,a',rfl,h'⟩:=h.ne_of_k hE (by rw [hk.2.1];decide)
 exact (zG5 hE _ h').mono ⟨[t],rfl⟩
theorem body_lo (k:Int) {a:List Tok} {x x':PS} (h:J e r a x x'):LO e r a (bodyQ k x) (bodyQ k x'):=by
 unfold bodyQ
 refine .ite (fun _=>Iff.rfl) (fun _ => .then (zA1 hE h _).lo fun _ _ _ _ hy => .then (zG5 hE _ hy) fun _ _ _ _ hz => .okk hz _) fun _ => .then (zA1 hE h _).lo fun _ _ _ _ hy => ?_
 exact .ite (fun _=>Iff.rfl) (fun _ => .then (ins_ls hE _ hy).lo fun _ _ _ _ hz => .okk hz _) fun _ => .ite (fun _=>Iff.rfl) (fun _ => .then (mbs_ls hE hy).lo fun _ _ _ _ hz => .okk hz _) fun _ => .then (fds_ls hE hy).lo fun _ _ _ _ hz => .okk hz _
theorem sdef_lo (k:Int) {a:List Tok} {x x':PS} (h:J e r a x x'):LO e r a (sdefQ k x) (sdefQ k x'):=
 .then (zAa hE h).lo fun _ _ _ _ hy => .then (zKd hE k hy) fun _ _ _ _ hz => .then (zB7 hE hz) fun _ _ _ _ hu => .then (body_lo hE k hu) fun _ _ _ _ hv => .okk hv _
end
def VR {α:Type} (x:PS) (q:PR α):Prop:=∀ a y,q = .ok (a,y)->y.vr=x.vr
section
variable {α β:Type} {x y:PS}
theorem VR.err {e:Nat × Int}:VR (α:=α) x (.error e):=fun _ _ h=>by cases h
theorem VR.okk {a:α} (h:y.vr=x.vr):VR x (.ok (a,y)):=fun _ _ e=>by cases e;exact h
theorem VR.ite {c:Prop} [Decidable c] {p q:PR α} (h1:VR x p) (h2:VR x q):VR x (if c then p else q):=by split<;>assumption
theorem VR.then {q:PR α} {f:α->PS->PR β} (h:VR x q) (hf : ∀ a y,VR y (f a y)):VR x (thenQ q f):=fun a z e=>by
 cases hq:q with
 |error e'=>rw [hq] at e;cases e
 |ok p =>
  obtain ⟨b,y⟩:=p
  rw [hq] at e
  exact (hf b y a z e).trans (h b y hq)
theorem VR.of {q:PR α} (h:VR y q) (e:y.vr=x.vr):VR x q:=fun a z hq=>(h a z hq).trans e
theorem nx_vr1 (x:PS):(nxT x).vr=x.vr:=by unfold nxT;split<;>rfl
theorem zCJ (s:List UInt8) (x:PS):VR x (takeQ s x):=.ite (.okk (nx_vr1 x)) .err
theorem zBm (x:PS):VR x (nameQ x):=.ite (.okk (nx_vr1 x)) .err
theorem open_vr : ∀ (f:Nat) (x:PS),(openQ f x).2.vr=x.vr
 |0,_=>rfl
 |f+1,x=>by
  unfold openQ
  split
  . exact (open_vr f (nxT x)).trans (nx_vr1 x)
  . rfl
theorem zKv : ∀ (n:Nat) (w:List Int) (x:PS),VR x (closeQ n w x)
 |0,w,x=>fun a y h=>by
  unfold closeQ at h
  split at h
  . cases h;exact nx_vr1 x
  . cases h;rfl
 |n+1,w,x=>by
  unfold closeQ
  refine .then (.of (zCJ _ _) ?_) fun _ y=>zKv n _ y
  split
  . exact nx_vr1 x
  . rfl
theorem inner_vr (x:PS):VR x (zA7 x):=.then (.of (zBm _) (open_vr _ x)) fun _ y => .then (zKv _ _ y) fun _ _ => .okk rfl
theorem zJp (x:PS):VR x (typQ x):=.then (inner_vr x) fun _ _ => .ite .err (.okk rfl)
theorem zKM {v:PS->PR D} (hv : ∀ x,VR x (v x)) : ∀ (f:Nat) (acc:List D) (x:PS),VR x (itemsQ v f acc x)
 |0,_,_ => .err
 |f+1,acc,x => .ite (.okk (nx_vr1 x)) (.then (hv x) fun _ y=>zKM hv f _ y)
theorem zIR {v:PS->PR D} (hv : ∀ x,VR x (v x)) : ∀ (f:Nat) (ks:List (List UInt8)) (acc:List D) (x:PS),VR x (zAG v f ks acc x)
 |0,_,_,_ => .err
 |f+1,ks,acc,x => .ite (.okk (nx_vr1 x)) (.then (zBm x) fun _ y => .ite .err (.then (zCJ _ y) fun _ z => .then (hv z) fun _ u=>zIR hv f _ _ u))
theorem zEm : ∀ (f lv:Nat) (x:PS),VR x (valueQ f lv x)
 |0,_,_ => .err
 |f+1,lv,x=>by
  have hy : ∀ n,({ nxT x with nd:=n }:PS).vr=x.vr:=fun _=>nx_vr1 x
  unfold valueQ
  refine .ite .err (.ite .err (.ite .err ?_))
  dsimp only
  exact .ite (.okk (hy _)) (.ite (.okk (hy _)) (.ite (.okk (hy _)) (.ite (.then (.of (zBm _) (hy _)) fun _ _ => .okk rfl)
   (.ite (.then (.of (zKM (zEm f (lv+1)) _ _ _) (hy _)) fun _ _ => .okk rfl) (.then (.of (zIR (zEm f (lv+1)) _ _ _ _) (hy _)) fun _ _ => .okk rfl)))))
theorem zEl (x:PS):VR x (zAd x):=fun a y h=>zEm 25 1 { x with nd:=0 } a y h
theorem zK5 : ∀ (f:Nat) (acc:List D) (x:PS),VR x (zER f acc x)
 |0,_,_ => .err
 |f+1,acc,x => .ite (.okk (nx_vr1 x)) (.ite .err (.then (zBm x) fun _ y => .then (zCJ _ y) fun _ z => .then (zEl z) fun _ u=>zK5 f _ u))
theorem args_vr (x:PS):VR x (argsQ x):=.ite (.of (zK5 _ _ _) (nx_vr1 x)) (.okk rfl)
theorem zKj : ∀ (f:Nat) (acc:List D) (x:PS),VR x (dirsF f acc x)
 |0,_,_ => .err
 |f+1,acc,x => .ite (.ite .err (.then (.of (zBm _) (nx_vr1 x)) fun _ y => .then (args_vr y) fun _ z=>zKj f _ z)) (.okk rfl)
theorem zEK (x:PS):VR x (dirsQ x):=zKj _ _ x
theorem zG6 {el:PS->PR D} (hv : ∀ x,VR x (el x)) (s:List UInt8) (most:Nat) : ∀ (f:Nat) (acc:List D) (x:PS),VR x (manyF el s most f acc x)
 |0,_,_ => .err
 |f+1,acc,x => .ite (.okk (nx_vr1 x)) (.ite .err (.then (hv x) fun _ y=>zG6 hv s most f _ y))
theorem in_vr (x:PS):VR x (inQ x):=.then (zBm x) fun _ y => .then (zCJ _ y) fun _ z => .then (zJp z) fun _ u => .then (.ite (.then (.of (zEl _) (nx_vr1 u)) fun _ _ => .okk rfl) (.okk rfl)) fun _ v => .then (zEK v) fun _ _ => .okk rfl
theorem ins_vr (s:List UInt8) (x:PS):VR x (insQ s x):=zG6 in_vr _ _ _ _ _
theorem fd_vr (x:PS):VR x (fdQ x):=.then (zBm x) fun _ y => .then (.ite (.of (ins_vr _ _) (nx_vr1 y)) (.okk rfl)) fun _ z => .then (zCJ _ z) fun _ u => .then (zJp u) fun _ v => .then (zEK v) fun _ _ => .okk rfl
theorem mb_vr (x:PS):VR x (mbQ x):=.then (zBm x) fun _ y => .then (zEK y) fun _ _ => .okk rfl
theorem zDu (s:List UInt8) : ∀ (f:Nat) (acc:List D) (x:PS),VR x (namesF s f acc x)
 |0,_,_ => .err
 |f+1,acc,x => .ite .err (.then (zBm x) fun _ y => .ite (.of (zDu s f _ _) (nx_vr1 y)) (.okk rfl))
theorem zKc (k:Int) (x:PS):VR x (zBT k x):=.ite (.of (zDu _ _ _ _) (nx_vr1 x)) (.okk rfl)
theorem body_vr (k:Int) (x:PS):VR x (bodyQ k x):=
 .ite (.then (zCJ _ x) fun _ y => .then (zDu _ _ _ y) fun _ _ => .okk rfl) (.then (zCJ _ x) fun _ y => .ite (.then (ins_vr _ y) fun _ _ => .okk rfl) (.ite (.then (zG6 mb_vr _ _ _ _ y) fun _ _ => .okk rfl) (.then (zG6 fd_vr _ _ _ _ y) fun _ _ => .okk rfl)))
theorem sdef_vr (k:Int) (x:PS):VR x (sdefQ k x):=.then (zBm x) fun _ y => .then (zKc k y) fun _ z => .then (zEK z) fun _ u => .then (body_vr k u) fun _ _ => .okk rfl
end
structure Sx (al:List Tok) (x:PS):Prop where
 en:En x
 vr:x.vr=false
 sf:x.ts <:+ al
theorem En.sf {α:Type} {x y:PS} {v:α} (h:En x) {p:PS->PR α} (hp : ∀ {e:Tok} {a:List Tok} {x x':PS},Ends e [e]->J e [e] a x x'->LO e [e] a (p x) (p x')) (hq:p x = .ok (v,y)):y.ts <:+ x.ts:=by
 obtain ⟨a,e,h1,h2,h4⟩:=h
 obtain ⟨b,⟨d,hd⟩,h3,-⟩:=hp (e:=e) (a:=a) (x:=x) (x':=x) ⟨h2,by simp⟩ ⟨h1,h1,rfl,rfl⟩ v y hq
 exact ⟨d,by rw [h3,h1,hd,List.append_assoc]⟩
section
variable {al:List Tok} {x y:PS} {α:Type} {v:α}
theorem Sx.lo (h:Sx al x) {p:PS->PR α} (hp : ∀ {e:Tok} {a:List Tok} {x x':PS},Ends e [e]->J e [e] a x x'->LO e [e] a (p x) (p x')) (hv:VR x (p x)) (hq:p x = .ok (v,y)):Sx al y/\y.ts.length<=x.ts.length:=
 ⟨⟨(h.en.lo hp hq).1,(hv v y hq).trans h.vr,(h.en.sf hp hq).trans h.sf⟩,(h.en.lo hp hq).2⟩
theorem Sx.ls (h:Sx al x) {p:PS->PR α} (hp : ∀ {e:Tok} {a:List Tok} {x x':PS},Ends e [e]->J e [e] a x x'->LS e [e] a (p x) (p x')) (hv:VR x (p x)) (hq:p x = .ok (v,y)):Sx al y/\y.ts.length<x.ts.length:=
 ⟨(h.lo (fun hE h=>(hp hE h).lo) hv hq).1,(h.en.ls hp hq).2⟩
theorem Sx.name {v:List UInt8} (h:Sx al x) (hq:nameQ x = .ok (v,y)):Sx al y/\y.ts.length<x.ts.length:=h.ls (fun hE h=>zAa hE h) (zBm x) hq
theorem Sx.take {s:List UInt8} (h:Sx al x) (hq:takeQ s x = .ok ((),y)):Sx al y/\y.ts.length<x.ts.length:=h.ls (fun hE h=>zA1 hE h s) (zCJ s x) hq
theorem Sx.typ {v:D} (h:Sx al x) (hq:typQ x = .ok (v,y)):Sx al y/\y.ts.length<=x.ts.length:=h.lo (fun hE h=>zF4 hE h) (zJp x) hq
theorem Sx.value {f lv:Nat} {v:D} (h:Sx al x) (hq:valueQ f lv x = .ok (v,y)):Sx al y/\y.ts.length<x.ts.length:=⟨(h.lo (fun hE h=>zCI hE f lv h) (zEm f lv x) hq).1,(h.en.valueL hq).2⟩
theorem Sx.whole {v:D} (h:Sx al x) (hq:zAd x = .ok (v,y)):Sx al y/\y.ts.length<x.ts.length:=⟨(h.lo (fun hE h=>zC2 hE h) (zEl x) hq).1,(En.valueL (x:={ x with nd:=0 }) h.en hq).2⟩
theorem Sx.args {v:List D} (h:Sx al x) (hq:argsQ x = .ok (v,y)):Sx al y/\y.ts.length<=x.ts.length:=h.lo (fun hE h=>zHY hE h) (args_vr x) hq
theorem Sx.dirs {v:List D} (h:Sx al x) (hq:dirsQ x = .ok (v,y)):Sx al y/\y.ts.length<=x.ts.length:=h.lo (fun hE h=>zB7 hE h) (zEK x) hq
theorem Sx.ins {s:List UInt8} {v:List D} (h:Sx al x) (hq:insQ s x = .ok (v,y)):Sx al y/\y.ts.length<x.ts.length:=h.ls (fun hE h=>ins_ls hE s h) (ins_vr s x) hq
theorem Sx.names {s:List UInt8} {v:List D} (h:Sx al x) (hq:zBl s x = .ok (v,y)):Sx al y/\y.ts.length<=x.ts.length:=h.lo (fun hE h=>zG5 hE s h) (zDu s _ _ x) hq
theorem Sx.faces {k:Int} {v:List D} (h:Sx al x) (hq:zBT k x = .ok (v,y)):Sx al y/\y.ts.length<=x.ts.length:=h.lo (fun hE h=>zKd hE k h) (zKc k x) hq
theorem Sx.body {k:Int} {v:List D × List D × List D} (h:Sx al x) (hq:bodyQ k x = .ok (v,y)):Sx al y/\y.ts.length<=x.ts.length:=h.lo (fun hE h=>body_lo hE k h) (body_vr k x) hq
theorem Sx.sdef {k:Int} {v:D} (h:Sx al x) (hq:sdefQ k x = .ok (v,y)):Sx al y/\y.ts.length<=x.ts.length:=h.lo (fun hE h=>sdef_lo hE k h) (sdef_vr k x) hq
theorem zAm {α β:Type} {q:PR α} {f:α->PS->PR β} {b:β} {z:PS} (h:thenQ q f = .ok (b,z)) : ∃ a y,q = .ok (a,y)/\f a y = .ok (b,z):=by
 cases q with
 |error e=>cases h
 |ok p=>obtain ⟨a,y⟩:=p;exact ⟨a,y,rfl,h⟩
theorem Sx.arg {v:D} (h:Sx al x) (hq:argQ x = .ok (v,y)):Sx al y/\y.ts.length<x.ts.length:=by
 obtain ⟨n,z,h1,hq⟩:=zAm hq
 obtain ⟨u,z2,h2,hq⟩:=zAm hq
 obtain ⟨d,z3,h3,hq⟩:=zAm hq
 have a1:=h.name h1
 have a2:=a1.1.take h2
 have a3:=a2.1.whole h3
 cases hq
 exact ⟨a3.1,by omega⟩
theorem Sx.inp {v:D} (h:Sx al x) (hq:inQ x = .ok (v,y)):Sx al y/\y.ts.length<x.ts.length:=by
 refine ⟨(h.lo (fun hE h=>in_lo hE h) (in_vr x) hq).1,?_⟩
 obtain ⟨n,z,h1,h2⟩:=zAm hq
 have a1:=h.name h1
 have a2:=a1.1.lo (p:=fun y=>thenQ (takeQ [58] y) fun _ z=>thenQ (typQ z) fun t u=>thenQ (if isS u [61]=true then thenQ (zAd (nxT u)) fun d o => .ok ((true,d),o) else .ok ((false,zDt),u)) fun d v=>thenQ (dirsQ v) fun ds w => .ok (sInD n t d.1 d.2 ds,w)) (fun hE h=>by
  refine .then (zA1 hE h _).lo fun _ _ _ _ hz => .then (zF4 hE hz) fun _ _ u u' hu => .then (.ite (hu.sg _) (fun hs => ?_) fun _ => .okk hu _) fun _ _ _ _ hv => .then (zB7 hE hv) fun _ _ _ _ hw => .okk hw _
  obtain ⟨t,a',rfl,h'⟩:=hu.ne_of_isS hE hs
  exact LO.mono (b:=a') (.then (zC2 hE h') fun _ _ _ _ ho => .okk ho _) ⟨[t],rfl⟩) (fun a y h=>(zCJ _ _).then (fun _ z => .then (zJp z) fun _ u => .then (.ite (.then (.of (zEl _) (nx_vr1 u)) fun _ _ => .okk rfl) (.okk rfl)) fun _ v => .then (zEK v) fun _ _ => .okk rfl) a y h) h2
 omega
theorem Sx.fd {v:D} (h:Sx al x) (hq:fdQ x = .ok (v,y)):Sx al y/\y.ts.length<x.ts.length:=by
 refine ⟨(h.lo (fun hE h=>fd_lo hE h) (fd_vr x) hq).1,?_⟩
 obtain ⟨n,z,h1,h2⟩:=zAm hq
 have a1:=h.name h1
 obtain ⟨aa,z1,h3,h4⟩:=zAm h2
 obtain ⟨u,z2,h5,h6⟩:=zAm h4
 obtain ⟨t,z3,h7,h8⟩:=zAm h6
 obtain ⟨ds,z4,h9,hq⟩:=zAm h8
 have a2:Sx al z1/\z1.ts.length<=z.ts.length:=by
  by_cases hs:isS z [40]=true
  . rw [if_pos hs] at h3
    have b1:=a1.1.en.sg hs
    have b2:Sx al (nxT z):=⟨b1.1,(nx_vr1 z).trans a1.1.vr,by
     unfold nxT;split
     . exact a1.1.sf
     . exact (List.drop_suffix 1 z.ts).trans a1.1.sf⟩
    have b3:=b2.ins h3
    exact ⟨b3.1,by omega⟩
  . rw [if_neg hs] at h3;cases h3;exact ⟨a1.1,Nat.le_refl _⟩
 have a3:=a2.1.take h5
 have a4:=a3.1.typ h7
 have a5:=a4.1.dirs h9
 cases hq
 omega
theorem Sx.mb {v:D} (h:Sx al x) (hq:mbQ x = .ok (v,y)):Sx al y/\y.ts.length<x.ts.length:=by
 obtain ⟨n,z,h1,h2⟩:=zAm hq
 obtain ⟨d,z2,h3,hq⟩:=zAm h2
 have a1:=h.name h1
 have a2:=a1.1.dirs h3
 cases hq
 exact ⟨a2.1,by omega⟩
theorem Sx.nx (h:Sx al x) (hk:(hdT x).k≠5):Sx al (nxT x)/\(nxT x).ts.length+1=x.ts.length:=by
 have h1:=h.en.nx hk
 refine ⟨⟨h1.1,(nx_vr1 x).trans h.vr,?_⟩,?_⟩
 . unfold nxT;rw [if_neg hk];exact (List.drop_suffix 1 x.ts).trans h.sf
 . have h2:=h1.2
   revert h2
   unfold nxT
   rw [if_neg hk]
   show (x.ts.drop 1).length<_->(x.ts.drop 1).length+1=_
   rw [List.length_drop];omega
theorem Sx.sg {s:List UInt8} (h:Sx al x) (hs:isS x s=true):Sx al (nxT x)/\(nxT x).ts.length+1=x.ts.length:=by
 refine h.nx ?_
 unfold isS at hs
 simp only [Bool.and_eq_true,beq_iff_eq] at hs
 rw [hs.1];decide
theorem Sx.len (h:Sx al x):x.ts.length<=al.length:=h.sf.length_le
theorem Sx.pos (h:Sx al x):0<x.ts.length:=by obtain ⟨t,r,e⟩:=h.en.cons;rw [e];simp
theorem Sx.nd (h:Sx al x) (n:Nat):Sx al { x with nd:=n }:=⟨h.en,h.vr,h.sf⟩
theorem Sx.hd (h:Sx al x):al.getD (al.length-x.ts.length) ⟨5,[],0⟩=hdT x:=by
 obtain ⟨d,hd⟩:=h.sf
 have e:al.length-x.ts.length=d.length:=by rw [<- hd,List.length_append];omega
 unfold hdT
 rw [e,<- hd,List.getD_eq_getElem?_getD,List.getElem?_append_right (Nat.le_refl _),Nat.sub_self,List.headD_eq_head?_getD,List.head?_eq_getElem?]
end
end
section
structure RS where
 at':Nat
 ct:Nat
 fx:Bool
 er:Int
 wr:Nat
def tkZ (l:List Tok) (x:RS):Tok:=l.getD x.at' ⟨5,[],0⟩
def failA (l:List Tok) (e:Int) (a:Nat) (x:RS):RS:=if x.er=0 then { x with er:=e,wr:=(l.getD a ⟨5,[],0⟩).i } else x
def failZ (l:List Tok) (e:Int) (x:RS):RS:=failA l e x.at' x
def sgZ (l:List Tok) (s:List UInt8) (x:RS):Bool:=x.er==0&&(tkZ l x).k==1&&(tkZ l x).s==s
def nmZ (l:List Tok) (x:RS):Bool:=x.er==0&&(tkZ l x).k==2
def wdZ (l:List Tok) (s:List UInt8) (x:RS):Bool:=nmZ l x&&(tkZ l x).s==s
def upZ (x:RS):RS:={ x with at':=x.at'+1 }
end
section
set_option linter.unusedSectionVars false
def Ed (l:List Tok):Prop:=∀ i,i<l.length->(l.getD i ⟨5,[],0⟩).k≠5->i+1<l.length
def Ck (x:RS):Prop:=x.ct<=4097/\(x.er=0->x.ct<=4096)
structure Mw (l:List Tok) (x y:RS):Prop where
 lo:x.at'<=y.at'
 hi:y.at'<l.length
 er:x.er≠0->y.er=x.er/\y.wr=x.wr
 ct:Ck x->Ck y
structure Pg (l:List Tok) (x y:RS):Prop where
 mv:Mw l x y
 up:y.er=0->x.at'<y.at'
section
variable {l:List Tok} {x y z:RS}
theorem Mw.refl (h:x.at'<l.length):Mw l x x:=⟨Nat.le_refl _,h,fun _=>⟨rfl,rfl⟩,id⟩
theorem Mw.zero (h:Mw l x y) (h0:y.er=0):x.er=0:=by
 rcases Classical.em (x.er=0) with h1 | h1
 . exact h1
 . exact (h.er h1).1.symm.trans h0
theorem Mw.trans (h1:Mw l x y) (h2:Mw l y z):Mw l x z:=
 ⟨Nat.le_trans h1.lo h2.lo,h2.hi,fun h=>by
   have a:=h1.er h
   have b:=h2.er (by rw [a.1];exact h)
   exact ⟨b.1.trans a.1,b.2.trans a.2⟩,fun h=>h2.ct (h1.ct h)⟩
theorem Mw.ite {c:Prop} [Decidable c] (h1:c->Mw l x y) (h2 : ¬ c->Mw l x z):Mw l x (if c then y else z):=by
 split
 . rename_i h;exact h1 h
 . rename_i h;exact h2 h
theorem Pg.ite {c:Prop} [Decidable c] (h1:c->Pg l x y) (h2 : ¬ c->Pg l x z):Pg l x (if c then y else z):=by
 split
 . rename_i h;exact h1 h
 . rename_i h;exact h2 h
variable (hE:Ed l)
include hE
omit hE in
omit hE in
omit hE in
omit hE in
omit hE in
omit hE in
omit hE in
omit hE in
omit hE in
omit hE in
end
end
section
set_option linter.unusedSectionVars false
structure Rl (l:List Tok) (c:RS->PS->Prop) (x:RS) (y:PS):Prop where
 er:x.er=0
 lt:x.at'<l.length
 ts:l.drop x.at'=y.ts
 c:c x y
def c0 (_:RS) (y:PS):Prop:=y.vr=true
def Rf {α β:Type} (l:List Tok) (c:RS->PS->Prop) (φ:α->β->Prop) (p:α × RS):PR β->Prop
 |.ok (b,y)=>φ p.1 b/\Rl l c p.2 y
 |.error e=>e.2≠0->p.2.er=e.2/\p.2.wr=e.1
def CC (c:RS->PS->Prop):Prop:=∀ x y,c x y->c (upZ x) (nxT y)
theorem headD_drop (l:List Tok) (n:Nat) (e:Tok):(l.drop n).headD e=l.getD n e:=by
 rw [List.headD_eq_head?_getD,List.head?_drop,List.getD_eq_getElem?_getD]
section
variable {l:List Tok} {c:RS->PS->Prop} {x:RS} {y:PS} {α β γ δ:Type}
theorem Rl.hd (h:Rl l c x y):tkZ l x=hdT y:=by
 unfold tkZ hdT
 rw [<- h.ts,headD_drop]
theorem Rl.er' (h:Rl l c x y):(x.er==0)=true:=by rw [h.er];rfl
theorem Rl.sg (h:Rl l c x y) (s:List UInt8):sgZ l s x=isS y s:=by
 unfold sgZ isS
 rw [h.hd,h.er',Bool.true_and]
theorem Rl.nm (h:Rl l c x y):nmZ l x=((hdT y).k==2):=by
 unfold nmZ
 rw [h.hd,h.er',Bool.true_and]
theorem Rl.wd (h:Rl l c x y) (s:List UInt8):wdZ l s x=((hdT y).k==2&&(hdT y).s==s):=by
 unfold wdZ
 rw [h.nm,h.hd]
theorem Rl.len (h:Rl l c x y):y.ts.length=l.length-x.at':=by rw [<- h.ts,List.length_drop]
theorem Rf.okk {φ:α->β->Prop} {p:α × RS} {b:β} (h1:φ p.1 b) (h:Rl l c p.2 y):Rf l c φ p (.ok (b,y)):=⟨h1,h⟩
theorem Rf.err {φ:α->β->Prop} {r:α × RS} {e:Int} (h:Rl l c x y) (hm:Mw l (failZ l e x) r.2) {c':RS->PS->Prop}:Rf l c' φ r (.error ((hdT y).i,e)):=by
 intro he
 have e1:failZ l e x = { x with er:=e,wr:=(tkZ l x).i }:=by unfold failZ failA;rw [if_pos h.er];rfl
 have h2:=hm.er (by rw [e1];exact he)
 rw [e1] at h2
 exact ⟨h2.1,by rw [h2.2];show (tkZ l x).i=_;rw [h.hd]⟩
theorem Rf.then {φ:α->β->Prop} {ψ:γ->δ->Prop} {c':RS->PS->Prop} {p:α × RS} {q:PR β} {r:γ × RS} {G:β->PS->PR δ} (h:Rf l c φ p q) (hm:Mw l p.2 r.2) (hf : ∀ b y,q = .ok (b,y)->φ p.1 b->Rl l c p.2 y->Rf l c' ψ r (G b y)):Rf l c' ψ r (thenQ q G):=by
 unfold thenQ
 cases q with
 |error e =>
  intro he
  have h1:=h he
  have h2:=hm.er (by rw [h1.1];exact he)
  exact ⟨h2.1.trans h1.1,h2.2.trans h1.2⟩
 |ok a =>
  obtain ⟨b,y⟩:=a
  exact hf b y rfl h.1 h.2
theorem Rf.mono {φ ψ:α->β->Prop} {c':RS->PS->Prop} {p:α × RS} {q:PR β} (h:Rf l c φ p q) (hφ : ∀ b,φ p.1 b->ψ p.1 b) (hc : ∀ x y,c x y->c' x y):Rf l c' ψ p q:=by
 cases q with
 |error e=>exact h
 |ok a=>obtain ⟨b,y⟩:=a;exact ⟨hφ _ h.1,⟨h.2.er,h.2.lt,h.2.ts,hc _ _ h.2.c⟩⟩
variable (hE:Ed l) (hC:CC c)
include hE
omit hE in
include hC
omit hE hC in
omit hE hC in
omit hE hC in
omit hE hC in
omit hE hC in
omit hE hC in
end
end
end Go.Proofs.YthppafnlnnpciaaGreatDoor
