import Derived.Lib.Strings
import Derived.Test.YthppafnlnnpciaaGreatDoorQ4
set_option linter.unusedVariables false
set_option linter.unusedSimpArgs false
namespace Go.Proofs.YthppafnlnnpciaaGreatDoor
section
def bV (s:ByteArray) (i:Nat):Int:=((s.data.toList.getD i 0).toNat:Int)
theorem zAj (s:ByteArray) (i:Nat):0<=bV s i/\bV s i<=255:=by
 unfold bV
 have:=(s.data.toList.getD i 0).toNat_lt
 omega
theorem zCH {s:ByteArray} {i:Nat} (h:i<s.size):((s[i]'h).toNat:Int)=bV s i:=by
 unfold bV
 have h':i<s.data.toList.length:=by simpa using h
 rw [List.getD_eq_getElem?_getD,List.getElem?_eq_getElem h']
 rfl
def letB (v:Int):Bool:=decide (65<=v/\v<=90\/97<=v/\v<=122\/v=95)
def digB (v:Int):Bool:=decide (48<=v/\v<=57)
def nameB (s:ByteArray):Bool:=decide (0<s.size/\s.size<=64/\digB (bV s 0)=false /\ ∀ i,i<s.size->(letB (bV s i)||digB (bV s i))=true)
theorem zEe {s:ByteArray} (h : ¬ (0<s.size/\s.size<=64)):nameB s=false:=decide_eq_false fun h'=>h ⟨h'.1,h'.2.1⟩
theorem zIl {s:ByteArray} (h:digB (bV s 0)=true):nameB s=false:=decide_eq_false fun h'=>by rw [h'.2.2.1] at h;cases h
theorem zKk {s:ByteArray} {i:Nat} (hi:i<s.size) (h:(letB (bV s i)||digB (bV s i))=false):nameB s=false:=decide_eq_false fun h'=>by rw [h'.2.2.2 i hi] at h;cases h
theorem zFE {s:ByteArray} (h0:0<s.size) (h1:s.size<=64) (h2:digB (bV s 0)=false) (h3 : ∀ i,i<s.size->(letB (bV s i)||digB (bV s i))=true):nameB s=true:=decide_eq_true ⟨h0,h1,h2,h3⟩
theorem zIp {v:Int} (h:65<=v/\v<=90\/97<=v/\v<=122\/v=95):letB v=true:=decide_eq_true h
theorem zGT {v:Int} (h : ¬ (65<=v/\v<=90\/97<=v/\v<=122\/v=95)):letB v=false:=decide_eq_false h
theorem zCk {v:Int} (h:48<=v/\v<=57):digB v=true:=decide_eq_true h
theorem zAc {v:Int} (h : ¬ (48<=v/\v<=57)):digB v=false:=decide_eq_false h
theorem zKf (v:Int):v<48\/(48<=v/\v<=57)\/(58<=v/\v<=64)\/(65<=v/\v<=90)\/(91<=v/\v<=94)\/v=95\/v=96\/(97<=v/\v<=122)\/123<=v:=by omega
inductive Lex:List UInt8->List (Int × List UInt8)->Prop where
 |done {l:List UInt8} (h:l.drop (skipM false l)=[]):Lex l []
 |tok {l:List UInt8} {c:UInt8} {r:List UInt8} {k:Int} {s:List UInt8} {n:Nat} {ks:List (Int × List UInt8)} (h:l.drop (skipM false l)=c::r) (ht:readU (c::r) = .ok (k,s,n)) (hr:Lex ((c::r).drop n) ks):Lex l ((k,s)::ks)
def bare (t:Tok):Int × List UInt8:=(t.k,t.s)
def endK5:Int × List UInt8:=(5,[])
theorem readT_any {l:List UInt8} {k:Int} {s:List UInt8} {n:Nat} (h:readU l = .ok (k,s,n)) (j:Nat):zC5 l j = .ok (⟨k,s,j⟩,n):=by
 unfold zC5
 rw [h]
theorem Lex.of_scan : ∀ (f:Nat) (l:List UInt8) (i:Nat) (ts:List Tok),scanF f l i = .ok ts -> ∃ ks,Lex l ks/\ts.map bare=ks++[endK5]
 |0,_,_,_,h=>by cases h
 |f+1,l,i,ts,h=>by
  unfold scanF at h
  split at h
  . rename_i hl
    cases h
    exact ⟨[],.done hl,rfl⟩
  . rename_i c r hl
    split at h
    . cases h
    . rename_i t n ht
      split at h
      . cases h
      . rename_i ts' hts
        cases h
        obtain ⟨ks,h1,h2⟩:=Lex.of_scan f _ _ _ hts
        refine ⟨(t.k,t.s)::ks,.tok hl (zDd ht).1 h1,?_⟩
        rw [List.map_cons,h2];rfl
theorem Lex.scan {l:List UInt8} {ks:List (Int × List UInt8)} (h:Lex l ks) : ∀ (f i:Nat),l.length<f -> ∃ ts,scanF f l i = .ok ts/\ts.map bare=ks++[endK5]:=by
 induction h with
 |done h =>
  intro f i hf
  cases f with
  |zero=>omega
  |succ f =>
   exact ⟨[⟨5,[],i+_⟩],by unfold scanF;rw [h],rfl⟩
 |tok h ht hr ih =>
  rename_i l c r k s n ks
  intro f i hf
  cases f with
  |zero=>omega
  |succ f =>
   have hn:=zBK ht
   have hlen:(c::r).length<=l.length:=by rw [<- h,List.length_drop];omega
   obtain ⟨ts,h1,h2⟩:=ih f (i+skipM false l+n) (by rw [List.length_drop];omega)
   refine ⟨⟨k,s,i+skipM false l⟩::ts,?_,?_⟩
   . unfold scanF
     rw [h]
     dsimp only
     rw [readT_any ht]
     dsimp only
     rw [h1]
   . rw [List.map_cons,h2];rfl
def bnd (l:List UInt8):Prop:=∀ c,l.head? = some c->wrdU c=false
theorem bnd_nil:bnd []:=fun _ h=>by cases h
theorem zHr {c:UInt8} {r:List UInt8} (h:wrdU c=false):bnd (c::r):=fun _ e=>by cases e;exact h
def Ps (t:List UInt8) (ks:List (Int × List UInt8)):Prop:=∀ r kr,Lex r kr->Lex (t++r) (ks++kr)
def Pw (t:List UInt8) (ks:List (Int × List UInt8)):Prop:=∀ r kr,bnd r->Lex r kr->Lex (t++r) (ks++kr)
theorem Ps.w {t:List UInt8} {ks:List (Int × List UInt8)} (h:Ps t ks):Pw t ks:=fun r kr _ hr=>h r kr hr
theorem Ps.nil:Ps [] []:=fun _ _ h=>h
theorem Ps.app {a b:List UInt8} {ka kb:List (Int × List UInt8)} (h:Ps a ka) (k:Ps b kb):Ps (a++b) (ka++kb):=fun r kr hr=>by
 rw [List.append_assoc,List.append_assoc];exact h _ _ (k r kr hr)
theorem Ps.appw {a b:List UInt8} {ka kb:List (Int × List UInt8)} (h:Ps a ka) (k:Pw b kb):Pw (a++b) (ka++kb):=fun r kr hb hr=>by
 rw [List.append_assoc,List.append_assoc];exact h _ _ (k r kr hb hr)
theorem Pw.app {a b:List UInt8} {ka kb:List (Int × List UInt8)} (h:Pw a ka) (k:Ps b kb) (hb:b≠[]/\bnd b):Ps (a++b) (ka++kb):=fun r kr hr=>by
 rw [List.append_assoc,List.append_assoc]
 refine h _ _ (fun c hc=>hb.2 c ?_) (k r kr hr)
 cases b with
 |nil=>exact (hb.1 rfl).elim
 |cons x y=>exact hc
theorem Pw.appw {a b:List UInt8} {ka kb:List (Int × List UInt8)} (h:Pw a ka) (k:Pw b kb) (hb:bnd b):Pw (a++b) (ka++kb):=fun r kr hr hl=>by
 rw [List.append_assoc,List.append_assoc]
 refine h _ _ (fun c hc => ?_) (k r kr hr hl)
 cases b with
 |nil=>exact hr c hc
 |cons x y=>exact hb c hc
theorem Pw.lex {t:List UInt8} {ks:List (Int × List UInt8)} (h:Pw t ks):Lex t ks:=by
 have:=h [] [] bnd_nil (.done rfl)
 rwa [List.append_nil,List.append_nil] at this
theorem Lex.sep {c:UInt8} {r:List UInt8} {kr:List (Int × List UInt8)} (hc:sepB c=true) (h:Lex r kr):Lex (c::r) kr:=by
 have e:(c::r).drop (skipM false (c::r))=r.drop (skipM false r):=by
  rw [skipM,if_pos hc,List.drop_succ_cons]
 cases h with
 |done h=>exact .done (by rw [e];exact h)
 |tok h ht hr=>exact .tok (by rw [e];exact h) ht hr
theorem Ps.sep {c:UInt8} (hc:sepB c=true):Ps [c] []:=fun _ _ h=>h.sep hc
theorem zGB (c:UInt8):signB c=true->sepB c=false/\(c==35)=false/\wrdU c=false:=
 zDF (p:=fun c=>signB c=true->sepB c=false/\(c==35)=false/\wrdU c=false) (by decide +kernel) c
theorem zEy {c:UInt8} {r:List UInt8} (h:sepB c=false) (h2:(c==35)=false):skipM false (c::r)=0:=by
 rw [skipM,if_neg (by rw [h];decide),if_neg (by rw [h2];decide)]
theorem Ps.sign {c:UInt8} (hc:signB c=true):Ps [c] [(1,[c])]:=fun r kr h=>by
 obtain ⟨h1,h2,-⟩:=zGB c hc
 refine .tok (l:=c::r) (c:=c) (r:=r) (n:=1) (by rw [zEy h1 h2];rfl) ?_ h
 unfold readU
 simp only [hc,if_true]
theorem Ps.dots:Ps [46,46,46] [(1,[46,46,46])]:=fun r kr h=>by
 refine .tok (l:=46::46::46::r) (c:=46) (r:=46::46::r) (n:=3) rfl ?_ h
 unfold readU
 simp only [show signB 46=false from rfl,Bool.false_eq_true,if_false,show ((46:UInt8)==46)=true from rfl,if_true,List.take_succ_cons,List.take_zero]
def nameU (l:List UInt8):Bool:=match l with | []=>false | c::r=>letU c&&r.all wrdU&&decide (r.length<64)
theorem let_plain (c:UInt8):letU c=true->sepB c=false/\(c==35)=false/\signB c=false/\(c==46)=false/\(c==45||digU c)=false/\wrdU c=true:=
 zDF (p:=fun c=>letU c=true->sepB c=false/\(c==35)=false/\signB c=false/\(c==46)=false/\(c==45||digU c)=false/\wrdU c=true) (by decide +kernel) c
theorem zGt {p:UInt8->Bool} : ∀ (l r:List UInt8),l.all p=true->(∀ c,r.head? = some c->p c=false)->spanN p (l++r)=l.length
 |[],[],_,_=>rfl
 |[],c::r,_,h=>by
  show spanN p (c::r)=0
  rw [spanN,if_neg (by rw [h c rfl];decide)]
 |c::l,r,ha,h=>by
  rw [List.all_cons,Bool.and_eq_true] at ha
  rw [List.cons_append,spanN,if_pos ha.1,zGt l r ha.2 h,List.length_cons]
theorem Pw.name {l:List UInt8} (h:nameU l=true):Pw l [(2,l)]:=fun r kr hb hr=>by
 cases l with
 |nil=>cases h
 |cons c q =>
  simp only [nameU,Bool.and_eq_true,decide_eq_true_eq] at h
  obtain ⟨⟨h1,h2⟩,h3⟩:=h
  obtain ⟨p1,p2,p3,p4,p5,p6⟩:=let_plain c h1
  have hs:=zGt q r h2 hb
  refine .tok (l:=c::(q++r)) (c:=c) (r:=q++r) (n:=q.length+1) (by rw [zEy p1 p2];rfl) ?_ (by rw [List.drop_succ_cons,List.drop_left];exact hr)
  unfold readU
  simp only [p3,p4,p5,h1,hs,Bool.false_eq_true,if_false,if_true,List.take_left]
  rw [if_neg (by omega)]
theorem zLL : ∀ {l:List UInt8},l.all digU=true->l.all wrdU=true:=fun {l} h=>by
 rw [List.all_eq_true] at h |-
 intro x hx
 unfold wrdU
 rw [h x hx,Bool.or_true]
theorem num_plain (c:UInt8):(c==45||digU c)=true->sepB c=false/\(c==35)=false/\signB c=false/\(c==46)=false:=
 zDF (p:=fun c=>(c==45||digU c)=true->sepB c=false/\(c==35)=false/\signB c=false/\(c==46)=false) (by decide +kernel) c
theorem Pw.num {l:List UInt8} {n:Int} (h:numU l = .ok n) (h1 : ∃ c q,l=c::q/\(c==45||digU c)=true/\q.all wrdU=true):Pw l [(3,l)]:=fun r kr hb hr=>by
 obtain ⟨c,q,rfl,h2,h3⟩:=h1
 obtain ⟨p1,p2,p3,p4⟩:=num_plain c h2
 have hs:=zGt q r h3 hb
 refine .tok (l:=c::(q++r)) (c:=c) (r:=q++r) (n:=q.length+1) (by rw [zEy p1 p2];rfl) ?_ (by rw [List.drop_succ_cons,List.drop_left];exact hr)
 unfold readU
 simp only [p3,p4,h2,hs,Bool.false_eq_true,if_false,if_true,List.take_left,h,nerU]
theorem itoa_shape (n:Int) : ∃ c q,Lib.itoa n=c::q/\(c==45||digU c)=true/\q.all wrdU=true:=by
 unfold Lib.itoa
 split
 . exact ⟨45,_,rfl,rfl,zLL (zFa _)⟩
 . have h:=zFa n.toNat
   cases hd:Lib.decDigits n.toNat with
   |nil=>exact (zLO _ hd).elim
   |cons c q =>
    rw [hd,List.all_cons,Bool.and_eq_true] at h
    exact ⟨c,q,rfl,by rw [h.1,Bool.or_true],zLL h.2⟩
theorem Pw.int (n:Int) (h0 : -9223372036854775808<=n) (h1:n<=9223372036854775807):Pw (Lib.itoa n) [(3,Lib.itoa n)]:=Pw.num (num_itoa n h0 h1) (itoa_shape n)
theorem lit_esc (c:UInt8) (r:List UInt8):litN (escU c++r)=(litN r).map (· + (escU c).length):=
 zDF (p:=fun c => ∀ r,litN (escU c++r)=(litN r).map (· + (escU c).length)) (fun i=>by
  revert i
  have key : ∀ (c:UInt8) (r:List UInt8),(c==34)=false->(c==92)=false->litN (c::r)=(litN r).map (· + 1):=fun c r h h2=>by
   cases r with
   |nil=>unfold litN;simp only [h,Bool.false_eq_true,if_false];rfl
   |cons d r=>rw [litN];simp only [h,h2,Bool.false_eq_true,if_false]
  have key2 : ∀ (c:UInt8) (r:List UInt8),litN (92::c::r)=(litN r).map (· + 2):=fun c r=>by
   rw [litN]
   simp only [show ((92:UInt8)==34)=false from rfl,Bool.false_eq_true,if_false,show ((92:UInt8)==92)=true from rfl,if_true]
  have both : ∀ (e:List UInt8),(e.all (fun c => !(c==34) && !(c==92))=true \/ ∃ d q,e=92::d::q/\q.all (fun c => !(c==34) && !(c==92))=true) -> ∀ r,litN (e++r)=(litN r).map (· + e.length):=by
   have plain : ∀ (e:List UInt8),e.all (fun c => !(c==34) && !(c==92))=true -> ∀ r,litN (e++r)=(litN r).map (· + e.length):=fun e=>by
    induction e with
    |nil=>intro _ r;simp
    |cons c q ih =>
     intro h r
     simp only [List.all_cons,Bool.and_eq_true,Bool.not_eq_true'] at h
     rw [List.cons_append,key c _ h.1.1 h.1.2,ih (by simpa using h.2) r,Option.map_map]
     congr 1
   rintro e (h | ⟨d,q,rfl,h⟩) r
   . exact plain e h r
   . rw [List.cons_append,List.cons_append,key2,plain q h r,Option.map_map]
     congr 1
  have shape : ∀ i:Fin 256,((escU (UInt8.ofNat i.val)).all (fun c => !(c==34) && !(c==92))||(match escU (UInt8.ofNat i.val) with | 92::_::q=>q.all (fun c => !(c==34) && !(c==92)) | _=>false))=true:=by decide +kernel
  intro i r
  refine both _ ?_ r
  have h:=shape i
  rw [Bool.or_eq_true] at h
  rcases h with h | h
  . exact .inl h
  . refine .inr ?_
    split at h
    . rename_i d q hq;exact ⟨d,q,hq,h⟩
    . cases h) c r
theorem lit_escL (l r:List UInt8):litN (escL l++r)=(litN r).map (· + (escL l).length):=by
 induction l with
 |nil=>simp [escL]
 |cons c q ih =>
  have e:escL (c::q)=escU c++escL q:=by simp [escL]
  rw [e,List.append_assoc,lit_esc,ih,Option.map_map]
  cases litN r with
  |none=>rfl
  |some n=>simp [List.length_append];omega
theorem Ps.quote (s:List UInt8):Ps (zAX s) [(4,s)]:=fun r kr h=>by
 have e:zAX s++r=34::(escL s++34::r):=by simp [zAX]
 have hl:litN (escL s++34::r)=some ((escL s).length+1):=by
  rw [lit_escL]
  have:litN (34::r)=some 1:=by cases r<;>(unfold litN;rfl)
  rw [this]
  show some (1+(escL s).length)=_
  rw [Nat.add_comm]
 have ht:(escL s++34::r).take ((escL s).length+1)=escL s++[34]:=by
  rw [List.take_append,Nat.add_sub_cancel_left,List.take_of_length_le (by omega)];rfl
 rw [e]
 refine .tok (c:=34) (r:=escL s++34::r) (n:=(escL s).length+1+1) rfl ?_ ?_
 . unfold readU
   simp only [show signB 34=false from rfl,show ((34:UInt8)==46)=false from rfl,show ((34:UInt8)==45||digU 34)=false from rfl,show letU 34=false from rfl,show ((34:UInt8)==34)=true from rfl,Bool.false_eq_true,if_false,if_true,hl,ht]
   have hq:unquoteU (34::(escL s++[34]))=some s:=by
    have:=zGm s
    simpa [zAX] using this
   rw [hq]
 . have:(34::(escL s++34::r)).drop ((escL s).length+1+1)=r:=by
    rw [List.drop_succ_cons,List.drop_append,Nat.add_sub_cancel_left,List.drop_of_length_le (by omega)];rfl
   rw [this]
   exact h
inductive All2 (T:Tok->Tok->Prop):List Tok->List Tok->Prop where
 |nil:All2 T [] []
 |cons {a b:Tok} {l m:List Tok} (h:T a b) (t:All2 T l m):All2 T (a::l) (b::m)
structure TR (T:Tok->Tok->Prop) (I:Nat->Nat->Prop):Prop where
 k : ∀ {t t'},T t t'->t.k=t'.k
 s : ∀ {t t'},T t t'->t.s=t'.s
 i : ∀ {t t'},T t t'->I t.i t'.i
 z:I 0 0
structure XR (T:Tok->Tok->Prop) (x x':PS):Prop where
 ts:All2 T x.ts x'.ts
 vr:x.vr=x'.vr
 nd:x.nd=x'.nd
def RR (T:Tok->Tok->Prop) (I:Nat->Nat->Prop) {α:Type}:PR α->PR α->Prop
 |.ok (a,x),.ok (a',x')=>a=a'/\XR T x x'
 |.error e,.error e'=>I e.1 e'.1/\e.2=e'.2
 |_,_=>False
section
variable {T:Tok->Tok->Prop} {I:Nat->Nat->Prop} {α β:Type}
theorem zDQ {a b:List Tok} (h:All2 T a b):a.length=b.length:=by induction h with | nil=>rfl | cons _ _ ih=>simp [ih]
theorem zJK {a b:List Tok} (h:All2 T a b) : ∀ n,All2 T (a.drop n) (b.drop n):=by
 induction h with
 |nil=>intro n;simp;exact .nil
 |cons h1 h2 ih =>
  intro n
  cases n with
  |zero=>exact .cons h1 h2
  |succ n=>simpa using ih n
theorem XR.hd (hT:TR T I) {x x':PS} (h:XR T x x'):(hdT x').k=(hdT x).k/\(hdT x').s=(hdT x).s/\I (hdT x).i (hdT x').i:=by
 obtain ⟨h1,-,-⟩:=h
 unfold hdT
 generalize x.ts=a at h1
 generalize x'.ts=b at h1
 cases h1 with
 |nil=>exact ⟨rfl,rfl,hT.z⟩
 |cons h2 h3=>exact ⟨(hT.k h2).symm,(hT.s h2).symm,hT.i h2⟩
theorem XR.isS (hT:TR T I) {x x':PS} (h:XR T x x') (s:List UInt8):isS x' s=isS x s:=by
 obtain ⟨h1,h2,-⟩:=h.hd hT
 unfold Go.Proofs.YthppafnlnnpciaaGreatDoor.isS
 rw [h1,h2]
theorem XR.nx (hT:TR T I) {x x':PS} (h:XR T x x'):XR T (nxT x) (nxT x'):=by
 obtain ⟨h1,-,-⟩:=h.hd hT
 unfold nxT
 rw [h1]
 split
 . exact h
 . exact ⟨zJK h.ts 1,h.vr,h.nd⟩
theorem XR.len {x x':PS} (h:XR T x x'):x'.ts.length=x.ts.length:=(zDQ h.ts).symm
theorem RR.err (hT:TR T I) {x x':PS} (h:XR T x x') (e:Int):RR T I (α:=α) (.error ((hdT x).i,e)) (.error ((hdT x').i,e)):=⟨(h.hd hT).2.2,rfl⟩
theorem RR.okk {x x':PS} (h:XR T x x') (a:α):RR T I (.ok (a,x)) (.ok (a,x')):=⟨rfl,h⟩
theorem RR.ite {c:Prop} [Decidable c] {a b a' b':PR α} (h1:c->RR T I a a') (h2 : ¬ c->RR T I b b'):RR T I (if c then a else b) (if c then a' else b'):=by
 split
 . rename_i h;exact h1 h
 . rename_i h;exact h2 h
theorem RR.then {r r':PR α} {f f':α->PS->PR β} (h:RR T I r r') (hf : ∀ a x x',XR T x x'->RR T I (f a x) (f' a x')):RR T I (zb r f) (zb r' f'):=by
 unfold zb
 cases r with
 |error e=>cases r' with | error e'=>exact h | ok a'=>exact h.elim
 |ok a =>
  cases r' with
  |error e'=>exact h.elim
  |ok a' =>
   obtain ⟨a,x⟩:=a
   obtain ⟨a',x'⟩:=a'
   obtain ⟨rfl,hx⟩:=h
   exact hf _ _ _ hx
variable (hT:TR T I)
include hT
theorem zDH {x x':PS} (h:XR T x x') (s:List UInt8):RR T I (takeQ s x) (takeQ s x'):=by
 unfold takeQ
 rw [h.isS hT]
 exact .ite (fun _ => .okk (h.nx hT) _) fun _ => .err hT h _
theorem zBn {x x':PS} (h:XR T x x'):RR T I (nameQ x) (nameQ x'):=by
 unfold nameQ
 rw [(h.hd hT).1,(h.hd hT).2.1]
 exact .ite (fun _ => .okk (h.nx hT) _) fun _ => .err hT h _
theorem open_rr : ∀ (f:Nat) {x x':PS},XR T x x'->(openQ f x').1=(openQ f x).1/\XR T (openQ f x).2 (openQ f x').2
 |0,_,_,h=>⟨rfl,h⟩
 |f+1,x,x',h=>by
  unfold openQ
  rw [h.isS hT]
  split
  . obtain ⟨h1,h2⟩:=open_rr f (h.nx hT)
    exact ⟨by simp [h1],h2⟩
  . exact ⟨rfl,h⟩
theorem zLT : ∀ (n:Nat) (w:List Int) {x x':PS},XR T x x'->RR T I (closeQ n w x) (closeQ n w x')
 |0,w,x,x',h=>by
  unfold closeQ
  rw [h.isS hT]
  split
  . exact .okk (h.nx hT) _
  . exact .okk h _
 |n+1,w,x,x',h=>by
  unfold closeQ
  rw [h.isS hT]
  refine .then (zDH hT ?_ _) fun _ y y' hy=>zLT n _ hy
  split
  . exact h.nx hT
  . exact h
theorem inner_rr {x x':PS} (h:XR T x x'):RR T I (zAh x) (zAh x'):=by
 unfold zAh
 rw [h.len]
 obtain ⟨h1,h2⟩:=open_rr hT x.ts.length h
 rw [h1]
 exact .then (zBn hT h2) fun _ _ _ hy => .then (zLT hT _ _ hy) fun _ _ _ hz => .okk hz _
theorem typ_rr {x x':PS} (h:XR T x x'):RR T I (typQ x) (typQ x'):=
 .then (inner_rr hT h) fun _ _ _ hy => .ite (fun _ => .err hT h _) fun _ => .okk hy _
theorem zKv {v:PS->PR D} (hv : ∀ {x x':PS},XR T x x'->RR T I (v x) (v x')) : ∀ (f:Nat) (acc:List D) {x x':PS},XR T x x'->RR T I (itemsQ v f acc x) (itemsQ v f acc x')
 |0,_,_,_,h => .err hT h _
 |f+1,acc,x,x',h=>by
  unfold itemsQ
  rw [h.isS hT]
  exact .ite (fun _ => .okk (h.nx hT) _) fun _ => .then (hv h) fun _ _ _ hy=>zKv hv f _ hy
theorem zI2 {v:PS->PR D} (hv : ∀ {x x':PS},XR T x x'->RR T I (v x) (v x')) : ∀ (f:Nat) (ks:List (List UInt8)) (acc:List D) {x x':PS},XR T x x'->RR T I (zu v f ks acc x) (zu v f ks acc x')
 |0,_,_,_,_,h => .err hT h _
 |f+1,ks,acc,x,x',h=>by
  unfold zu
  rw [h.isS hT]
  exact .ite (fun _ => .okk (h.nx hT) _) fun _ => .then (zBn hT h) fun k _ _ hy => .ite (fun _ => .err hT h _) fun _ => .then (zDH hT hy _) fun _ _ _ hz => .then (hv hz) fun _ _ _ hu=>zI2 hv f _ _ hu
theorem noVal_rr {x x':PS} (h:XR T x x'):zBU x'=zBU x:=by
 unfold zBU
 rw [(h.hd hT).1,h.isS hT,h.isS hT,h.isS hT,h.vr]
theorem zGi : ∀ (f lv:Nat) {x x':PS},XR T x x'->RR T I (valueQ f lv x) (valueQ f lv x')
 |0,_,_,_,h => .err hT h _
 |f+1,lv,x,x',h=>by
  have hy:XR T { nxT x with nd:=x.nd+1 } { nxT x' with nd:=x'.nd+1 }:=⟨(h.nx hT).ts,(h.nx hT).vr,by show x.nd+1=x'.nd+1;rw [h.nd]⟩
  unfold valueQ
  rw [noVal_rr hT h,<- h.nd,(h.hd hT).1,(h.hd hT).2.1]
  rw [<- h.nd] at hy
  refine .ite (fun _ => .err hT h _) fun _ => .ite (fun _ => .err hT h _) fun _ => .ite (fun _ => .err hT h _) fun _ => ?_
  dsimp only
  refine .ite (fun _ => .okk hy _) fun _ => .ite (fun _ => .okk hy _) fun _ => .ite (fun _ => .okk hy _) fun _ => .ite (fun _ => .then (zBn hT hy) fun _ _ _ hz => .okk hz _) fun _ => .ite (fun _ => ?_) fun _ => ?_
  . have e:(nxT x').ts.length=(nxT x).ts.length:=(h.nx hT).len
    rw [e]
    exact .then (zKv hT (fun h=>zGi f (lv+1) h) _ _ hy) fun _ _ _ hz => .okk hz _
  . have e:(nxT x').ts.length=(nxT x).ts.length:=(h.nx hT).len
    rw [e]
    exact .then (zI2 hT (fun h=>zGi f (lv+1) h) _ _ _ hy) fun _ _ _ hz => .okk hz _
theorem zKA {x x':PS} (h:XR T x x'):RR T I (zAO x) (zAO x'):=zGi hT _ _ ⟨h.ts,h.vr,rfl⟩
theorem zLc : ∀ (f:Nat) (acc:List D) {x x':PS},XR T x x'->RR T I (zC6 f acc x) (zC6 f acc x')
 |0,_,_,_,h => .err hT h _
 |f+1,acc,x,x',h=>by
  unfold zC6
  rw [h.isS hT,(h.hd hT).1]
  exact .ite (fun _ => .okk (h.nx hT) _) fun _ => .ite (fun _ => .err hT h _) fun _ => .then (zBn hT h) fun _ _ _ hy => .then (zDH hT hy _) fun _ _ _ hz => .then (zKA hT hz) fun _ _ _ hu=>zLc f _ hu
theorem args_rr {x x':PS} (h:XR T x x'):RR T I (zBc x) (zBc x'):=by
 unfold zBc
 rw [h.isS hT,h.len]
 exact .ite (fun _=>zLc hT _ _ (h.nx hT)) fun _ => .okk h _
theorem zLH : ∀ (f:Nat) (acc:List D) {x x':PS},XR T x x'->RR T I (dirsF f acc x) (dirsF f acc x')
 |0,_,_,_,h => .err hT h _
 |f+1,acc,x,x',h=>by
  unfold dirsF
  rw [h.isS hT]
  exact .ite (fun _ => .ite (fun _ => .err hT h _) fun _ => .then (zBn hT (h.nx hT)) fun _ _ _ hy => .then (args_rr hT hy) fun _ _ _ hz=>zLH f _ hz) fun _ => .okk h _
theorem zHi {x x':PS} (h:XR T x x'):RR T I (zAQ x) (zAQ x'):=by
 unfold zAQ
 rw [h.len]
 exact zLH hT _ _ h
end
end
section
theorem zCU {p:UInt8->Bool} : ∀ (l:List UInt8),(l.take (spanN p l)).all p=true/\(l.take (spanN p l)).length=spanN p l
 |[]=>⟨rfl,rfl⟩
 |c::r=>by
  have ih:=zCU (p:=p) r
  rw [spanN]
  split
  . rename_i h
    rw [List.take_succ_cons,List.all_cons,h,ih.1]
    exact ⟨rfl,by rw [List.length_cons,ih.2]⟩
  . exact ⟨rfl,rfl⟩
def zCN (k:Int) (s:List UInt8):List UInt8:=if k=4 then zAX s else s
theorem word_pw {l:List UInt8} {k:Int} {s:List UInt8} {n:Nat} (h:readU l = .ok (k,s,n)):Pw (zCN k s) [(k,s)]:=by
 unfold readU at h
 split at h
 . cases h
 . rename_i c r
   have hs:=zCU (p:=wrdU) r
   split at h
   . rename_i hc
     cases h
     exact (Ps.sign hc).w
   split at h
   . split at h
     . cases h
       exact Ps.dots.w
     . cases h
   split at h
   . rename_i hd
     split at h
     . rename_i hn
       cases h
       obtain ⟨m,hq⟩ : ∃ m,numU (c::r.take (spanN wrdU r)) = .ok m:=by
        revert hn
        generalize numU (c::r.take (spanN wrdU r))=q
        intro hn
        match q,hn with
        |.ok m,_=>exact ⟨m,rfl⟩
        |Lib.NumEnd.syntax,hn=>cases hn
        |.range,hn=>cases hn
       exact Pw.num hq ⟨c,_,rfl,hd,hs.1⟩
     . cases h
   split at h
   . rename_i hl
     split at h
     . cases h
     . rename_i h64
       cases h
       refine Pw.name ?_
       show (letU c&&(r.take (spanN wrdU r)).all wrdU&&decide ((r.take (spanN wrdU r)).length<64))=true
       rw [hl,hs.1,hs.2,decide_eq_true (by omega)];rfl
   split at h
   . split at h
     . cases h
     . split at h
       . cases h
       . cases h
         exact (Ps.quote _).w
   . cases h
def zCK:List (List UInt8)->List UInt8
 |[]=>[]
 |[w]=>w
 |w::v::r=>w++32::zCK (v::r)
def zEF (ks:List (Int × List UInt8)):List (List UInt8):=ks.map fun p=>zCN p.1 p.2
theorem Lex.words {l:List UInt8} {ks:List (Int × List UInt8)} (h:Lex l ks):Lex (zCK (zEF ks)) ks:=by
 induction h with
 |done h=>exact .done rfl
 |tok h ht hr ih =>
  rename_i l c r k s n ks
  cases ks with
  |nil=>exact (word_pw ht).lex
  |cons p q=>exact word_pw ht _ _ (zHr rfl) (ih.sep (c:=32) rfl)
theorem Lex.kinds {l:List UInt8} {ks:List (Int × List UInt8)} (h:Lex l ks) : ∀ p∈ks,p.1≠5:=by
 induction h with
 |done h=>intro p hp;cases hp
 |tok h ht hr ih =>
  intro p hp
  rcases List.mem_cons.1 hp with rfl | hp
  . have:=zBK ht
    show _≠_
    omega
  . exact ih p hp
def printT (ts:List Tok):List UInt8:=zCK ((ts.filter fun t => !(t.k==5)).map fun t=>zCN t.k t.s)
theorem zCC : ∀ {ts:List Tok} {ks:List (Int × List UInt8)},ts.map bare=ks++[endK5]->(∀ p∈ks,p.1≠5)->(ts.filter fun t => !(t.k==5)).map (fun t=>zCN t.k t.s)=zEF ks
 |[],ks,h,_=>by cases ks<;>cases h
 |t::ts,[],h,_=>by
  have h1:bare t=endK5:=(List.cons.inj h).1
  have h2:ts.map bare=[]:=(List.cons.inj h).2
  rw [List.map_eq_nil_iff] at h2
  subst h2
  have h3:t.k=5:=congrArg Prod.fst h1
  have h4:(!(t.k==5))=false:=by rw [h3];rfl
  rw [List.filter_cons_of_neg (p:=fun t:Tok => !(t.k==5)) (by rw [h4];decide)];rfl
 |t::ts,k::ks,h,hk=>by
  have h1:bare t=k:=(List.cons.inj h).1
  have h2:ts.map bare=ks++[endK5]:=(List.cons.inj h).2
  subst h1
  have h3:t.k≠5:=hk _ (List.mem_cons_self ..)
  have h4:(!(t.k==5))=true:=by simpa using h3
  rw [List.filter_cons_of_pos (p:=fun t:Tok => !(t.k==5)) h4,List.map_cons,zCC h2 fun p hp=>hk p (List.mem_cons_of_mem _ hp)];rfl
def likeT (t t':Tok):Prop:=t.k=t'.k/\t.s=t'.s
theorem likeT_tr:TR likeT fun _ _=>True:=⟨fun h=>h.1,fun h=>h.2,fun _=>trivial,trivial⟩
theorem zJL : ∀ {a b:List Tok},a.map bare=b.map bare->All2 likeT a b
 |[],[],_ => .nil
 |[],_::_,h=>by cases h
 |_::_,[],h=>by cases h
 |x::a,y::b,h=>by
  have h1:bare x=bare y:=(List.cons.inj h).1
  have h2:a.map bare=b.map bare:=(List.cons.inj h).2
  exact .cons ⟨congrArg Prod.fst h1,congrArg Prod.snd h1⟩ (zJL h2)
theorem scan_print {l:List UInt8} {ts:List Tok} (h:scanT l = .ok ts) (hlen:(printT ts).length<=65536) : ∃ ts',scanT (printT ts) = .ok ts'/\ts'.map bare=ts.map bare:=by
 unfold scanT at h
 split at h
 . cases h
 . obtain ⟨ks,h1,h2⟩:=Lex.of_scan _ _ _ _ h
   have h3:printT ts=zCK (zEF ks):=by unfold printT;rw [zCC h2 h1.kinds]
   obtain ⟨ts',h4,h5⟩:=h1.words.scan ((printT ts).length+1) 0 (by rw [h3];omega)
   refine ⟨ts',?_,by rw [h5,h2]⟩
   unfold scanT
   rw [if_neg (by omega),h3]
   rw [h3] at h4
   exact h4
end
end Go.Proofs.YthppafnlnnpciaaGreatDoor
