import Derived.Lib.LaidTab
import Derived.Lib.SmallJoins
import Derived.Test.YthjiclhfhjdjpaaGreatDoorRows
import Derived.Test.YthjiclhfhjdjpaaGreatDoorQ26
set_option maxHeartbeats 2000000
set_option maxRecDepth 100000
set_option linter.unusedVariables false
set_option linter.unusedSimpArgs false
namespace Go.Proofs.YthjiclhfhjdjpaaGreatDoor
section
open Go.RowKit
attribute [local irreducible] wpList Calls Code.wp
def Env (w : World) : Prop := Lib.TabIs Tryz.prog w "internal/strconv.uint64pow10" .u64 Lib.pow10Tab /\ (∃ tp p, w.var? Tryz.prog "strconv.ErrRange" = some #[.iface tp p]) /\ (∃ tp p, w.var? Tryz.prog "strconv.ErrSyntax" = some #[.iface tp p])
theorem zGt (w:World) (k:Nat) (os:Array Obj):Below w.heap.size w (Go.«Sort».grow (w.drewN k) os):=by
 refine ⟨rfl,rfl,rfl,?_,fun i hi => ?_⟩
 . rw [Go.«Sort».size_grow];exact Nat.le_add_right _ _
 . show (w.heap++os)[i]? = w.heap[i]?
   rw [Array.getElem?_append_left hi]
theorem zF4 (u:Nat) (n:Int) (w:World) (hu:u<=9223372036854775808) (hn:n = -(u:Int))
 (ih : ¬ u<10 -> ∀ w',Below w.heap.size w w'->Calls Tryz.prog 176 #[.int .i64 (n.tdiv 10)] w' (St (Lib.decDigits (u / 10)) w')) :
 Calls Tryz.prog 176 #[.int .i64 n] w (St (Lib.decDigits u) w):=by
 have ht:n.tmod 10 = -((u%10:Nat):Int):=by rw [hn,Int.neg_tmod,Int.tmod_eq_emod_of_nonneg (by omega)];omega
 have hn0:n<=0:=by omega
 have hn1 : -9223372036854775808<=n:=by omega
 have hd10:u%10<10:=Nat.mod_lt _ (by omega)
 have Hd:=Lib.hid (show ∃ d,d=u%10 from ⟨_,rfl⟩)
 by_cases hs:u<10
 . have hcmp:decide (n > -10)=true:=decide_eq_true (by omega)
   have hgt : -10<n:=by omega
   have Hds:=Lib.hid (show bs (Lib.decDigits u)=bs [UInt8.ofNat (48+u%10)] by rw [zBI hs];congr 3;omega)
   have hcv:=zFP w #[.int .u8 (48+((u%10:Nat):Int))] [UInt8.ofNat (48+u%10)] 1 rfl (by simp only [Lib.byteCells,List.map_cons,List.map_nil];rw [zA1 hd10];simp)
   generalize bs [UInt8.ofNat (48+u%10)]=last at *
   generalize u%10=d at *
   clear ih hn Hd
   go_enter Tryz.func176,Tryz.ntmps176
   go_wp2
   go_ret
   exact ⟨by rw [Hds.out];rfl,(Below.refl _ _).alloc (Nat.le_refl _) _⟩
 . have hcmp:decide (n > -10)=false:=decide_eq_false (by omega)
   have hgt : ¬ -10<n:=by omega
   have Hds:=Lib.hid (show bs (Lib.decDigits u)=bs (Lib.decDigits (u / 10))++bs [UInt8.ofNat (48+u%10)] by rw [zDs hs,zU])
   have hcv:=zFP w #[.int .u8 (48+((u%10:Nat):Int))] [UInt8.ofNat (48+u%10)] 1 rfl (by simp only [Lib.byteCells,List.map_cons,List.map_nil];rw [zA1 hd10];simp)
   have H:=Lib.hid (ih hs _ ((Below.refl _ _).alloc (Nat.le_refl _) (.cells #[.int .u8 (48+((u%10:Nat):Int))] 5)))
   have hz1:(bs [UInt8.ofNat (48+u%10)]).size<=1:=by rw [zS];simp
   have hz2:(bs (Lib.decDigits (u / 10))).size<=20:=by rw [zS];exact zHb (by omega)
   unfold St at H
   generalize bs [UInt8.ofNat (48+u%10)]=last at *
   generalize bs (Lib.decDigits (u / 10))=rest at *
   generalize u%10=d at *
   clear ih hn Hd
   go_enter Tryz.func176,Tryz.ntmps176
   go_wp2_with fail
   refine H.out.mono ?_
   rintro e w2 ⟨rfl,hb⟩
   have Hb:=Lib.hid (((Below.refl w.heap.size w).alloc (Nat.le_refl _) (.cells #[.int .u8 (48+(d:Int))] 5)).trans (hb.mono (by simp)))
   clear hb
   go_wp2
   go_ret
   exact ⟨by rw [Hds.out];rfl,Hb.out⟩
theorem zJo : ∀ (k u:Nat) (n:Int) (w:World),u<10^k->u<=9223372036854775808->n = -(u:Int)->Calls Tryz.prog 176 #[.int .i64 n] w (St (Lib.decDigits u) w)
 |0,u,n,w,h,hu,hn=>zF4 u n w hu hn (fun h'=>absurd (show u<10 by simp at h;omega) h')
 |k+1,u,n,w,h,hu,hn=>zF4 u n w hu hn (fun _ w' _=>zJo k (u / 10) (n.tdiv 10) w' (by rw [Nat.pow_succ] at h;omega) (by omega) (by rw [hn,Int.neg_tdiv,Int.tdiv_eq_ediv_of_nonneg (by omega)];omega))
theorem decimalR (n:Int) (h0 : -9223372036854775808<=n) (h1:n<=9223372036854775807) (w:World):Calls Tryz.prog 97 #[.int .i64 n] w (St (Lib.itoa n) w):=by
 by_cases hn:n<0
 . have H:=Lib.hid (zJo 20 n.natAbs n w (by omega) (by omega) (by omega))
   have Hi:=Lib.hid (show bs (Lib.itoa n)=bs [45]++bs (Lib.decDigits n.natAbs) by unfold Lib.itoa;rw [if_pos hn,zU];rfl)
   have hz2:(bs (Lib.decDigits n.natAbs)).size<=20:=by rw [zS];exact zHb (by omega)
   unfold St at H
   generalize bs (Lib.decDigits n.natAbs)=rest at *
   go_enter Tryz.func97,Tryz.ntmps97
   go_wp2_with fail
   refine H.out.mono ?_
   rintro e w2 ⟨rfl,hb⟩
   have Hb:=Lib.hid hb
   clear hb
   go_wp2
   go_ret
   exact ⟨by rw [Hi.out];rfl,Hb.out⟩
 . have H:=Lib.hid (zJo 20 n.toNat (-n) w (by omega) (by omega) (by omega))
   have Hi:=Lib.hid (show bs (Lib.itoa n)=bs (Lib.decDigits n.toNat) by unfold Lib.itoa;rw [if_neg hn])
   unfold St at H
   generalize bs (Lib.decDigits n.toNat)=rest at *
   go_enter Tryz.func97,Tryz.ntmps97
   go_wp2_with fail
   refine H.out.mono ?_
   rintro e w2 ⟨rfl,hb⟩
   have Hb:=Lib.hid hb
   clear hb
   go_wp2
   go_ret
   exact ⟨by rw [Hi.out];rfl,Hb.out⟩
theorem za {n:Int} (h : -9223372036854775808<=n/\n<=9223372036854775807):IntKind.i64.min<=n/\n<=IntKind.i64.max:=h
theorem zD0 {P:Program} {w w':World} {n:String} {g G:Nat} {cs:Array Value} (hg:P.globalNamed n=some g) (hG:g<G) (h:w.var? P n=some cs) (hs : ∀ k,k<G->w'.heap[k]? = w.heap[k]?):w'.var? P n=some cs:=by
 unfold World.var? at h |-
 rw [hg] at h |-
 simp only [Option.bind_some] at h |-
 rw [hs g hG];exact h
def EnvT (w : World) : Prop := Lib.TabIs Tryz.prog w "internal/strconv.uint64pow10" .u64 Lib.pow10Tab
def EN:Ge where
 G:=1+1
 E:=EnvT
 stays w w' h hs:=zD0 (g:=1) (by kernel_rfl) (by omega) h hs
 le w h:=by
  have h1:=h
  unfold EnvT Lib.TabIs World.var? at h1
  rw [show Tryz.prog.globalNamed "internal/strconv.uint64pow10" = some 1 by kernel_rfl] at h1
  simp only [Option.bind_some] at h1
  rcases Nat.lt_or_ge 1 w.heap.size with h' | h'
  . exact h'
  . rw [Array.getElem?_eq_none h'] at h1;cases h1
theorem ac_ofV {f:FuncId} {args:List V} {r:V} {u:Value} (h : ∀ s w us,relL Tryz.prog s w args us.toList->EnvT w->(∀ s' w',rel Tryz.prog s' w' r u)/\Calls Tryz.prog f us w fun e w'=>e = .returned u/\Below w.heap.size w w'):AC EN Tryz.prog f args r:=by
 intro s w us hus hfx he
 obtain ⟨hr,hc⟩:=h s w us hus he
 refine hc.mono ?_
 rintro e w' ⟨rfl,hb⟩
 have hc : ∀ b o,s.F b o->w'.cell? ⟨b,o,none⟩=w.cell? ⟨b,o,none⟩:=fun b o hF=>by
  obtain ⟨x,hx⟩:=Option.isSome_iff_exists.1 (hfx b o hF)
  exact hb.cell (p:=⟨b,o,none⟩) (block_lt_of_cell hx)
 exact ⟨u,s.F,rfl,Frm.of_below hb,fun b o hF=>⟨hc b o hF,hF⟩,fun b o hF=>by rw [hc b o hF];exact hfx b o hF,fun _ _ _ h=>h,hr _ _⟩
theorem zHj {f:FuncId} {args:List V} {r:Value} (h : ∀ s w us,relL Tryz.prog s w args us.toList->EnvT w->okV r/\Calls Tryz.prog f us w fun e w'=>e = .returned r/\Below w.heap.size w w'):AC EN Tryz.prog f args (.c r):=
 ac_ofV fun s w us hus he=>⟨fun s' w'=>by rw [rel];exact ⟨rfl,(h s w us hus he).1⟩,(h s w us hus he).2⟩
theorem zC3 {P:Program} {s:Sg} {w:World} {v:V} {us:Array Value} (h:relL P s w [v] us.toList) : ∃ u,us = #[u]/\rel P s w v u:=by
 cases hl:us.toList with
 |nil=>rw [hl] at h;simp [relL] at h
 |cons x xs =>
  rw [hl,relL] at h
  cases xs with
  |nil=>exact ⟨x,by apply Array.ext';simpa using hl,h.1⟩
  |cons y ys=>simp [relL] at h
theorem zJO {P:Program} {s:Sg} {w:World} {v v2:V} {us:Array Value} (h:relL P s w [v,v2] us.toList) : ∃ u u2,us = #[u,u2]/\rel P s w v u/\rel P s w v2 u2:=by
 cases hl:us.toList with
 |nil=>rw [hl] at h;simp [relL] at h
 |cons x xs =>
  rw [hl,relL] at h
  cases xs with
  |nil=>simp [relL] at h
  |cons y ys =>
   rw [relL] at h
   cases ys with
   |nil=>exact ⟨x,y,by apply Array.ext';simpa using hl,h.1,h.2.1⟩
   |cons z zs=>simp [relL] at h
theorem zJx {l:List UInt8} (h:l.length<=9223372036854775807):okV (.string (bs l)):=by
 show (bs l).size<=maxLen
 rw [zS];unfold maxLen;omega
def tx (s:ByteArray):List UInt8:=s.data.toList
theorem zAX (l:List UInt8):tx (bs l)=l:=rfl
theorem zA8 (s:ByteArray):bs (tx s)=s:=by unfold bs tx;simp
theorem zAF (s:ByteArray):(tx s).length=s.size:=by unfold tx;simp
theorem zp (a b:ByteArray):tx (a++b)=tx a++tx b:=by unfold tx;simp
theorem lit_bs (a:Array UInt8):(⟨a⟩:ByteArray)=bs a.toList:=by unfold bs;simp
theorem zh (a:Array UInt8):(⟨a⟩:ByteArray).size=a.size:=rfl
theorem zw:zAB Tryz.prog 22=some (9,16):=by kernel_rfl
theorem zB9:zAB Tryz.prog 32=some (3,8):=by kernel_rfl
theorem zCi:(⟨#[]⟩:ByteArray).toList=[]:=by rw [Lib.toList_data]
theorem s_ne {s:ByteArray} (h:(!s.toList==(⟨#[]⟩:ByteArray).toList)=true):tx s≠[]:=by
 rw [zCi,Lib.toList_data] at h
 intro e
 unfold tx at e
 rw [e] at h;simp at h
theorem s_eq {s:ByteArray} (h:(!s.toList==(⟨#[]⟩:ByteArray).toList)=false):tx s=[]:=by
 rw [zCi,Lib.toList_data] at h
 unfold tx
 simpa using h
theorem e_eq {s:ByteArray} (h:(s.toList==(⟨#[]⟩:ByteArray).toList)=true):tx s=[]:=by
 rw [zCi,Lib.toList_data] at h
 unfold tx
 simpa using h
theorem e_ne {s:ByteArray} (h:(s.toList==(⟨#[]⟩:ByteArray).toList)=false):tx s≠[]:=by
 rw [zCi,Lib.toList_data] at h
 intro e
 unfold tx at e
 rw [e] at h;simp at h
def txs (l:List D):List (List UInt8):=l.map fun d=>tx d.s
theorem txs_len (l:List D):(txs l).length=l.length:=by simp [txs]
theorem str_cells {w:World} {F:Nat->Nat->Prop} {l:List D} {u:Value} (h:SlV Tryz.prog w F 9 l u) : ∃ A c,u = .slice A l.length c/\l.length<=c/\(0<l.length -> ∃ b off,A=some ⟨b,off,none⟩/\b<w.heap.size /\ ∀ i,i<l.length->w.cell? ⟨b,off+i,none⟩=some (.string (gD l i).s)):=by
 obtain ⟨k,A,c,rfl,h2,h3,h4,h5⟩:=h
 refine ⟨A,c,rfl,h2,fun hp => ?_⟩
 have hc:Tryz.prog.cellsOf 9=1:=by kernel_rfl
 have hu:Tryz.prog.underlying 9=some .string:=by kernel_rfl
 obtain ⟨b,off,hA,hi⟩:=h5 hp (by rw [hc];omega)
 refine ⟨b,off,hA,?_,fun i hil => ?_⟩
 . obtain ⟨ys,y1,y2,_⟩:=hi 0 hp
   exact block_lt_of_cell (y2 0 _ (List.getElem?_eq_getElem (by omega))).1
 . obtain ⟨ys,y1,y2,y3⟩:=hi i hil
   cases k with
   |zero=>exact y3.elim
   |succ k =>
    unfold RepF at y3
    simp only [hu] at y3
    obtain ⟨rfl,-⟩:=y3
    have:=(y2 0 _ rfl).1
    rw [hc] at this
    simpa using this
theorem zCR (l:List D) (sep:List UInt8) (hn:l.length<=100000000) (hl:(Lib.join (txs l) sep).length<=100000000000) :
 AC EN Tryz.prog 59 [.sl 9 l,.c (.string (bs sep))] (.c (.string (bs (Lib.join (txs l) sep)))):=
 zHj fun s w us hus _=>by
  refine ⟨zJx (by omega),?_⟩
  obtain ⟨u,u2,rfl,h1,h2⟩:=zJO hus
  rw [rel] at h1
  rw [rel] at h2
  obtain ⟨rfl,-⟩:=h2
  obtain ⟨A,c,rfl,hc,hcells⟩:=str_cells h1
  have e1:(l.map (·.s)).map (·.data.toList)=txs l:=by unfold txs tx;rw [List.map_map];rfl
  have e2:(bs sep).data.toList=sep:=zAi sep
  by_cases h0:0<l.length
  . obtain ⟨g,off,rfl,hg,hj⟩:=hcells h0
    have hk:=Tryz.strings_Join g off c (l.map (·.s)) (bs sep) w (fun j x hx=>by
     rw [List.getElem?_map,Option.map_eq_some_iff] at hx
     obtain ⟨d,hd,rfl⟩:=hx
     have hjl:=List.getElem?_eq_some_iff.1 hd
     rw [hj j hjl.1,zAQ hjl.1,hjl.2]) hg (by simp;omega) (by simpa using hc) (by rw [e1,e2];omega)
    rw [List.length_map] at hk
    refine hk.mono fun e w' h=>⟨?_,h.2⟩
    rw [h.1,e1,e2];rfl
  . have hz:l=[]:=List.eq_nil_of_length_eq_zero (by omega)
    subst hz
    exact (Tryz.strings_Join_none A c (bs sep) w).mono fun e w' h=>⟨by rw [h.1];rfl,by rw [h.2];exact Below.refl _ _⟩
theorem zB4 (n:Int) (h0 : -9223372036854775808<=n) (h1:n<=9223372036854775807):(Lib.itoa n).length<=21:=by
 unfold Lib.itoa
 split
 . have:=zHb (u:=n.natAbs) (by omega)
   simp only [List.length_cons];omega
 . have:=zHb (u:=n.toNat) (by omega)
   omega
theorem zJc (n:Int) (h0 : -9223372036854775808<=n) (h1:n<=9223372036854775807):AC EN Tryz.prog 95 [.c (.int .i64 n)] (.c (.string (bs (Lib.itoa n)))):=
 zHj fun s w us hus he=>by
  refine ⟨zJx (by have:=zB4 n h0 h1;omega),?_⟩
  obtain ⟨u,rfl,h⟩:=zC3 hus
  rw [rel] at h
  obtain ⟨rfl,-⟩:=h
  refine (Tryz.strconv_Itoa n h0 h1 w he).mono fun e w' h => ?_
  obtain ⟨q1,k,os,rfl⟩:=h
  exact ⟨by rw [q1];rfl,zGt w k os⟩
theorem zJp (n:Int) (h0 : -9223372036854775808<=n) (h1:n<=9223372036854775807):AC EN Tryz.prog 97 [.c (.int .i64 n)] (.c (.string (bs (Lib.itoa n)))):=
 zHj fun s w us hus he=>by
  refine ⟨zJx (by have:=zB4 n h0 h1;omega),?_⟩
  obtain ⟨u,rfl,h⟩:=zC3 hus
  rw [rel] at h
  obtain ⟨rfl,-⟩:=h
  exact decimalR n h0 h1 w
theorem zJq (n:Int) (h0 : -9223372036854775808<=n) (h1:n<=9223372036854775807):AC EN Tryz.prog 200 [.c (.int .i64 n)] (.c (.string (bs (Lib.itoa n)))):=
 zHj fun s w us hus he=>by
  refine ⟨zJx (by have:=zB4 n h0 h1;omega),?_⟩
  obtain ⟨u,rfl,h⟩:=zC3 hus
  rw [rel] at h
  obtain ⟨rfl,-⟩:=h
  have H:=Lib.hid (Tryz.strconv_Itoa n h0 h1 w he)
  clear he
  go_enter Tryz.func200,Tryz.ntmps200
  go_wp2_with fail
  refine H.out.mono ?_
  rintro e w2 ⟨rfl,k,os,rfl⟩
  have Hb:=Lib.hid (zGt w k os)
  generalize Go.«Sort».grow (w.drewN k) os=w2 at *
  go_wp2
  go_ret
  exact ⟨rfl,Hb.out⟩
theorem quoteP_ac (s:ByteArray) (hs:s.size<=8388608):AC EN Tryz.prog 86 [.c (.string s)] (.c (.string (bs (zAx (tx s))))):=
 zHj fun _ w us hus he=>by
  refine ⟨zJx (by have:=zB8 (tx s);have:=zAF s;simp only [zAx,List.length_append,List.length_cons,List.length_nil];omega),?_⟩
  obtain ⟨u,rfl,h⟩:=zC3 hus
  rw [rel] at h
  obtain ⟨rfl,-⟩:=h
  exact quoteP s w hs
theorem quoteR_ac (s:ByteArray) (hs:s.size<=8388608):AC EN Tryz.prog 204 [.c (.string s)] (.c (.string (bs (zAx (tx s))))):=
 zHj fun _ w us hus he=>by
  refine ⟨zJx (by have:=zB8 (tx s);have:=zAF s;simp only [zAx,List.length_append,List.length_cons,List.length_nil];omega),?_⟩
  obtain ⟨u,rfl,h⟩:=zC3 hus
  rw [rel] at h
  obtain ⟨rfl,-⟩:=h
  exact quoteR s w hs
mutual
def bulkD:D->Nat
 |.int _=>1
 |.bool _=>1
 |.str s=>s.size+1
 |.list l=>bulkL l+1
 |.obj l=>bulkL l+1
def bulkL:List D->Nat
 |[]=>0
 |d::r=>bulkD d+bulkL r
 end
def Fits (P:Program):Nat->TypeId->D->Prop
 |0,_,_=>False
 |k+1,t,d =>
  match P.underlying t with
  |some .bool => ∃ b,d = .bool b
  |some (.int _) => ∃ n,d = .int n
  |some .string => ∃ s,d = .str s
  |some (.slice e) => ∃ l,d = .list l /\ ∀ i,i<l.length->Fits P k e (gD l i)
  |some (.struct fs) => ∃ l,d = .obj l/\l.length=fs.size /\ ∀ j f,fs[j]? = some f->Fits P k f.type (gD l j)
  |_=>True
theorem Fits.up {P:Program} : ∀ {k:Nat} {t:TypeId} {d:D},Fits P k t d->Fits P (k+1) t d
 |0,_,_,h=>h.elim
 |k+1,t,d,h=>by
  unfold Fits at h |-
  split at h
  . exact h
  . exact h
  . exact h
  . obtain ⟨l,h1,h2⟩:=h
    exact ⟨l,h1,fun i hi=>Fits.up (h2 i hi)⟩
  . obtain ⟨l,h1,h2,h3⟩:=h
    exact ⟨l,h1,h2,fun j f hf=>Fits.up (h3 j f hf)⟩
  . trivial
theorem bulk_pos {H:Type} (d:DataW H):1<=Rows.uptoBulk d:=by
 cases d with
 |lit x=>cases x<;>simp [Rows.uptoBulk]
 |_=>simp [Rows.uptoBulk]
theorem zEu {H:Type} : ∀ (l:List D) (xs:List (DataW H × List MemPlace)),l.length=xs.length->(∀ i (h:i<xs.length),bulkD (gD l i)<=Rows.uptoBulk (xs[i]'h).1)->bulkL l<=Rows.uptoBulkAll (xs.map (·.1))
 |[],_,_,_=>by simp [bulkL]
 |d::r,[],h,_=>by simp at h
 |d::r,x::xs,h,hb=>by
  have h0:=hb 0 (by simp)
  have h1:=zEu r xs (by simpa using h) fun i hi=>by
   have:=hb (i+1) (by simpa using hi)
   simpa [gD] using this
  simp only [List.map_cons,Rows.uptoBulkAll,bulkL]
  have e:gD (d::r) 0=d:=rfl
  rw [e] at h0
  have e2:(((x::xs)[0]'(by simp)).1)=x.1:=rfl
  rw [e2] at h0
  omega
theorem zC2 {P:Program} {w:World} {H:Type} {enc:TypeId × Value->H} {held:Bool} {sp:Nat->Bool} : ∀ {k:Nat} {t:TypeId} {cs:List Value} {x:DataW H × List MemPlace},
 DataW.trod enc P w 0 sp held k t cs=some x -> ∃ d,Rep P w (fun b=>b<w.heap.size) k t cs d/\Fits P k t d/\bulkD d<=Rows.uptoBulk x.1
 |0,t,cs,x,h=>by simp [DataW.trod] at h
 |k+1,t,cs,x,h=>by
  have hpos:=bulk_pos x.1
  cases hu:P.underlying t with
  |none=>exact ⟨default,by unfold Rep;rw [hu];trivial,by unfold Fits;rw [hu];trivial,by show bulkD (.obj [])<=_;simpa [bulkD,bulkL] using hpos⟩
  |some ty =>
   cases ty
   case bool =>
    obtain ⟨b,rfl,_⟩:=DataW.trod_bool hu h
    exact ⟨.bool b,.mk_bool hu,by unfold Fits;rw [hu];exact ⟨b,rfl⟩,by simpa [bulkD] using hpos⟩
   case int q =>
    obtain ⟨n,rfl,_,hw⟩:=DataW.trod_int hu h
    exact ⟨.int n,.mk_int hu hw,by unfold Fits;rw [hu];exact ⟨n,rfl⟩,by simpa [bulkD] using hpos⟩
   case string =>
    obtain ⟨s,rfl,hx,hs⟩:=DataW.trod_string hu h
    refine ⟨.str s,.mk_str hu hs,by unfold Fits;rw [hu];exact ⟨s,rfl⟩,?_⟩
    rw [hx]
    simp [bulkD,Rows.uptoBulk]
   case slice e =>
    rcases DataW.trod_slice hu h with ⟨rfl,_⟩ | ⟨a,len,cap,elems,rest,n,hk,rfl,hx,_,hle,hcm,hlen,hel,_⟩
    . exact ⟨.list [],.mk_slice hu rfl (by simp) (by simp [maxLen]) (fun _=>rfl) (Sl.nil _ _ _),by unfold Fits;rw [hu];exact ⟨[],rfl,fun i hi=>by simp at hi⟩,by simpa [bulkD,bulkL] using hpos⟩
    . obtain rfl:n=k:=by omega
      have hx2 : ∀ i,i<len -> ∃ d,(∃ ys,w.cells? 0 (a.add (i*P.cellsOf e)) (P.cellsOf e)=some ys/\Rep P w (fun b=>b<w.heap.size) n e ys d)/\Fits P n e d /\ ∀ h:i<elems.length,bulkD d<=Rows.uptoBulk (elems[i]'h).1:=fun i hi=>by
       have h1:=hel i hi
       rw [List.getElem?_eq_getElem (by omega)] at h1
       obtain ⟨ys,y1,y2⟩:=Option.bind_eq_some_iff.1 h1
       obtain ⟨d,hd,hd2,hd3⟩:=zC2 y2
       exact ⟨d,⟨ys,y1,hd⟩,hd2,fun _=>hd3⟩
      obtain ⟨l,hll,hl⟩:=zF8 hx2
      refine ⟨.list l,.mk_slice hu hll.symm (by omega) hcm (fun h=>by cases h) ?_,by unfold Fits;rw [hu];exact ⟨l,rfl,fun i hi=>(hl i (by omega)).2.1⟩,?_⟩
      . intro h0 hc
        obtain ⟨b,off,spot⟩:=a
        obtain ⟨⟨ys,y1,_⟩,_⟩:=hl 0 (by omega)
        obtain ⟨_,y3,y4⟩:=World.cells?_some y1
        have y5:=y4 0 hc
        rw [List.getElem?_eq_getElem (by omega)] at y5
        have hspot:spot=none:=by simpa [Addr.add] using World.cell?_spot y5
        subst hspot
        have hbl:b<w.heap.size:=by simpa [Addr.add] using block_lt_of_cell y5
        refine ⟨b,off,rfl,hbl,fun i hi => ?_⟩
        obtain ⟨⟨ys,y1,y2⟩,_⟩:=hl i (by omega)
        obtain ⟨_,y3,y4⟩:=World.cells?_some y1
        refine ⟨ys,y3,fun j u hu => ?_,y2⟩
        have hj:j<P.cellsOf e:=by have:=(List.getElem?_eq_some_iff.1 hu).1;omega
        have:=y4 j hj
        rw [Go.WideShapes.add_plain,Go.WideShapes.add_plain,hu] at this
        exact this
      . have:=zEu l elems (by omega) fun i hi=>(hl i (by omega)).2.2 hi
        rw [hx]
        simp only [bulkD,Rows.uptoBulk]
        omega
   case struct fs =>
    obtain ⟨xs,n,hk,hx,hcs,hxs,hf⟩:=DataW.trod_struct hu h
    obtain rfl:n=k:=by omega
    have hx2 : ∀ j,j<fs.size -> ∃ d,(∀ f,fs[j]? = some f->Rep P w (fun b=>b<w.heap.size) n f.type ((cs.drop f.offset).take (P.cellsOf f.type)) d/\Fits P n f.type d) /\ ∀ h:j<xs.length,bulkD d<=Rows.uptoBulk (xs[j]'h).1:=fun j hj=>by
     have h1:=hf j fs[j] (Array.getElem?_eq_getElem hj)
     rw [List.getElem?_eq_getElem (by omega)] at h1
     obtain ⟨d,hd,hd2,hd3⟩:=zC2 h1
     refine ⟨d,fun f hf => ?_,fun _=>hd3⟩
     rw [Array.getElem?_eq_getElem hj] at hf
     cases hf;exact ⟨hd,hd2⟩
    obtain ⟨l,hll,hl⟩:=zF8 hx2
    refine ⟨.obj l,.mk_struct hu hcs fun j f hjf=>((hl j (Array.getElem?_eq_some_iff.1 hjf).1).1 f hjf).1,by unfold Fits;rw [hu];exact ⟨l,rfl,hll,fun j f hjf=>((hl j (Array.getElem?_eq_some_iff.1 hjf).1).1 f hjf).2⟩,?_⟩
    have:=zEu l xs (by omega) fun i hi=>(hl i (by omega)).2 hi
    rw [hx]
    simp only [bulkD,Rows.uptoBulk]
    omega
   all_goals exact ⟨default,by unfold Rep;rw [hu];trivial,by unfold Fits;rw [hu];trivial,by show bulkD (.obj [])<=_;simpa [bulkD,bulkL] using hpos⟩
end
section
def commaT:List UInt8:=[44,32]
def i64D (n:Int):Prop:=-9223372036854775808<=n/\n<=9223372036854775807
def Dp:Nat->D->Prop
 |0,_=>False
 |k+1,d => ∀ i,i<(d.f 3).l.length->Dp k (gD (d.f 3).l i)
mutual
def wideD:D->Prop
 |.int n=>i64D n
 |.bool _=>True
 |.str _=>True
 |.list l=>wideL l
 |.obj l=>wideL l
def wideL:List D->Prop
 |[]=>True
 |d::r=>wideD d/\wideL r
end
theorem zFU : ∀ {l:List D},wideL l -> ∀ i,wideD (gD l i)
 |[],_,i=>by show wideD (.obj []);simp [wideD,wideL]
 |d::r,h,i=>by
  rw [wideL] at h
  cases i with
  |zero=>exact h.1
  |succ i=>exact zFU h.2 i
theorem wideD.f {d:D} (h:wideD d) (i:Nat):wideD (d.f i):=by
 cases d with
 |obj l=>rw [wideD] at h;exact zFU h i
 |_=>show wideD (.obj []);simp [wideD,wideL]
theorem wideD.l {d:D} (h:wideD d) (i:Nat):wideD (gD d.l i):=by
 cases d with
 |list l=>rw [wideD] at h;exact zFU h i
 |_=>show wideD (.obj []);simp [wideD,wideL]
theorem wideD.n {d:D} (h:wideD d):i64D d.n:=by
 cases d with
 |int n=>rw [wideD] at h;exact h
 |_=>show i64D 0;unfold i64D;omega
def sumN (f:Nat->Nat):Nat->Nat
 |0=>0
 |n+1=>sumN f n+f n
theorem zFZ {f g:Nat->Nat} : ∀ {n:Nat},(∀ i,i<n->f i<=g i)->sumN f n<=sumN g n
 |0,_=>Nat.le_refl _
 |n+1,h=>by
  have:=zFZ (n:=n) fun i hi=>h i (by omega)
  have:=h n (by omega)
  simp only [sumN];omega
theorem zCI (c:Nat) (f:Nat->Nat) : ∀ n,sumN (fun i=>c*f i) n=c*sumN f n
 |0=>by simp [sumN]
 |n+1=>by simp only [sumN,zCI c f n,Nat.mul_add]
theorem zG7 (f g:Nat->Nat) : ∀ n,sumN (fun i=>f i+g i) n=sumN f n+sumN g n
 |0=>rfl
 |n+1=>by simp only [sumN,zG7 f g n];omega
theorem zBd (f:Nat->Nat) {n m:Nat} (h:n<=m):sumN f n<=sumN f m:=by
 induction m with
 |zero=>have:n=0:=by omega
        subst this;exact Nat.le_refl _
 |succ m ih =>
  rcases Nat.lt_or_ge n (m+1) with h' | h'
  . have:=ih (by omega);simp only [sumN];omega
  . have:n=m+1:=by omega
    subst this;exact Nat.le_refl _
theorem zH1 (f:Nat->Nat) : ∀ n,sumN f (n+1)=f 0+sumN (fun i=>f (i+1)) n
 |0=>by simp [sumN]
 |n+1=>by rw [sumN,zH1 f n,sumN];omega
def wD (d:D):Nat:=bulkD d-1
theorem zAj (d:D):1<=bulkD d:=by cases d<;>simp [bulkD]
theorem zW (d:D):bulkD d=wD d+1:=by unfold wD;have:=zAj d;omega
theorem zy (d:D):d.s.size<=wD d:=by
 cases d with
 |str s=>simp [wD,bulkD,D.s]
 |_=>exact Nat.zero_le _
theorem zr (d:D):bulkL d.l<=wD d:=by cases d<;>simp [wD,bulkD,D.l,bulkL]
theorem zBK : ∀ (l:List D),bulkL l=sumN (fun i=>bulkD (gD l i)) l.length
 |[]=>rfl
 |d::r=>by
  rw [bulkL,zBK r,List.length_cons,zH1];rfl
theorem bulkL_out (l:List D) : ∀ n,sumN (fun i=>wD (gD l i)) n<=bulkL l:=by
 intro n
 have hout : ∀ i,l.length<=i->wD (gD l i)=0:=fun i hi=>by
  unfold gD
  rw [List.getD_eq_getElem?_getD,List.getElem?_eq_none hi];rfl
 have hin : ∀ m,m<=l.length->sumN (fun i=>wD (gD l i)) m<=bulkL l:=fun m hm=>by
  rw [zBK]
  refine Nat.le_trans (zBd _ hm) (zFZ fun i hi => ?_)
  have:=zW (gD l i);omega
 rcases Nat.le_total n l.length with h | h
 . exact hin n h
 . obtain ⟨m,rfl⟩:=Nat.exists_eq_add_of_le h
   clear h
   induction m with
   |zero=>exact hin _ (Nat.le_refl _)
   |succ m ih =>
    rw [<- Nat.add_assoc,sumN,hout (l.length+m) (by omega)]
    omega
theorem zAd (d:D) (n:Nat):sumN (fun i=>wD (d.f i)) n<=wD d:=by
 cases d with
 |obj l=>exact bulkL_out l n
 |_ =>
  refine Nat.le_trans (zFZ (g:=fun _=>0) fun i _ => ?_) (Nat.le_trans (Nat.le_of_eq ?_) (Nat.zero_le _))
  . show wD (.obj [])<=0
    simp [wD,bulkD,bulkL]
  . induction n with
    |zero=>rfl
    |succ n ih=>simp only [sumN,ih]
theorem wD_f (d:D) (i:Nat):wD (d.f i)<=wD d:=by
 have:=zAd d (i+1)
 simp only [sumN] at this;omega
theorem zu {l:List D} {i:Nat} (h:i<l.length):bulkD (gD l i)<=bulkL l:=by
 rw [zBK]
 have:=zBd (fun i=>bulkD (gD l i)) (show i+1<=l.length by omega)
 simp only [sumN] at this;omega
theorem zBJ {d:D} {j i:Nat} (h:i<(d.f j).l.length):bulkD (gD (d.f j).l i)<=wD d:=by
 have h1:=zu h
 have h2:=zr (d.f j)
 have h3:=wD_f d j
 omega
theorem zDq : ∀ (k:Nat) (d:D),bulkD d<=k->Dp k d
 |0,d,h=>by have:=zAj d;omega
 |k+1,d,h=>fun i hi=>zDq k _ (by have:=zBJ hi;have:=zW d;omega)
def valT:Nat->D->List UInt8
 |0,_=>[]
 |k+1,d =>
  if (d.f 0).n=1 then (if (d.f 1).n=1 then [116,114,117,101] else [102,97,108,115,101])
  else if (d.f 0).n=2 then Lib.itoa (d.f 1).n
  else if (d.f 0).n=3 then zAx (tx (d.f 2).s)
  else if (d.f 0).n=4 then tx (d.f 2).s
  else if (d.f 0).n=7 then [36]++tx (d.f 2).s
  else if (d.f 0).n=5 then [91]++Lib.join ((List.range (d.f 3).l.length).map fun i=>valT k (gD (d.f 3).l i)) commaT++[93]
  else if (d.f 0).n=6 then [123]++Lib.join ((List.range (min (d.f 4).l.length (d.f 3).l.length)).map fun i=>tx (gD (d.f 4).l i).s++[58,32]++valT k (gD (d.f 3).l i)) commaT++[125]
  else [110,117,108,108]
theorem zFX : ∀ {k m:Nat} {d:D},Dp k d->k<=m->valT m d=valT k d
 |0,_,_,h,_=>h.elim
 |k+1,0,_,_,hm=>by omega
 |k+1,m+1,d,h,hm=>by
  have hk : ∀ i,i<(d.f 3).l.length->valT m (gD (d.f 3).l i)=valT k (gD (d.f 3).l i):=fun i hi=>zFX (h i hi) (by omega)
  unfold valT
  have e1:(List.range (d.f 3).l.length).map (fun i=>valT m (gD (d.f 3).l i))=(List.range (d.f 3).l.length).map (fun i=>valT k (gD (d.f 3).l i)):=
   List.map_congr_left fun i hi=>hk i (List.mem_range.1 hi)
  have e2:(List.range (min (d.f 4).l.length (d.f 3).l.length)).map (fun i=>tx (gD (d.f 4).l i).s++[58,32]++valT m (gD (d.f 3).l i))=(List.range (min (d.f 4).l.length (d.f 3).l.length)).map (fun i=>tx (gD (d.f 4).l i).s++[58,32]++valT k (gD (d.f 3).l i)):=
   List.map_congr_left fun i hi=>by rw [hk i (by have:=List.mem_range.1 hi;omega)]
  rw [e1,e2]
theorem join_le (sep:List UInt8) : ∀ (ls:List (List UInt8)),(Lib.join ls sep).length<=(ls.map fun l=>l.length+sep.length).sum:=by
 have tail : ∀ (ls:List (List UInt8)),(Lib.joinTail sep ls).length=(ls.map fun l=>l.length+sep.length).sum:=fun ls=>by
  induction ls with
  |nil=>rfl
  |cons l r ih =>
   unfold Lib.joinTail at ih |-
   simp only [List.map_cons,List.flatten_cons,List.length_append,List.sum_cons,ih]
   omega
 intro ls
 cases ls with
 |nil=>simp [Lib.join_nil]
 |cons x r =>
  rw [Lib.join_cons,List.length_append,tail]
  simp only [List.map_cons,List.sum_cons]
  omega
theorem zIC (f:Nat->Nat) : ∀ n,((List.range n).map f).sum=sumN f n
 |0=>rfl
 |n+1=>by simp [List.range_succ,zIC f n,sumN]
theorem zBD (n:Nat) (f:Nat->List UInt8) (sep:List UInt8) (b:Nat->Nat) (h : ∀ i,i<n->(f i).length+sep.length<=b i):(Lib.join ((List.range n).map f) sep).length<=sumN b n:=by
 refine Nat.le_trans (join_le _ _) ?_
 rw [List.map_map,zIC]
 exact zFZ h
theorem quote_len (l:List UInt8):(zAx l).length<=6*l.length+2:=by
 have:=zB8 l
 simp only [zAx,List.length_append,List.length_cons,List.length_nil];omega
theorem zBW : ∀ (k:Nat) (d:D),wideD d->(valT k d).length+2<=24*bulkD d
 |0,d,_=>by have:=zAj d;simp [valT];omega
 |k+1,d,hw=>by
  have h1:=(hw.f 1).n
  have hd:=zW d
  have hf:=zAd d 5
  simp only [sumN] at hf
  have h2:=zy (d.f 2)
  have h3:=zr (d.f 3)
  have h4:=zr (d.f 4)
  have t2:=zAF (d.f 2).s
  unfold valT
  split
  . split<;>simp<;>omega
  split
  . have:=zB4 _ h1.1 h1.2;omega
  split
  . have:=quote_len (tx (d.f 2).s);omega
  split
  . omega
  split
  . simp only [List.length_append,List.length_cons,List.length_nil];omega
  split
  . have:=zBD (d.f 3).l.length (fun i=>valT k (gD (d.f 3).l i)) commaT (fun i=>24*bulkD (gD (d.f 3).l i)) fun i hi=>zBW k _ ((hw.f 3).l i)
    rw [zCI,<- zBK] at this
    simp only [List.length_append,List.length_cons,List.length_nil];omega
  split
  . have:=zBD (min (d.f 4).l.length (d.f 3).l.length) (fun i=>tx (gD (d.f 4).l i).s++[58,32]++valT k (gD (d.f 3).l i)) commaT (fun i=>24*bulkD (gD (d.f 4).l i)+24*bulkD (gD (d.f 3).l i)) fun i hi=>by
     have a:=zBW k (gD (d.f 3).l i) ((hw.f 3).l i)
     have b:=zy (gD (d.f 4).l i)
     have c:=zW (gD (d.f 4).l i)
     have e:=zAF (gD (d.f 4).l i).s
     have e':commaT.length=2:=rfl
     simp only [List.length_append,List.length_cons,List.length_nil]
     omega
    rw [zG7,zCI,zCI] at this
    have a1:=zBd (fun i=>bulkD (gD (d.f 4).l i)) (show min (d.f 4).l.length (d.f 3).l.length<=(d.f 4).l.length by omega)
    have a2:=zBd (fun i=>bulkD (gD (d.f 3).l i)) (show min (d.f 4).l.length (d.f 3).l.length<=(d.f 3).l.length by omega)
    rw [<- zBK] at a1 a2
    simp only [List.length_append,List.length_cons,List.length_nil];omega
  . simp;omega
def argT (k:Nat) (a:D):List UInt8:=tx (a.f 0).s++[58,32]++valT k (a.f 1)
def zDu (k:Nat) (l:List D):List UInt8:=Lib.join (l.map (argT k)) commaT
def parT (k:Nat) (l:List D):List UInt8:=if l.length=0 then [] else [40]++zDu k l++[41]
def dirT (k:Nat) (x:D):List UInt8:=[64]++tx (x.f 0).s++parT k (x.f 1).l
def zGI (k:Nat) (l:List D):List UInt8:=Lib.join (l.map (dirT k)) [32]
def zB1 (k:Nat) (l:List D):List UInt8:=if l.length=0 then [] else [32]++zGI k l
theorem zBU (l:List D) (f:D->List UInt8) (sep:List UInt8) (c:Nat) (h : ∀ i,i<l.length->(f (gD l i)).length+sep.length<=c*bulkD (gD l i)):(Lib.join (l.map f) sep).length<=c*bulkL l:=by
 have e:l.map f=(List.range l.length).map fun i=>f (gD l i):=by
  apply List.ext_getElem (by simp)
  intro i h1 h2
  simp [zAQ (l:=l) (i:=i) (by simpa using h1)]
 rw [e,zBK,<- zCI]
 exact zBD _ _ _ _ h
theorem argT_len (k:Nat) (a:D) (h:wideD a):(argT k a).length+2<=28*bulkD a:=by
 have h1:=zBW k (a.f 1) (h.f 1)
 have h2:=zW (a.f 1)
 have h3:=zW a
 have h4:=zy (a.f 0)
 have h5:=zAd a 2
 have h6:=zAF (a.f 0).s
 simp only [sumN] at h5
 simp only [argT,List.length_append,List.length_cons,List.length_nil]
 omega
theorem zEV (k:Nat) (l:List D) (h : ∀ i,wideD (gD l i)):(zDu k l).length<=28*bulkL l:=zBU l _ _ _ fun i _=>argT_len k _ (h i)
theorem zFH (k:Nat) (l:List D) (h : ∀ i,wideD (gD l i)):(parT k l).length<=28*bulkL l+2:=by
 have:=zEV k l h
 unfold parT
 split
 . simp
 . simp only [List.length_append,List.length_cons,List.length_nil];omega
theorem dirT_len (k:Nat) (x:D) (h:wideD x):(dirT k x).length+2<=32*bulkD x:=by
 have h1:=zFH k (x.f 1).l fun i=>(h.f 1).l i
 have h3:=zW x
 have h4:=zy (x.f 0)
 have h5:=zAd x 2
 have h6:=zr (x.f 1)
 have h7:=zAF (x.f 0).s
 simp only [sumN] at h5
 simp only [dirT,List.length_append,List.length_cons,List.length_nil]
 omega
theorem zDD (k:Nat) (l:List D) (h : ∀ i,wideD (gD l i)):(zGI k l).length<=32*bulkL l:=zBU l _ _ _ fun i _=>by have:=dirT_len k _ (h i);simp only [List.length_cons,List.length_nil];omega
theorem zH0 (k:Nat) (l:List D) (h : ∀ i,wideD (gD l i)):(zB1 k l).length<=32*bulkL l+1:=by
 have:=zDD k l h
 unfold zB1
 split
 . simp
 . simp only [List.length_append,List.length_cons,List.length_nil];omega
theorem zEK (ls:List (List UInt8)) (l sep:List UInt8) (h:ls≠[]):Lib.join (ls++[l]) sep=Lib.join ls sep++sep++l:=by
 cases ls with
 |nil=>exact absurd rfl h
 |cons x r =>
  rw [List.cons_append,Lib.join_cons,Lib.join_cons]
  simp [Lib.joinTail]
theorem zFK (ls:List (List UInt8)) (sep:List UInt8) : ∀ m,(Lib.join (ls.take m) sep).length<=(Lib.join ls sep).length:=fun m=>by
 have e:ls=ls.take m++ls.drop m:=(List.take_append_drop m ls).symm
 generalize ls.take m=a at *
 generalize ls.drop m=b at *
 subst e
 cases a with
 |nil=>simp [Lib.join_nil]
 |cons x r =>
  rw [List.cons_append,Lib.join_cons,Lib.join_cons]
  simp [Lib.joinTail]
end
end Go.Proofs.YthjiclhfhjdjpaaGreatDoor
