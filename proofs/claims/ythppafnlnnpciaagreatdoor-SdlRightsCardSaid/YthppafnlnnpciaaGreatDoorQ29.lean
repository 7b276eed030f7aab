import Derived.Shelf.Strings.IndexAnyAll
import Derived.Shelf.Strconv.Escaped
import Derived.Laws.Runes
import Derived.WalkMore
import Derived.Shelf.RegionOpenPlain
import Derived.Lib.OthersKept
import Derived.Test.YthppafnlnnpciaaGreatDoorQ28
set_option maxHeartbeats 8000000
set_option maxRecDepth 1000000
set_option linter.unusedVariables false
set_option linter.unusedSimpArgs false
namespace Go.Proofs.YthppafnlnnpciaaGreatDoor
section
open Go.Shelf Go.RowKit Go.Lib
variable {P:Program} {ρ:Ren}
theorem zEK {l:List UInt8} {b:UInt8} (h : ∀ c∈l,c.toNat<128) (hb:128<=b.toNat):Lib.indexByte l b = -1:=by
 have:l.contains b=false:=by
  rw [Bool.eq_false_iff]
  intro hc
  have:=h _ (List.contains_iff_mem.1 hc);omega
 have h2:=Lib.contains_iff_indexByte l b
 rw [this] at h2
 have h3 : ¬ (0:Int)<=Lib.indexByte l b:=of_decide_eq_false h2.symm
 have h4:=Lib.indexAny_ge [b] l
 rw [Lib.indexAny_one] at h4
 omega
theorem zAw (L:Lays.n152 P ρ) (mixed:P.follows .mixedOrders=true) (s:ByteArray) (r:Int) (w:World) (h0:128<=r) (h1:r≠65533) (hv:Lib.validRune r=true) (_hs:s.size<1000) (hascii : ∀ (j:Nat) b,s.data.toList[j]? = some b->b.toNat<128) :
 Calls P (ρ.f 152) #[.string s,.int .i32 r] w fun e w'=>e = .returned (.int .i64 (-1))/\(w'=w\/w'=w.drew.drew):=by
 have HA:Aside (∀ (j:Nat) b,s.data.toList[j]? = some b->b.toNat<128):=hascii
 clear hascii
 have t3:=L.t3;have a3:=L.a3;have z3:=L.z3;have v3:=L.v3
 have t4:=L.t4;have a4:=L.a4;have z4:=L.z4;have v4:=L.v4
 have t5:=L.t5;have a5:=L.a5;have z5:=L.z5;have v5:=L.v5
 have t9:=L.t9;have a9:=L.a9;have z9:=L.z9;have v9:=L.v9
 have t21:=L.t21;have a21:=L.a21;have z21:=L.z21;have v21:=L.v21
 have e137 : ∀ args w,(callFunc (ρ.f 137) args).run P w = .ok (.enter (ρ.f 137) args) w:=enters_of L.f137 (by kernel_rfl) rfl
 have e119 : ∀ args w,(callFunc (ρ.f 119) args).run P w = .ok (.enter (ρ.f 119) args) w:=enters_of L.f119 (by kernel_rfl) rfl
 have n1:decide (r<128)=false:=decide_eq_false (by omega)
 have n0:(0:Int)<=r:=by omega
 have n01:decide ((0:Int)<=r)=true:=decide_eq_true n0
 have n3 : ¬ r<128:=by omega
 have n2:(r==65533)=false:=beq_eq_false_iff_ne.2 h1
 have hvu:Utf8.valid r=true:=by rw [validRune_eq];exact hv
 obtain ⟨m1,m2,m3⟩:=encode_facts r hvu h0
 have hconv : ∀ w,(convert (ρ.t 21) (ρ.t 9) (.int .i32 r)).run P w = .ok (.string (Utf8.encode r)) w:=fun w=>run_convert_int_string w _ _ _ _ (by rw [t21];rfl) t9
 generalize Utf8.encode r=rs at hconv m1 m2 m3
 obtain ⟨k,hk⟩ : ∃ k,rs.size=k+1:=⟨rs.size-1,by omega⟩
 have hw1:IntKind.i64.wrap ((rs.size:Int)-1)=(k:Int):=by rw [Go.wrap_small _ (by omega) (by omega)];omega
 go_enter L.f152,Body.n152_ntmps ρ
 go_wp2_with (first
  |(go_at_fn (ρ.f 119);refine (Any.utf8_ValidRune { L with } _ _).mono ?_;rintro e w' ⟨rfl,hw⟩;rw [hw,hv])
  |(go_at_fn (ρ.f 137);refine (Any.strings_IndexByte { L with } _ _ _).mono ?_;rintro e w' ⟨rfl,hw⟩;rw [hw]))
 all_goals (try go_step3)
 all_goals go_wp2_with (first
  |(go_at_fn (ρ.f 137);refine (Any.strings_IndexByte { L with } _ _ _).mono ?_;rintro e w' ⟨rfl,hw⟩;rw [hw]))
 all_goals
  go_loopg [9] 1 (fun _ s9 wx=>s9 = .int .i64 (k:Int)/\wx=w)
  case atStart=>exact ⟨rfl,rfl⟩
  case round =>
   obtain ⟨rfl,rfl⟩:=hrel
   by_cases hi:k<s.size
   . have hiz:(k:Int)<(s.size:Int):=by omega
     obtain ⟨x,hx⟩ : ∃ x:UInt8,s[k]'hi=x:=⟨_,rfl⟩
     have hi2:k<rs.size:=by omega
     obtain ⟨y,hy⟩ : ∃ y:UInt8,rs[k]'hi2=y:=⟨_,rfl⟩
     have hxl:s.data.toList[k]? = some x:=by rw [<- hx];exact Lib.data_getElem? s _ hi
     have hx128:=HA.out _ _ hxl
     have hy128:128<=y.toNat:=by
      have:=m3 (by omega)
      have e:rs.size-1=k:=by omega
      simp only [e] at this
      rw [hy] at this;exact this
     have hkz:(k:Int)<(rs.size:Int):=by omega
     have hsl:(k:Int)+1<=(s.size:Int):=by omega
     have hsl2 : ¬ (s.size:Int)<(k:Int)+1:=by omega
     have hk0 : ¬ (k:Int)+1<0:=by omega
     have hk1:(0:Int)<=(k:Int)+1:=by omega
     have hwr:IntKind.i64.wrap ((k:Int)+1)=(k:Int)+1:=Go.wrap_small _ (by omega) (by omega)
     have hxy:((x.toNat:Int)==(y.toNat:Int))=false:=beq_eq_false_iff_ne.2 (by omega)
     have hidx:Lib.indexByte (List.take (s.size-(k+1)) (List.drop (k+1) s.data.toList)) y = -1:=zEK (fun c hc=>by
      obtain ⟨j,hj⟩:=List.getElem?_of_mem (List.mem_of_mem_drop (List.mem_of_mem_take hc))
      exact HA.out j c hj) hy128
     have hyy:((y.toNat:Int)).toNat.toUInt8=y:=by simp
     have hidx2:Lib.indexByte (s.extract (k+1) s.size).data.toList ((y.toNat:Int)).toNat.toUInt8 = -1:=by
      rw [hyy]
      exact zEK (fun c hc=>by
       obtain ⟨j,hj⟩:=List.getElem?_of_mem (mem_extract hc)
       exact HA.out j c hj) hy128
     go_wp2
     go_step3
     go_wp2
     go_region_o
     go_wp2
     go_region_with_o (go_at_fn (ρ.f 137);refine (Any.strings_IndexByte { L with } _ _ _).mono ?_;rintro e w' ⟨rfl,hw⟩;rw [hw];rw [hidx2])
     go_wp2
     simp only [Exit.noGoto_ret,Exit.then,Exit.inBlock]
     go_ret
     exact ⟨rfl,.inr rfl⟩
   . have hiz : ¬ (k:Int)<(s.size:Int):=by omega
     go_wp2
     go_ret
     exact ⟨rfl,.inl rfl⟩
theorem get_at (s:ByteArray) (k:Nat) (hk:k<s.size):s.get! k=s[k]'hk:=by
 simp [ByteArray.get!,getElem!_pos,hk]
 rfl
theorem zJC (s:ByteArray) (i:Nat) (h:i<s.size) (h2:128<=(s[i]'h).toNat):128<=(Utf8.decode s i).1/\Utf8.valid ((Utf8.decode s i).1:Int)=true/\1<=(Utf8.decode s i).2/\i+(Utf8.decode s i).2<=s.size /\ ∀ j,i<=j->j<i+(Utf8.decode s i).2->128<=(s.get! j).toNat:=by
 have g0:(s.get! (i+0)).toNat=(s[i]'h).toNat:=by rw [Nat.add_zero,get_at s i h]
 have g0':128<=(s.get! i).toNat:=by rw [get_at s i h];exact h2
 have lt : ∀ k,(s.get! k).toNat<256:=fun k=>UInt8.toNat_lt _
 have one : ∀ j,i<=j->j<i+1->128<=(s.get! j).toNat:=fun j h1 h3=>by
  obtain rfl:j=i:=by omega
  exact g0'
 unfold Utf8.decode
 simp only [Nat.add_zero,Bool.and_eq_true,decide_eq_true_eq,beq_iff_eq,ge_iff_le]
 generalize hb0:(s.get! i).toNat=b0 at *
 have l1:=lt (i+1)
 have l2:=lt (i+2)
 have l3:=lt (i+3)
 have ev : ∀ c:Nat,((128<=c/\c<55296)\/(57344<=c/\c<=1114111))->Utf8.valid (c:Int)=true:=fun c hc=>by
  unfold Utf8.valid
  simp
  rcases hc with hc | hc<;>omega
 rw [if_neg (by omega)]
 have cas : ∀ n,(∀ k,1<=k->k<n->128<=(s.get! (i+k)).toNat) -> ∀ j,i<=j->j<i+n->128<=(s.get! j).toNat:=fun n hn j h1 h3=>by
  by_cases e:j=i
  . subst e;rw [hb0];exact g0'
  . have:=hn (j-i) (by omega) (by omega)
    rwa [show i+(j-i)=j by omega] at this
 split
 . rename_i hc
   split
   . exact ⟨by omega,ev _ (by omega),by omega,by omega,cas 2 fun k h1 h3=>by
      obtain rfl:k=1:=by omega
      omega⟩
   . exact ⟨by decide,by decide,by omega,by omega,one⟩
 . split
   . rename_i hc
     split
     . rename_i hv
       refine ⟨by omega,hv.2,by omega,by omega,cas 3 fun k h1 h3 => ?_⟩
       obtain rfl | rfl:k=1\/k=2:=by omega
       all_goals omega
     . exact ⟨by decide,by decide,by omega,by omega,one⟩
   . split
     . rename_i hc
       split
       . rename_i hv
         refine ⟨by omega,hv.2,by omega,by omega,cas 4 fun k h1 h3 => ?_⟩
         obtain rfl | rfl | rfl:k=1\/k=2\/k=3:=by omega
         all_goals omega
       . exact ⟨by decide,by decide,by omega,by omega,one⟩
     . exact ⟨by decide,by decide,by omega,by omega,one⟩
theorem zCJ (L:Lays.n152 P ρ) (s:ByteArray) (w:World) (hascii : ∀ (j:Nat) b,s.data.toList[j]? = some b->b.toNat<128) :
 Calls P (ρ.f 152) #[.string s,.int .i32 65533] w fun e w'=>e = .returned (.int .i64 (-1))/\w'=w.iter s s.size:=by
 have HA:Aside (∀ (j:Nat) b,s.data.toList[j]? = some b->b.toNat<128):=hascii
 clear hascii
 have t3:=L.t3;have a3:=L.a3;have z3:=L.z3;have v3:=L.v3
 have t4:=L.t4;have a4:=L.a4;have z4:=L.z4;have v4:=L.v4
 have t5:=L.t5;have a5:=L.a5;have z5:=L.z5;have v5:=L.v5
 have t9:=L.t9;have a9:=L.a9;have z9:=L.z9;have v9:=L.v9
 have t21:=L.t21;have a21:=L.a21;have z21:=L.z21;have v21:=L.v21
 go_enter L.f152,Body.n152_ntmps ρ
 go_wp2
 go_loopg [5,6] s.size (fun g _ _ wx => ∃ i:Nat,i+g=s.size/\wx=w.iter s i)
 case atStart=>exact ⟨0,by omega,rfl⟩
 case round =>
  obtain ⟨i,hig,rfl⟩:=hrel
  cases gk with
  |zero =>
   obtain rfl:i=s.size:=by omega
   have hnx:=run_next_end (P:=P) w s s.size
   go_wp2
   go_ret
   exact ⟨rfl,rfl⟩
  |succ g =>
   have hi:i<s.size:=by omega
   obtain ⟨x,hx⟩ : ∃ x:UInt8,s[i]'hi=x:=⟨_,rfl⟩
   have hxl:s.data.toList[i]? = some x:=by rw [<- hx];exact Lib.data_getElem? s i hi
   have hx128:x.toNat<128:=HA.out i x hxl
   have hnx:=fun ty=>run_next_ascii (P:=P) w s i ty hi (by rw [hx];exact hx128)
   rw [hx] at hnx
   have hne:((x.toNat:Int)==65533)=false:=beq_eq_false_iff_ne.2 (by omega)
   have hne2 : ¬ (x.toNat:Int)=65533:=by omega
   clear hxl hx
   go_wp2
   go_roundg g
   case measure=>omega
   case rel=>exact ⟨i+1,by omega,rfl⟩
theorem zBe (L:Lays.n151 P ρ) (mixed:P.follows .mixedOrders=true) (s:ByteArray) (r:Int) (w:World) (h0:128<=r) (h1:r≠65533) (hv:Lib.validRune r=true) (hs:s.size<1000) (hascii : ∀ (j:Nat) b,s.data.toList[j]? = some b->b.toNat<128) :
 Calls P (ρ.f 151) #[.string s,.int .i32 r] w fun e w'=>e = .returned (.bool false)/\(w'=w\/w'=w.drew.drew):=by
 have t3:=L.t3;have a3:=L.a3;have z3:=L.z3;have v3:=L.v3
 have t4:=L.t4;have a4:=L.a4;have z4:=L.z4;have v4:=L.v4
 have t9:=L.t9;have a9:=L.a9;have z9:=L.z9;have v9:=L.v9
 have t21:=L.t21;have a21:=L.a21;have z21:=L.z21;have v21:=L.v21
 have e152 : ∀ args w,(callFunc (ρ.f 152) args).run P w = .ok (.enter (ρ.f 152) args) w:=enters_of L.f152 (by kernel_rfl) rfl
 have hm:=zAw { L with } mixed s r w h0 h1 hv hs hascii
 clear hascii
 go_enter L.f151,Body.n151_ntmps ρ
 go_wp2_with (go_at_fn (ρ.f 152);refine hm.mono ?_;rintro e w' ⟨rfl,hw⟩)
 go_ret
 exact ⟨rfl,hw⟩
theorem zEM {B:Nat} {a w:World} (h:Go.RowKit.Below B a w) {k:Nat} (hk:B<=k) (s:ByteArray) (p:Nat):Go.RowKit.Below B a (w.iterAt k s p):=
 h.trans ⟨rfl,rfl,rfl,by simp [World.iterAt],fun j hj=>by
  show (w.heap.setIfInBounds k _)[j]? = _
  rw [Array.getElem?_setIfInBounds,if_neg (by omega)]⟩
theorem NoAny.jump {s:ByteArray} {chars:List UInt8} {i n:Nat} (h:Lib.NoAny s.data.toList chars i) (hc : ∀ b∈chars,b.toNat<128) (hn:i+n<=s.size) (hb : ∀ j,i<=j->j<i+n->128<=(s.get! j).toNat):Lib.NoAny s.data.toList chars (i+n):=by
 have : ∀ m,m<=n->Lib.NoAny s.data.toList chars (i+m):=fun m=>by
  induction m with
  |zero=>exact fun _=>h
  |succ m ih =>
   intro hm
   have hlt:i+m<s.size:=by omega
   refine (ih (by omega)).succ (x:=s[i+m]) (Lib.data_getElem? s _ hlt) ?_
   rw [Bool.eq_false_iff]
   intro hx
   have h1:=hc _ (List.contains_iff_mem.1 hx)
   have h2:=hb (i+m) (by omega) (by omega)
   rw [get_at s _ hlt] at h2
   omega
 exact this n (Nat.le_refl _)
theorem zCP (L:Lays.n153 P ρ) (mixed:P.follows .mixedOrders=true) (s chars:ByteArray) (w:World) (h2:2<=chars.size) (hcs:chars.size<1000) (h8:s.size<=8) (hascii : ∀ (j:Nat) b,chars.data.toList[j]? = some b->b.toNat<128) :
 Calls P (ρ.f 153) #[.string s,.string chars] w fun e w'=>e = .returned (.int .i64 (Lib.indexAny s.data.toList chars.data.toList))/\Below w.heap.size w w':=by
 have HA:Aside (∀ b∈chars.data.toList,b.toNat<128):=fun b hb=>by
  obtain ⟨j,hj⟩:=List.getElem?_of_mem hb
  exact hascii j b hj
 have hrune : ∀ (c:Int) (wq:World),128<=c->Lib.validRune c=true->Calls P (ρ.f 152) #[.string chars,.int .i32 c] wq fun e w'=>e = .returned (.int .i64 (-1))/\Below wq.heap.size wq w':=fun c wq h1 hv=>by
  by_cases e:c=65533
  . subst e
    refine (zCJ { L with } chars wq hascii).mono ?_
    rintro e w' ⟨rfl,rfl⟩
    exact ⟨rfl,(Below.refl _ _).alloc (Nat.le_refl _) _⟩
  . refine (zAw { L with } mixed chars c wq h1 e hv hcs hascii).mono ?_
    rintro e w' ⟨rfl,rfl | rfl⟩
    . exact ⟨rfl,Below.refl _ _⟩
    . exact ⟨rfl,(Below.refl _ _).drew.drew⟩
 clear hascii
 have hemp:chars.toList.isEmpty=false:=by
  rw [Lib.toList_data]
  cases h:chars.data.toList with
  |nil=>have:=Lib.size_eq chars;rw [h,List.length_nil] at this;omega
  |cons _ _=>rfl
 have hn1:((chars.size:Int)==1)=false:=beq_eq_false_iff_ne.2 (by omega)
 have h8z:decide ((8:Int)<(s.size:Int))=false:=decide_eq_false (by omega)
 have t3:=L.t3;have a3:=L.a3;have z3:=L.z3;have v3:=L.v3
 have t4:=L.t4;have a4:=L.a4;have z4:=L.z4;have v4:=L.v4
 have t5:=L.t5;have a5:=L.a5;have z5:=L.z5;have v5:=L.v5
 have t9:=L.t9;have a9:=L.a9;have z9:=L.z9;have v9:=L.v9
 have t21:=L.t21;have a21:=L.a21;have z21:=L.z21;have v21:=L.v21
 have e152 : ∀ args w,(callFunc (ρ.f 152) args).run P w = .ok (.enter (ρ.f 152) args) w:=enters_of L.f152 (by kernel_rfl) rfl
 have e226 : ∀ args w,(callFunc (ρ.f 226) args).run P w = .ok (.enter (ρ.f 226) args) w:=enters_of L.f226 (by kernel_rfl) rfl
 go_enter L.f153,Body.n153_ntmps ρ
 go_wp2_with (go_at_fn (ρ.f 226);refine (Any.strings_shouldUseASCIISet { L with } _ _).mono ?_;rintro e w' ⟨rfl,hw⟩;rw [hw,h8z])
 go_loopg [9,10] s.size (fun g _ _ wx => ∃ i:Nat,i+g=s.size/\wx.heap[w.heap.size]? = some (.stringIter s i)/\Below w.heap.size w wx/\Lib.NoAny s.data.toList chars.data.toList i)
 case atStart=>exact ⟨0,by omega,World.iter_heap _ _ _,(Below.refl _ _).alloc (Nat.le_refl _) _,Lib.NoAny.zero _ _⟩
 case round =>
  obtain ⟨i,hig,hit,hbl,hno⟩:=hrel
  have HN:Aside (Lib.NoAny s.data.toList chars.data.toList i):=hno
  have HB:Aside (Below w.heap.size w wr):=hbl
  clear hno hbl
  cases gk with
  |zero =>
   obtain rfl:i=s.size:=by omega
   have hnx:=fun ty=>run_next_end_at (P:=P) wr w.heap.size s s.size ty hit (by omega)
   clear hit
   go_wp2
   go_ret
   exact ⟨by rw [Lib.indexAny_none (by rw [<- Lib.size_eq];exact HN.out)];rfl,HB.out⟩
  |succ g =>
   have hi:i<s.size:=by omega
   obtain ⟨x,hx⟩ : ∃ x:UInt8,s[i]'hi=x:=⟨_,rfl⟩
   have hxl:s.data.toList[i]? = some x:=by rw [<- hx];exact Lib.data_getElem? s i hi
   by_cases hx128:x.toNat<128
   . have hnx:=fun ty=>run_next_ascii_at (P:=P) wr w.heap.size s i ty hit hi (by rw [hx];exact hx128)
     have hit2:=iterAt_heap wr w.heap.size s i (i+1) hit
     have HI:Aside ((wr.iterAt w.heap.size s (i+1)).heap[w.heap.size]? = some (.stringIter s (i+1))/\Below w.heap.size w (wr.iterAt w.heap.size s (i+1))):=⟨hit2,zEM HB.out (Nat.le_refl _) _ _⟩
     clear hit2 hit
     rw [hx] at hnx
     have Hx:Aside (s.data.toList[i]? = some x):=hxl
     clear hxl hx
     have hcon:=Lib.contains_iff_indexByte chars.data.toList x
     have hback:((x.toNat:Int)).toNat.toUInt8=x:=by simp
     cases hin:chars.data.toList.contains x
     . rw [hin] at hcon
       have hlt : ¬ ((0:Int)<=Lib.indexByte chars.data.toList x):=of_decide_eq_false hcon.symm
       clear hcon
       go_wp2_with (go_at_fn (ρ.f 152);refine (Any.strings_IndexRune_ascii { L with } _ _ _ (by omega) (by omega)).mono ?_;rintro e w' ⟨rfl,hw⟩;rw [hw,hback])
       go_roundg g
       case measure=>omega
       case rel=>exact ⟨i+1,by omega,HI.out.1,HI.out.2,HN.out.succ Hx.out hin⟩
     . rw [hin] at hcon
       have hge:(0:Int)<=Lib.indexByte chars.data.toList x:=of_decide_eq_true hcon.symm
       clear hcon
       go_wp2_with (go_at_fn (ρ.f 152);refine (Any.strings_IndexRune_ascii { L with } _ _ _ (by omega) (by omega)).mono ?_;rintro e w' ⟨rfl,hw⟩;rw [hw,hback])
       go_ret
       exact ⟨by rw [Lib.indexAny_hit HN.out Hx.out hin];rfl,HI.out.2⟩
   . obtain ⟨d1,d2,d3,d4,d5⟩:=zJC s i hi (by rw [hx];omega)
     have hnx:=fun ty=>run_next_any_at (P:=P) wr w.heap.size s i ty hit hi
     have hj:Lib.NoAny s.data.toList chars.data.toList (i+(Utf8.decode s i).2):=NoAny.jump HN.out HA.out d4 d5
     have hv:Lib.validRune ((Utf8.decode s i).1:Int)=true:=by rw [validRune_eq] at d2;exact d2
     clear d5 d2
     generalize Utf8.decode s i=q at *
     obtain ⟨c,n⟩:=q
     simp only at hnx hj hv d1 d3 d4
     have hit2:=iterAt_heap wr w.heap.size s i (i+n) hit
     have HI:Aside ((wr.iterAt w.heap.size s (i+n)).heap[w.heap.size]? = some (.stringIter s (i+n))/\Below w.heap.size w (wr.iterAt w.heap.size s (i+n))/\w.heap.size<(wr.iterAt w.heap.size s (i+n)).heap.size):=⟨hit2,zEM HB.out (Nat.le_refl _) _ _,(Array.getElem?_eq_some_iff.1 hit2).1⟩
     have HJ:Aside (Lib.NoAny s.data.toList chars.data.toList (i+n)):=hj
     have hc:=hrune c (wr.iterAt w.heap.size s (i+n)) (by omega) hv
     generalize wr.iterAt w.heap.size s (i+n)=wi at *
     clear hit2 hit hxl hx hj hv hrune
     go_wp2_with (go_at_fn (ρ.f 152);refine hc.mono ?_;rintro e w' ⟨rfl,hw⟩)
     go_roundg (s.size-(i+n))
     case measure=>omega
     case rel=>exact ⟨i+n,by omega,by rw [hw.block _ HI.out.2.2];exact HI.out.1,HI.out.2.1.trans (hw.mono (Nat.le_of_lt HI.out.2.2)),HJ.out⟩
theorem zCO (L:Lays.n153 P ρ) (mixed:P.follows .mixedOrders=true) (hv116 : ∀ w,(zeroValue (ρ.t 116)).run P w = .ok (.agg (Array.replicate 256 (.bool false))) w) (hi116:(P.info? (ρ.t 116)).map (·.size)=some 256) (s chars:ByteArray) (w:World) (h2:2<=chars.size) (hcs:chars.size<1000) (hs:s.size<4294967281) (hascii : ∀ (j:Nat) b,chars.data.toList[j]? = some b->b.toNat<128) :
 Calls P (ρ.f 153) #[.string s,.string chars] w fun e w'=>e = .returned (.int .i64 (Lib.indexAny s.data.toList chars.data.toList))/\Below w.heap.size w w':=by
 by_cases h8:s.size<=8
 . exact zCP L mixed s chars w h2 hcs h8 hascii
 . refine (Any.strings_IndexAny_long L hv116 hi116 s chars w h2 (by omega) hs (by omega) hascii).mono ?_
   rintro e w' ⟨rfl,rfl⟩
   exact ⟨rfl,((Below.refl _ _).alloc (Nat.le_refl _) _).alloc (by simp) _⟩
end
section
open Go.RowKit
attribute [local irreducible] wpList Calls Code.wp AW AWo OpOk seqK zm zo loopK endK AC zh Yld Sub
attribute [local irreducible] ACB ACX ACE absLexG YldG
section
variable {X:Cx} {nn:Nat} {st:Vst nn} {K:Exit->Vst nn->Prop}
theorem zG {c:Operand} {x y:Code} {b:Bool} (hc:ev st c = .c (.bool b)) (hb:b=true) (ht:AW X x st K):AW X (.cond c x y) st K:=ze hc (fun _=>ht) (fun e=>by rw [hb] at e;cases e)
theorem zF {c:Operand} {x y:Code} {b:Bool} (hc:ev st c = .c (.bool b)) (hb:b=false) (ht:AW X y st K):AW X (.cond c x y) st K:=ze hc (fun e=>by rw [hb] at e;cases e) (fun _=>ht)
end
theorem rel_cc {P:Program} {s:Sg} {w:World} {u v:Value} {us:Array Value} (h:relL P s w [.c u,.c v] us.toList):us = #[u,v]:=by
 obtain ⟨l⟩:=us
 match l,h with
 |[],h=>simp [relL] at h
 |[x],h=>simp [relL] at h
 |[x,y],h =>
  simp only [relL,rel,and_true] at h
  obtain ⟨⟨rfl,-⟩,rfl,-⟩:=h
  rfl
 |x::y::z::t,h=>simp [relL] at h
theorem rel_b {P:Program} {s:Sg} {w:World} {b:Bool}:rel P s w (.c (.bool b)) (.bool b):=by rw [rel];exact ⟨rfl,trivial⟩
theorem prefix_ac (s p:ByteArray):AC EN5 Tryz.prog 110 [.c (.string s),.c (.string p)] (.c (.bool (Lib.hasPrefix s.data.toList p.data.toList))):=by
 refine zDt (u:=.bool (Lib.hasPrefix s.data.toList p.data.toList)) fun σ w us hus he => ?_
 obtain rfl:=rel_cc hus
 refine ⟨fun s' w'=>rel_b,(Tryz.strings_HasPrefix s p w).mono ?_⟩
 rintro e w' ⟨rfl,rfl⟩
 exact ⟨rfl,Below.refl _ _⟩
theorem zLa {l:List UInt8} (h : ∀ b∈l,b.toNat<128) : ∀ (j:Nat) b,l[j]? = some b->b.toNat<128:=fun j b hj=>h b (List.mem_of_getElem? hj)
theorem zDB (x:List UInt8) (cs:List UInt8) : -1<=Lib.indexAny x cs/\Lib.indexAny x cs<=x.length:=by
 refine ⟨Lib.indexAny_ge _ _,?_⟩
 induction x with
 |nil=>simp [Lib.indexAny]
 |cons c r ih =>
  unfold Lib.indexAny
  split
  . simp only [List.length_cons];omega
  . split<;>simp only [List.length_cons]<;>omega
theorem indexNl_ac (x:ByteArray) (hx:x.size<=1000000):AC EN5 Tryz.prog 108 [.c (.string x),.c (.string { data:=#[10,13] })] (.c (.int .i64 (Lib.indexAny x.data.toList [10,13]))):=by
 refine zDt (u:=.int .i64 (Lib.indexAny x.data.toList [10,13])) fun σ w us hus he => ?_
 obtain rfl:=rel_cc hus
 have hl:=zDB x.data.toList [10,13]
 have hz:x.data.toList.length=x.size:=(Lib.size_eq x).symm
 have h116:(Tryz.prog.info? (Tryz.lays153_ren.t 116)).map (fun i=>(i.zero,i.size))=some (some (.agg (Array.replicate 256 (.bool false))),256):=by kernel_rfl
 refine ⟨fun s' w'=>zG8 (by omega),(zCO Tryz.lays153 (by kernel_rfl) (zero_of_info h116).1 (zero_of_info h116).2 x { data:=#[10,13] } w (by decide) (by decide) (by omega) (zLa (by decide))).mono ?_⟩
 rintro e w' ⟨rfl,hb⟩
 exact ⟨rfl,hb⟩
def signsT:ByteArray:={ data:=#[33,36,38,40,41,58,61,64,91,93,123,124,125] }
theorem zAA (c:UInt8):AC EN5 Tryz.prog 109 [.c (.string signsT),.c (.int .i32 (c.toNat:Int))] (.c (.bool (signB c))):=by
 refine zDt (u:=.bool (signB c)) fun σ w us hus he => ?_
 obtain rfl:=rel_cc hus
 refine ⟨fun s' w'=>rel_b,?_⟩
 have hc:=c.toNat_lt
 by_cases h:c.toNat<128
 . refine (Tryz.strings_ContainsRune_ascii signsT (c.toNat:Int) w (by omega) (by omega)).mono ?_
   rintro e w' ⟨rfl,rfl⟩
   have hb:((c.toNat:Int)).toNat.toUInt8=c:=by simp
   rw [hb,<- Lib.contains_iff_indexByte]
   exact ⟨rfl,Below.refl _ _⟩
 . have hs:signB c=false:=by
    unfold signB
    rw [Bool.eq_false_iff]
    intro hx
    have:=List.contains_iff_mem.1 hx
    have h3 : ∀ b∈([33,36,38,40,41,58,61,64,91,93,123,124,125]:List UInt8),b.toNat<128:=by decide
    exact h (h3 c this)
   rw [hs]
   refine (zBe Tryz.lays151 (by kernel_rfl) signsT (c.toNat:Int) w (by omega) (by omega) (by unfold Lib.validRune;exact decide_eq_true (by omega)) (by decide) (zLa (by decide))).mono ?_
   rintro e w' ⟨rfl,rfl | rfl⟩
   . exact ⟨rfl,Below.refl _ _⟩
   . exact ⟨rfl,(Below.refl _ _).drew.drew⟩
theorem zJa {s:List UInt8} {k:Nat} (h:k<s.length):skipM false (s.drop k)=if sepB s[k] then skipM false (s.drop (k+1))+1 else if s[k]==35 then skipM true (s.drop (k+1))+1 else 0:=by
 rw [List.drop_eq_getElem_cons h,skipM]
theorem zH9 : ∀ l:List UInt8,skipM true l=if Lib.indexAny l [10,13] = -1 then l.length else (Lib.indexAny l [10,13]).toNat+skipM false (l.drop (Lib.indexAny l [10,13]).toNat)
 |[]=>by simp [skipM,Lib.indexAny]
 |c::r=>by
  have ih:=zH9 r
  have hge:=Lib.indexAny_ge [10,13] r
  unfold Lib.indexAny
  by_cases h:([10,13]:List UInt8).contains c=true
  . rw [if_pos h,if_neg (by decide)]
    show skipM true (c::r)=0+skipM false (c::r)
    have h2:c=10\/c=13:=by simpa using List.contains_iff_mem.1 h
    rcases h2 with rfl | rfl<;>simp [skipM,sepB]
  . rw [if_neg h]
    have h2:(c==10||c==13)=false:=by
     rw [Bool.eq_false_iff]
     intro hx
     apply h
     rw [List.contains_iff_mem]
     simpa using hx
    rw [skipM,h2]
    simp only [Bool.false_eq_true,if_false]
    rw [ih]
    by_cases h3:Lib.indexAny r [10,13] = -1
    . rw [if_pos h3,h3];simp
    . have h4:(Lib.indexAny r [10,13] == -1)=false:=by simpa using h3
      rw [if_neg h3,h4]
      simp only [Bool.false_eq_true,if_false]
      obtain ⟨n,hn⟩ : ∃ n:Nat,Lib.indexAny r [10,13]=n:=⟨(Lib.indexAny r [10,13]).toNat,by omega⟩
      rw [hn,if_neg (by omega)]
      have e:((n:Int)+1).toNat=n+1:=by omega
      rw [e,Int.toNat_natCast,List.drop_succ_cons]
      omega
theorem zLB (s:List UInt8) (k:Nat):((bs s).extract ((k:Int)).toNat (bs s).size).data.toList=s.drop k:=by
 have hz:=zZ s
 rw [ByteArray.data_extract,Array.toList_extract,zAG,Int.toNat_natCast,hz]
 simp [List.extract]
 exact List.take_of_length_le (by simp)
noncomputable def HSk (s:List UInt8) (k:Nat):Vst 36:=stS 36 [(0,.c (.string (bs s))),(1,.c (.int .i64 (k:Int)))] []
theorem zAC {s:List UInt8} {k:Nat} (h:k<s.length):zS (bs s) ((k:Int)).toNat=(s[k].toNat:Int):=by
 unfold zS
 rw [Int.toNat_natCast,zEU h]
theorem skip_ac (s:List UInt8) (i:Nat) (hi:i<=s.length) (hs:s.length<=1000000):AC EN5 Tryz.prog 46 [.c (.string (bs s)),.c (.int .i64 (i:Int))] (.c (.int .i64 ((i+skipM false (s.drop i):Nat):Int))):=by
 refine zM 36 Tryz.func46 rfl rfl rfl rfl ?_
 intro s0 w he
 repeat' (first
|refine zA ?_
|refine zB ?_
|refine zH ?_
|apply aw_1
 conv=>whnf
 refine ⟨?_,trivial⟩
|apply s_1
 conv=>whnf;arg 1;arg 4;arg 3;whnf
 refine ⟨?_,?_⟩
|exact trivial)
 refine zf (fun j st => ∃ k,k+j=s.length/\i+skipM false (s.drop i)=k+skipM false (s.drop k)/\Sub (cx EN5 Tryz.prog s0 w he) st (HSk s k)) (s.length-i) ⟨i,by omega,rfl,?_⟩ ?_
 . exact Sub.live ⟨rfl,rfl,trivial⟩ trivial
 rintro j st ⟨k,hkj,hI,hs2⟩
 refine zi hs2 ?_
 clear hs2
 rw [hI]
 clear hI
 have hz:=zZ s
 have hex:((bs s).extract ((k:Int)).toNat (bs s).size).size<=1000000:=by rw [ByteArray.size_extract];omega
 have hix:=indexNl_ac ((bs s).extract ((k:Int)).toNat (bs s).size) hex
 by_cases hk:k<s.length
 . have f0:decide ((k:Int)<((bs s).size:Nat))=true:=decide_eq_true (by omega)
   have hbt:=zAC hk
   have hsk:=zJa hk
   have hdr:s.drop k=s[k]::s.drop (k+1):=List.drop_eq_getElem_cons hk
   generalize s[k]=c at hbt hsk hdr
   have q : ∀ n:Nat,n<256->(zS (bs s) ((k:Int)).toNat==(n:Int))=(c==UInt8.ofNat n):=fun n hn=>by rw [hbt];exact zBC c n hn
   by_cases h32:c=32
   . have f32:(zS (bs s) ((k:Int)).toNat==32)=true:=(q 32 (by omega)).trans (by rw [h32];rfl)
     have hs1:skipM false (s.drop k)=skipM false (s.drop (k+1))+1:=by rw [hsk,h32];rfl
     repeat' (first
|apply zG
 . conv=>lhs;whnf
 . assumption
|refine zA ?_
|refine zB ?_
|refine zH ?_
|refine zW ?_
|apply aw_1
 conv=>whnf
 refine ⟨?_,trivial⟩
|apply s_1
 conv=>whnf;arg 1;arg 4;arg 3;whnf
 refine ⟨?_,?_⟩
|exact trivial)
     all_goals first
      |exact zR (by omega)
      |exact ⟨by kernel_rfl,by omega,by rw [zZ];omega⟩
      |exact (show Tryz.prog.underlying _=some TypeDesc.string by kernel_rfl)
      |refine zI (j':=j-1) (by omega) ⟨k+1,by omega,by omega,Sub.live ⟨rfl,rfl,trivial⟩ trivial⟩
   have f32:(zS (bs s) ((k:Int)).toNat==32)=false:=(q 32 (by omega)).trans (by simpa using h32)
   by_cases h9:c=9
   . have f9:(zS (bs s) ((k:Int)).toNat==9)=true:=(q 9 (by omega)).trans (by rw [h9];rfl)
     have hs1:skipM false (s.drop k)=skipM false (s.drop (k+1))+1:=by rw [hsk,h9];rfl
     repeat' (first
|apply zG
 . conv=>lhs;whnf
 . assumption
|apply zF
 . conv=>lhs;whnf
 . assumption
|refine zA ?_
|refine zB ?_
|refine zH ?_
|refine zW ?_
|apply aw_1
 conv=>whnf
 refine ⟨?_,trivial⟩
|apply s_1
 conv=>whnf;arg 1;arg 4;arg 3;whnf
 refine ⟨?_,?_⟩
|exact trivial)
     all_goals first
      |exact zR (by omega)
      |exact ⟨by kernel_rfl,by omega,by rw [zZ];omega⟩
      |exact (show Tryz.prog.underlying _=some TypeDesc.string by kernel_rfl)
      |refine zI (j':=j-1) (by omega) ⟨k+1,by omega,by omega,Sub.live ⟨rfl,rfl,trivial⟩ trivial⟩
   have f9:(zS (bs s) ((k:Int)).toNat==9)=false:=(q 9 (by omega)).trans (by simpa using h9)
   by_cases h10:c=10
   . have f10:(zS (bs s) ((k:Int)).toNat==10)=true:=(q 10 (by omega)).trans (by rw [h10];rfl)
     have hs1:skipM false (s.drop k)=skipM false (s.drop (k+1))+1:=by rw [hsk,h10];rfl
     repeat' (first
|apply zG
 . conv=>lhs;whnf
 . assumption
|apply zF
 . conv=>lhs;whnf
 . assumption
|refine zA ?_
|refine zB ?_
|refine zH ?_
|refine zW ?_
|apply aw_1
 conv=>whnf
 refine ⟨?_,trivial⟩
|apply s_1
 conv=>whnf;arg 1;arg 4;arg 3;whnf
 refine ⟨?_,?_⟩
|exact trivial)
     all_goals first
      |exact zR (by omega)
      |exact ⟨by kernel_rfl,by omega,by rw [zZ];omega⟩
      |exact (show Tryz.prog.underlying _=some TypeDesc.string by kernel_rfl)
      |refine zI (j':=j-1) (by omega) ⟨k+1,by omega,by omega,Sub.live ⟨rfl,rfl,trivial⟩ trivial⟩
   have f10:(zS (bs s) ((k:Int)).toNat==10)=false:=(q 10 (by omega)).trans (by simpa using h10)
   by_cases h13:c=13
   . have f13:(zS (bs s) ((k:Int)).toNat==13)=true:=(q 13 (by omega)).trans (by rw [h13];rfl)
     have hs1:skipM false (s.drop k)=skipM false (s.drop (k+1))+1:=by rw [hsk,h13];rfl
     repeat' (first
|apply zG
 . conv=>lhs;whnf
 . assumption
|apply zF
 . conv=>lhs;whnf
 . assumption
|refine zA ?_
|refine zB ?_
|refine zH ?_
|refine zW ?_
|apply aw_1
 conv=>whnf
 refine ⟨?_,trivial⟩
|apply s_1
 conv=>whnf;arg 1;arg 4;arg 3;whnf
 refine ⟨?_,?_⟩
|exact trivial)
     all_goals first
      |exact zR (by omega)
      |exact ⟨by kernel_rfl,by omega,by rw [zZ];omega⟩
      |exact (show Tryz.prog.underlying _=some TypeDesc.string by kernel_rfl)
      |refine zI (j':=j-1) (by omega) ⟨k+1,by omega,by omega,Sub.live ⟨rfl,rfl,trivial⟩ trivial⟩
   have f13:(zS (bs s) ((k:Int)).toNat==13)=false:=(q 13 (by omega)).trans (by simpa using h13)
   by_cases h44:c=44
   . have f44:(zS (bs s) ((k:Int)).toNat==44)=true:=(q 44 (by omega)).trans (by rw [h44];rfl)
     have hs1:skipM false (s.drop k)=skipM false (s.drop (k+1))+1:=by rw [hsk,h44];rfl
     repeat' (first
|apply zG
 . conv=>lhs;whnf
 . assumption
|apply zF
 . conv=>lhs;whnf
 . assumption
|refine zA ?_
|refine zB ?_
|refine zH ?_
|refine zW ?_
|apply aw_1
 conv=>whnf
 refine ⟨?_,trivial⟩
|apply s_1
 conv=>whnf;arg 1;arg 4;arg 3;whnf
 refine ⟨?_,?_⟩
|exact trivial)
     all_goals first
      |exact zR (by omega)
      |exact ⟨by kernel_rfl,by omega,by rw [zZ];omega⟩
      |exact (show Tryz.prog.underlying _=some TypeDesc.string by kernel_rfl)
      |refine zI (j':=j-1) (by omega) ⟨k+1,by omega,by omega,Sub.live ⟨rfl,rfl,trivial⟩ trivial⟩
   have f44:(zS (bs s) ((k:Int)).toNat==44)=false:=(q 44 (by omega)).trans (by simpa using h44)
   have hns:sepB c=false:=by simp [sepB,h32,h9,h10,h13,h44]
   by_cases h35:c=35
   . have f35:(zS (bs s) ((k:Int)).toNat==35)=true:=(q 35 (by omega)).trans (by rw [h35];rfl)
     have hx:=zLB s k
     have hcm:skipM false (s.drop k)=skipM true (s.drop k):=by rw [hsk,hns,hdr,h35];rfl
     have hco:=zH9 (s.drop k)
     rw [<- hcm] at hco
     have hra:=zDB (s.drop k) [10,13]
     rw [List.length_drop] at hra
     have h1:Lib.indexAny (s.drop k) [10,13]≠0:=by
      rw [hdr,h35]
      have:=Lib.indexAny_ge [10,13] (s.drop (k+1))
      unfold Lib.indexAny
      rw [if_neg (by decide)]
      split
      . decide
      . rename_i hq
        have hq2 : ¬ Lib.indexAny (s.drop (k+1)) [10,13] = -1:=by simpa using hq
        omega
     rw [hx] at hix
     repeat' (first
|apply zG
 . conv=>lhs;whnf
 . assumption
|apply zF
 . conv=>lhs;whnf
 . assumption
|refine zA ?_
|refine zB ?_
|refine zH ?_
|refine zW ?_
|apply aw_1
 conv=>whnf
 refine ⟨?_,trivial⟩
|apply s_1
 conv=>whnf;arg 1;arg 4;arg 3;whnf
 refine ⟨?_,?_⟩
|apply zY rfl
 . conv=>lhs;whnf
 . conv=>lhs;whnf
 . first | exact hix
|refine ze (by conv=>lhs;whnf) ?_ ?_<;>intro hb
|exact trivial)
     . obtain ⟨n,hn⟩ : ∃ n:Nat,Lib.indexAny (s.drop k) [10,13]=n:=⟨(Lib.indexAny (s.drop k) [10,13]).toNat,by simp at hb;omega⟩
       rw [hn] at hco hra h1 |-
       rw [if_neg (by omega),Int.toNat_natCast,List.drop_drop] at hco
       refine zI (j':=j-n) (by omega) ⟨k+n,by omega,by omega,Sub.live ⟨rfl,rfl,trivial⟩ trivial⟩
     . exact zR (by omega)
     . have h2:Lib.indexAny (s.drop k) [10,13] = -1:=by simp at hb;omega
       rw [if_pos h2,List.length_drop] at hco
       refine zI (j':=0) (by omega) ⟨s.length,by omega,by rw [hco,List.drop_length];show k+(s.length-k)=s.length+0;omega,Sub.live ⟨rfl,?_,trivial⟩ trivial⟩
       show V.c (.int .i64 ((bs s).size:Nat))=V.c (.int .i64 (s.length:Nat))
       rw [hz]
     all_goals first
      |exact (show Tryz.prog.underlying _=some TypeDesc.string by kernel_rfl)
      |exact ⟨by kernel_rfl,by omega,by rw [zZ];omega⟩
   have f35:(zS (bs s) ((k:Int)).toNat==35)=false:=(q 35 (by omega)).trans (by simpa using h35)
   have hs1:skipM false (s.drop k)=0:=by rw [hsk,hns];simp [h35]
   repeat' (first
|apply zG
 . conv=>lhs;whnf
 . assumption
|apply zF
 . conv=>lhs;whnf
 . assumption
|refine zA ?_
|refine zB ?_
|refine zH ?_
|apply aw_1
 conv=>whnf
 refine ⟨?_,trivial⟩
|apply s_1
 conv=>whnf;arg 1;arg 4;arg 3;whnf
 refine ⟨?_,?_⟩
|refine zN ?_
|refine zP ?_
|refine zg ?_
|refine zE ?_
|refine ⟨_,by conv=>lhs;whnf;arg 2;whnf,?_⟩;conv=>rhs;whnf
|exact trivial)
   . rw [hs1];rfl
   all_goals first
    |exact (show Tryz.prog.underlying _=some TypeDesc.string by kernel_rfl)
    |exact ⟨by kernel_rfl,by omega,by rw [zZ];omega⟩
 . have f0:decide ((k:Int)<((bs s).size:Nat))=false:=decide_eq_false (by omega)
   have hs1:skipM false (s.drop k)=0:=by rw [List.drop_of_length_le (by omega)];rfl
   repeat' (first
|apply zF
 . conv=>lhs;whnf
 . assumption
|refine zA ?_
|refine zB ?_
|refine zH ?_
|apply aw_1
 conv=>whnf
 refine ⟨?_,trivial⟩
|apply s_1
 conv=>whnf;arg 1;arg 4;arg 3;whnf
 refine ⟨?_,?_⟩
|refine zL ?_
|refine zJ rfl ?_
|refine zK ?_
|refine zE ?_
|refine ⟨_,by conv=>lhs;whnf;arg 2;whnf,?_⟩;conv=>rhs;whnf
|exact trivial)
   . rw [hs1];rfl
   . exact (show Tryz.prog.underlying _=some TypeDesc.string by kernel_rfl)
end
section
open Go.RowKit
set_option linter.unusedSectionVars false
attribute [local irreducible] wpList Calls Code.wp AW AWo OpOk seqK zm zo loopK endK AC zh Yld Sub
attribute [local irreducible] ACB ACX ACE absLexG YldG
def tupR (t:Tok) (k:Nat) (e:Int):V:=.tup [.agg (tokC t),.c (.int .i64 (k:Int)),.c (.int .i64 e)]
def failR:V:=tupR ⟨0,[],0⟩ 0 3
def readV (l:List UInt8) (i:Nat):V:=
 match l with
 |[] => .any
 |c::r =>
  if signB c then tupR ⟨1,[c],i⟩ (i+1) 0
  else if c==46 then (if r.take 2=[46,46] then tupR ⟨1,[46,46,46],i⟩ (i+3) 0 else failR)
  else if c==45||digU c then tupR ⟨3,c::r.take (spanN wrdU r),i⟩ (i+1+spanN wrdU r) (nerU (numU (c::r.take (spanN wrdU r))))
  else if wrdU c then (if spanN wrdU r+1>64 then failR else tupR ⟨2,c::r.take (spanN wrdU r),i⟩ (i+1+spanN wrdU r) 0)
  else if c==34 then
   (match litN r with
   |none=>failR
   |some n=>tupR ⟨4,(unquoteU (c::r.take n)).getD [],i⟩ (i+1+n) (uqE (unquoteU (c::r.take n))))
  else failR
theorem zCg (s:List UInt8) {a b:Nat} (ha:a<=b) (hb:b<=s.length):(bs s).extract a b=bs ((s.drop a).take (b-a)):=by
 apply ByteArray.ext
 rw [ByteArray.data_extract]
 apply Array.ext'
 rw [Array.toList_extract,zAG,zAG]
section
variable {s:List UInt8} {i:Nat} (hi:i<s.length) (hs:s.length<=70000)
include hi hs
theorem read_sign (h:signB s[i]=true):AC EN5 Tryz.prog 47 [.c (.string (bs s)),.c (.int .i64 (i:Int))] (tupR ⟨1,[s[i]],i⟩ (i+1) 0):=by
 have hz:=zZ s
 have hbt:=zAC hi
 have hgd:=zEU hi
 have hdr:s.drop i=s[i]::s.drop (i+1):=List.drop_eq_getElem_cons hi
 have q : ∀ n:Nat,n<256->(zS (bs s) ((i:Int)).toNat==(n:Int))=(s[i]==UInt8.ofNat n):=fun n hn=>by rw [hbt];exact zBC _ n hn
 have hsg:=zAA ((bs s).data.toList.getD ((i:Int)).toNat 0)
 have f0:signB ((bs s).data.toList.getD ((i:Int)).toNat 0)=true:=by rw [Int.toNat_natCast,hgd];exact h
 have hx:(bs s).extract ((i:Int)).toNat (((i:Int)+1)).toNat=bs [s[i]]:=by
  rw [show (((i:Int)+1)).toNat=i+1 by omega,Int.toNat_natCast,zCg s (by omega) (by omega),hdr,Nat.add_sub_cancel_left];rfl
 refine zM 116 Tryz.func47 rfl rfl rfl rfl ?_
 intro s0 w he
 repeat' (first
|apply zG
 . conv=>lhs;whnf
 . assumption
|refine zA ?_
|refine zB ?_
|refine zH ?_
|apply aw_1
 conv=>whnf
 refine ⟨?_,trivial⟩
|apply s_1
 conv=>whnf;arg 1;arg 4;arg 3;whnf
 refine ⟨?_,?_⟩
|apply zY rfl
 . conv=>lhs;whnf
 . conv=>lhs;whnf
 . first | exact hsg
|apply zT rfl rfl rfl
 . conv=>lhs;whnf
 . conv=>lhs;whnf;arg 1;whnf
 . conv=>lhs;whnf;arg 1;whnf
 . exact ⟨by kernel_rfl,by kernel_rfl⟩
 . rfl
|refine zN ?_
|refine zP ?_
|refine zE ?_
|exact trivial)
 . refine ⟨_,_,_,rfl,rfl,rfl,?_⟩
   show _=V.tup [.agg [.c (.int .i64 1),.c (.string ((bs s).extract ((i:Int)).toNat (((i:Int)+1)).toNat)),.c (.int .i64 (i:Int))],.c (.int .i64 ((i:Int)+1)),.c (.int .i64 0)]
   rw [hx];rfl
 all_goals first
  |exact zR (by omega)
  |exact ⟨by kernel_rfl,by omega,by omega⟩
  |exact ⟨by kernel_rfl,by omega,by omega,by omega⟩
  |(rw [hbt];exact zAT _)
  |exact (show Tryz.prog.underlying _=some TypeDesc.string by kernel_rfl)
  |skip
theorem read_dots (h0:signB s[i]=false) (h:s[i]=46) (b:Bool) (hb:Lib.hasPrefix (s.drop i) [46,46,46]=b) (hl:b=true->i+3<=s.length):AC EN5 Tryz.prog 47 [.c (.string (bs s)),.c (.int .i64 (i:Int))] (if b=true then tupR ⟨1,[46,46,46],i⟩ (i+3) 0 else failR):=by
 have hz:=zZ s
 have hbt:=zAC hi
 have hgd:=zEU hi
 have hdr:s.drop i=s[i]::s.drop (i+1):=List.drop_eq_getElem_cons hi
 have q : ∀ n:Nat,n<256->(zS (bs s) ((i:Int)).toNat==(n:Int))=(s[i]==UInt8.ofNat n):=fun n hn=>by rw [hbt];exact zBC _ n hn
 have hsg:=zAA ((bs s).data.toList.getD ((i:Int)).toNat 0)
 have f0:signB ((bs s).data.toList.getD ((i:Int)).toNat 0)=false:=by rw [Int.toNat_natCast,hgd];exact h0
 have f1:(zS (bs s) ((i:Int)).toNat==46)=true:=(q 46 (by omega)).trans (by rw [h];rfl)
 have hpr:=prefix_ac ((bs s).extract ((i:Int)).toNat (bs s).size) { data:=#[46,46,46] }
 rw [zLB] at hpr
 have hb2:Lib.hasPrefix (s.drop i) ({ data:=#[46,46,46] }:ByteArray).data.toList=b:=hb
 rw [hb2] at hpr
 cases b
 . refine zM 116 Tryz.func47 rfl rfl rfl rfl ?_
   intro s0 w he
   repeat' (first
|apply zG
 . conv=>lhs;whnf
 . assumption
|apply zF
 . conv=>lhs;whnf
 . assumption
|refine zA ?_
|refine zB ?_
|refine zH ?_
|apply aw_1
 conv=>whnf
 refine ⟨?_,trivial⟩
|apply s_1
 conv=>whnf;arg 1;arg 4;arg 3;whnf
 refine ⟨?_,?_⟩
|apply zY rfl
 . conv=>lhs;whnf
 . conv=>lhs;whnf
 . first | exact hsg | exact hpr
|apply zT rfl rfl rfl
 . conv=>lhs;whnf
 . conv=>lhs;whnf;arg 1;whnf
 . conv=>lhs;whnf;arg 1;whnf
 . exact ⟨by kernel_rfl,by kernel_rfl⟩
 . rfl
|refine zN ?_
|refine zP ?_
|refine zE ?_
|exact trivial)
   . exact ⟨_,_,_,rfl,rfl,rfl,rfl⟩
   all_goals first
    |exact zR (by omega)
    |exact ⟨by kernel_rfl,by omega,by omega⟩
    |exact ⟨by kernel_rfl,by omega,by omega,by omega⟩
    |(rw [hbt];exact zAT _)
    |exact (show Tryz.prog.underlying _=some TypeDesc.string by kernel_rfl)
    |skip
 . have hl2:=hl rfl
   refine zM 116 Tryz.func47 rfl rfl rfl rfl ?_
   intro s0 w he
   repeat' (first
|apply zG
 . conv=>lhs;whnf
 . assumption
|apply zF
 . conv=>lhs;whnf
 . assumption
|refine zA ?_
|refine zB ?_
|refine zH ?_
|apply aw_1
 conv=>whnf
 refine ⟨?_,trivial⟩
|apply s_1
 conv=>whnf;arg 1;arg 4;arg 3;whnf
 refine ⟨?_,?_⟩
|apply zY rfl
 . conv=>lhs;whnf
 . conv=>lhs;whnf
 . first | exact hsg | exact hpr
|apply zT rfl rfl rfl
 . conv=>lhs;whnf
 . conv=>lhs;whnf;arg 1;whnf
 . conv=>lhs;whnf;arg 1;whnf
 . exact ⟨by kernel_rfl,by kernel_rfl⟩
 . rfl
|refine zN ?_
|refine zP ?_
|refine zE ?_
|exact trivial)
   . exact ⟨_,_,_,rfl,rfl,rfl,rfl⟩
   all_goals first
    |exact zR (by omega)
    |exact ⟨by kernel_rfl,by omega,by omega⟩
    |exact ⟨by kernel_rfl,by omega,by omega,by omega⟩
    |(rw [hbt];exact zAT _)
    |exact (show Tryz.prog.underlying _=some TypeDesc.string by kernel_rfl)
    |skip
theorem read_num (h0:signB s[i]=false) (h46:s[i]≠46) (h:s[i]=45\/(s[i]≠45/\digU s[i]=true)) :
 AC EN5 Tryz.prog 47 [.c (.string (bs s)),.c (.int .i64 (i:Int))] (tupR ⟨3,s[i]::(s.drop (i+1)).take (spanN wrdU (s.drop (i+1))),i⟩ (i+1+spanN wrdU (s.drop (i+1))) (nerU (numU (s[i]::(s.drop (i+1)).take (spanN wrdU (s.drop (i+1))))))):=by
 have hz:=zZ s
 have hbt:=zAC hi
 have hgd:=zEU hi
 have hdr:s.drop i=s[i]::s.drop (i+1):=List.drop_eq_getElem_cons hi
 have q : ∀ n:Nat,n<256->(zS (bs s) ((i:Int)).toNat==(n:Int))=(s[i]==UInt8.ofNat n):=fun n hn=>by rw [hbt];exact zBC _ n hn
 have hsg:=zAA ((bs s).data.toList.getD ((i:Int)).toNat 0)
 have f0:signB ((bs s).data.toList.getD ((i:Int)).toNat 0)=false:=by rw [Int.toNat_natCast,hgd];exact h0
 have hle:=zAa wrdU (s.drop (i+1))
 rw [List.length_drop] at hle
 have f1:(zS (bs s) ((i:Int)).toNat==46)=false:=(q 46 (by omega)).trans (by simpa using h46)
 have hsp:=zJX s (i+1) (by omega) (by omega)
 have hx:(bs s).extract ((i:Int)).toNat (((i+1+spanN wrdU (s.drop (i+1)):Nat):Int)).toNat=bs (s[i]::(s.drop (i+1)).take (spanN wrdU (s.drop (i+1)))):=by
  rw [Int.toNat_natCast,Int.toNat_natCast,zCg s (by omega) (by omega),hdr,show i+1+spanN wrdU (s.drop (i+1))-i=spanN wrdU (s.drop (i+1))+1 by omega,List.take_succ_cons]
 have hsz:((bs s).extract ((i:Int)).toNat (((i+1+spanN wrdU (s.drop (i+1)):Nat):Int)).toNat).size<=281474976710656:=by rw [ByteArray.size_extract];omega
 have hnu:=zGQ _ hsz
 unfold numVV at hnu
 have htx:tx ((bs s).extract ((i:Int)).toNat (((i+1+spanN wrdU (s.drop (i+1)):Nat):Int)).toNat)=s[i]::(s.drop (i+1)).take (spanN wrdU (s.drop (i+1))):=by rw [hx];exact zAG _
 rw [htx] at hnu
 have k45:s[i]=45->((zS (bs s) ((i:Int)).toNat==45)==false)=true->False:=fun h h2=>by
  have e:(zS (bs s) ((i:Int)).toNat==45)=true:=(q 45 (by omega)).trans (by rw [h];rfl)
  rw [e] at h2;cases h2
 have kn45:s[i]≠45->((zS (bs s) ((i:Int)).toNat==45)==false)=false->False:=fun h h2=>by
  have e:(zS (bs s) ((i:Int)).toNat==45)=false:=(q 45 (by omega)).trans (by simpa using h)
  rw [e] at h2;cases h2
 have kge:48<=s[i].toNat->(decide (zS (bs s) ((i:Int)).toNat>=48)==true)=false->False:=fun h h2=>by
  rw [hbt,decide_eq_true (show ((s[i].toNat:Nat):Int)>=48 by omega)] at h2;cases h2
 have kng:s[i].toNat<48->(decide (zS (bs s) ((i:Int)).toNat>=48)==true)=true->False:=fun h h2=>by
  rw [hbt,decide_eq_false (show ¬ ((s[i].toNat:Nat):Int)>=48 by omega)] at h2;cases h2
 rcases h with h | ⟨h,hd⟩
 . have f2:(zS (bs s) ((i:Int)).toNat==45)=true:=(q 45 (by omega)).trans (by rw [h];rfl)
   have k1:=k45 h
   refine zM 116 Tryz.func47 rfl rfl rfl rfl ?_
   intro s0 w he
   repeat' (first
|apply zF
 . conv=>lhs;whnf
 . assumption
|exact (k1 ‹_›).elim
|refine zA ?_
|refine zB ?_
|refine zH ?_
|apply aw_1
 conv=>whnf
 refine ⟨?_,trivial⟩
|apply zQ rfl rfl
 . conv=>lhs;whnf
 . conv=>lhs;whnf
 . first | exact bT1 ‹_› | exact bT2 ‹_›
|apply s_1
 conv=>whnf;arg 1;arg 4;arg 3;whnf
 refine ⟨?_,?_⟩
|apply zY rfl
 . conv=>lhs;whnf
 . conv=>lhs;whnf
 . first | exact hsg | exact hsp | exact hnu
|apply zT rfl rfl rfl
 . conv=>lhs;whnf
 . conv=>lhs;whnf;arg 1;whnf
 . conv=>lhs;whnf;arg 1;whnf
 . exact ⟨by kernel_rfl,by kernel_rfl⟩
 . rfl
|apply zV rfl
 . conv=>lhs;whnf
 . conv=>lhs;whnf
 . first | rfl | assumption
|apply zC rfl
 . conv=>lhs;whnf
 . conv=>lhs;whnf
 . conv=>lhs;whnf;arg 2;whnf
|refine zN ?_
|refine zP ?_
|refine zE ?_
|exact trivial
|intro hg)
   . refine ⟨_,_,_,rfl,rfl,rfl,?_⟩
     show _=V.tup [.agg [.c (.int .i64 3),.c (.string ((bs s).extract ((i:Int)).toNat (((i+1+spanN wrdU (s.drop (i+1)):Nat):Int)).toNat)),.c (.int .i64 (i:Int))],.c (.int .i64 ((i+1+spanN wrdU (s.drop (i+1)):Nat):Int)),.c (.int .i64 (nerU (numU (s[i]::(s.drop (i+1)).take (spanN wrdU (s.drop (i+1)))))))]
     rw [hx];rfl
   all_goals first
    |exact zR (by omega)
    |exact ⟨by kernel_rfl,by omega,by omega⟩
    |exact ⟨by kernel_rfl,by omega,by omega,by omega⟩
    |(rw [hbt];exact zAT _)
    |exact (show Tryz.prog.underlying _=some TypeDesc.string by kernel_rfl)
    |skip
 . have f2:(zS (bs s) ((i:Int)).toNat==45)=false:=(q 45 (by omega)).trans (by simpa using h)
   have hd2:48<=s[i].toNat/\s[i].toNat<=57:=by simpa [digU] using hd
   have f3:decide (zS (bs s) ((i:Int)).toNat>=48)=true:=by rw [hbt];exact decide_eq_true (by omega)
   have f4:decide (zS (bs s) ((i:Int)).toNat<=57)=true:=by rw [hbt];exact decide_eq_true (by omega)
   have k1:=kn45 h
   have k2:=kge hd2.1
   refine zM 116 Tryz.func47 rfl rfl rfl rfl ?_
   intro s0 w he
   repeat' (first
|apply z7 rfl rfl rfl
 . conv=>lhs;whnf
 . first | rfl | assumption
 . conv=>lhs;whnf
 . first | exact bT1 ‹_› | exact bT2 ‹_› | rfl
|apply zG
 . conv=>lhs;whnf
 . assumption
|apply zF
 . conv=>lhs;whnf
 . assumption
|exact (k1 ‹_›).elim
|exact (k2 ‹_›).elim
|refine zA ?_
|refine zB ?_
|refine zH ?_
|apply aw_1
 conv=>whnf
 refine ⟨?_,trivial⟩
|apply zO rfl rfl
 . conv=>lhs;whnf
 . conv=>lhs;whnf
 . first | exact bF1 ‹_› | exact bF2 ‹_›
|apply s_1
 conv=>whnf;arg 1;arg 4;arg 3;whnf
 refine ⟨?_,?_⟩
|apply zY rfl
 . conv=>lhs;whnf
 . conv=>lhs;whnf
 . first | exact hsg | exact hsp | exact hnu
|apply zT rfl rfl rfl
 . conv=>lhs;whnf
 . conv=>lhs;whnf;arg 1;whnf
 . conv=>lhs;whnf;arg 1;whnf
 . exact ⟨by kernel_rfl,by kernel_rfl⟩
 . rfl
|apply zD rfl
 . conv=>lhs;whnf
 . conv=>lhs;whnf
 . first | rfl | assumption
 . conv=>lhs;whnf;arg 2;whnf
|apply zC rfl
 . conv=>lhs;whnf
 . conv=>lhs;whnf
 . conv=>lhs;whnf;arg 2;whnf
|refine zN ?_
|refine zP ?_
|refine zE ?_
|exact trivial
|intro hg)
   . refine ⟨_,_,_,rfl,rfl,rfl,?_⟩
     show _=V.tup [.agg [.c (.int .i64 3),.c (.string ((bs s).extract ((i:Int)).toNat (((i+1+spanN wrdU (s.drop (i+1)):Nat):Int)).toNat)),.c (.int .i64 (i:Int))],.c (.int .i64 ((i+1+spanN wrdU (s.drop (i+1)):Nat):Int)),.c (.int .i64 (nerU (numU (s[i]::(s.drop (i+1)).take (spanN wrdU (s.drop (i+1)))))))]
     rw [hx];rfl
   all_goals first
    |exact zR (by omega)
    |exact ⟨by kernel_rfl,by omega,by omega⟩
    |exact ⟨by kernel_rfl,by omega,by omega,by omega⟩
    |(rw [hbt];exact zAT _)
    |exact (show Tryz.prog.underlying _=some TypeDesc.string by kernel_rfl)
    |skip
theorem read_word (h0:signB s[i]=false) (h46:s[i]≠46) (h45:s[i]≠45) (hr:s[i].toNat<48\/57<s[i].toNat) (hw:wrdU s[i]=true) (hlen:spanN wrdU (s.drop (i+1))+1<=64):AC EN5 Tryz.prog 47 [.c (.string (bs s)),.c (.int .i64 (i:Int))] (tupR ⟨2,s[i]::(s.drop (i+1)).take (spanN wrdU (s.drop (i+1))),i⟩ (i+1+spanN wrdU (s.drop (i+1))) 0):=by
 have hz:=zZ s
 have hbt:=zAC hi
 have hgd:=zEU hi
 have hdr:s.drop i=s[i]::s.drop (i+1):=List.drop_eq_getElem_cons hi
 have q : ∀ n:Nat,n<256->(zS (bs s) ((i:Int)).toNat==(n:Int))=(s[i]==UInt8.ofNat n):=fun n hn=>by rw [hbt];exact zBC _ n hn
 have hsg:=zAA ((bs s).data.toList.getD ((i:Int)).toNat 0)
 have f0:signB ((bs s).data.toList.getD ((i:Int)).toNat 0)=false:=by rw [Int.toNat_natCast,hgd];exact h0
 have hle:=zAa wrdU (s.drop (i+1))
 rw [List.length_drop] at hle
 have f1:(zS (bs s) ((i:Int)).toNat==46)=false:=(q 46 (by omega)).trans (by simpa using h46)
 have k45:s[i]=45->((zS (bs s) ((i:Int)).toNat==45)==false)=true->False:=fun h h2=>by
  have e:(zS (bs s) ((i:Int)).toNat==45)=true:=(q 45 (by omega)).trans (by rw [h];rfl)
  rw [e] at h2;cases h2
 have kn45:s[i]≠45->((zS (bs s) ((i:Int)).toNat==45)==false)=false->False:=fun h h2=>by
  have e:(zS (bs s) ((i:Int)).toNat==45)=false:=(q 45 (by omega)).trans (by simpa using h)
  rw [e] at h2;cases h2
 have kge:48<=s[i].toNat->(decide (zS (bs s) ((i:Int)).toNat>=48)==true)=false->False:=fun h h2=>by
  rw [hbt,decide_eq_true (show ((s[i].toNat:Nat):Int)>=48 by omega)] at h2;cases h2
 have kng:s[i].toNat<48->(decide (zS (bs s) ((i:Int)).toNat>=48)==true)=true->False:=fun h h2=>by
  rw [hbt,decide_eq_false (show ¬ ((s[i].toNat:Nat):Int)>=48 by omega)] at h2;cases h2
 have hlt:=zBv ((bs s).data.toList.getD ((i:Int)).toNat 0)
 have f5:wrdU ((bs s).data.toList.getD ((i:Int)).toNat 0)=true:=by rw [Int.toNat_natCast,hgd];exact hw
 have hsp:=zJX s i (by omega) (by omega)
 have hse:i+spanN wrdU (s.drop i)=i+1+spanN wrdU (s.drop (i+1)):=by rw [hdr,spanN,if_pos hw];omega
 rw [hse] at hsp
 have hx:(bs s).extract ((i:Int)).toNat (((i+1+spanN wrdU (s.drop (i+1)):Nat):Int)).toNat=bs (s[i]::(s.drop (i+1)).take (spanN wrdU (s.drop (i+1)))):=by
  rw [Int.toNat_natCast,Int.toNat_natCast,zCg s (by omega) (by omega),hdr,show i+1+spanN wrdU (s.drop (i+1))-i=spanN wrdU (s.drop (i+1))+1 by omega,List.take_succ_cons]
 have f6:decide (((i+1+spanN wrdU (s.drop (i+1)):Nat):Int)-(i:Int)>64)=false:=decide_eq_false (by omega)
 rcases hr with hr | hr
 . have f2:(zS (bs s) ((i:Int)).toNat==45)=false:=(q 45 (by omega)).trans (by simpa using h45)
   have k1:=kn45 h45
   have k2:=kng hr
   have f3:decide (zS (bs s) ((i:Int)).toNat>=48)=false:=by rw [hbt];exact decide_eq_false (by omega)
   refine zM 116 Tryz.func47 rfl rfl rfl rfl ?_
   intro s0 w he
   repeat' (first
|apply zx rfl rfl rfl
 . conv=>lhs;whnf
 . first | rfl | assumption
 . conv=>lhs;whnf
 . first | exact bF1 ‹_› | exact bF2 ‹_› | rfl
|apply zG
 . conv=>lhs;whnf
 . assumption
|apply zF
 . conv=>lhs;whnf
 . assumption
|exact (k1 ‹_›).elim
|exact (k2 ‹_›).elim
|refine zA ?_
|refine zB ?_
|refine zH ?_
|apply aw_1
 conv=>whnf
 refine ⟨?_,trivial⟩
|apply zO rfl rfl
 . conv=>lhs;whnf
 . conv=>lhs;whnf
 . first | exact bF1 ‹_› | exact bF2 ‹_›
|apply s_1
 conv=>whnf;arg 1;arg 4;arg 3;whnf
 refine ⟨?_,?_⟩
|apply zY rfl
 . conv=>lhs;whnf
 . conv=>lhs;whnf
 . first | exact hsg | exact hlt | exact hsp
|apply zT rfl rfl rfl
 . conv=>lhs;whnf
 . conv=>lhs;whnf;arg 1;whnf
 . conv=>lhs;whnf;arg 1;whnf
 . exact ⟨by kernel_rfl,by kernel_rfl⟩
 . rfl
|apply zD rfl
 . conv=>lhs;whnf
 . conv=>lhs;whnf
 . first | rfl | assumption
 . conv=>lhs;whnf;arg 2;whnf
|apply zV rfl
 . conv=>lhs;whnf
 . conv=>lhs;whnf
 . first | rfl | assumption
|apply zC rfl
 . conv=>lhs;whnf
 . conv=>lhs;whnf
 . conv=>lhs;whnf;arg 2;whnf
|refine zN ?_
|refine zP ?_
|refine zE ?_
|exact trivial
|intro hg)
   . refine ⟨_,_,_,rfl,rfl,rfl,?_⟩
     show _=V.tup [.agg [.c (.int .i64 2),.c (.string ((bs s).extract ((i:Int)).toNat (((i+1+spanN wrdU (s.drop (i+1)):Nat):Int)).toNat)),.c (.int .i64 (i:Int))],.c (.int .i64 ((i+1+spanN wrdU (s.drop (i+1)):Nat):Int)),.c (.int .i64 0)]
     rw [hx];rfl
   all_goals first
    |exact zR (by omega)
    |exact ⟨by kernel_rfl,by omega,by omega⟩
    |exact ⟨by kernel_rfl,by omega,by omega,by omega⟩
    |(rw [hbt];exact zAT _)
    |exact (show Tryz.prog.underlying _=some TypeDesc.string by kernel_rfl)
    |skip
 . have f2:(zS (bs s) ((i:Int)).toNat==45)=false:=(q 45 (by omega)).trans (by simpa using h45)
   have k1:=kn45 h45
   have k2:=kge (by omega)
   have f3:decide (zS (bs s) ((i:Int)).toNat>=48)=true:=by rw [hbt];exact decide_eq_true (by omega)
   have f4:decide (zS (bs s) ((i:Int)).toNat<=57)=false:=by rw [hbt];exact decide_eq_false (by omega)
   refine zM 116 Tryz.func47 rfl rfl rfl rfl ?_
   intro s0 w he
   repeat' (first
|apply z7 rfl rfl rfl
 . conv=>lhs;whnf
 . first | rfl | assumption
 . conv=>lhs;whnf
 . first | exact bT1 ‹_› | exact bT2 ‹_› | rfl
|apply zG
 . conv=>lhs;whnf
 . assumption
|apply zF
 . conv=>lhs;whnf
 . assumption
|exact (k1 ‹_›).elim
|exact (k2 ‹_›).elim
|refine zA ?_
|refine zB ?_
|refine zH ?_
|apply aw_1
 conv=>whnf
 refine ⟨?_,trivial⟩
|apply zO rfl rfl
 . conv=>lhs;whnf
 . conv=>lhs;whnf
 . first | exact bF1 ‹_› | exact bF2 ‹_›
|apply s_1
 conv=>whnf;arg 1;arg 4;arg 3;whnf
 refine ⟨?_,?_⟩
|apply zY rfl
 . conv=>lhs;whnf
 . conv=>lhs;whnf
 . first | exact hsg | exact hlt | exact hsp
|apply zT rfl rfl rfl
 . conv=>lhs;whnf
 . conv=>lhs;whnf;arg 1;whnf
 . conv=>lhs;whnf;arg 1;whnf
 . exact ⟨by kernel_rfl,by kernel_rfl⟩
 . rfl
|apply zD rfl
 . conv=>lhs;whnf
 . conv=>lhs;whnf
 . first | rfl | assumption
 . conv=>lhs;whnf;arg 2;whnf
|apply zC rfl
 . conv=>lhs;whnf
 . conv=>lhs;whnf
 . conv=>lhs;whnf;arg 2;whnf
|refine zN ?_
|refine zP ?_
|refine zE ?_
|exact trivial
|intro hg)
   . refine ⟨_,_,_,rfl,rfl,rfl,?_⟩
     show _=V.tup [.agg [.c (.int .i64 2),.c (.string ((bs s).extract ((i:Int)).toNat (((i+1+spanN wrdU (s.drop (i+1)):Nat):Int)).toNat)),.c (.int .i64 (i:Int))],.c (.int .i64 ((i+1+spanN wrdU (s.drop (i+1)):Nat):Int)),.c (.int .i64 0)]
     rw [hx];rfl
   all_goals first
    |exact zR (by omega)
    |exact ⟨by kernel_rfl,by omega,by omega⟩
    |exact ⟨by kernel_rfl,by omega,by omega,by omega⟩
    |(rw [hbt];exact zAT _)
    |exact (show Tryz.prog.underlying _=some TypeDesc.string by kernel_rfl)
    |skip
theorem read_long (h0:signB s[i]=false) (h46:s[i]≠46) (h45:s[i]≠45) (hr:s[i].toNat<48\/57<s[i].toNat) (hw:wrdU s[i]=true) (hlen : ¬ spanN wrdU (s.drop (i+1))+1<=64):AC EN5 Tryz.prog 47 [.c (.string (bs s)),.c (.int .i64 (i:Int))] failR:=by
 have hz:=zZ s
 have hbt:=zAC hi
 have hgd:=zEU hi
 have hdr:s.drop i=s[i]::s.drop (i+1):=List.drop_eq_getElem_cons hi
 have q : ∀ n:Nat,n<256->(zS (bs s) ((i:Int)).toNat==(n:Int))=(s[i]==UInt8.ofNat n):=fun n hn=>by rw [hbt];exact zBC _ n hn
 have hsg:=zAA ((bs s).data.toList.getD ((i:Int)).toNat 0)
 have f0:signB ((bs s).data.toList.getD ((i:Int)).toNat 0)=false:=by rw [Int.toNat_natCast,hgd];exact h0
 have hle:=zAa wrdU (s.drop (i+1))
 rw [List.length_drop] at hle
 have f1:(zS (bs s) ((i:Int)).toNat==46)=false:=(q 46 (by omega)).trans (by simpa using h46)
 have k45:s[i]=45->((zS (bs s) ((i:Int)).toNat==45)==false)=true->False:=fun h h2=>by
  have e:(zS (bs s) ((i:Int)).toNat==45)=true:=(q 45 (by omega)).trans (by rw [h];rfl)
  rw [e] at h2;cases h2
 have kn45:s[i]≠45->((zS (bs s) ((i:Int)).toNat==45)==false)=false->False:=fun h h2=>by
  have e:(zS (bs s) ((i:Int)).toNat==45)=false:=(q 45 (by omega)).trans (by simpa using h)
  rw [e] at h2;cases h2
 have kge:48<=s[i].toNat->(decide (zS (bs s) ((i:Int)).toNat>=48)==true)=false->False:=fun h h2=>by
  rw [hbt,decide_eq_true (show ((s[i].toNat:Nat):Int)>=48 by omega)] at h2;cases h2
 have kng:s[i].toNat<48->(decide (zS (bs s) ((i:Int)).toNat>=48)==true)=true->False:=fun h h2=>by
  rw [hbt,decide_eq_false (show ¬ ((s[i].toNat:Nat):Int)>=48 by omega)] at h2;cases h2
 have hlt:=zBv ((bs s).data.toList.getD ((i:Int)).toNat 0)
 have f5:wrdU ((bs s).data.toList.getD ((i:Int)).toNat 0)=true:=by rw [Int.toNat_natCast,hgd];exact hw
 have hsp:=zJX s i (by omega) (by omega)
 have hse:i+spanN wrdU (s.drop i)=i+1+spanN wrdU (s.drop (i+1)):=by rw [hdr,spanN,if_pos hw];omega
 rw [hse] at hsp
 have f6:decide (((i+1+spanN wrdU (s.drop (i+1)):Nat):Int)-(i:Int)>64)=true:=decide_eq_true (by omega)
 rcases hr with hr | hr
 . have f2:(zS (bs s) ((i:Int)).toNat==45)=false:=(q 45 (by omega)).trans (by simpa using h45)
   have k1:=kn45 h45
   have k2:=kng hr
   have f3:decide (zS (bs s) ((i:Int)).toNat>=48)=false:=by rw [hbt];exact decide_eq_false (by omega)
   refine zM 116 Tryz.func47 rfl rfl rfl rfl ?_
   intro s0 w he
   repeat' (first
|apply zx rfl rfl rfl
 . conv=>lhs;whnf
 . first | rfl | assumption
 . conv=>lhs;whnf
 . first | exact bF1 ‹_› | exact bF2 ‹_› | rfl
|apply zG
 . conv=>lhs;whnf
 . assumption
|apply zF
 . conv=>lhs;whnf
 . assumption
|exact (k1 ‹_›).elim
|exact (k2 ‹_›).elim
|refine zA ?_
|refine zB ?_
|refine zH ?_
|apply aw_1
 conv=>whnf
 refine ⟨?_,trivial⟩
|apply zO rfl rfl
 . conv=>lhs;whnf
 . conv=>lhs;whnf
 . first | exact bF1 ‹_› | exact bF2 ‹_›
|apply s_1
 conv=>whnf;arg 1;arg 4;arg 3;whnf
 refine ⟨?_,?_⟩
|apply zY rfl
 . conv=>lhs;whnf
 . conv=>lhs;whnf
 . first | exact hsg | exact hlt | exact hsp
|apply zT rfl rfl rfl
 . conv=>lhs;whnf
 . conv=>lhs;whnf;arg 1;whnf
 . conv=>lhs;whnf;arg 1;whnf
 . exact ⟨by kernel_rfl,by kernel_rfl⟩
 . rfl
|apply zD rfl
 . conv=>lhs;whnf
 . conv=>lhs;whnf
 . first | rfl | assumption
 . conv=>lhs;whnf;arg 2;whnf
|apply zV rfl
 . conv=>lhs;whnf
 . conv=>lhs;whnf
 . first | rfl | assumption
|apply zC rfl
 . conv=>lhs;whnf
 . conv=>lhs;whnf
 . conv=>lhs;whnf;arg 2;whnf
|refine zN ?_
|refine zP ?_
|refine zE ?_
|exact trivial
|intro hg)
   . exact ⟨_,_,_,rfl,rfl,rfl,rfl⟩
   all_goals first
    |exact zR (by omega)
    |exact ⟨by kernel_rfl,by omega,by omega⟩
    |exact ⟨by kernel_rfl,by omega,by omega,by omega⟩
    |(rw [hbt];exact zAT _)
    |exact (show Tryz.prog.underlying _=some TypeDesc.string by kernel_rfl)
    |skip
 . have f2:(zS (bs s) ((i:Int)).toNat==45)=false:=(q 45 (by omega)).trans (by simpa using h45)
   have k1:=kn45 h45
   have k2:=kge (by omega)
   have f3:decide (zS (bs s) ((i:Int)).toNat>=48)=true:=by rw [hbt];exact decide_eq_true (by omega)
   have f4:decide (zS (bs s) ((i:Int)).toNat<=57)=false:=by rw [hbt];exact decide_eq_false (by omega)
   refine zM 116 Tryz.func47 rfl rfl rfl rfl ?_
   intro s0 w he
   repeat' (first
|apply z7 rfl rfl rfl
 . conv=>lhs;whnf
 . first | rfl | assumption
 . conv=>lhs;whnf
 . first | exact bT1 ‹_› | exact bT2 ‹_› | rfl
|apply zG
 . conv=>lhs;whnf
 . assumption
|apply zF
 . conv=>lhs;whnf
 . assumption
|exact (k1 ‹_›).elim
|exact (k2 ‹_›).elim
|refine zA ?_
|refine zB ?_
|refine zH ?_
|apply aw_1
 conv=>whnf
 refine ⟨?_,trivial⟩
|apply zO rfl rfl
 . conv=>lhs;whnf
 . conv=>lhs;whnf
 . first | exact bF1 ‹_› | exact bF2 ‹_›
|apply s_1
 conv=>whnf;arg 1;arg 4;arg 3;whnf
 refine ⟨?_,?_⟩
|apply zY rfl
 . conv=>lhs;whnf
 . conv=>lhs;whnf
 . first | exact hsg | exact hlt | exact hsp
|apply zT rfl rfl rfl
 . conv=>lhs;whnf
 . conv=>lhs;whnf;arg 1;whnf
 . conv=>lhs;whnf;arg 1;whnf
 . exact ⟨by kernel_rfl,by kernel_rfl⟩
 . rfl
|apply zD rfl
 . conv=>lhs;whnf
 . conv=>lhs;whnf
 . first | rfl | assumption
 . conv=>lhs;whnf;arg 2;whnf
|apply zC rfl
 . conv=>lhs;whnf
 . conv=>lhs;whnf
 . conv=>lhs;whnf;arg 2;whnf
|refine zN ?_
|refine zP ?_
|refine zE ?_
|exact trivial
|intro hg)
   . exact ⟨_,_,_,rfl,rfl,rfl,rfl⟩
   all_goals first
    |exact zR (by omega)
    |exact ⟨by kernel_rfl,by omega,by omega⟩
    |exact ⟨by kernel_rfl,by omega,by omega,by omega⟩
    |(rw [hbt];exact zAT _)
    |exact (show Tryz.prog.underlying _=some TypeDesc.string by kernel_rfl)
    |skip
theorem read_none (h0:signB s[i]=false) (h46:s[i]≠46) (h45:s[i]≠45) (hr:s[i].toNat<48\/57<s[i].toNat) (hw:wrdU s[i]=false) (h34:s[i]≠34):AC EN5 Tryz.prog 47 [.c (.string (bs s)),.c (.int .i64 (i:Int))] failR:=by
 have hz:=zZ s
 have hbt:=zAC hi
 have hgd:=zEU hi
 have hdr:s.drop i=s[i]::s.drop (i+1):=List.drop_eq_getElem_cons hi
 have q : ∀ n:Nat,n<256->(zS (bs s) ((i:Int)).toNat==(n:Int))=(s[i]==UInt8.ofNat n):=fun n hn=>by rw [hbt];exact zBC _ n hn
 have hsg:=zAA ((bs s).data.toList.getD ((i:Int)).toNat 0)
 have f0:signB ((bs s).data.toList.getD ((i:Int)).toNat 0)=false:=by rw [Int.toNat_natCast,hgd];exact h0
 have hle:=zAa wrdU (s.drop (i+1))
 rw [List.length_drop] at hle
 have f1:(zS (bs s) ((i:Int)).toNat==46)=false:=(q 46 (by omega)).trans (by simpa using h46)
 have k45:s[i]=45->((zS (bs s) ((i:Int)).toNat==45)==false)=true->False:=fun h h2=>by
  have e:(zS (bs s) ((i:Int)).toNat==45)=true:=(q 45 (by omega)).trans (by rw [h];rfl)
  rw [e] at h2;cases h2
 have kn45:s[i]≠45->((zS (bs s) ((i:Int)).toNat==45)==false)=false->False:=fun h h2=>by
  have e:(zS (bs s) ((i:Int)).toNat==45)=false:=(q 45 (by omega)).trans (by simpa using h)
  rw [e] at h2;cases h2
 have kge:48<=s[i].toNat->(decide (zS (bs s) ((i:Int)).toNat>=48)==true)=false->False:=fun h h2=>by
  rw [hbt,decide_eq_true (show ((s[i].toNat:Nat):Int)>=48 by omega)] at h2;cases h2
 have kng:s[i].toNat<48->(decide (zS (bs s) ((i:Int)).toNat>=48)==true)=true->False:=fun h h2=>by
  rw [hbt,decide_eq_false (show ¬ ((s[i].toNat:Nat):Int)>=48 by omega)] at h2;cases h2
 have hlt:=zBv ((bs s).data.toList.getD ((i:Int)).toNat 0)
 have f5:wrdU ((bs s).data.toList.getD ((i:Int)).toNat 0)=false:=by rw [Int.toNat_natCast,hgd];exact hw
 have f6:(zS (bs s) ((i:Int)).toNat==34)=false:=(q 34 (by omega)).trans (by simpa using h34)
 rcases hr with hr | hr
 . have f2:(zS (bs s) ((i:Int)).toNat==45)=false:=(q 45 (by omega)).trans (by simpa using h45)
   have k1:=kn45 h45
   have k2:=kng hr
   have f3:decide (zS (bs s) ((i:Int)).toNat>=48)=false:=by rw [hbt];exact decide_eq_false (by omega)
   refine zM 116 Tryz.func47 rfl rfl rfl rfl ?_
   intro s0 w he
   repeat' (first
|apply zx rfl rfl rfl
 . conv=>lhs;whnf
 . first | rfl | assumption
 . conv=>lhs;whnf
 . first | exact bF1 ‹_› | exact bF2 ‹_› | rfl
|apply zF
 . conv=>lhs;whnf
 . assumption
|exact (k1 ‹_›).elim
|exact (k2 ‹_›).elim
|refine zA ?_
|refine zB ?_
|refine zH ?_
|refine zW ?_
|apply aw_1
 conv=>whnf
 refine ⟨?_,trivial⟩
|apply zO rfl rfl
 . conv=>lhs;whnf
 . conv=>lhs;whnf
 . first | exact bF1 ‹_› | exact bF2 ‹_›
|apply s_1
 conv=>whnf;arg 1;arg 4;arg 3;whnf
 refine ⟨?_,?_⟩
|apply zY rfl
 . conv=>lhs;whnf
 . conv=>lhs;whnf
 . first | exact hsg | exact hlt
|apply zT rfl rfl rfl
 . conv=>lhs;whnf
 . conv=>lhs;whnf;arg 1;whnf
 . conv=>lhs;whnf;arg 1;whnf
 . exact ⟨by kernel_rfl,by kernel_rfl⟩
 . rfl
|apply zD rfl
 . conv=>lhs;whnf
 . conv=>lhs;whnf
 . first | rfl | assumption
 . conv=>lhs;whnf;arg 2;whnf
|apply zV rfl
 . conv=>lhs;whnf
 . conv=>lhs;whnf
 . first | rfl | assumption
|apply zC rfl
 . conv=>lhs;whnf
 . conv=>lhs;whnf
 . conv=>lhs;whnf;arg 2;whnf
|refine zE ?_
|exact trivial
|intro hg)
   . exact ⟨_,_,_,rfl,rfl,rfl,rfl⟩
   all_goals first
    |exact zR (by omega)
    |exact ⟨by kernel_rfl,by omega,by omega⟩
    |exact ⟨by kernel_rfl,by omega,by omega,by omega⟩
    |(rw [hbt];exact zAT _)
    |exact (show Tryz.prog.underlying _=some TypeDesc.string by kernel_rfl)
    |skip
 . have f2:(zS (bs s) ((i:Int)).toNat==45)=false:=(q 45 (by omega)).trans (by simpa using h45)
   have k1:=kn45 h45
   have k2:=kge (by omega)
   have f3:decide (zS (bs s) ((i:Int)).toNat>=48)=true:=by rw [hbt];exact decide_eq_true (by omega)
   have f4:decide (zS (bs s) ((i:Int)).toNat<=57)=false:=by rw [hbt];exact decide_eq_false (by omega)
   refine zM 116 Tryz.func47 rfl rfl rfl rfl ?_
   intro s0 w he
   repeat' (first
|apply z7 rfl rfl rfl
 . conv=>lhs;whnf
 . first | rfl | assumption
 . conv=>lhs;whnf
 . first | exact bT1 ‹_› | exact bT2 ‹_› | rfl
|apply zF
 . conv=>lhs;whnf
 . assumption
|exact (k1 ‹_›).elim
|exact (k2 ‹_›).elim
|refine zA ?_
|refine zB ?_
|refine zH ?_
|refine zW ?_
|apply aw_1
 conv=>whnf
 refine ⟨?_,trivial⟩
|apply zO rfl rfl
 . conv=>lhs;whnf
 . conv=>lhs;whnf
 . first | exact bF1 ‹_› | exact bF2 ‹_›
|apply s_1
 conv=>whnf;arg 1;arg 4;arg 3;whnf
 refine ⟨?_,?_⟩
|apply zY rfl
 . conv=>lhs;whnf
 . conv=>lhs;whnf
 . first | exact hsg | exact hlt
|apply zT rfl rfl rfl
 . conv=>lhs;whnf
 . conv=>lhs;whnf;arg 1;whnf
 . conv=>lhs;whnf;arg 1;whnf
 . exact ⟨by kernel_rfl,by kernel_rfl⟩
 . rfl
|apply zD rfl
 . conv=>lhs;whnf
 . conv=>lhs;whnf
 . first | rfl | assumption
 . conv=>lhs;whnf;arg 2;whnf
|apply zC rfl
 . conv=>lhs;whnf
 . conv=>lhs;whnf
 . conv=>lhs;whnf;arg 2;whnf
|refine zE ?_
|exact trivial
|intro hg)
   . exact ⟨_,_,_,rfl,rfl,rfl,rfl⟩
   all_goals first
    |exact zR (by omega)
    |exact ⟨by kernel_rfl,by omega,by omega⟩
    |exact ⟨by kernel_rfl,by omega,by omega,by omega⟩
    |(rw [hbt];exact zAT _)
    |exact (show Tryz.prog.underlying _=some TypeDesc.string by kernel_rfl)
    |skip
end
end
section
open Go.RowKit
set_option linter.unusedSectionVars false
attribute [local irreducible] wpList Calls Code.wp AW AWo OpOk seqK zm zo loopK endK AC zh Yld Sub
attribute [local irreducible] ACB ACX ACE absLexG YldG
section
variable {s:List UInt8} {i:Nat} (hi:i<s.length) (hs:s.length<=70000)
include hi hs
theorem read_open (h:s[i]=34) (hn:litN (s.drop (i+1))=none):AC EN5 Tryz.prog 47 [.c (.string (bs s)),.c (.int .i64 (i:Int))] failR:=by
 have hz:=zZ s
 have hbt:=zAC hi
 have hgd:=zEU hi
 have hdr:s.drop i=s[i]::s.drop (i+1):=List.drop_eq_getElem_cons hi
 have q : ∀ n:Nat,n<256->(zS (bs s) ((i:Int)).toNat==(n:Int))=(s[i]==UInt8.ofNat n):=fun n hn=>by rw [hbt];exact zBC _ n hn
 have hsg:=zAA ((bs s).data.toList.getD ((i:Int)).toNat 0)
 have f0:signB ((bs s).data.toList.getD ((i:Int)).toNat 0)=false:=by rw [Int.toNat_natCast,hgd,h];rfl
 have f1:(zS (bs s) ((i:Int)).toNat==46)=false:=(q 46 (by omega)).trans (by rw [h];rfl)
 have f2:(zS (bs s) ((i:Int)).toNat==45)=false:=(q 45 (by omega)).trans (by rw [h];rfl)
 have f3:decide (zS (bs s) ((i:Int)).toNat>=48)=false:=by rw [hbt,h];rfl
 have k1:((zS (bs s) ((i:Int)).toNat==45)==false)=false->False:=fun h2=>by rw [f2] at h2;cases h2
 have k2:(decide (zS (bs s) ((i:Int)).toNat>=48)==true)=true->False:=fun h2=>by rw [f3] at h2;cases h2
 have hlt:=zBv ((bs s).data.toList.getD ((i:Int)).toNat 0)
 have f5:wrdU ((bs s).data.toList.getD ((i:Int)).toNat 0)=false:=by rw [Int.toNat_natCast,hgd,h];rfl
 have f6:(zS (bs s) ((i:Int)).toNat==34)=true:=(q 34 (by omega)).trans (by rw [h];rfl)
 have hll:=zGS s i hi (by omega)
 have hv:litV s i = -1:=by unfold litV;rw [hn]
 rw [hv] at hll
 refine zM 116 Tryz.func47 rfl rfl rfl rfl ?_
 intro s0 w he
 repeat' (first
|apply zx rfl rfl rfl
 . conv=>lhs;whnf
 . first | rfl | assumption
 . conv=>lhs;whnf
 . first | exact bF1 ‹_› | exact bF2 ‹_› | rfl
|apply zG
 . conv=>lhs;whnf
 . assumption
|apply zF
 . conv=>lhs;whnf
 . assumption
|exact (k1 ‹_›).elim
|exact (k2 ‹_›).elim
|refine zA ?_
|refine zB ?_
|refine zH ?_
|apply aw_1
 conv=>whnf
 refine ⟨?_,trivial⟩
|apply zO rfl rfl
 . conv=>lhs;whnf
 . conv=>lhs;whnf
 . first | exact bF1 ‹_› | exact bF2 ‹_›
|apply s_1
 conv=>whnf;arg 1;arg 4;arg 3;whnf
 refine ⟨?_,?_⟩
|apply zY rfl
 . conv=>lhs;whnf
 . conv=>lhs;whnf
 . first | exact hsg | exact hlt | exact hll
|apply zT rfl rfl rfl
 . conv=>lhs;whnf
 . conv=>lhs;whnf;arg 1;whnf
 . conv=>lhs;whnf;arg 1;whnf
 . exact ⟨by kernel_rfl,by kernel_rfl⟩
 . rfl
|apply zD rfl
 . conv=>lhs;whnf
 . conv=>lhs;whnf
 . first | rfl | assumption
 . conv=>lhs;whnf;arg 2;whnf
|apply zV rfl
 . conv=>lhs;whnf
 . conv=>lhs;whnf
 . first | rfl | assumption
|apply zC rfl
 . conv=>lhs;whnf
 . conv=>lhs;whnf
 . conv=>lhs;whnf;arg 2;whnf
|refine zN ?_
|refine zP ?_
|refine zE ?_
|exact trivial
|intro hg)
 . exact ⟨_,_,_,rfl,rfl,rfl,rfl⟩
 all_goals first
  |exact zR (by omega)
  |exact ⟨by kernel_rfl,by omega,by omega⟩
  |exact ⟨by kernel_rfl,by omega,by omega,by omega⟩
  |(rw [hbt];exact zAT _)
  |exact (show Tryz.prog.underlying _=some TypeDesc.string by kernel_rfl)
  |skip
theorem read_text (h:s[i]=34) (n:Nat) (hn:litN (s.drop (i+1))=some n):AC EN5 Tryz.prog 47 [.c (.string (bs s)),.c (.int .i64 (i:Int))] (tupR ⟨4,(unquoteU (s[i]::(s.drop (i+1)).take n)).getD [],i⟩ (i+1+n) (uqE (unquoteU (s[i]::(s.drop (i+1)).take n)))):=by
 have hz:=zZ s
 have hbt:=zAC hi
 have hgd:=zEU hi
 have hdr:s.drop i=s[i]::s.drop (i+1):=List.drop_eq_getElem_cons hi
 have q : ∀ n:Nat,n<256->(zS (bs s) ((i:Int)).toNat==(n:Int))=(s[i]==UInt8.ofNat n):=fun n hn=>by rw [hbt];exact zBC _ n hn
 have hsg:=zAA ((bs s).data.toList.getD ((i:Int)).toNat 0)
 have f0:signB ((bs s).data.toList.getD ((i:Int)).toNat 0)=false:=by rw [Int.toNat_natCast,hgd,h];rfl
 have f1:(zS (bs s) ((i:Int)).toNat==46)=false:=(q 46 (by omega)).trans (by rw [h];rfl)
 have f2:(zS (bs s) ((i:Int)).toNat==45)=false:=(q 45 (by omega)).trans (by rw [h];rfl)
 have f3:decide (zS (bs s) ((i:Int)).toNat>=48)=false:=by rw [hbt,h];rfl
 have k1:((zS (bs s) ((i:Int)).toNat==45)==false)=false->False:=fun h2=>by rw [f2] at h2;cases h2
 have k2:(decide (zS (bs s) ((i:Int)).toNat>=48)==true)=true->False:=fun h2=>by rw [f3] at h2;cases h2
 have hlt:=zBv ((bs s).data.toList.getD ((i:Int)).toNat 0)
 have f5:wrdU ((bs s).data.toList.getD ((i:Int)).toNat 0)=false:=by rw [Int.toNat_natCast,hgd,h];rfl
 have f6:(zS (bs s) ((i:Int)).toNat==34)=true:=(q 34 (by omega)).trans (by rw [h];rfl)
 have hll:=zGS s i hi (by omega)
 have hln:=zD4 _ n hn
 rw [List.length_drop] at hln
 have hv:litV s i=((i+1+n:Nat):Int):=by unfold litV;rw [hn]
 rw [hv] at hll
 have f7:decide (((i+1+n:Nat):Int)<0)=false:=decide_eq_false (by omega)
 have hx:(bs s).extract ((i:Int)).toNat (((i+1+n:Nat):Int)).toNat=bs (s[i]::(s.drop (i+1)).take n):=by
  rw [Int.toNat_natCast,Int.toNat_natCast,zCg s (by omega) (by omega),hdr,show i+1+n-i=n+1 by omega,List.take_succ_cons]
 have hsz:((bs s).extract ((i:Int)).toNat (((i+1+n:Nat):Int)).toNat).size<=100000:=by rw [ByteArray.size_extract];omega
 have huq:=zJS _ hsz
 unfold uqVV at huq
 have htx:tx ((bs s).extract ((i:Int)).toNat (((i+1+n:Nat):Int)).toNat)=s[i]::(s.drop (i+1)).take n:=by rw [hx];exact zAG _
 rw [htx] at huq
 refine zM 116 Tryz.func47 rfl rfl rfl rfl ?_
 intro s0 w he
 repeat' (first
|apply zx rfl rfl rfl
 . conv=>lhs;whnf
 . first | rfl | assumption
 . conv=>lhs;whnf
 . first | exact bF1 ‹_› | exact bF2 ‹_› | rfl
|apply zG
 . conv=>lhs;whnf
 . assumption
|apply zF
 . conv=>lhs;whnf
 . assumption
|exact (k1 ‹_›).elim
|exact (k2 ‹_›).elim
|refine zA ?_
|refine zB ?_
|refine zH ?_
|apply aw_1
 conv=>whnf
 refine ⟨?_,trivial⟩
|apply zO rfl rfl
 . conv=>lhs;whnf
 . conv=>lhs;whnf
 . first | exact bF1 ‹_› | exact bF2 ‹_›
|apply s_1
 conv=>whnf;arg 1;arg 4;arg 3;whnf
 refine ⟨?_,?_⟩
|apply zY rfl
 . conv=>lhs;whnf
 . conv=>lhs;whnf
 . first | exact hsg | exact hlt | exact hll | exact huq
|apply zT rfl rfl rfl
 . conv=>lhs;whnf
 . conv=>lhs;whnf;arg 1;whnf
 . conv=>lhs;whnf;arg 1;whnf
 . exact ⟨by kernel_rfl,by kernel_rfl⟩
 . rfl
|apply zD rfl
 . conv=>lhs;whnf
 . conv=>lhs;whnf
 . first | rfl | assumption
 . conv=>lhs;whnf;arg 2;whnf
|apply zV rfl
 . conv=>lhs;whnf
 . conv=>lhs;whnf
 . first | rfl | assumption
|apply zC rfl
 . conv=>lhs;whnf
 . conv=>lhs;whnf
 . conv=>lhs;whnf;arg 2;whnf
|refine zN ?_
|refine zP ?_
|refine zE ?_
|exact trivial
|intro hg)
 . exact ⟨_,_,_,rfl,rfl,rfl,rfl⟩
 all_goals first
  |exact zR (by omega)
  |exact ⟨by kernel_rfl,by omega,by omega⟩
  |exact ⟨by kernel_rfl,by omega,by omega,by omega⟩
  |(rw [hbt];exact zAT _)
  |exact (show Tryz.prog.underlying _=some TypeDesc.string by kernel_rfl)
  |skip
theorem read_ac:AC EN5 Tryz.prog 47 [.c (.string (bs s)),.c (.int .i64 (i:Int))] (readV (s.drop i) i):=by
 have hdr:s.drop i=s[i]::s.drop (i+1):=List.drop_eq_getElem_cons hi
 rw [hdr]
 unfold readV
 simp only []
 by_cases h0:signB s[i]=true
 . rw [if_pos h0];exact read_sign hi hs h0
 rw [if_neg h0]
 have h0:signB s[i]=false:=by simpa using h0
 by_cases h46:s[i]=46
 . rw [if_pos (by simp [h46])]
   have hp:Lib.hasPrefix (s.drop i) [46,46,46]=decide ((s.drop (i+1)).take 2=[46,46]):=by
    rw [hdr,h46]
    show List.isPrefixOf [46,46] (s.drop (i+1))=_
    rw [Bool.eq_iff_iff]
    simp only [List.isPrefixOf_iff_prefix,decide_eq_true_eq,List.prefix_iff_eq_take]
    exact eq_comm
   have:=read_dots hi hs h0 h46 _ hp (fun hd=>by
    have:=congrArg List.length (of_decide_eq_true hd)
    rw [List.length_take,List.length_drop] at this
    simp at this;omega)
   simpa using this
 rw [if_neg (by simpa using h46)]
 by_cases hd:(s[i]==45||digU s[i])=true
 . rw [if_pos hd]
   refine read_num hi hs h0 h46 ?_
   by_cases h45:s[i]=45
   . exact .inl h45
   . exact .inr ⟨h45,by simpa [h45] using hd⟩
 rw [if_neg hd]
 have hd:(s[i]==45||digU s[i])=false:=by simpa using hd
 rw [Bool.or_eq_false_iff] at hd
 have h45:s[i]≠45:=by simpa using hd.1
 have hr:s[i].toNat<48\/57<s[i].toNat:=by
  have:=hd.2
  simp only [digU,decide_eq_false_iff_not] at this
  omega
 by_cases hw:wrdU s[i]=true
 . rw [if_pos hw]
   by_cases hl:spanN wrdU (s.drop (i+1))+1>64
   . rw [if_pos hl];exact read_long hi hs h0 h46 h45 hr hw (by omega)
   . rw [if_neg hl];exact read_word hi hs h0 h46 h45 hr hw (by omega)
 rw [if_neg hw]
 have hw:wrdU s[i]=false:=by simpa using hw
 by_cases h34:s[i]=34
 . rw [if_pos (by simp [h34])]
   cases hn:litN (s.drop (i+1)) with
   |none=>exact read_open hi hs h34 hn
   |some n=>exact read_text hi hs h34 n hn
 . rw [if_neg (by simpa using h34)]
   exact read_none hi hs h0 h46 h45 hr hw h34
end
theorem zKY (c:UInt8) (r:List UInt8) (i:Nat) :
 (∀ k t n,readU (c::r) = .ok (k,t,n)->readV (c::r) i=tupR ⟨k,t,i⟩ (i+n) 0)/\(∀ e,readU (c::r) = .error e->e≠0 /\ ∃ t k,readV (c::r) i=tupR t k e):=by
 unfold readU readV
 simp only []
 have f3 : ∀ e:Int,(3:Int)=e->e≠0 /\ ∃ t k,failR=tupR t k e:=fun e he=>by subst he;exact ⟨by decide,_,_,rfl⟩
 by_cases h0:signB c=true
 . rw [if_pos h0,if_pos h0]
   exact ⟨fun k t n h=>by cases h;rfl,fun e h=>by cases h⟩
 rw [if_neg h0,if_neg h0]
 by_cases h46:(c==46)=true
 . rw [if_pos h46,if_pos h46]
   by_cases hp:r.take 2=[46,46]
   . rw [if_pos hp,if_pos hp]
     exact ⟨fun k t n h=>by cases h;rfl,fun e h=>by cases h⟩
   . rw [if_neg hp,if_neg hp]
     exact ⟨fun k t n h=>(by cases h),fun e h=>by cases h;exact f3 _ rfl⟩
 rw [if_neg h46,if_neg h46]
 by_cases hd:(c==45||digU c)=true
 . rw [if_pos hd,if_pos hd]
   by_cases hn:nerU (numU (c::r.take (spanN wrdU r)))=0
   . rw [if_pos hn]
     refine ⟨fun k t n h => ?_,fun e h=>by cases h⟩
     cases h
     rw [hn,show i+1+spanN wrdU r=i+(spanN wrdU r+1) by omega]
   . rw [if_neg hn]
     exact ⟨fun k t n h=>(by cases h),fun e h=>by cases h;exact ⟨hn,_,_,rfl⟩⟩
 rw [if_neg hd,if_neg hd]
 have hd:(c==45||digU c)=false:=by simpa using hd
 rw [Bool.or_eq_false_iff] at hd
 have hwl:wrdU c=letU c:=by unfold wrdU;rw [hd.2,Bool.or_false]
 rw [hwl]
 by_cases hw:letU c=true
 . rw [if_pos hw,if_pos hw]
   by_cases hl:spanN wrdU r+1>64
   . rw [if_pos hl,if_pos hl]
     exact ⟨fun k t n h=>(by cases h),fun e h=>by cases h;exact f3 _ rfl⟩
   . rw [if_neg hl,if_neg hl]
     refine ⟨fun k t n h => ?_,fun e h=>by cases h⟩
     cases h
     rw [show i+1+spanN wrdU r=i+(spanN wrdU r+1) by omega]
 rw [if_neg hw,if_neg hw]
 by_cases h34:(c==34)=true
 . rw [if_pos h34,if_pos h34]
   cases hn:litN r with
   |none=>exact ⟨fun k t n h=>(by cases h),fun e h=>by cases h;exact f3 _ rfl⟩
   |some n =>
    dsimp only
    cases hu:unquoteU (c::r.take n) with
    |none=>exact ⟨fun k t n h=>(by cases h),fun e h=>by cases h;exact ⟨by decide,_,_,rfl⟩⟩
    |some t =>
     refine ⟨fun k t n h => ?_,fun e h=>by cases h⟩
     cases h
     show tupR ⟨4,t,i⟩ (i+1+n) 0=tupR ⟨4,t,i⟩ (i+(n+1)) 0
     rw [show i+1+n=i+(n+1) by omega]
 . rw [if_neg h34,if_neg h34]
   exact ⟨fun k t n h=>(by cases h),fun e h=>by cases h;exact f3 _ rfl⟩
theorem zHg:zz Tryz.prog 56=some (89,32):=by kernel_rfl
def scanG (f:Nat) (l:List UInt8) (k:Nat):Except (Nat × Int) (List Tok):=
 match l with
 |[] => .ok [⟨5,[],k⟩]
 |c::r=>match zC5 (c::r) k with
  |.error e => .error (k,e)
  |.ok (t,n)=>match scanF f ((c::r).drop n) (k+n) with
   |.error e => .error e
   |.ok ts => .ok (t::ts)
theorem zKS (f:Nat) (l:List UInt8) (i:Nat):scanF (f+1) l i=scanG f (l.drop (skipM false l)) (i+skipM false l):=by
 have hle:=zAb false l
 rw [scanF]
 unfold scanG
 cases h:l.drop (skipM false l) with
 |nil =>
  have:=congrArg List.length h
  rw [List.length_drop] at this
  have e:skipM false l=l.length:=by simp at this;omega
  rw [e]
 |cons c r=>rfl
def zJM (acc:List Tok):Except (Nat × Int) (List Tok)->Except (Nat × Int) (List Tok)
 |.error e => .error e
 |.ok ts => .ok (acc++ts)
noncomputable def scanW:Except (Nat × Int) (List Tok)->V
 |.ok ts => .tup [.sl 89 (ts.map tokD),.c (.int .i64 0),.c (.int .i64 0)]
 |.error x => .tup [.c (.slice none 0 0),.c (.int .i64 (x.1:Int)),.c (.int .i64 x.2)]
theorem zGF (r:Except (Nat × Int) (List Tok)):(scanW r).pure=true:=by cases r<;>rfl
noncomputable def HSn (s:List UInt8) (k:Nat) (acc:List Tok):Vst 44:=
 stS 44 [(0,.c (.string (bs s))),(5,.own 5 89 (acc.map tokD)),(6,.c (.int .i64 (k:Int)))] [(5,.tok 89 (acc.map tokD).length)]
theorem scan_big (s:List UInt8) (hs:65536<s.length) (hs2:s.length<=4000000000):AC EN5 Tryz.prog 23 [.c (.string (bs s))] (scanW (scanT s)):=by
 have hz:=zZ s
 have e:scanT s = .error (65536,4):=by unfold scanT;rw [if_pos hs]
 have f0:decide (((bs s).size:Int)>65536)=true:=decide_eq_true (by omega)
 rw [e]
 refine zM 44 Tryz.func23 rfl rfl rfl (zGF _) ?_
 intro s0 w he
 repeat' (first
|apply zG
 . conv=>lhs;whnf
 . assumption
|refine zA ?_
|refine zB ?_
|refine zH ?_
|apply aw_1
 conv=>whnf
 refine ⟨?_,trivial⟩
|apply s_1
 conv=>whnf;arg 1;arg 4;arg 3;whnf
 refine ⟨?_,?_⟩
|refine zN ?_
|refine zE ?_
|exact trivial)
 . exact ⟨_,_,_,rfl,rfl,rfl,rfl⟩
 all_goals exact (show Tryz.prog.underlying _=some TypeDesc.string by kernel_rfl)
theorem scan_ac (s:List UInt8) (hs:s.length<=4000000000):AC EN5 Tryz.prog 23 [.c (.string (bs s))] (scanW (scanT s)):=by
 by_cases hbig:65536<s.length
 . exact scan_big s hbig hs
 have hz:=zZ s
 have f0:decide (((bs s).size:Int)>65536)=false:=decide_eq_false (by omega)
 have hsk0:=skip_ac s 0 (by omega) (by omega)
 rw [Nat.zero_add,List.drop_zero] at hsk0
 have hkl:=zAb false s
 have e0:scanT s=zJM [] (scanG s.length (s.drop (skipM false s)) (skipM false s)):=by
  unfold scanT
  rw [if_neg hbig,zKS,Nat.zero_add]
  cases scanG s.length (s.drop (skipM false s)) (skipM false s)<;>rfl
 refine zM 44 Tryz.func23 rfl rfl rfl (zGF _) ?_
 intro s0 w he
 repeat' (first
|apply zF
 . conv=>lhs;whnf
 . assumption
|refine zA ?_
|refine zB ?_
|refine zH ?_
|apply aw_1
 conv=>whnf
 refine ⟨?_,trivial⟩
|apply s_1
 conv=>whnf;arg 1;arg 4;arg 3;whnf
 refine ⟨?_,?_⟩
|apply zY rfl
 . conv=>lhs;whnf
 . conv=>lhs;whnf
 . first | exact hsk0
|exact trivial)
 refine zi (Sub.own (t:=5) (e:=89) rfl rfl) ?_
 refine zf (fun j st => ∃ k acc f,k+j=s.length/\acc.length<=k/\s.length<f+k+1/\scanT s=zJM acc (scanG f (s.drop k) k)/\Sub (cx EN5 Tryz.prog s0 w he) st (HSn s k acc)) (s.length-skipM false s) ⟨skipM false s,[],s.length,by omega,by simp,by omega,e0,?_⟩ ?_
 . exact Sub.live ⟨rfl,rfl,rfl,trivial⟩ ⟨rfl,trivial⟩
 rintro j st ⟨k,acc,f,hkj,hacc,hf,hI,hs2⟩
 refine zi hs2 ?_
 clear hs2 hsk0
 rw [hI]
 clear hI e0
 by_cases hk:k<s.length
 . have f1:decide ((k:Int)<((bs s).size:Nat))=true:=decide_eq_true (by omega)
   have hrd:=read_ac hk (by omega)
   have hdr:s.drop k=s[k]::s.drop (k+1):=List.drop_eq_getElem_cons hk
   obtain ⟨r1,r2⟩:=zKY s[k] (s.drop (k+1)) k
   rw [hdr] at hrd |-
   cases hr:readU (s[k]::s.drop (k+1)) with
   |error e =>
    obtain ⟨he0,t',k',ht⟩:=r2 e hr
    rw [ht] at hrd
    unfold tupR at hrd
    have hrt:zC5 (s[k]::s.drop (k+1)) k = .error e:=by unfold zC5;rw [hr]
    have eG:scanG f (s[k]::s.drop (k+1)) k = .error (k,e):=by unfold scanG;simp only [hrt]
    rw [eG]
    have f2:(e != 0)=true:=by simpa using he0
    repeat' (first
|apply zG
 . conv=>lhs;whnf
 . assumption
|refine zA ?_
|refine zB ?_
|refine zH ?_
|apply aw_1
 conv=>whnf
 refine ⟨?_,trivial⟩
|apply s_1
 conv=>whnf;arg 1;arg 4;arg 3;whnf
 refine ⟨?_,?_⟩
|apply zY rfl
 . conv=>lhs;whnf
 . conv=>lhs;whnf
 . first | exact hrd
|apply zT rfl rfl rfl
 . conv=>lhs;whnf
 . conv=>lhs;whnf;arg 1;whnf
 . conv=>lhs;whnf;arg 1;whnf
 . exact ⟨by kernel_rfl,by kernel_rfl⟩
 . rfl
|refine zN ?_
|refine zP ?_
|refine zg ?_
|refine zE ?_
|exact trivial)
    . exact ⟨_,_,_,rfl,rfl,rfl,rfl⟩
    all_goals exact (show Tryz.prog.underlying _=some TypeDesc.string by kernel_rfl)
   |ok p =>
    obtain ⟨kk,t,n⟩:=p
    have hn:=zBK hr
    have hdl:(s[k]::s.drop (k+1)).length=s.length-k:=by rw [<- hdr,List.length_drop]
    rw [hdl] at hn
    rw [r1 kk t n hr] at hrd
    unfold tupR at hrd
    have hsk:=skip_ac s (k+n) (by omega) (by omega)
    have hsl:=zAb false (s.drop (k+n))
    rw [List.length_drop] at hsl
    have hrt:zC5 (s[k]::s.drop (k+1)) k = .ok (⟨kk,t,k⟩,n):=by unfold zC5;rw [hr]
    obtain ⟨f',rfl⟩ : ∃ f',f=f'+1:=⟨f-1,by omega⟩
    have hdn:(s[k]::s.drop (k+1)).drop n=s.drop (k+n):=by rw [<- hdr,List.drop_drop]
    have eG:zJM acc (scanG (f'+1) (s[k]::s.drop (k+1)) k)=zJM (acc++[⟨kk,t,k⟩]) (scanG f' (s.drop (k+n+skipM false (s.drop (k+n)))) (k+n+skipM false (s.drop (k+n)))):=by
     conv=>lhs;unfold scanG
     simp only [hrt,hdn]
     rw [zKS,List.drop_drop]
     cases scanG f' (s.drop (k+n+skipM false (s.drop (k+n)))) (k+n+skipM false (s.drop (k+n))) with
     |error x=>rfl
     |ok ts=>show Except.ok (acc++_::ts)=Except.ok ((acc++[_])++ts);rw [List.append_assoc];rfl
    rw [eG]
    repeat' (first
|apply zE3 [tokD ⟨kk,t,k⟩] rfl rfl
 . conv=>lhs;whnf
 . first | exact zHg | (conv=>lhs;whnf;arg 1;whnf)
 . rfl
 . rfl
 . repeat' (first | exact trivial | apply And.intro | rfl)
|apply zG
 . conv=>lhs;whnf
 . assumption
|refine zA ?_
|refine zB ?_
|refine zH ?_
|refine zW ?_
|apply aw_1
 conv=>whnf
 refine ⟨?_,trivial⟩
|apply s_1
 conv=>whnf;arg 1;arg 4;arg 3;whnf
 refine ⟨?_,?_⟩
|apply zY rfl
 . conv=>lhs;whnf
 . conv=>lhs;whnf
 . first | exact hrd | exact hsk
|apply zT rfl rfl rfl
 . conv=>lhs;whnf
 . conv=>lhs;whnf;arg 1;whnf
 . conv=>lhs;whnf;arg 1;whnf
 . exact ⟨by kernel_rfl,by kernel_rfl⟩
 . rfl
|apply zDb rfl rfl
 . conv=>lhs;whnf
 . first | exact zHg | (conv=>lhs;whnf;arg 1;whnf)
 . first | exact fun _=>rfl | (intro _;kernel_rfl)
 . conv=>lhs;whnf
 . conv=>lhs;whnf;arg 1;whnf
 . conv=>lhs;whnf
|exact trivial)
    . refine zI (j':=j-(n+skipM false (s.drop (k+n)))) (by omega) ⟨k+n+skipM false (s.drop (k+n)),acc++[⟨kk,t,k⟩],f',by omega,by rw [List.length_append];simp only [List.length_cons,List.length_nil];omega,by omega,rfl,Sub.live ⟨rfl,?_,rfl,trivial⟩ ⟨?_,trivial⟩⟩
      . show V.own 5 _ (acc.map tokD++[tokD ⟨kk,t,k⟩])=V.own 5 _ ((acc++[(⟨kk,t,k⟩:Tok)]).map tokD)
        rw [List.map_append];rfl
      . show some (Res.tok _ ((acc.map tokD).length+1))=some (Res.tok _ ((acc++[(⟨kk,t,k⟩:Tok)]).map tokD).length)
        simp
    . refine ⟨by simp,?_,?_⟩<;>simp only [List.length_cons,List.length_nil,List.length_map,maxLen]<;>omega
    . exact (show Tryz.prog.underlying _=some TypeDesc.string by kernel_rfl)
 . have f1:decide ((k:Int)<((bs s).size:Nat))=false:=decide_eq_false (by omega)
   have hdr:s.drop k=[]:=List.drop_of_length_le (by omega)
   rw [hdr]
   have ek:k=s.length:=by omega
   repeat' (first
|apply zE3 [tokD ⟨5,[],(bs s).size⟩] rfl rfl
 . conv=>lhs;whnf
 . first | exact zHg | (conv=>lhs;whnf;arg 1;whnf)
 . rfl
 . rfl
 . repeat' (first | exact trivial | apply And.intro | rfl)
|apply zF
 . conv=>lhs;whnf
 . assumption
|refine zA ?_
|refine zB ?_
|refine zH ?_
|apply aw_1
 conv=>whnf
 refine ⟨?_,trivial⟩
|apply s_1
 conv=>whnf;arg 1;arg 4;arg 3;whnf
 refine ⟨?_,?_⟩
|apply zDb rfl rfl
 . conv=>lhs;whnf
 . first | exact zHg | (conv=>lhs;whnf;arg 1;whnf)
 . first | exact fun _=>rfl | (intro _;kernel_rfl)
 . conv=>lhs;whnf
 . conv=>lhs;whnf;arg 1;whnf
 . conv=>lhs;whnf
|refine zL ?_
|refine zJ rfl ?_
|refine zK ?_
|refine zE ?_
|exact trivial)
   . refine ⟨_,_,_,rfl,rfl,rfl,?_⟩
     show V.tup [.sl 89 ((acc++[(⟨5,[],k⟩:Tok)]).map tokD),.c (.int .i64 0),.c (.int .i64 0)]=V.tup [.sl 89 (acc.map tokD++[tokD ⟨5,[],(bs s).size⟩]),.c (.int .i64 0),.c (.int .i64 0)]
     rw [ek,hz,List.map_append];rfl
   . refine ⟨by simp,?_,?_⟩<;>simp only [List.length_cons,List.length_nil,List.length_map,maxLen]<;>omega
   all_goals exact (show Tryz.prog.underlying _=some TypeDesc.string by kernel_rfl)
 exact (show Tryz.prog.underlying _=some TypeDesc.string by kernel_rfl)
end
section
def sInD (n:List UInt8) (t:D) (h:Bool) (v:D) (ds:List D):D:=.obj [strD n,t,.bool h,v,.list ds]
def sFdD (n:List UInt8) (aa:List D) (t:D) (ds:List D):D:=.obj [strD n,.list aa,t,.list ds]
def sMbD (n:List UInt8) (ds:List D):D:=.obj [strD n,.list ds]
def sDfD (k:Int) (n:List UInt8) (im ds fs ms ins:List D):D:=.obj [.int k,strD n,.list im,.list ds,.list fs,.list ms,.list ins]
def zA2 (l:List D):D:=.obj [.list l]
def manyF (el:PS->PR D) (e:List UInt8) (most:Nat):Nat->List D->PS->PR (List D)
 |0,_,x => .error ((hdT x).i,0)
 |f+1,acc,x =>
  if acc.length≠0/\isS x e=true then .ok (acc,nxT x)
  else if (hdT x).k=2/\most<=acc.length then .error ((hdT x).i,4)
  else zb (el x) fun a y=>manyF el e most f (acc++[a]) y
def argQ (x:PS):PR D:=zb (nameQ x) fun n y=>zb (takeQ [58] y) fun _ z=>zb (zAO z) fun v u => .ok (argD n v,u)
theorem zDG {α β γ:Type} (r:PR α) (f:α->PS->PR β) (g:β->PS->PR γ):zb (zb r f) g=zb r fun a x=>zb (f a x) g:=by
 cases r<;>rfl
theorem zDO : ∀ (f:Nat) (acc:List D) (x:PS),zC6 f acc x=manyF argQ [41] 16 f acc x
 |0,_,_=>rfl
 |f+1,acc,x=>by
  unfold zC6 manyF argQ
  split
  . rfl
  split
  . rfl
  . simp only [zDG]
    congr 1;funext n y;congr 1;funext _ z;congr 1;funext v u
    exact zDO f _ _
def inQ (x:PS):PR D:=
 zb (nameQ x) fun n y=>zb (takeQ [58] y) fun _ z=>zb (typQ z) fun t u =>
  zb (if isS u [61]=true then zb (zAO (nxT u)) fun d o => .ok ((true,d),o) else .ok ((false,zER),u)) fun d v =>
   zb (zAQ v) fun ds w => .ok (sInD n t d.1 d.2 ds,w)
def insQ (e:List UInt8) (x:PS):PR (List D):=manyF inQ e 16 (x.ts.length+1) [] x
def fdQ (x:PS):PR D:=
 zb (nameQ x) fun n y=>zb (if isS y [40]=true then insQ [41] (nxT y) else .ok ([],y)) fun aa z =>
  zb (takeQ [58] z) fun _ u=>zb (typQ u) fun t v=>zb (zAQ v) fun ds w => .ok (sFdD n aa t ds,w)
def mbQ (x:PS):PR D:=zb (nameQ x) fun n y=>zb (zAQ y) fun ds z => .ok (sMbD n ds,z)
def fdsQ (x:PS):PR (List D):=manyF fdQ [125] 64 (x.ts.length+1) [] x
def mbsQ (x:PS):PR (List D):=manyF mbQ [125] 64 (x.ts.length+1) [] x
def namesF (s:List UInt8):Nat->List D->PS->PR (List D)
 |0,_,x => .error ((hdT x).i,0)
 |f+1,acc,x =>
  if (hdT x).k=2/\64<=acc.length then .error ((hdT x).i,4)
  else zb (nameQ x) fun n y=>if isS y s=true then namesF s f (acc++[strD n]) (nxT y) else .ok (acc++[strD n],y)
def zA0 (s:List UInt8) (x:PS):PR (List D):=namesF s (x.ts.length+1) [] x
def implT:List UInt8:=[105,109,112,108,101,109,101,110,116,115]
def zJU:List UInt8:=[116,121,112,101]
def zGV:List UInt8:=[105,110,116,101,114,102,97,99,101]
def zH5:List UInt8:=[117,110,105,111,110]
def enumT:List UInt8:=[101,110,117,109]
def inputT:List UInt8:=[105,110,112,117,116]
def zAk (s:List UInt8):Int:=if s=zJU then 1 else if s=zGV then 2 else if s=zH5 then 3 else if s=enumT then 4 else if s=inputT then 5 else 0
def zAo (k:Int) (x:PS):PR (List D):=if k=1/\(hdT x).k=2/\(hdT x).s=implT then zA0 [38] (nxT x) else .ok ([],x)
def mbOf (d:D):D:=.obj [d,.list []]
def zBF (k:Int) (x:PS):PR (List D × List D × List D):=
 if k=3 then zb (takeQ [61] x) fun _ y=>zb (zA0 [124] y) fun l z => .ok (([],l.map mbOf,[]),z)
 else zb (takeQ [123] x) fun _ y =>
  if k=5 then zb (insQ [125] y) fun l z => .ok (([],[],l),z)
  else if k=4 then zb (mbsQ y) fun l z => .ok (([],l,[]),z)
  else zb (fdsQ y) fun l z => .ok ((l,[],[]),z)
def zBQ (k:Int) (x:PS):PR D:=
 zb (nameQ x) fun n y=>zb (zAo k y) fun im z=>zb (zAQ z) fun ds u=>zb (zBF k u) fun b v =>
  .ok (sDfD k n im ds b.1 b.2.1 b.2.2,v)
def sdocF:Nat->List D->PS->PR (List D)
 |0,_,x => .error ((hdT x).i,0)
 |f+1,acc,x =>
  if acc.length≠0/\(hdT x).k=5 then .ok (acc,x)
  else if ¬ ((hdT x).k=2/\0<zAk (hdT x).s) then .error ((hdT x).i,3)
  else if 64<=acc.length then .error ((hdT x).i,4)
  else zb (zBQ (zAk (hdT x).s) (nxT x)) fun d y=>sdocF f (acc++[d]) y
def sdocQ (ts:List Tok):PR (List D):=sdocF (ts.length+1) [] ⟨ts,false,0⟩
def parseD (l:List UInt8):Except (Nat × Int) D:=
 match scanT l with
 |.error e => .error e
 |.ok ts=>match sdocQ ts with
  |.error e => .error e
  |.ok (q,_) => .ok (zA2 q)
theorem zKq (s:List UInt8):0<=zAk s/\zAk s<=5:=by
 unfold zAk
 repeat' split
 all_goals decide
structure J (e:Tok) (r:List Tok) (a:List Tok) (x x':PS):Prop where
 l:x.ts=a++[e]
 r:x'.ts=a++r
 vr:x'.vr=x.vr
 nd:x'.nd=x.nd
def LO (e:Tok) (r:List Tok) {α:Type} (a:List Tok) (p p':PR α):Prop:=
 ∀ v y,p = .ok (v,y) -> ∃ b,(∃ d,a=d++b)/\y.ts=b++[e]/\(b≠[] -> ∃ y',p' = .ok (v,y')/\J e r b y y')
def LS (e:Tok) (r:List Tok) {α:Type} (a:List Tok) (p p':PR α):Prop:=
 ∀ v y,p = .ok (v,y) -> ∃ b y',(∃ t d,a=t::d++b)/\p' = .ok (v,y')/\J e r b y y'
structure Ends (e:Tok) (r:List Tok):Prop where
 k:e.k=5
 r:r≠[]
section
variable {e:Tok} {r:List Tok} {α β:Type}
theorem LS.lo {a:List Tok} {p p':PR α} (h:LS e r a p p'):LO e r a p p':=fun v y hp=>by
 obtain ⟨b,y',⟨t,d,hd⟩,h1,h2⟩:=h v y hp
 exact ⟨b,⟨t::d,hd⟩,h2.l,fun _=>⟨y',h1,h2⟩⟩
theorem LO.zero {p p' p'':PR α} (h:LO e r [] p p'):LO e r [] p p'':=fun v y hp=>by
 obtain ⟨b,⟨d,hd⟩,h1,h2⟩:=h v y hp
 have:b=[]:=(List.append_eq_nil_iff.1 hd.symm).2
 subst this
 exact ⟨[],⟨[],rfl⟩,h1,fun h=>(h rfl).elim⟩
theorem LS.zero {p p' p'':PR α} (h:LS e r [] p p'):LS e r [] p p'':=fun v y hp=>by
 obtain ⟨b,y',⟨t,d,hd⟩,-⟩:=h v y hp
 cases hd
theorem LO.err {a:List Tok} {q:Nat × Int} {p':PR α}:LO e r a (.error q) p':=fun _ _ h=>by cases h
theorem LS.err {a:List Tok} {q:Nat × Int} {p':PR α}:LS e r a (.error q) p':=fun _ _ h=>by cases h
theorem LO.okk {a:List Tok} {x x':PS} (h:J e r a x x') (v:α):LO e r a (.ok (v,x)) (.ok (v,x')):=fun w y hp=>by
 cases hp
 exact ⟨a,⟨[],rfl⟩,h.l,fun _=>⟨x',rfl,h⟩⟩
theorem LO.mono {a b:List Tok} {p p':PR α} (h:LO e r b p p') (hab : ∃ d,a=d++b):LO e r a p p':=fun v y hp=>by
 obtain ⟨c,⟨d,hd⟩,h1⟩:=h v y hp
 obtain ⟨d2,hd2⟩:=hab
 exact ⟨c,⟨d2++d,by rw [hd2,hd,List.append_assoc]⟩,h1⟩
theorem LS.mono {a b:List Tok} {p p':PR α} (h:LS e r b p p') (hab : ∃ d,a=d++b):LS e r a p p':=fun v y hp=>by
 obtain ⟨c,y',⟨t,d,hd⟩,h1⟩:=h v y hp
 obtain ⟨d2,hd2⟩:=hab
 cases d2 with
 |nil=>exact ⟨c,y',⟨t,d,by rw [hd2,hd];rfl⟩,h1⟩
 |cons t2 d2=>exact ⟨c,y',⟨t2,d2++t::d,by rw [hd2,hd];simp⟩,h1⟩
theorem LS.okn {t:Tok} {a:List Tok} {x x':PS} (h:J e r a x x') (v:α):LS e r (t::a) (.ok (v,x)) (.ok (v,x')):=fun w y hp=>by
 cases hp
 exact ⟨a,x',⟨t,[],rfl⟩,rfl,h⟩
theorem LO.ite {a:List Tok} {c c':Prop} [Decidable c] [Decidable c'] {A A' B B':PR α} (hc:a≠[]->(c ↔ c')) (h1:c->LO e r a A A') (h2 : ¬ c->LO e r a B B'):LO e r a (if c then A else B) (if c' then A' else B'):=by
 by_cases ha:a=[]
 . subst ha
   by_cases h:c
   . rw [if_pos h];exact (h1 h).zero
   . rw [if_neg h];exact (h2 h).zero
 . by_cases h:c
   . rw [if_pos h,if_pos ((hc ha).1 h)];exact h1 h
   . rw [if_neg h,if_neg fun h'=>h ((hc ha).2 h')];exact h2 h
theorem LS.ite {a:List Tok} {c c':Prop} [Decidable c] [Decidable c'] {A A' B B':PR α} (hc:a≠[]->(c ↔ c')) (h1:c->LS e r a A A') (h2 : ¬ c->LS e r a B B'):LS e r a (if c then A else B) (if c' then A' else B'):=by
 by_cases ha:a=[]
 . subst ha
   by_cases h:c
   . rw [if_pos h];exact (h1 h).zero
   . rw [if_neg h];exact (h2 h).zero
 . by_cases h:c
   . rw [if_pos h,if_pos ((hc ha).1 h)];exact h1 h
   . rw [if_neg h,if_neg fun h'=>h ((hc ha).2 h')];exact h2 h
theorem LO.then {a:List Tok} {p p':PR α} {f f':α->PS->PR β} (h:LO e r a p p') (hf : ∀ v b y y',J e r b y y'->LO e r b (f v y) (f' v y')):LO e r a (zb p f) (zb p' f'):=fun w z hp=>by
 cases hpp:p with
 |error q=>rw [hpp] at hp;cases hp
 |ok q =>
  obtain ⟨v,y⟩:=q
  obtain ⟨b,hab,h1,h2⟩:=h v y hpp
  rw [hpp] at hp
  have hp:f v y = .ok (w,z):=hp
  by_cases hb:b=[]
  . subst hb
    obtain ⟨c,⟨d,hd⟩,h3,-⟩:=hf v [] y ⟨r,y.vr,y.nd⟩ ⟨h1,rfl,rfl,rfl⟩ w z hp
    have:c=[]:=(List.append_eq_nil_iff.1 hd.symm).2
    subst this
    exact ⟨[],hab,h3,fun h=>(h rfl).elim⟩
  . obtain ⟨y',h3,h4⟩:=h2 hb
    rw [h3]
    exact ((hf v b y y' h4).mono hab) w z hp
theorem LS.then {a:List Tok} {p p':PR α} {f f':α->PS->PR β} (h:LO e r a p p') (hf : ∀ v b y y',J e r b y y'->LS e r b (f v y) (f' v y')):LS e r a (zb p f) (zb p' f'):=fun w z hp=>by
 cases hpp:p with
 |error q=>rw [hpp] at hp;cases hp
 |ok q =>
  obtain ⟨v,y⟩:=q
  obtain ⟨b,hab,h1,h2⟩:=h v y hpp
  rw [hpp] at hp
  have hp:f v y = .ok (w,z):=hp
  by_cases hb:b=[]
  . subst hb
    obtain ⟨c,y',⟨t,d,hd⟩,-⟩:=hf v [] y ⟨r,y.vr,y.nd⟩ ⟨h1,rfl,rfl,rfl⟩ w z hp
    cases hd
  . obtain ⟨y',h3,h4⟩:=h2 hb
    rw [h3]
    exact ((hf v b y y' h4).mono hab) w z hp
theorem LS.pure {a:List Tok} {p p':PR α} {f f':α->PS->PR β} (h:LS e r a p p') (hf : ∀ v b y y',J e r b y y' -> ∃ w z z',f v y = .ok (w,z)/\f' v y' = .ok (w,z')/\J e r b z z'):LS e r a (zb p f) (zb p' f'):=fun w z hp=>by
 cases hpp:p with
 |error q=>rw [hpp] at hp;cases hp
 |ok q =>
  obtain ⟨v,y⟩:=q
  obtain ⟨b,y',hab,h1,h2⟩:=h v y hpp
  rw [hpp] at hp
  have hp:f v y = .ok (w,z):=hp
  obtain ⟨w2,z2,z',h3,h4,h5⟩:=hf v b y y' h2
  rw [hp] at h3
  cases h3
  rw [h1]
  exact ⟨b,z',hab,h4,h5⟩
variable (hE:Ends e r)
theorem J.hd {a:List Tok} {x x':PS} (h:J e r a x x') (ha:a≠[]):hdT x'=hdT x:=by
 cases a with
 |nil=>exact (ha rfl).elim
 |cons t a=>unfold hdT;rw [h.l,h.r];rfl
theorem J.sg {a:List Tok} {x x':PS} (h:J e r a x x') (s:List UInt8) (ha:a≠[]):isS x s=true ↔ isS x' s=true:=by
 unfold isS;rw [h.hd ha]
include hE
theorem J.k5 {x x':PS} (h:J e r [] x x'):(hdT x).k=5:=by unfold hdT;rw [h.l];exact hE.k
theorem J.ne_of_k {a:List Tok} {x x':PS} (h:J e r a x x') (hk:(hdT x).k≠5) : ∃ t a',a=t::a'/\J e r a' (nxT x) (nxT x'):=by
 cases a with
 |nil=>exact (hk (h.k5 hE)).elim
 |cons t a =>
  have h1:=h.hd (by simp)
  refine ⟨t,a,rfl,?_⟩
  unfold nxT
  rw [h1,if_neg hk,if_neg hk]
  exact ⟨by show x.ts.drop 1=_;rw [h.l];rfl,by show x'.ts.drop 1=_;rw [h.r];rfl,h.vr,h.nd⟩
theorem J.ne_of_isS {a:List Tok} {x x':PS} (h:J e r a x x') {s:List UInt8} (hs:isS x s=true) : ∃ t a',a=t::a'/\J e r a' (nxT x) (nxT x'):=by
 refine h.ne_of_k hE ?_
 unfold isS at hs
 simp only [Bool.and_eq_true,beq_iff_eq] at hs
 rw [hs.1];decide
theorem J.len {a:List Tok} {x x':PS} (h:J e r a x x'):x.ts.length<=x'.ts.length:=by
 rw [h.l,h.r,List.length_append,List.length_append]
 have:0<r.length:=List.length_pos_iff.2 hE.r
 simp;omega
theorem zAe {a:List Tok} {x x':PS} (h:J e r a x x') (s:List UInt8):LS e r a (takeQ s x) (takeQ s x'):=by
 unfold takeQ
 refine .ite (h.sg s) (fun hs => ?_) fun _ => .err
 obtain ⟨t,a',rfl,h'⟩:=h.ne_of_isS hE hs
 exact .okn h' _
theorem zAL {a:List Tok} {x x':PS} (h:J e r a x x'):LS e r a (nameQ x) (nameQ x'):=by
 unfold nameQ
 refine .ite (fun ha=>by rw [h.hd ha]) (fun hk => ?_) fun _ => .err
 obtain ⟨t,a',rfl,h'⟩:=h.ne_of_k hE (by rw [hk];decide)
 rw [h.hd (by simp)]
 exact .okn h' _
theorem open_j : ∀ (f g:Nat) {a:List Tok} {x x':PS},J e r a x x'->x.ts.length<=f->x'.ts.length<=g -> ∃ b,(∃ d,a=d++b)/\(openQ f x).2.ts=b++[e]/\(b≠[]->(openQ g x').1=(openQ f x).1/\J e r b (openQ f x).2 (openQ g x').2)
 |0,g,a,x,x',h,hf,_=>by rw [h.l] at hf;simp at hf
 |f+1,0,a,x,x',h,_,hg=>by have:=h.len hE;rw [h.l] at this;simp at this;omega
 |f+1,g+1,a,x,x',h,hf,hg=>by
  by_cases hs:isS x [91]=true
  . obtain ⟨t,a',rfl,h'⟩:=h.ne_of_isS hE hs
    have hs':=(h.sg [91] (by simp)).1 hs
    have e1:openQ (f+1) x=((openQ f (nxT x)).1+1,(openQ f (nxT x)).2):=by rw [openQ,if_pos hs]
    have e2:openQ (g+1) x'=((openQ g (nxT x')).1+1,(openQ g (nxT x')).2):=by rw [openQ,if_pos hs']
    rw [e1,e2]
    obtain ⟨b,⟨d,hd⟩,h1,h2⟩:=open_j f g h' (by rw [h'.l];rw [h.l] at hf;simpa using hf) (by rw [h'.r];rw [h.r] at hg;simpa using hg)
    exact ⟨b,⟨t::d,by rw [hd];rfl⟩,h1,fun hb=>⟨by rw [(h2 hb).1],(h2 hb).2⟩⟩
  . have e1:openQ (f+1) x=(0,x):=by rw [openQ,if_neg hs]
    rw [e1]
    refine ⟨a,⟨[],rfl⟩,h.l,fun ha => ?_⟩
    have e2:openQ (g+1) x'=(0,x'):=by rw [openQ,if_neg fun hq=>hs ((h.sg [91] ha).2 hq)]
    rw [e2]
    exact ⟨rfl,h⟩
theorem zHp : ∀ (n:Nat) (w:List Int) {a:List Tok} {x x':PS},J e r a x x'->LO e r a (closeQ n w x) (closeQ n w x')
 |0,w,a,x,x',h=>by
  have e1 : ∀ x,closeQ 0 w x=if isS x [33]=true then .ok (1::w,nxT x) else .ok (w,x):=fun x=>by unfold closeQ;split<;>rfl
  rw [e1,e1]
  refine .ite (h.sg _) (fun hs => ?_) fun _ => .okk h _
  obtain ⟨t,a',rfl,h'⟩:=h.ne_of_isS hE hs
  exact (LS.okn h' _).lo
 |n+1,w,a,x,x',h=>by
  have e1 : ∀ x,closeQ (n+1) w x=if isS x [33]=true then zb (takeQ [93] (nxT x)) fun _ y=>closeQ n (2::1::w) y else zb (takeQ [93] x) fun _ y=>closeQ n (2::w) y:=fun x=>by
   rw [closeQ];split<;>rfl
  rw [e1,e1]
  refine .ite (h.sg _) (fun hs => ?_) fun _ => .then (zAe hE h _).lo fun _ _ _ _ hy=>zHp n _ hy
  obtain ⟨t,a',rfl,h'⟩:=h.ne_of_isS hE hs
  exact (LO.then (zAe hE h' _).lo fun _ _ _ _ hy=>zHp n _ hy).mono ⟨[t],rfl⟩
theorem inner_lo {a:List Tok} {x x':PS} (h:J e r a x x'):LO e r a (zAh x) (zAh x'):=by
 obtain ⟨b,hab,h1,h2⟩:=open_j hE x.ts.length x'.ts.length h (Nat.le_refl _) (Nat.le_refl _)
 unfold zAh
 by_cases hb:b=[]
 . subst hb
   intro v y hp
   have hk:nameQ (openQ x.ts.length x).2 = .error ((hdT (openQ x.ts.length x).2).i,3):=by
    unfold nameQ
    rw [if_neg]
    unfold hdT
    rw [h1]
    show ¬ e.k=2
    rw [hE.k];decide
   rw [hk] at hp
   cases hp
 . obtain ⟨h3,h4⟩:=h2 hb
   rw [h3]
   refine LO.mono (b:=b) ?_ hab
   exact .then (zAL hE h4).lo fun _ _ _ _ hy => .then (zHp hE _ _ hy) fun _ _ _ _ hz => .okk hz _
theorem zF6 {a:List Tok} {x x':PS} (h:J e r a x x'):LO e r a (typQ x) (typQ x'):=
 .then (inner_lo hE h) fun _ _ _ _ hy => .ite (fun _=>Iff.rfl) (fun _ => .err) fun _ => .okk hy _
theorem zHW {v v':PS->PR D} (hv : ∀ {a:List Tok} {x x':PS},J e r a x x'->LO e r a (v x) (v' x')) : ∀ (f g:Nat) (acc:List D) {a:List Tok} {x x':PS},f<=g->J e r a x x'->LS e r a (itemsQ v f acc x) (itemsQ v' g acc x')
 |0,_,_,_,_,_,_,_ => .err
 |f+1,0,_,_,_,_,hfg,_=>by omega
 |f+1,g+1,acc,a,x,x',hfg,h=>by
  unfold itemsQ
  refine .ite (h.sg _) (fun hs => ?_) fun _ => .then (hv h) fun _ _ _ _ hy=>zHW hv f g _ (by omega) hy
  obtain ⟨t,a',rfl,h'⟩:=h.ne_of_isS hE hs
  exact .okn h' _
theorem zFQ {v v':PS->PR D} (hv : ∀ {a:List Tok} {x x':PS},J e r a x x'->LO e r a (v x) (v' x')) : ∀ (f g:Nat) (ks:List (List UInt8)) (acc:List D) {a:List Tok} {x x':PS},f<=g->J e r a x x'->LS e r a (zu v f ks acc x) (zu v' g ks acc x')
 |0,_,_,_,_,_,_,_,_ => .err
 |f+1,0,_,_,_,_,_,hfg,_=>by omega
 |f+1,g+1,ks,acc,a,x,x',hfg,h=>by
  unfold zu
  refine .ite (h.sg _) (fun hs => ?_) fun _ => .then (zAL hE h).lo fun k _ _ _ hy => .ite (fun _=>Iff.rfl) (fun _ => .err) fun _ => .then (zAe hE hy _).lo fun _ _ _ _ hz => .then (hv hz) fun _ _ _ _ hu=>zFQ hv f g _ _ (by omega) hu
  obtain ⟨t,a',rfl,h'⟩:=h.ne_of_isS hE hs
  exact .okn h' _
theorem zB2 : ∀ (f lv:Nat) {a:List Tok} {x x':PS},J e r a x x'->LO e r a (valueQ f lv x) (valueQ f lv x')
 |0,_,_,_,_,_ => .err
 |f+1,lv,a,x,x',h=>by
  by_cases ha:a=[]
  . intro v y hp
    subst ha
    have hk:=h.k5 hE
    unfold valueQ at hp
    rw [if_pos (by unfold zBU;rw [hk];rfl)] at hp
    cases hp
  . have hh:=h.hd ha
    have hn:zBU x'=zBU x:=by unfold zBU isS;rw [hh,h.vr]
    unfold valueQ
    rw [hn,hh,h.nd]
    refine .ite (fun _=>Iff.rfl) (fun _ => .err) fun hno => ?_
    obtain ⟨t,a',rfl,h'⟩:=h.ne_of_k hE (fun hk=>hno (by unfold zBU;rw [hk];rfl))
    have hy:J e r a' { nxT x with nd:=x.nd+1 } { nxT x' with nd:=x.nd+1 }:=⟨h'.l,h'.r,h'.vr,rfl⟩
    have hlen:(nxT x).ts.length<=(nxT x').ts.length:=h'.len hE
    refine .ite (fun _=>Iff.rfl) (fun _ => .err) fun _ => .ite (fun _=>Iff.rfl) (fun _ => .err) fun _ => ?_
    dsimp only
    refine LO.mono (b:=a') ?_ ⟨[t],rfl⟩
    refine .ite (fun _=>Iff.rfl) (fun _ => .okk hy _) fun _ => .ite (fun _=>Iff.rfl) (fun _ => .okk hy _) fun _ => .ite (fun _=>Iff.rfl) (fun _ => .okk hy _) fun _ => .ite (fun _=>Iff.rfl) (fun _ => .then (zAL hE hy).lo fun _ _ _ _ hz => .okk hz _) fun _ => .ite (fun _=>Iff.rfl) (fun _ => ?_) fun _ => ?_
    . exact .then (zHW hE (fun h=>zB2 f (lv+1) h) _ _ _ (by omega) hy).lo fun _ _ _ _ hz => .okk hz _
    . exact .then (zFQ hE (fun h=>zB2 f (lv+1) h) _ _ _ _ (by omega) hy).lo fun _ _ _ _ hz => .okk hz _
theorem zCp {a:List Tok} {x x':PS} (h:J e r a x x'):LO e r a (zAO x) (zAO x'):=zB2 hE _ _ ⟨h.l,h.r,h.vr,rfl⟩
theorem zLf : ∀ (f g:Nat) (acc:List D) {a:List Tok} {x x':PS},f<=g->J e r a x x'->LS e r a (zC6 f acc x) (zC6 g acc x')
 |0,_,_,_,_,_,_,_ => .err
 |f+1,0,_,_,_,_,hfg,_=>by omega
 |f+1,g+1,acc,a,x,x',hfg,h=>by
  unfold zC6
  refine .ite (fun ha=>by rw [h.sg _ ha]) (fun hs => ?_) fun _ => .ite (fun ha=>by rw [h.hd ha]) (fun _ => .err) fun _ => .then (zAL hE h).lo fun _ _ _ _ hy => .then (zAe hE hy _).lo fun _ _ _ _ hz => .then (zCp hE hz) fun _ _ _ _ hu=>zLf f g _ (by omega) hu
  obtain ⟨t,a',rfl,h'⟩:=h.ne_of_isS hE hs.2
  exact .okn h' _
theorem zHt {a:List Tok} {x x':PS} (h:J e r a x x'):LO e r a (zBc x) (zBc x'):=by
 unfold zBc
 refine .ite (h.sg _) (fun hs => ?_) fun _ => .okk h _
 obtain ⟨t,a',rfl,h'⟩:=h.ne_of_isS hE hs
 exact (zLf hE _ _ _ (h.len hE) h').lo.mono ⟨[t],rfl⟩
theorem zLK : ∀ (f g:Nat) (acc:List D) {a:List Tok} {x x':PS},f<=g->J e r a x x'->LO e r a (dirsF f acc x) (dirsF g acc x')
 |0,_,_,_,_,_,_,_ => .err
 |f+1,0,_,_,_,_,hfg,_=>by omega
 |f+1,g+1,acc,a,x,x',hfg,h=>by
  unfold dirsF
  refine .ite (h.sg _) (fun hs => ?_) fun _ => .okk h _
  obtain ⟨t,a',rfl,h'⟩:=h.ne_of_isS hE hs
  exact LO.mono (b:=a') (.ite (fun _=>Iff.rfl) (fun _ => .err) fun _ => .then (zAL hE h').lo fun _ _ _ _ hy => .then (zHt hE hy) fun _ _ _ _ hz=>zLK f g _ (by omega) hz) ⟨[t],rfl⟩
theorem zBZ {a:List Tok} {x x':PS} (h:J e r a x x'):LO e r a (zAQ x) (zAQ x'):=zLK hE _ _ _ (by have:=h.len hE;omega) h
theorem sel_lo {v v':PS->PR (List D)} (hv : ∀ {a:List Tok} {x x':PS},J e r a x x'->LO e r a (v x) (v' x')) {a:List Tok} {x x':PS} (h:J e r a x x'):LO e r a (selQ v x) (selQ v' x'):=by
 unfold selQ
 refine .ite (h.sg _) (fun hs => ?_) fun _ => ?_
 . obtain ⟨t,a',rfl,h'⟩:=h.ne_of_isS hE hs
   refine LO.mono (b:=a') ?_ ⟨[t],rfl⟩
   dsimp only
   refine .ite (fun ha=>by rw [h'.hd ha]) (fun hk => ?_) fun _ => ?_
   . obtain ⟨t2,a2,rfl,h2⟩:=h'.ne_of_k hE (by rw [hk.1];decide)
     rw [h'.hd (by simp)]
     exact LO.mono (b:=a2) (.then (zBZ hE h2) fun _ _ _ _ hz => .okk hz _) ⟨[t2],rfl⟩
   . refine .then (.ite (fun ha=>by rw [h'.hd ha]) (fun hk => ?_) fun _ => .okk h' _) fun _ _ _ _ hz => .then (zBZ hE hz) fun _ _ _ _ hu => .then (hv hu) fun _ _ _ _ ho => .okk ho _
     obtain ⟨t2,a2,rfl,h2⟩:=h'.ne_of_k hE (by rw [hk];decide)
     exact (zAL hE h2).lo.mono ⟨[t2],rfl⟩
 . refine .then (zAL hE h).lo fun n _ y y' hy => .then (.ite (hy.sg _) (fun hs => ?_) fun _ => .okk hy _) fun _ _ _ _ hz => .then (zHt hE hz) fun _ _ _ _ hu => .then (zBZ hE hu) fun _ _ _ _ hw => .then (.ite (hw.sg _) (fun _=>hv hw) fun _ => .okk hw _) fun _ _ _ _ ho => .okk ho _
   obtain ⟨t2,a2,rfl,h2⟩:=hy.ne_of_isS hE hs
   exact LO.mono (b:=a2) (.then (zAL hE h2).lo fun _ _ _ _ hz => .okk hz _) ⟨[t2],rfl⟩
theorem setF_ls {v v':PS->PR D} (hv : ∀ {a:List Tok} {x x':PS},J e r a x x'->LO e r a (v x) (v' x')) : ∀ (f g:Nat) (acc:List D) {a:List Tok} {x x':PS},f<=g->J e r a x x'->LS e r a (setF v f acc x) (setF v' g acc x')
 |0,_,_,_,_,_,_,_ => .err
 |f+1,0,_,_,_,_,hfg,_=>by omega
 |f+1,g+1,acc,a,x,x',hfg,h=>by
  unfold setF
  refine .ite (fun ha=>by rw [h.sg _ ha]) (fun hs => ?_) fun _ => .ite (fun ha=>by rw [h.hd ha,h.sg _ ha]) (fun _ => .err) fun _ => .then (hv h) fun _ _ _ _ hy=>setF_ls hv f g _ (by omega) hy
  obtain ⟨t,a',rfl,h'⟩:=h.ne_of_isS hE hs.2
  exact .okn h' _
theorem zGw : ∀ (f lv:Nat) {a:List Tok} {x x':PS},J e r a x x'->LS e r a (zGx f lv x) (zGx f lv x')
 |0,_,_,_,_,_ => .err
 |f+1,lv,a,x,x',h=>by
  unfold zGx
  refine .ite (fun ha=>by rw [h.sg _ ha]) (fun _ => .err) fun _ => .then (zAe hE h _).lo fun _ _ y y' hy => ?_
  exact setF_ls hE (fun h=>sel_lo hE (fun h=>(zGw f (lv+1) h).lo) h) _ _ _ (by have:=hy.len hE;omega) hy
theorem set_ls {a:List Tok} {x x':PS} (h:J e r a x x'):LS e r a (setQ x) (setQ x'):=zGw hE _ _ h
theorem zKE : ∀ (f g:Nat) (acc:List D) {a:List Tok} {x x':PS},f<=g->J e r a x x'->LS e r a (varsF f acc x) (varsF g acc x')
 |0,_,_,_,_,_,_,_ => .err
 |f+1,0,_,_,_,_,hfg,_=>by omega
 |f+1,g+1,acc,a,x,x',hfg,h=>by
  unfold varsF
  refine .ite (fun ha=>by rw [h.sg _ ha]) (fun hs => ?_) fun _ => .ite (fun ha=>by rw [h.sg _ ha]) (fun _ => .err) fun _ => .then (zAe hE h _).lo fun _ _ _ _ hy => .then (zAL hE hy).lo fun _ _ _ _ hz => .then (zAe hE hz _).lo fun _ _ _ _ hu => .then (zF6 hE hu) fun _ _ v v' hv => .then (.ite (hv.sg _) (fun hs => ?_) fun _ => .okk hv _) fun _ _ _ _ ho=>zKE f g _ (by omega) ho
  . obtain ⟨t,a',rfl,h'⟩:=h.ne_of_isS hE hs.2
    exact .okn h' _
  . obtain ⟨t,a',rfl,h'⟩:=hv.ne_of_isS hE hs
    exact LO.mono (b:=a') (.then (zCp hE (x:={ nxT v with vr:=false }) (x':={ nxT v' with vr:=false }) ⟨h'.l,h'.r,rfl,h'.nd⟩) fun _ _ o o' ho => .okk (x:={ o with vr:=true }) (x':={ o' with vr:=true }) ⟨ho.l,ho.r,rfl,ho.nd⟩ _) ⟨[t],rfl⟩
theorem op_ls (k:Int) {a:List Tok} {x x':PS} (h:J e r a x x'):LS e r a (opQ k x) (opQ k x'):=by
 unfold opQ
 refine .then (.ite (fun ha=>by rw [h.hd ha]) (fun hk => ?_) fun _ => .okk h _) fun _ _ y y' hy => .then (.ite (hy.sg _) (fun hs => ?_) fun _ => .okk hy _) fun _ _ _ _ hz => .pure (set_ls hE hz) fun _ _ u u' hu=>⟨_,u,u',rfl,rfl,hu⟩
 . obtain ⟨t,a',rfl,h'⟩:=h.ne_of_k hE (by rw [hk];decide)
   rw [h.hd (by simp)]
   exact (LS.okn h' _).lo
 . obtain ⟨t,a',rfl,h'⟩:=hy.ne_of_isS hE hs
   exact (zKE hE _ _ _ (hy.len hE) h').lo.mono ⟨[t],rfl⟩
end
end
section
def En (x:PS):Prop:=∃ a e,x.ts=a++[e]/\e.k=5 /\ ∀ t∈x.ts,t.s.length<=100000
theorem En.cons {x:PS} (h:En x) : ∃ t r,x.ts=t::r:=by
 obtain ⟨a,e,h1,-⟩:=h
 rw [h1]
 cases a with
 |nil=>exact ⟨e,[],rfl⟩
 |cons t a=>exact ⟨t,a++[e],rfl⟩
theorem En.lo {α:Type} {x y:PS} {v:α} (h:En x) {p:PS->PR α} (hp : ∀ {e:Tok} {a:List Tok} {x x':PS},Ends e [e]->J e [e] a x x'->LO e [e] a (p x) (p x')) (hq:p x = .ok (v,y)):En y/\y.ts.length<=x.ts.length:=by
 obtain ⟨a,e,h1,h2,h4⟩:=h
 obtain ⟨b,⟨d,hd⟩,h3,-⟩:=hp (e:=e) (a:=a) (x:=x) (x':=x) ⟨h2,by simp⟩ ⟨h1,h1,rfl,rfl⟩ v y hq
 exact ⟨⟨b,e,h3,h2,fun t ht=>h4 t (by rw [h1,hd];rw [h3] at ht;simp at ht |-;exact .inr ht)⟩,by rw [h3,h1,hd];simp⟩
theorem En.ls {α:Type} {x y:PS} {v:α} (h:En x) {p:PS->PR α} (hp : ∀ {e:Tok} {a:List Tok} {x x':PS},Ends e [e]->J e [e] a x x'->LS e [e] a (p x) (p x')) (hq:p x = .ok (v,y)):En y/\y.ts.length<x.ts.length:=by
 obtain ⟨a,e,h1,h2,h4⟩:=h
 obtain ⟨b,y',⟨t,d,hd⟩,-,h3⟩:=hp (e:=e) (a:=a) (x:=x) (x':=x) ⟨h2,by simp⟩ ⟨h1,h1,rfl,rfl⟩ v y hq
 exact ⟨⟨b,e,h3.l,h2,fun t ht=>h4 t (by rw [h1,hd];rw [h3.l] at ht;simp at ht |-;exact .inr (.inr ht))⟩,by rw [h3.l,h1,hd];simp;omega⟩
theorem En.name {x y:PS} {v:List UInt8} (h:En x) (hq:nameQ x = .ok (v,y)):En y/\y.ts.length<x.ts.length:=h.ls (p:=nameQ) (fun hE h=>zAL hE h) hq
theorem En.take {x y:PS} {s:List UInt8} (h:En x) (hq:takeQ s x = .ok ((),y)):En y/\y.ts.length<x.ts.length:=h.ls (p:=takeQ s) (fun hE h=>zAe hE h s) hq
theorem En.typ {x y:PS} {v:D} (h:En x) (hq:typQ x = .ok (v,y)):En y/\y.ts.length<=x.ts.length:=h.lo (p:=typQ) (fun hE h=>zF6 hE h) hq
theorem En.value {f lv:Nat} {x y:PS} {v:D} (h:En x) (hq:valueQ f lv x = .ok (v,y)):En y/\y.ts.length<=x.ts.length:=h.lo (p:=valueQ f lv) (fun hE h=>zB2 hE f lv h) hq
theorem En.whole {x y:PS} {v:D} (h:En x) (hq:zAO x = .ok (v,y)):En y/\y.ts.length<=x.ts.length:=h.lo (p:=zAO) (fun hE h=>zCp hE h) hq
theorem En.args {x y:PS} {v:List D} (h:En x) (hq:zBc x = .ok (v,y)):En y/\y.ts.length<=x.ts.length:=h.lo (p:=zBc) (fun hE h=>zHt hE h) hq
theorem En.dirs {x y:PS} {v:List D} (h:En x) (hq:zAQ x = .ok (v,y)):En y/\y.ts.length<=x.ts.length:=h.lo (p:=zAQ) (fun hE h=>zBZ hE h) hq
theorem En.op {k:Int} {x y:PS} {v:D} (h:En x) (hq:opQ k x = .ok (v,y)):En y/\y.ts.length<x.ts.length:=h.ls (p:=opQ k) (fun hE h=>op_ls hE k h) hq
theorem En.nx {x:PS} (h:En x) (hk:(hdT x).k≠5):En (nxT x)/\(nxT x).ts.length<x.ts.length:=by
 obtain ⟨a,e,h1,h2,h4⟩:=h
 have hJ:J e [e] a x x:=⟨h1,h1,rfl,rfl⟩
 obtain ⟨t,a',rfl,h3⟩:=hJ.ne_of_k (e:=e) (r:=[e]) ⟨h2,by simp⟩ hk
 exact ⟨⟨a',e,h3.l,h2,fun t ht=>h4 t (by rw [h1];rw [h3.l] at ht;simp at ht |-;exact .inr ht)⟩,by rw [h3.l,h1];simp⟩
theorem En.hd {x:PS} (h:En x):(hdT x).s.length<=100000:=by
 obtain ⟨t,r,ht⟩:=h.cons
 obtain ⟨a,e,-,-,h4⟩:=h
 have:hdT x=t:=by unfold hdT;rw [ht];rfl
 rw [this]
 exact h4 t (by rw [ht];simp)
theorem En.sg {x:PS} {s:List UInt8} (h:En x) (hk:isS x s=true):En (nxT x)/\(nxT x).ts.length<x.ts.length:=by
 refine h.nx ?_
 unfold isS at hk
 simp only [Bool.and_eq_true,beq_iff_eq] at hk
 rw [hk.1];decide
theorem En.nx0 {x:PS} (h:En x):En (nxT x):=by
 by_cases hk:(hdT x).k=5
 . have:nxT x=x:=by unfold nxT;rw [if_pos hk]
   rw [this];exact h
 . exact (h.nx hk).1
theorem En.valueL {f lv:Nat} {x y:PS} {v:D} (h:En x) (hq:valueQ f lv x = .ok (v,y)):En y/\y.ts.length<x.ts.length:=by
 refine ⟨(h.value hq).1,?_⟩
 cases f with
 |zero=>cases hq
 |succ f =>
  unfold valueQ at hq
  split at hq
  . cases hq
  . rename_i hno
    have hk:(hdT x).k≠5:=fun hk=>hno (by unfold zBU;rw [hk];rfl)
    have h1:=h.nx hk
    have hy:En ({ nxT x with nd:=x.nd+1 }:PS):=h1.1
    split at hq
    . cases hq
    split at hq
    . cases hq
    dsimp only at hq
    split at hq
    . cases hq;exact h1.2
    split at hq
    . cases hq;exact h1.2
    split at hq
    . cases hq;exact h1.2
    split at hq
    . have:=(hy.lo (p:=fun x=>zb (nameQ x) fun n z => .ok (valD 7 0 n [] [],z)) (fun hE h => .then (zAL hE h).lo fun _ _ _ _ hz => .okk hz _) hq).2
      exact Nat.lt_of_le_of_lt this h1.2
    split at hq
    . have:=(hy.lo (p:=fun x=>zb (itemsQ (valueQ f (lv+1)) (x.ts.length+1) [] x) fun l z => .ok (valD 5 0 [] l [],z)) (fun hE h => .then (zHW hE (fun h=>zB2 hE f (lv+1) h) _ _ _ (by have:=h.len hE;omega) h).lo fun _ _ _ _ hz => .okk hz _) hq).2
      exact Nat.lt_of_le_of_lt this h1.2
    . have:=(hy.lo (p:=fun x=>zb (zu (valueQ f (lv+1)) (x.ts.length+1) [] [] x) fun l z => .ok (valD 6 0 [] l.2 l.1,z)) (fun hE h => .then (zFQ hE (fun h=>zB2 hE f (lv+1) h) _ _ _ _ (by have:=h.len hE;omega) h).lo fun _ _ _ _ hz => .okk hz _) hq).2
      exact Nat.lt_of_le_of_lt this h1.2
section
variable {e:Tok} {r:List Tok} (hE:Ends e r)
include hE
theorem zHM {el el':PS->PR D} (hv : ∀ {a:List Tok} {x x':PS},J e r a x x'->LO e r a (el x) (el' x')) (s:List UInt8) (most:Nat) : ∀ (f g:Nat) (acc:List D) {a:List Tok} {x x':PS},f<=g->J e r a x x'->LS e r a (manyF el s most f acc x) (manyF el' s most g acc x')
 |0,_,_,_,_,_,_,_ => .err
 |f+1,0,_,_,_,_,hfg,_=>by omega
 |f+1,g+1,acc,a,x,x',hfg,h=>by
  unfold manyF
  refine .ite (fun ha=>by rw [h.sg _ ha]) (fun hs => ?_) fun _ => .ite (fun ha=>by rw [h.hd ha]) (fun _ => .err) fun _ => .then (hv h) fun _ _ _ _ hy=>zHM hv s most f g _ (by omega) hy
  obtain ⟨t,a',rfl,h'⟩:=h.ne_of_isS hE hs.2
  exact .okn h' _
theorem in_lo {a:List Tok} {x x':PS} (h:J e r a x x'):LO e r a (inQ x) (inQ x'):=by
 unfold inQ
 refine .then (zAL hE h).lo fun _ _ _ _ hy => .then (zAe hE hy _).lo fun _ _ _ _ hz => .then (zF6 hE hz) fun _ _ u u' hu => .then (.ite (hu.sg _) (fun hs => ?_) fun _ => .okk hu _) fun _ _ _ _ hv => .then (zBZ hE hv) fun _ _ _ _ hw => .okk hw _
 obtain ⟨t,a',rfl,h'⟩:=hu.ne_of_isS hE hs
 exact LO.mono (b:=a') (.then (zCp hE h') fun _ _ _ _ ho => .okk ho _) ⟨[t],rfl⟩
theorem zKz (s:List UInt8) {a:List Tok} {x x':PS} (h:J e r a x x'):LS e r a (insQ s x) (insQ s x'):=zHM hE (in_lo hE) _ _ _ _ _ (by have:=h.len hE;omega) h
theorem fd_lo {a:List Tok} {x x':PS} (h:J e r a x x'):LO e r a (fdQ x) (fdQ x'):=by
 unfold fdQ
 refine .then (zAL hE h).lo fun _ _ y y' hy => .then (.ite (hy.sg _) (fun hs => ?_) fun _ => .okk hy _) fun _ _ _ _ hz => .then (zAe hE hz _).lo fun _ _ _ _ hu => .then (zF6 hE hu) fun _ _ _ _ hv => .then (zBZ hE hv) fun _ _ _ _ hw => .okk hw _
 obtain ⟨t,a',rfl,h'⟩:=hy.ne_of_isS hE hs
 exact LO.mono (b:=a') (zKz hE _ h').lo ⟨[t],rfl⟩
theorem mb_lo {a:List Tok} {x x':PS} (h:J e r a x x'):LO e r a (mbQ x) (mbQ x'):=.then (zAL hE h).lo fun _ _ _ _ hy => .then (zBZ hE hy) fun _ _ _ _ hz => .okk hz _
theorem fds_ls {a:List Tok} {x x':PS} (h:J e r a x x'):LS e r a (fdsQ x) (fdsQ x'):=zHM hE (fd_lo hE) _ _ _ _ _ (by have:=h.len hE;omega) h
theorem mbs_ls {a:List Tok} {x x':PS} (h:J e r a x x'):LS e r a (mbsQ x) (mbsQ x'):=zHM hE (mb_lo hE) _ _ _ _ _ (by have:=h.len hE;omega) h
theorem zIk (s:List UInt8) : ∀ (f g:Nat) (acc:List D) {a:List Tok} {x x':PS},f<=g->J e r a x x'->LO e r a (namesF s f acc x) (namesF s g acc x')
 |0,_,_,_,_,_,_,_ => .err
 |f+1,0,_,_,_,_,hfg,_=>by omega
 |f+1,g+1,acc,a,x,x',hfg,h=>by
  unfold namesF
  refine .ite (fun ha=>by rw [h.hd ha]) (fun _ => .err) fun _ => .then (zAL hE h).lo fun _ _ y y' hy => .ite (hy.sg _) (fun hs => ?_) fun _ => .okk hy _
  obtain ⟨t,a',rfl,h'⟩:=hy.ne_of_isS hE hs
  exact (zIk s f g _ (by omega) h').mono ⟨[t],rfl⟩
theorem zHH (s:List UInt8) {a:List Tok} {x x':PS} (h:J e r a x x'):LO e r a (zA0 s x) (zA0 s x'):=zIk hE s _ _ _ (by have:=h.len hE;omega) h
theorem zHf (k:Int) {a:List Tok} {x x':PS} (h:J e r a x x'):LO e r a (zAo k x) (zAo k x'):=by
 unfold zAo
 refine .ite (fun ha=>by rw [h.hd ha]) (fun hk => ?_) fun _ => .okk h _
 obtain ⟨t,a',rfl,h'⟩:=h.ne_of_k hE (by rw [hk.2.1];decide)
 exact (zHH hE _ h').mono ⟨[t],rfl⟩
theorem body_lo (k:Int) {a:List Tok} {x x':PS} (h:J e r a x x'):LO e r a (zBF k x) (zBF k x'):=by
 unfold zBF
 refine .ite (fun _=>Iff.rfl) (fun _ => .then (zAe hE h _).lo fun _ _ _ _ hy => .then (zHH hE _ hy) fun _ _ _ _ hz => .okk hz _) fun _ => .then (zAe hE h _).lo fun _ _ _ _ hy => ?_
 exact .ite (fun _=>Iff.rfl) (fun _ => .then (zKz hE _ hy).lo fun _ _ _ _ hz => .okk hz _) fun _ => .ite (fun _=>Iff.rfl) (fun _ => .then (mbs_ls hE hy).lo fun _ _ _ _ hz => .okk hz _) fun _ => .then (fds_ls hE hy).lo fun _ _ _ _ hz => .okk hz _
theorem sdef_lo (k:Int) {a:List Tok} {x x':PS} (h:J e r a x x'):LO e r a (zBQ k x) (zBQ k x'):=
 .then (zAL hE h).lo fun _ _ _ _ hy => .then (zHf hE k hy) fun _ _ _ _ hz => .then (zBZ hE hz) fun _ _ _ _ hu => .then (body_lo hE k hu) fun _ _ _ _ hv => .okk hv _
end
def VR {α:Type} (x:PS) (q:PR α):Prop:=∀ a y,q = .ok (a,y)->y.vr=x.vr
section
variable {α β:Type} {x y:PS}
theorem VR.err {e:Nat × Int}:VR (α:=α) x (.error e):=fun _ _ h=>by cases h
theorem VR.okk {a:α} (h:y.vr=x.vr):VR x (.ok (a,y)):=fun _ _ e=>by cases e;exact h
theorem VR.ite {c:Prop} [Decidable c] {p q:PR α} (h1:VR x p) (h2:VR x q):VR x (if c then p else q):=by split<;>assumption
theorem VR.then {q:PR α} {f:α->PS->PR β} (h:VR x q) (hf : ∀ a y,VR y (f a y)):VR x (zb q f):=fun a z e=>by
 cases hq:q with
 |error e'=>rw [hq] at e;cases e
 |ok p =>
  obtain ⟨b,y⟩:=p
  rw [hq] at e
  exact (hf b y a z e).trans (h b y hq)
theorem VR.of {q:PR α} (h:VR y q) (e:y.vr=x.vr):VR x q:=fun a z hq=>(h a z hq).trans e
theorem nx_vr1 (x:PS):(nxT x).vr=x.vr:=by unfold nxT;split<;>rfl
theorem zB6 (s:List UInt8) (x:PS):VR x (takeQ s x):=.ite (.okk (nx_vr1 x)) .err
theorem zBV (x:PS):VR x (nameQ x):=.ite (.okk (nx_vr1 x)) .err
theorem open_vr : ∀ (f:Nat) (x:PS),(openQ f x).2.vr=x.vr
 |0,_=>rfl
 |f+1,x=>by
  unfold openQ
  split
  . exact (open_vr f (nxT x)).trans (nx_vr1 x)
  . rfl
theorem zLS : ∀ (n:Nat) (w:List Int) (x:PS),VR x (closeQ n w x)
 |0,w,x=>fun a y h=>by
  unfold closeQ at h
  split at h
  . cases h;exact nx_vr1 x
  . cases h;rfl
 |n+1,w,x=>by
  unfold closeQ
  refine .then (.of (zB6 _ _) ?_) fun _ y=>zLS n _ y
  split
  . exact nx_vr1 x
  . rfl
theorem inner_vr (x:PS):VR x (zAh x):=.then (.of (zBV _) (open_vr _ x)) fun _ y => .then (zLS _ _ y) fun _ _ => .okk rfl
theorem zKH (x:PS):VR x (typQ x):=.then (inner_vr x) fun _ _ => .ite .err (.okk rfl)
theorem zKt {v:PS->PR D} (hv : ∀ x,VR x (v x)) : ∀ (f:Nat) (acc:List D) (x:PS),VR x (itemsQ v f acc x)
 |0,_,_ => .err
 |f+1,acc,x => .ite (.okk (nx_vr1 x)) (.then (hv x) fun _ y=>zKt hv f _ y)
theorem zI0 {v:PS->PR D} (hv : ∀ x,VR x (v x)) : ∀ (f:Nat) (ks:List (List UInt8)) (acc:List D) (x:PS),VR x (zu v f ks acc x)
 |0,_,_,_ => .err
 |f+1,ks,acc,x => .ite (.okk (nx_vr1 x)) (.then (zBV x) fun _ y => .ite .err (.then (zB6 _ y) fun _ z => .then (hv z) fun _ u=>zI0 hv f _ _ u))
theorem zEX : ∀ (f lv:Nat) (x:PS),VR x (valueQ f lv x)
 |0,_,_ => .err
 |f+1,lv,x=>by
  have hy : ∀ n,({ nxT x with nd:=n }:PS).vr=x.vr:=fun _=>nx_vr1 x
  unfold valueQ
  refine .ite .err (.ite .err (.ite .err ?_))
  dsimp only
  exact .ite (.okk (hy _)) (.ite (.okk (hy _)) (.ite (.okk (hy _)) (.ite (.then (.of (zBV _) (hy _)) fun _ _ => .okk rfl)
   (.ite (.then (.of (zKt (zEX f (lv+1)) _ _ _) (hy _)) fun _ _ => .okk rfl) (.then (.of (zI0 (zEX f (lv+1)) _ _ _ _) (hy _)) fun _ _ => .okk rfl)))))
theorem zEW (x:PS):VR x (zAO x):=fun a y h=>zEX 25 1 { x with nd:=0 } a y h
theorem zLb : ∀ (f:Nat) (acc:List D) (x:PS),VR x (zC6 f acc x)
 |0,_,_ => .err
 |f+1,acc,x => .ite (.okk (nx_vr1 x)) (.ite .err (.then (zBV x) fun _ y => .then (zB6 _ y) fun _ z => .then (zEW z) fun _ u=>zLb f _ u))
theorem args_vr (x:PS):VR x (zBc x):=.ite (.of (zLb _ _ _) (nx_vr1 x)) (.okk rfl)
theorem zLG : ∀ (f:Nat) (acc:List D) (x:PS),VR x (dirsF f acc x)
 |0,_,_ => .err
 |f+1,acc,x => .ite (.ite .err (.then (.of (zBV _) (nx_vr1 x)) fun _ y => .then (args_vr y) fun _ z=>zLG f _ z)) (.okk rfl)
theorem zD7 (x:PS):VR x (zAQ x):=zLG _ _ x
theorem zHI {el:PS->PR D} (hv : ∀ x,VR x (el x)) (s:List UInt8) (most:Nat) : ∀ (f:Nat) (acc:List D) (x:PS),VR x (manyF el s most f acc x)
 |0,_,_ => .err
 |f+1,acc,x => .ite (.okk (nx_vr1 x)) (.ite .err (.then (hv x) fun _ y=>zHI hv s most f _ y))
theorem in_vr (x:PS):VR x (inQ x):=.then (zBV x) fun _ y => .then (zB6 _ y) fun _ z => .then (zKH z) fun _ u => .then (.ite (.then (.of (zEW _) (nx_vr1 u)) fun _ _ => .okk rfl) (.okk rfl)) fun _ v => .then (zD7 v) fun _ _ => .okk rfl
theorem ins_vr (s:List UInt8) (x:PS):VR x (insQ s x):=zHI in_vr _ _ _ _ _
theorem fd_vr (x:PS):VR x (fdQ x):=.then (zBV x) fun _ y => .then (.ite (.of (ins_vr _ _) (nx_vr1 y)) (.okk rfl)) fun _ z => .then (zB6 _ z) fun _ u => .then (zKH u) fun _ v => .then (zD7 v) fun _ _ => .okk rfl
theorem mb_vr (x:PS):VR x (mbQ x):=.then (zBV x) fun _ y => .then (zD7 y) fun _ _ => .okk rfl
theorem zDj (s:List UInt8) : ∀ (f:Nat) (acc:List D) (x:PS),VR x (namesF s f acc x)
 |0,_,_ => .err
 |f+1,acc,x => .ite .err (.then (zBV x) fun _ y => .ite (.of (zDj s f _ _) (nx_vr1 y)) (.okk rfl))
theorem zLA (k:Int) (x:PS):VR x (zAo k x):=.ite (.of (zDj _ _ _ _) (nx_vr1 x)) (.okk rfl)
theorem body_vr (k:Int) (x:PS):VR x (zBF k x):=
 .ite (.then (zB6 _ x) fun _ y => .then (zDj _ _ _ y) fun _ _ => .okk rfl) (.then (zB6 _ x) fun _ y => .ite (.then (ins_vr _ y) fun _ _ => .okk rfl) (.ite (.then (zHI mb_vr _ _ _ _ y) fun _ _ => .okk rfl) (.then (zHI fd_vr _ _ _ _ y) fun _ _ => .okk rfl)))
theorem sdef_vr (k:Int) (x:PS):VR x (zBQ k x):=.then (zBV x) fun _ y => .then (zLA k y) fun _ z => .then (zD7 z) fun _ u => .then (body_vr k u) fun _ _ => .okk rfl
end
structure Sx (al:List Tok) (x:PS):Prop where
 en:En x
 vr:x.vr=false
 sf:x.ts <:+ al
theorem En.sf {α:Type} {x y:PS} {v:α} (h:En x) {p:PS->PR α} (hp : ∀ {e:Tok} {a:List Tok} {x x':PS},Ends e [e]->J e [e] a x x'->LO e [e] a (p x) (p x')) (hq:p x = .ok (v,y)):y.ts <:+ x.ts:=by
 obtain ⟨a,e,h1,h2,h4⟩:=h
 obtain ⟨b,⟨d,hd⟩,h3,-⟩:=hp (e:=e) (a:=a) (x:=x) (x':=x) ⟨h2,by simp⟩ ⟨h1,h1,rfl,rfl⟩ v y hq
 exact ⟨d,by rw [h3,h1,hd,List.append_assoc]⟩
section
variable {al:List Tok} {x y:PS} {α:Type} {v:α}
theorem Sx.lo (h:Sx al x) {p:PS->PR α} (hp : ∀ {e:Tok} {a:List Tok} {x x':PS},Ends e [e]->J e [e] a x x'->LO e [e] a (p x) (p x')) (hv:VR x (p x)) (hq:p x = .ok (v,y)):Sx al y/\y.ts.length<=x.ts.length:=
 ⟨⟨(h.en.lo hp hq).1,(hv v y hq).trans h.vr,(h.en.sf hp hq).trans h.sf⟩,(h.en.lo hp hq).2⟩
theorem Sx.ls (h:Sx al x) {p:PS->PR α} (hp : ∀ {e:Tok} {a:List Tok} {x x':PS},Ends e [e]->J e [e] a x x'->LS e [e] a (p x) (p x')) (hv:VR x (p x)) (hq:p x = .ok (v,y)):Sx al y/\y.ts.length<x.ts.length:=
 ⟨(h.lo (fun hE h=>(hp hE h).lo) hv hq).1,(h.en.ls hp hq).2⟩
theorem Sx.name {v:List UInt8} (h:Sx al x) (hq:nameQ x = .ok (v,y)):Sx al y/\y.ts.length<x.ts.length:=h.ls (fun hE h=>zAL hE h) (zBV x) hq
theorem Sx.take {s:List UInt8} (h:Sx al x) (hq:takeQ s x = .ok ((),y)):Sx al y/\y.ts.length<x.ts.length:=h.ls (fun hE h=>zAe hE h s) (zB6 s x) hq
theorem Sx.typ {v:D} (h:Sx al x) (hq:typQ x = .ok (v,y)):Sx al y/\y.ts.length<=x.ts.length:=h.lo (fun hE h=>zF6 hE h) (zKH x) hq
theorem Sx.value {f lv:Nat} {v:D} (h:Sx al x) (hq:valueQ f lv x = .ok (v,y)):Sx al y/\y.ts.length<x.ts.length:=⟨(h.lo (fun hE h=>zB2 hE f lv h) (zEX f lv x) hq).1,(h.en.valueL hq).2⟩
theorem Sx.whole {v:D} (h:Sx al x) (hq:zAO x = .ok (v,y)):Sx al y/\y.ts.length<x.ts.length:=⟨(h.lo (fun hE h=>zCp hE h) (zEW x) hq).1,(En.valueL (x:={ x with nd:=0 }) h.en hq).2⟩
theorem Sx.args {v:List D} (h:Sx al x) (hq:zBc x = .ok (v,y)):Sx al y/\y.ts.length<=x.ts.length:=h.lo (fun hE h=>zHt hE h) (args_vr x) hq
theorem Sx.dirs {v:List D} (h:Sx al x) (hq:zAQ x = .ok (v,y)):Sx al y/\y.ts.length<=x.ts.length:=h.lo (fun hE h=>zBZ hE h) (zD7 x) hq
theorem Sx.ins {s:List UInt8} {v:List D} (h:Sx al x) (hq:insQ s x = .ok (v,y)):Sx al y/\y.ts.length<x.ts.length:=h.ls (fun hE h=>zKz hE s h) (ins_vr s x) hq
theorem Sx.names {s:List UInt8} {v:List D} (h:Sx al x) (hq:zA0 s x = .ok (v,y)):Sx al y/\y.ts.length<=x.ts.length:=h.lo (fun hE h=>zHH hE s h) (zDj s _ _ x) hq
theorem Sx.faces {k:Int} {v:List D} (h:Sx al x) (hq:zAo k x = .ok (v,y)):Sx al y/\y.ts.length<=x.ts.length:=h.lo (fun hE h=>zHf hE k h) (zLA k x) hq
theorem Sx.body {k:Int} {v:List D × List D × List D} (h:Sx al x) (hq:zBF k x = .ok (v,y)):Sx al y/\y.ts.length<=x.ts.length:=h.lo (fun hE h=>body_lo hE k h) (body_vr k x) hq
theorem Sx.sdef {k:Int} {v:D} (h:Sx al x) (hq:zBQ k x = .ok (v,y)):Sx al y/\y.ts.length<=x.ts.length:=h.lo (fun hE h=>sdef_lo hE k h) (sdef_vr k x) hq
theorem zAJ {α β:Type} {q:PR α} {f:α->PS->PR β} {b:β} {z:PS} (h:zb q f = .ok (b,z)) : ∃ a y,q = .ok (a,y)/\f a y = .ok (b,z):=by
 cases q with
 |error e=>cases h
 |ok p=>obtain ⟨a,y⟩:=p;exact ⟨a,y,rfl,h⟩
theorem Sx.arg {v:D} (h:Sx al x) (hq:argQ x = .ok (v,y)):Sx al y/\y.ts.length<x.ts.length:=by
 obtain ⟨n,z,h1,hq⟩:=zAJ hq
 obtain ⟨u,z2,h2,hq⟩:=zAJ hq
 obtain ⟨d,z3,h3,hq⟩:=zAJ hq
 have a1:=h.name h1
 have a2:=a1.1.take h2
 have a3:=a2.1.whole h3
 cases hq
 exact ⟨a3.1,by omega⟩
theorem Sx.inp {v:D} (h:Sx al x) (hq:inQ x = .ok (v,y)):Sx al y/\y.ts.length<x.ts.length:=by
 refine ⟨(h.lo (fun hE h=>in_lo hE h) (in_vr x) hq).1,?_⟩
 obtain ⟨n,z,h1,h2⟩:=zAJ hq
 have a1:=h.name h1
 have a2:=a1.1.lo (p:=fun y=>zb (takeQ [58] y) fun _ z=>zb (typQ z) fun t u=>zb (if isS u [61]=true then zb (zAO (nxT u)) fun d o => .ok ((true,d),o) else .ok ((false,zER),u)) fun d v=>zb (zAQ v) fun ds w => .ok (sInD n t d.1 d.2 ds,w)) (fun hE h=>by
  refine .then (zAe hE h _).lo fun _ _ _ _ hz => .then (zF6 hE hz) fun _ _ u u' hu => .then (.ite (hu.sg _) (fun hs => ?_) fun _ => .okk hu _) fun _ _ _ _ hv => .then (zBZ hE hv) fun _ _ _ _ hw => .okk hw _
  obtain ⟨t,a',rfl,h'⟩:=hu.ne_of_isS hE hs
  exact LO.mono (b:=a') (.then (zCp hE h') fun _ _ _ _ ho => .okk ho _) ⟨[t],rfl⟩) (fun a y h=>(zB6 _ _).then (fun _ z => .then (zKH z) fun _ u => .then (.ite (.then (.of (zEW _) (nx_vr1 u)) fun _ _ => .okk rfl) (.okk rfl)) fun _ v => .then (zD7 v) fun _ _ => .okk rfl) a y h) h2
 omega
theorem Sx.fd {v:D} (h:Sx al x) (hq:fdQ x = .ok (v,y)):Sx al y/\y.ts.length<x.ts.length:=by
 refine ⟨(h.lo (fun hE h=>fd_lo hE h) (fd_vr x) hq).1,?_⟩
 obtain ⟨n,z,h1,h2⟩:=zAJ hq
 have a1:=h.name h1
 obtain ⟨aa,z1,h3,h4⟩:=zAJ h2
 obtain ⟨u,z2,h5,h6⟩:=zAJ h4
 obtain ⟨t,z3,h7,h8⟩:=zAJ h6
 obtain ⟨ds,z4,h9,hq⟩:=zAJ h8
 have a2:Sx al z1/\z1.ts.length<=z.ts.length:=by
  by_cases hs:isS z [40]=true
  . rw [if_pos hs] at h3
    have b1:=a1.1.en.sg hs
    have b2:Sx al (nxT z):=⟨b1.1,(nx_vr1 z).trans a1.1.vr,by
     unfold nxT;split
     . exact a1.1.sf
     . exact (List.drop_suffix 1 z.ts).trans a1.1.sf⟩
    have b3:=b2.ins h3
    exact ⟨b3.1,by omega⟩
  . rw [if_neg hs] at h3;cases h3;exact ⟨a1.1,Nat.le_refl _⟩
 have a3:=a2.1.take h5
 have a4:=a3.1.typ h7
 have a5:=a4.1.dirs h9
 cases hq
 omega
theorem Sx.mb {v:D} (h:Sx al x) (hq:mbQ x = .ok (v,y)):Sx al y/\y.ts.length<x.ts.length:=by
 obtain ⟨n,z,h1,h2⟩:=zAJ hq
 obtain ⟨d,z2,h3,hq⟩:=zAJ h2
 have a1:=h.name h1
 have a2:=a1.1.dirs h3
 cases hq
 exact ⟨a2.1,by omega⟩
theorem Sx.nx (h:Sx al x) (hk:(hdT x).k≠5):Sx al (nxT x)/\(nxT x).ts.length+1=x.ts.length:=by
 have h1:=h.en.nx hk
 refine ⟨⟨h1.1,(nx_vr1 x).trans h.vr,?_⟩,?_⟩
 . unfold nxT;rw [if_neg hk];exact (List.drop_suffix 1 x.ts).trans h.sf
 . have h2:=h1.2
   revert h2
   unfold nxT
   rw [if_neg hk]
   show (x.ts.drop 1).length<_->(x.ts.drop 1).length+1=_
   rw [List.length_drop];omega
theorem Sx.sg {s:List UInt8} (h:Sx al x) (hs:isS x s=true):Sx al (nxT x)/\(nxT x).ts.length+1=x.ts.length:=by
 refine h.nx ?_
 unfold isS at hs
 simp only [Bool.and_eq_true,beq_iff_eq] at hs
 rw [hs.1];decide
theorem Sx.len (h:Sx al x):x.ts.length<=al.length:=h.sf.length_le
theorem Sx.pos (h:Sx al x):0<x.ts.length:=by obtain ⟨t,r,e⟩:=h.en.cons;rw [e];simp
theorem Sx.nd (h:Sx al x) (n:Nat):Sx al { x with nd:=n }:=⟨h.en,h.vr,h.sf⟩
theorem Sx.hd (h:Sx al x):al.getD (al.length-x.ts.length) ⟨5,[],0⟩=hdT x:=by
 obtain ⟨d,hd⟩:=h.sf
 have e:al.length-x.ts.length=d.length:=by rw [<- hd,List.length_append];omega
 unfold hdT
 rw [e,<- hd,List.getD_eq_getElem?_getD,List.getElem?_append_right (Nat.le_refl _),Nat.sub_self,List.headD_eq_head?_getD,List.head?_eq_getElem?]
end
end
section
open Go.RowKit
attribute [local irreducible] wpList Calls Code.wp AW AWo OpOk seqK zm zo loopK endK endKB AC ACB ACX zh absLexG Yld YldG Sub
def zIX {ε α S:Type} (bsf:S->List Res) (toV:α->V) (toP:ε->Value):Except ε (α × S)->Out
 |.ok (a,x) => .ret (toV a) (bsf x)
 |.error e => .die (toP e)
section
variable {X:Cx} {nn:Nat} {st:Vst nn} {o:Oper} {ops:Array Oper} {l:List Oper} {d:Option Tmp} {KK:Vst nn->Prop} {Q:Vst nn->Prop} {rd wr:Nat->List Nat} {k:Nat}
theorem zG3 {ε α S:Type} {f:FuncId} {vs args:List V} {bs:List Res} {spec:Except ε (α × S)} {toV:α->V} {toP:ε->Value} {bsf:S->List Res} (ns:List Nat) (hg:o.guard=none) (hd:o.dst=d) (h:act1 X.P st.rs (ev st) o.op = .call f vs)
 (hc:ACE X.e X.P f args bs (zIX bsf toV toP spec)) (hnd:ns.Nodup) (ha:renL (φin ns) vs=args) (hb:ns.map (fun n=>(st.rs n).map (renR (φin ns)))=bs.map some)
 (hE : ∀ e,spec = .error e->X.pk (toP e) st.tm (forgetN st.rs ns)) (hK : ∀ a x',spec = .ok (a,x')->AWo X ops l ((st.resN ns ((bsf x').map (renR (φout ns)))).put d (renV (φout ns) (toV a))) KK):AWo X ops (o::l) st KK:=by
 refine zt hg (zGM ns h hc hnd ha hb (fun r bs' e => ?_) fun pv e => ?_)
 . cases hs:spec with
   |error q=>rw [hs] at e;simp [zIX] at e
   |ok q =>
    obtain ⟨a,x'⟩:=q
    rw [hs] at e
    simp only [zIX,Out.ret.injEq] at e
    obtain ⟨rfl,rfl⟩:=e
    rw [hd]
    exact hK a x' hs
 . cases hs:spec with
   |error q=>rw [hs] at e;simp only [zIX,Out.die.injEq] at e;subst e;exact hE q hs
   |ok q=>rw [hs] at e;simp [zIX] at e
theorem zBs {f:FuncId} {vs args:List V} {bs:List Res} {pv:Value} (ns:List Nat) (hg:o.guard=none) (h:act1 X.P st.rs (ev st) o.op = .call f vs) (hc:ACE X.e X.P f args bs (.die pv)) (hnd:ns.Nodup) (ha:renL (φin ns) vs=args) (hb:ns.map (fun n=>(st.rs n).map (renR (φin ns)))=bs.map some)
 (hK:X.pk pv st.tm (forgetN st.rs ns)):AWo X ops (o::l) st KK:=
 zt hg (zD1 ns h hc hnd ha hb hK)
theorem g_prN {ε α S:Type} {f:FuncId} {vs args:List V} {bs:List Res} {spec:Except ε (α × S)} {toV:α->V} {toP:ε->Value} {bsf:S->List Res} (ns:List Nat) (dv:α) (ρs:List Res) (hg:o.guard=none) (hd:o.dst=d) (h:act1 X.P st.rs (ev st) o.op = .call f vs)
 (hc:ACE X.e X.P f args bs (zIX bsf toV toP spec)) (hnd:ns.Nodup) (ha:renL (φin ns) vs=args) (hb:ns.map (fun n=>(st.rs n).map (renR (φin ns)))=bs.map some) (hlen : ∀ x,(bsf x).length=ns.length) (hlen2:ρs.length=ns.length) (hl:ns.all (fun n=>(wr k).contains n)=true)
 (hE : ∀ e,spec = .error e -> ∀ tm rs,X.pk (toP e) tm rs) (hK : ∀ a x',spec = .ok (a,x')->absLexG X ops rd wr Q (k+1) l ((st.resN ns ((bsf x').map (renR (φout ns)))).put d (renV (φout ns) (toV a))))
 (hD : ∀ e,spec = .error e->absLexG X ops rd wr Q (k+1) l ((st.resN ns ρs).put d (toV dv))):absLexG X ops rd wr Q k (o::l) st:=by
 cases hs:spec with
 |error e =>
  rw [hs] at hc
  exact zJu ns (toV dv) ρs hg hd h hc hnd ha hb hlen2 hl (hE e hs) (hD e hs)
 |ok q =>
  obtain ⟨a,x'⟩:=q
  rw [hs] at hc
  exact g_callB ns hg hd h hc hnd ha hb (hlen x') hl (hK a x' hs)
theorem zHV {P:Program} {rs:Array ResultVar} {x:ResultVar} {out:Out} {v:V} (hx:rs.toList=[x]) (h:res1 P st x = .val True v) (ho : ∃ bs',out = .ret v.out bs'/\zES st 0 bs'):zFW P rs out .normal st:=by
 obtain ⟨bs',h1,h2⟩:=ho
 exact zKs h1 (by rw [hx];exact ⟨v,h,rfl⟩) h2
theorem zCe {P:Program} {rs:Array ResultVar} {out:Out} (hx:rs.toList=[]) (ho : ∃ bs',out = .ret (.tup []) bs'/\zES st 0 bs'):zFW P rs out .normal st:=by
 obtain ⟨bs',h1,h2⟩:=ho
 exact zKs h1 (by rw [hx];rfl) h2
end
end
section
open Go.RowKit
attribute [local irreducible] wpList Calls Code.wp AW AWo OpOk seqK zm zo loopK endK AC zh Yld Sub
attribute [local irreducible] ACB ACX ACE absLexG YldG
theorem zCz:zz Tryz.prog 46=some (3,8):=by kernel_rfl
theorem zE0 {s:List UInt8} {a:Array UInt8} (h:((bs s).toList==(⟨a⟩:ByteArray).toList)=true):s=a.toList:=by
 rw [Lib.toList_data,Lib.toList_data,zAG] at h
 simpa using h
theorem zBD {s:List UInt8} {a:Array UInt8} (h:((bs s).toList==(⟨a⟩:ByteArray).toList)=false):s≠a.toList:=by
 rw [Lib.toList_data,Lib.toList_data,zAG] at h
 simpa using h
noncomputable def VV (d:D):V:=.agg (cellsV Tryz.prog 12 53 d)
theorem vInt_ac (n:Int):AC EN5 Tryz.prog 227 [.c (.int .i64 n)] (VV (valD 2 n [] [] [])):=by
 refine zM 5 Tryz.func227 rfl rfl rfl rfl ?_
 intro s w he
 repeat' (first
|apply zA9 (VV (valD 2 n [] [] [])) rfl rfl
 . conv=>lhs;whnf;arg 2;whnf
 . repeat' (first | exact VLe.refl _ | exact VLe.nil _ | exact VLe.lit _ _ | exact VLe.own _ _ _ | apply VLe.agg | apply VLeL.cons | exact VLeL.nil)
|refine zA ?_
|refine zB ?_
|refine zH ?_
|apply aw_1
 conv=>whnf
 refine ⟨?_,trivial⟩
|apply s_1
 conv=>whnf;arg 1;arg 4;arg 3;whnf
 refine ⟨?_,?_⟩
|apply zT rfl rfl rfl
 . conv=>lhs;whnf
 . conv=>lhs;whnf;arg 1;whnf
 . conv=>lhs;whnf;arg 1;whnf
 . exact ⟨by kernel_rfl,by kernel_rfl⟩
 . rfl
|refine zE ?_
|refine ⟨_,by conv=>lhs;whnf;arg 2;whnf,?_⟩;conv=>rhs;whnf
|exact trivial)
 rfl
theorem vText_ac (t:List UInt8):AC EN5 Tryz.prog 228 [.c (.string (bs t))] (VV (valD 3 0 t [] [])):=by
 refine zM 5 Tryz.func228 rfl rfl rfl rfl ?_
 intro s w he
 repeat' (first
|apply zA9 (VV (valD 3 0 t [] [])) rfl rfl
 . conv=>lhs;whnf;arg 2;whnf
 . repeat' (first | exact VLe.refl _ | exact VLe.nil _ | exact VLe.lit _ _ | exact VLe.own _ _ _ | apply VLe.agg | apply VLeL.cons | exact VLeL.nil)
|refine zA ?_
|refine zB ?_
|refine zH ?_
|apply aw_1
 conv=>whnf
 refine ⟨?_,trivial⟩
|apply s_1
 conv=>whnf;arg 1;arg 4;arg 3;whnf
 refine ⟨?_,?_⟩
|apply zT rfl rfl rfl
 . conv=>lhs;whnf
 . conv=>lhs;whnf;arg 1;whnf
 . conv=>lhs;whnf;arg 1;whnf
 . exact ⟨by kernel_rfl,by kernel_rfl⟩
 . rfl
|refine zE ?_
|refine ⟨_,by conv=>lhs;whnf;arg 2;whnf,?_⟩;conv=>rhs;whnf
|exact trivial)
 rfl
theorem vEnum_ac (t:List UInt8):AC EN5 Tryz.prog 248 [.c (.string (bs t))] (VV (valD 4 0 t [] [])):=by
 refine zM 5 Tryz.func248 rfl rfl rfl rfl ?_
 intro s w he
 repeat' (first
|apply zA9 (VV (valD 4 0 t [] [])) rfl rfl
 . conv=>lhs;whnf;arg 2;whnf
 . repeat' (first | exact VLe.refl _ | exact VLe.nil _ | exact VLe.lit _ _ | exact VLe.own _ _ _ | apply VLe.agg | apply VLeL.cons | exact VLeL.nil)
|refine zA ?_
|refine zB ?_
|refine zH ?_
|apply aw_1
 conv=>whnf
 refine ⟨?_,trivial⟩
|apply s_1
 conv=>whnf;arg 1;arg 4;arg 3;whnf
 refine ⟨?_,?_⟩
|apply zT rfl rfl rfl
 . conv=>lhs;whnf
 . conv=>lhs;whnf;arg 1;whnf
 . conv=>lhs;whnf;arg 1;whnf
 . exact ⟨by kernel_rfl,by kernel_rfl⟩
 . rfl
|refine zE ?_
|refine ⟨_,by conv=>lhs;whnf;arg 2;whnf,?_⟩;conv=>rhs;whnf
|exact trivial)
 rfl
theorem vBool_ac (b:Bool):AC EN5 Tryz.prog 247 [.c (.bool b)] (VV (valD 1 (if b=true then 1 else 0) [] [] [])):=by
 refine zM 8 Tryz.func247 rfl rfl rfl rfl ?_
 intro s w he
 repeat' (first
|apply zA9 (VV (valD 1 0 [] [] [])) rfl rfl
 . conv=>lhs;whnf;arg 2;whnf
 . repeat' (first | exact VLe.refl _ | exact VLe.nil _ | exact VLe.lit _ _ | exact VLe.own _ _ _ | apply VLe.agg | apply VLeL.cons | exact VLeL.nil)
|refine zA ?_
|refine zB ?_
|refine zH ?_
|apply aw_1
 conv=>whnf
 refine ⟨?_,trivial⟩
|apply s_1
 conv=>whnf;arg 1;arg 4;arg 3;whnf
 refine ⟨?_,?_⟩
|apply zT rfl rfl rfl
 . conv=>lhs;whnf
 . conv=>lhs;whnf;arg 1;whnf
 . conv=>lhs;whnf;arg 1;whnf
 . exact ⟨by kernel_rfl,by kernel_rfl⟩
 . rfl
|refine ze (by conv=>lhs;whnf) ?_ ?_<;>intro hb
|refine zE ?_
|refine ⟨_,by conv=>lhs;whnf;arg 2;whnf,?_⟩;conv=>rhs;whnf
|exact trivial)
 . rw [if_pos hb];rfl
 . rw [if_neg (by rw [hb];decide)];rfl
end
section
open Go.RowKit
attribute [local irreducible] wpList Calls Code.wp
section
variable {X:Cx} {nn:Nat} {st:Vst nn} {ops:Array Oper} {o:Oper}
theorem opOk_callR {K:Vst nn->Prop} {f:FuncId} {vargs args:List V} {bs:List Res} {r:V} (ns:List Nat) (h:act1 X.P st.rs (ev st) o.op = .call f vargs) (hc:ACB X.e X.P f args bs r bs) (hnd:ns.Nodup) (ha:renL (φin ns) vargs=args)
 (hb:ns.map st.rs=bs.map some) (hp : ∀ ρ∈bs,∀ φ,renR φ ρ=ρ) (hK:K (st.put o.dst (renV (φout ns) r))):OpOk X o st K:=by
 have hall:=fun ρ (h:ρ∈bs) φ=>hp ρ h φ
 have hget : ∀ (i q:Nat),ns[i]? = some q->bs[i]? = st.rs q:=fun i q hq=>by
  have h3:(ns.map st.rs)[i]? = (bs.map some)[i]?:=by rw [hb]
  rw [List.getElem?_map,List.getElem?_map,hq] at h3
  cases hbi:bs[i]? with
  |none=>rw [hbi] at h3;simp at h3
  |some ρ=>rw [hbi] at h3;simp at h3;exact h3.symm
 refine zAn ns h hc hnd ha ?_ ?_
 . rw [<- hb]
   refine List.map_congr_left fun q hq => ?_
   obtain ⟨i,hi⟩:=List.getElem?_of_mem hq
   cases hr:st.rs q with
   |none=>rfl
   |some ρ =>
    have:=(hget i q hi).trans hr
    rw [Option.map_some,hall ρ (List.mem_of_getElem? this) _]
 . have e:bs.map (renR (φout ns))=bs:=by
    conv=>rhs;rw [<- List.map_id bs]
    exact List.map_congr_left fun ρ hρ=>hall ρ hρ _
   have e2:st.resN ns bs=st:=by
    unfold Vst.resN
    have:updN st.rs ns bs=st.rs:=by
     funext m
     unfold updN
     split
     . rename_i i hi;exact hget i m (zBE hi)
     . rfl
    rw [this]
   rw [e,e2];exact hK
def gvD (ops:Array Oper) (st:Vst nn) (j:Nat):Option (Option Bool):=
 match (ops[j]?).bind (·.dst) with
 |some d=>match ev st (.tmp d) with | .c (.bool b)=>some (some b) | .tup []=>some none | _=>none
 |none=>none
def gwD (ops:Array Oper) (o:Oper) (st:Vst nn):Option Bool:=
 match o.guard with
 |none=>some true
 |some (j,want)=>(gvD ops st j).map (· == some want)
theorem gvD_of {j:Nat} {b:Bool} (h:gval ops st j=some b):gvD ops st j=some (some b):=by
 unfold gval at h
 unfold gvD
 split at h
 . rename_i d hd
   rw [hd]
   dsimp only
   split at h
   . rename_i b' hb;rw [hb];cases h;rfl
   . cases h
 . cases h
theorem gwD_ok {s:Sg} {w:World} {a:Act} {b:Bool} (h:gwD ops o st=some b) (hI:Inv X st s w a):Region.wanted o (yielded ops a.tmps)=b:=by
 unfold gwD at h
 split at h
 . rename_i hg;unfold Region.wanted;rw [hg];cases h;rfl
 . rename_i j want hg
   obtain ⟨q,hq,rfl⟩:=Option.map_eq_some_iff.1 h
   cases q with
   |some b' =>
    have hb:gval ops st j=some b':=by
     unfold gvD at hq
     unfold gval
     split at hq
     . rename_i d hd
       rw [hd]
       dsimp only
       split at hq
       . rename_i b2 hb;rw [hb];cases hq;rfl
       . cases hq
       . cases hq
     . cases hq
    unfold Region.wanted
    rw [hg]
    simp [zHa hb hI]
   |none =>
    unfold gvD at hq
    split at hq
    . rename_i t ht
      split at hq
      . cases hq
      . rename_i hu
        have hr:=hI.ev (.tmp t)
        rw [hu,rel] at hr
        have he:a.tmps.getD t undef=undef:=by
         obtain ⟨cs,h1,h2⟩:=hr
         have:cs = #[]:=by
          apply Array.ext'
          cases hc:cs.toList with
          |nil=>rfl
          |cons x xs=>rw [hc] at h2;simp [relL] at h2
         have h3:a.tmps.getD t undef = .tuple cs:=h1
         rw [h3,this];rfl
        have hy:yielded ops a.tmps j=none:=by
         unfold yielded
         rw [ht]
         simp only [Option.bind_some]
         rw [Array.getD_eq_getD_getElem?] at he
         cases hq:a.tmps[t]? with
         |none=>simp
         |some u=>rw [hq] at he;simp at he;rw [he];rfl
        unfold Region.wanted
        rw [hg]
        cases hq
        simp [hy]
      . cases hq
    . cases hq
inductive YldT (X:Cx) (rd wr:List Nat) (o:Oper) (st:Vst nn):V->List (Nat × Res)->Prop where
 |val {p:Prop} {v:V} (h:act1 X.P st.rs (ev st) o.op = .val p v) (hp:p) (hl:inO rd (loads (ev st) o.op)=true):YldT X rd wr o st v []
 |valW {p:Prop} {v v':V} (h:act1 X.P st.rs (ev st) o.op = .val p v) (hle:VLe v v') (hp:p) (hl:inO rd (loads (ev st) o.op)=true):YldT X rd wr o st v' []
 |call {f:FuncId} {args:List V} {v:V} (h:act1 X.P st.rs (ev st) o.op = .call f args) (hc:AC X.e X.P f (outL args) v):YldT X rd wr o st v []
 |lit {t e:TypeId} {b m:Nat} {parts:Array (Nat × Operand)} {ds:List D} (ho:o.op = .buildSlice t m parts) (he:zz X.P t=some (e,b)) (hn:m=ds.length) (hs:m*X.P.cellsOf e<=2^24) (hp:zDA X.P e (ev st) parts.toList 0 ds):YldT X rd wr o st (.lit e ds) []
 |pick {c x y:Operand} {b:Bool} (ho:o.op = .pick c x y) (hc:ev st c = .c (.bool b)):YldT X rd wr o st (bif b then ev st x else ev st y) []
 |callB {f:FuncId} {vargs args:List V} {bs bs':List Res} {r:V} (ns:List Nat) (h:act1 X.P st.rs (ev st) o.op = .call f vargs) (hc:ACB X.e X.P f args bs r bs') (hnd:ns.Nodup) (ha:renL (φin ns) vargs=args) (hb:ns.map (fun n=>(st.rs n).map (renR (φin ns)))=bs.map some)
   (hl:ns.all (fun n=>wr.contains n)=true) (hlen:bs'.length=ns.length):YldT X rd wr o st (renV (φout ns) r) (ns.zip (bs'.map (renR (φout ns))))
 |callR {f:FuncId} {vargs args:List V} {bs:List Res} {r:V} (ns:List Nat) (h:act1 X.P st.rs (ev st) o.op = .call f vargs) (hc:ACB X.e X.P f args bs r bs) (hnd:ns.Nodup) (ha:renL (φin ns) vargs=args) (hb:ns.map st.rs=bs.map some) (hp : ∀ ρ∈bs,∀ φ,renR φ ρ=ρ)
   (hl:ns.all (fun n=>rd.contains n)=true):YldT X rd wr o st (renV (φout ns) r) []
 |onlit {t e:TypeId} {b:Nat} {x y:Operand} {l l2:List D} (ho:o.op = .call { callee:=.builtin .append,args:=#[x,y],argTypes:=#[t,t] }) (he:zz X.P t=some (e,b)) (hleaf : ∀ d,(cellsV X.P 12 e d).all V.leaf=true)
   (hx:ev st x = .lit e l) (hy:(ev st y).out = .sl e l2) (hp:l.length+l2.length<=maxLen/\(l.length+l2.length)*b<=140737488355328):YldT X rd wr o st (.sl e (l++l2)) []
 |app {t e:TypeId} {b k:Nat} {x y:Operand} {l l2:List D} (hk:wr.contains k=true) (ho:o.op = .call { callee:=.builtin .append,args:=#[x,y],argTypes:=#[t,t] }) (he:zz X.P t=some (e,b)) (hleaf : ∀ d,(cellsV X.P 12 e d).all V.leaf=true)
   (hx:ev st x = .own k e l) (hr:st.rs k=some (.tok e l.length)) (hy:(ev st y).out = .sl e l2) (hp:0<l2.length/\l.length+l2.length<=maxLen/\(l.length+l2.length)*b<=140737488355328) :
   YldT X rd wr o st (.own k e (l++l2)) [(k,.tok e (l.length+l2.length))]
 |store {t t':TypeId} {x y:Operand} {n off:Nat} {vs xs:List V} (hk:wr.contains n=true) (ho:o.op = .store t x y) (hd:o.dst=none) (hx:ev st x = .bx n off) (hr:st.rs n=some (.box t' vs)) (hc:cellsOf (ev st y)=some xs)
   (hs:X.P.cellsOf t=xs.length/\(X.P.info? t).isSome) (hl:off+xs.length<=vs.length):YldT X rd wr o st .any [(n,.box t' (splice vs off xs))]
def YldU (X:Cx) (ops:Array Oper) (rd wr:List Nat) (o:Oper) (st:Vst nn) (v:V) (u:List (Nat × Res)):Prop:=
 (gwD ops o st=some true/\YldT X rd wr o st v u)\/(gwD ops o st=some false/\v = .tup []/\u=[])
theorem opOk_yldT {rd wr:List Nat} {K:Vst nn->Prop} {v:V} {u:List (Nat × Res)} (h:YldT X rd wr o st v u) (hK:K (stp st o.dst v u)):OpOk X o st K:=by
 cases h with
 |val h hp hl=>exact zCt h hp hK
 |valW h hle hp hl=>exact zFA _ h hle hp hK
 |call h hc=>exact zCc h hc hK
 |lit ho he hn hs hp=>exact zEb ho he hn hs hp hK
 |callR ns h hc hnd ha hb hp hl=>exact opOk_callR ns h hc hnd ha hb hp hK
 |callB ns h hc hnd ha hb hl hlen =>
  refine zAn ns h hc hnd ha hb ?_
  unfold stp at hK
  rw [zDV hnd (by simpa using hlen)] at hK
  exact hK
 |pick ho hc=>exact zAu ho hc hK
 |onlit ho he hleaf hx hy hp=>exact zBS ho he hleaf hx hy hp.1 hp.2 hK
 |app hk ho he hleaf hx hr hy hp =>
  unfold stp at hK;rw [zB3] at hK
  exact zAY ho he hleaf hx hr hy hp.1 hp.2.1 hp.2.2 hK
 |store hk ho hd hx hr hc hs hl =>
  unfold stp at hK;rw [zB3,hd] at hK
  exact zCu ho hd hx hr hc hs hl hK
theorem YldT.congr {rd wr:List Nat} {st st':Vst nn} {v:V} {u:List (Nat × Res)} (hev : ∀ x∈o.op.operands,ev st' x=ev st x) (hrs : ∀ n,rd.contains n=true\/wr.contains n=true->st'.rs n=st.rs n) (hact:inO rd (loads (ev st) o.op)=true->act1 X.P st'.rs (ev st') o.op=act1 X.P st.rs (ev st) o.op)
 (hact2 : ∀ f args,act1 X.P st'.rs (ev st') o.op = .call f args ↔ act1 X.P st.rs (ev st) o.op = .call f args) (h:YldT X rd wr o st v u):YldT X rd wr o st' v u:=by
 have hloads:=zBW o.op hev
 cases h with
 |val h hp hl=>exact .val (by rw [hact hl];exact h) hp (by rw [hloads];exact hl)
 |valW h hle hp hl=>exact .valW (by rw [hact hl];exact h) hle hp (by rw [hloads];exact hl)
 |call h hc=>exact .call ((hact2 _ _).2 h) hc
 |lit ho he hn hs hp=>exact .lit ho he hn hs (zBA _ _ _ (fun p hp=>(hev p.2 (by rw [ho];simp [Op.operands];exact ⟨p.1,by simpa using hp⟩)).symm) hp)
 |callB ns h hc hnd ha hb hl hlen =>
  refine .callB ns ((hact2 _ _).2 h) hc hnd ha ?_ hl hlen
  rw [<- hb]
  exact List.map_congr_left fun q hq=>by rw [hrs q (.inr (List.all_eq_true.1 hl q hq))]
 |callR ns h hc hnd ha hb hp hl =>
  refine .callR ns ((hact2 _ _).2 h) hc hnd ha ?_ hp hl
  rw [<- hb]
  exact List.map_congr_left fun q hq=>hrs q (.inl (List.all_eq_true.1 hl q hq))
 |pick ho hc =>
  rename_i c x y b
  rw [<- hev c (by rw [ho];simp [Op.operands])] at hc
  rw [<- hev x (by rw [ho];simp [Op.operands]),<- hev y (by rw [ho];simp [Op.operands])]
  exact .pick ho hc
 |onlit ho he hleaf hx hy hp =>
  rw [<- hev _ (by rw [ho];simp [Op.operands,Call.operands])] at hx
  rw [<- hev _ (by rw [ho];simp [Op.operands,Call.operands])] at hy
  exact .onlit ho he hleaf hx hy hp
 |app hk ho he hleaf hx hr hy hp =>
  rw [<- hev _ (by rw [ho];simp [Op.operands,Call.operands])] at hx
  rw [<- hev _ (by rw [ho];simp [Op.operands,Call.operands])] at hy
  exact .app hk ho he hleaf hx (by rw [hrs _ (.inr hk)];exact hr) hy hp
 |store hk ho hd hx hr hc hs hl =>
  rw [<- hev _ (by rw [ho];simp [Op.operands])] at hx
  rw [<- hev _ (by rw [ho];simp [Op.operands])] at hc
  exact .store hk ho hd hx (by rw [hrs _ (.inr hk)];exact hr) hc hs hl
theorem YldU.of {rd wr:List Nat} {d:Option Tmp} {v v':V} {u u':List (Nat × Res)} (hd : ∀ t,d=some t->t ∉ o.looksAt ops) (hu:Off rd wr u') :
 YldU X ops rd wr o (stp st d v' u') v u ↔ YldU X ops rd wr o st v u:=by
 have hev : ∀ x∈o.op.operands,ev (stp st d v' u') x=ev st x:=fun x hx=>zFT fun t ht hxt=>hd t ht (by
  subst hxt
  exact List.mem_append_left _ (List.mem_filterMap.2 ⟨.tmp t,by simpa using hx,rfl⟩))
 have hloads:=zBW o.op hev
 have hact:inO rd (loads (ev st) o.op)=true->act1 X.P (stp st d v' u').rs (ev (stp st d v' u')) o.op=act1 X.P st.rs (ev st) o.op:=fun hl=>by
  rw [zBN o.op hev,zCS]
  exact zLg hu _ hl
 have hact2 : ∀ f args,act1 X.P (stp st d v' u').rs (ev (stp st d v' u')) o.op = .call f args ↔ act1 X.P st.rs (ev st) o.op = .call f args:=fun f args=>by
  rw [zBN o.op hev]
  cases ho:o.op
  case load t x =>
   have nob : ∀ rs,act1 X.P rs (ev st) (.load t x) ≠ .call f args:=fun rs h=>by
    simp only [act1,zFG,zBg] at h
    repeat' (split at h)
    all_goals cases h
   exact ⟨fun h=>(nob _ h).elim,fun h=>(nob _ h).elim⟩
  case slice t x lo hi mx=>cases mx<;>rfl
  all_goals rfl
 have hgv : ∀ j want,o.guard=some (j,want)->gvD ops (stp st d v' u') j=gvD ops st j:=fun j want hg=>by
  unfold gvD
  cases ht:(ops[j]?).bind (·.dst) with
  |none=>rfl
  |some t =>
   have:ev (stp st d v' u') (.tmp t)=ev st (.tmp t):=zFT fun q hq hqt=>by
    cases hqt
    exact hd t hq (by simp [Oper.looksAt,hg,ht])
   simp only [this]
 have hgw:gwD ops o (stp st d v' u')=gwD ops o st:=by
  unfold gwD
  cases hg:o.guard with
  |none=>rfl
  |some jw=>simp only [hgv jw.1 jw.2 hg]
 have hrs : ∀ n,rd.contains n=true\/wr.contains n=true->(stp st d v' u').rs n=st.rs n:=fun n hn=>by
  rw [zCS];exact zEY hu hn
 unfold YldU
 rw [hgw]
 refine or_congr (and_congr Iff.rfl ⟨fun h => ?_,fun h => ?_⟩) Iff.rfl
 . exact h.congr (fun x hx=>(hev x hx).symm) (fun n hn=>(hrs n hn).symm) (fun hl=>(hact (by rw [hloads] at hl;exact hl)).symm) fun f args=>(hact2 f args).symm
 . exact h.congr hev hrs hact hact2
theorem YldU.names {rd wr:List Nat} {v:V} {u:List (Nat × Res)} (h:YldU X ops rd wr o st v u) : ∀ p∈u,wr.contains p.1=true:=by
 rcases h with ⟨_,h⟩ | ⟨_,_,rfl⟩
 . cases h with
   |app hk=>exact fun p hp=>by simp at hp;subst hp;exact hk
   |store hk=>exact fun p hp=>by simp at hp;subst hp;exact hk
   |callB ns h hc hnd ha hb hl hlen=>exact fun p hp=>List.all_eq_true.1 hl _ (List.of_mem_zip hp).1
   |_=>exact fun p hp=>by simp at hp
 . exact fun p hp=>by simp at hp
variable {rd wr:Nat->List Nat}
def aOpU (X:Cx) (ops:Array Oper) (rd wr:Nat->List Nat) (i:Nat) (K:Vst nn->Prop) (st:Vst nn):Prop:=
 match ops[i]? with
 |none=>K st
 |some o => ∃ v u,YldU X ops (rd i) (wr i) o st v u/\K (stp st o.dst v u)
theorem aOpU_mono {i:Nat} {K K':Vst nn->Prop} (h : ∀ st,K st->K' st) (hh:aOpU X ops rd wr i K st):aOpU X ops rd wr i K' st:=by
 unfold aOpU at *
 split
 . rename_i hn;simp only [hn] at hh;exact h _ hh
 . rename_i o ho
   simp only [ho] at hh
   obtain ⟨v,u,h1,h2⟩:=hh
   exact ⟨v,u,h1,h _ h2⟩
def absAnyU (X:Cx) (ops:Array Oper) (rd wr:Nat->List Nat) (Q:Vst nn->Prop):Nat->Array Bool->Vst nn->Prop
 |0,listed,st=>Region.ready .any ops listed=[]/\Q st
 |fuel+1,listed,st=>(Region.ready .any ops listed=[]->Q st) /\ ∀ i∈Region.ready .any ops listed,aOpU X ops rd wr i (absAnyU X ops rd wr Q fuel (listed.setIfInBounds i true)) st
theorem aOpU_put {i j:Nat} {oi oj:Oper} {v:V} {u:List (Nat × Res)} (hj:ops[j]? = some oj) (hap:oi.apart ops oj=true) (hn:zBd (wr i) (rd j)=true/\zBd (wr i) (wr j)=true/\zBd (wr j) (rd i)=true) {K:Vst nn->Prop} (hy:YldU X ops (rd i) (wr i) oi st v u) (h:aOpU X ops rd wr j K (stp st oi.dst v u)) :
 aOpU X ops rd wr j (fun st'=>YldU X ops (rd i) (wr i) oi st' v u/\K (stp st' oi.dst v u)) st:=by
 obtain ⟨h1,h2,h3⟩:=Oper.apart_spec hap
 unfold aOpU at *
 simp only [hj] at *
 obtain ⟨v',u',hy',hK⟩:=h
 have hu:Off (rd j) (wr j) u:=fun p hp=>by
  have hw:=hy.names p hp
  refine ⟨?_,?_⟩
  . cases hq:(rd j).contains p.1
    . rfl
    . exact (zAS hn.1 hw hq).elim
  . cases hq:(wr j).contains p.1
    . rfl
    . exact (zAS hn.2.1 hw hq).elim
 have hyj:YldU X ops (rd j) (wr j) oj st v' u':=(YldU.of h1 hu).1 hy'
 have hu':Off (rd i) (wr i) u':=fun p hp=>by
  have hw:=hyj.names p hp
  refine ⟨?_,?_⟩
  . cases hq:(rd i).contains p.1
    . rfl
    . exact (zAS hn.2.2 hw hq).elim
  . cases hq:(wr i).contains p.1
    . rfl
    . exact (zAS hn.2.1 hq hw).elim
 have huu : ∀ p∈u,∀ q∈u',p.1≠q.1:=fun p hp q hq e=>by
  have h5:=hy.names p hp
  have h6:=hyj.names q hq
  rw [<- e] at h6
  exact zAS hn.2.1 h5 h6
 exact ⟨v',u',hyj,(YldU.of h3 hu').2 hy,by rw [<- zEv h2 huu];exact hK⟩
theorem zHv {Q:Vst nn->Prop} {i:Nat} {oi:Oper} {v:V} {u:List (Nat × Res)} (hi:ops[i]? = some oi) (hN:zBu ops rd wr=true) :
 ∀ (fuel:Nat) (listed:Array Bool) (st:Vst nn),Closed ops listed->(∀ j,j<i->listed.getD j false=true) ->
   (∀ j oj,ops[j]? = some oj->j≠i->listed.getD j true=false->(∀ e∈oj.after,Region.binds .any e=true->e.on≠i)->oi.apart ops oj=true) ->
   i∈Region.ready .any ops listed->YldU X ops (rd i) (wr i) oi st v u ->
   absAnyU X ops rd wr Q fuel (listed.setIfInBounds i true) (stp st oi.dst v u)->absAnyU X ops rd wr Q (fuel+1) listed st:=by
 intro fuel
 induction fuel with
 |zero =>
  intro listed st _ _ _ hr hy H
  refine ⟨fun h=>(by rw [h] at hr;cases hr),fun j hj => ?_⟩
  by_cases hji:j=i
  . subst hji;unfold aOpU;simp only [hi];exact ⟨v,u,hy,H⟩
  . have:=ready_mono hj hji
    rw [H.1] at this
    cases this
 |succ fuel ih =>
  intro listed st hcl hlow hfree hr hy H
  refine ⟨fun h=>(by rw [h] at hr;cases hr),fun j hj => ?_⟩
  by_cases hji:j=i
  . subst hji;unfold aOpU;simp only [hi];exact ⟨v,u,hy,H⟩
  . have h1:=H.2 j (ready_mono hj hji)
    obtain ⟨hjun,oj,hoj,hall⟩:=mem_ready.1 hj
    have hiun:=(mem_ready.1 hr).1
    have hnot : ∀ e∈oj.after,Region.binds .any e=true->e.on≠i:=fun e he hb heq=>by
     have h1:=hall e he hb
     rw [heq] at h1
     exact zAM hiun h1
    have hij:i<j:=by
     rcases Nat.lt_trichotomy i j with h | h | h
     . exact h
     . exact absurd h.symm hji
     . exact (zAM hjun (hlow j h)).elim
    have hsz:j<ops.size:=(Array.getElem?_eq_some_iff.1 hoj).1
    have hnm:zBd (wr i) (rd j)=true/\zBd (wr i) (wr j)=true/\zBd (wr j) (rd i)=true:=by
     have h2:=List.all_eq_true.1 (List.all_eq_true.1 hN j (List.mem_range.2 hsz)) i (List.mem_range.2 hij)
     rw [Bool.or_eq_true] at h2
     rcases h2 with h2 | h2
     . simp only [Bool.and_eq_true] at h2;exact ⟨h2.1.1,h2.1.2,h2.2⟩
     . refine (zAM hiun (zDe hcl _ _ (fun k hk => ?_) i (by simpa using h2))).elim
       unfold zFm at hk
       rw [hoj] at hk
       obtain ⟨e,he,rfl⟩:=List.mem_map.1 hk
       obtain ⟨h2,h3⟩:=List.mem_filter.1 he
       exact hall e (by simpa using h2) h3
    have h2:=aOpU_put (i:=i) hoj (hfree j oj hoj hji hjun hnot) hnm hy h1
    have hfree' : ∀ k ok,ops[k]? = some ok->k≠i->(listed.setIfInBounds j true).getD k true=false ->
     (∀ e∈ok.after,Region.binds .any e=true->e.on≠i)->oi.apart ops ok=true:=fun k ok hk hki hun hno=>by
     refine hfree k ok hk hki ?_ hno
     by_cases hjk:j=k
     . subst hjk;exact hjun
     . rw [getD_set_ne true hjk] at hun;exact hun
    refine aOpU_mono (fun st' h3=>ih (listed.setIfInBounds j true) st' (hcl.set hj) (fun k hk=>getD_set_true (hlow k hk)) hfree' (ready_mono hr (Ne.symm hji)) h3.1 ?_) h2
    rw [Array.setIfInBounds_comm _ _ hji]
    exact h3.2
def absLexU (X:Cx) (ops:Array Oper) (rd wr:Nat->List Nat) (Q:Vst nn->Prop):Nat->List Oper->Vst nn->Prop
 |_,[],st=>Q st
 |k,o::rest,st => ∃ v u,YldU X ops (rd k) (wr k) o st v u/\absLexU X ops rd wr Q (k+1) rest (stp st o.dst v u)
theorem zFj {Q:Vst nn->Prop} (hN:zBu ops rd wr=true) : ∀ (l:List Oper) (k:Nat) (listed:Array Bool) (st:Vst nn),(∀ j,l[j]? = ops[k+j]?)->Closed ops listed->(∀ j,j<k->listed.getD j false=true)->listed.size=ops.size ->
 Region.lexFrom .any ops l.length k listed=true->absLexU X ops rd wr Q k l st->absAnyU X ops rd wr Q l.length listed st
 |[],_,_,_,_,_,_,_,hB,h=>⟨by simpa [Region.lexFrom] using hB,h⟩
 |o::l,k,listed,st,hl,hcl,hlow,hsz,hB,h=>by
  have h0:ops[k]? = some o:=by simpa using (hl 0).symm
  have hk:k<ops.size:=(Array.getElem?_eq_some_iff.1 h0).1
  simp only [List.length_cons,Region.lexFrom,Bool.and_eq_true] at hB
  obtain ⟨⟨hr,hf⟩,hB'⟩:=hB
  have hr:k∈Region.ready .any ops listed:=by simpa using hr
  obtain ⟨v,u,hy,hK⟩:=h
  exact zHv h0 hN l.length listed st hcl hlow (Region.free_spec h0 hf) hr hy
   (zFj hN l (k+1) _ _ (fun j=>by have:=hl (j+1);simpa [Nat.add_assoc,Nat.add_comm 1 j] using this) (hcl.set hr) (fun j hj=>by
     by_cases e:j=k
     . subst e;exact zB9 (by omega)
     . exact getD_set_true (hlow j (by omega))) (by simpa using hsz) hB' hK)
theorem zBH {Q:Vst nn->Prop} {Q':Exit->Act->World->Prop} (hP:PQ X nn Q') (hQ : ∀ st' s' w' a',Inv X st' s' w' a'->Q st'->Q' .normal a' w') : ∀ (fuel:Nat) (listed:Array Bool) (st:Vst nn) (s:Sg) (w:World) (a:Act),Inv X st s w a ->
 absAnyU X ops rd wr Q fuel listed st->wpAny X.P .any ops Q' fuel listed a w
 |0,_,_,_,_,_,hI,h=>⟨h.1,hQ _ _ _ _ hI h.2⟩
 |fuel+1,listed,st,s,w,a,hI,h=>⟨fun h0=>hQ _ _ _ _ hI (h.1 h0),fun i hi=>by
  have h1:=h.2 i hi
  unfold aOpU at h1
  unfold wpOp
  cases ho:ops[i]? with
  |none =>
   simp only [ho] at h1 |-
   exact zBH hP hQ fuel _ st s w a hI h1
  |some o =>
   simp only [ho] at h1 |-
   obtain ⟨v,u,hy,hK⟩:=h1
   rcases hy with ⟨hg,hy⟩ | ⟨hg,rfl,rfl⟩
   . rw [if_pos (gwD_ok hg hI)]
     exact .inl (opOk_yldT (K:=absAnyU X ops rd wr Q fuel (listed.setIfInBounds i true)) hy hK s w a hI _ _ hP fun st' s' w' a' hI' hK'=>zBH hP hQ fuel _ st' s' w' a' hI' hK')
   . rw [if_neg (by rw [gwD_ok hg hI];simp)]
     exact zBH hP hQ fuel _ _ s w (a.put o.dst undef) (hI.put o.dst (by rw [rel];exact ⟨#[],rfl,by simp [relL]⟩)) hK⟩
theorem aw_drawU (r w:List (Nat × List Nat)) {id:Nat} {l:List Oper} {K:Exit->Vst nn->Prop} (hm:X.P.follows .mixedOrders=true) (hB:Region.lexB .any l.toArray=true) (hN:zBu l.toArray (nmf r) (nmf w)=true) (h:absLexU X l.toArray (nmf r) (nmf w) (K .normal) 0 l st):AW X (.region id l.toArray true) st K:=fun s wd a hI=>by
 simp only [Region.lexB,Bool.and_eq_true] at hB
 refine wp_region_any hm (zBH (rd:=nmf r) (wr:=nmf w) (Q:=K .normal) (fun pv st' s' w' a' hI' hp=>⟨st',s',hI',.inr ⟨pv,rfl,hp⟩⟩) (fun st' s' w' a' hI' hK=>⟨st',s',hI',.inl hK⟩) _ _ st s _ a hI.drew ?_)
 have:=zFj (X:=X) (rd:=nmf r) (wr:=nmf w) (Q:=K .normal) hN l 0 (Array.replicate l.toArray.size false) st (by simp) (fun k o _ hk=>by
  have e:(Array.replicate l.toArray.size false).getD k false=false:=by
   rw [Array.getD_eq_getD_getElem?,Array.getElem?_replicate]
   split<;>rfl
  rw [e] at hk;cases hk) (fun j hj=>absurd hj (Nat.not_lt_zero j)) (by simp) (by simpa using hB.2) h
 simpa using this
section
variable {l:List Oper} {Q:Vst nn->Prop} {d:Option Tmp} {k:Nat}
theorem u_nil (h:Q st):absLexU X ops rd wr Q k [] st:=h
theorem u_val {p:Prop} {v:V} (hg:o.guard=none) (hd:o.dst=d) (h:act1 X.P st.rs (ev st) o.op = .val p v) (hK:absLexU X ops rd wr Q (k+1) l (st.put d v)) (hp:p) (hl:inO (rd k) (loads (ev st) o.op)=true):absLexU X ops rd wr Q k (o::l) st:=
 ⟨v,[],.inl ⟨by simp [gwD,hg],.val h hp hl⟩,by rw [hd];exact hK⟩
theorem u_skip {j:Nat} {want b:Bool} (hg:o.guard=some (j,want)) (hd:o.dst=d) (hb:gval ops st j=some b) (hne:(b==want)=false) (hK:absLexU X ops rd wr Q (k+1) l (st.put d (.tup []))):absLexU X ops rd wr Q k (o::l) st:=
 ⟨.tup [],[],.inr ⟨by simp [gwD,hg,gvD_of hb,hne],rfl,rfl⟩,by rw [hd];exact hK⟩
theorem u_pick_t {c x y:Operand} {b:Bool} (hg:o.guard=none) (ho:o.op = .pick c x y) (hd:o.dst=d) (hc:ev st c = .c (.bool b)) (hb:b=true) (hK:absLexU X ops rd wr Q (k+1) l (st.put d (ev st x))):absLexU X ops rd wr Q k (o::l) st:=
 ⟨_,[],.inl ⟨by simp [gwD,hg],.pick ho hc⟩,by rw [hd,hb];exact hK⟩
theorem u_pick_f {c x y:Operand} {b:Bool} (hg:o.guard=none) (ho:o.op = .pick c x y) (hd:o.dst=d) (hc:ev st c = .c (.bool b)) (hb:b=false) (hK:absLexU X ops rd wr Q (k+1) l (st.put d (ev st y))):absLexU X ops rd wr Q k (o::l) st:=
 ⟨_,[],.inl ⟨by simp [gwD,hg],.pick ho hc⟩,by rw [hd,hb];exact hK⟩
theorem zEH {j:Nat} {want b:Bool} {p:Prop} {v:V} (hg:o.guard=some (j,want)) (hd:o.dst=d) (hb:gval ops st j=some b) (hne:(b==want)=true) (h:act1 X.P st.rs (ev st) o.op = .val p v) (hK:absLexU X ops rd wr Q (k+1) l (st.put d v)) (hp:p) (hl:inO (rd k) (loads (ev st) o.op)=true):absLexU X ops rd wr Q k (o::l) st:=
 ⟨v,[],.inl ⟨by simp [gwD,hg,gvD_of hb,hne],.val h hp hl⟩,by rw [hd];exact hK⟩
theorem zJT {j:Nat} {want b:Bool} {p:Prop} {v:V} (hg:o.guard=some (j,want)) (hd:o.dst=d) (hb:gval ops st j=some b) (h:act1 X.P st.rs (ev st) o.op = .val p v) (hK:(b==want)=true->absLexU X ops rd wr Q (k+1) l (st.put d v)) (hp:(b==want)=true->p)
 (hl:inO (rd k) (loads (ev st) o.op)=true) (hN:(b==want)=false->absLexU X ops rd wr Q (k+1) l (st.put d (.tup []))):absLexU X ops rd wr Q k (o::l) st:=by
 cases e:b==want
 . exact u_skip hg hd hb e (hN e)
 . exact zEH hg hd hb e h (hK e) (hp e) hl
theorem aw_drawUn (n:Nat) (r w:List (Nat × List Nat)) {id:Nat} {l:List Oper} {K:Exit->Vst nn->Prop} (hn:l.length=n) (hm:X.P.follows .mixedOrders=true) (hB:Region.lexB .any l.toArray=true) (hN:zBu l.toArray (nmf r) (nmf w)=true) (h:absLexU X l.toArray (nmf r) (nmf w) (K .normal) 0 l st):AW X (.region id l.toArray true) st K:=
 aw_drawU r w hm hB hN h
end
end
end
section
open Go.RowKit
set_option linter.unusedSectionVars false
attribute [local irreducible] wpList Calls Code.wp AW AWo OpOk seqK zm zo loopK endK AC zh Yld Sub
attribute [local irreducible] ACB ACX ACE absLexG YldG absLexU YldU
def clS (al:List Tok) (x:PS):List V:=[.sl 89 (al.map tokD),.c (.int .i64 ((al.length-x.ts.length:Nat):Int))]
theorem zU (al:List Tok) (φ:Nat->Option Nat) (x:PS):renL φ (clS al x)=clS al x:=rfl
def boxS (al:List Tok) (x:PS):Res:=.box 64 (clS al x)
def zEw (e:Nat × Int):Value:=.iface 60 (.agg #[.int .i64 (e.1:Int),.int .i64 e.2])
def outS {α:Type} (al:List Tok) (toV:α->V) (r:PR α):Out:=outP 64 (clS al) toV zEw r
theorem zk (al:List Tok) (x:PS):clS al x=clS al x:=rfl
section
variable {al:List Tok} {x:PS} (h:Sx al x)
include h
theorem etaS1 (hk:(hdT x).k≠5):[V.sl 89 (al.map tokD),.c (.int .i64 (((al.length-x.ts.length:Nat):Int)+1))]=clS al (nxT x):=by
 have h1:=(h.nx hk).2
 have h2:=h.len
 unfold clS
 rw [show ((al.length-(nxT x).ts.length:Nat):Int)=((al.length-x.ts.length:Nat):Int)+1 by omega]
theorem atS:0<=((al.length-x.ts.length:Nat):Int)/\((al.length-x.ts.length:Nat):Int)<((al.map tokD).length:Int):=by
 have h1:=h.pos
 have h2:=h.len
 rw [List.length_map]
 omega
theorem gdS:gD (al.map tokD) (((al.length-x.ts.length:Nat):Int)).toNat=tokD (hdT x):=by
 have h1:=h.pos
 have h2:=h.len
 rw [<- h.hd,Int.toNat_natCast]
 unfold gD
 rw [List.getD_eq_getElem?_getD,List.getD_eq_getElem?_getD,List.getElem?_map,List.getElem?_eq_getElem (by omega)];rfl
variable (hal:al.length<=100000)
include hal
theorem zHD:ACB EN5 Tryz.prog 48 [.bx (pn 0) 0] [boxS al x] (.agg (tokC (hdT x))) [boxS al x]:=by
 have hgd:=gdS h
 refine zAZ (fn:=Tryz.f48) 13 Tryz.func48 rfl rfl ?_
 intro pas w0 w he hp
 repeat' (first
|refine zA ?_
|refine zB ?_
|refine zH ?_
|apply aw_1
 conv=>whnf
 refine ⟨?_,trivial⟩
|apply s_1
 conv=>whnf;arg 1;arg 4;arg 3;whnf
 refine ⟨?_,?_⟩
|apply zAN (by kernel_rfl) (by kernel_rfl)
|apply zBl
|apply zBk rfl
 . conv=>lhs;whnf
 . conv=>lhs;whnf;arg 2;whnf
|apply y_store rfl rfl rfl
 . conv=>lhs;whnf
 . rfl
 . rfl
 . conv=>lhs;whnf;arg 1;whnf
 . conv=>lhs;whnf;arg 1;whnf
 . exact ⟨by kernel_rfl,by kernel_rfl⟩
 . rfl
|exact zn
|show zDE _ _=true;rfl
|refine zCM ⟨?_,?_⟩
|refine ⟨_,by conv=>lhs;whnf;arg 2;whnf,?_⟩;conv=>rhs;whnf
|exact trivial)
 all_goals first
  |exact atS h
  |exact ⟨rfl,trivial⟩
  |skip
 . rw [hgd];rfl
theorem zD0:ACB EN5 Tryz.prog 49 [.bx (pn 0) 0] [boxS al x] (.c (.bool ((hdT x).k==2))) [boxS al x]:=by
 have hn:=zHD h hal
 refine zAZ (fn:=Tryz.f49) 7 Tryz.func49 rfl rfl ?_
 intro pas w0 w he hp
 repeat' (first
|apply s_m (clS al) (zU al) rfl
 . conv=>lhs;whnf
 . conv=>lhs;whnf
 . rfl
 . conv=>lhs;whnf;arg 1;whnf
 . first | exact zk _ _
 . first | exact hn
 . exact fun _=>rfl
 . exact fun _=>rfl
|refine zA ?_
|refine zB ?_
|refine zH ?_
|apply aw_1
 conv=>whnf
 refine ⟨?_,trivial⟩
|apply s_1
 conv=>whnf;arg 1;arg 4;arg 3;whnf
 refine ⟨?_,?_⟩
|refine zCM ⟨?_,?_⟩
|refine ⟨_,by conv=>lhs;whnf;arg 2;whnf,?_⟩;conv=>rhs;whnf
|exact trivial)
 all_goals first
  |exact ⟨rfl,trivial⟩
  |rfl
theorem zCb (e:Int):ACE EN5 Tryz.prog 51 [.bx (pn 0) 0,.c (.int .i64 e)] [boxS al x] (.die (zEw ((hdT x).i,e))):=by
 have hn:=zHD h hal
 refine zj (fn:=Tryz.f51) 10 Tryz.func51 rfl rfl ?_
 intro pas w0 w he hp
 repeat' (first
|apply s_m (clS al) (zU al) rfl
 . conv=>lhs;whnf
 . conv=>lhs;whnf
 . rfl
 . conv=>lhs;whnf;arg 1;whnf
 . first | exact zk _ _
 . first | exact hn
 . exact fun _=>rfl
 . exact fun _=>rfl
|apply s_die rfl rfl
 . conv=>lhs;whnf
 change _=Out.die _
|refine zA ?_
|apply s_1
 conv=>whnf;arg 1;arg 4;arg 3;whnf
 refine ⟨?_,?_⟩
|exact trivial)
 rfl
theorem p_is (s:List UInt8):ACB EN5 Tryz.prog 174 [.bx (pn 0) 0,.c (.string (bs s))] [boxS al x] (.c (.bool (isS x s))) [boxS al x]:=by
 have hn:=zHD h hal
 have e:isS x s=((hdT x).k==1&&(bs (hdT x).s).toList==(bs s).toList):=by
  unfold isS
  rw [Lib.toList_data,Lib.toList_data,zAG,zAG]
 rw [e]
 refine zAZ (fn:=Tryz.f174) 17 Tryz.func174 rfl rfl ?_
 intro pas w0 w he hp
 repeat' (first
|apply s_m (clS al) (zU al) rfl
 . conv=>lhs;whnf
 . conv=>lhs;whnf
 . rfl
 . conv=>lhs;whnf;arg 1;whnf
 . first | exact zk _ _
 . first | exact hn
 . exact fun _=>rfl
 . exact fun _=>rfl
|apply zV rfl
 . conv=>lhs;whnf
 . conv=>lhs;whnf
 . first | rfl | assumption
|refine zA ?_
|refine zB ?_
|refine zH ?_
|apply aw_1
 conv=>whnf
 refine ⟨?_,trivial⟩
|apply zQ rfl rfl
 . conv=>lhs;whnf
 . conv=>lhs;whnf
 . first | exact bT1 ‹_› | exact bT2 ‹_›
|apply zO rfl rfl
 . conv=>lhs;whnf
 . conv=>lhs;whnf
 . first | exact bF1 ‹_› | exact bF2 ‹_›
|apply s_1
 conv=>whnf;arg 1;arg 4;arg 3;whnf
 refine ⟨?_,?_⟩
|apply zT rfl rfl rfl
 . conv=>lhs;whnf
 . conv=>lhs;whnf;arg 1;whnf
 . conv=>lhs;whnf;arg 1;whnf
 . exact ⟨by kernel_rfl,by kernel_rfl⟩
 . rfl
|apply zD rfl
 . conv=>lhs;whnf
 . conv=>lhs;whnf
 . first | rfl | assumption
 . conv=>lhs;whnf;arg 2;whnf
|apply zC rfl
 . conv=>lhs;whnf
 . conv=>lhs;whnf
 . conv=>lhs;whnf;arg 2;whnf
|refine zCM ⟨?_,?_⟩
|refine ⟨_,by conv=>lhs;whnf;arg 2;whnf,?_⟩;conv=>rhs;whnf
|exact trivial
|intro hg)
 all_goals first
  |exact ⟨rfl,trivial⟩
  |skip
 . have h:((hdT x).k==1)=true:=bT1 ‹_›
   rw [h];rfl
 . have h:((hdT x).k==1)=false:=bF1 ‹_›
   rw [h];rfl
theorem zE9 {s:List UInt8} (hs:isS x s=true):ACB EN5 Tryz.prog 173 [.bx (pn 0) 0,.c (.string (bs s))] [boxS al x] (.c (.bool true)) [boxS al (nxT x)]:=by
 have hi:=p_is h hal s
 rw [hs] at hi
 have hk:(hdT x).k≠5:=by unfold isS at hs;simp only [Bool.and_eq_true,beq_iff_eq] at hs;rw [hs.1];decide
 have hl:=h.len
 have he1:=etaS1 h hk
 refine zAZ (fn:=Tryz.f173) 16 Tryz.func173 rfl rfl ?_
 intro pas w0 w he hp
 repeat' (first
|apply s_m (clS al) (zU al) rfl
 . conv=>lhs;whnf
 . conv=>lhs;whnf
 . rfl
 . conv=>lhs;whnf;arg 1;whnf
 . first | exact zk _ _
 . first | exact hi
 . exact fun _=>rfl
 . exact fun _=>rfl
|refine zA ?_
|refine zB ?_
|refine zH ?_
|apply aw_1
 conv=>whnf
 refine ⟨?_,trivial⟩
|apply s_1
 conv=>whnf;arg 1;arg 4;arg 3;whnf
 refine ⟨?_,?_⟩
|apply zT rfl rfl rfl
 . conv=>lhs;whnf
 . conv=>lhs;whnf;arg 1;whnf
 . conv=>lhs;whnf;arg 1;whnf
 . exact ⟨by kernel_rfl,by kernel_rfl⟩
 . rfl
|refine zCM ⟨?_,?_⟩
|refine ⟨_,by conv=>lhs;whnf;arg 2;whnf,?_⟩;conv=>rhs;whnf
|exact trivial)
 all_goals first
  |exact zR (by omega)
  |exact ⟨congrArg (fun c=>some (Res.box _ c)) he1,trivial⟩
  |rfl
  |skip
theorem zDi {s:List UInt8} (hs:isS x s=false):ACB EN5 Tryz.prog 173 [.bx (pn 0) 0,.c (.string (bs s))] [boxS al x] (.c (.bool false)) [boxS al x]:=by
 have hi:=p_is h hal s
 rw [hs] at hi
 refine zAZ (fn:=Tryz.f173) 16 Tryz.func173 rfl rfl ?_
 intro pas w0 w he hp
 repeat' (first
|apply s_m (clS al) (zU al) rfl
 . conv=>lhs;whnf
 . conv=>lhs;whnf
 . rfl
 . conv=>lhs;whnf;arg 1;whnf
 . first | exact zk _ _
 . first | exact hi
 . exact fun _=>rfl
 . exact fun _=>rfl
|refine zA ?_
|refine zB ?_
|refine zH ?_
|apply aw_1
 conv=>whnf
 refine ⟨?_,trivial⟩
|apply s_1
 conv=>whnf;arg 1;arg 4;arg 3;whnf
 refine ⟨?_,?_⟩
|refine zN ?_
|refine zCM ⟨?_,?_⟩
|refine ⟨_,by conv=>lhs;whnf;arg 2;whnf,?_⟩;conv=>rhs;whnf
|exact trivial)
 all_goals first
  |exact ⟨rfl,trivial⟩
  |rfl
  |skip
theorem p_acc (s:List UInt8):ACB EN5 Tryz.prog 173 [.bx (pn 0) 0,.c (.string (bs s))] [boxS al x] (.c (.bool (isS x s))) [boxS al (if isS x s=true then nxT x else x)]:=by
 by_cases hs:isS x s=true
 . rw [if_pos hs,hs];exact zE9 h hal hs
 . have hs:isS x s=false:=by simpa using hs
   rw [if_neg (by rw [hs];decide),hs];exact zDi h hal hs
theorem zA6 (s:List UInt8):ACE EN5 Tryz.prog 119 [.bx (pn 0) 0,.c (.string (bs s))] [boxS al x] (outS al (fun _ => .tup []) (takeQ s x)):=by
 have hf:=zCb h hal 3
 by_cases hs:isS x s=true
 . have ha:=zE9 h hal hs
   rw [takeQ,if_pos hs]
   refine zj (fn:=Tryz.f119) 10 Tryz.func119 rfl rfl ?_
   intro pas w0 w he hp
   repeat' (first
|apply s_m (clS al) (zU al) rfl
 . conv=>lhs;whnf
 . conv=>lhs;whnf
 . rfl
 . conv=>lhs;whnf;arg 1;whnf
 . first | exact zk _ _
 . first | exact ha
 . exact fun _=>rfl
 . exact fun _=>rfl
|refine zA ?_
|refine zB ?_
|refine zH ?_
|apply aw_1
 conv=>whnf
 refine ⟨?_,trivial⟩
|apply s_1
 conv=>whnf;arg 1;arg 4;arg 3;whnf
 refine ⟨?_,?_⟩
|apply zKr rfl
 . conv=>lhs;whnf;arg 1;whnf
|exact trivial)
   rfl
 . have ha:=zDi h hal (by simpa using hs)
   rw [takeQ,if_neg hs]
   refine zj (fn:=Tryz.f119) 10 Tryz.func119 rfl rfl ?_
   intro pas w0 w he hp
   repeat' (first
|apply s_m (clS al) (zU al) rfl
 . conv=>lhs;whnf
 . conv=>lhs;whnf
 . rfl
 . conv=>lhs;whnf;arg 1;whnf
 . first | exact zk _ _
 . first | exact ha
 . exact fun _=>rfl
 . exact fun _=>rfl
|apply zBs [pn 0] rfl
 . conv=>lhs;whnf
 . first | exact hf
 . decide
 . rfl
 . rfl
 change _=Out.die _
|refine zA ?_
|refine zB ?_
|refine zH ?_
|apply aw_1
 conv=>whnf
 refine ⟨?_,trivial⟩
|apply s_1
 conv=>whnf;arg 1;arg 4;arg 3;whnf
 refine ⟨?_,?_⟩
|exact trivial)
   rfl
theorem zDh:ACE EN5 Tryz.prog 116 [.bx (pn 0) 0] [boxS al x] (outS al (fun n => .c (.string (bs n))) (nameQ x)):=by
 have hf:=zCb h hal 3
 have hm:=zD0 h hal
 have hn:=zHD h hal
 have hl:=h.len
 by_cases hk:(hdT x).k=2
 . have he1:=etaS1 h (by rw [hk];decide)
   rw [show ((hdT x).k==2)=true by simpa using hk] at hm
   rw [nameQ,if_pos hk]
   refine zj (fn:=Tryz.f116) 20 Tryz.func116 rfl rfl ?_
   intro pas w0 w he hp
   repeat' (first
|apply s_m (clS al) (zU al) rfl
 . conv=>lhs;whnf
 . conv=>lhs;whnf
 . rfl
 . conv=>lhs;whnf;arg 1;whnf
 . first | exact zk _ _
 . first | exact hm | exact hn
 . exact fun _=>rfl
 . exact fun _=>rfl
|refine zA ?_
|refine zB ?_
|refine zH ?_
|apply aw_1
 conv=>whnf
 refine ⟨?_,trivial⟩
|apply s_1
 conv=>whnf;arg 1;arg 4;arg 3;whnf
 refine ⟨?_,?_⟩
|apply zT rfl rfl rfl
 . conv=>lhs;whnf
 . conv=>lhs;whnf;arg 1;whnf
 . conv=>lhs;whnf;arg 1;whnf
 . exact ⟨by kernel_rfl,by kernel_rfl⟩
 . rfl
|apply zAR rfl
 . conv=>lhs;whnf;arg 2;whnf
 . conv=>lhs;whnf;arg 1;whnf
|exact trivial)
   all_goals first
    |exact zR (by omega)
    |(refine congrArg (fun c=>Out.ret _ [Res.box _ c]) ?_;exact he1.symm)
    |skip
 . rw [show ((hdT x).k==2)=false by simpa using hk] at hm
   rw [nameQ,if_neg hk]
   refine zj (fn:=Tryz.f116) 20 Tryz.func116 rfl rfl ?_
   intro pas w0 w he hp
   repeat' (first
|apply s_m (clS al) (zU al) rfl
 . conv=>lhs;whnf
 . conv=>lhs;whnf
 . rfl
 . conv=>lhs;whnf;arg 1;whnf
 . first | exact zk _ _
 . first | exact hm | exact hn
 . exact fun _=>rfl
 . exact fun _=>rfl
|apply zBs [pn 0] rfl
 . conv=>lhs;whnf
 . first | exact hf
 . decide
 . rfl
 . rfl
 change _=Out.die _
|refine zA ?_
|refine zB ?_
|refine zH ?_
|apply aw_1
 conv=>whnf
 refine ⟨?_,trivial⟩
|apply s_1
 conv=>whnf;arg 1;arg 4;arg 3;whnf
 refine ⟨?_,?_⟩
|exact trivial)
   rfl
def zIL (n most:Nat) (x:PS):PR Unit:=if (hdT x).k=2/\most<=n then .error ((hdT x).i,4) else .ok ((),x)
theorem p_room (n most:Nat):ACE EN5 Tryz.prog 172 [.bx (pn 0) 0,.c (.int .i64 n),.c (.int .i64 most)] [boxS al x] (outS al (fun _ => .tup []) (zIL n most x)):=by
 have hf:=zCb h hal 4
 have hm:=zD0 h hal
 refine zj (fn:=Tryz.f172) 15 Tryz.func172 rfl rfl ?_
 intro pas w0 w he hp
 repeat' (first
|apply s_m (clS al) (zU al) rfl
 . conv=>lhs;whnf
 . conv=>lhs;whnf
 . rfl
 . conv=>lhs;whnf;arg 1;whnf
 . first | exact zk _ _
 . first | exact hm
 . exact fun _=>rfl
 . exact fun _=>rfl
|apply zV rfl
 . conv=>lhs;whnf
 . conv=>lhs;whnf
 . first | rfl | assumption
|apply zBs [pn 0] rfl
 . conv=>lhs;whnf
 . first | exact hf
 . decide
 . rfl
 . rfl
 change _=Out.die _
|refine zA ?_
|refine zB ?_
|refine zH ?_
|apply aw_1
 conv=>whnf
 refine ⟨?_,trivial⟩
|apply zQ rfl rfl
 . conv=>lhs;whnf
 . conv=>lhs;whnf
 . first | exact bT1 ‹_› | exact bT2 ‹_›
|apply zO rfl rfl
 . conv=>lhs;whnf
 . conv=>lhs;whnf
 . first | exact bF1 ‹_› | exact bF2 ‹_›
|apply s_1
 conv=>whnf;arg 1;arg 4;arg 3;whnf
 refine ⟨?_,?_⟩
|apply zD rfl
 . conv=>lhs;whnf
 . conv=>lhs;whnf
 . first | rfl | assumption
 . conv=>lhs;whnf;arg 2;whnf
|apply zC rfl
 . conv=>lhs;whnf
 . conv=>lhs;whnf
 . conv=>lhs;whnf;arg 2;whnf
|refine ze (by conv=>lhs;whnf) ?_ ?_<;>intro hb
|apply zKr rfl
 . conv=>lhs;whnf;arg 1;whnf
|exact trivial
|intro hg)
 . have h1:(hdT x).k=2:=beq_iff_eq.1 (bT1 ‹_›)
   have h2:most<=n:=by have h2:decide ((n:Int)>=(most:Int))=true:=by assumption
                       simpa using h2
   rw [zIL,if_pos ⟨h1,h2⟩];rfl
 . have h2 : ¬ most<=n:=by have h2:decide ((n:Int)>=(most:Int))=false:=by assumption
                           simpa using h2
   rw [zIL,if_neg (fun h=>h2 h.2)];rfl
 . have h1 : ¬ (hdT x).k=2:=beq_eq_false_iff_ne.1 (bF1 ‹_›)
   rw [zIL,if_neg (fun h=>h1 h.1)];rfl
end
end
section
open Go.RowKit
def zCo (w:List Int) (x:PS):List Int:=if isS x [33]=true then 1::w else w
def zEE (x:PS):PS:=if isS x [33]=true then nxT x else x
def zEO:Nat->List Int->PS->PR (List Int)
 |0,w,x => .ok (w,x)
 |n+1,w,x=>zb (takeQ [93] x) fun _ y=>zEO n (zCo (2::w) y) (zEE y)
theorem zLW : ∀ (n:Nat) (w:List Int) (x:PS),closeQ n w x=zEO n (zCo w x) (zEE x)
 |0,w,x=>by unfold closeQ zEO zCo zEE;split<;>rfl
 |n+1,w,x=>by
  unfold closeQ zEO
  show zb (takeQ [93] (zEE x)) (fun _ y=>closeQ n (2::zCo w x) y)=_
  congr 1
  funext _ y
  exact zLW n _ y
attribute [local irreducible] wpList Calls Code.wp AW AWo OpOk seqK zm zo loopK endK AC zh Yld Sub
attribute [local irreducible] ACB ACX ACE absLexG YldG absLexU YldU
theorem Sx.bang {al:List Tok} {x:PS} (h:Sx al x):Sx al (zEE x)/\(zEE x).ts.length<=x.ts.length:=by
 unfold zEE
 split
 . rename_i hs;have:=h.sg hs;exact ⟨this.1,by omega⟩
 . exact ⟨h,Nat.le_refl _⟩
def zRef:List V:=[.c (.string ⟨#[]⟩),.c (.slice none 0 0)]
noncomputable def HwO (al:List Tok) (y:PS) (n:Nat):Vst 50:=
 stS 50 [(0,.bx (pn 0) 0),(2,.bx 2 0),(3,.bx 3 0),(4,.c (.int .i64 (n:Int)))] [(pn 0,boxS al y),(2,.box 48 zRef),(3,.box 48 zRef)]
noncomputable def HwB (al:List Tok) (y:PS) (nm:List UInt8) (n:Nat) (b:List D):Vst 50:=
 stS 50 [(0,.bx (pn 0) 0),(2,.bx 2 0),(3,.bx 3 0),(4,.c (.int .i64 (n:Int))),(5,.own 5 3 b)] [(pn 0,boxS al y),(2,.box 48 zRef),(3,.box 48 [.c (.string (bs nm)),.c (.slice none 0 0)]),(5,.tok 3 b.length)]
noncomputable def HwC (al:List Tok) (y:PS) (nm:List UInt8) (n i:Nat) (b:List D):Vst 50:=
 stS 50 [(0,.bx (pn 0) 0),(2,.bx 2 0),(3,.bx 3 0),(5,.own 5 3 b),(19,.c (.int .i64 (n:Int))),(20,.c (.int .i64 (i:Int)))] [(pn 0,boxS al y),(2,.box 48 zRef),(3,.box 48 [.c (.string (bs nm)),.c (.slice none 0 0)]),(5,.tok 3 b.length)]
noncomputable def HwD (al:List Tok) (y:PS) (nm:List UInt8) (b:List D) (i:Int) (a:List D):Vst 50:=
 stS 50 [(0,.bx (pn 0) 0),(2,.bx 2 0),(3,.bx 3 0),(5,.own 5 3 b),(6,.c (.int .i64 i))] [(pn 0,boxS al y),(2,.box 48 zRef),(3,.box 48 [.c (.string (bs nm)),.own 906 3 a]),(5,.tok 3 b.length),(906,.tok 3 a.length)]
abbrev VI (t:List UInt8 × List Int):V:=.agg [.c (.string (bs t.1)),.sl 3 (t.2.map D.int)]
theorem rev_step {l:List D} {j:Nat} (hj:j+1<=l.length):(l.drop (j+1)).reverse++[gD l j]=(l.drop j).reverse:=by
 have hj:j<l.length:=by omega
 rw [List.drop_eq_getElem_cons hj,List.reverse_cons,zBx hj]
theorem p_wrapped {al:List Tok} {x:PS} (h:Sx al x) (hal:al.length<=100000):ACE EN5 Tryz.prog 203 [.bx (pn 0) 0] [boxS al x] (outS al VI (zAh x)):=by
 have hxl:=h.len
 refine zj (fn:=Tryz.f203) 50 Tryz.func203 rfl rfl ?_
 intro pas w0 w he hp
 repeat' (first
|refine zA ?_
|refine zB ?_
|refine zH ?_
|apply aw_1
 conv=>whnf
 refine ⟨?_,trivial⟩
|apply s_1
 conv=>whnf;arg 1;arg 4;arg 3;whnf
 refine ⟨?_,?_⟩
|exact trivial)
 refine zf (fun j st => ∃ y n,Sx al y/\y.ts.length<=j/\n+y.ts.length<=x.ts.length/\openQ x.ts.length x=((openQ j y).1+n,(openQ j y).2)/\Sub (cxE EN5 Tryz.prog pas w0 w he hp (outS al VI (zAh x))) st (HwO al y n)) x.ts.length ⟨x,0,h,Nat.le_refl _,by omega,rfl,?_⟩ ?_
 . exact Sub.live ⟨rfl,rfl,rfl,rfl,trivial⟩ ⟨rfl,rfl,rfl,trivial⟩
 rintro j st ⟨y,n,hy,hyj,hyl,hO,hsub⟩
 refine zi hsub ?_
 clear hsub
 have hyp:=hy.pos
 cases j with
 |zero=>omega
 |succ j =>
 by_cases hs:isS y [91]=true
 . have ha:=zE9 hy hal hs
   have hsg:=hy.sg hs
   repeat' (first
|apply s_m (clS al) (zU al) rfl
 . conv=>lhs;whnf
 . conv=>lhs;whnf
 . rfl
 . conv=>lhs;whnf;arg 1;whnf
 . first | exact zk _ _
 . first | exact ha
 . exact fun _=>rfl
 . exact fun _=>rfl
|refine zA ?_
|refine zB ?_
|refine zH ?_
|refine zW ?_
|apply aw_1
 conv=>whnf
 refine ⟨?_,trivial⟩
|apply s_1
 conv=>whnf;arg 1;arg 4;arg 3;whnf
 refine ⟨?_,?_⟩
|exact trivial)
   all_goals first
    |exact zR (by omega)
    |skip
   refine zI (j':=j) (by omega) ⟨nxT y,n+1,hsg.1,by omega,by omega,?_,Sub.live ⟨rfl,rfl,rfl,rfl,trivial⟩ ⟨rfl,rfl,rfl,trivial⟩⟩
   rw [hO,openQ,if_pos hs]
   show ((openQ j (nxT y)).1+1+n,_)=((openQ j (nxT y)).1+(n+1),_)
   rw [Nat.add_assoc,Nat.add_comm 1 n]
 have hs:isS y [91]=false:=by simpa using hs
 have ha:=zDi hy hal hs
 have hnm:=zDh hy hal
 have hO2:openQ x.ts.length x=(n,y):=by rw [hO,openQ,if_neg (by rw [hs];decide)];simp
 have hI0:zAh x=zb (nameQ y) fun nm z=>zb (closeQ n [] z) fun w u => .ok ((nm,w),u):=by
  unfold zAh
  rw [hO2]
 have hb0 : ∀ {k z},nameQ y = .ok (k,z)->ACB EN5 Tryz.prog 173 [.bx (pn 0) 0,.c (.string (bs [33]))] [boxS al z] (.c (.bool (isS z [33]))) [boxS al (zEE z)]:=fun hq=>p_acc (hy.name hq).1 hal [33]
 clear hO
 repeat' (first
|apply s_m (clS al) (zU al) rfl
 . conv=>lhs;whnf
 . conv=>lhs;whnf
 . rfl
 . conv=>lhs;whnf;arg 1;whnf
 . first | exact zk _ _
 . first | exact ha | exact hb0 ‹_›
 . exact fun _=>rfl
 . exact fun _=>rfl
|apply s_pr (clS al) (zU al) rfl
 . conv=>lhs;whnf
 . conv=>lhs;whnf
 . rfl
 . conv=>lhs;whnf;arg 1;whnf
 . first | exact zk _ _
 . first | exact hnm
 . exact fun _=>rfl
 . first | (intro _ _;simp only [renL,renV,ren_cells];done) | exact fun _ _=>rfl
 refine fun ee hq => ?_
 change _=Out.die _
 rotate_left 1
 refine fun aa xx hq => ?_
 first | (replace hq:=zy hq;obtain ⟨hq,rfl⟩:=hq) | (cases hq;have hq:=True.intro) | skip
|apply zq 7 (HwB al xx aa n []) rfl
|apply zq 9 (HwB al (zEE xx) aa n ((zCo [] xx).reverse.map D.int)) rfl
|refine zBw ?_
|refine zA ?_
|refine zB ?_
|refine zH ?_
|apply aw_1
 conv=>whnf
 refine ⟨?_,trivial⟩
|apply s_1
 conv=>whnf;arg 1;arg 4;arg 3;whnf
 refine ⟨?_,?_⟩
|apply zT rfl rfl rfl
 . conv=>lhs;whnf
 . conv=>lhs;whnf;arg 1;whnf
 . conv=>lhs;whnf;arg 1;whnf
 . exact ⟨by kernel_rfl,by kernel_rfl⟩
 . rfl
|apply zDb rfl rfl
 . conv=>lhs;whnf
 . first | exact zCz | (conv=>lhs;whnf;arg 1;whnf)
 . first | exact fun _=>rfl | (intro _;kernel_rfl)
 . conv=>lhs;whnf
 . conv=>lhs;whnf;arg 1;whnf
 . conv=>lhs;whnf
|apply s_lit1 rfl rfl
 . conv=>lhs;whnf
 . first | exact zCz | (conv=>lhs;whnf;arg 1;whnf)
 . conv=>lhs;whnf;arg 1;whnf
 . rfl
 . rfl
|refine ze (by conv=>lhs;whnf) ?_ ?_<;>intro hb
|refine zL ?_
|refine zJ rfl ?_
|refine zK ?_
|exact trivial)
 . exact (Sub.own (t:=5) (e:=3) rfl rfl).trans (Sub.live ⟨rfl,rfl,rfl,rfl,rfl,trivial⟩ ⟨rfl,rfl,rfl,rfl,trivial⟩)
 . rw [zCo,if_pos hb]
   exact Sub.live ⟨rfl,rfl,rfl,rfl,rfl,trivial⟩ ⟨rfl,rfl,rfl,rfl,trivial⟩
 . refine ⟨by simp,?_,?_⟩<;>simp only [List.length_cons,List.length_nil,maxLen]<;>omega
 . rw [zCo,if_neg (by rw [hb];decide)]
   exact Sub.live ⟨rfl,rfl,rfl,rfl,rfl,trivial⟩ ⟨rfl,rfl,rfl,rfl,trivial⟩
 rotate_left 1
 . rw [hI0,hq];rfl
 have hI:zAh x=zb (zEO n (zCo [] xx) (zEE xx)) fun w u => .ok ((aa,w),u):=by rw [hI0,hq,<- zLW];rfl
 have hxx:=(hy.name hq).1
 have hxl2:=(hy.name hq).2
 have hb1:=hxx.bang
 have hwl:(zCo [] xx).length<=1:=by unfold zCo;split<;>simp
 clear ha hnm hO2 hI0 hb0
 rename List UInt8=>nm
 rename PS=>z0
 refine zf (fun j st => ∃ z w' i,i+j=n/\Sx al z/\w'.length+2*j<=2*n+1/\zAh x=zb (zEO j w' z) (fun w u => .ok ((nm,w),u))/\Sub (cxE EN5 Tryz.prog pas w0 w he hp (outS al VI (zAh x))) st (HwC al z nm n i (w'.reverse.map D.int))) n ⟨zEE z0,zCo [] z0,0,by omega,hb1.1,by omega,hI,?_⟩ ?_
 . exact Sub.live ⟨rfl,rfl,rfl,rfl,rfl,rfl,trivial⟩ ⟨rfl,rfl,rfl,rfl,trivial⟩
 rintro j st ⟨z,w',i,hij,hz,hwl',hI2,hsub⟩
 refine zi hsub ?_
 clear hsub hI
 cases j with
 |zero =>
  have hin:i=n:=by omega
  subst hin
  have K:decide ((i:Int)<(i:Int))=true->False:=fun h=>by simp at h
  obtain ⟨b,hbd⟩ : ∃ b:List D,b=w'.reverse.map D.int:=⟨_,rfl⟩
  have hbl:b.length<=2*i+1:=by rw [hbd,List.length_map,List.length_reverse];omega
  have hI3:zAh x = .ok ((nm,w'),z):=by rw [hI2];rfl
  rw [<- hbd]
  repeat' (first
|exact (K ‹_›).elim
|refine zA ?_
|refine zB ?_
|refine zH ?_
|apply aw_1
 conv=>whnf
 refine ⟨?_,trivial⟩
|apply s_1
 conv=>whnf;arg 1;arg 4;arg 3;whnf
 refine ⟨?_,?_⟩
|refine ze (by conv=>lhs;whnf) ?_ ?_<;>intro hb
|refine zL ?_
|refine zJ rfl ?_
|refine zK ?_
|exact trivial)
  all_goals first
   |exact zR (by omega)
   |skip
  refine zi (Sub.ownF (m:=3) (q:=906) (i:=1) (e:=3) rfl (by decide) rfl rfl rfl) ?_
  refine zf (fun j st=>j<=b.length/\Sub (cxE EN5 Tryz.prog pas w0 w he hp (outS al VI (zAh x))) st (HwD al z nm b ((j:Int)-1) (b.drop j).reverse)) b.length ⟨Nat.le_refl _,?_⟩ ?_
  . rw [List.drop_length]
    exact Sub.live ⟨rfl,rfl,rfl,rfl,rfl,trivial⟩ ⟨rfl,rfl,rfl,rfl,rfl,trivial⟩
  rintro j st ⟨hjl,hsub⟩
  refine zi hsub ?_
  clear hsub
  cases j with
  |zero =>
   have K:decide ((((0:Nat):Int)-1)>=0)=true->False:=fun h=>by simp at h
   repeat' (first
|refine zA ?_
|refine zB ?_
|refine zH ?_
|apply aw_1
 conv=>whnf
 refine ⟨?_,trivial⟩
|apply s_1
 conv=>whnf;arg 1;arg 4;arg 3;whnf
 refine ⟨?_,?_⟩
|apply zT rfl rfl rfl
 . conv=>lhs;whnf
 . conv=>lhs;whnf;arg 1;whnf
 . conv=>lhs;whnf;arg 1;whnf
 . exact ⟨by kernel_rfl,by kernel_rfl⟩
 . rfl
|refine zL ?_
|refine zJ rfl ?_
|refine zK ?_
|apply zAR rfl
 . conv=>lhs;whnf;arg 2;whnf
 . conv=>lhs;whnf;arg 1;whnf
|exact trivial)
   rw [hI3]
   show Out.ret (V.agg [.c (.string (bs nm)),.sl 3 (w'.map D.int)]) _=Out.ret (V.agg [.c (.string (bs nm)),.sl 3 (b.drop 0).reverse]) _
   rw [List.drop_zero,hbd,<- List.map_reverse,List.reverse_reverse]
  |succ j =>
   have K:decide ((((j+1:Nat):Int)-1)>=0)=false->False:=fun h=>by simp at h
   repeat' (first
|apply zJH 10 ([(1,[3]),(4,[5]),(5,[5])]) ([(7,[906]),(9,[3])]) rfl (by kernel_rfl) (by kernel_rfl) (by kernel_rfl)
|apply zHc
|apply zHb rfl
 . conv=>lhs;whnf
 . conv=>lhs;whnf;arg 2;whnf
|apply zIv rfl rfl
 . conv=>lhs;whnf
 . first | exact zCz | (conv=>lhs;whnf;arg 1;whnf)
 . first | exact fun _=>rfl | (intro _;kernel_rfl)
 . conv=>lhs;whnf
 . rfl
 . conv=>lhs;whnf;arg 1;whnf
 . conv=>lhs;whnf
|apply zCE rfl rfl rfl
 . conv=>lhs;whnf
 . rfl
 . conv=>lhs;whnf;arg 1;whnf
 . conv=>lhs;whnf;arg 1;whnf
 . exact ⟨by kernel_rfl,by kernel_rfl⟩
 . rfl
|show inO _ _=true;rfl
|apply zDm [gD b (((j+1:Nat):Int)-1).toNat] rfl rfl
 . conv=>lhs;whnf
 . first | exact zCz | (conv=>lhs;whnf;arg 1;whnf)
 . rfl
 . rfl
 . repeat' (first | exact trivial | apply And.intro | rfl)
|exact (K ‹_›).elim
|refine zA ?_
|refine zB ?_
|refine zH ?_
|refine zW ?_
|apply aw_1
 conv=>whnf
 refine ⟨?_,trivial⟩
|apply s_1
 conv=>whnf;arg 1;arg 4;arg 3;whnf
 refine ⟨?_,?_⟩
|refine ze (by conv=>lhs;whnf) ?_ ?_<;>intro hb
|exact trivial)
   all_goals first
    |exact zR (by omega)
    |exact (⟨by omega,by omega⟩:0<=((j+1:Nat):Int)-1/\((j+1:Nat):Int)-1<(b.length:Int))
    |(refine ⟨by simp,?_,?_⟩<;>simp only [List.length_reverse,List.length_drop,List.length_cons,List.length_nil,maxLen]<;>omega)
    |skip
   . refine zI (j':=j) (by omega) ⟨by omega,?_⟩
     have e1:(((j+1:Nat):Int)-1).toNat=j:=by omega
     have e2:=rev_step (l:=b) (j:=j) hjl
     refine Sub.live ⟨rfl,rfl,rfl,rfl,?_,trivial⟩ ⟨rfl,rfl,?_,rfl,?_,trivial⟩
     . show V.c (.int .i64 (((j+1:Nat):Int)-1-1))=V.c (.int .i64 ((j:Int)-1))
       rw [show ((j+1:Nat):Int)-1-1=(j:Int)-1 by omega]
     . show some (Res.box _ [_,V.own 906 _ ((b.drop (j+1)).reverse++[gD b (((j+1:Nat):Int)-1).toNat])])=some (Res.box _ [_,V.own 906 _ (b.drop j).reverse])
       rw [e1,e2]
     . show some (Res.tok _ ((b.drop (j+1)).reverse.length+1))=some (Res.tok _ (b.drop j).reverse.length)
       rw [<- e2,List.length_append];rfl
 |succ j =>
  have K:decide ((i:Int)<(n:Int))=false->False:=fun h=>by simp at h;omega
  have hex:=zA6 hz hal [93]
  rcases hT:takeQ [93] z with ee | ⟨⟨⟩,x1⟩
  . have K2 : ∀ {u y},takeQ [93] z = .ok (u,y)->False:=fun h=>by rw [hT] at h;cases h
    repeat' (first
|apply s_pr (clS al) (zU al) rfl
 . conv=>lhs;whnf
 . conv=>lhs;whnf
 . rfl
 . conv=>lhs;whnf;arg 1;whnf
 . first | exact zk _ _
 . first | exact hex
 . exact fun _=>rfl
 . first | (intro _ _;simp only [renL,renV,ren_cells];done) | exact fun _ _=>rfl
 refine fun ee hq => ?_
 change _=Out.die _
 rotate_left 1
 refine fun aa xx hq => ?_
 first | (replace hq:=zy hq;obtain ⟨hq,rfl⟩:=hq) | (cases hq;have hq:=True.intro) | skip
|exact (K ‹_›).elim
|exact (K2 ‹_›).elim
|refine zA ?_
|refine zB ?_
|refine zH ?_
|apply aw_1
 conv=>whnf
 refine ⟨?_,trivial⟩
|apply s_1
 conv=>whnf;arg 1;arg 4;arg 3;whnf
 refine ⟨?_,?_⟩
|refine ze (by conv=>lhs;whnf) ?_ ?_<;>intro hb
|exact trivial)
    rw [hI2,zEO,hq];rfl
  rw [hT] at hex
  have hx1:=hz.take hT
  have hb0:=p_acc hx1.1 hal [33]
  repeat' (first
|apply s_m (clS al) (zU al) rfl
 . conv=>lhs;whnf
 . conv=>lhs;whnf
 . rfl
 . conv=>lhs;whnf;arg 1;whnf
 . first | exact zk _ _
 . first | exact hb0
 . exact fun _=>rfl
 . exact fun _=>rfl
|apply s_pr (clS al) (zU al) rfl
 . conv=>lhs;whnf
 . conv=>lhs;whnf
 . rfl
 . conv=>lhs;whnf;arg 1;whnf
 . first | exact zk _ _
 . first | exact hex
 . exact fun _=>rfl
 . first | (intro _ _;simp only [renL,renV,ren_cells];done) | exact fun _ _=>rfl
 refine fun ee hq => ?_
 change _=Out.die _
 rotate_left 1
 refine fun aa xx hq => ?_
 first | (replace hq:=zy hq;obtain ⟨hq,rfl⟩:=hq) | (cases hq;have hq:=True.intro) | skip
|exact (K ‹_›).elim
|apply zq 13 (HwC al x1 nm n i ((2::w').reverse.map D.int)) rfl
|apply zq 15 (HwC al (zEE x1) nm n i ((zCo (2::w') x1).reverse.map D.int)) rfl
|refine zBw ?_
|refine zA ?_
|refine zB ?_
|refine zH ?_
|refine zW ?_
|apply aw_1
 conv=>whnf
 refine ⟨?_,trivial⟩
|apply s_1
 conv=>whnf;arg 1;arg 4;arg 3;whnf
 refine ⟨?_,?_⟩
|apply zDb rfl rfl
 . conv=>lhs;whnf
 . first | exact zCz | (conv=>lhs;whnf;arg 1;whnf)
 . first | exact fun _=>rfl | (intro _;kernel_rfl)
 . conv=>lhs;whnf
 . conv=>lhs;whnf;arg 1;whnf
 . conv=>lhs;whnf
|apply s_lit1 rfl rfl
 . conv=>lhs;whnf
 . first | exact zCz | (conv=>lhs;whnf;arg 1;whnf)
 . conv=>lhs;whnf;arg 1;whnf
 . rfl
 . rfl
|refine ze (by conv=>lhs;whnf) ?_ ?_<;>intro hb
|exact trivial)
  all_goals first
   |exact zR (by omega)
   |(refine ⟨by simp,?_,?_⟩<;>simp only [List.length_reverse,List.length_map,List.length_cons,List.length_nil,maxLen]<;>omega)
   |(cases hq;done)
   |skip
  . refine Sub.live ⟨rfl,rfl,rfl,?_,rfl,rfl,trivial⟩ ⟨rfl,rfl,rfl,?_,trivial⟩
    . show V.own 5 _ (w'.reverse.map D.int++[D.int 2])=V.own 5 _ ((2::w').reverse.map D.int)
      rw [List.reverse_cons,List.map_append];rfl
    . show some (Res.tok _ ((w'.reverse.map D.int).length+1))=some (Res.tok _ ((2::w').reverse.map D.int).length)
      rw [List.reverse_cons,List.map_append,List.length_append];rfl
  . rw [show zCo (2::w') x1=1::2::w' from if_pos hb]
    have er:(1::2::w':List Int).reverse=(2::w').reverse++[1]:=List.reverse_cons
    refine Sub.live ⟨rfl,rfl,rfl,?_,rfl,rfl,trivial⟩ ⟨rfl,rfl,rfl,?_,trivial⟩
    . show V.own 5 _ ((2::w').reverse.map D.int++[D.int 1])=V.own 5 _ ((1::2::w').reverse.map D.int)
      rw [er,List.map_append];rfl
    . show some (Res.tok _ (((2::w').reverse.map D.int).length+1))=some (Res.tok _ ((1::2::w').reverse.map D.int).length)
      rw [er,List.map_append,List.length_append];rfl
  . rw [show zCo (2::w') x1=2::w' from if_neg (by rw [hb];decide)]
    exact Sub.live ⟨rfl,rfl,rfl,rfl,rfl,rfl,trivial⟩ ⟨rfl,rfl,rfl,rfl,trivial⟩
  . refine zI (j':=j) (by omega) ⟨zEE x1,zCo (2::w') x1,i+1,by omega,hx1.1.bang.1,?_,by rw [hI2,zEO,hT];rfl,Sub.live ⟨rfl,rfl,rfl,rfl,rfl,rfl,trivial⟩ ⟨rfl,rfl,rfl,rfl,trivial⟩⟩
    have:(zCo (2::w') x1).length<=w'.length+2:=by unfold zCo;split<;>simp
    omega
theorem p_ref {al:List Tok} {x:PS} (h:Sx al x) (hal:al.length<=100000):ACE EN5 Tryz.prog 179 [.bx (pn 0) 0] [boxS al x] (outS al (fun d => .agg (cellsV Tryz.prog 12 48 d)) (typQ x)):=by
 have hi:=p_wrapped h hal
 have hn:=zHD h hal
 refine zj (fn:=Tryz.f179) 18 Tryz.func179 rfl rfl ?_
 intro pas w0 w he hp
 repeat' (first
|apply s_m (clS al) (zU al) rfl
 . conv=>lhs;whnf
 . conv=>lhs;whnf
 . rfl
 . conv=>lhs;whnf;arg 1;whnf
 . first | exact zk _ _
 . first | exact hn
 . exact fun _=>rfl
 . exact fun _=>rfl
|apply s_pr (clS al) (zU al) rfl
 . conv=>lhs;whnf
 . conv=>lhs;whnf
 . rfl
 . conv=>lhs;whnf;arg 1;whnf
 . first | exact zk _ _
 . first | exact hi
 . exact fun _=>rfl
 . first | (intro _ _;simp only [renL,renV,ren_cells];done) | exact fun _ _=>rfl
 refine fun ee hq => ?_
 change _=Out.die _
 rotate_left 1
 refine fun aa xx hq => ?_
 first | (replace hq:=zy hq;obtain ⟨hq,rfl⟩:=hq) | (cases hq;have hq:=True.intro) | skip
|apply s_die rfl rfl
 . conv=>lhs;whnf
 change _=Out.die _
|refine zA ?_
|refine zB ?_
|refine zH ?_
|apply aw_1
 conv=>whnf
 refine ⟨?_,trivial⟩
|apply s_1
 conv=>whnf;arg 1;arg 4;arg 3;whnf
 refine ⟨?_,?_⟩
|apply zT rfl rfl rfl
 . conv=>lhs;whnf
 . conv=>lhs;whnf;arg 1;whnf
 . conv=>lhs;whnf;arg 1;whnf
 . exact ⟨by kernel_rfl,by kernel_rfl⟩
 . rfl
|refine ze (by conv=>lhs;whnf) ?_ ?_<;>intro hb
|apply zAR rfl
 . conv=>lhs;whnf;arg 2;whnf
 . conv=>lhs;whnf;arg 1;whnf
|exact trivial)
 . have hb:24<aa.2.length:=by simp at hb;omega
   unfold typQ zb
   rw [hq]
   dsimp only
   rw [if_pos hb];rfl
 . have hb : ¬ 24<aa.2.length:=by simp at hb;omega
   unfold typQ zb
   rw [hq]
   dsimp only
   rw [if_neg hb];rfl
 . unfold typQ zb
   rw [hq];rfl
end
section
open Go.RowKit
attribute [local irreducible] wpList Calls Code.wp AW AWo OpOk seqK zm zo loopK endK AC zh Yld Sub
attribute [local irreducible] ACB ACX ACE absLexG YldG
def zVal:List V:=[.c (.int .i64 0),.c (.int .i64 0),.c (.string ⟨#[]⟩),.c (.slice none 0 0),.c (.slice none 0 0)]
theorem nx_nd (x:PS) (n:Nat):({ nxT x with nd:=n }:PS)=nxT ⟨x.ts,x.vr,n⟩:=by
 unfold nxT hdT
 split<;>rfl
theorem En.nd {x:PS} (h:En x) (n:Nat) (v:Bool):En ⟨x.ts,v,n⟩:=h
theorem zCi:zz Tryz.prog 51=some (53,80):=by kernel_rfl
theorem value_bad {f lv:Nat} {x:PS} (h:zBU x=true):valueQ (f+1) lv x = .error ((hdT x).i,3):=by rw [valueQ,if_pos h]
theorem value_deep {f lv:Nat} {x:PS} (h:zBU x=false) (h2:24<lv):valueQ (f+1) lv x = .error ((hdT x).i,5):=by rw [valueQ,if_neg (by rw [h];decide),if_pos h2]
theorem value_big {f lv:Nat} {x:PS} (h:zBU x=false) (h2 : ¬ 24<lv) (h3:4096<=x.nd):valueQ (f+1) lv x = .error ((hdT x).i,4):=by rw [valueQ,if_neg (by rw [h];decide),if_neg h2,if_pos h3]
def zBP (f lv:Nat) (t:Tok) (y:PS):PR D:=
 if t.k=3 then .ok (valD 2 (numQ t.s) [] [] [],y)
 else if t.k=4 then .ok (valD 3 0 t.s [] [],y)
 else if t.k=2 then .ok (zC4 t.s,y)
 else if t.s=[36] then zb (nameQ y) fun n z => .ok (valD 7 0 n [] [],z)
 else if t.s=[91] then zb (itemsQ (valueQ f (lv+1)) (y.ts.length+1) [] y) fun l z => .ok (valD 5 0 [] l [],z)
 else zb (zu (valueQ f (lv+1)) (y.ts.length+1) [] [] y) fun l z => .ok (valD 6 0 [] l.2 l.1,z)
theorem value_go {f lv:Nat} {x:PS} (h:zBU x=false) (h2 : ¬ 24<lv) (h3 : ¬ 4096<=x.nd):valueQ (f+1) lv x=zBP f lv (hdT x) (nxT ⟨x.ts,x.vr,x.nd+1⟩):=by
 have e:=(nx_nd x (x.nd+1)).symm
 rw [valueQ,if_neg (by rw [h];decide),if_neg h2,if_neg h3,e]
 rfl
section
variable {f lv:Nat} {t:Tok} {y:PS}
theorem vt_3 (h:(t.k==3)=true):zBP f lv t y = .ok (valD 2 (numQ t.s) [] [] [],y):=by rw [zBP,if_pos (by simpa using h)]
theorem vt_4 (h3:(t.k==3)=false) (h:(t.k==4)=true):zBP f lv t y = .ok (valD 3 0 t.s [] [],y):=by rw [zBP,if_neg (by simpa using h3),if_pos (by simpa using h)]
theorem vt_2 (h3:(t.k==3)=false) (h4:(t.k==4)=false) (h:(t.k==2)=true):zBP f lv t y = .ok (zC4 t.s,y):=by rw [zBP,if_neg (by simpa using h3),if_neg (by simpa using h4),if_pos (by simpa using h)]
theorem vt_l (h3:(t.k==3)=false) (h4:(t.k==4)=false) (h2:(t.k==2)=false) (h7:((bs t.s).toList==(⟨#[36]⟩:ByteArray).toList)=false) (h:((bs t.s).toList==(⟨#[91]⟩:ByteArray).toList)=true):zBP f lv t y=zb (itemsQ (valueQ f (lv+1)) (y.ts.length+1) [] y) fun l z => .ok (valD 5 0 [] l [],z):=by
 rw [zBP,if_neg (by simpa using h3),if_neg (by simpa using h4),if_neg (by simpa using h2),if_neg (zBD h7),if_pos (zE0 h)]
theorem vt_o (h3:(t.k==3)=false) (h4:(t.k==4)=false) (h2:(t.k==2)=false) (h7:((bs t.s).toList==(⟨#[36]⟩:ByteArray).toList)=false) (h:((bs t.s).toList==(⟨#[91]⟩:ByteArray).toList)=false):zBP f lv t y=zb (zu (valueQ f (lv+1)) (y.ts.length+1) [] [] y) fun l z => .ok (valD 6 0 [] l.2 l.1,z):=by
 rw [zBP,if_neg (by simpa using h3),if_neg (by simpa using h4),if_neg (by simpa using h2),if_neg (zBD h7),if_neg (zBD h)]
end
section
variable {s:List UInt8}
theorem w_true (h:((bs s).toList==(⟨#[116,114,117,101]⟩:ByteArray).toList)=true):zC4 s=valD 1 (if ((bs s).toList==(⟨#[116,114,117,101]⟩:ByteArray).toList)=true then 1 else 0) [] [] []:=by
 rw [zC4,if_pos (zE0 h),if_pos h]
theorem w_false (h0:((bs s).toList==(⟨#[116,114,117,101]⟩:ByteArray).toList)=false) (h:((bs s).toList==(⟨#[102,97,108,115,101]⟩:ByteArray).toList)=true):zC4 s=valD 1 (if ((bs s).toList==(⟨#[116,114,117,101]⟩:ByteArray).toList)=true then 1 else 0) [] [] []:=by
 rw [zC4,if_neg (zBD h0),if_pos (zE0 h),if_neg (by rw [h0];decide)]
theorem w_null (h0:((bs s).toList==(⟨#[116,114,117,101]⟩:ByteArray).toList)=false) (h1:((bs s).toList==(⟨#[102,97,108,115,101]⟩:ByteArray).toList)=false) (h:((bs s).toList==(⟨#[110,117,108,108]⟩:ByteArray).toList)=true):zC4 s=zER:=by
 rw [zC4,if_neg (zBD h0),if_neg (zBD h1),if_pos (zE0 h)]
theorem w_enum (h0:((bs s).toList==(⟨#[116,114,117,101]⟩:ByteArray).toList)=false) (h1:((bs s).toList==(⟨#[102,97,108,115,101]⟩:ByteArray).toList)=false) (h:((bs s).toList==(⟨#[110,117,108,108]⟩:ByteArray).toList)=false):zC4 s=valD 4 0 s [] []:=by
 rw [zC4,if_neg (zBD h0),if_neg (zBD h1),if_neg (zBD h)]
theorem w_no {a:Bool} (h:a=true) (h2:a=false):False:=by rw [h] at h2;cases h2
end
theorem items_end {v:PS->PR D} {j:Nat} {acc:List D} {z:PS} (h:(!isS z [93])=false):itemsQ v (j+1) acc z = .ok (acc,nxT z):=by rw [itemsQ,if_pos (by simpa using h)]
theorem items_go {v:PS->PR D} {j:Nat} {acc:List D} {z:PS} (h:(!isS z [93])=true):itemsQ v (j+1) acc z=zb (v z) fun a y=>itemsQ v j (acc++[a]) y:=by rw [itemsQ,if_neg (by simpa using h)]
theorem za {α β:Type} {r:PR α} {f:α->PS->PR β} {a:α} {x:PS} (h:r = .ok (a,x)):zb r f=f a x:=by rw [h];rfl
theorem zl {α β:Type} {r:PR α} {f:α->PS->PR β} {e:Nat × Int} (h:r = .error e):zb r f = .error e:=by rw [h];rfl
theorem fields_end {v:PS->PR D} {j:Nat} {ks:List (List UInt8)} {acc:List D} {z:PS} (h:(!isS z [125])=false):zu v (j+1) ks acc z = .ok ((ks,acc),nxT z):=by rw [zu,if_pos (by simpa using h)]
theorem zI5 {v:PS->PR D} {j:Nat} {ks:List (List UInt8)} {acc:List D} {z:PS} (h:(!isS z [125])=true):zu v (j+1) ks acc z=zb (nameQ z) fun k y=>if ks.contains k=true then .error ((hdT z).i,7) else zb (takeQ [58] y) fun _ z=>zb (v z) fun a u=>zu v j (ks++[k]) (acc++[a]) u:=by rw [zu,if_neg (by simpa using h)]
section
variable {v:PS->PR D} {j:Nat} {ks:List (List UInt8)} {acc:List D} {z y z2 u2:PS} {k:List UInt8} {e:Nat × Int} {u:Unit} {a:D}
theorem fl_nm (h:(!isS z [125])=true) (h1:nameQ z = .error e):zu v (j+1) ks acc z = .error e:=by rw [zI5 h,zl h1]
end
end
end Go.Proofs.YthppafnlnnpciaaGreatDoor
