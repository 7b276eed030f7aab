import Derived.Shelf.Strings.IndexAnyAll
import Derived.Shelf.Strconv.Escaped
import Derived.Laws.Runes
import Derived.WalkMore
import Derived.Shelf.RegionOpenPlain
import Derived.Lib.OthersKept
import Derived.Test.YthjiclhfhjdjpaaGreatDoorQ31
set_option maxHeartbeats 8000000
set_option maxRecDepth 1000000
set_option linter.unusedVariables false
set_option linter.unusedSimpArgs false
namespace Go.Proofs.YthjiclhfhjdjpaaGreatDoor
section
open Go.Shelf Go.RowKit Go.Lib
variable {P:Program} {ρ:Ren}
theorem zEz {l:List UInt8} {b:UInt8} (h : ∀ c∈l,c.toNat<128) (hb:128<=b.toNat):Lib.indexByte l b = -1:=by
 have:l.contains b=false:=by
  rw [Bool.eq_false_iff]
  intro hc
  have:=h _ (List.contains_iff_mem.1 hc);omega
 have h2:=Lib.contains_iff_indexByte l b
 rw [this] at h2
 have h3 : ¬ (0:Int)<=Lib.indexByte l b:=of_decide_eq_false h2.symm
 have h4:=Lib.indexAny_ge [b] l
 rw [Lib.indexAny_one] at h4
 omega
theorem zBM (L:Lays.n152 P ρ) (mixed:P.follows .mixedOrders=true) (s:ByteArray) (r:Int) (w:World) (h0:128<=r) (h1:r≠65533) (hv:Lib.validRune r=true) (_hs:s.size<1000) (hascii : ∀ (j:Nat) b,s.data.toList[j]? = some b->b.toNat<128) :
 Calls P (ρ.f 152) #[.string s,.int .i32 r] w fun e w'=>e = .returned (.int .i64 (-1))/\(w'=w\/w'=w.drew.drew):=by
 have HA:Aside (∀ (j:Nat) b,s.data.toList[j]? = some b->b.toNat<128):=hascii
 clear hascii
 have t3:=L.t3;have a3:=L.a3;have z3:=L.z3;have v3:=L.v3
 have t4:=L.t4;have a4:=L.a4;have z4:=L.z4;have v4:=L.v4
 have t5:=L.t5;have a5:=L.a5;have z5:=L.z5;have v5:=L.v5
 have t9:=L.t9;have a9:=L.a9;have z9:=L.z9;have v9:=L.v9
 have t21:=L.t21;have a21:=L.a21;have z21:=L.z21;have v21:=L.v21
 have e137 : ∀ args w,(callFunc (ρ.f 137) args).run P w = .ok (.enter (ρ.f 137) args) w:=enters_of L.f137 (by kernel_rfl) rfl
 have e119 : ∀ args w,(callFunc (ρ.f 119) args).run P w = .ok (.enter (ρ.f 119) args) w:=enters_of L.f119 (by kernel_rfl) rfl
 have n1:decide (r<128)=false:=decide_eq_false (by omega)
 have n0:(0:Int)<=r:=by omega
 have n01:decide ((0:Int)<=r)=true:=decide_eq_true n0
 have n3 : ¬ r<128:=by omega
 have n2:(r==65533)=false:=beq_eq_false_iff_ne.2 h1
 have hvu:Utf8.valid r=true:=by rw [validRune_eq];exact hv
 obtain ⟨m1,m2,m3⟩:=encode_facts r hvu h0
 have hconv : ∀ w,(convert (ρ.t 21) (ρ.t 9) (.int .i32 r)).run P w = .ok (.string (Utf8.encode r)) w:=fun w=>run_convert_int_string w _ _ _ _ (by rw [t21];rfl) t9
 generalize Utf8.encode r=rs at hconv m1 m2 m3
 obtain ⟨k,hk⟩ : ∃ k,rs.size=k+1:=⟨rs.size-1,by omega⟩
 have hw1:IntKind.i64.wrap ((rs.size:Int)-1)=(k:Int):=by rw [Go.wrap_small _ (by omega) (by omega)];omega
 go_enter L.f152,Body.n152_ntmps ρ
 go_wp2_with (first
  |(go_at_fn (ρ.f 119);refine (Any.utf8_ValidRune { L with } _ _).mono ?_;rintro e w' ⟨rfl,hw⟩;rw [hw,hv])
  |(go_at_fn (ρ.f 137);refine (Any.strings_IndexByte { L with } _ _ _).mono ?_;rintro e w' ⟨rfl,hw⟩;rw [hw]))
 all_goals (try go_step3)
 all_goals go_wp2_with (first
  |(go_at_fn (ρ.f 137);refine (Any.strings_IndexByte { L with } _ _ _).mono ?_;rintro e w' ⟨rfl,hw⟩;rw [hw]))
 all_goals
  go_loopg [9] 1 (fun _ s9 wx=>s9 = .int .i64 (k:Int)/\wx=w)
  case atStart=>exact ⟨rfl,rfl⟩
  case round =>
   obtain ⟨rfl,rfl⟩:=hrel
   by_cases hi:k<s.size
   . have hiz:(k:Int)<(s.size:Int):=by omega
     obtain ⟨x,hx⟩ : ∃ x:UInt8,s[k]'hi=x:=⟨_,rfl⟩
     have hi2:k<rs.size:=by omega
     obtain ⟨y,hy⟩ : ∃ y:UInt8,rs[k]'hi2=y:=⟨_,rfl⟩
     have hxl:s.data.toList[k]? = some x:=by rw [<- hx];exact Lib.data_getElem? s _ hi
     have hx128:=HA.out _ _ hxl
     have hy128:128<=y.toNat:=by
      have:=m3 (by omega)
      have e:rs.size-1=k:=by omega
      simp only [e] at this
      rw [hy] at this;exact this
     have hkz:(k:Int)<(rs.size:Int):=by omega
     have hsl:(k:Int)+1<=(s.size:Int):=by omega
     have hsl2 : ¬ (s.size:Int)<(k:Int)+1:=by omega
     have hk0 : ¬ (k:Int)+1<0:=by omega
     have hk1:(0:Int)<=(k:Int)+1:=by omega
     have hwr:IntKind.i64.wrap ((k:Int)+1)=(k:Int)+1:=Go.wrap_small _ (by omega) (by omega)
     have hxy:((x.toNat:Int)==(y.toNat:Int))=false:=beq_eq_false_iff_ne.2 (by omega)
     have hidx:Lib.indexByte (List.take (s.size-(k+1)) (List.drop (k+1) s.data.toList)) y = -1:=zEz (fun c hc=>by
      obtain ⟨j,hj⟩:=List.getElem?_of_mem (List.mem_of_mem_drop (List.mem_of_mem_take hc))
      exact HA.out j c hj) hy128
     have hyy:((y.toNat:Int)).toNat.toUInt8=y:=by simp
     have hidx2:Lib.indexByte (s.extract (k+1) s.size).data.toList ((y.toNat:Int)).toNat.toUInt8 = -1:=by
      rw [hyy]
      exact zEz (fun c hc=>by
       obtain ⟨j,hj⟩:=List.getElem?_of_mem (mem_extract hc)
       exact HA.out j c hj) hy128
     go_wp2
     go_step3
     go_wp2
     go_region_o
     go_wp2
     go_region_with_o (go_at_fn (ρ.f 137);refine (Any.strings_IndexByte { L with } _ _ _).mono ?_;rintro e w' ⟨rfl,hw⟩;rw [hw];rw [hidx2])
     go_wp2
     simp only [Exit.noGoto_ret,Exit.then,Exit.inBlock]
     go_ret
     exact ⟨rfl,.inr rfl⟩
   . have hiz : ¬ (k:Int)<(s.size:Int):=by omega
     go_wp2
     go_ret
     exact ⟨rfl,.inl rfl⟩
theorem get_at (s:ByteArray) (k:Nat) (hk:k<s.size):s.get! k=s[k]'hk:=by
 simp [ByteArray.get!,getElem!_pos,hk]
 rfl
theorem zIl (s:ByteArray) (i:Nat) (h:i<s.size) (h2:128<=(s[i]'h).toNat):128<=(Utf8.decode s i).1/\Utf8.valid ((Utf8.decode s i).1:Int)=true/\1<=(Utf8.decode s i).2/\i+(Utf8.decode s i).2<=s.size /\ ∀ j,i<=j->j<i+(Utf8.decode s i).2->128<=(s.get! j).toNat:=by
 have g0:(s.get! (i+0)).toNat=(s[i]'h).toNat:=by rw [Nat.add_zero,get_at s i h]
 have g0':128<=(s.get! i).toNat:=by rw [get_at s i h];exact h2
 have lt : ∀ k,(s.get! k).toNat<256:=fun k=>UInt8.toNat_lt _
 have one : ∀ j,i<=j->j<i+1->128<=(s.get! j).toNat:=fun j h1 h3=>by
  obtain rfl:j=i:=by omega
  exact g0'
 unfold Utf8.decode
 simp only [Nat.add_zero,Bool.and_eq_true,decide_eq_true_eq,beq_iff_eq,ge_iff_le]
 generalize hb0:(s.get! i).toNat=b0 at *
 have l1:=lt (i+1)
 have l2:=lt (i+2)
 have l3:=lt (i+3)
 have ev : ∀ c:Nat,((128<=c/\c<55296)\/(57344<=c/\c<=1114111))->Utf8.valid (c:Int)=true:=fun c hc=>by
  unfold Utf8.valid
  simp
  rcases hc with hc | hc<;>omega
 rw [if_neg (by omega)]
 have cas : ∀ n,(∀ k,1<=k->k<n->128<=(s.get! (i+k)).toNat) -> ∀ j,i<=j->j<i+n->128<=(s.get! j).toNat:=fun n hn j h1 h3=>by
  by_cases e:j=i
  . subst e;rw [hb0];exact g0'
  . have:=hn (j-i) (by omega) (by omega)
    rwa [show i+(j-i)=j by omega] at this
 split
 . rename_i hc
   split
   . exact ⟨by omega,ev _ (by omega),by omega,by omega,cas 2 fun k h1 h3=>by
      obtain rfl:k=1:=by omega
      omega⟩
   . exact ⟨by decide,by decide,by omega,by omega,one⟩
 . split
   . rename_i hc
     split
     . rename_i hv
       refine ⟨by omega,hv.2,by omega,by omega,cas 3 fun k h1 h3 => ?_⟩
       obtain rfl | rfl:k=1\/k=2:=by omega
       all_goals omega
     . exact ⟨by decide,by decide,by omega,by omega,one⟩
   . split
     . rename_i hc
       split
       . rename_i hv
         refine ⟨by omega,hv.2,by omega,by omega,cas 4 fun k h1 h3 => ?_⟩
         obtain rfl | rfl | rfl:k=1\/k=2\/k=3:=by omega
         all_goals omega
       . exact ⟨by decide,by decide,by omega,by omega,one⟩
     . exact ⟨by decide,by decide,by omega,by omega,one⟩
theorem zCp (L:Lays.n152 P ρ) (s:ByteArray) (w:World) (hascii : ∀ (j:Nat) b,s.data.toList[j]? = some b->b.toNat<128) :
 Calls P (ρ.f 152) #[.string s,.int .i32 65533] w fun e w'=>e = .returned (.int .i64 (-1))/\w'=w.iter s s.size:=by
 have HA:Aside (∀ (j:Nat) b,s.data.toList[j]? = some b->b.toNat<128):=hascii
 clear hascii
 have t3:=L.t3;have a3:=L.a3;have z3:=L.z3;have v3:=L.v3
 have t4:=L.t4;have a4:=L.a4;have z4:=L.z4;have v4:=L.v4
 have t5:=L.t5;have a5:=L.a5;have z5:=L.z5;have v5:=L.v5
 have t9:=L.t9;have a9:=L.a9;have z9:=L.z9;have v9:=L.v9
 have t21:=L.t21;have a21:=L.a21;have z21:=L.z21;have v21:=L.v21
 go_enter L.f152,Body.n152_ntmps ρ
 go_wp2
 go_loopg [5,6] s.size (fun g _ _ wx => ∃ i:Nat,i+g=s.size/\wx=w.iter s i)
 case atStart=>exact ⟨0,by omega,rfl⟩
 case round =>
  obtain ⟨i,hig,rfl⟩:=hrel
  cases gk with
  |zero =>
   obtain rfl:i=s.size:=by omega
   have hnx:=run_next_end (P:=P) w s s.size
   go_wp2
   go_ret
   exact ⟨rfl,rfl⟩
  |succ g =>
   have hi:i<s.size:=by omega
   obtain ⟨x,hx⟩ : ∃ x:UInt8,s[i]'hi=x:=⟨_,rfl⟩
   have hxl:s.data.toList[i]? = some x:=by rw [<- hx];exact Lib.data_getElem? s i hi
   have hx128:x.toNat<128:=HA.out i x hxl
   have hnx:=fun ty=>run_next_ascii (P:=P) w s i ty hi (by rw [hx];exact hx128)
   rw [hx] at hnx
   have hne:((x.toNat:Int)==65533)=false:=beq_eq_false_iff_ne.2 (by omega)
   have hne2 : ¬ (x.toNat:Int)=65533:=by omega
   clear hxl hx
   go_wp2
   go_roundg g
   case measure=>omega
   case rel=>exact ⟨i+1,by omega,rfl⟩
theorem zCF (L:Lays.n151 P ρ) (mixed:P.follows .mixedOrders=true) (s:ByteArray) (r:Int) (w:World) (h0:128<=r) (h1:r≠65533) (hv:Lib.validRune r=true) (hs:s.size<1000) (hascii : ∀ (j:Nat) b,s.data.toList[j]? = some b->b.toNat<128) :
 Calls P (ρ.f 151) #[.string s,.int .i32 r] w fun e w'=>e = .returned (.bool false)/\(w'=w\/w'=w.drew.drew):=by
 have t3:=L.t3;have a3:=L.a3;have z3:=L.z3;have v3:=L.v3
 have t4:=L.t4;have a4:=L.a4;have z4:=L.z4;have v4:=L.v4
 have t9:=L.t9;have a9:=L.a9;have z9:=L.z9;have v9:=L.v9
 have t21:=L.t21;have a21:=L.a21;have z21:=L.z21;have v21:=L.v21
 have e152 : ∀ args w,(callFunc (ρ.f 152) args).run P w = .ok (.enter (ρ.f 152) args) w:=enters_of L.f152 (by kernel_rfl) rfl
 have hm:=zBM { L with } mixed s r w h0 h1 hv hs hascii
 clear hascii
 go_enter L.f151,Body.n151_ntmps ρ
 go_wp2_with (go_at_fn (ρ.f 152);refine hm.mono ?_;rintro e w' ⟨rfl,hw⟩)
 go_ret
 exact ⟨rfl,hw⟩
theorem zE1 {B:Nat} {a w:World} (h:Go.RowKit.Below B a w) {k:Nat} (hk:B<=k) (s:ByteArray) (p:Nat):Go.RowKit.Below B a (w.iterAt k s p):=
 h.trans ⟨rfl,rfl,rfl,by simp [World.iterAt],fun j hj=>by
  show (w.heap.setIfInBounds k _)[j]? = _
  rw [Array.getElem?_setIfInBounds,if_neg (by omega)]⟩
theorem NoAny.jump {s:ByteArray} {chars:List UInt8} {i n:Nat} (h:Lib.NoAny s.data.toList chars i) (hc : ∀ b∈chars,b.toNat<128) (hn:i+n<=s.size) (hb : ∀ j,i<=j->j<i+n->128<=(s.get! j).toNat):Lib.NoAny s.data.toList chars (i+n):=by
 have : ∀ m,m<=n->Lib.NoAny s.data.toList chars (i+m):=fun m=>by
  induction m with
  |zero=>exact fun _=>h
  |succ m ih =>
   intro hm
   have hlt:i+m<s.size:=by omega
   refine (ih (by omega)).succ (x:=s[i+m]) (Lib.data_getElem? s _ hlt) ?_
   rw [Bool.eq_false_iff]
   intro hx
   have h1:=hc _ (List.contains_iff_mem.1 hx)
   have h2:=hb (i+m) (by omega) (by omega)
   rw [get_at s _ hlt] at h2
   omega
 exact this n (Nat.le_refl _)
theorem zCx (L:Lays.n153 P ρ) (mixed:P.follows .mixedOrders=true) (s chars:ByteArray) (w:World) (h2:2<=chars.size) (hcs:chars.size<1000) (h8:s.size<=8) (hascii : ∀ (j:Nat) b,chars.data.toList[j]? = some b->b.toNat<128) :
 Calls P (ρ.f 153) #[.string s,.string chars] w fun e w'=>e = .returned (.int .i64 (Lib.indexAny s.data.toList chars.data.toList))/\Below w.heap.size w w':=by
 have HA:Aside (∀ b∈chars.data.toList,b.toNat<128):=fun b hb=>by
  obtain ⟨j,hj⟩:=List.getElem?_of_mem hb
  exact hascii j b hj
 have hrune : ∀ (c:Int) (wq:World),128<=c->Lib.validRune c=true->Calls P (ρ.f 152) #[.string chars,.int .i32 c] wq fun e w'=>e = .returned (.int .i64 (-1))/\Below wq.heap.size wq w':=fun c wq h1 hv=>by
  by_cases e:c=65533
  . subst e
    refine (zCp { L with } chars wq hascii).mono ?_
    rintro e w' ⟨rfl,rfl⟩
    exact ⟨rfl,(Below.refl _ _).alloc (Nat.le_refl _) _⟩
  . refine (zBM { L with } mixed chars c wq h1 e hv hcs hascii).mono ?_
    rintro e w' ⟨rfl,rfl | rfl⟩
    . exact ⟨rfl,Below.refl _ _⟩
    . exact ⟨rfl,(Below.refl _ _).drew.drew⟩
 clear hascii
 have hemp:chars.toList.isEmpty=false:=by
  rw [Lib.toList_data]
  cases h:chars.data.toList with
  |nil=>have:=Lib.size_eq chars;rw [h,List.length_nil] at this;omega
  |cons _ _=>rfl
 have hn1:((chars.size:Int)==1)=false:=beq_eq_false_iff_ne.2 (by omega)
 have h8z:decide ((8:Int)<(s.size:Int))=false:=decide_eq_false (by omega)
 have t3:=L.t3;have a3:=L.a3;have z3:=L.z3;have v3:=L.v3
 have t4:=L.t4;have a4:=L.a4;have z4:=L.z4;have v4:=L.v4
 have t5:=L.t5;have a5:=L.a5;have z5:=L.z5;have v5:=L.v5
 have t9:=L.t9;have a9:=L.a9;have z9:=L.z9;have v9:=L.v9
 have t21:=L.t21;have a21:=L.a21;have z21:=L.z21;have v21:=L.v21
 have e152 : ∀ args w,(callFunc (ρ.f 152) args).run P w = .ok (.enter (ρ.f 152) args) w:=enters_of L.f152 (by kernel_rfl) rfl
 have e226 : ∀ args w,(callFunc (ρ.f 226) args).run P w = .ok (.enter (ρ.f 226) args) w:=enters_of L.f226 (by kernel_rfl) rfl
 go_enter L.f153,Body.n153_ntmps ρ
 go_wp2_with (go_at_fn (ρ.f 226);refine (Any.strings_shouldUseASCIISet { L with } _ _).mono ?_;rintro e w' ⟨rfl,hw⟩;rw [hw,h8z])
 go_loopg [9,10] s.size (fun g _ _ wx => ∃ i:Nat,i+g=s.size/\wx.heap[w.heap.size]? = some (.stringIter s i)/\Below w.heap.size w wx/\Lib.NoAny s.data.toList chars.data.toList i)
 case atStart=>exact ⟨0,by omega,World.iter_heap _ _ _,(Below.refl _ _).alloc (Nat.le_refl _) _,Lib.NoAny.zero _ _⟩
 case round =>
  obtain ⟨i,hig,hit,hbl,hno⟩:=hrel
  have HN:Aside (Lib.NoAny s.data.toList chars.data.toList i):=hno
  have HB:Aside (Below w.heap.size w wr):=hbl
  clear hno hbl
  cases gk with
  |zero =>
   obtain rfl:i=s.size:=by omega
   have hnx:=fun ty=>run_next_end_at (P:=P) wr w.heap.size s s.size ty hit (by omega)
   clear hit
   go_wp2
   go_ret
   exact ⟨by rw [Lib.indexAny_none (by rw [<- Lib.size_eq];exact HN.out)];rfl,HB.out⟩
  |succ g =>
   have hi:i<s.size:=by omega
   obtain ⟨x,hx⟩ : ∃ x:UInt8,s[i]'hi=x:=⟨_,rfl⟩
   have hxl:s.data.toList[i]? = some x:=by rw [<- hx];exact Lib.data_getElem? s i hi
   by_cases hx128:x.toNat<128
   . have hnx:=fun ty=>run_next_ascii_at (P:=P) wr w.heap.size s i ty hit hi (by rw [hx];exact hx128)
     have hit2:=iterAt_heap wr w.heap.size s i (i+1) hit
     have HI:Aside ((wr.iterAt w.heap.size s (i+1)).heap[w.heap.size]? = some (.stringIter s (i+1))/\Below w.heap.size w (wr.iterAt w.heap.size s (i+1))):=⟨hit2,zE1 HB.out (Nat.le_refl _) _ _⟩
     clear hit2 hit
     rw [hx] at hnx
     have Hx:Aside (s.data.toList[i]? = some x):=hxl
     clear hxl hx
     have hcon:=Lib.contains_iff_indexByte chars.data.toList x
     have hback:((x.toNat:Int)).toNat.toUInt8=x:=by simp
     cases hin:chars.data.toList.contains x
     . rw [hin] at hcon
       have hlt : ¬ ((0:Int)<=Lib.indexByte chars.data.toList x):=of_decide_eq_false hcon.symm
       clear hcon
       go_wp2_with (go_at_fn (ρ.f 152);refine (Any.strings_IndexRune_ascii { L with } _ _ _ (by omega) (by omega)).mono ?_;rintro e w' ⟨rfl,hw⟩;rw [hw,hback])
       go_roundg g
       case measure=>omega
       case rel=>exact ⟨i+1,by omega,HI.out.1,HI.out.2,HN.out.succ Hx.out hin⟩
     . rw [hin] at hcon
       have hge:(0:Int)<=Lib.indexByte chars.data.toList x:=of_decide_eq_true hcon.symm
       clear hcon
       go_wp2_with (go_at_fn (ρ.f 152);refine (Any.strings_IndexRune_ascii { L with } _ _ _ (by omega) (by omega)).mono ?_;rintro e w' ⟨rfl,hw⟩;rw [hw,hback])
       go_ret
       exact ⟨by rw [Lib.indexAny_hit HN.out Hx.out hin];rfl,HI.out.2⟩
   . obtain ⟨d1,d2,d3,d4,d5⟩:=zIl s i hi (by rw [hx];omega)
     have hnx:=fun ty=>run_next_any_at (P:=P) wr w.heap.size s i ty hit hi
     have hj:Lib.NoAny s.data.toList chars.data.toList (i+(Utf8.decode s i).2):=NoAny.jump HN.out HA.out d4 d5
     have hv:Lib.validRune ((Utf8.decode s i).1:Int)=true:=by rw [validRune_eq] at d2;exact d2
     clear d5 d2
     generalize Utf8.decode s i=q at *
     obtain ⟨c,n⟩:=q
     simp only at hnx hj hv d1 d3 d4
     have hit2:=iterAt_heap wr w.heap.size s i (i+n) hit
     have HI:Aside ((wr.iterAt w.heap.size s (i+n)).heap[w.heap.size]? = some (.stringIter s (i+n))/\Below w.heap.size w (wr.iterAt w.heap.size s (i+n))/\w.heap.size<(wr.iterAt w.heap.size s (i+n)).heap.size):=⟨hit2,zE1 HB.out (Nat.le_refl _) _ _,(Array.getElem?_eq_some_iff.1 hit2).1⟩
     have HJ:Aside (Lib.NoAny s.data.toList chars.data.toList (i+n)):=hj
     have hc:=hrune c (wr.iterAt w.heap.size s (i+n)) (by omega) hv
     generalize wr.iterAt w.heap.size s (i+n)=wi at *
     clear hit2 hit hxl hx hj hv hrune
     go_wp2_with (go_at_fn (ρ.f 152);refine hc.mono ?_;rintro e w' ⟨rfl,hw⟩)
     go_roundg (s.size-(i+n))
     case measure=>omega
     case rel=>exact ⟨i+n,by omega,by rw [hw.block _ HI.out.2.2];exact HI.out.1,HI.out.2.1.trans (hw.mono (Nat.le_of_lt HI.out.2.2)),HJ.out⟩
theorem zCw (L:Lays.n153 P ρ) (mixed:P.follows .mixedOrders=true) (hv116 : ∀ w,(zeroValue (ρ.t 116)).run P w = .ok (.agg (Array.replicate 256 (.bool false))) w) (hi116:(P.info? (ρ.t 116)).map (·.size)=some 256) (s chars:ByteArray) (w:World) (h2:2<=chars.size) (hcs:chars.size<1000) (hs:s.size<4294967281) (hascii : ∀ (j:Nat) b,chars.data.toList[j]? = some b->b.toNat<128) :
 Calls P (ρ.f 153) #[.string s,.string chars] w fun e w'=>e = .returned (.int .i64 (Lib.indexAny s.data.toList chars.data.toList))/\Below w.heap.size w w':=by
 by_cases h8:s.size<=8
 . exact zCx L mixed s chars w h2 hcs h8 hascii
 . refine (Any.strings_IndexAny_long L hv116 hi116 s chars w h2 (by omega) hs (by omega) hascii).mono ?_
   rintro e w' ⟨rfl,rfl⟩
   exact ⟨rfl,((Below.refl _ _).alloc (Nat.le_refl _) _).alloc (by simp) _⟩
end
section
open Go.RowKit
attribute [local irreducible] wpList Calls Code.wp AW AWo OpOk seqK zAG zAP loopK endK AC zt Yld Sub
attribute [local irreducible] ACB ACX ACE absLexG YldG
section
variable {X:Cx} {nn:Nat} {st:Vst nn} {K:Exit->Vst nn->Prop}
theorem zM {c:Operand} {x y:Code} {b:Bool} (hc:ev st c = .c (.bool b)) (hb:b=true) (ht:AW X x st K):AW X (.cond c x y) st K:=zV hc (fun _=>ht) (fun e=>by rw [hb] at e;cases e)
theorem zH {c:Operand} {x y:Code} {b:Bool} (hc:ev st c = .c (.bool b)) (hb:b=false) (ht:AW X y st K):AW X (.cond c x y) st K:=zV hc (fun e=>by rw [hb] at e;cases e) (fun _=>ht)
end
theorem rel_cc {P:Program} {s:Sg} {w:World} {u v:Value} {us:Array Value} (h:relL P s w [.c u,.c v] us.toList):us = #[u,v]:=by
 obtain ⟨l⟩:=us
 match l,h with
 |[],h=>simp [relL] at h
 |[x],h=>simp [relL] at h
 |[x,y],h =>
  simp only [relL,rel,and_true] at h
  obtain ⟨⟨rfl,-⟩,rfl,-⟩:=h
  rfl
 |x::y::z::t,h=>simp [relL] at h
theorem rel_b {P:Program} {s:Sg} {w:World} {b:Bool}:rel P s w (.c (.bool b)) (.bool b):=by rw [rel];exact ⟨rfl,trivial⟩
theorem prefix_ac (s p:ByteArray):AC EN5 Tryz.prog 162 [.c (.string s),.c (.string p)] (.c (.bool (Lib.hasPrefix s.data.toList p.data.toList))):=by
 refine zIz (u:=.bool (Lib.hasPrefix s.data.toList p.data.toList)) fun σ w us hus he => ?_
 obtain rfl:=rel_cc hus
 refine ⟨fun s' w'=>rel_b,(Tryz.strings_HasPrefix s p w).mono ?_⟩
 rintro e w' ⟨rfl,rfl⟩
 exact ⟨rfl,Below.refl _ _⟩
theorem zLU {l:List UInt8} (h : ∀ b∈l,b.toNat<128) : ∀ (j:Nat) b,l[j]? = some b->b.toNat<128:=fun j b hj=>h b (List.mem_of_getElem? hj)
theorem zDd (x:List UInt8) (cs:List UInt8) : -1<=Lib.indexAny x cs/\Lib.indexAny x cs<=x.length:=by
 refine ⟨Lib.indexAny_ge _ _,?_⟩
 induction x with
 |nil=>simp [Lib.indexAny]
 |cons c r ih =>
  unfold Lib.indexAny
  split
  . simp only [List.length_cons];omega
  . split<;>simp only [List.length_cons]<;>omega
theorem indexNl_ac (x:ByteArray) (hx:x.size<=1000000):AC EN5 Tryz.prog 160 [.c (.string x),.c (.string { data:=#[10,13] })] (.c (.int .i64 (Lib.indexAny x.data.toList [10,13]))):=by
 refine zIz (u:=.int .i64 (Lib.indexAny x.data.toList [10,13])) fun σ w us hus he => ?_
 obtain rfl:=rel_cc hus
 have hl:=zDd x.data.toList [10,13]
 have hz:x.data.toList.length=x.size:=(Lib.size_eq x).symm
 have h116:(Tryz.prog.info? (Tryz.lays153_ren.t 116)).map (fun i=>(i.zero,i.size))=some (some (.agg (Array.replicate 256 (.bool false))),256):=by kernel_rfl
 refine ⟨fun s' w'=>zFn (by omega),(zCw Tryz.lays153 (by kernel_rfl) (zero_of_info h116).1 (zero_of_info h116).2 x { data:=#[10,13] } w (by decide) (by decide) (by omega) (zLU (by decide))).mono ?_⟩
 rintro e w' ⟨rfl,hb⟩
 exact ⟨rfl,hb⟩
def signsT:ByteArray:={ data:=#[33,36,38,40,41,58,61,64,91,93,123,124,125] }
theorem zAR (c:UInt8):AC EN5 Tryz.prog 161 [.c (.string signsT),.c (.int .i32 (c.toNat:Int))] (.c (.bool (zAr c))):=by
 refine zIz (u:=.bool (zAr c)) fun σ w us hus he => ?_
 obtain rfl:=rel_cc hus
 refine ⟨fun s' w'=>rel_b,?_⟩
 have hc:=c.toNat_lt
 by_cases h:c.toNat<128
 . refine (Tryz.strings_ContainsRune_ascii signsT (c.toNat:Int) w (by omega) (by omega)).mono ?_
   rintro e w' ⟨rfl,rfl⟩
   have hb:((c.toNat:Int)).toNat.toUInt8=c:=by simp
   rw [hb,<- Lib.contains_iff_indexByte]
   exact ⟨rfl,Below.refl _ _⟩
 . have hs:zAr c=false:=by
    unfold zAr
    rw [Bool.eq_false_iff]
    intro hx
    have:=List.contains_iff_mem.1 hx
    have h3 : ∀ b∈([33,36,38,40,41,58,61,64,91,93,123,124,125]:List UInt8),b.toNat<128:=by decide
    exact h (h3 c this)
   rw [hs]
   refine (zCF Tryz.lays151 (by kernel_rfl) signsT (c.toNat:Int) w (by omega) (by omega) (by unfold Lib.validRune;exact decide_eq_true (by omega)) (by decide) (zLU (by decide))).mono ?_
   rintro e w' ⟨rfl,rfl | rfl⟩
   . exact ⟨rfl,Below.refl _ _⟩
   . exact ⟨rfl,(Below.refl _ _).drew.drew⟩
theorem skip_at {s:List UInt8} {k:Nat} (h:k<s.length):skipM false (s.drop k)=if sepB s[k] then skipM false (s.drop (k+1))+1 else if s[k]==35 then skipM true (s.drop (k+1))+1 else 0:=by
 rw [List.drop_eq_getElem_cons h,skipM]
theorem zH4 : ∀ l:List UInt8,skipM true l=if Lib.indexAny l [10,13] = -1 then l.length else (Lib.indexAny l [10,13]).toNat+skipM false (l.drop (Lib.indexAny l [10,13]).toNat)
 |[]=>by simp [skipM,Lib.indexAny]
 |c::r=>by
  have ih:=zH4 r
  have hge:=Lib.indexAny_ge [10,13] r
  unfold Lib.indexAny
  by_cases h:([10,13]:List UInt8).contains c=true
  . rw [if_pos h,if_neg (by decide)]
    show skipM true (c::r)=0+skipM false (c::r)
    have h2:c=10\/c=13:=by simpa using List.contains_iff_mem.1 h
    rcases h2 with rfl | rfl<;>simp [skipM,sepB]
  . rw [if_neg h]
    have h2:(c==10||c==13)=false:=by
     rw [Bool.eq_false_iff]
     intro hx
     apply h
     rw [List.contains_iff_mem]
     simpa using hx
    rw [skipM,h2]
    simp only [Bool.false_eq_true,if_false]
    rw [ih]
    by_cases h3:Lib.indexAny r [10,13] = -1
    . rw [if_pos h3,h3];simp
    . have h4:(Lib.indexAny r [10,13] == -1)=false:=by simpa using h3
      rw [if_neg h3,h4]
      simp only [Bool.false_eq_true,if_false]
      obtain ⟨n,hn⟩ : ∃ n:Nat,Lib.indexAny r [10,13]=n:=⟨(Lib.indexAny r [10,13]).toNat,by omega⟩
      rw [hn,if_neg (by omega)]
      have e:((n:Int)+1).toNat=n+1:=by omega
      rw [e,Int.toNat_natCast,List.drop_succ_cons]
      omega
theorem zK9 (s:List UInt8) (k:Nat):((bs s).extract ((k:Int)).toNat (bs s).size).data.toList=s.drop k:=by
 have hz:=zS s
 rw [ByteArray.data_extract,Array.toList_extract,zAi,Int.toNat_natCast,hz]
 simp [List.extract]
 exact List.take_of_length_le (by simp)
noncomputable def HSk (s:List UInt8) (k:Nat):Vst 36:=stS 36 [(0,.c (.string (bs s))),(1,.c (.int .i64 (k:Int)))] []
theorem zCm {s:List UInt8} {k:Nat} (h:k<s.length):zk (bs s) ((k:Int)).toNat=(s[k].toNat:Int):=by
 unfold zk
 rw [Int.toNat_natCast,zFB h]
theorem skip_ac (s:List UInt8) (i:Nat) (hi:i<=s.length) (hs:s.length<=1000000):AC EN5 Tryz.prog 84 [.c (.string (bs s)),.c (.int .i64 (i:Int))] (.c (.int .i64 ((i+skipM false (s.drop i):Nat):Int))):=by
 refine zG 36 Tryz.func84 rfl rfl rfl rfl ?_
 intro s0 w he
 repeat' (first
|refine zB ?_
|refine zC ?_
|refine zI ?_
|apply aw_1
 conv=>whnf
 refine ⟨?_,trivial⟩
|apply s_1
 conv=>whnf;arg 1;arg 4;arg 3;whnf
 refine ⟨?_,?_⟩
|exact trivial)
 refine zi (fun j st => ∃ k,k+j=s.length/\i+skipM false (s.drop i)=k+skipM false (s.drop k)/\Sub (cx EN5 Tryz.prog s0 w he) st (HSk s k)) (s.length-i) ⟨i,by omega,rfl,?_⟩ ?_
 . exact Sub.live ⟨rfl,rfl,trivial⟩ trivial
 rintro j st ⟨k,hkj,hI,hs2⟩
 refine zf hs2 ?_
 clear hs2
 rw [hI]
 clear hI
 have hz:=zS s
 have hex:((bs s).extract ((k:Int)).toNat (bs s).size).size<=1000000:=by rw [ByteArray.size_extract];omega
 have hix:=indexNl_ac ((bs s).extract ((k:Int)).toNat (bs s).size) hex
 by_cases hk:k<s.length
 . have f0:decide ((k:Int)<((bs s).size:Nat))=true:=decide_eq_true (by omega)
   have hbt:=zCm hk
   have hsk:=skip_at hk
   have hdr:s.drop k=s[k]::s.drop (k+1):=List.drop_eq_getElem_cons hk
   generalize s[k]=c at hbt hsk hdr
   have q : ∀ n:Nat,n<256->(zk (bs s) ((k:Int)).toNat==(n:Int))=(c==UInt8.ofNat n):=fun n hn=>by rw [hbt];exact zFY c n hn
   by_cases h32:c=32
   . have f32:(zk (bs s) ((k:Int)).toNat==32)=true:=(q 32 (by omega)).trans (by rw [h32];rfl)
     have hs1:skipM false (s.drop k)=skipM false (s.drop (k+1))+1:=by rw [hsk,h32];rfl
     repeat' (first
|apply zM
 . conv=>lhs;whnf
 . assumption
|refine zB ?_
|refine zC ?_
|refine zI ?_
|refine zY ?_
|apply aw_1
 conv=>whnf
 refine ⟨?_,trivial⟩
|apply s_1
 conv=>whnf;arg 1;arg 4;arg 3;whnf
 refine ⟨?_,?_⟩
|exact trivial)
     all_goals first
      |exact za (by omega)
      |exact ⟨by kernel_rfl,by omega,by rw [zS];omega⟩
      |exact (show Tryz.prog.underlying _=some TypeDesc.string by kernel_rfl)
      |refine zE (j':=j-1) (by omega) ⟨k+1,by omega,by omega,Sub.live ⟨rfl,rfl,trivial⟩ trivial⟩
   have f32:(zk (bs s) ((k:Int)).toNat==32)=false:=(q 32 (by omega)).trans (by simpa using h32)
   by_cases h9:c=9
   . have f9:(zk (bs s) ((k:Int)).toNat==9)=true:=(q 9 (by omega)).trans (by rw [h9];rfl)
     have hs1:skipM false (s.drop k)=skipM false (s.drop (k+1))+1:=by rw [hsk,h9];rfl
     repeat' (first
|apply zM
 . conv=>lhs;whnf
 . assumption
|apply zH
 . conv=>lhs;whnf
 . assumption
|refine zB ?_
|refine zC ?_
|refine zI ?_
|refine zY ?_
|apply aw_1
 conv=>whnf
 refine ⟨?_,trivial⟩
|apply s_1
 conv=>whnf;arg 1;arg 4;arg 3;whnf
 refine ⟨?_,?_⟩
|exact trivial)
     all_goals first
      |exact za (by omega)
      |exact ⟨by kernel_rfl,by omega,by rw [zS];omega⟩
      |exact (show Tryz.prog.underlying _=some TypeDesc.string by kernel_rfl)
      |refine zE (j':=j-1) (by omega) ⟨k+1,by omega,by omega,Sub.live ⟨rfl,rfl,trivial⟩ trivial⟩
   have f9:(zk (bs s) ((k:Int)).toNat==9)=false:=(q 9 (by omega)).trans (by simpa using h9)
   by_cases h10:c=10
   . have f10:(zk (bs s) ((k:Int)).toNat==10)=true:=(q 10 (by omega)).trans (by rw [h10];rfl)
     have hs1:skipM false (s.drop k)=skipM false (s.drop (k+1))+1:=by rw [hsk,h10];rfl
     repeat' (first
|apply zM
 . conv=>lhs;whnf
 . assumption
|apply zH
 . conv=>lhs;whnf
 . assumption
|refine zB ?_
|refine zC ?_
|refine zI ?_
|refine zY ?_
|apply aw_1
 conv=>whnf
 refine ⟨?_,trivial⟩
|apply s_1
 conv=>whnf;arg 1;arg 4;arg 3;whnf
 refine ⟨?_,?_⟩
|exact trivial)
     all_goals first
      |exact za (by omega)
      |exact ⟨by kernel_rfl,by omega,by rw [zS];omega⟩
      |exact (show Tryz.prog.underlying _=some TypeDesc.string by kernel_rfl)
      |refine zE (j':=j-1) (by omega) ⟨k+1,by omega,by omega,Sub.live ⟨rfl,rfl,trivial⟩ trivial⟩
   have f10:(zk (bs s) ((k:Int)).toNat==10)=false:=(q 10 (by omega)).trans (by simpa using h10)
   by_cases h13:c=13
   . have f13:(zk (bs s) ((k:Int)).toNat==13)=true:=(q 13 (by omega)).trans (by rw [h13];rfl)
     have hs1:skipM false (s.drop k)=skipM false (s.drop (k+1))+1:=by rw [hsk,h13];rfl
     repeat' (first
|apply zM
 . conv=>lhs;whnf
 . assumption
|apply zH
 . conv=>lhs;whnf
 . assumption
|refine zB ?_
|refine zC ?_
|refine zI ?_
|refine zY ?_
|apply aw_1
 conv=>whnf
 refine ⟨?_,trivial⟩
|apply s_1
 conv=>whnf;arg 1;arg 4;arg 3;whnf
 refine ⟨?_,?_⟩
|exact trivial)
     all_goals first
      |exact za (by omega)
      |exact ⟨by kernel_rfl,by omega,by rw [zS];omega⟩
      |exact (show Tryz.prog.underlying _=some TypeDesc.string by kernel_rfl)
      |refine zE (j':=j-1) (by omega) ⟨k+1,by omega,by omega,Sub.live ⟨rfl,rfl,trivial⟩ trivial⟩
   have f13:(zk (bs s) ((k:Int)).toNat==13)=false:=(q 13 (by omega)).trans (by simpa using h13)
   by_cases h44:c=44
   . have f44:(zk (bs s) ((k:Int)).toNat==44)=true:=(q 44 (by omega)).trans (by rw [h44];rfl)
     have hs1:skipM false (s.drop k)=skipM false (s.drop (k+1))+1:=by rw [hsk,h44];rfl
     repeat' (first
|apply zM
 . conv=>lhs;whnf
 . assumption
|apply zH
 . conv=>lhs;whnf
 . assumption
|refine zB ?_
|refine zC ?_
|refine zI ?_
|refine zY ?_
|apply aw_1
 conv=>whnf
 refine ⟨?_,trivial⟩
|apply s_1
 conv=>whnf;arg 1;arg 4;arg 3;whnf
 refine ⟨?_,?_⟩
|exact trivial)
     all_goals first
      |exact za (by omega)
      |exact ⟨by kernel_rfl,by omega,by rw [zS];omega⟩
      |exact (show Tryz.prog.underlying _=some TypeDesc.string by kernel_rfl)
      |refine zE (j':=j-1) (by omega) ⟨k+1,by omega,by omega,Sub.live ⟨rfl,rfl,trivial⟩ trivial⟩
   have f44:(zk (bs s) ((k:Int)).toNat==44)=false:=(q 44 (by omega)).trans (by simpa using h44)
   have hns:sepB c=false:=by simp [sepB,h32,h9,h10,h13,h44]
   by_cases h35:c=35
   . have f35:(zk (bs s) ((k:Int)).toNat==35)=true:=(q 35 (by omega)).trans (by rw [h35];rfl)
     have hx:=zK9 s k
     have hcm:skipM false (s.drop k)=skipM true (s.drop k):=by rw [hsk,hns,hdr,h35];rfl
     have hco:=zH4 (s.drop k)
     rw [<- hcm] at hco
     have hra:=zDd (s.drop k) [10,13]
     rw [List.length_drop] at hra
     have h1:Lib.indexAny (s.drop k) [10,13]≠0:=by
      rw [hdr,h35]
      have:=Lib.indexAny_ge [10,13] (s.drop (k+1))
      unfold Lib.indexAny
      rw [if_neg (by decide)]
      split
      . decide
      . rename_i hq
        have hq2 : ¬ Lib.indexAny (s.drop (k+1)) [10,13] = -1:=by simpa using hq
        omega
     rw [hx] at hix
     repeat' (first
|apply zM
 . conv=>lhs;whnf
 . assumption
|apply zH
 . conv=>lhs;whnf
 . assumption
|refine zB ?_
|refine zC ?_
|refine zI ?_
|refine zY ?_
|apply aw_1
 conv=>whnf
 refine ⟨?_,trivial⟩
|apply s_1
 conv=>whnf;arg 1;arg 4;arg 3;whnf
 refine ⟨?_,?_⟩
|apply zd rfl
 . conv=>lhs;whnf
 . conv=>lhs;whnf
 . first | exact hix
|refine zV (by conv=>lhs;whnf) ?_ ?_<;>intro hb
|exact trivial)
     . obtain ⟨n,hn⟩ : ∃ n:Nat,Lib.indexAny (s.drop k) [10,13]=n:=⟨(Lib.indexAny (s.drop k) [10,13]).toNat,by simp at hb;omega⟩
       rw [hn] at hco hra h1 |-
       rw [if_neg (by omega),Int.toNat_natCast,List.drop_drop] at hco
       refine zE (j':=j-n) (by omega) ⟨k+n,by omega,by omega,Sub.live ⟨rfl,rfl,trivial⟩ trivial⟩
     . exact za (by omega)
     . have h2:Lib.indexAny (s.drop k) [10,13] = -1:=by simp at hb;omega
       rw [if_pos h2,List.length_drop] at hco
       refine zE (j':=0) (by omega) ⟨s.length,by omega,by rw [hco,List.drop_length];show k+(s.length-k)=s.length+0;omega,Sub.live ⟨rfl,?_,trivial⟩ trivial⟩
       show V.c (.int .i64 ((bs s).size:Nat))=V.c (.int .i64 (s.length:Nat))
       rw [hz]
     all_goals first
      |exact (show Tryz.prog.underlying _=some TypeDesc.string by kernel_rfl)
      |exact ⟨by kernel_rfl,by omega,by rw [zS];omega⟩
   have f35:(zk (bs s) ((k:Int)).toNat==35)=false:=(q 35 (by omega)).trans (by simpa using h35)
   have hs1:skipM false (s.drop k)=0:=by rw [hsk,hns];simp [h35]
   repeat' (first
|apply zM
 . conv=>lhs;whnf
 . assumption
|apply zH
 . conv=>lhs;whnf
 . assumption
|refine zB ?_
|refine zC ?_
|refine zI ?_
|apply aw_1
 conv=>whnf
 refine ⟨?_,trivial⟩
|apply s_1
 conv=>whnf;arg 1;arg 4;arg 3;whnf
 refine ⟨?_,?_⟩
|refine zO ?_
|refine zT ?_
|refine zAC ?_
|refine zD ?_
|refine ⟨_,by conv=>lhs;whnf;arg 2;whnf,?_⟩;conv=>rhs;whnf
|exact trivial)
   . rw [hs1];rfl
   all_goals first
    |exact (show Tryz.prog.underlying _=some TypeDesc.string by kernel_rfl)
    |exact ⟨by kernel_rfl,by omega,by rw [zS];omega⟩
 . have f0:decide ((k:Int)<((bs s).size:Nat))=false:=decide_eq_false (by omega)
   have hs1:skipM false (s.drop k)=0:=by rw [List.drop_of_length_le (by omega)];rfl
   repeat' (first
|apply zH
 . conv=>lhs;whnf
 . assumption
|refine zB ?_
|refine zC ?_
|refine zI ?_
|apply aw_1
 conv=>whnf
 refine ⟨?_,trivial⟩
|apply s_1
 conv=>whnf;arg 1;arg 4;arg 3;whnf
 refine ⟨?_,?_⟩
|refine zN ?_
|refine zJ rfl ?_
|refine zK ?_
|refine zD ?_
|refine ⟨_,by conv=>lhs;whnf;arg 2;whnf,?_⟩;conv=>rhs;whnf
|exact trivial)
   . rw [hs1];rfl
   . exact (show Tryz.prog.underlying _=some TypeDesc.string by kernel_rfl)
end
section
open Go.RowKit
attribute [local irreducible] wpList Calls Code.wp
section
variable {P:Program} {s:Sg} {w w':World} {pas:Nat->Prop} {B:Nat} {rs:Nat->Option Res}
theorem zJa (h:MemOk P pas B rs s w) (cur:Array Value) (e:TypeId) (n:Nat):Keeps s.F (fun b o=>s.F b o\/(b=w.heap.size/\o<n)) w (w.alloc (.cells cur e)):=fun b o hF =>
 ⟨(zA6 (w:=w) (h.fx b o hF)).trans rfl,.inl hF⟩
theorem MemOk.tokNew0 (h:MemOk P pas B rs s w) (hB:B<=w.heap.size) {k:Nat} (X:Nat->Prop) (hX : ∀ q,X q->q=k) (hf : ∀ q ρ,q≠k->rs q=some ρ -> ∀ n,X n->ρ.free n=true) {cur:Array Value} {e:TypeId} {c m:Nat} (hc:cur.size=c*P.cellsOf e) (hm:m<=c) (hmx:c<=maxLen)
 (hx:Ext X s w (s.tok k w.heap.size (m*P.cellsOf e) (.slice (some ⟨w.heap.size,0,none⟩) m c) m) (w.alloc (.cells cur e))) :
 MemOk P pas B (updR rs k (.tok e m)) (s.tok k w.heap.size (m*P.cellsOf e) (.slice (some ⟨w.heap.size,0,none⟩) m c) m) (w.alloc (.cells cur e)) where
 fx b o hF:=by
  rcases hF with hF | ⟨rfl,hF⟩
  . rw [zA6 (w:=w) (h.fx b o hF)];exact h.fx b o hF
  . have:o<cur.size:=by rw [hc];exact Nat.lt_of_lt_of_le hF (Nat.mul_le_mul_right _ hm)
    have h2:=zCM (w:=w) (t:=e) (Array.getElem?_eq_getElem this)
    exact Option.isSome_iff_exists.2 ⟨_,h2⟩
 ho q ρ hq:=by
  by_cases e':q=k
  . subst e'
    simp only [updR,if_true] at hq
    cases hq
    refine ⟨by simp [Sg.tok],.inr ⟨w.heap.size,c,cur,by simp [Sg.tok],by simp [Sg.tok],heap_alloc_new w _,hm,hmx,hc,fun o ho hF => ?_⟩⟩
    rcases hF with hF | ⟨_,hF⟩
    . obtain ⟨v,hv⟩:=Option.isSome_iff_exists.1 (h.fx _ o hF)
      have:=block_lt_of_cell hv
      simp at this
    . omega
  . simp only [updR,if_neg e'] at hq
    refine (h.ho q ρ hq).keep hx (fun hXq=>e' (hX q hXq)) (by simp [Sg.tok,e']) (by simp [Sg.tok,e']) (fun n hn=>hf q ρ e' hq n hn) (fun b hb=>Below.heap_alloc w _ _ ((h.ho q ρ hq).lt hb)) (fun b o hb hF => ?_)
    rcases hF with hF | ⟨rfl,_⟩
    . exact hF
    . have:=(h.ho q ρ hq).lt hb;omega
 bs q ρ b hq hb:=by
  by_cases e':q=k
  . subst e'
    simp only [updR,if_true] at hq
    cases hq
    simp only [Sg.bk,Sg.tok,if_true] at hb
    cases hb;exact .inl hB
  . simp only [updR,if_neg e'] at hq
    rw [zBm e'] at hb
    exact h.bs q ρ b hq hb
 dj q r ρ ρ' b hq hr hqb hrb:=by
  by_cases e1:q=k<;>by_cases e2:r=k
  . rw [e1,e2]
  . simp only [updR,if_neg e2] at hr
    rw [zBm e2] at hrb
    subst e1
    simp only [updR,if_true] at hq
    cases hq
    simp only [Sg.bk,Sg.tok,if_true] at hqb
    cases hqb
    have:=(h.ho r ρ' hr).lt hrb
    omega
  . simp only [updR,if_neg e1] at hq
    rw [zBm e1] at hqb
    subst e2
    simp only [updR,if_true] at hr
    cases hr
    simp only [Sg.bk,Sg.tok,if_true] at hrb
    cases hrb
    have:=(h.ho q ρ hq).lt hqb
    omega
  . simp only [updR,if_neg e1] at hq
    simp only [updR,if_neg e2] at hr
    rw [zBm e1] at hqb
    rw [zBm e2] at hrb
    exact h.dj q r ρ ρ' b hq hr hqb hrb
end
section
variable {X:Cx} {nn:Nat} {st:Vst nn} {o:Oper} {K:Vst nn->Prop}
theorem opOk_lit0 {t e:TypeId} {by_ d:Nat} (ho:o.op = .buildSlice t 0 #[]) (hd:o.dst=some d) (hdl:Nat.ble d 999999=true) (he:zAB X.P t=some (e,by_))
 (hK:K (((st.kill d).res d (.tok e 0)).put (some d) (.own d e []))):OpOk X o st K:=by
 intro s w a hI N Q hP hN
 obtain ⟨hu,hlay,i,z,hi,hz,hb,hpos,hzs,hsz⟩:=zCb he
 have ha:(Instr.buildSlice t 0 #[]).run X.P w = .ok (.slice (some ⟨w.heap.size,0,none⟩) 0 0) (w.alloc (.cells #[] e)):=by
  simp [Instr.buildSlice,run_underlying hu,sizeOf,typeInfo,hi,Instr.fill,newRow]
  have hr0:Array.map (fun _:Nat=>(default:Value)) (Array.range 0) = #[]:=by apply Array.ext<;>simp
  rw [hr0]
 unfold Oper.wp
 have hrun:(execOp a.eval o).run X.P w = .ok (.value (.slice (some ⟨w.heap.size,0,none⟩) 0 0)) (w.alloc (.cells #[] e)):=by simp [execOp,ho,ha]
 rw [hrun,Oper.upon_value,hd]
 have hI':=hI.kill d
 have hkeep:Keeps s.F (s.tok d w.heap.size (0*X.P.cellsOf e) (.slice (some ⟨w.heap.size,0,none⟩) 0 0) 0).F w (w.alloc (.cells #[] e)):=zJa hI.mem _ e _
 have hext:Ext (fun m=>m=d) s w (s.tok d w.heap.size (0*X.P.cellsOf e) (.slice (some ⟨w.heap.size,0,none⟩) 0 0) 0) (w.alloc (.cells #[] e)):=
  ⟨hkeep,fun _ _=>rfl,fun q hq => .inl (by simp only [Sg.tok];rw [if_neg hq])⟩
 have hmem:=hI'.mem.tokNew0 hI.base (k:=d) (fun m=>m=d) (fun _ h=>h) zIV (cur:=#[]) (c:=0) (m:=0) (by simp) (Nat.le_refl _) (Nat.zero_le _) hext
 refine hN _ _ _ _ (Inv.put (st:=(st.kill d).res d (.tok e 0)) (v:=.own d e []) ⟨hI.sz,fun i hi => ?_,hI.df,hI.fr.trans (zEP w _ _) (q:=fun _=>False) (fun _ h=>h.elim),hI.kp.trans hkeep,fun b o hb hnp hF => ?_,hmem,hI.pe.ext hext fun m hm=>by subst hm;exact Nat.le_of_ble_eq_true hdl⟩ (some d) ?_) hK
 . exact rel.ext hext _ _ (zAn (hI.tm i hi)).1 fun n hn=>by subst hn;exact (zAn (hI.tm i hi)).2
 . rcases hF with hF | ⟨rfl,_⟩
   . exact hI.nf b o hb hnp hF
   . have:=hI.base;omega
 . rw [rel]
   exact ⟨zCP (l:=[]) (Nat.le_refl _) (Nat.zero_le _) fun k hk=>absurd hk (Nat.not_lt_zero k),by simp [Sg.tok],fun _=>by simp [Sg.tok]⟩
theorem zE8 {t e:TypeId} {by_ k:Nat} {x y:Operand} {l:List D} (ho:o.op = .call { callee:=.builtin .append,args:=#[x,y],argTypes:=#[t,t] }) (he:zAB X.P t=some (e,by_))
 (hx:ev st x = .own k e l) (hy:(ev st y).out = .sl e []) (hK:K (st.put o.dst (.own k e l))):OpOk X o st K:=by
 intro s w a hI N Q hP hN
 obtain ⟨hu,hlay,i,z,hi,hz,hb,hsp,hzs,hsz⟩:=zCb he
 have hxe:=hI.ev x
 rw [hx,rel] at hxe
 obtain ⟨k1,A,c1,hA,hc1,-,-,-⟩:=id hxe.1
 unfold Oper.wp
 have hye:=rel.out _ _ (hI.ev y)
 rw [hy,rel] at hye
 obtain ⟨k2,A2,c2,hy2,-,-,-,-⟩:=hye
 have hrun:(Builtin.append_ #[t,t] o.type #[a.eval x,a.eval y]).run X.P w = .ok (a.eval x) w:=by
  rw [hA,hy2]
  have hsz:(sizeOf e).run X.P w = .ok (X.P.cellsOf e) w:=by simp [sizeOf,typeInfo,hi,hsz]
  have hld : ∀ q,(loadCells q 0).run X.P w = .ok #[] w:=fun q=>by simp [loadCells,loadCellsFrom]
  cases A<;>cases A2<;>simp [Builtin.append_,run_underlying hu,hsz,Builtin.lenOf,Builtin.firstCells,storeCells,hld,Nat.not_lt.2 hc1]
 rw [zBy ho hrun,Oper.upon_value]
 refine hN _ _ _ _ (hI.put o.dst ?_) hK
 rw [rel]
 exact hxe
theorem res_same0 {k:Nat} {ρ:Res} (h:st.rs k=some ρ):st.res k ρ=st:=by
 have e:(st.res k ρ).rs=st.rs:=funext fun m=>by
  show updR st.rs k ρ m=_
  unfold updR
  split
  . rename_i e;rw [e,h]
  . rfl
 calc st.res k ρ=⟨(st.res k ρ).tm,(st.res k ρ).rs⟩:=rfl
  _=st:=by rw [e];rfl
theorem zIL {t e:TypeId} {by_ k:Nat} {x y:Operand} {l l2:List D} (ho:o.op = .call { callee:=.builtin .append,args:=#[x,y],argTypes:=#[t,t] }) (he:zAB X.P t=some (e,by_))
 (hleaf : ∀ d,(cellsV X.P 12 e d).all V.leaf=true) (hx:ev st x = .own k e l) (hr:st.rs k=some (.tok e l.length)) (hy:(ev st y).out = .sl e l2) (hlen:l.length+l2.length<=maxLen) (hby:(l.length+l2.length)*by_<=140737488355328)
 (hK:K ((st.res k (.tok e (l.length+l2.length))).put o.dst (.own k e (l++l2)))):OpOk X o st K:=by
 rcases Nat.eq_zero_or_pos l2.length with h0 | h0
 . have hl0:l2=[]:=List.eq_nil_of_length_eq_zero h0
   subst hl0
   rw [List.length_nil,Nat.add_zero,res_same0 hr,List.append_nil] at hK
   exact zE8 ho he hx hy hK
 . exact zBB ho he hleaf hx hr hy h0 hlen hby hK
end
section
variable {X:Cx} {nn:Nat} {st:Vst nn} {ops:Array Oper} {o:Oper}
def Fresh (st:Vst nn) (d:Nat):Prop:=(∀ i,(st.tm i).free d=true) /\ ∀ m ρ,st.rs m=some ρ->m≠d/\ρ.free d=true
theorem zGg {d:Nat} (h:Fresh st d):st.kill d=st:=by
 have e1:(st.kill d).tm=st.tm:=funext fun i=>by
  show zJZ d (st.tm i)=_
  unfold zJZ;rw [if_pos (h.1 i)]
 have e2:(st.kill d).rs=st.rs:=funext fun m=>by
  unfold Vst.kill
  dsimp only
  cases hm:st.rs m with
  |none=>split<;>rfl
  |some ρ =>
   have:=h.2 m ρ hm
   rw [if_neg this.1]
   simp [this.2]
 calc st.kill d=⟨(st.kill d).tm,(st.kill d).rs⟩:=rfl
  _=st:=by rw [e1,e2]
theorem zJU {t:TypeId} {d:Nat} {vs:List V} {K:Vst nn->Prop} (ho:o.op = .alloc t) (hd:o.dst=some d) (hdl:Nat.ble d 999999=true) (hc:zFR X.P t=some vs) (hf:freeL d vs=true) (hfr:Fresh st d)
 (hK:K ((st.res d (.box t vs)).put (some d) (.bx d 0))):OpOk X o st K:=by
 refine zEf ho hd hdl hc hf ?_
 rw [zGg hfr];exact hK
theorem zIU {d:Nat} {t:Option Tmp} {v:V} {u:List (Nat × Res)} (h:Fresh st d) (hv:v.free d=true) (hu : ∀ p∈u,p.1≠d/\p.2.free d=true):Fresh (stp st t v u) d:=by
 unfold stp
 have hr : ∀ m ρ,updL st.rs u m=some ρ->m≠d/\ρ.free d=true:=by
  intro m ρ hm
  induction u with
  |nil=>exact h.2 m ρ hm
  |cons x u ih =>
   obtain ⟨k,ρ'⟩:=x
   change (if m=k then some ρ' else updL st.rs u m)=some ρ at hm
   split at hm
   . rename_i e
     cases hm
     have:=hu (k,ρ) (List.mem_cons_self ..)
     exact ⟨by rw [e];exact this.1,this.2⟩
   . exact ih (fun p hp=>hu p (List.mem_cons_of_mem _ hp)) hm
 cases t with
 |none=>exact ⟨h.1,hr⟩
 |some t =>
  refine ⟨fun i => ?_,hr⟩
  show (if i=t then v else st.tm i).free d=true
  split
  . exact hv
  . exact h.1 i
theorem fresh_put {d:Nat} {t:Option Tmp} {v:V} (h:Fresh st d) (hv:v.free d=true):Fresh (st.put t v) d:=zIU (u:=[]) h hv (fun _ hp=>by cases hp)
theorem fresh_res {d m:Nat} {ρ:Res} (h:Fresh st d) (hm:Nat.beq m d=false) (hv:ρ.free d=true):Fresh (st.res m ρ) d:=by
 refine ⟨h.1,fun q ρ' hq => ?_⟩
 change updR st.rs m ρ q=some ρ' at hq
 unfold updR at hq
 split at hq
 . rename_i e
   cases hq
   subst e
   exact ⟨fun e2=>by rw [e2] at hm;simp at hm,hv⟩
 . exact h.2 q ρ' hq
theorem fresh_S {d:Nat} {cs:List (Nat × V)} {R:List (Nat × Res)} (h:(cs.all (fun p=>p.2.free d)&&R.all fun p => !(Nat.beq p.1 d)&&p.2.free d)=true):Fresh (stS nn cs R) d:=by
 rw [Bool.and_eq_true,List.all_eq_true,List.all_eq_true] at h
 refine ⟨fun i => ?_,fun m ρ hm => ?_⟩
 . simp only [stS]
   split
   . rename_i p hp;exact h.1 p (List.mem_of_find?_eq_some hp)
   . rfl
 . simp only [stS] at hm
   split at hm
   . rename_i p hp
     have he:=List.find?_some hp
     simp at he
     cases hm
     have:=h.2 p (List.mem_of_find?_eq_some hp)
     rw [Bool.and_eq_true] at this
     refine ⟨fun e => ?_,this.2⟩
     rw [he,e] at this
     simp at this
   . cases hm
theorem opOk_lit0F {t e:TypeId} {by_ d:Nat} {K:Vst nn->Prop} (ho:o.op = .buildSlice t 0 #[]) (hd:o.dst=some d) (hdl:Nat.ble d 999999=true) (he:zAB X.P t=some (e,by_)) (hfr:Fresh st d)
 (hK:K ((st.res d (.tok e 0)).put (some d) (.own d e []))):OpOk X o st K:=by
 refine opOk_lit0 ho hd hdl he ?_
 rw [zGg hfr];exact hK
def nfB (fr:List Nat) (v:V) (u:List (Nat × Res)):Bool:=fr.all fun d=>v.free d&&u.all fun p => !(Nat.beq p.1 d)&&p.2.free d
inductive YldA (X:Cx) (ops:Array Oper) (fr rd wr:List Nat) (o:Oper) (st:Vst nn):V->List (Nat × Res)->Prop where
 |old {v:V} {u:List (Nat × Res)} (h:YldG X ops rd wr o st v u) (hf:nfB fr v u=true):YldA X ops fr rd wr o st v u
 |alloc {t:TypeId} {d:Nat} {vs:List V} (hg:o.guard=none) (ho:o.op = .alloc t) (hd:o.dst=some d) (hdl:Nat.ble d 999999=true) (hc:zFR X.P t=some vs) (hfd:freeL d vs=true) (hw:wr.contains d=true) (hf:nfB fr (.bx d 0) [(d,.box t vs)]=true):YldA X ops fr rd wr o st (.bx d 0) [(d,.box t vs)]
 |lit0 {t e:TypeId} {by_ d:Nat} (hg:o.guard=none) (ho:o.op = .buildSlice t 0 #[]) (hd:o.dst=some d) (hdl:Nat.ble d 999999=true) (he:zAB X.P t=some (e,by_)) (hw:wr.contains d=true) (hf:nfB fr (.own d e []) [(d,.tok e 0)]=true):YldA X ops fr rd wr o st (.own d e []) [(d,.tok e 0)]
 |app {t e:TypeId} {by_ k:Nat} {x y:Operand} {l l2:List D} (hg:o.guard=none) (hw:wr.contains k=true) (ho:o.op = .call { callee:=.builtin .append,args:=#[x,y],argTypes:=#[t,t] }) (he:zAB X.P t=some (e,by_)) (hleaf : ∀ d,(cellsV X.P 12 e d).all V.leaf=true)
   (hx:ev st x = .own k e l) (hr:st.rs k=some (.tok e l.length)) (hy:(ev st y).out = .sl e l2) (hp:l.length+l2.length<=maxLen/\(l.length+l2.length)*by_<=140737488355328) (hf:nfB fr (.own k e (l++l2)) [(k,.tok e (l.length+l2.length))]=true) :
   YldA X ops fr rd wr o st (.own k e (l++l2)) [(k,.tok e (l.length+l2.length))]
theorem YldA.of {fr rd wr:List Nat} {d:Option Tmp} {v v':V} {u u':List (Nat × Res)} (hd : ∀ t,d=some t->t ∉ o.looksAt ops) (hu:Off rd wr u') :
 YldA X ops fr rd wr o (stp st d v' u') v u ↔ YldA X ops fr rd wr o st v u:=by
 have evs : ∀ x∈o.op.operands,ev (stp st d v' u') x=ev st x:=fun x hx=>zId fun t ht hxt=>hd t ht (by
  subst hxt
  exact List.mem_append_left _ (List.mem_filterMap.2 ⟨.tmp t,by simpa using hx,rfl⟩))
 have hrs : ∀ n,wr.contains n=true->(stp st d v' u').rs n=st.rs n:=fun n hn=>by
  rw [zD6];exact zG4 hu (.inr hn)
 constructor
 . intro h
   cases h with
   |old h hf=>exact .old ((YldG.of hd hu).1 h) hf
   |alloc hg ho hd' hdl hc hfd hw hf=>exact .alloc hg ho hd' hdl hc hfd hw hf
   |lit0 hg ho hd' hdl he hw hf=>exact .lit0 hg ho hd' hdl he hw hf
   |app hg hw ho he hleaf hx hr hy hp hf =>
    rw [evs _ (by rw [ho];simp [Op.operands,Call.operands])] at hx
    rw [evs _ (by rw [ho];simp [Op.operands,Call.operands])] at hy
    rw [hrs _ hw] at hr
    exact .app hg hw ho he hleaf hx hr hy hp hf
 . intro h
   cases h with
   |old h hf=>exact .old ((YldG.of hd hu).2 h) hf
   |alloc hg ho hd' hdl hc hfd hw hf=>exact .alloc hg ho hd' hdl hc hfd hw hf
   |lit0 hg ho hd' hdl he hw hf=>exact .lit0 hg ho hd' hdl he hw hf
   |app hg hw ho he hleaf hx hr hy hp hf =>
    rw [<- evs _ (by rw [ho];simp [Op.operands,Call.operands])] at hx
    rw [<- evs _ (by rw [ho];simp [Op.operands,Call.operands])] at hy
    rw [<- hrs _ hw] at hr
    exact .app hg hw ho he hleaf hx hr hy hp hf
theorem YldA.names {fr rd wr:List Nat} {v:V} {u:List (Nat × Res)} (h:YldA X ops fr rd wr o st v u) : ∀ p∈u,wr.contains p.1=true:=by
 cases h with
 |old h hf=>exact h.names
 |alloc hg ho hd' hdl hc hfd hw hf=>exact fun p hp=>by simp at hp;subst hp;exact hw
 |lit0 hg ho hd' hdl he hw hf=>exact fun p hp=>by simp at hp;subst hp;exact hw
 |app hg hw ho he hleaf hx hr hy hp hf=>exact fun p hp=>by simp at hp;subst hp;exact hw
theorem YldA.nf {fr rd wr:List Nat} {v:V} {u:List (Nat × Res)} (h:YldA X ops fr rd wr o st v u):nfB fr v u=true:=by
 cases h with
 |old h hf=>exact hf
 |alloc hg ho hd' hdl hc hfd hw hf=>exact hf
 |lit0 hg ho hd' hdl he hw hf=>exact hf
 |app hg hw ho he hleaf hx hr hy hp hf=>exact hf
theorem nfB_ok {fr:List Nat} {v:V} {u:List (Nat × Res)} (h:nfB fr v u=true) {d:Nat} (hd:d∈fr):v.free d=true /\ ∀ p∈u,p.1≠d/\p.2.free d=true:=by
 have:=List.all_eq_true.1 h d hd
 rw [Bool.and_eq_true,List.all_eq_true] at this
 refine ⟨this.1,fun p hp => ?_⟩
 have h2:=this.2 p hp
 rw [Bool.and_eq_true] at h2
 exact ⟨fun e=>by rw [e] at h2;simp at h2,h2.2⟩
variable {fr rd wr:Nat->List Nat}
def aOpH (X:Cx) (ops:Array Oper) (fr rd wr:Nat->List Nat) (i:Nat) (K:Vst nn->Prop) (st:Vst nn):Prop:=
 match ops[i]? with
 |none=>K st
 |some o => ∃ v u,YldA X ops (fr i) (rd i) (wr i) o st v u/\K (stp st o.dst v u)
theorem aOpH_mono {i:Nat} {K K':Vst nn->Prop} (h : ∀ st,K st->K' st) (hh:aOpH X ops fr rd wr i K st):aOpH X ops fr rd wr i K' st:=by
 unfold aOpH at *
 split
 . rename_i hn;simp only [hn] at hh;exact h _ hh
 . rename_i o ho
   simp only [ho] at hh
   obtain ⟨v,u,h1,h2⟩:=hh
   exact ⟨v,u,h1,h _ h2⟩
def absAnyH (X:Cx) (ops:Array Oper) (fr rd wr:Nat->List Nat) (Q:Vst nn->Prop):Nat->Array Bool->Vst nn->Prop
 |0,listed,st=>Region.ready .any ops listed=[]/\Q st
 |fuel+1,listed,st=>(Region.ready .any ops listed=[]->Q st) /\ ∀ i∈Region.ready .any ops listed,aOpH X ops fr rd wr i (absAnyH X ops fr rd wr Q fuel (listed.setIfInBounds i true)) st
theorem aOpH_put {i j:Nat} {oi oj:Oper} {v:V} {u:List (Nat × Res)} (hj:ops[j]? = some oj) (hap:oi.apart ops oj=true) (hn:zDY (wr i) (rd j)=true/\zDY (wr i) (wr j)=true/\zDY (wr j) (rd i)=true) {K:Vst nn->Prop} (hy:YldA X ops (fr i) (rd i) (wr i) oi st v u) (h:aOpH X ops fr rd wr j K (stp st oi.dst v u)) :
 aOpH X ops fr rd wr j (fun st'=>YldA X ops (fr i) (rd i) (wr i) oi st' v u/\K (stp st' oi.dst v u)) st:=by
 obtain ⟨h1,h2,h3⟩:=Oper.apart_spec hap
 unfold aOpH at *
 simp only [hj] at *
 obtain ⟨v',u',hy',hK⟩:=h
 have hu:Off (rd j) (wr j) u:=fun p hp=>by
  have hw:=hy.names p hp
  refine ⟨?_,?_⟩
  . cases hq:(rd j).contains p.1
    . rfl
    . exact (zBb hn.1 hw hq).elim
  . cases hq:(wr j).contains p.1
    . rfl
    . exact (zBb hn.2.1 hw hq).elim
 have hyj:YldA X ops (fr j) (rd j) (wr j) oj st v' u':=(YldA.of h1 hu).1 hy'
 have hu':Off (rd i) (wr i) u':=fun p hp=>by
  have hw:=hyj.names p hp
  refine ⟨?_,?_⟩
  . cases hq:(rd i).contains p.1
    . rfl
    . exact (zBb hn.2.2 hw hq).elim
  . cases hq:(wr i).contains p.1
    . rfl
    . exact (zBb hn.2.1 hq hw).elim
 have huu : ∀ p∈u,∀ q∈u',p.1≠q.1:=fun p hp q hq e=>by
  have h5:=hy.names p hp
  have h6:=hyj.names q hq
  rw [<- e] at h6
  exact zBb hn.2.1 h5 h6
 exact ⟨v',u',hyj,(YldA.of h3 hu').2 hy,by rw [<- zH2 h2 huu];exact hK⟩
theorem zHk {Q:Vst nn->Prop} {i:Nat} {oi:Oper} {v:V} {u:List (Nat × Res)} (hi:ops[i]? = some oi) (hN:zEH ops rd wr=true) :
 ∀ (fuel:Nat) (listed:Array Bool) (st:Vst nn),Closed ops listed->(∀ j,j<i->listed.getD j false=true) ->
   (∀ j oj,ops[j]? = some oj->j≠i->listed.getD j true=false->(∀ e∈oj.after,Region.binds .any e=true->e.on≠i)->oi.apart ops oj=true) ->
   i∈Region.ready .any ops listed->YldA X ops (fr i) (rd i) (wr i) oi st v u ->
   absAnyH X ops fr rd wr Q fuel (listed.setIfInBounds i true) (stp st oi.dst v u)->absAnyH X ops fr rd wr Q (fuel+1) listed st:=by
 intro fuel
 induction fuel with
 |zero =>
  intro listed st _ _ _ hr hy H
  refine ⟨fun h=>(by rw [h] at hr;cases hr),fun j hj => ?_⟩
  by_cases hji:j=i
  . subst hji;unfold aOpH;simp only [hi];exact ⟨v,u,hy,H⟩
  . have:=ready_mono hj hji
    rw [H.1] at this
    cases this
 |succ fuel ih =>
  intro listed st hcl hlow hfree hr hy H
  refine ⟨fun h=>(by rw [h] at hr;cases hr),fun j hj => ?_⟩
  by_cases hji:j=i
  . subst hji;unfold aOpH;simp only [hi];exact ⟨v,u,hy,H⟩
  . have h1:=H.2 j (ready_mono hj hji)
    obtain ⟨hjun,oj,hoj,hall⟩:=mem_ready.1 hj
    have hiun:=(mem_ready.1 hr).1
    have hnot : ∀ e∈oj.after,Region.binds .any e=true->e.on≠i:=fun e he hb heq=>by
     have h1:=hall e he hb
     rw [heq] at h1
     exact zA2 hiun h1
    have hij:i<j:=by
     rcases Nat.lt_trichotomy i j with h | h | h
     . exact h
     . exact absurd h.symm hji
     . exact (zA2 hjun (hlow j h)).elim
    have hsz:j<ops.size:=(Array.getElem?_eq_some_iff.1 hoj).1
    have hnm:zDY (wr i) (rd j)=true/\zDY (wr i) (wr j)=true/\zDY (wr j) (rd i)=true:=by
     have h2:=List.all_eq_true.1 (List.all_eq_true.1 hN j (List.mem_range.2 hsz)) i (List.mem_range.2 hij)
     rw [Bool.or_eq_true] at h2
     rcases h2 with h2 | h2
     . simp only [Bool.and_eq_true] at h2;exact ⟨h2.1.1,h2.1.2,h2.2⟩
     . refine (zA2 hiun (zFG hcl _ _ (fun k hk => ?_) i (by simpa using h2))).elim
       unfold zG0 at hk
       rw [hoj] at hk
       obtain ⟨e,he,rfl⟩:=List.mem_map.1 hk
       obtain ⟨h2,h3⟩:=List.mem_filter.1 he
       exact hall e (by simpa using h2) h3
    have h2:=aOpH_put (i:=i) hoj (hfree j oj hoj hji hjun hnot) hnm hy h1
    have hfree' : ∀ k ok,ops[k]? = some ok->k≠i->(listed.setIfInBounds j true).getD k true=false ->
     (∀ e∈ok.after,Region.binds .any e=true->e.on≠i)->oi.apart ops ok=true:=fun k ok hk hki hun hno=>by
     refine hfree k ok hk hki ?_ hno
     by_cases hjk:j=k
     . subst hjk;exact hjun
     . rw [getD_set_ne true hjk] at hun;exact hun
    refine aOpH_mono (fun st' h3=>ih (listed.setIfInBounds j true) st' (hcl.set hj) (fun k hk=>getD_set_true (hlow k hk)) hfree' (ready_mono hr (Ne.symm hji)) h3.1 ?_) h2
    rw [Array.setIfInBounds_comm _ _ hji]
    exact h3.2
def absLexH (X:Cx) (ops:Array Oper) (fr rd wr:Nat->List Nat) (Q:Vst nn->Prop):Nat->List Oper->Vst nn->Prop
 |_,[],st=>Q st
 |k,o::rest,st => ∃ v u,YldA X ops (fr k) (rd k) (wr k) o st v u/\absLexH X ops fr rd wr Q (k+1) rest (stp st o.dst v u)
theorem zGC {Q:Vst nn->Prop} (hN:zEH ops rd wr=true) : ∀ (l:List Oper) (k:Nat) (listed:Array Bool) (st:Vst nn),(∀ j,l[j]? = ops[k+j]?)->Closed ops listed->(∀ j,j<k->listed.getD j false=true)->listed.size=ops.size ->
 Region.lexFrom .any ops l.length k listed=true->absLexH X ops fr rd wr Q k l st->absAnyH X ops fr rd wr Q l.length listed st
 |[],_,_,_,_,_,_,_,hB,h=>⟨by simpa [Region.lexFrom] using hB,h⟩
 |o::l,k,listed,st,hl,hcl,hlow,hsz,hB,h=>by
  have h0:ops[k]? = some o:=by simpa using (hl 0).symm
  have hk:k<ops.size:=(Array.getElem?_eq_some_iff.1 h0).1
  simp only [List.length_cons,Region.lexFrom,Bool.and_eq_true] at hB
  obtain ⟨⟨hr,hf⟩,hB'⟩:=hB
  have hr:k∈Region.ready .any ops listed:=by simpa using hr
  obtain ⟨v,u,hy,hK⟩:=h
  exact zHk h0 hN l.length listed st hcl hlow (Region.free_spec h0 hf) hr hy
   (zGC hN l (k+1) _ _ (fun j=>by have:=hl (j+1);simpa [Nat.add_assoc,Nat.add_comm 1 j] using this) (hcl.set hr) (fun j hj=>by
     by_cases e:j=k
     . subst e;exact zD9 (by omega)
     . exact getD_set_true (hlow j (by omega))) (by simpa using hsz) hB' hK)
def frOf (ops:Array Oper) (R:List (Nat × Nat)) (j:Nat):List Nat:=(R.filter fun p => !(Nat.beq p.1 j) && !(reachS ops ops.size (zG0 ops j)).contains p.1).map (·.2)
theorem zDz (R:List (Nat × Nat)) (hR : ∀ i o t d,ops[i]? = some o->(o.op = .alloc t\/o.op = .buildSlice t 0 #[])->o.dst=some d->(i,d)∈R) {Q:Vst nn->Prop} {Q':Exit->Act->World->Prop} (hP:PQ X nn Q') (hQ : ∀ st' s' w' a',Inv X st' s' w' a'->Q st'->Q' .normal a' w') : ∀ (fuel:Nat) (listed:Array Bool) (st:Vst nn) (s:Sg) (w:World) (a:Act),Closed ops listed->(∀ p∈R,listed.getD p.1 true=false->Fresh st p.2)->Inv X st s w a ->
 absAnyH X ops (frOf ops R) rd wr Q fuel listed st->wpAny X.P .any ops Q' fuel listed a w
 |0,_,_,_,_,_,_,_,hI,h=>⟨h.1,hQ _ _ _ _ hI h.2⟩
 |fuel+1,listed,st,s,w,a,hcl,hfr,hI,h=>⟨fun h0=>hQ _ _ _ _ hI (h.1 h0),fun i hi=>by
  have h1:=h.2 i hi
  obtain ⟨hiun,oi,hoi,hall⟩:=mem_ready.1 hi
  unfold aOpH at h1
  unfold wpOp
  simp only [hoi] at h1 |-
  obtain ⟨v,u,hy,hK⟩:=h1
  have hnf:=hy.nf
  have hfr' : ∀ p∈R,(listed.setIfInBounds i true).getD p.1 true=false->Fresh (stp st oi.dst v u) p.2:=fun p hp hl=>by
   have hne:p.1≠i:=fun e=>by
    rw [e] at hl
    have hsz:i<listed.size \/ ¬ i<listed.size:=Nat.lt_or_ge i listed.size |>.imp id fun h=>by omega
    rw [Array.getD_eq_getD_getElem?,Array.getElem?_setIfInBounds] at hl
    rcases hsz with hsz | hsz
    . simp [hsz] at hl
    . simp [hsz] at hl
   have hl2:listed.getD p.1 true=false:=by rwa [getD_set_ne true (Ne.symm hne)] at hl
   have hmem:p.2∈frOf ops R i:=by
    refine List.mem_map.2 ⟨p,List.mem_filter.2 ⟨hp,?_⟩,rfl⟩
    rw [Bool.and_eq_true]
    refine ⟨by cases hb:Nat.beq p.1 i;rfl;exact (hne (Nat.eq_of_beq_eq_true hb)).elim,?_⟩
    rw [Bool.not_eq_true']
    cases hq:(reachS ops ops.size (zG0 ops i)).contains p.1
    . rfl
    . refine (zA2 hl2 (zFG hcl _ _ (fun k hk => ?_) p.1 (by simpa using hq))).elim
      unfold zG0 at hk
      rw [hoi] at hk
      obtain ⟨e,he,rfl⟩:=List.mem_map.1 hk
      obtain ⟨h2,h3⟩:=List.mem_filter.1 he
      exact hall e (by simpa using h2) h3
   have:=nfB_ok hnf hmem
   exact zIU (hfr p hp hl2) this.1 this.2
  have go : ∀ {st':Vst nn} {s' w' a'},Inv X st' s' w' a'->(absAnyH X ops (frOf ops R) rd wr Q fuel (listed.setIfInBounds i true) st' /\ ∀ p∈R,(listed.setIfInBounds i true).getD p.1 true=false->Fresh st' p.2)->wpAny X.P .any ops Q' fuel (listed.setIfInBounds i true) a' w':=
   fun hI' hK'=>zDz R hR hP hQ fuel _ _ _ _ _ (hcl.set hi) hK'.2 hI' hK'.1
  cases hy with
  |old hy hf =>
   rcases hy with ⟨hg,hy⟩ | ⟨hg,rfl,rfl⟩
   . rw [if_pos (zHS hg hI)]
     exact .inl (zIJ (K:=fun st'=>absAnyH X ops (frOf ops R) rd wr Q fuel (listed.setIfInBounds i true) st' /\ ∀ p∈R,(listed.setIfInBounds i true).getD p.1 true=false->Fresh st' p.2) hy ⟨hK,hfr'⟩ s w a hI _ _ hP fun st' s' w' a' hI' hK'=>go hI' hK')
   . rw [if_neg (by rw [zHS hg hI];simp)]
     exact go (hI.put oi.dst (by simp [rel])) ⟨hK,hfr'⟩
  |alloc hg ho hd hdl hc hfd hw hf =>
   rename_i t d vs
   rw [if_pos (zHS (by simp [gw,hg]) hI)]
   have hst:stp st oi.dst (.bx d 0) [(d,.box t vs)]=((st.res d (.box t vs)).put (some d) (.bx d 0)):=by rw [zCc,hd]
   refine .inl (zJU (K:=fun st'=>absAnyH X ops (frOf ops R) rd wr Q fuel (listed.setIfInBounds i true) st' /\ ∀ p∈R,(listed.setIfInBounds i true).getD p.1 true=false->Fresh st' p.2) ho hd hdl hc hfd (hfr _ (hR i oi t d hoi (.inl ho) hd) hiun) ?_ s w a hI _ _ hP fun st' s' w' a' hI' hK'=>go hI' hK')
   rw [<- hst]
   exact ⟨hK,hfr'⟩
  |lit0 hg ho hd hdl he hw hf =>
   rename_i t e by_ d
   rw [if_pos (zHS (by simp [gw,hg]) hI)]
   have hst:stp st oi.dst (.own d e []) [(d,.tok e 0)]=((st.res d (.tok e 0)).put (some d) (.own d e [])):=by rw [zCc,hd]
   refine .inl (opOk_lit0F (K:=fun st'=>absAnyH X ops (frOf ops R) rd wr Q fuel (listed.setIfInBounds i true) st' /\ ∀ p∈R,(listed.setIfInBounds i true).getD p.1 true=false->Fresh st' p.2) ho hd hdl he (hfr _ (hR i oi t d hoi (.inr ho) hd) hiun) ?_ s w a hI _ _ hP fun st' s' w' a' hI' hK'=>go hI' hK')
   rw [<- hst]
   exact ⟨hK,hfr'⟩
  |app hg hw ho he hleaf hx hr hy hp hf =>
   rename_i t e by_ k x y l l2
   rw [if_pos (zHS (by simp [gw,hg]) hI)]
   have hst:stp st oi.dst (.own k e (l++l2)) [(k,.tok e (l.length+l2.length))]=((st.res k (.tok e (l.length+l2.length))).put oi.dst (.own k e (l++l2))):=zCc
   refine .inl (zIL (K:=fun st'=>absAnyH X ops (frOf ops R) rd wr Q fuel (listed.setIfInBounds i true) st' /\ ∀ p∈R,(listed.setIfInBounds i true).getD p.1 true=false->Fresh st' p.2) ho he hleaf hx hr hy hp.1 hp.2 ?_ s w a hI _ _ hP fun st' s' w' a' hI' hK'=>go hI' hK')
   rw [<- hst]
   exact ⟨hK,hfr'⟩⟩
theorem aw_drawH (r w:List (Nat × List Nat)) (R:List (Nat × Nat)) {id:Nat} {l:List Oper} {K:Exit->Vst nn->Prop} (hm:X.P.follows .mixedOrders=true) (hB:Region.lexB .any l.toArray=true) (hN:zEH l.toArray (nmf r) (nmf w)=true)
 (hR : ∀ i o t d,l.toArray[i]? = some o->(o.op = .alloc t\/o.op = .buildSlice t 0 #[])->o.dst=some d->(i,d)∈R) (hF : ∀ p∈R,Fresh st p.2) (h:absLexH X l.toArray (frOf l.toArray R) (nmf r) (nmf w) (K .normal) 0 l st):AW X (.region id l.toArray true) st K:=fun s wd a hI=>by
 simp only [Region.lexB,Bool.and_eq_true] at hB
 have hlow : ∀ k,(Array.replicate l.toArray.size false).getD k false=false:=fun k=>by
  rw [Array.getD_eq_getD_getElem?,Array.getElem?_replicate]
  split<;>rfl
 refine wp_region_any hm (zDz R hR (rd:=nmf r) (wr:=nmf w) (Q:=K .normal) (fun pv st' s' w' a' hI' hp=>⟨st',s',hI',.inr ⟨pv,rfl,hp⟩⟩) (fun st' s' w' a' hI' hK=>⟨st',s',hI',.inl hK⟩) _ _ st s _ a (fun k o _ hk=>by rw [hlow k] at hk;cases hk) (fun p hp _=>hF p hp) hI.drew ?_)
 have:=zGC (X:=X) (fr:=frOf l.toArray R) (rd:=nmf r) (wr:=nmf w) (Q:=K .normal) hN l 0 (Array.replicate l.toArray.size false) st (by simp) (fun k o _ hk=>by rw [hlow k] at hk;cases hk) (fun j hj=>absurd hj (Nat.not_lt_zero j)) (by simp) (by simpa using hB.2) h
 simpa using this
def allocsB (ops:Array Oper) (R:List (Nat × Nat)):Bool:=(List.range ops.size).all fun i=>match ops[i]? with
 |some o=>(match o.op,o.dst with | .alloc _,some d=>R.contains (i,d) | .buildSlice _ _ _,some d=>R.contains (i,d) | _,_=>true)
 |none=>true
theorem allocsB_ok {R:List (Nat × Nat)} (h:allocsB ops R=true) : ∀ i o t d,ops[i]? = some o->(o.op = .alloc t\/o.op = .buildSlice t 0 #[])->o.dst=some d->(i,d)∈R:=fun i o t d hi ho hd=>by
 have:=List.all_eq_true.1 h i (List.mem_range.2 (Array.getElem?_eq_some_iff.1 hi).1)
 rw [hi] at this
 rcases ho with ho | ho
 . simp only [ho,hd] at this
   simpa using this
 . simp only [ho,hd] at this
   simpa using this
theorem zDT (r w:List (Nat × List Nat)) (R:List (Nat × Nat)) {id:Nat} {l:List Oper} {K:Exit->Vst nn->Prop} (hm:X.P.follows .mixedOrders=true) (hB:Region.lexB .any l.toArray=true) (hN:zEH l.toArray (nmf r) (nmf w)=true)
 (hA:allocsB l.toArray R=true) (hF : ∀ p∈R,Fresh st p.2) (h:absLexH X l.toArray (frOf l.toArray R) (nmf r) (nmf w) (K .normal) 0 l st):AW X (.region id l.toArray true) st K:=
 aw_drawH r w R hm hB hN (allocsB_ok hA) hF h
section
variable {l:List Oper} {Q:Vst nn->Prop} {d:Option Tmp} {k:Nat}
theorem h_nil (h:Q st):absLexH X ops fr rd wr Q k [] st:=h
theorem h_val {p:Prop} {v:V} (hg:o.guard=none) (hd:o.dst=d) (h:act1 X.P st.rs (ev st) o.op = .val p v) (hf:nfB (fr k) v []=true) (hK:absLexH X ops fr rd wr Q (k+1) l (st.put d v)) (hp:p) (hl:inO (rd k) (loads (ev st) o.op)=true):absLexH X ops fr rd wr Q k (o::l) st:=
 ⟨v,[],.old (.inl ⟨by simp [gw,hg],.val h hp hl⟩) hf,by rw [hd];exact hK⟩
theorem zEn {t:TypeId} {m:Nat} {vs:List V} (hg:o.guard=none) (ho:o.op = .alloc t) (hd:o.dst=some m) (hdl:Nat.ble m 999999=true) (hc:zFR X.P t=some vs) (hfd:freeL m vs=true) (hw:(wr k).contains m=true) (hf:nfB (fr k) (.bx m 0) [(m,.box t vs)]=true)
 (hK:absLexH X ops fr rd wr Q (k+1) l ((st.res m (.box t vs)).put (some m) (.bx m 0))):absLexH X ops fr rd wr Q k (o::l) st:=
 ⟨_,_,.alloc hg ho hd hdl hc hfd hw hf,by rw [zCc,hd];exact hK⟩
theorem zEm {t:TypeId} {x y:Operand} {m off:Nat} {t':TypeId} {vs xs:List V} (hg:o.guard=none) (ho:o.op = .store t x y) (hd:o.dst=none) (hx:ev st x = .bx m off) (hw:(wr k).contains m=true) (hr:st.rs m=some (.box t' vs)) (hc:cellsOf (ev st y)=some xs)
 (hs:X.P.cellsOf t=xs.length/\(X.P.info? t).isSome) (hl:Nat.ble (off+xs.length) vs.length=true) (hf:nfB (fr k) .any [(m,.box t' (splice vs off xs))]=true) (hK:absLexH X ops fr rd wr Q (k+1) l (st.res m (.box t' (splice vs off xs)))):absLexH X ops fr rd wr Q k (o::l) st:=
 ⟨_,_,.old (.inl ⟨by simp [gw,hg],.store hw ho hd hx hr hc hs (Nat.le_of_ble_eq_true hl)⟩) hf,by rw [hd,zCc];exact hK⟩
end
end
section
variable {X:Cx} {nn:Nat} {st:Vst nn} {ops:Array Oper} {o:Oper} {l:List Oper} {Q:Vst nn->Prop} {d:Option Tmp} {k:Nat} {fr rd wr:Nat->List Nat}
theorem h_call {f:FuncId} {args:List V} {r:V} (hg:o.guard=none) (hd:o.dst=d) (h:act1 X.P st.rs (ev st) o.op = .call f args) (hc:AC X.e X.P f (outL args) r) (hf:nfB (fr k) r []=true) (hK:absLexH X ops fr rd wr Q (k+1) l (st.put d r)):absLexH X ops fr rd wr Q k (o::l) st:=
 ⟨r,[],.old (.inl ⟨by simp [gw,hg],.call h hc⟩) hf,by rw [hd];exact hK⟩
end
end
section
open Go.RowKit
set_option linter.unusedSectionVars false
theorem at31 {i n:Nat} (h:i<n):0<=(i:Int)/\(i:Int)<(n:Int):=⟨Int.natCast_nonneg i,Int.ofNat_lt.2 h⟩
theorem zJs:Tryz.prog.cellsOf 9=1:=by kernel_rfl
theorem zKz {s:Sg} {w w':World} (hfx : ∀ b o,s.F b o->(w.cell? ⟨b,o,none⟩).isSome) (hb:Below w.heap.size w w') : ∀ b o,s.F b o->w'.cell? ⟨b,o,none⟩=w.cell? ⟨b,o,none⟩:=fun b o hF=>by
 obtain ⟨x,hx⟩:=Option.isSome_iff_exists.1 (hfx b o hF)
 exact hb.cell (p:=⟨b,o,none⟩) (block_lt_of_cell hx)
theorem cloneS_ac (E0:Ge) (l:List D) (hl:l.length*16<=140737488355328):AC E0 Tryz.prog 264 [.sl 9 l] (.sl 9 l):=by
 intro s w us hus hfx he
 obtain ⟨u,rfl,h⟩:=zC3 hus
 rw [rel] at h
 obtain ⟨k,A,c,rfl,h2,h3,h4,h5⟩:=h
 have hcl:=zJs
 cases A with
 |none =>
  have h0:l.length=0:=by have:=h4 rfl;omega
  refine (Tryz.slices_Clone_string_nil l.length c w).mono ?_
  rintro e w' ⟨rfl,rfl⟩
  refine ⟨_,s.F,rfl,Frm.refl _ _,Keeps.refl,hfx,fun _ _ _ h=>h,?_⟩
  rw [rel]
  exact ⟨1,none,0,by rw [h0],by omega,by decide,fun _=>rfl,fun h=>by omega⟩
 |some a =>
  by_cases h0:l.length=0
  . rw [h0]
    refine (Tryz.slices_Clone_string_zero a c w).mono ?_
    rintro e w' ⟨v',rfl,hown,hne,hb⟩
    obtain ⟨-,⟨rfl,-⟩ | ⟨g,cap,cur,rfl,q1,q2,q3,q4,q5,q6⟩⟩:=hown
    . exact (hne rfl).elim
    . have hc:=zKz hfx hb
      refine ⟨_,s.F,rfl,Frm.of_below hb,fun b o hF=>⟨hc b o hF,hF⟩,fun b o hF=>by rw [hc b o hF];exact hfx b o hF,fun _ _ _ h=>h,?_⟩
      rw [rel]
      exact ⟨1,_,cap,by rw [h0],by omega,q4,(fun h=>by cases h),fun h=>by omega⟩
  . obtain ⟨b,off,e1,hi⟩:=h5 (by omega) (by rw [hcl];omega)
    cases e1
    have hst : ∀ i,i<l.length->w.cell? ⟨b,off+i,none⟩=some (.string (gD l i).s)/\(gD l i).s.size<=maxLen:=fun i hil=>by
     obtain ⟨ys,y1,y2,y3⟩:=hi i hil
     cases k with
     |zero=>exact y3.elim
     |succ k =>
      unfold RepF at y3
      rw [show Tryz.prog.underlying 9=some .string by kernel_rfl] at y3
      obtain ⟨rfl,y4⟩:=y3
      have:=(y2 0 _ rfl).1
      rw [hcl] at this
      exact ⟨by simpa using this,y4⟩
    refine (Tryz.slices_Clone_string b off l.length c (l.map (·.s)) w (by simp) hl (fun j hj=>by
     rw [List.length_map] at hj
     rw [(hst j hj).1,List.getD_eq_getElem?_getD,List.getElem?_map,List.getElem?_eq_getElem hj,zAQ hj]
     rfl)).mono ?_
    rintro e w' ⟨v',rfl,hown,hne,hb⟩
    obtain ⟨-,⟨rfl,-⟩ | ⟨g,cap,cur,rfl,q1,q2,q3,q4,q5,q6⟩⟩:=hown
    . exact (hne rfl).elim
    . have hc:=zKz hfx hb
      have hcell : ∀ i,i<l.length->w'.cell? ⟨g,i,none⟩=some (.string (gD l i).s):=fun i hil=>by
       have hx:(cur.toList.take (l.length*1))[i]? = some (.string (gD l i).s):=by
        rw [q6]
        simp [List.getElem?_map,List.getElem?_eq_getElem hil,zAQ hil,hil]
       rw [List.getElem?_take] at hx
       have hx:cur.toList[i]? = some (.string (gD l i).s):=by rw [if_pos (by omega)] at hx;exact hx
       have hx:cur[i]? = some (.string (gD l i).s):=by simpa using hx
       simp [World.cell?,q2,hx]
      refine ⟨_,fun b o=>s.F b o\/(b=g/\o<l.length),rfl,Frm.of_below hb,fun b o hF=>⟨hc b o hF,.inl hF⟩,?_,?_,?_⟩
      . rintro b o (hF | ⟨rfl,ho⟩)
        . rw [hc b o hF];exact hfx b o hF
        . rw [hcell o ho];rfl
      . rintro b o hbl (hF | ⟨rfl,ho⟩)
        . exact hF
        . omega
      . rw [rel]
        refine ⟨1,_,cap,rfl,by omega,q4,(fun h=>by cases h),fun _ _=>⟨g,0,rfl,fun i hil=>⟨[.string (gD l i).s],hcl.symm,fun j u hj => ?_,?_⟩⟩⟩
        . rw [hcl]
          obtain rfl:j=0:=by
           cases j with
           |zero=>rfl
           |succ j=>simp at hj
          simp at hj
          subst hj
          refine ⟨?_,.inr ⟨rfl,by omega⟩⟩
          have:=hcell i hil
          simpa using this
        . unfold RepF
          rw [show Tryz.prog.underlying 9=some .string by kernel_rfl]
          exact ⟨rfl,(hst i hil).2⟩
attribute [local irreducible] wpList Calls Code.wp AW AWo OpOk seqK zAG zAP loopK endK AC zt Yld Sub
attribute [local irreducible] ACB ACX ACE absLexG YldG absLexH
theorem zLC:zAB Tryz.prog 82=some (84,80):=by kernel_rfl
noncomputable def HCp (l:List D) (i:Nat):Vst 19:=stS 19 [(3,.own 3 84 (l.take i)),(6,.sl 84 l),(7,.c (.int .i64 (l.length:Nat))),(8,.c (.int .i64 (i:Int)))] [(3,.tok 84 (l.take i).length)]
theorem copies_of (E0:Ge) (l:List D) (hl:l.length<=1759218604441) (hc : ∀ i,i<l.length->AC E0 Tryz.prog 190 [.agg (cellsV Tryz.prog 12 84 (gD l i))] (.agg (cellsV Tryz.prog 12 84 (gD l i)))) :
 AC E0 Tryz.prog 263 [.sl 84 l] (.sl 84 l):=by
 refine zG 19 Tryz.func263 rfl rfl rfl rfl ?_
 intro s w he
 repeat' (first
|refine zA0 ?_
|refine zB ?_
|refine zC ?_
|refine zI ?_
|refine zCn ?_
|apply zCf rfl
 . conv=>lhs;whnf
 . conv=>lhs;whnf;arg 2;whnf
|exact trivial)
 refine zf (Sub.own (t:=3) (e:=84) rfl rfl) ?_
 refine zi (fun j st => ∃ i,i+j=l.length/\Sub (cx E0 Tryz.prog s w he) st (HCp l i)) l.length ⟨0,by omega,Sub.live ⟨rfl,rfl,rfl,rfl,trivial⟩ ⟨rfl,trivial⟩⟩ ?_
 rintro j st ⟨i,hij,hs2⟩
 refine zf hs2 ?_
 clear hs2
 by_cases hi:i<l.length
 . have f0:decide ((i:Int)<(l.length:Nat))=true:=decide_eq_true (by omega)
   have h1:=hc i hi
   have htk:(l.take i).length=i:=by rw [List.length_take];omega
   repeat' (first
|apply zAc [gD l i] rfl rfl
 . conv=>lhs;whnf
 . first | exact zLC | (conv=>lhs;whnf;arg 1;whnf)
 . rfl
 . rfl
 . repeat' (first | exact trivial | apply And.intro | rfl)
|apply zM
 . conv=>lhs;whnf
 . assumption
|refine zA0 ?_
|refine zB ?_
|refine zC ?_
|refine zI ?_
|refine zY ?_
|refine zCn ?_
|refine zCU ?_
|apply zCf rfl
 . conv=>lhs;whnf
 . conv=>lhs;whnf;arg 2;whnf
|apply zd rfl
 . conv=>lhs;whnf
 . conv=>lhs;whnf
 . first | exact h1
|apply zBS rfl rfl rfl rfl
 . conv=>lhs;whnf;arg 1;whnf
 . rfl
|apply zX rfl rfl rfl
 . conv=>lhs;whnf
 . conv=>lhs;whnf;arg 1;whnf
 . conv=>lhs;whnf;arg 1;whnf
 . exact ⟨by kernel_rfl,by kernel_rfl⟩
 . rfl
|apply zCD rfl rfl
 . conv=>lhs;whnf
 . first | exact zLC | (conv=>lhs;whnf;arg 1;whnf)
 . first | exact fun _=>rfl | (intro _;kernel_rfl)
 . conv=>lhs;whnf
 . conv=>lhs;whnf;arg 1;whnf
 . conv=>lhs;whnf
|exact trivial)
   all_goals first
    |exact za (by omega)
    |exact at31 hi
    |(refine ⟨by simp,?_,?_⟩<;>simp only [List.length_cons,List.length_nil,maxLen,htk]<;>omega)
    |skip
   refine zE (j':=j-1) (by omega) ⟨i+1,by omega,Sub.live ⟨?_,rfl,rfl,rfl,trivial⟩ ⟨?_,trivial⟩⟩
   . show V.own 3 _ (l.take i++[gD l i])=V.own 3 _ (l.take (i+1))
     rw [List.take_add_one,List.getElem?_eq_getElem hi,zAQ hi];rfl
   . show some (Res.tok _ ((l.take i).length+1))=some (Res.tok _ (l.take (i+1)).length)
     rw [htk,List.length_take,show min (i+1) l.length=i+1 by omega]
 . have f0:decide ((i:Int)<(l.length:Nat))=false:=decide_eq_false (by omega)
   repeat' (first
|apply zH
 . conv=>lhs;whnf
 . assumption
|refine zA0 ?_
|refine zB ?_
|refine zC ?_
|refine zI ?_
|apply zCf rfl
 . conv=>lhs;whnf
 . conv=>lhs;whnf;arg 2;whnf
|refine zCA ?_
|refine zJ0 ?_
|refine zN ?_
|refine zJ rfl ?_
|refine zK ?_
|refine zD ?_
|refine ⟨_,by conv=>lhs;whnf;arg 2;whnf,?_⟩;conv=>rhs;whnf
|exact trivial)
   rw [List.take_of_length_le (by omega)]
theorem copy_ac (E0:Ge) : ∀ (k:Nat) (d:D),CpV k d->AC E0 Tryz.prog 190 [.agg (cellsV Tryz.prog 12 84 d)] (.agg (cellsV Tryz.prog 12 84 d))
 |0,_,h=>h.elim
 |k+1,d,h=>by
  have h1:=copies_of E0 (d.f 3).l h.1 fun i hi=>copy_ac E0 k _ (h.2.2 i hi)
  have h2:=cloneS_ac E0 (d.f 4).l (by have:=h.2.1;omega)
  refine zG 12 Tryz.func190 rfl rfl rfl rfl ?_
  intro s w he
  repeat' (first
|refine zA0 ?_
|refine zB ?_
|refine zC ?_
|refine zI ?_
|apply zCf rfl
 . conv=>lhs;whnf
 . conv=>lhs;whnf;arg 2;whnf
|apply zd rfl
 . conv=>lhs;whnf
 . conv=>lhs;whnf
 . first | exact h1 | exact h2
|apply zAE rfl rfl rfl rfl
 . conv=>lhs;whnf;arg 1;whnf
 . rfl
|apply zBS rfl rfl rfl rfl
 . conv=>lhs;whnf;arg 1;whnf
 . rfl
|apply zX rfl rfl rfl
 . conv=>lhs;whnf
 . conv=>lhs;whnf;arg 1;whnf
 . conv=>lhs;whnf;arg 1;whnf
 . exact ⟨by kernel_rfl,by kernel_rfl⟩
 . rfl
|refine zCA ?_
|refine zD ?_
|refine ⟨_,by conv=>lhs;whnf;arg 2;whnf,?_⟩;conv=>rhs;whnf
|exact trivial)
  rfl
end
section
open Go.RowKit
set_option linter.unusedSectionVars false
attribute [local irreducible] wpList Calls Code.wp AW AWo OpOk seqK zAG zAP loopK endK AC zt Yld Sub
attribute [local irreducible] ACB ACX ACE absLexG YldG absLexH
theorem txtP_ac (E0:Ge) (s:ByteArray):AC E0 Tryz.prog 170 [.c (.string s)] (.agg (cellsV Tryz.prog 12 84 (vD31 3 0 s))):=by
 refine AC.res ?_ (zKl 3 0 s)
 refine zG 5 Tryz.func170 rfl rfl rfl rfl ?_
 intro w0 w he
 repeat' (first
|refine zA0 ?_
|refine zB ?_
|refine zC ?_
|refine zI ?_
|apply zCf rfl
 . conv=>lhs;whnf
 . conv=>lhs;whnf;arg 2;whnf
|apply zBS rfl rfl rfl rfl
 . conv=>lhs;whnf;arg 1;whnf
 . rfl
|apply zX rfl rfl rfl
 . conv=>lhs;whnf
 . conv=>lhs;whnf;arg 1;whnf
 . conv=>lhs;whnf;arg 1;whnf
 . exact ⟨by kernel_rfl,by kernel_rfl⟩
 . rfl
|refine zCA ?_
|refine zD ?_
|refine ⟨_,by conv=>lhs;whnf;arg 2;whnf,?_⟩;conv=>rhs;whnf
|exact trivial)
 rfl
theorem intP_ac (E0:Ge) (n:Int):AC E0 Tryz.prog 248 [.c (.int .i64 n)] (.agg (cellsV Tryz.prog 12 84 (vD31 2 n ⟨#[]⟩))):=by
 refine AC.res ?_ (zKl 2 n ⟨#[]⟩)
 refine zG 5 Tryz.func248 rfl rfl rfl rfl ?_
 intro w0 w he
 repeat' (first
|refine zA0 ?_
|refine zB ?_
|refine zC ?_
|refine zI ?_
|apply zCf rfl
 . conv=>lhs;whnf
 . conv=>lhs;whnf;arg 2;whnf
|apply zBS rfl rfl rfl rfl
 . conv=>lhs;whnf;arg 1;whnf
 . rfl
|apply zX rfl rfl rfl
 . conv=>lhs;whnf
 . conv=>lhs;whnf;arg 1;whnf
 . conv=>lhs;whnf;arg 1;whnf
 . exact ⟨by kernel_rfl,by kernel_rfl⟩
 . rfl
|refine zCA ?_
|refine zD ?_
|refine ⟨_,by conv=>lhs;whnf;arg 2;whnf,?_⟩;conv=>rhs;whnf
|exact trivial)
 rfl
theorem zAo:zAB Tryz.prog 69=some (86,96):=by kernel_rfl
theorem z8:zAB Tryz.prog 55=some (76,128):=by kernel_rfl
noncomputable def fdpV (A:List D) (sub:ByteArray->List D->List D) (p:D) (b0 b1:Bool):V:=
 .agg [.c (.int .i64 1),.c (.string (bif b0 then (p.f 0).s else ⟨#[]⟩)),.c (.string (p.f 2).s),.c (.string ⟨#[]⟩),.sl 86 A,
  bif b1 then .sl 150 [zBP (p.f 6).n] else .c (.slice none 0 0),.sl 76 (sub ((p.f 4).f 0).s (p.f 7).l)]
theorem fdpV_le (sub:ByteArray->List D->List D) (p:D) {b0 b1:Bool} (h0:(!(p.f 0).s.toList==(p.f 2).s.toList)=b0) (h1:((p.f 6).n != -1)=b1):VLe (fdpV (p.f 3).l sub p b0 b1) (.agg (cellsV Tryz.prog 12 76 (zBi sub p))):=by
 have e0:(if (p.f 0).s.toList==(p.f 2).s.toList then (⟨#[]⟩:ByteArray) else (p.f 0).s)=bif b0 then (p.f 0).s else ⟨#[]⟩:=by
  subst h0
  cases (p.f 0).s.toList==(p.f 2).s.toList<;>rfl
 have e:cellsV Tryz.prog 12 76 (zBi sub p)=[.c (.int .i64 1),.c (.string (if (p.f 0).s.toList==(p.f 2).s.toList then ⟨#[]⟩ else (p.f 0).s)),.c (.string (p.f 2).s),.c (.string ⟨#[]⟩),.sl 86 (p.f 3).l,.sl 150 (if (p.f 6).n = -1 then [] else [zBP (p.f 6).n]),.sl 76 (sub ((p.f 4).f 0).s (p.f 7).l)]:=rfl
 rw [e,e0]
 unfold fdpV
 by_cases hn:(p.f 6).n = -1
 . have:b1=false:=by rw [<- h1,hn];rfl
   subst this
   rw [if_pos hn]
   exact .agg (.cons (.refl _) (.cons (.refl _) (.cons (.refl _) (.cons (.refl _) (.cons (.refl _) (.cons (.nil _) (.cons (.refl _) .nil)))))))
 . have:b1=true:=by rw [<- h1];simpa using hn
   subst this
   rw [if_neg hn]
   exact .agg (.cons (.refl _) (.cons (.refl _) (.cons (.refl _) (.cons (.refl _) (.cons (.refl _) (.cons (.refl _) (.cons (.refl _) .nil)))))))
noncomputable def HFd (p:D) (al:ByteArray) (sels:List D) (i:Nat):Vst 56:=
 stS 56 [(1,.bx 1 0),(2,.bx 2 0),(3,.bx 3 0),(24,.sl 86 (p.f 3).l),(25,.c (.int .i64 ((p.f 3).l.length:Nat))),(26,.c (.int .i64 (i:Int)))]
  [(1,.box 73 (cellsV Tryz.prog 12 73 p)),(2,.box 76 [.c (.int .i64 0),.c (.string ⟨#[]⟩),.c (.string ⟨#[]⟩),.c (.string ⟨#[]⟩),.c (.slice none 0 0),.c (.slice none 0 0),.c (.slice none 0 0)]),
   (3,.box 76 [.c (.int .i64 1),.c (.string al),.c (.string (p.f 2).s),.c (.string ⟨#[]⟩),.own 900 86 ((p.f 3).l.take i),.c (.slice none 0 0),.sl 76 sels]),(900,.tok 86 ((p.f 3).l.take i).length)]
noncomputable def HF0 (p:D):Vst 56:=
 stS 56 [(1,.bx 1 0),(2,.bx 2 0)] [(1,.box 73 (cellsV Tryz.prog 12 73 p)),(2,.box 76 [.c (.int .i64 0),.c (.string ⟨#[]⟩),.c (.string ⟨#[]⟩),.c (.string ⟨#[]⟩),.c (.slice none 0 0),.c (.slice none 0 0),.c (.slice none 0 0)])]
theorem fieldP_ac (E0:Ge) (sub:ByteArray->List D->List D) (p:D) (ha:CpA (p.f 3).l)
 (hs:AC E0 Tryz.prog 87 [.sl 73 (p.f 7).l,.c (.string ((p.f 4).f 0).s)] (.sl 76 (sub ((p.f 4).f 0).s (p.f 7).l))) :
 AC E0 Tryz.prog 169 [.agg (cellsV Tryz.prog 12 73 p)] (.agg (cellsV Tryz.prog 12 76 (zBi sub p))):=by
 have hcp:=fun i (hi:i<(p.f 3).l.length)=>copy_ac E0 _ _ (ha.2 i hi).choose_spec
 have hln:=ha.1
 have ht:=txtP_ac E0 ⟨#[115]⟩
 have hn:=intP_ac E0 (p.f 6).n
 rcases h0:(!(p.f 0).s.toList==(p.f 2).s.toList) with _ | _<;>rcases h1:((p.f 6).n != -1) with _ | _
 let al:ByteArray:=⟨#[]⟩
 rotate_left 1
 let al:ByteArray:=⟨#[]⟩
 rotate_left 1
 let al:ByteArray:=(p.f 0).s
 rotate_left 1
 let al:ByteArray:=(p.f 0).s
 rotate_left 1
 all_goals
  refine AC.res ?_ (fdpV_le sub p h0 h1)
  refine zG 56 Tryz.func169 rfl rfl rfl rfl ?_
  intro s w he
  repeat' (first
|apply zDT ([(1,[1]),(3,[1]),(6,[1])]) ([(9,[3]),(10,[3])]) ([(9,3)]) rfl (by kernel_rfl) (by kernel_rfl) (by kernel_rfl) (by intro p hp;simp only [List.mem_cons,List.not_mem_nil,or_false] at hp;rcases hp with rfl<;>(repeat' (first | exact fresh_S rfl | refine fresh_put ?_ rfl | refine fresh_res ?_ rfl rfl)))
|apply h_nil
|apply zEn rfl rfl rfl rfl
 . conv=>lhs;whnf;arg 1;whnf
 . rfl
 . rfl
 . kernel_rfl
|apply h_val rfl
 . conv=>lhs;whnf
 . conv=>lhs;whnf;arg 2;whnf
 . kernel_rfl
|apply zEm rfl rfl rfl
 . conv=>lhs;whnf
 . rfl
 . conv=>lhs;whnf;arg 1;whnf
 . conv=>lhs;whnf;arg 1;whnf
 . exact ⟨by kernel_rfl,by kernel_rfl⟩
 . rfl
 . kernel_rfl
|apply h_call rfl
 . conv=>lhs;whnf
 . conv=>lhs;whnf
 . first | exact hs
 . kernel_rfl
|show inO _ _=true;rfl
|apply zM
 . conv=>lhs;whnf
 . assumption
|apply zH
 . conv=>lhs;whnf
 . assumption
|apply zAW 1 (HF0 p) rfl
|refine zEj ?_
|refine zA0 ?_
|refine zB ?_
|refine zC ?_
|refine zI ?_
|refine zCn ?_
|refine zCU ?_
|apply zCf rfl
 . conv=>lhs;whnf
 . conv=>lhs;whnf;arg 2;whnf
|apply zAE rfl rfl rfl rfl
 . conv=>lhs;whnf;arg 1;whnf
 . rfl
|apply zBS rfl rfl rfl rfl
 . conv=>lhs;whnf;arg 1;whnf
 . rfl
|apply zX rfl rfl rfl
 . conv=>lhs;whnf
 . conv=>lhs;whnf;arg 1;whnf
 . conv=>lhs;whnf;arg 1;whnf
 . exact ⟨by kernel_rfl,by kernel_rfl⟩
 . rfl
|exact trivial)
  . exact Sub.live ⟨rfl,rfl,trivial⟩ ⟨rfl,rfl,trivial⟩
  refine zf (Sub.ownF (m:=3) (q:=900) (i:=4) (e:=86) rfl (by decide) rfl rfl rfl) ?_
  refine zi (fun j st => ∃ i,i+j=(p.f 3).l.length/\Sub (cx E0 Tryz.prog s w he) st (HFd p al (sub ((p.f 4).f 0).s (p.f 7).l) i)) (p.f 3).l.length ⟨0,by omega,Sub.live ⟨rfl,rfl,rfl,rfl,rfl,rfl,trivial⟩ ⟨rfl,rfl,rfl,rfl,trivial⟩⟩ ?_
  rintro j st ⟨i,hij,hs2⟩
  refine zf hs2 ?_
  clear hs2
  by_cases hi:i<(p.f 3).l.length
  . have f0:decide ((i:Int)<((p.f 3).l.length:Nat))=true:=decide_eq_true (by omega)
    have h2:=hcp i hi
    have htk:((p.f 3).l.take i).length=i:=by rw [List.length_take];omega
    repeat' (first
|apply zBk 12 ([(1,[3]),(3,[5]),(5,[5])]) ([(9,[900]),(11,[3])]) rfl (by kernel_rfl) (by kernel_rfl) (by kernel_rfl)
|apply zDn
|apply zDm rfl
 . conv=>lhs;whnf
 . conv=>lhs;whnf;arg 2;whnf
|apply zE3 rfl
 . conv=>lhs;whnf
 . conv=>lhs;whnf
 . first | exact h2
|apply zJg rfl rfl
 . conv=>lhs;whnf
 . first | exact zAo | (conv=>lhs;whnf;arg 1;whnf)
 . first | exact fun _=>rfl | (intro _;kernel_rfl)
 . conv=>lhs;whnf
 . rfl
 . conv=>lhs;whnf;arg 1;whnf
 . conv=>lhs;whnf
|apply zB6 rfl rfl rfl
 . conv=>lhs;whnf
 . rfl
 . conv=>lhs;whnf;arg 1;whnf
 . conv=>lhs;whnf;arg 1;whnf
 . exact ⟨by kernel_rfl,by kernel_rfl⟩
 . rfl
|show inO _ _=true;rfl
|apply zDo [gD (p.f 3).l i] rfl rfl
 . conv=>lhs;whnf
 . first | exact zAo | (conv=>lhs;whnf;arg 1;whnf)
 . rfl
 . rfl
 . repeat' (first | exact trivial | apply And.intro | rfl)
|apply zM
 . conv=>lhs;whnf
 . assumption
|refine zA0 ?_
|refine zB ?_
|refine zC ?_
|refine zI ?_
|refine zY ?_
|refine zCn ?_
|refine zCU ?_
|apply zCf rfl
 . conv=>lhs;whnf
 . conv=>lhs;whnf;arg 2;whnf
|apply zBS rfl rfl rfl rfl
 . conv=>lhs;whnf;arg 1;whnf
 . rfl
|apply zX rfl rfl rfl
 . conv=>lhs;whnf
 . conv=>lhs;whnf;arg 1;whnf
 . conv=>lhs;whnf;arg 1;whnf
 . exact ⟨by kernel_rfl,by kernel_rfl⟩
 . rfl
|exact trivial)
    all_goals first
     |exact za (by omega)
     |exact at31 hi
     |(refine ⟨by simp,?_,?_⟩<;>simp only [List.length_cons,List.length_nil,maxLen,htk]<;>omega)
     |skip
    have e1:(p.f 3).l.take (i+1)=(p.f 3).l.take i++[gD (p.f 3).l i]:=by rw [List.take_add_one,List.getElem?_eq_getElem hi,zAQ hi];rfl
    refine zE (j':=j-1) (by omega) ⟨i+1,by omega,Sub.live ⟨rfl,rfl,rfl,rfl,rfl,rfl,trivial⟩ ⟨rfl,rfl,?_,?_,trivial⟩⟩
    . rw [e1];rfl
    . rw [e1,List.length_append];rfl
  . have f0:decide ((i:Int)<((p.f 3).l.length:Nat))=false:=decide_eq_false (by omega)
    have e1:(p.f 3).l.take i=(p.f 3).l:=List.take_of_length_le (by omega)
    repeat' (first
|apply zGf (.agg (cellsV Tryz.prog 12 86 (sArg ⟨#[108,97,98,101,108]⟩ (vD31 3 0 ⟨#[115]⟩)))) rfl rfl
 . conv=>lhs;whnf;arg 2;whnf
 . repeat' (first | exact VLe.refl _ | exact VLe.nil _ | exact VLe.lit _ _ | exact VLe.own _ _ _ | apply VLe.agg | apply VLeL.cons | exact VLeL.nil)
|apply zGf (.agg (cellsV Tryz.prog 12 86 (sArg ⟨#[105,110,105,116,105,97,108,67,111,117,110,116]⟩ (vD31 2 (p.f 6).n ⟨#[]⟩)))) rfl rfl
 . conv=>lhs;whnf;arg 2;whnf
 . repeat' (first | exact VLe.refl _ | exact VLe.nil _ | exact VLe.lit _ _ | exact VLe.own _ _ _ | apply VLe.agg | apply VLeL.cons | exact VLeL.nil)
|apply zGf (.agg (cellsV Tryz.prog 12 150 (zBP (p.f 6).n))) rfl rfl
 . conv=>lhs;whnf;arg 2;whnf
 . repeat' (first | exact VLe.refl _ | exact VLe.nil _ | exact VLe.lit _ _ | exact VLe.own _ _ _ | apply VLe.agg | apply VLeL.cons | exact VLeL.nil)
|apply zBk 11 ([(3,[1])]) ([(10,[3])]) rfl (by kernel_rfl) (by kernel_rfl) (by kernel_rfl)
|apply zDn
|apply zDm rfl
 . conv=>lhs;whnf
 . conv=>lhs;whnf;arg 2;whnf
|apply zE3 rfl
 . conv=>lhs;whnf
 . conv=>lhs;whnf
 . first | exact ht | exact hn
|apply zB6 rfl rfl rfl
 . conv=>lhs;whnf
 . rfl
 . conv=>lhs;whnf;arg 1;whnf
 . conv=>lhs;whnf;arg 1;whnf
 . exact ⟨by kernel_rfl,by kernel_rfl⟩
 . rfl
|show inO _ _=true;rfl
|apply zDo [sArg ⟨#[108,97,98,101,108]⟩ (vD31 3 0 ⟨#[115]⟩),sArg ⟨#[105,110,105,116,105,97,108,67,111,117,110,116]⟩ (vD31 2 (p.f 6).n ⟨#[]⟩)] rfl rfl
 . conv=>lhs;whnf
 . first | (conv=>lhs;whnf;arg 1;whnf)
 . rfl
 . rfl
 . repeat' (first | exact trivial | apply And.intro | rfl)
|apply zDo [zBP (p.f 6).n] rfl rfl
 . conv=>lhs;whnf
 . first | (conv=>lhs;whnf;arg 1;whnf)
 . rfl
 . rfl
 . repeat' (first | exact trivial | apply And.intro | rfl)
|apply zM
 . conv=>lhs;whnf
 . assumption
|apply zH
 . conv=>lhs;whnf
 . assumption
|refine zA0 ?_
|refine zB ?_
|refine zC ?_
|refine zI ?_
|refine zCU ?_
|apply zCf rfl
 . conv=>lhs;whnf
 . conv=>lhs;whnf;arg 2;whnf
|apply zX rfl rfl rfl
 . conv=>lhs;whnf
 . conv=>lhs;whnf;arg 1;whnf
 . conv=>lhs;whnf;arg 1;whnf
 . exact ⟨by kernel_rfl,by kernel_rfl⟩
 . rfl
|refine zCA ?_
|refine zJ0 ?_
|refine zN ?_
|refine zJ rfl ?_
|refine zK ?_
|refine zD ?_
|refine ⟨_,by conv=>lhs;whnf;arg 2;whnf,?_⟩;conv=>rhs;whnf
|exact trivial)
    all_goals exact (congrArg (fun A=>fdpV A sub p _ _) e1.symm).trans rfl
theorem zCv {b:Bool} (h:b=true):(b==true)=true:=by rw [h];rfl
theorem zFA {b:Bool} (h:b=false):(b==true)=false:=by rw [h];rfl
theorem zJX (s:ByteArray):(s.toList==(⟨#[]⟩:ByteArray).toList)=(s.toList==[]):=by rw [Lib.toList_data (⟨#[]⟩:ByteArray)]
noncomputable def HSo31 (on:ByteArray) (l acc:List D) (i:Nat):Vst 88:=
 stS 88 [(0,.sl 73 l),(1,.c (.string on)),(5,.own 5 76 acc),(6,.c (.int .i64 (i:Int)))] [(5,.tok 76 acc.length)]
noncomputable def inlV (p:D) (b:Bool) (g:List D):List V:=
 [.c (.int .i64 3),.c (.string ⟨#[]⟩),.c (.string ⟨#[]⟩),.c (.string (p.f 1).s),.c (.slice none 0 0),bif b then .lit 150 [zCs (p.f 5).s] else .c (.slice none 0 0),.own 901 76 g]
noncomputable def HSi31 (on:ByteArray) (l acc:List D) (p:D) (b:Bool) (g:List D) (i:Nat):Vst 88:=
 stS 88 [(0,.sl 73 l),(1,.c (.string on)),(5,.own 5 76 acc),(6,.c (.int .i64 (i:Int))),(7,.bx 7 0),(8,.bx 8 0)]
  [(5,.tok 76 acc.length),(7,.box 73 (cellsV Tryz.prog 12 73 p)),(8,.box 76 (inlV p b g)),(901,.tok 76 g.length)]
def inlB (b:Bool) (p:D) (fs:List D):D:=sD31 3 ⟨#[]⟩ ⟨#[]⟩ (p.f 1).s [] (bif b then [zCs (p.f 5).s] else []) fs
theorem zEk {b:Bool} {p:D} (fs:List D) (h:(((p.f 5).s.toList==(⟨#[]⟩:ByteArray).toList)) = !b):inlD p fs=inlB b p fs:=by
 rw [zJX] at h
 unfold inlD inlB
 rw [h]
 cases b<;>rfl
theorem zGT (E0:Ge) (f:D->D) (on:ByteArray) (l:List D) (hl:l.length<=60)
 (hf : ∀ i,i<l.length->AC E0 Tryz.prog 169 [.agg (cellsV Tryz.prog 12 73 (gD l i))] (.agg (cellsV Tryz.prog 12 76 (f (gD l i))))) :
 AC E0 Tryz.prog 87 [.sl 73 l,.c (.string on)] (.sl 76 (selsI f on l l.length 0)):=by
 generalize hR:selsI f on l l.length 0=R
 refine zG 88 Tryz.func87 rfl rfl rfl rfl ?_
 intro s w he
 repeat' (first
|refine zB ?_
|refine zC ?_
|refine zI ?_
|apply aw_1
 conv=>whnf
 refine ⟨?_,trivial⟩
|apply s_1
 conv=>whnf;arg 1;arg 4;arg 3;whnf
 refine ⟨?_,?_⟩
|exact trivial)
 refine zf (Sub.own (t:=5) (e:=76) rfl rfl) ?_
 refine zi (fun n st => ∃ i acc j,acc++selsI f on l j i=R/\n+i=l.length/\l.length<=i+j/\acc.length<=i/\Sub (cx E0 Tryz.prog s w he) st (HSo31 on l acc i)) l.length ⟨0,[],l.length,hR,by omega,by omega,Nat.le_refl _,Sub.live ⟨rfl,rfl,rfl,rfl,trivial⟩ ⟨rfl,trivial⟩⟩ ?_
 clear hR
 rintro n st ⟨i,acc,j,hR,hn,hj,hac,hs2⟩
 refine zf hs2 ?_
 clear hs2
 by_cases hi:i<l.length
 rotate_left 1
 . have f0:decide ((i:Int)<(l.length:Nat))=false:=decide_eq_false (by omega)
   rw [zCX hi,List.append_nil] at hR
   subst hR
   repeat' (first
|apply zH
 . conv=>lhs;whnf
 . assumption
|refine zB ?_
|refine zC ?_
|refine zI ?_
|apply aw_1
 conv=>whnf
 refine ⟨?_,trivial⟩
|apply s_1
 conv=>whnf;arg 1;arg 4;arg 3;whnf
 refine ⟨?_,?_⟩
|refine zN ?_
|refine zJ rfl ?_
|refine zK ?_
|refine zD ?_
|refine ⟨_,by conv=>lhs;whnf;arg 2;whnf,?_⟩;conv=>rhs;whnf
|exact trivial)
 have f0:decide ((i:Int)<(l.length:Nat))=true:=decide_eq_true (by omega)
 obtain ⟨j,rfl⟩ : ∃ q,j=q+1:=⟨j-1,by omega⟩
 have hfi:=hf i hi
 have hpp:zB2 on (gD l i)=(((gD l i).f 1).s.toList==on.toList&&((gD l i).f 5).s.toList==(⟨#[]⟩:ByteArray).toList):=by unfold zB2;rw [zJX]
 have htx:=txtP_ac E0 ((gD l i).f 5).s
 rcases h1:((gD l i).f 1).s.toList==on.toList with _ | _<;>rcases h2:((gD l i).f 5).s.toList==(⟨#[]⟩:ByteArray).toList with _ | _
 all_goals
  have g1:=h1
  have g2:=h2
  rw [h1,h2] at hpp
 rotate_left 3
 . have g1:=zCv h1
   rw [zBQ hi hpp] at hR
   repeat' (first
|apply zAc [f (gD l i)] rfl rfl
 . conv=>lhs;whnf
 . first | exact z8 | (conv=>lhs;whnf;arg 1;whnf)
 . rfl
 . rfl
 . repeat' (first | exact trivial | apply And.intro | rfl)
|apply zM
 . conv=>lhs;whnf
 . assumption
|refine zB ?_
|refine zC ?_
|refine zI ?_
|apply aw_1
 conv=>whnf
 refine ⟨?_,trivial⟩
|apply ze rfl rfl
 . conv=>lhs;whnf
 . conv=>lhs;whnf
 . first | exact bT1 ‹_› | exact bT2 ‹_›
|apply s_1
 conv=>whnf;arg 1;arg 4;arg 3;whnf
 refine ⟨?_,?_⟩
|apply zd rfl
 . conv=>lhs;whnf
 . conv=>lhs;whnf
 . first | exact hfi
|apply zX rfl rfl rfl
 . conv=>lhs;whnf
 . conv=>lhs;whnf;arg 1;whnf
 . conv=>lhs;whnf;arg 1;whnf
 . exact ⟨by kernel_rfl,by kernel_rfl⟩
 . rfl
|apply zCD rfl rfl
 . conv=>lhs;whnf
 . first | exact z8 | (conv=>lhs;whnf;arg 1;whnf)
 . first | exact fun _=>rfl | (intro _;kernel_rfl)
 . conv=>lhs;whnf
 . conv=>lhs;whnf;arg 1;whnf
 . conv=>lhs;whnf
|apply zF rfl
 . conv=>lhs;whnf
 . conv=>lhs;whnf
 . first | rfl | assumption
 . conv=>lhs;whnf;arg 2;whnf
|refine zN ?_
|refine zJ rfl ?_
|exact trivial)
   all_goals first
    |exact za (by omega)
    |exact at31 hi
    |(refine ⟨by simp,?_,?_⟩<;>simp only [List.length_cons,List.length_nil,maxLen]<;>omega)
    |skip
   refine zE (j':=n-1) (by omega) ⟨i+1,acc++[f (gD l i)],j,by rw [List.append_assoc];exact hR,by omega,by omega,by rw [List.length_append];simp only [List.length_cons,List.length_nil];omega,Sub.live ⟨rfl,rfl,rfl,rfl,trivial⟩ ⟨?_,trivial⟩⟩
   rw [List.length_append];rfl
 all_goals
  rw [zCW hi hpp] at hR
  have hgp:=zKx (f:=f) (l:=l) (i:=i) hi
  have hgi:=zJf (f:=f) (l:=l) (p:=gD l i) (k:=l.length) (i:=i) (by omega)
  generalize hG:grpI f l (gD l i) l.length i=G at *
 let bb:=true
 have hd:(!((gD l i).f 5).s.toList==(⟨#[]⟩:ByteArray).toList)=true:=by rw [h2];rfl
 rw [zEk (b:=bb) G (by rw [h2];rfl)] at hR
 have g1:=zFA h1
 rotate_left 1
 let bb:=false
 have hd:(!((gD l i).f 5).s.toList==(⟨#[]⟩:ByteArray).toList)=false:=by rw [h2];rfl
 rw [zEk (b:=bb) G (by rw [h2];rfl)] at hR
 have g1:=zFA h1
 rotate_left 1
 let bb:=true
 have hd:(!((gD l i).f 5).s.toList==(⟨#[]⟩:ByteArray).toList)=true:=by rw [h2];rfl
 rw [zEk (b:=bb) G (by rw [h2];rfl)] at hR
 have g1:=zCv h1
 rotate_left 1
 all_goals
  repeat' (first
|apply z7 ((.agg (cellsV Tryz.prog 12 86 (sArg ⟨#[108,97,98,101,108]⟩ (vD31 3 0 ((gD l i).f 5).s))))) rfl rfl
 . conv=>lhs;whnf;arg 2;whnf
 . repeat' (first | exact VLe.refl _ | exact VLe.nil _ | exact VLe.lit _ _ | exact VLe.own _ _ _ | apply VLe.agg | apply VLeL.cons | exact VLeL.nil)
|apply z7 ((.agg (cellsV Tryz.prog 12 150 (zCs ((gD l i).f 5).s)))) rfl rfl
 . conv=>lhs;whnf;arg 2;whnf
 . repeat' (first | exact VLe.refl _ | exact VLe.nil _ | exact VLe.lit _ _ | exact VLe.own _ _ _ | apply VLe.agg | apply VLeL.cons | exact VLeL.nil)
|apply zAc [sArg ⟨#[108,97,98,101,108]⟩ (vD31 3 0 ((gD l i).f 5).s)] rfl rfl
 . conv=>lhs;whnf
 . first | exact z8 | (conv=>lhs;whnf;arg 1;whnf)
 . rfl
 . rfl
 . repeat' (first | exact trivial | apply And.intro | rfl)
|apply zAc [zCs ((gD l i).f 5).s] rfl rfl
 . conv=>lhs;whnf
 . first | exact z8 | (conv=>lhs;whnf;arg 1;whnf)
 . rfl
 . rfl
 . repeat' (first | exact trivial | apply And.intro | rfl)
|apply zM
 . conv=>lhs;whnf
 . assumption
|apply zH
 . conv=>lhs;whnf
 . assumption
|refine zB ?_
|refine zC ?_
|refine zI ?_
|apply aw_1
 conv=>whnf
 refine ⟨?_,trivial⟩
|apply ze rfl rfl
 . conv=>lhs;whnf
 . conv=>lhs;whnf
 . first | exact bT1 ‹_› | exact bT2 ‹_›
|apply zZ rfl rfl
 . conv=>lhs;whnf
 . conv=>lhs;whnf
 . first | exact bF1 ‹_› | exact bF2 ‹_›
|apply s_1
 conv=>whnf;arg 1;arg 4;arg 3;whnf
 refine ⟨?_,?_⟩
|apply zd rfl
 . conv=>lhs;whnf
 . conv=>lhs;whnf
 . first | exact htx
|apply zX rfl rfl rfl
 . conv=>lhs;whnf
 . conv=>lhs;whnf;arg 1;whnf
 . conv=>lhs;whnf;arg 1;whnf
 . exact ⟨by kernel_rfl,by kernel_rfl⟩
 . rfl
|apply zF rfl
 . conv=>lhs;whnf
 . conv=>lhs;whnf
 . first | rfl | assumption
 . conv=>lhs;whnf;arg 2;whnf
|apply zo rfl
 . conv=>lhs;whnf
 . conv=>lhs;whnf
 . first | rfl | assumption
|exact trivial)
  all_goals first
   |exact za (by omega)
   |exact at31 hi
   |skip
  refine zf (Sub.ownF (m:=8) (q:=901) (i:=6) (e:=76) rfl (by decide) rfl rfl rfl) ?_
  refine zi (fun m st => ∃ i2 g k,g++grpI f l (gD l i) k i2=G/\m+i2=l.length/\l.length<=i2+k/\i+g.length=i2/\Sub (cx E0 Tryz.prog s w he) st (HSi31 on l acc (gD l i) bb g i2)) (l.length-i) ⟨i,[],l.length,hG,by omega,by omega,rfl,Sub.live ⟨rfl,rfl,rfl,rfl,rfl,rfl,trivial⟩ ⟨rfl,rfl,rfl,rfl,trivial⟩⟩ ?_
  clear hG
  rintro m st2 ⟨i2,g,k,hG,hm,hk,hgl,hs3⟩
  refine zf hs3 ?_
  clear hs3 htx hd
  have hway:(¬ i2<l.length)\/(i2<l.length/\(((gD l i2).f 1).s.toList==((gD l i).f 1).s.toList)=false)\/(i2<l.length/\(((gD l i2).f 1).s.toList==((gD l i).f 1).s.toList)=true/\(((gD l i2).f 5).s.toList==((gD l i).f 5).s.toList)=false)\/(i2<l.length/\(((gD l i2).f 1).s.toList==((gD l i).f 1).s.toList)=true/\(((gD l i2).f 5).s.toList==((gD l i).f 5).s.toList)=true):=by
   by_cases hi2:i2<l.length
   . cases q1:(((gD l i2).f 1).s.toList==((gD l i).f 1).s.toList)<;>cases q2:(((gD l i2).f 5).s.toList==((gD l i).f 5).s.toList)
     . exact .inr (.inl ⟨hi2,rfl⟩)
     . exact .inr (.inl ⟨hi2,rfl⟩)
     . exact .inr (.inr (.inl ⟨hi2,rfl,rfl⟩))
     . exact .inr (.inr (.inr ⟨hi2,rfl,rfl⟩))
   . exact .inl hi2
  rcases hway with hi2 | ⟨hi2,q1⟩ | ⟨hi2,q1,q2⟩ | ⟨hi2,q1,q2⟩
  rotate_left 3
  . have e0:decide ((i2:Int)<(l.length:Nat))=true:=decide_eq_true (by omega)
    have e1:=zCv e0
    have e2:=zCv q1
    have e3:=zCv q2
    obtain ⟨k,rfl⟩ : ∃ q,k=q+1:=⟨k-1,by omega⟩
    rw [zDl ⟨hi2,by unfold zA5;rw [q1,q2];rfl⟩] at hG
    have hf2:=hf i2 hi2
    repeat' (first
|apply zBk 11 ([(1,[8])]) ([(8,[901]),(10,[8])]) rfl (by kernel_rfl) (by kernel_rfl) (by kernel_rfl)
|apply zDn
|apply zDm rfl
 . conv=>lhs;whnf
 . conv=>lhs;whnf;arg 2;whnf
|apply zE3 rfl
 . conv=>lhs;whnf
 . conv=>lhs;whnf
 . first | exact hf2
|apply zJg rfl rfl
 . conv=>lhs;whnf
 . first | exact z8 | (conv=>lhs;whnf;arg 1;whnf)
 . first | exact fun _=>rfl | (intro _;kernel_rfl)
 . conv=>lhs;whnf
 . rfl
 . conv=>lhs;whnf;arg 1;whnf
 . conv=>lhs;whnf
|apply zB6 rfl rfl rfl
 . conv=>lhs;whnf
 . rfl
 . conv=>lhs;whnf;arg 1;whnf
 . conv=>lhs;whnf;arg 1;whnf
 . exact ⟨by kernel_rfl,by kernel_rfl⟩
 . rfl
|show inO _ _=true;rfl
|apply zDo [f (gD l i2)] rfl rfl
 . conv=>lhs;whnf
 . first | exact z8 | (conv=>lhs;whnf;arg 1;whnf)
 . rfl
 . rfl
 . repeat' (first | exact trivial | apply And.intro | rfl)
|apply zM
 . conv=>lhs;whnf
 . assumption
|refine zB ?_
|refine zC ?_
|refine zI ?_
|refine zY ?_
|apply aw_1
 conv=>whnf
 refine ⟨?_,trivial⟩
|apply s_1
 conv=>whnf;arg 1;arg 4;arg 3;whnf
 refine ⟨?_,?_⟩
|apply zAD (by kernel_rfl) (by kernel_rfl)
|apply zAq
|apply zFC rfl rfl
 . conv=>lhs;whnf
 . conv=>lhs;whnf
 . first | exact bT1 ‹_› | exact bT2 ‹_›
|apply zAp rfl
 . conv=>lhs;whnf
 . conv=>lhs;whnf;arg 2;whnf
|apply zAe rfl
 . conv=>lhs;whnf
 . conv=>lhs;whnf
 . first | rfl | assumption
 . conv=>lhs;whnf;arg 2;whnf
|exact zj
|exact zx
|exact ([]:List Nat)
|exact (1000000:Nat)
|exact trivial)
    all_goals first
     |exact za (by omega)
     |exact at31 hi2
     |(refine ⟨by simp,?_,?_⟩<;>simp only [List.length_cons,List.length_nil,maxLen]<;>omega)
     |skip
    refine zE (j':=m-1) (by omega) ⟨i2+1,g++[f (gD l i2)],k,by rw [List.append_assoc];exact hG,by omega,by omega,by rw [List.length_append];simp only [List.length_cons,List.length_nil];omega,Sub.live ⟨rfl,rfl,rfl,rfl,rfl,rfl,trivial⟩ ⟨rfl,rfl,rfl,?_,trivial⟩⟩
    rw [List.length_append];rfl
  have e0:decide ((i2:Int)<(l.length:Nat))=false:=decide_eq_false (by omega)
  have e1:=zFA e0
  have hno : ¬ (i2<l.length/\zA5 (gD l i) (gD l i2)=true):=fun h=>hi2 h.1
  rotate_left 1
  have e0:decide ((i2:Int)<(l.length:Nat))=true:=decide_eq_true (by omega)
  have e1:=zCv e0
  have e2:=zFA q1
  have hno : ¬ (i2<l.length/\zA5 (gD l i) (gD l i2)=true):=fun h=>by have:=h.2;unfold zA5 at this;rw [q1] at this;cases this
  rotate_left 1
  have e0:decide ((i2:Int)<(l.length:Nat))=true:=decide_eq_true (by omega)
  have e1:=zCv e0
  have e2:=zCv q1
  have e3:=zFA q2
  have hno : ¬ (i2<l.length/\zA5 (gD l i) (gD l i2)=true):=fun h=>by have:=h.2;unfold zA5 at this;rw [q1,q2] at this;cases this
  rotate_left 1
  all_goals
   rw [zEM hno,List.append_nil] at hG
   subst hG
   repeat' (first
|apply z7 ((.agg (cellsV Tryz.prog 12 76 (inlB bb (gD l i) g)))) rfl rfl
 . conv=>lhs;whnf;arg 2;whnf
 . repeat' (first | exact VLe.refl _ | exact VLe.nil _ | exact VLe.lit _ _ | exact VLe.own _ _ _ | apply VLe.agg | apply VLeL.cons | exact VLeL.nil)
|apply zAc [inlB bb (gD l i) g] rfl rfl
 . conv=>lhs;whnf
 . first | exact z8 | (conv=>lhs;whnf;arg 1;whnf)
 . rfl
 . rfl
 . repeat' (first | exact trivial | apply And.intro | rfl)
|apply zH
 . conv=>lhs;whnf
 . assumption
|refine zB ?_
|refine zC ?_
|refine zI ?_
|refine zY ?_
|apply aw_1
 conv=>whnf
 refine ⟨?_,trivial⟩
|apply s_1
 conv=>whnf;arg 1;arg 4;arg 3;whnf
 refine ⟨?_,?_⟩
|apply zCD rfl rfl
 . conv=>lhs;whnf
 . first | exact z8 | (conv=>lhs;whnf;arg 1;whnf)
 . first | exact fun _=>rfl | (intro _;kernel_rfl)
 . conv=>lhs;whnf
 . conv=>lhs;whnf;arg 1;whnf
 . conv=>lhs;whnf
|apply zAD (by kernel_rfl) (by kernel_rfl)
|apply zAq
|apply zFC rfl rfl
 . conv=>lhs;whnf
 . conv=>lhs;whnf
 . first | exact bT1 ‹_› | exact bT2 ‹_›
|apply zDy rfl rfl
 . conv=>lhs;whnf
 . conv=>lhs;whnf
 . first | exact bF1 ‹_› | exact bF2 ‹_›
|apply zAp rfl
 . conv=>lhs;whnf
 . conv=>lhs;whnf;arg 2;whnf
|apply zAe rfl
 . conv=>lhs;whnf
 . conv=>lhs;whnf
 . first | rfl | assumption
 . conv=>lhs;whnf;arg 2;whnf
|apply y_skip rfl
 . conv=>lhs;whnf
 . conv=>lhs;whnf
 . first | rfl | assumption
|exact zj
|exact zx
|exact ([]:List Nat)
|exact (1000000:Nat)
|refine zN ?_
|refine zJ rfl ?_
|refine zK ?_
|exact trivial)
   all_goals first
    |exact za (by omega)
    |exact at31 hi2
    |(refine ⟨by simp,?_,?_⟩<;>simp only [List.length_cons,List.length_nil,maxLen]<;>omega)
    |skip
   refine zE (j':=n-g.length) (by omega) ⟨i2,acc++[inlB bb (gD l i) g],j,by rw [<- hgl,List.append_assoc];exact hR,by omega,by omega,by rw [List.length_append];simp only [List.length_cons,List.length_nil];omega,Sub.live ⟨rfl,rfl,rfl,rfl,trivial⟩ ⟨?_,trivial⟩⟩
   rw [List.length_append];rfl
theorem zGU (E0:Ge) : ∀ (k:Nat) (l:List D) (on:ByteArray),CpP k l->AC E0 Tryz.prog 87 [.sl 73 l,.c (.string on)] (.sl 76 (pkS k on l))
 |0,l,on,h=>by
  have h:l=[]:=h
  subst h
  exact zGT E0 (fun d=>d) on [] (by simp) fun i hi=>absurd hi (Nat.not_lt_zero i)
 |k+1,l,on,h=>zGT E0 (zBi (pkS k)) on l h.1 fun i hi=>fieldP_ac E0 (pkS k) (gD l i) (h.2 i hi).1 (zGU E0 k _ _ (h.2 i hi).2)
theorem fdrV_le (sub:ByteArray->List D->List D) (p:D) (h0:(p.f 7).l=[]->sub ((p.f 4).f 0).s (p.f 7).l=[]):VLe (fdrV sub p) (.agg (cellsV Tryz.prog 12 76 (zBi sub p))):=by
 have e:cellsV Tryz.prog 12 76 (zBi sub p)=[.c (.int .i64 1),.c (.string (if (p.f 0).s.toList==(p.f 2).s.toList then ⟨#[]⟩ else (p.f 0).s)),.c (.string (p.f 2).s),.c (.string ⟨#[]⟩),.sl 86 (p.f 3).l,.sl 150 (if (p.f 6).n = -1 then [] else [zBP (p.f 6).n]),.sl 76 (sub ((p.f 4).f 0).s (p.f 7).l)]:=rfl
 rw [e]
 unfold fdrV
 by_cases hn:(p.f 6).n = -1<;>by_cases hl:0<(p.f 7).l.length
 . rw [if_pos hn,if_pos hn,if_pos hl]
   exact .agg (.cons (.refl _) (.cons (.refl _) (.cons (.refl _) (.cons (.refl _) (.cons (.refl _) (.cons (.nil _) (.cons (.refl _) .nil)))))))
 . rw [if_pos hn,if_pos hn,if_neg hl,h0 (List.length_eq_zero_iff.1 (by omega))]
   exact .agg (.cons (.refl _) (.cons (.refl _) (.cons (.refl _) (.cons (.refl _) (.cons (.refl _) (.cons (.nil _) (.cons (.nil _) .nil)))))))
 . rw [if_neg hn,if_neg hn,if_pos hl]
   exact .agg (.cons (.refl _) (.cons (.refl _) (.cons (.refl _) (.cons (.refl _) (.cons (.refl _) (.cons (.refl _) (.cons (.refl _) .nil)))))))
 . rw [if_neg hn,if_neg hn,if_neg hl,h0 (List.length_eq_zero_iff.1 (by omega))]
   exact .agg (.cons (.refl _) (.cons (.refl _) (.cons (.refl _) (.cons (.refl _) (.cons (.refl _) (.cons (.refl _) (.cons (.nil _) .nil)))))))
noncomputable def HRo31 (on:ByteArray) (l acc:List D) (i:Nat):Vst 113:=
 stS 113 [(0,.c (.string on)),(1,.sl 73 l),(5,.own 5 76 acc),(6,.c (.int .i64 (i:Int)))] [(5,.tok 76 acc.length)]
noncomputable def HRi31 (on:ByteArray) (l acc:List D) (p:D) (b:Bool) (g:List D) (i i2:Nat):Vst 113:=
 stS 113 [(0,.c (.string on)),(1,.sl 73 l),(5,.own 5 76 acc),(6,.c (.int .i64 (i2:Int))),(8,.bx 8 0),(9,.c (.int .i64 (i:Int)))]
  [(5,.tok 76 acc.length),(8,.box 76 (inlV p b g)),(901,.tok 76 g.length)]
theorem zGR (E0:Ge) (f:D->D) (on:ByteArray) (l:List D) (hl:l.length<=60)
 (hf : ∀ i,i<l.length->AC E0 Tryz.prog 171 [.agg (cellsV Tryz.prog 12 73 (gD l i))] (.agg (cellsV Tryz.prog 12 76 (f (gD l i))))) :
 AC E0 Tryz.prog 92 [.c (.string on),.sl 73 l] (.sl 76 (selsI f on l l.length 0)):=by
 generalize hR:selsI f on l l.length 0=R
 refine zG 113 Tryz.func92 rfl rfl rfl rfl ?_
 intro s w he
 repeat' (first
|refine zB ?_
|refine zC ?_
|refine zI ?_
|apply aw_1
 conv=>whnf
 refine ⟨?_,trivial⟩
|apply s_1
 conv=>whnf;arg 1;arg 4;arg 3;whnf
 refine ⟨?_,?_⟩
|exact trivial)
 refine zf (Sub.own (t:=5) (e:=76) rfl rfl) ?_
 refine zi (fun n st => ∃ i acc j,acc++selsI f on l j i=R/\n+i=l.length/\l.length<=i+j/\acc.length<=i/\Sub (cx E0 Tryz.prog s w he) st (HRo31 on l acc i)) l.length ⟨0,[],l.length,hR,by omega,by omega,Nat.le_refl _,Sub.live ⟨rfl,rfl,rfl,rfl,trivial⟩ ⟨rfl,trivial⟩⟩ ?_
 clear hR
 rintro n st ⟨i,acc,j,hR,hn,hj,hac,hs2⟩
 refine zf hs2 ?_
 clear hs2
 by_cases hi:i<l.length
 rotate_left 1
 . have f0:decide ((i:Int)<(l.length:Nat))=false:=decide_eq_false (by omega)
   rw [zCX hi,List.append_nil] at hR
   subst hR
   repeat' (first
|apply zH
 . conv=>lhs;whnf
 . assumption
|refine zB ?_
|refine zC ?_
|refine zI ?_
|apply aw_1
 conv=>whnf
 refine ⟨?_,trivial⟩
|apply s_1
 conv=>whnf;arg 1;arg 4;arg 3;whnf
 refine ⟨?_,?_⟩
|refine zN ?_
|refine zJ rfl ?_
|refine zK ?_
|refine zD ?_
|refine ⟨_,by conv=>lhs;whnf;arg 2;whnf,?_⟩;conv=>rhs;whnf
|exact trivial)
 have f0:decide ((i:Int)<(l.length:Nat))=true:=decide_eq_true (by omega)
 obtain ⟨j,rfl⟩ : ∃ q,j=q+1:=⟨j-1,by omega⟩
 have hfi:=hf i hi
 have hpp:zB2 on (gD l i)=(((gD l i).f 1).s.toList==on.toList&&((gD l i).f 5).s.toList==(⟨#[]⟩:ByteArray).toList):=by unfold zB2;rw [zJX]
 have htx:=zKD E0 ((gD l i).f 5).s
 rcases h1:((gD l i).f 1).s.toList==on.toList with _ | _<;>rcases h2:((gD l i).f 5).s.toList==(⟨#[]⟩:ByteArray).toList with _ | _
 all_goals
  rw [h1,h2] at hpp
 rotate_left 3
 . have g1:=zCv h1
   have g2:=zCv h2
   rw [zBQ hi hpp] at hR
   repeat' (first
|apply z7 ((.agg (cellsV Tryz.prog 12 76 (f (gD l i))))) rfl rfl
 . conv=>lhs;whnf;arg 2;whnf
 . repeat' (first | exact VLe.refl _ | exact VLe.nil _ | exact VLe.lit _ _ | exact VLe.own _ _ _ | apply VLe.agg | apply VLeL.cons | exact VLeL.nil)
|apply zAc [f (gD l i)] rfl rfl
 . conv=>lhs;whnf
 . first | exact z8 | (conv=>lhs;whnf;arg 1;whnf)
 . rfl
 . rfl
 . repeat' (first | exact trivial | apply And.intro | rfl)
|apply zM
 . conv=>lhs;whnf
 . assumption
|refine zB ?_
|refine zC ?_
|refine zI ?_
|apply aw_1
 conv=>whnf
 refine ⟨?_,trivial⟩
|apply ze rfl rfl
 . conv=>lhs;whnf
 . conv=>lhs;whnf
 . first | exact bT1 ‹_› | exact bT2 ‹_›
|apply s_1
 conv=>whnf;arg 1;arg 4;arg 3;whnf
 refine ⟨?_,?_⟩
|apply zd rfl
 . conv=>lhs;whnf
 . conv=>lhs;whnf
 . first | exact hfi
|apply zX rfl rfl rfl
 . conv=>lhs;whnf
 . conv=>lhs;whnf;arg 1;whnf
 . conv=>lhs;whnf;arg 1;whnf
 . exact ⟨by kernel_rfl,by kernel_rfl⟩
 . rfl
|apply zCD rfl rfl
 . conv=>lhs;whnf
 . first | exact z8 | (conv=>lhs;whnf;arg 1;whnf)
 . first | exact fun _=>rfl | (intro _;kernel_rfl)
 . conv=>lhs;whnf
 . conv=>lhs;whnf;arg 1;whnf
 . conv=>lhs;whnf
|apply zF rfl
 . conv=>lhs;whnf
 . conv=>lhs;whnf
 . first | rfl | assumption
 . conv=>lhs;whnf;arg 2;whnf
|refine zN ?_
|refine zJ rfl ?_
|exact trivial)
   all_goals first
    |exact za (by omega)
    |exact at31 hi
    |(refine ⟨by simp,?_,?_⟩<;>simp only [List.length_cons,List.length_nil,maxLen]<;>omega)
    |skip
   refine zE (j':=n-1) (by omega) ⟨i+1,acc++[f (gD l i)],j,by rw [List.append_assoc];exact hR,by omega,by omega,by rw [List.length_append];simp only [List.length_cons,List.length_nil];omega,Sub.live ⟨rfl,rfl,rfl,rfl,trivial⟩ ⟨?_,trivial⟩⟩
   rw [List.length_append];rfl
 all_goals
  rw [zCW hi hpp] at hR
  have hgp:=zKx (f:=f) (l:=l) (i:=i) hi
  have hgi:=zJf (f:=f) (l:=l) (p:=gD l i) (k:=l.length) (i:=i) (by omega)
  generalize hG:grpI f l (gD l i) l.length i=G at *
 let bb:=true
 have hd:(!((gD l i).f 5).s.toList==(⟨#[]⟩:ByteArray).toList)=true:=by rw [h2];rfl
 rw [zEk (b:=bb) G (by rw [h2];rfl)] at hR
 have g1:=zFA h1
 rotate_left 1
 let bb:=false
 have hd:(!((gD l i).f 5).s.toList==(⟨#[]⟩:ByteArray).toList)=false:=by rw [h2];rfl
 rw [zEk (b:=bb) G (by rw [h2];rfl)] at hR
 have g1:=zFA h1
 rotate_left 1
 let bb:=true
 have hd:(!((gD l i).f 5).s.toList==(⟨#[]⟩:ByteArray).toList)=true:=by rw [h2];rfl
 rw [zEk (b:=bb) G (by rw [h2];rfl)] at hR
 have g1:=zCv h1
 have g2:=zFA h2
 rotate_left 1
 all_goals
  repeat' (first
|apply z7 ((.agg (cellsV Tryz.prog 12 86 (sArg ⟨#[108,97,98,101,108]⟩ (vD31 3 0 ((gD l i).f 5).s))))) rfl rfl
 . conv=>lhs;whnf;arg 2;whnf
 . repeat' (first | exact VLe.refl _ | exact VLe.nil _ | exact VLe.lit _ _ | exact VLe.own _ _ _ | apply VLe.agg | apply VLeL.cons | exact VLeL.nil)
|apply z7 ((.agg (cellsV Tryz.prog 12 150 (zCs ((gD l i).f 5).s)))) rfl rfl
 . conv=>lhs;whnf;arg 2;whnf
 . repeat' (first | exact VLe.refl _ | exact VLe.nil _ | exact VLe.lit _ _ | exact VLe.own _ _ _ | apply VLe.agg | apply VLeL.cons | exact VLeL.nil)
|apply zAc [sArg ⟨#[108,97,98,101,108]⟩ (vD31 3 0 ((gD l i).f 5).s)] rfl rfl
 . conv=>lhs;whnf
 . first | exact z8 | (conv=>lhs;whnf;arg 1;whnf)
 . rfl
 . rfl
 . repeat' (first | exact trivial | apply And.intro | rfl)
|apply zAc [zCs ((gD l i).f 5).s] rfl rfl
 . conv=>lhs;whnf
 . first | exact z8 | (conv=>lhs;whnf;arg 1;whnf)
 . rfl
 . rfl
 . repeat' (first | exact trivial | apply And.intro | rfl)
|apply zM
 . conv=>lhs;whnf
 . assumption
|apply zH
 . conv=>lhs;whnf
 . assumption
|refine zB ?_
|refine zC ?_
|refine zI ?_
|apply aw_1
 conv=>whnf
 refine ⟨?_,trivial⟩
|apply ze rfl rfl
 . conv=>lhs;whnf
 . conv=>lhs;whnf
 . first | exact bT1 ‹_› | exact bT2 ‹_›
|apply zZ rfl rfl
 . conv=>lhs;whnf
 . conv=>lhs;whnf
 . first | exact bF1 ‹_› | exact bF2 ‹_›
|apply s_1
 conv=>whnf;arg 1;arg 4;arg 3;whnf
 refine ⟨?_,?_⟩
|apply zd rfl
 . conv=>lhs;whnf
 . conv=>lhs;whnf
 . first | exact htx
|apply zX rfl rfl rfl
 . conv=>lhs;whnf
 . conv=>lhs;whnf;arg 1;whnf
 . conv=>lhs;whnf;arg 1;whnf
 . exact ⟨by kernel_rfl,by kernel_rfl⟩
 . rfl
|apply zF rfl
 . conv=>lhs;whnf
 . conv=>lhs;whnf
 . first | rfl | assumption
 . conv=>lhs;whnf;arg 2;whnf
|apply zo rfl
 . conv=>lhs;whnf
 . conv=>lhs;whnf
 . first | rfl | assumption
|exact trivial)
  all_goals first
   |exact za (by omega)
   |exact at31 hi
   |skip
  refine zf (Sub.ownF (m:=8) (q:=901) (i:=6) (e:=76) rfl (by decide) rfl rfl rfl) ?_
  refine zi (fun m st => ∃ i2 g k,g++grpI f l (gD l i) k i2=G/\m+i2=l.length/\l.length<=i2+k/\i+g.length=i2/\Sub (cx E0 Tryz.prog s w he) st (HRi31 on l acc (gD l i) bb g i i2)) (l.length-i) ⟨i,[],l.length,hG,by omega,by omega,rfl,Sub.live ⟨rfl,rfl,rfl,rfl,rfl,rfl,trivial⟩ ⟨rfl,rfl,rfl,trivial⟩⟩ ?_
  clear hG
  rintro m st2 ⟨i2,g,k,hG,hm,hk,hgl,hs3⟩
  refine zf hs3 ?_
  clear hs3 htx hd
  have hway:(¬ i2<l.length)\/(i2<l.length/\(((gD l i2).f 1).s.toList==((gD l i).f 1).s.toList)=false)\/(i2<l.length/\(((gD l i2).f 1).s.toList==((gD l i).f 1).s.toList)=true/\(((gD l i2).f 5).s.toList==((gD l i).f 5).s.toList)=false)\/(i2<l.length/\(((gD l i2).f 1).s.toList==((gD l i).f 1).s.toList)=true/\(((gD l i2).f 5).s.toList==((gD l i).f 5).s.toList)=true):=by
   by_cases hi2:i2<l.length
   . cases q1:(((gD l i2).f 1).s.toList==((gD l i).f 1).s.toList)<;>cases q2:(((gD l i2).f 5).s.toList==((gD l i).f 5).s.toList)
     . exact .inr (.inl ⟨hi2,rfl⟩)
     . exact .inr (.inl ⟨hi2,rfl⟩)
     . exact .inr (.inr (.inl ⟨hi2,rfl,rfl⟩))
     . exact .inr (.inr (.inr ⟨hi2,rfl,rfl⟩))
   . exact .inl hi2
  rcases hway with hi2 | ⟨hi2,q1⟩ | ⟨hi2,q1,q2⟩ | ⟨hi2,q1,q2⟩
  rotate_left 3
  . have e0:decide ((i2:Int)<(l.length:Nat))=true:=decide_eq_true (by omega)
    have e1:=zCv e0
    have e2:=zCv q1
    have e3:=zCv q2
    obtain ⟨k,rfl⟩ : ∃ q,k=q+1:=⟨k-1,by omega⟩
    rw [zDl ⟨hi2,by unfold zA5;rw [q1,q2];rfl⟩] at hG
    have hf2:=hf i2 hi2
    repeat' (first
|apply z7 ((.agg (cellsV Tryz.prog 12 76 (f (gD l i2))))) rfl rfl
 . conv=>lhs;whnf;arg 2;whnf
 . repeat' (first | exact VLe.refl _ | exact VLe.nil _ | exact VLe.lit _ _ | exact VLe.own _ _ _ | apply VLe.agg | apply VLeL.cons | exact VLeL.nil)
|apply zAc [f (gD l i2)] rfl rfl
 . conv=>lhs;whnf
 . first | exact z8 | (conv=>lhs;whnf;arg 1;whnf)
 . rfl
 . rfl
 . repeat' (first | exact trivial | apply And.intro | rfl)
|apply zM
 . conv=>lhs;whnf
 . assumption
|refine zB ?_
|refine zC ?_
|refine zI ?_
|refine zY ?_
|apply aw_1
 conv=>whnf
 refine ⟨?_,trivial⟩
|apply s_1
 conv=>whnf;arg 1;arg 4;arg 3;whnf
 refine ⟨?_,?_⟩
|apply zd rfl
 . conv=>lhs;whnf
 . conv=>lhs;whnf
 . first | exact hf2
|apply zX rfl rfl rfl
 . conv=>lhs;whnf
 . conv=>lhs;whnf;arg 1;whnf
 . conv=>lhs;whnf;arg 1;whnf
 . exact ⟨by kernel_rfl,by kernel_rfl⟩
 . rfl
|apply zCD rfl rfl
 . conv=>lhs;whnf
 . first | exact z8 | (conv=>lhs;whnf;arg 1;whnf)
 . first | exact fun _=>rfl | (intro _;kernel_rfl)
 . conv=>lhs;whnf
 . conv=>lhs;whnf;arg 1;whnf
 . conv=>lhs;whnf
|apply zAD (by kernel_rfl) (by kernel_rfl)
|apply zAq
|apply zFC rfl rfl
 . conv=>lhs;whnf
 . conv=>lhs;whnf
 . first | exact bT1 ‹_› | exact bT2 ‹_›
|apply zAp rfl
 . conv=>lhs;whnf
 . conv=>lhs;whnf;arg 2;whnf
|apply zAe rfl
 . conv=>lhs;whnf
 . conv=>lhs;whnf
 . first | rfl | assumption
 . conv=>lhs;whnf;arg 2;whnf
|exact zj
|exact ([]:List Nat)
|exact (1000000:Nat)
|exact trivial)
    all_goals first
     |exact za (by omega)
     |exact at31 hi2
     |exact at31 hi
     |(refine ⟨by simp,?_,?_⟩<;>simp only [List.length_cons,List.length_nil,maxLen]<;>omega)
     |skip
    refine zE (j':=m-1) (by omega) ⟨i2+1,g++[f (gD l i2)],k,by rw [List.append_assoc];exact hG,by omega,by omega,by rw [List.length_append];simp only [List.length_cons,List.length_nil];omega,Sub.live ⟨rfl,rfl,rfl,rfl,rfl,rfl,trivial⟩ ⟨rfl,rfl,?_,trivial⟩⟩
    rw [List.length_append];rfl
  have e0:decide ((i2:Int)<(l.length:Nat))=false:=decide_eq_false (by omega)
  have e1:=zFA e0
  have hno : ¬ (i2<l.length/\zA5 (gD l i) (gD l i2)=true):=fun h=>hi2 h.1
  rotate_left 1
  have e0:decide ((i2:Int)<(l.length:Nat))=true:=decide_eq_true (by omega)
  have e1:=zCv e0
  have e2:=zFA q1
  have hno : ¬ (i2<l.length/\zA5 (gD l i) (gD l i2)=true):=fun h=>by have:=h.2;unfold zA5 at this;rw [q1] at this;cases this
  rotate_left 1
  have e0:decide ((i2:Int)<(l.length:Nat))=true:=decide_eq_true (by omega)
  have e1:=zCv e0
  have e2:=zCv q1
  have e3:=zFA q2
  have hno : ¬ (i2<l.length/\zA5 (gD l i) (gD l i2)=true):=fun h=>by have:=h.2;unfold zA5 at this;rw [q1,q2] at this;cases this
  rotate_left 1
  all_goals
   rw [zEM hno,List.append_nil] at hG
   subst hG
   repeat' (first
|apply z7 ((.agg (cellsV Tryz.prog 12 76 (inlB bb (gD l i) g)))) rfl rfl
 . conv=>lhs;whnf;arg 2;whnf
 . repeat' (first | exact VLe.refl _ | exact VLe.nil _ | exact VLe.lit _ _ | exact VLe.own _ _ _ | apply VLe.agg | apply VLeL.cons | exact VLeL.nil)
|apply zAc [inlB bb (gD l i) g] rfl rfl
 . conv=>lhs;whnf
 . first | exact z8 | (conv=>lhs;whnf;arg 1;whnf)
 . rfl
 . rfl
 . repeat' (first | exact trivial | apply And.intro | rfl)
|apply zH
 . conv=>lhs;whnf
 . assumption
|refine zB ?_
|refine zC ?_
|refine zI ?_
|refine zY ?_
|apply aw_1
 conv=>whnf
 refine ⟨?_,trivial⟩
|apply s_1
 conv=>whnf;arg 1;arg 4;arg 3;whnf
 refine ⟨?_,?_⟩
|apply zCD rfl rfl
 . conv=>lhs;whnf
 . first | exact z8 | (conv=>lhs;whnf;arg 1;whnf)
 . first | exact fun _=>rfl | (intro _;kernel_rfl)
 . conv=>lhs;whnf
 . conv=>lhs;whnf;arg 1;whnf
 . conv=>lhs;whnf
|apply zAD (by kernel_rfl) (by kernel_rfl)
|apply zAq
|apply zFC rfl rfl
 . conv=>lhs;whnf
 . conv=>lhs;whnf
 . first | exact bT1 ‹_› | exact bT2 ‹_›
|apply zDy rfl rfl
 . conv=>lhs;whnf
 . conv=>lhs;whnf
 . first | exact bF1 ‹_› | exact bF2 ‹_›
|apply zAp rfl
 . conv=>lhs;whnf
 . conv=>lhs;whnf;arg 2;whnf
|apply zAe rfl
 . conv=>lhs;whnf
 . conv=>lhs;whnf
 . first | rfl | assumption
 . conv=>lhs;whnf;arg 2;whnf
|apply y_skip rfl
 . conv=>lhs;whnf
 . conv=>lhs;whnf
 . first | rfl | assumption
|exact zj
|exact zx
|exact ([]:List Nat)
|exact (1000000:Nat)
|refine zN ?_
|refine zJ rfl ?_
|refine zK ?_
|exact trivial)
   all_goals first
    |exact za (by omega)
    |exact at31 hi2
    |exact at31 hi
    |(refine ⟨by simp,?_,?_⟩<;>simp only [List.length_cons,List.length_nil,maxLen]<;>omega)
    |skip
   refine zE (j':=n-g.length) (by omega) ⟨i2,acc++[inlB bb (gD l i) g],j,by rw [<- hgl,List.append_assoc];exact hR,by omega,by omega,by rw [List.length_append];simp only [List.length_cons,List.length_nil];omega,Sub.live ⟨rfl,rfl,rfl,rfl,trivial⟩ ⟨?_,trivial⟩⟩
   rw [List.length_append];rfl
theorem pkS_nil : ∀ (k:Nat) (on:ByteArray),pkS k on []=[]
 |0,_=>rfl
 |k+1,on=>zCX (Nat.lt_irrefl 0)
theorem zGS (E0:Ge) : ∀ (k:Nat) (l:List D) (on:ByteArray),CpP k l->AC E0 Tryz.prog 92 [.c (.string on),.sl 73 l] (.sl 76 (pkS k on l))
 |0,l,on,h=>by
  have h:l=[]:=h
  subst h
  exact zGR E0 (fun d=>d) on [] (by simp) fun i hi=>absurd hi (Nat.not_lt_zero i)
 |k+1,l,on,h=>zGR E0 (zBi (pkS k)) on l h.1 fun i hi=>by
  have hc:=(h.2 i hi).2
  have hlen:((gD l i).f 7).l.length<=60:=by
   cases k with
   |zero=>have:((gD l i).f 7).l=[]:=hc;rw [this];simp
   |succ k=>exact hc.1
  exact (fieldR_raw E0 (pkS k) (gD l i) (by omega) fun _=>zGS E0 k _ _ hc).res (fdrV_le (pkS k) (gD l i) fun h=>by rw [h];exact pkS_nil _ _)
theorem zBx:zAB Tryz.prog 38=some (57,72):=by kernel_rfl
theorem zBH:zAB Tryz.prog 54=some (88,144):=by kernel_rfl
theorem rootP_ac (E0:Ge) (k:Int):AC E0 Tryz.prog 88 [.c (.int .i64 k)] (.c (.string (zDV k))):=by
 refine zG 10 Tryz.func88 rfl rfl rfl rfl ?_
 intro s w he
 repeat' (first
|refine zA0 ?_
|refine zB ?_
|refine zC ?_
|refine zI ?_
|refine zY ?_
|refine zCn ?_
|refine zCU ?_
|apply zCf rfl
 . conv=>lhs;whnf
 . conv=>lhs;whnf;arg 2;whnf
|refine zV (by conv=>lhs;whnf) ?_ ?_<;>intro hb
|refine zCA ?_
|refine zO ?_
|refine zT ?_
|refine zD ?_
|refine ⟨_,by conv=>lhs;whnf;arg 2;whnf,?_⟩;conv=>rhs;whnf
|exact trivial)
 all_goals
  unfold zDV
  simp only [beq_iff_eq,beq_eq_false_iff_ne] at *
  simp [*]
theorem rootR_ac (E0:Ge) (k:Int):AC E0 Tryz.prog 93 [.c (.int .i64 k)] (.c (.string (zDV k))):=by
 refine zG 10 Tryz.func93 rfl rfl rfl rfl ?_
 intro s w he
 repeat' (first
|refine zA0 ?_
|refine zB ?_
|refine zC ?_
|refine zI ?_
|refine zY ?_
|refine zCn ?_
|refine zCU ?_
|apply zCf rfl
 . conv=>lhs;whnf
 . conv=>lhs;whnf;arg 2;whnf
|refine zV (by conv=>lhs;whnf) ?_ ?_<;>intro hb
|refine zCA ?_
|refine zO ?_
|refine zT ?_
|refine zD ?_
|refine ⟨_,by conv=>lhs;whnf;arg 2;whnf,?_⟩;conv=>rhs;whnf
|exact trivial)
 all_goals
  unfold zDV
  simp only [beq_iff_eq,beq_eq_false_iff_ne] at *
  simp [*]
theorem yesP_ac (E0:Ge):AC E0 Tryz.prog 89 [.c (.bool true)] (.agg (cellsV Tryz.prog 12 84 (vD31 1 1 ⟨#[]⟩))):=by
 refine AC.res ?_ (zKl 1 1 ⟨#[]⟩)
 refine zG 8 Tryz.func89 rfl rfl rfl rfl ?_
 intro w0 w he
 repeat' (first
|refine zA0 ?_
|refine zB ?_
|refine zC ?_
|refine zI ?_
|apply zCf rfl
 . conv=>lhs;whnf
 . conv=>lhs;whnf;arg 2;whnf
|apply zBS rfl rfl rfl rfl
 . conv=>lhs;whnf;arg 1;whnf
 . rfl
|apply zX rfl rfl rfl
 . conv=>lhs;whnf
 . conv=>lhs;whnf;arg 1;whnf
 . conv=>lhs;whnf;arg 1;whnf
 . exact ⟨by kernel_rfl,by kernel_rfl⟩
 . rfl
|apply zGA
 . conv=>lhs;whnf;arg 1;arg 1;whnf
|refine zCA ?_
|refine zD ?_
|refine ⟨_,by conv=>lhs;whnf;arg 2;whnf,?_⟩;conv=>rhs;whnf
|exact trivial)
 rfl
def zA7 (kind:Int) (vars sels:List D):D:=.obj [.int kind,.str ⟨#[]⟩,.list vars,.list sels]
def ifA:D:=sArg ⟨#[105,102]⟩ (vD31 1 1 ⟨#[]⟩)
def skipX:D:=dD31 ⟨#[115,107,105,112]⟩ [ifA]
theorem pkS_ne {k:Nat} {on:ByteArray} {l:List D} (h:l≠[]):pkS (k+1) on l≠[]:=by
 obtain ⟨n,hn⟩ : ∃ n,l.length=n+1:=⟨l.length-1,by have:l.length≠0:=fun e=>h (List.length_eq_zero_iff.1 e);omega⟩
 unfold pkS
 rw [hn]
 cases hp:zB2 on (gD l 0) with
 |true=>rw [zBQ (by omega) hp];simp
 |false=>rw [zCW (by omega) hp];simp
noncomputable def HQ0 (kind:Int) (l:List D):Vst 28:=stS 28 [(1,.bx 1 0),(2,.bx 2 0)] [(1,.box 79 [.c (.int .i64 kind),.sl 73 l]),(2,.box 41 [.c (.slice none 0 0),.c (.slice none 0 0)])]
theorem zKg (E0:Ge) (k:Nat) (kind:Int) (l:List D) (h:CpP k l):AC E0 Tryz.prog 41 [.agg [.c (.int .i64 kind),.sl 73 l]] (.agg [.sl 57 [zA7 kind [] (opSels k kind l)],.sl 116 []]):=by
 have h1:=rootP_ac E0 kind
 have h2:=zGU E0 k l (zDV kind) h
 have h3:=yesP_ac E0
 have hres:VLe (.agg [.sl 57 [zA7 kind [] (opSels k kind l)],.c (.slice none 0 0)]) (.agg [.sl 57 [zA7 kind [] (opSels k kind l)],.sl 116 []]):=.agg (.cons (.refl _) (.cons (.nil _) .nil))
 refine AC.res ?_ hres
 by_cases hl:l=[]
 . subst hl
   have e:opSels k kind []=[zD8]:=rfl
   rw [e]
   refine zG 28 Tryz.func41 rfl rfl rfl rfl ?_
   intro s w he
   repeat' (first
|apply zDT ([(1,[1]),(3,[1]),(5,[1])]) ([(9,[3]),(10,[3])]) ([(9,3)]) rfl (by kernel_rfl) (by kernel_rfl) (by kernel_rfl) (by intro p hp;simp only [List.mem_cons,List.not_mem_nil,or_false] at hp;rcases hp with rfl<;>(repeat' (first | exact fresh_S rfl | refine fresh_put ?_ rfl | refine fresh_res ?_ rfl rfl)))
|apply h_nil
|apply zEn rfl rfl rfl rfl
 . conv=>lhs;whnf;arg 1;whnf
 . rfl
 . rfl
 . kernel_rfl
|apply h_val rfl
 . conv=>lhs;whnf
 . conv=>lhs;whnf;arg 2;whnf
 . kernel_rfl
|apply zEm rfl rfl rfl
 . conv=>lhs;whnf
 . rfl
 . conv=>lhs;whnf;arg 1;whnf
 . conv=>lhs;whnf;arg 1;whnf
 . exact ⟨by kernel_rfl,by kernel_rfl⟩
 . rfl
 . kernel_rfl
|apply h_call rfl
 . conv=>lhs;whnf
 . conv=>lhs;whnf
 . first | exact h1 | exact h2 | exact h3
 . kernel_rfl
|show inO _ _=true;rfl
|apply z7 ((.agg (cellsV Tryz.prog 12 86 ifA))) rfl rfl
 . conv=>lhs;whnf;arg 2;whnf
 . repeat' (first | exact VLe.refl _ | exact VLe.nil _ | exact VLe.lit _ _ | exact VLe.own _ _ _ | apply VLe.agg | apply VLeL.cons | exact VLeL.nil)
|apply z7 ((.agg (cellsV Tryz.prog 12 150 skipX))) rfl rfl
 . conv=>lhs;whnf;arg 2;whnf
 . repeat' (first | exact VLe.refl _ | exact VLe.nil _ | exact VLe.lit _ _ | exact VLe.own _ _ _ | apply VLe.agg | apply VLeL.cons | exact VLeL.nil)
|apply z7 ((.agg (cellsV Tryz.prog 12 76 zD8))) rfl rfl
 . conv=>lhs;whnf;arg 2;whnf
 . repeat' (first | exact VLe.refl _ | exact VLe.nil _ | exact VLe.lit _ _ | exact VLe.own _ _ _ | apply VLe.agg | apply VLeL.cons | exact VLeL.nil)
|apply z7 ((.agg (cellsV Tryz.prog 12 57 (zA7 kind [] [zD8])))) rfl rfl
 . conv=>lhs;whnf;arg 2;whnf
 . repeat' (first | exact VLe.refl _ | exact VLe.nil _ | exact VLe.lit _ _ | exact VLe.own _ _ _ | apply VLe.agg | apply VLeL.cons | exact VLeL.nil)
|apply zAc [ifA] rfl rfl
 . conv=>lhs;whnf
 . first | (conv=>lhs;whnf;arg 1;whnf)
 . rfl
 . rfl
 . repeat' (first | exact trivial | apply And.intro | rfl)
|apply zAc [skipX] rfl rfl
 . conv=>lhs;whnf
 . first | (conv=>lhs;whnf;arg 1;whnf)
 . rfl
 . rfl
 . repeat' (first | exact trivial | apply And.intro | rfl)
|apply zAc [zD8] rfl rfl
 . conv=>lhs;whnf
 . first | (conv=>lhs;whnf;arg 1;whnf)
 . rfl
 . rfl
 . repeat' (first | exact trivial | apply And.intro | rfl)
|apply zAc [zA7 kind [] [zD8]] rfl rfl
 . conv=>lhs;whnf
 . first | (conv=>lhs;whnf;arg 1;whnf)
 . rfl
 . rfl
 . repeat' (first | exact trivial | apply And.intro | rfl)
|apply zAW 1 (HQ0 kind []) rfl
|refine zEj ?_
|refine zA0 ?_
|refine zB ?_
|refine zC ?_
|refine zI ?_
|apply zCf rfl
 . conv=>lhs;whnf
 . conv=>lhs;whnf;arg 2;whnf
|apply zd rfl
 . conv=>lhs;whnf
 . conv=>lhs;whnf
 . first | exact h1 | exact h2 | exact h3
|apply zAE rfl rfl rfl rfl
 . conv=>lhs;whnf;arg 1;whnf
 . rfl
|apply zBS rfl rfl rfl rfl
 . conv=>lhs;whnf;arg 1;whnf
 . rfl
|apply zX rfl rfl rfl
 . conv=>lhs;whnf
 . conv=>lhs;whnf;arg 1;whnf
 . conv=>lhs;whnf;arg 1;whnf
 . exact ⟨by kernel_rfl,by kernel_rfl⟩
 . rfl
|apply zGA
 . conv=>lhs;whnf;arg 1;arg 1;whnf
|refine zCA ?_
|refine zD ?_
|refine ⟨_,by conv=>lhs;whnf;arg 2;whnf,?_⟩;conv=>rhs;whnf
|exact trivial)
   . exact Sub.live ⟨rfl,rfl,trivial⟩ ⟨rfl,rfl,trivial⟩
   all_goals rfl
 . have e:opSels k kind l=pkS k (zDV kind) l:=by unfold opSels;rw [if_neg hl]
   rw [e]
   have hz:(((l.length:Nat):Int)==0)=false:=by
    rw [beq_eq_false_iff_ne]
    intro q
    exact hl (List.length_eq_zero_iff.1 (by omega))
   refine zG 28 Tryz.func41 rfl rfl rfl rfl ?_
   intro s w he
   repeat' (first
|apply zDT ([(1,[1]),(3,[1]),(5,[1])]) ([(9,[3]),(10,[3])]) ([(9,3)]) rfl (by kernel_rfl) (by kernel_rfl) (by kernel_rfl) (by intro p hp;simp only [List.mem_cons,List.not_mem_nil,or_false] at hp;rcases hp with rfl<;>(repeat' (first | exact fresh_S rfl | refine fresh_put ?_ rfl | refine fresh_res ?_ rfl rfl)))
|apply h_nil
|apply zEn rfl rfl rfl rfl
 . conv=>lhs;whnf;arg 1;whnf
 . rfl
 . rfl
 . kernel_rfl
|apply h_val rfl
 . conv=>lhs;whnf
 . conv=>lhs;whnf;arg 2;whnf
 . kernel_rfl
|apply zEm rfl rfl rfl
 . conv=>lhs;whnf
 . rfl
 . conv=>lhs;whnf;arg 1;whnf
 . conv=>lhs;whnf;arg 1;whnf
 . exact ⟨by kernel_rfl,by kernel_rfl⟩
 . rfl
 . kernel_rfl
|apply h_call rfl
 . conv=>lhs;whnf
 . conv=>lhs;whnf
 . first | exact h1 | exact h2
 . kernel_rfl
|show inO _ _=true;rfl
|apply z7 ((.agg (cellsV Tryz.prog 12 57 (zA7 kind [] (pkS k (zDV kind) l))))) rfl rfl
 . conv=>lhs;whnf;arg 2;whnf
 . repeat' (first | exact VLe.refl _ | exact VLe.nil _ | exact VLe.lit _ _ | exact VLe.own _ _ _ | apply VLe.agg | apply VLeL.cons | exact VLeL.nil)
|apply zAc [zA7 kind [] (pkS k (zDV kind) l)] rfl rfl
 . conv=>lhs;whnf
 . first | (conv=>lhs;whnf;arg 1;whnf)
 . rfl
 . rfl
 . repeat' (first | exact trivial | apply And.intro | rfl)
|apply zH
 . conv=>lhs;whnf
 . assumption
|apply zAW 1 (HQ0 kind l) rfl
|refine zEj ?_
|refine zA0 ?_
|refine zB ?_
|refine zC ?_
|refine zI ?_
|refine zCU ?_
|apply zCf rfl
 . conv=>lhs;whnf
 . conv=>lhs;whnf;arg 2;whnf
|apply zAE rfl rfl rfl rfl
 . conv=>lhs;whnf;arg 1;whnf
 . rfl
|apply zBS rfl rfl rfl rfl
 . conv=>lhs;whnf;arg 1;whnf
 . rfl
|apply zX rfl rfl rfl
 . conv=>lhs;whnf
 . conv=>lhs;whnf;arg 1;whnf
 . conv=>lhs;whnf;arg 1;whnf
 . exact ⟨by kernel_rfl,by kernel_rfl⟩
 . rfl
|refine zCA ?_
|refine zD ?_
|refine ⟨_,by conv=>lhs;whnf;arg 2;whnf,?_⟩;conv=>rhs;whnf
|exact trivial)
   . exact Sub.live ⟨rfl,rfl,trivial⟩ ⟨rfl,rfl,trivial⟩
   all_goals rfl
theorem zKf (E0:Ge) (k:Nat) (kind:Int) (l:List D) (h:CpP (k+1) l):AC E0 Tryz.prog 45 [.agg [.c (.int .i64 kind),.sl 73 l]] (.agg [.sl 57 [zA7 kind [] (opSels (k+1) kind l)],.sl 116 []]):=by
 have h1:=rootR_ac E0 kind
 have h2:=zGS E0 (k+1) l (zDV kind) h
 have hres:VLe (.agg [.sl 57 [zA7 kind [] (opSels (k+1) kind l)],.c (.slice none 0 0)]) (.agg [.sl 57 [zA7 kind [] (opSels (k+1) kind l)],.sl 116 []]):=.agg (.cons (.refl _) (.cons (.nil _) .nil))
 refine AC.res ?_ hres
 by_cases hl:l=[]
 . subst hl
   have e:opSels (k+1) kind []=[zD8]:=rfl
   rw [pkS_nil] at h2
   rw [e]
   refine zG 28 Tryz.func45 rfl rfl rfl rfl ?_
   intro s w he
   repeat' (first
|apply z7 ((.agg (cellsV Tryz.prog 12 84 (vD31 1 1 ⟨#[]⟩)))) rfl rfl
 . conv=>lhs;whnf;arg 2;whnf
 . repeat' (first | exact VLe.refl _ | exact VLe.nil _ | exact VLe.lit _ _ | exact VLe.own _ _ _ | apply VLe.agg | apply VLeL.cons | exact VLeL.nil)
|apply z7 ((.agg (cellsV Tryz.prog 12 86 ifA))) rfl rfl
 . conv=>lhs;whnf;arg 2;whnf
 . repeat' (first | exact VLe.refl _ | exact VLe.nil _ | exact VLe.lit _ _ | exact VLe.own _ _ _ | apply VLe.agg | apply VLeL.cons | exact VLeL.nil)
|apply z7 ((.agg (cellsV Tryz.prog 12 150 skipX))) rfl rfl
 . conv=>lhs;whnf;arg 2;whnf
 . repeat' (first | exact VLe.refl _ | exact VLe.nil _ | exact VLe.lit _ _ | exact VLe.own _ _ _ | apply VLe.agg | apply VLeL.cons | exact VLeL.nil)
|apply z7 ((.agg (cellsV Tryz.prog 12 76 zD8))) rfl rfl
 . conv=>lhs;whnf;arg 2;whnf
 . repeat' (first | exact VLe.refl _ | exact VLe.nil _ | exact VLe.lit _ _ | exact VLe.own _ _ _ | apply VLe.agg | apply VLeL.cons | exact VLeL.nil)
|apply z7 ((.agg (cellsV Tryz.prog 12 57 (zA7 kind [] [zD8])))) rfl rfl
 . conv=>lhs;whnf;arg 2;whnf
 . repeat' (first | exact VLe.refl _ | exact VLe.nil _ | exact VLe.lit _ _ | exact VLe.own _ _ _ | apply VLe.agg | apply VLeL.cons | exact VLeL.nil)
|apply zAc [ifA] rfl rfl
 . conv=>lhs;whnf
 . first | (conv=>lhs;whnf;arg 1;whnf)
 . rfl
 . rfl
 . repeat' (first | exact trivial | apply And.intro | rfl)
|apply zAc [skipX] rfl rfl
 . conv=>lhs;whnf
 . first | (conv=>lhs;whnf;arg 1;whnf)
 . rfl
 . rfl
 . repeat' (first | exact trivial | apply And.intro | rfl)
|apply zAc [zD8] rfl rfl
 . conv=>lhs;whnf
 . first | (conv=>lhs;whnf;arg 1;whnf)
 . rfl
 . rfl
 . repeat' (first | exact trivial | apply And.intro | rfl)
|apply zAc [zA7 kind [] [zD8]] rfl rfl
 . conv=>lhs;whnf
 . first | (conv=>lhs;whnf;arg 1;whnf)
 . rfl
 . rfl
 . repeat' (first | exact trivial | apply And.intro | rfl)
|refine zA0 ?_
|refine zB ?_
|refine zC ?_
|refine zI ?_
|apply zCf rfl
 . conv=>lhs;whnf
 . conv=>lhs;whnf;arg 2;whnf
|apply zAE rfl rfl rfl rfl
 . conv=>lhs;whnf;arg 1;whnf
 . rfl
|apply zBS rfl rfl rfl rfl
 . conv=>lhs;whnf;arg 1;whnf
 . rfl
|apply zX rfl rfl rfl
 . conv=>lhs;whnf
 . conv=>lhs;whnf;arg 1;whnf
 . conv=>lhs;whnf;arg 1;whnf
 . exact ⟨by kernel_rfl,by kernel_rfl⟩
 . rfl
|apply zAD (by kernel_rfl) (by kernel_rfl)
|apply zAq
|apply zAp rfl
 . conv=>lhs;whnf
 . conv=>lhs;whnf;arg 2;whnf
|apply zA9 rfl
 . conv=>lhs;whnf
 . conv=>lhs;whnf
 . first | exact h1 | exact h2
|exact zj
|exact zx
|exact (1000000:Nat)
|apply zGA
 . conv=>lhs;whnf;arg 1;arg 1;whnf
|refine zCA ?_
|refine zD ?_
|refine ⟨_,by conv=>lhs;whnf;arg 2;whnf,?_⟩;conv=>rhs;whnf
|exact trivial)
   all_goals rfl
 . have e:opSels (k+1) kind l=pkS (k+1) (zDV kind) l:=by unfold opSels;rw [if_neg hl]
   rw [e]
   have hz:(((pkS (k+1) (zDV kind) l).length:Int)==0)=false:=by
    rw [beq_eq_false_iff_ne]
    intro q
    exact pkS_ne (k:=k) (on:=zDV kind) hl (List.length_eq_zero_iff.1 (by omega))
   refine zG 28 Tryz.func45 rfl rfl rfl rfl ?_
   intro s w he
   repeat' (first
|apply z7 ((.agg (cellsV Tryz.prog 12 57 (zA7 kind [] (pkS (k+1) (zDV kind) l))))) rfl rfl
 . conv=>lhs;whnf;arg 2;whnf
 . repeat' (first | exact VLe.refl _ | exact VLe.nil _ | exact VLe.lit _ _ | exact VLe.own _ _ _ | apply VLe.agg | apply VLeL.cons | exact VLeL.nil)
|apply zAc [zA7 kind [] (pkS (k+1) (zDV kind) l)] rfl rfl
 . conv=>lhs;whnf
 . first | (conv=>lhs;whnf;arg 1;whnf)
 . rfl
 . rfl
 . repeat' (first | exact trivial | apply And.intro | rfl)
|apply zH
 . conv=>lhs;whnf
 . assumption
|refine zA0 ?_
|refine zB ?_
|refine zC ?_
|refine zI ?_
|refine zCU ?_
|apply zCf rfl
 . conv=>lhs;whnf
 . conv=>lhs;whnf;arg 2;whnf
|apply zAE rfl rfl rfl rfl
 . conv=>lhs;whnf;arg 1;whnf
 . rfl
|apply zBS rfl rfl rfl rfl
 . conv=>lhs;whnf;arg 1;whnf
 . rfl
|apply zX rfl rfl rfl
 . conv=>lhs;whnf
 . conv=>lhs;whnf;arg 1;whnf
 . conv=>lhs;whnf;arg 1;whnf
 . exact ⟨by kernel_rfl,by kernel_rfl⟩
 . rfl
|apply zAD (by kernel_rfl) (by kernel_rfl)
|apply zAq
|apply zAp rfl
 . conv=>lhs;whnf
 . conv=>lhs;whnf;arg 2;whnf
|apply zA9 rfl
 . conv=>lhs;whnf
 . conv=>lhs;whnf
 . first | exact h1 | exact h2
|exact zj
|exact zx
|exact (1000000:Nat)
|refine zCA ?_
|refine zD ?_
|refine ⟨_,by conv=>lhs;whnf;arg 2;whnf,?_⟩;conv=>rhs;whnf
|exact trivial)
   all_goals rfl
theorem namedP_ac (E0:Ge) (s:ByteArray):AC E0 Tryz.prog 44 [.c (.string s)] (.agg [.c (.string s),.sl 3 []]):=by
 refine AC.res (r:=.agg [.c (.string s),.c (.slice none 0 0)]) ?_ (.agg (.cons (.refl _) (.cons (.nil _) .nil)))
 refine zG 5 Tryz.func44 rfl rfl rfl rfl ?_
 intro w0 w he
 repeat' (first
|refine zB ?_
|refine zC ?_
|refine zI ?_
|apply aw_1
 conv=>whnf
 refine ⟨?_,trivial⟩
|apply s_1
 conv=>whnf;arg 1;arg 4;arg 3;whnf
 refine ⟨?_,?_⟩
|apply zX rfl rfl rfl
 . conv=>lhs;whnf
 . conv=>lhs;whnf;arg 1;whnf
 . conv=>lhs;whnf;arg 1;whnf
 . exact ⟨by kernel_rfl,by kernel_rfl⟩
 . rfl
|refine zD ?_
|refine ⟨_,by conv=>lhs;whnf;arg 2;whnf,?_⟩;conv=>rhs;whnf
|exact trivial)
 rfl
def anyS:ByteArray:=⟨#[95,65,110,121]⟩
theorem isNon0_ac (E0:Ge):AC E0 Tryz.prog 90 [.agg [.c (.string anyS),.sl 3 []]] (.c (.bool false))/\AC E0 Tryz.prog 90 [.agg [.c (.string anyS),.sl 3 [.int 2,.int 1]]] (.c (.bool false)):=by
 refine ⟨?_,?_⟩
 all_goals
  refine zG 14 Tryz.func90 rfl rfl rfl rfl ?_
  intro w0 w he
  repeat' (first
|refine zB ?_
|refine zC ?_
|refine zI ?_
|apply aw_1
 conv=>whnf
 refine ⟨?_,trivial⟩
|apply ze rfl rfl
 . conv=>lhs;whnf
 . conv=>lhs;whnf
 . first | decide +kernel
|apply zZ rfl rfl
 . conv=>lhs;whnf
 . conv=>lhs;whnf
 . first | decide +kernel
|apply s_1
 conv=>whnf;arg 1;arg 4;arg 3;whnf
 refine ⟨?_,?_⟩
|apply zAE rfl rfl rfl rfl
 . conv=>lhs;whnf;arg 1;whnf
 . rfl
|refine zD ?_
|refine ⟨_,by conv=>lhs;whnf;arg 2;whnf,?_⟩;conv=>rhs;whnf
|exact trivial)
  all_goals first
   |kernel_rfl
   |(constructor<;>decide)
theorem zJV (E0:Ge):AC E0 Tryz.prog 42 [.agg [.c (.string anyS),.sl 3 []]] (.agg [.c (.string anyS),.sl 3 [.int 1]])/\AC E0 Tryz.prog 42 [.agg [.c (.string anyS),.sl 3 [.int 2,.int 1]]] (.agg [.c (.string anyS),.sl 3 [.int 1,.int 2,.int 1]]):=by
 have h:=isNon0_ac E0
 refine ⟨?_,?_⟩
 all_goals
  refine zG 18 Tryz.func42 rfl rfl rfl rfl ?_
  intro w0 w he
  repeat' (first
|apply zH
 . conv=>lhs;whnf
 . decide +kernel
|refine zB ?_
|refine zC ?_
|refine zI ?_
|apply aw_1
 conv=>whnf
 refine ⟨?_,trivial⟩
|apply s_1
 conv=>whnf;arg 1;arg 4;arg 3;whnf
 refine ⟨?_,?_⟩
|apply zd rfl
 . conv=>lhs;whnf
 . conv=>lhs;whnf
 . first | exact h.1 | exact h.2
|apply zAE rfl rfl rfl rfl
 . conv=>lhs;whnf;arg 1;whnf
 . rfl
|apply zAD (by kernel_rfl) (by kernel_rfl)
|apply zAq
|apply zAp rfl
 . conv=>lhs;whnf
 . conv=>lhs;whnf;arg 2;whnf
|apply zI1 rfl rfl rfl
 . conv=>lhs;whnf
 . rfl
 . rfl
 . conv=>lhs;whnf;arg 1;whnf
 . conv=>lhs;whnf;arg 1;whnf
 . exact ⟨by kernel_rfl,by kernel_rfl⟩
 . rfl
|apply zEw rfl rfl
 . conv=>lhs;whnf
 . first | exact zB9 | (conv=>lhs;whnf;arg 1;whnf)
 . conv=>lhs;whnf;arg 1;whnf
 . rfl
 . rfl
|apply zI2 rfl rfl
 . conv=>lhs;whnf
 . first | exact zB9 | (conv=>lhs;whnf;arg 1;whnf)
 . first | exact fun _=>rfl | (intro _;kernel_rfl)
 . conv=>lhs;whnf
 . conv=>lhs;whnf
|exact zj
|show zBr _ _=true;rfl
|refine zD ?_
|refine ⟨_,by conv=>lhs;whnf;arg 2;whnf,?_⟩;conv=>rhs;whnf
|exact trivial)
  all_goals first
   |rfl
   |(constructor<;>decide)
theorem listOf0_ac (E0:Ge):AC E0 Tryz.prog 43 [.agg [.c (.string anyS),.sl 3 [.int 1]]] (.agg [.c (.string anyS),.sl 3 [.int 2,.int 1]]):=by
 refine zG 10 Tryz.func43 rfl rfl rfl rfl ?_
 intro w0 w he
 repeat' (first
|refine zB ?_
|refine zC ?_
|refine zI ?_
|apply aw_1
 conv=>whnf
 refine ⟨?_,trivial⟩
|apply s_1
 conv=>whnf;arg 1;arg 4;arg 3;whnf
 refine ⟨?_,?_⟩
|apply zAE rfl rfl rfl rfl
 . conv=>lhs;whnf;arg 1;whnf
 . rfl
|apply zAD (by kernel_rfl) (by kernel_rfl)
|apply zAq
|apply zAp rfl
 . conv=>lhs;whnf
 . conv=>lhs;whnf;arg 2;whnf
|apply zI1 rfl rfl rfl
 . conv=>lhs;whnf
 . rfl
 . rfl
 . conv=>lhs;whnf;arg 1;whnf
 . conv=>lhs;whnf;arg 1;whnf
 . exact ⟨by kernel_rfl,by kernel_rfl⟩
 . rfl
|apply zEw rfl rfl
 . conv=>lhs;whnf
 . first | exact zB9 | (conv=>lhs;whnf;arg 1;whnf)
 . conv=>lhs;whnf;arg 1;whnf
 . rfl
 . rfl
|apply zI2 rfl rfl
 . conv=>lhs;whnf
 . first | exact zB9 | (conv=>lhs;whnf;arg 1;whnf)
 . first | exact fun _=>rfl | (intro _;kernel_rfl)
 . conv=>lhs;whnf
 . conv=>lhs;whnf
|exact zj
|show zBr _ _=true;rfl
|refine zD ?_
|refine ⟨_,by conv=>lhs;whnf;arg 2;whnf,?_⟩;conv=>rhs;whnf
|exact trivial)
 all_goals first
  |rfl
  |(constructor<;>decide)
def repV:D:=vD31 7 0 ⟨#[114]⟩
def repA:D:=sArg ⟨#[114,101,112,114,101,115,101,110,116,97,116,105,111,110,115]⟩ repV
def fetchO (n:Nat) (f:D) (kind:Int):List D:=
 if (f.f 2).l.length=0 then [zA7 kind [] (opSels n kind (f.f 6).l)] else [zA7 1 [zBn] [entS (opSels n 1 (f.f 6).l)]]
theorem zKm (l:List D):((((l.length:Nat):Int))==0)=decide (l.length=0):=by rw [Bool.eq_iff_iff];simp
theorem zIZ (E0:Ge) (k:Nat) (s f:D) (kind:Int) (h:CpP k (f.f 6).l):AC E0 Tryz.prog 17 [.agg (cellsV Tryz.prog 12 29 s),.agg (cellsV Tryz.prog 12 34 f),.c (.int .i64 kind)] (.agg [.sl 57 (fetchO k f kind),.sl 116 []]):=by
 have h1:=zKg E0 k kind (f.f 6).l h
 have h2:=zKg E0 k 1 (f.f 6).l h
 have h3:=namedP_ac E0 anyS
 have h4:=zJV E0
 have h5:=listOf0_ac E0
 by_cases hz:(f.f 2).l.length=0
 . have f0:((((f.f 2).l.length:Nat):Int)==0)=true:=by rw [zKm];exact decide_eq_true hz
   have e:fetchO k f kind=[zA7 kind [] (opSels k kind (f.f 6).l)]:=if_pos hz
   rw [e]
   refine zG 50 Tryz.func17 rfl rfl rfl rfl ?_
   intro w0 w he
   repeat' (first
|apply zM
 . conv=>lhs;whnf
 . assumption
|refine zB ?_
|refine zC ?_
|refine zI ?_
|apply aw_1
 conv=>whnf
 refine ⟨?_,trivial⟩
|apply s_1
 conv=>whnf;arg 1;arg 4;arg 3;whnf
 refine ⟨?_,?_⟩
|apply zd rfl
 . conv=>lhs;whnf
 . conv=>lhs;whnf
 . first | exact h1
|apply zAE rfl rfl rfl rfl
 . conv=>lhs;whnf;arg 1;whnf
 . rfl
|apply zX rfl rfl rfl
 . conv=>lhs;whnf
 . conv=>lhs;whnf;arg 1;whnf
 . conv=>lhs;whnf;arg 1;whnf
 . exact ⟨by kernel_rfl,by kernel_rfl⟩
 . rfl
|refine zO ?_
|refine zD ?_
|refine ⟨_,by conv=>lhs;whnf;arg 2;whnf,?_⟩;conv=>rhs;whnf
|exact trivial)
   rfl
 . have f0:((((f.f 2).l.length:Nat):Int)==0)=false:=by rw [zKm];exact decide_eq_false hz
   have e:fetchO k f kind=[zA7 1 [zBn] [entS (opSels k 1 (f.f 6).l)]]:=if_neg hz
   rw [e]
   generalize opSels k 1 (f.f 6).l=S at h2 |-
   refine AC.res (r:=.agg [.sl 57 [zA7 1 [zBn] [entS S]],.c (.slice none 0 0)]) ?_ (.agg (.cons (.refl _) (.cons (.nil _) .nil)))
   refine zG 50 Tryz.func17 rfl rfl rfl rfl ?_
   intro w0 w he
   repeat' (first
|apply z7 ((.agg (cellsV Tryz.prog 12 84 repV))) rfl rfl
 . conv=>lhs;whnf;arg 2;whnf
 . repeat' (first | exact VLe.refl _ | exact VLe.nil _ | exact VLe.lit _ _ | exact VLe.own _ _ _ | apply VLe.agg | apply VLeL.cons | exact VLeL.nil)
|apply z7 ((.agg (cellsV Tryz.prog 12 86 repA))) rfl rfl
 . conv=>lhs;whnf;arg 2;whnf
 . repeat' (first | exact VLe.refl _ | exact VLe.nil _ | exact VLe.lit _ _ | exact VLe.own _ _ _ | apply VLe.agg | apply VLeL.cons | exact VLeL.nil)
|apply z7 ((.agg (cellsV Tryz.prog 12 76 (entS S)))) rfl rfl
 . conv=>lhs;whnf;arg 2;whnf
 . repeat' (first | exact VLe.refl _ | exact VLe.nil _ | exact VLe.lit _ _ | exact VLe.own _ _ _ | apply VLe.agg | apply VLeL.cons | exact VLeL.nil)
|apply z7 ((.agg (cellsV Tryz.prog 12 88 zBn))) rfl rfl
 . conv=>lhs;whnf;arg 2;whnf
 . repeat' (first | exact VLe.refl _ | exact VLe.nil _ | exact VLe.lit _ _ | exact VLe.own _ _ _ | apply VLe.agg | apply VLeL.cons | exact VLeL.nil)
|apply z7 ((.agg (cellsV Tryz.prog 12 57 (zA7 1 [zBn] [entS S])))) rfl rfl
 . conv=>lhs;whnf;arg 2;whnf
 . repeat' (first | exact VLe.refl _ | exact VLe.nil _ | exact VLe.lit _ _ | exact VLe.own _ _ _ | apply VLe.agg | apply VLeL.cons | exact VLeL.nil)
|apply zAc [repA] rfl rfl
 . conv=>lhs;whnf
 . first | exact zAo | exact zBH | exact z8 | exact zBx | (conv=>lhs;whnf;arg 1;whnf)
 . rfl
 . rfl
 . repeat' (first | exact trivial | apply And.intro | rfl)
|apply zAc [zBn] rfl rfl
 . conv=>lhs;whnf
 . first | exact zAo | exact zBH | exact z8 | exact zBx | (conv=>lhs;whnf;arg 1;whnf)
 . rfl
 . rfl
 . repeat' (first | exact trivial | apply And.intro | rfl)
|apply zAc [entS S] rfl rfl
 . conv=>lhs;whnf
 . first | exact zAo | exact zBH | exact z8 | exact zBx | (conv=>lhs;whnf;arg 1;whnf)
 . rfl
 . rfl
 . repeat' (first | exact trivial | apply And.intro | rfl)
|apply zAc [zA7 1 [zBn] [entS S]] rfl rfl
 . conv=>lhs;whnf
 . first | exact zAo | exact zBH | exact z8 | exact zBx | (conv=>lhs;whnf;arg 1;whnf)
 . rfl
 . rfl
 . repeat' (first | exact trivial | apply And.intro | rfl)
|apply zH
 . conv=>lhs;whnf
 . assumption
|refine zB ?_
|refine zC ?_
|refine zI ?_
|apply aw_1
 conv=>whnf
 refine ⟨?_,trivial⟩
|apply s_1
 conv=>whnf;arg 1;arg 4;arg 3;whnf
 refine ⟨?_,?_⟩
|apply zd rfl
 . conv=>lhs;whnf
 . conv=>lhs;whnf
 . first | exact h2 | exact h3 | exact h4.1 | exact h4.2 | exact h5
|apply zAE rfl rfl rfl rfl
 . conv=>lhs;whnf;arg 1;whnf
 . rfl
|apply zX rfl rfl rfl
 . conv=>lhs;whnf
 . conv=>lhs;whnf;arg 1;whnf
 . conv=>lhs;whnf;arg 1;whnf
 . exact ⟨by kernel_rfl,by kernel_rfl⟩
 . rfl
|refine zD ?_
|refine ⟨_,by conv=>lhs;whnf;arg 2;whnf,?_⟩;conv=>rhs;whnf
|exact trivial)
   all_goals first
    |rfl
    |exact ⟨by decide,by simp⟩
theorem zF0 (E0:Ge) (k:Nat) (s f:D) (kind:Int) (h:CpP (k+1) (f.f 6).l):AC E0 Tryz.prog 18 [.agg (cellsV Tryz.prog 12 29 s),.agg (cellsV Tryz.prog 12 34 f),.c (.int .i64 kind)] (.agg [.sl 57 (fetchO (k+1) f kind),.sl 116 []]):=by
 have h1:=zKf E0 k kind (f.f 6).l h
 have h2:=zKf E0 k 1 (f.f 6).l h
 by_cases hz:(f.f 2).l.length=0
 . have f0:((((f.f 2).l.length:Nat):Int)==0)=true:=by rw [zKm];exact decide_eq_true hz
   have e:fetchO (k+1) f kind=[zA7 kind [] (opSels (k+1) kind (f.f 6).l)]:=if_pos hz
   rw [e]
   refine zG 47 Tryz.func18 rfl rfl rfl rfl ?_
   intro w0 w he
   repeat' (first
|apply zM
 . conv=>lhs;whnf
 . assumption
|refine zB ?_
|refine zC ?_
|refine zI ?_
|apply aw_1
 conv=>whnf
 refine ⟨?_,trivial⟩
|apply s_1
 conv=>whnf;arg 1;arg 4;arg 3;whnf
 refine ⟨?_,?_⟩
|apply zd rfl
 . conv=>lhs;whnf
 . conv=>lhs;whnf
 . first | exact h1
|apply zAE rfl rfl rfl rfl
 . conv=>lhs;whnf;arg 1;whnf
 . rfl
|apply zX rfl rfl rfl
 . conv=>lhs;whnf
 . conv=>lhs;whnf;arg 1;whnf
 . conv=>lhs;whnf;arg 1;whnf
 . exact ⟨by kernel_rfl,by kernel_rfl⟩
 . rfl
|refine zO ?_
|refine zD ?_
|refine ⟨_,by conv=>lhs;whnf;arg 2;whnf,?_⟩;conv=>rhs;whnf
|exact trivial)
   rfl
 . have f0:((((f.f 2).l.length:Nat):Int)==0)=false:=by rw [zKm];exact decide_eq_false hz
   have e:fetchO (k+1) f kind=[zA7 1 [zBn] [entS (opSels (k+1) 1 (f.f 6).l)]]:=if_neg hz
   rw [e]
   generalize opSels (k+1) 1 (f.f 6).l=S at h2 |-
   refine AC.res (r:=.agg [.sl 57 [zA7 1 [zBn] [entS S]],.c (.slice none 0 0)]) ?_ (.agg (.cons (.refl _) (.cons (.nil _) .nil)))
   refine zG 47 Tryz.func18 rfl rfl rfl rfl ?_
   intro w0 w he
   repeat' (first
|apply z7 ((.agg (cellsV Tryz.prog 12 84 repV))) rfl rfl
 . conv=>lhs;whnf;arg 2;whnf
 . repeat' (first | exact VLe.refl _ | exact VLe.nil _ | exact VLe.lit _ _ | exact VLe.own _ _ _ | apply VLe.agg | apply VLeL.cons | exact VLeL.nil)
|apply z7 ((.agg (cellsV Tryz.prog 12 86 repA))) rfl rfl
 . conv=>lhs;whnf;arg 2;whnf
 . repeat' (first | exact VLe.refl _ | exact VLe.nil _ | exact VLe.lit _ _ | exact VLe.own _ _ _ | apply VLe.agg | apply VLeL.cons | exact VLeL.nil)
|apply z7 ((.agg (cellsV Tryz.prog 12 76 (entS S)))) rfl rfl
 . conv=>lhs;whnf;arg 2;whnf
 . repeat' (first | exact VLe.refl _ | exact VLe.nil _ | exact VLe.lit _ _ | exact VLe.own _ _ _ | apply VLe.agg | apply VLeL.cons | exact VLeL.nil)
|apply z7 ((.agg (cellsV Tryz.prog 12 88 zBn))) rfl rfl
 . conv=>lhs;whnf;arg 2;whnf
 . repeat' (first | exact VLe.refl _ | exact VLe.nil _ | exact VLe.lit _ _ | exact VLe.own _ _ _ | apply VLe.agg | apply VLeL.cons | exact VLeL.nil)
|apply z7 ((.agg (cellsV Tryz.prog 12 57 (zA7 1 [zBn] [entS S])))) rfl rfl
 . conv=>lhs;whnf;arg 2;whnf
 . repeat' (first | exact VLe.refl _ | exact VLe.nil _ | exact VLe.lit _ _ | exact VLe.own _ _ _ | apply VLe.agg | apply VLeL.cons | exact VLeL.nil)
|apply zAc [.int 1,.int 2,.int 1] rfl rfl
 . conv=>lhs;whnf
 . first | exact zAo | exact zBH | exact z8 | exact zBx | exact zB9 | (conv=>lhs;whnf;arg 1;whnf)
 . rfl
 . rfl
 . repeat' (first | exact trivial | apply And.intro | rfl)
|apply zAc [repA] rfl rfl
 . conv=>lhs;whnf
 . first | exact zAo | exact zBH | exact z8 | exact zBx | exact zB9 | (conv=>lhs;whnf;arg 1;whnf)
 . rfl
 . rfl
 . repeat' (first | exact trivial | apply And.intro | rfl)
|apply zAc [zBn] rfl rfl
 . conv=>lhs;whnf
 . first | exact zAo | exact zBH | exact z8 | exact zBx | exact zB9 | (conv=>lhs;whnf;arg 1;whnf)
 . rfl
 . rfl
 . repeat' (first | exact trivial | apply And.intro | rfl)
|apply zAc [entS S] rfl rfl
 . conv=>lhs;whnf
 . first | exact zAo | exact zBH | exact z8 | exact zBx | exact zB9 | (conv=>lhs;whnf;arg 1;whnf)
 . rfl
 . rfl
 . repeat' (first | exact trivial | apply And.intro | rfl)
|apply zAc [zA7 1 [zBn] [entS S]] rfl rfl
 . conv=>lhs;whnf
 . first | exact zAo | exact zBH | exact z8 | exact zBx | exact zB9 | (conv=>lhs;whnf;arg 1;whnf)
 . rfl
 . rfl
 . repeat' (first | exact trivial | apply And.intro | rfl)
|apply zH
 . conv=>lhs;whnf
 . assumption
|refine zB ?_
|refine zC ?_
|refine zI ?_
|apply aw_1
 conv=>whnf
 refine ⟨?_,trivial⟩
|apply s_1
 conv=>whnf;arg 1;arg 4;arg 3;whnf
 refine ⟨?_,?_⟩
|apply zd rfl
 . conv=>lhs;whnf
 . conv=>lhs;whnf
 . first | exact h2
|apply zAE rfl rfl rfl rfl
 . conv=>lhs;whnf;arg 1;whnf
 . rfl
|apply zX rfl rfl rfl
 . conv=>lhs;whnf
 . conv=>lhs;whnf;arg 1;whnf
 . conv=>lhs;whnf;arg 1;whnf
 . exact ⟨by kernel_rfl,by kernel_rfl⟩
 . rfl
|refine zD ?_
|refine ⟨_,by conv=>lhs;whnf;arg 2;whnf,?_⟩;conv=>rhs;whnf
|exact trivial)
   all_goals first
    |rfl
    |exact ⟨by decide,by simp⟩
end
section
open Go.RowKit
attribute [local irreducible] wpList Calls Code.wp AW AWo OpOk seqK zAG zAP loopK endK AC zt Yld Sub
theorem tail_ac (k:Nat) (l:List D) (h:DirsOk k l):AC EN Tryz.prog 116 [.sl 150 l] (.c (.string (bs (zB1 k l)))):=by
 have hd:=dirsP_ac k l h
 have hds:=zDD k l h.wide
 have hbk:=h.bulk
 refine zG 9 Tryz.func116 rfl rfl rfl rfl ?_
 intro s w he
 repeat' (first
|refine zB ?_
|refine zC ?_
|refine zI ?_
|apply aw_1
 conv=>whnf
 refine ⟨?_,trivial⟩
|apply s_1
 conv=>whnf;arg 1;arg 4;arg 3;whnf
 refine ⟨?_,?_⟩
|apply zd rfl
 . conv=>lhs;whnf
 . conv=>lhs;whnf
 . first | exact hd
|refine zV (by conv=>lhs;whnf) ?_ ?_<;>intro hb
|refine zO ?_
|refine zD ?_
|refine ⟨_,by conv=>lhs;whnf;arg 2;whnf,?_⟩;conv=>rhs;whnf
|exact trivial)
 . have e:l.length=0:=by have:((l.length:Int))=0:=by simpa using hb
                         omega
   rw [zB1,if_pos e];rfl
 . have e : ¬ l.length=0:=by have : ¬ ((l.length:Int))=0:=by simpa using hb
                             omega
   rw [zB1,if_neg e,<- zU];rfl
 . exact sz2 hds
noncomputable def HgP (k:Nat) (l:List D) (i:Nat):Vst 30:=
 stS 30 [(3,.own 3 9 (zl (fun i=>argT k (gD l i)) i)),(9,.sl 86 l),(10,.c (.int .i64 l.length)),(11,.c (.int .i64 i))] [(3,.tok 9 (zl (fun i=>argT k (gD l i)) i).length)]
theorem argsP_ac (k:Nat) (l:List D) (h:ArgsOk k l):AC EN Tryz.prog 117 [.sl 86 l] (.c (.string (bs (parT k l)))):=by
 have hlen:=h.len
 have hds:=zEV k l h.wide
 have hbk:=h.bulk
 have hj:=zCR (zl (fun i=>argT k (gD l i)) l.length) [44,32] (by rw [zv];omega) (by rw [zAT];exact Nat.le_trans hds (by omega))
 rw [zAT] at hj
 refine zG 30 Tryz.func117 rfl rfl rfl rfl ?_
 intro s w he
 repeat' (first
|refine zB ?_
|refine zC ?_
|refine zI ?_
|apply aw_1
 conv=>whnf
 refine ⟨?_,trivial⟩
|apply s_1
 conv=>whnf;arg 1;arg 4;arg 3;whnf
 refine ⟨?_,?_⟩
|refine zV (by conv=>lhs;whnf) ?_ ?_<;>intro hb
|refine zO ?_
|refine zD ?_
|refine ⟨_,by conv=>lhs;whnf;arg 2;whnf,?_⟩;conv=>rhs;whnf
|exact trivial)
 . have e:l.length=0:=by have:((l.length:Int))=0:=by simpa using hb
                         omega
   rw [parT,if_pos e];rfl
 . have e : ¬ l.length=0:=by have : ¬ ((l.length:Int))=0:=by simpa using hb
                             omega
   refine zf (Sub.own (t:=3) (e:=9) rfl rfl) ?_
   refine zi (fun j st => ∃ i,i+j=l.length/\Sub (cx EN Tryz.prog s w he) st (HgP k l i)) l.length ⟨0,by omega,?_⟩ ?_
   . exact Sub.live ⟨rfl,rfl,rfl,rfl,trivial⟩ ⟨rfl,trivial⟩
   . rintro j st ⟨i,hij,hs2⟩
     refine zf hs2 ?_
     have htk:=zv (fun i=>argT k (gD l i)) i
     have hj2:decide ((i:Int)<(l.length:Int))=false->AC EN Tryz.prog 59 [.sl 9 (zl (fun i=>argT k (gD l i)) i),.c (.string (bs [44,32]))] (.c (.string (bs (zDu k l)))):=fun hh=>by
      have e:i=l.length:=by have:=zCo hh;omega
      rw [e];exact hj
     have hv:decide ((i:Int)<(l.length:Int))=true->AC EN Tryz.prog 122 [.agg (cellsV Tryz.prog 12 84 ((gD l i).f 1))] (.c (.string (bs (valT k ((gD l i).f 1))))):=fun hh =>
      zD2 k _ (h.dp i (zAL hh)) ((h.wide i).f 1) (h.good i (zAL hh)) (h.val (zAL hh))
     repeat' (first
|refine zB ?_
|refine zC ?_
|refine zI ?_
|refine zY ?_
|apply aw_1
 conv=>whnf
 refine ⟨?_,trivial⟩
|apply s_1
 conv=>whnf;arg 1;arg 4;arg 3;whnf
 refine ⟨?_,?_⟩
|apply zd rfl
 . conv=>lhs;whnf
 . conv=>lhs;whnf
 . first | exact hv ‹_› | exact hj2 ‹_›
|apply zX rfl rfl rfl
 . conv=>lhs;whnf
 . conv=>lhs;whnf;arg 1;whnf
 . conv=>lhs;whnf;arg 1;whnf
 . exact ⟨by kernel_rfl,by kernel_rfl⟩
 . rfl
|apply zAD (by kernel_rfl) (by kernel_rfl)
|apply zAq
|apply zAp rfl
 . conv=>lhs;whnf
 . conv=>lhs;whnf;arg 2;whnf
|apply zA9 rfl
 . conv=>lhs;whnf
 . conv=>lhs;whnf
 . first | exact hv ‹_› | exact hj2 ‹_›
|apply y_app rfl rfl
 . conv=>lhs;whnf
 . first | exact zw | (conv=>lhs;whnf;arg 1;whnf)
 . first | exact fun _=>rfl | (intro _;kernel_rfl)
 . conv=>lhs;whnf
 . rfl
 . rfl
 . conv=>lhs;whnf;arg 1;whnf
 . conv=>lhs;whnf
|apply zEw rfl rfl
 . conv=>lhs;whnf
 . first | exact zw | (conv=>lhs;whnf;arg 1;whnf)
 . conv=>lhs;whnf;arg 1;whnf
 . rfl
 . rfl
|exact zj
|show zBr _ _=true;rfl
|refine zV (by conv=>lhs;whnf) ?_ ?_<;>intro hb
|refine zN ?_
|refine zJ rfl ?_
|refine zK ?_
|refine zD ?_
|refine ⟨_,by conv=>lhs;whnf;arg 2;whnf,?_⟩;conv=>rhs;whnf
|exact trivial)
     . have hi:=zAL hb
       refine zE (j':=j-1) (by omega) ⟨i+1,by omega,Sub.live ⟨?_,rfl,rfl,rfl,trivial⟩ ⟨?_,trivial⟩⟩
       . show V.own 3 _ (zl _ i++[.str (((gD l i).f 0).s++⟨#[58,32]⟩++bs _)])=_
         rw [zn,argT,<- zU,<- zU,zA8];rfl
       . show some (Res.tok _ ((zl _ i).length+1))=_
         rw [zn,List.length_append];rfl
     . exact za (by have:=zAL hb;omega)
     . exact zBq (by have:=zAL hb;omega) (by omega)
     . have h1:=h.name (zAL hb)
       have h2:=h.text (zAL hb)
       show (((gD l i).f 0).s++⟨#[58,32]⟩).size+(bs (valT k ((gD l i).f 1))).size<=maxLen
       (simp only [ByteArray.size_append,zS,zh,List.size_toArray,List.length_append,List.length_cons,List.length_nil,maxLen,Nat.reduceAdd,Int.toNat_natCast];omega)
     . have h1:=h.name (zAL hb)
       show (((gD l i).f 0).s).size+(⟨#[58,32]⟩:ByteArray).size<=maxLen
       (simp only [ByteArray.size_append,zS,zh,List.size_toArray,List.length_append,List.length_cons,List.length_nil,maxLen,Nat.reduceAdd,Int.toNat_natCast];omega)
     . exact zDt hb
     . rw [parT,if_neg e,<- zU,<- zU];rfl
     . exact sz3 hds
     . exact sz2 hds
def parR (k:Nat) (l:List D) (i:Nat):List UInt8:=if i=0 then [] else [40]++Lib.join ((l.map (argT k)).take i) commaT
theorem zEI {l:List D} (f:D->List UInt8) {i:Nat} (h:i<l.length):(l.map f).take (i+1)=(l.map f).take i++[f (gD l i)]:=by
 rw [List.take_succ_eq_append_getElem (by simpa using h),List.getElem_map,zAQ h]
theorem zII {k:Nat} {l:List D} {i:Nat} (h:i<l.length):parR k l (i+1)=(if i=0 then [40] else parR k l i++[44,32])++argT k (gD l i):=by
 unfold parR
 rw [if_neg (by omega),zEI _ h]
 by_cases h0:i=0
 . subst h0
   rw [if_pos rfl,List.take_zero,List.nil_append,Lib.join_one]
 . rw [if_neg h0,if_neg h0,zEK _ _ _ (fun e=>by have h2:=congrArg List.length e;rw [List.length_take,List.length_map] at h2;simp only [List.length_nil] at h2;omega)]
   simp [commaT]
theorem zKa (k:Nat) (l:List D):parR k l l.length++(if l.length=0 then [] else [41])=parT k l:=by
 unfold parR parT zDu
 by_cases h:l.length=0
 . rw [if_pos h,if_pos h,if_pos h];rfl
 . rw [if_neg h,if_neg h,if_neg h,show l.length=(l.map (argT k)).length by simp,List.take_length]
noncomputable def HgR (k:Nat) (l:List D) (i:Nat):Vst 35:=
 stS 35 [(0,.sl 86 l),(3,.c (.string (bs (parR k l i)))),(4,.c (.int .i64 i))] []
theorem argsR_ac (k:Nat) (l:List D) (h:ArgsOk k l):AC EN Tryz.prog 198 [.sl 86 l] (.c (.string (bs (parT k l)))):=by
 have hlen:=h.len
 have hbk:=h.bulk
 have hpr : ∀ i,(parR k l i).length<=240000000:=fun i=>by
  have hds:=zEV k l h.wide
  have:=zFK (l.map (argT k)) commaT i
  unfold parR
  unfold zDu at hds
  split
  . simp
  . simp only [List.length_append,List.length_cons,List.length_nil];omega
 refine zG 35 Tryz.func198 rfl rfl rfl rfl ?_
 intro s w he
 repeat' (first
|refine zB ?_
|refine zC ?_
|refine zI ?_
|apply aw_1
 conv=>whnf
 refine ⟨?_,trivial⟩
|apply s_1
 conv=>whnf;arg 1;arg 4;arg 3;whnf
 refine ⟨?_,?_⟩
|exact trivial)
 refine zi (fun j st => ∃ i,i+j=l.length/\Sub (cx EN Tryz.prog s w he) st (HgR k l i)) l.length ⟨0,by omega,?_⟩ ?_
 . exact Sub.live ⟨rfl,rfl,rfl,trivial⟩ trivial
 . rintro j st ⟨i,hij,hs2⟩
   refine zf hs2 ?_
   have hpi:=hpr i
   have hv:decide ((i:Int)<(l.length:Int))=true->AC EN Tryz.prog 125 [.agg (cellsV Tryz.prog 12 84 ((gD l i).f 1))] (.c (.string (bs (valT k ((gD l i).f 1))))):=fun hh =>
    zD1 k _ (h.dp i (zAL hh)) ((h.wide i).f 1) (h.val (zAL hh))
   have hnm:i<l.length->((gD l i).f 0).s.size<=8388608:=fun hi=>h.name hi
   have hvl:i<l.length->(valT k ((gD l i).f 1)).length<=208000000:=fun hi=>h.text hi
   repeat' (first
|refine zB ?_
|refine zC ?_
|refine zI ?_
|refine zY ?_
|apply aw_1
 conv=>whnf
 refine ⟨?_,trivial⟩
|apply s_1
 conv=>whnf;arg 1;arg 4;arg 3;whnf
 refine ⟨?_,?_⟩
|apply zAD (by kernel_rfl) (by kernel_rfl)
|apply zAq
|apply zAp rfl
 . conv=>lhs;whnf
 . conv=>lhs;whnf;arg 2;whnf
|apply zA9 rfl
 . conv=>lhs;whnf
 . conv=>lhs;whnf
 . first | exact hv ‹_›
|exact zj
|exact zx
|exact (1000000:Nat)
|refine zV (by conv=>lhs;whnf) ?_ ?_<;>intro hb
|refine zN ?_
|refine zJ rfl ?_
|refine zK ?_
|refine zD ?_
|refine ⟨_,by conv=>lhs;whnf;arg 2;whnf,?_⟩;conv=>rhs;whnf
|exact trivial)
   . rename_i hb0
     have hi:i<l.length:=zAL hb0
     have h0:i=0:=by have:(i:Int)=0:=by simpa using hb
                     omega
     refine zE (j':=j-1) (by omega) ⟨i+1,by omega,Sub.live ⟨rfl,?_,rfl,trivial⟩ trivial⟩
     show V.c (.string (⟨#[40]⟩++((gD l i).f 0).s++⟨#[58,32]⟩++bs _))=_
     rw [zII hi,if_pos h0,argT,<- zU,<- zU,<- zU,zA8,ByteArray.append_assoc,ByteArray.append_assoc,ByteArray.append_assoc];rfl
   . exact za (by omega)
   . rename_i hb0
     have h1:=hnm (zAL hb0)
     have h2:=hvl (zAL hb0)
     show ((⟨#[40]⟩:ByteArray)++((gD l i).f 0).s++⟨#[58,32]⟩).size+(bs (valT k ((gD l i).f 1))).size<=maxLen
     (simp only [ByteArray.size_append,zS,zh,List.size_toArray,List.length_append,List.length_cons,List.length_nil,maxLen,Nat.reduceAdd,Int.toNat_natCast];omega)
   . rename_i hb0;exact zDt hb0
   . rename_i hb0
     have h1:=hnm (zAL hb0)
     show ((⟨#[40]⟩:ByteArray)++((gD l i).f 0).s).size+(⟨#[58,32]⟩:ByteArray).size<=maxLen
     (simp only [ByteArray.size_append,zS,zh,List.size_toArray,List.length_append,List.length_cons,List.length_nil,maxLen,Nat.reduceAdd,Int.toNat_natCast];omega)
   . rename_i hb0
     have h1:=hnm (zAL hb0)
     show (⟨#[40]⟩:ByteArray).size+((gD l i).f 0).s.size<=maxLen
     (simp only [ByteArray.size_append,zS,zh,List.size_toArray,List.length_append,List.length_cons,List.length_nil,maxLen,Nat.reduceAdd,Int.toNat_natCast];omega)
   . rename_i hb0;exact zDt hb0
   . rename_i hb0
     have hi:i<l.length:=zAL hb0
     have h0 : ¬ i=0:=by have : ¬ (i:Int)=0:=by simpa using hb
                         omega
     refine zE (j':=j-1) (by omega) ⟨i+1,by omega,Sub.live ⟨rfl,?_,rfl,trivial⟩ trivial⟩
     show V.c (.string (bs (parR k l i)++⟨#[44,32]⟩++((gD l i).f 0).s++⟨#[58,32]⟩++bs _))=_
     rw [zII hi,if_neg h0,argT,<- zU,<- zU,<- zU,<- zU,zA8]
     simp only [ByteArray.append_assoc];rfl
   . exact za (by omega)
   . rename_i hb0
     have h1:=hnm (zAL hb0)
     have h2:=hvl (zAL hb0)
     show (bs (parR k l i)++⟨#[44,32]⟩++((gD l i).f 0).s++⟨#[58,32]⟩).size+(bs (valT k ((gD l i).f 1))).size<=maxLen
     (simp only [ByteArray.size_append,zS,zh,List.size_toArray,List.length_append,List.length_cons,List.length_nil,maxLen,Nat.reduceAdd,Int.toNat_natCast];omega)
   . rename_i hb0;exact zDt hb0
   . rename_i hb0
     have h1:=hnm (zAL hb0)
     show (bs (parR k l i)++⟨#[44,32]⟩++((gD l i).f 0).s).size+(⟨#[58,32]⟩:ByteArray).size<=maxLen
     (simp only [ByteArray.size_append,zS,zh,List.size_toArray,List.length_append,List.length_cons,List.length_nil,maxLen,Nat.reduceAdd,Int.toNat_natCast];omega)
   . rename_i hb0
     have h1:=hnm (zAL hb0)
     show (bs (parR k l i)++⟨#[44,32]⟩).size+((gD l i).f 0).s.size<=maxLen
     (simp only [ByteArray.size_append,zS,zh,List.size_toArray,List.length_append,List.length_cons,List.length_nil,maxLen,Nat.reduceAdd,Int.toNat_natCast];omega)
   . rename_i hb0;exact zDt hb0
   . have:=hpi
     show (bs (parR k l i)).size+(⟨#[44,32]⟩:ByteArray).size<=maxLen
     (simp only [ByteArray.size_append,zS,zh,List.size_toArray,List.length_append,List.length_cons,List.length_nil,maxLen,Nat.reduceAdd,Int.toNat_natCast];omega)
   . rename_i hb0
     have e:i=l.length:=by have:l.length<=i:=zCo hb0
                           omega
     subst e
     have h1:=s_ne hb
     rw [zAX] at h1
     have h0 : ¬ l.length=0:=fun h=>h1 (by unfold parR;rw [if_pos h])
     have h2:=zKa k l
     rw [if_neg h0] at h2
     rw [<- h2,<- zU];rfl
   . show (bs (parR k l i)).size+(⟨#[41]⟩:ByteArray).size<=maxLen
     (simp only [ByteArray.size_append,zS,zh,List.size_toArray,List.length_append,List.length_cons,List.length_nil,maxLen,Nat.reduceAdd,Int.toNat_natCast];omega)
   . rename_i hb0
     have e:i=l.length:=by have:l.length<=i:=zCo hb0
                           omega
     subst e
     have h1:=s_eq hb
     rw [zAX] at h1
     have h0:l.length=0:=by
      by_cases h:l.length=0
      . exact h
      . unfold parR at h1;rw [if_neg h] at h1;simp at h1
     have h2:=zKa k l
     rw [if_pos h0,List.append_nil] at h2
     rw [<- h2]
theorem zGb (x:D):AC EN Tryz.prog 202 [.agg (cellsV Tryz.prog 12 71 x)] (.c (.bool (decide (0<(x.f 1).l.length)&&((gD (x.f 1).l 0).n==1)))):=by
 refine zG 14 Tryz.func202 rfl rfl rfl rfl ?_
 intro s w he
 repeat' (first
|refine zB ?_
|refine zC ?_
|refine zI ?_
|apply aw_1
 conv=>whnf
 refine ⟨?_,trivial⟩
|apply ze rfl rfl
 . conv=>lhs;whnf
 . conv=>lhs;whnf
 . first | exact bT1 ‹_› | exact bT2 ‹_›
|apply zZ rfl rfl
 . conv=>lhs;whnf
 . conv=>lhs;whnf
 . first | exact bF1 ‹_› | exact bF2 ‹_›
|apply s_1
 conv=>whnf;arg 1;arg 4;arg 3;whnf
 refine ⟨?_,?_⟩
|apply zAE rfl rfl rfl rfl
 . conv=>lhs;whnf;arg 1;whnf
 . rfl
|apply zF rfl
 . conv=>lhs;whnf
 . conv=>lhs;whnf
 . first | rfl | assumption
 . conv=>lhs;whnf;arg 2;whnf
|apply zH8 rfl
 . conv=>lhs;whnf
 . conv=>lhs;whnf
 . first | rfl | assumption
|apply zBR rfl
 . conv=>lhs;whnf
 . conv=>lhs;whnf
 . conv=>lhs;whnf;arg 2;whnf
|refine zD ?_
|refine ⟨_,by conv=>lhs;whnf;arg 2;whnf,?_⟩;conv=>rhs;whnf
|exact trivial
|intro hg)
 . have hg:=bT1 hg
   simp at hg
   simp [hg]
 . have hg:=bT1 hg
   simpa using hg
 . have hg:=bF1 hg
   simp at hg
   simp [hg]
theorem cut_ac (x:D) (h0:0<(x.f 1).l.length) (h1:(x.f 1).l.length<=16000000):AC EN Tryz.prog 203 [.agg (cellsV Tryz.prog 12 71 x)] (.agg (cellsV Tryz.prog 12 71 (.obj [x.f 0,.list ((x.f 1).l.drop 1)]))):=by
 refine zG 11 Tryz.func203 rfl rfl rfl rfl ?_
 intro s w he
 repeat' (first
|refine zB ?_
|refine zC ?_
|refine zI ?_
|apply aw_1
 conv=>whnf
 refine ⟨?_,trivial⟩
|apply s_1
 conv=>whnf;arg 1;arg 4;arg 3;whnf
 refine ⟨?_,?_⟩
|apply zAE rfl rfl rfl rfl
 . conv=>lhs;whnf;arg 1;whnf
 . rfl
|apply zAD (by kernel_rfl) (by kernel_rfl)
|apply zAq
|apply zAp rfl
 . conv=>lhs;whnf
 . conv=>lhs;whnf;arg 2;whnf
|apply zI1 rfl rfl rfl
 . conv=>lhs;whnf
 . rfl
 . rfl
 . conv=>lhs;whnf;arg 1;whnf
 . conv=>lhs;whnf;arg 1;whnf
 . exact ⟨by kernel_rfl,by kernel_rfl⟩
 . rfl
|apply y_lit0 rfl rfl
 . conv=>lhs;whnf
 . first | exact zB9 | (conv=>lhs;whnf;arg 1;whnf)
|apply zI2 rfl rfl
 . conv=>lhs;whnf
 . first | exact zB9 | (conv=>lhs;whnf;arg 1;whnf)
 . first | exact fun _=>rfl | (intro _;kernel_rfl)
 . conv=>lhs;whnf
 . conv=>lhs;whnf
|exact zj
|show zBr _ _=true;rfl
|refine zD ?_
|refine ⟨_,by conv=>lhs;whnf;arg 2;whnf,?_⟩;conv=>rhs;whnf
|exact trivial)
 . rfl
 . simp only [List.length_nil,List.length_drop,Nat.zero_add,maxLen];omega
 . simp only [Nat.zero_add];omega
def refB (n:List UInt8):List D->List UInt8
 |[]=>n
 |d::ds=>if d.n==1 then refB n ds++[33] else [91]++refB n ds++[93]
theorem zCh (n:List UInt8) : ∀ l,(refB n l).length<=n.length+2*l.length
 |[]=>by simp [refB]
 |d::ds=>by
  have:=zCh n ds
  unfold refB
  split<;>simp<;>omega
theorem refR_ac (n:List UInt8) (hn:n.length<=16000000) : ∀ (l:List D),l.length<=16000000->AC EN Tryz.prog 124 [.agg [.c (.string (bs n)),.sl 3 l]] (.c (.string (bs (refB n l))))
 |[],_=>by
  refine zG 20 Tryz.func124 rfl rfl rfl rfl ?_
  intro s w he
  have h1:AC EN Tryz.prog 202 [.agg [.c (.string (bs n)),.sl 3 []]] (.c (.bool false)):=zGb (.obj [.str (bs n),.list []])
  repeat' (first
|refine zB ?_
|refine zC ?_
|refine zI ?_
|apply aw_1
 conv=>whnf
 refine ⟨?_,trivial⟩
|apply s_1
 conv=>whnf;arg 1;arg 4;arg 3;whnf
 refine ⟨?_,?_⟩
|apply zd rfl
 . conv=>lhs;whnf
 . conv=>lhs;whnf
 . first | exact h1
|apply zAE rfl rfl rfl rfl
 . conv=>lhs;whnf;arg 1;whnf
 . rfl
|refine zD ?_
|refine ⟨_,by conv=>lhs;whnf;arg 2;whnf,?_⟩;conv=>rhs;whnf
|exact trivial)
  rfl
 |d::ds,hl=>by
  have ih:=refR_ac n hn ds (by simp at hl;omega)
  have h2:AC EN Tryz.prog 203 [.agg [.c (.string (bs n)),.sl 3 (d::ds)]] (.agg [.c (.string (bs n)),.sl 3 ds]):=cut_ac (.obj [.str (bs n),.list (d::ds)]) (Nat.succ_pos _) hl
  have h1:AC EN Tryz.prog 202 [.agg [.c (.string (bs n)),.sl 3 (d::ds)]] (.c (.bool (d.n==1))):=zGb (.obj [.str (bs n),.list (d::ds)])
  have hlen:=zCh n ds
  simp only [List.length_cons] at hl
  refine zG 20 Tryz.func124 rfl rfl rfl rfl ?_
  intro s w he
  repeat' (first
|refine zB ?_
|refine zC ?_
|refine zI ?_
|apply aw_1
 conv=>whnf
 refine ⟨?_,trivial⟩
|apply s_1
 conv=>whnf;arg 1;arg 4;arg 3;whnf
 refine ⟨?_,?_⟩
|apply zd rfl
 . conv=>lhs;whnf
 . conv=>lhs;whnf
 . first | exact h1 | exact h2 | exact ih
|apply zAE rfl rfl rfl rfl
 . conv=>lhs;whnf;arg 1;whnf
 . rfl
|refine zV (by conv=>lhs;whnf) ?_ ?_<;>intro hb
|refine zO ?_
|refine zD ?_
|refine ⟨_,by conv=>lhs;whnf;arg 2;whnf,?_⟩;conv=>rhs;whnf
|exact trivial)
  all_goals first
   |(simp only [lit_bs,zU,zS,List.length_append,List.length_cons,List.length_nil,maxLen];omega)
   |(simp only [lit_bs,zU,refB,‹(d.n==1)=_›,if_true,if_false,Bool.false_eq_true,↓reduceIte];done)
   |(exfalso;simp at hb;done)
end
section
open Go.RowKit
attribute [local irreducible] wpList Calls Code.wp
def LiesB (T:TypeId):Prop:=liesAt Tryz.prog Tryz.prog.depth T (2 / Tryz.prog.cellsOf T) 0 92 1=true
theorem zIp {T:TypeId} (hT:LiesB T) (b:Nat) (w:World) (h0:w.cell? ⟨b,0,none⟩=some (.pointer none)) (hsh:w.shape? b=some (T,2)) (hfz:w.frozen? ⟨b,0,none⟩=false) :
 Calls Tryz.prog 94 #[.pointer (some ⟨b,0,none⟩)] w fun e w'=>e = .returned (.tuple #[])/\w'=w.setCell ⟨b,0,none⟩ (.pointer (some ⟨b,0,none⟩)):=by
 obtain ⟨j,hj,hjs⟩:=Option.map_eq_some_iff.1 bSize
 go_enter Tryz.func94,Tryz.ntmps94
 go_wp2
 rw [Lib.run_to_unsafe w ⟨b,0,none⟩ Tryz.underlying89 Tryz.underlying208 hj (by rw [hjs];decide) hsh (Nat.zero_lt_succ 1)]
 simp only [Result.andThen]
 rw [Oper.upon_value]
 go_wp2
 rw [run_callFunc_extern Tryz.func173 (by kernel_rfl) (by kernel_rfl) (by kernel_rfl) (e:=Extern.AbiNoEscape.same) (by kernel_rfl)]
 rw [Lib.run_noEscape]
 simp only [Result.andThen]
 rw [Oper.upon_value]
 go_wp2
 rw [Lib.run_from_unsafe w ⟨b,0,none⟩ Tryz.underlying208 Tryz.underlying89 hj hsh hT]
 simp only [Result.andThen]
 rw [Oper.upon_value]
 go_wp2
 go_end0
 exact ⟨rfl,rfl⟩
def BldAtW (T:TypeId) (b:Nat) (l:List UInt8) (v p:Value) (w:World):Prop:=
 w.heap[b]? = some (.cells #[p,v] T (0,0))/\(p = .pointer none\/p = .pointer (some ⟨b,0,none⟩))/\w.ownsRowF 0 5 1 v l.length (Lib.byteCells l)/\v.ownBlock≠some b
def zGv (T:TypeId) (b:Nat) (v:Value) (l:List UInt8) (w w':World):Prop:=
 ∃ v' p',BldAtW T b l v' p' w'/\Frm (fun k=>k=b\/v.ownBlock=some k) w w' /\ ∀ g,v'.ownBlock=some g->v.ownBlock=some g\/w.heap.size<=g
theorem zIu {T:TypeId} {e:Ge} {f:FuncId} {cargs:List Value} {l l':List UInt8} {r:Value} (rv:V) (hr : ∀ s w,rel Tryz.prog s w rv r) (h : ∀ b v p w,BldAtW T b l v p w->Calls Tryz.prog f (Value.pointer (some ⟨b,0,none⟩)::cargs).toArray w fun e w'=>e = .returned r/\zGv T b v l' w w') :
 ACB e Tryz.prog f (.bx (pn 0) 0::cargs.map .c) [.bld T 5 l] rv [.bld T 5 l']:=by
 intro pas s w us hus hmem _ _
 obtain ⟨b,v,p,h1,h2,h3,h4,h5,h6,h7,h8⟩:=hmem.ho (pn 0) _ (rsOf_pn _ 0)
 have hus2:us=(Value.pointer (some ⟨b,0,none⟩)::cargs).toArray:=by
  apply Array.ext'
  simp only [List.toList_toArray]
  cases hl:us.toList with
  |nil=>rw [hl] at hus;simp [relL] at hus
  |cons x xs =>
   rw [hl,relL,rel] at hus
   obtain ⟨⟨b',hb',rfl⟩,hxs⟩:=hus
   rw [h1] at hb';cases hb'
   rw [zDh hxs]
 rw [hus2]
 refine (h b v p w ⟨h2,h3,h4,h5⟩).mono ?_
 rintro e w' ⟨rfl,v',p',⟨q1,q2,q3,q4⟩,hfr,hg⟩
 have hbl:b<w.heap.size:=(Array.getElem?_eq_some_iff.1 h2).1
 have hpb:pas b:=by
  rcases hmem.bs (pn 0) _ b (rsOf_pn _ 0) (.inl h1) with h9 | h9
  . omega
  . exact h9
 have hpg : ∀ g,v.ownBlock=some g->pas g:=fun g hg'=>by
  have:=(h4.lt g hg').2
  rcases hmem.bs (pn 0) _ g (rsOf_pn _ 0) (.inr (h6.trans hg')) with h9 | h9
  . omega
  . exact h9
 have hfr2:Frm pas w w':=⟨hfr.os,hfr.tape,hfr.output,hfr.size,fun k hk hp=>hfr.block k hk fun hh=>hp (hh.elim (fun e=>by rw [e];exact hpb) (hpg k))⟩
 have hcell : ∀ k o,s.F k o->w'.cell? ⟨k,o,none⟩=w.cell? ⟨k,o,none⟩:=fun k o hF=>by
  obtain ⟨x,hx⟩:=Option.isSome_iff_exists.1 (hmem.fx k o hF)
  exact World.cell?_of_block (w:=w) (hfr.block k (block_lt_of_cell hx) fun hh=>hh.elim (fun e=>by rw [e] at hF;exact h7 o hF) (fun e=>h8 k o e hF))
 let s':Sg:={ s with tb:=fun q=>if q=pn 0 then v'.ownBlock else s.tb q }
 have htb:s'.tb (pn 0)=v'.ownBlock:=by show (if pn 0=pn 0 then v'.ownBlock else s.tb (pn 0))=_;rw [if_pos rfl]
 refine ⟨r,s',rfl,hfr2,fun k o hF=>⟨hcell k o hF,hF⟩,fun _ _ _ _ h=>h,⟨fun k o hF=>by rw [hcell k o hF];exact hmem.fx k o hF,fun n ρ hn => ?_,fun n ρ k hn hk => ?_,fun n m ρ ρ' k hn hm _ _ => ?_⟩,PE.refl _,hr _ _⟩
 . obtain ⟨i,rfl,hi⟩:=zAA hn
   cases i with
   |zero =>
    simp at hi;subst hi
    refine ⟨b,v',p',h1,q1,q2,q3,q4,htb,h7,fun g o hg' hF => ?_⟩
    rcases hg g hg' with h9 | h9
    . exact h8 g o h9 hF
    . obtain ⟨x,hx⟩:=Option.isSome_iff_exists.1 (hmem.fx g o hF)
      have:=block_lt_of_cell hx
      simp at this;omega
   |succ i=>simp at hi
 . obtain ⟨i,rfl,hi⟩:=zAA hn
   cases i with
   |zero =>
    simp at hi;subst hi
    rcases hk with hk | hk
    . rw [show s'.bx (pn 0)=s.bx (pn 0) from rfl,h1] at hk;cases hk;exact .inr hpb
    . rw [htb] at hk
      rcases hg k hk with h9 | h9
      . exact .inr (hpg k h9)
      . exact .inl h9
   |succ i=>simp at hi
 . obtain ⟨i,rfl,hi⟩:=zAA hn
   obtain ⟨j,rfl,hj⟩:=zAA hm
   cases i with
   |zero=>cases j with
    |zero=>rfl
    |succ j=>simp at hj
   |succ i=>simp at hi
theorem bld_acbW {T:TypeId} {e:Ge} {f:FuncId} {cargs:List Value} {l l':List UInt8} {r:Value} (hr:okV r) (h : ∀ b v p w,BldAtW T b l v p w->Calls Tryz.prog f (Value.pointer (some ⟨b,0,none⟩)::cargs).toArray w fun e w'=>e = .returned r/\zGv T b v l' w w') :
 ACB e Tryz.prog f (.bx (pn 0) 0::cargs.map .c) [.bld T 5 l] (.c r) [.bld T 5 l']:=
 zIu (.c r) (fun s w=>by rw [rel];exact ⟨rfl,hr⟩) h
theorem check_bW {T:TypeId} (hT:LiesB T) (b:Nat) (l:List UInt8) (v p:Value) (w:World) (h:BldAtW T b l v p w) :
 Calls Tryz.prog 94 #[.pointer (some ⟨b,0,none⟩)] w fun e w'=>e = .returned (.tuple #[])/\BldAtW T b l v (.pointer (some ⟨b,0,none⟩)) w'/\Frm (fun k=>k=b) w w'/\w'.heap.size=w.heap.size:=by
 obtain ⟨q1,q2,q3,q4⟩:=h
 have c0:w.cell? ⟨b,0,none⟩=some p:=by rw [Lib.cell_of_heap q1];rfl
 rcases q2 with rfl | rfl
 . refine (zIp hT b w c0 (by simp [World.shape?,q1]) (Lib.frozen_of_heap q1 0)).mono ?_
   rintro e w' ⟨rfl,rfl⟩
   have hb:(w.setCell ⟨b,0,none⟩ (.pointer (some ⟨b,0,none⟩))).heap[b]? = some (.cells #[.pointer (some ⟨b,0,none⟩),v] T (0,0)):=by
    simp [World.setCell,Array.getElem?_modify,q1]
   refine ⟨rfl,⟨hb,.inr rfl,zAb q3 fun g hg=>Below.heap_setCell _ _ _ _ fun e=>q4 (by rw [hg,e]),q4⟩,⟨rfl,rfl,rfl,by simp [World.setCell],fun k _ hk=>Below.heap_setCell _ _ _ _ hk⟩,by simp [World.setCell]⟩
 . refine (zEt b w c0).mono ?_
   rintro e w' ⟨rfl,rfl⟩
   exact ⟨rfl,⟨q1,.inr rfl,q3,q4⟩,Frm.refl _ _,rfl⟩
theorem post_bW {T:TypeId} {w0 w1 w2:World} {b:Nat} {v v' p:Value} {l l':List UInt8} (hb:b<w1.heap.size) (hs:w0.heap.size<=w1.heap.size) (h1:Frm (fun k=>k=b) w0 w1) (hb1:w1.heap[b]? = some (.cells #[.pointer (some ⟨b,0,none⟩),v] T (0,0))) (hne:v.ownBlock≠some b)
 (hown:w2.ownsRowF 0 5 1 v' l'.length (Lib.byteCells l')) (hg:w1.grownBy w2 v.ownBlock) (hl : ∀ g,v'.ownBlock=some g->v.ownBlock=some g\/w1.heap.size<=g) :
 w2.heap[b]? = some (.cells #[.pointer (some ⟨b,0,none⟩),v] T (0,0))/\zGv T b v l' w0 (w2.setCell ⟨b,1,none⟩ v'):=by
 have hb2:w2.heap[b]? = some (.cells #[.pointer (some ⟨b,0,none⟩),v] T (0,0)):=by rw [hg.block b hb (fun e=>hne e.symm)];exact hb1
 have hne':v'.ownBlock≠some b:=fun e=>by
  rcases hl b e with h | h
  . exact hne h
  . omega
 have hb3:(w2.setCell ⟨b,1,none⟩ v').heap[b]? = some (.cells #[.pointer (some ⟨b,0,none⟩),v'] T (0,0)):=by simp [World.setCell,Array.getElem?_modify,hb2]
 refine ⟨hb2,v',_,⟨hb3,.inr rfl,zAb hown fun g hg'=>Below.heap_setCell _ _ _ _ fun e=>hne' (by rw [hg',e]),hne'⟩,⟨hg.os.trans h1.os,hg.tape.trans h1.tape,hg.output.trans h1.output,Nat.le_trans hs (Nat.le_trans hg.size (by simp [World.setCell])),fun k hk hnk => ?_⟩,fun g hg'=>(hl g hg').imp id fun h=>Nat.le_trans hs h⟩
 rw [Below.heap_setCell _ _ _ _ (fun e=>hnk (.inl e)),hg.block k (by omega) (fun e=>hnk (.inr e.symm)),h1.block k hk fun e=>hnk (.inl e)]
theorem zGD {T:TypeId} (hT:LiesB T) (b:Nat) (l:List UInt8) (v p:Value) (w:World) (h:BldAtW T b l v p w) (s:ByteArray) (hlen:l.length+s.size<=140737488355328) :
 Calls Tryz.prog 46 #[.pointer (some ⟨b,0,none⟩),.string s] w fun e w'=>e = .returned (.tuple #[.int .i64 s.size,.nilIface])/\zGv T b v (l++s.data.toList) w w':=by
 have H:=Lib.hid (check_bW hT b l v p w h)
 clear h
 go_enter Tryz.func46,Tryz.ntmps46
 go_wp2_with fail
 refine H.out.mono ?_
 rintro e w1 ⟨rfl,⟨q1,-,q3,q4⟩,hf,hsz⟩
 have Hsz:=Lib.hid (show w.heap.size<=w1.heap.size by omega);clear hsz
 have hlt:b<w1.heap.size:=(Array.getElem?_eq_some_iff.1 q1).1
 have c1:w1.cell? ⟨b,1,none⟩=some v:=by rw [Lib.cell_of_heap q1];rfl
 go_wp2_with (at_builtin;refine zLa rfl _ _ 90 9 5 rfl Tryz.underlying90 Tryz.underlying9 zHx v l.length (Lib.byteCells l) rfl q3 s rfl (by unfold maxLen;omega) hlen ?_)
 intro v' w2 hown' hgrow hl
 have hcell:Lib.byteCells (l++s.data.toList)=Lib.byteCells l++Lib.strCells s:=by rw [Lib.byteCells_append,Lib.strCells_eq]
 have hll:l.length+s.size=(l++s.data.toList).length:=by rw [List.length_append];rfl
 rw [<- hcell,hll] at hown'
 obtain ⟨hb2,hpost⟩:=post_bW (l':=l++s.data.toList) (l:=l) (p:=p) hlt Hsz.out hf q1 q4 hown' hgrow hl
 have d1:w2.cell? ⟨b,1,none⟩=some v:=by rw [Lib.cell_of_heap hb2];rfl
 have f1:w2.frozen? ⟨b,1,none⟩=false:=Lib.frozen_of_heap hb2 1
 obtain ⟨ao,n',cap,rfl⟩ : ∃ ao n' cap,v' = .slice ao n' cap:=by
  rcases hown'.2 with ⟨hv,_⟩ | ⟨g,cap,cur,fz,hv,_⟩
  . exact ⟨_,_,_,hv⟩
  . exact ⟨_,_,_,hv⟩
 have Hp:=Lib.hid hpost
 clear hpost hown' hgrow hl q3 hll hcell
 go_wp2
 go_ret2
 exact ⟨rfl,Hp.out⟩
theorem zHH {T:TypeId} {w w':World} {b:Nat} {v p:Value} {l:List UInt8} (h:BldAtW T b l v p w) (hf:Frm (fun k=>k=b\/v.ownBlock=some k) w w') (hb:w'.heap[b]? = w.heap[b]?) (hg:w'.ownsRowF 0 5 1 v l.length (Lib.byteCells l)):zGv T b v l w w':=
 ⟨v,p,⟨hb.trans h.1,h.2.1,hg,h.2.2.2⟩,hf,fun _ hg => .inl hg⟩
theorem string_bW {T:TypeId} (b:Nat) (l:List UInt8) (v p:Value) (w:World) (h:BldAtW T b l v p w) :
 Calls Tryz.prog 49 #[.pointer (some ⟨b,0,none⟩)] w fun e w'=>e = .returned (.string ⟨l.toArray⟩)/\zGv T b v l w w':=by
 have h':=h
 obtain ⟨q1,q2,q3,q4⟩:=h
 have hUS0 : ∀ (W:World) (q:Option Addr),(Builtin.unsafeString_ #[154,3] 9 #[.pointer q,.int .i64 0]).run Tryz.prog W = .ok (.string ByteArray.empty) W:=Any.unsafeString_none Tryz.lays169 Tryz.Builder_Extra_169
 have mixed:Tryz.prog.follows .mixedOrders=true:=by kernel_rfl
 have hbl:b<w.heap.size:=(Array.getElem?_eq_some_iff.1 q1).1
 rcases q3.2 with ⟨rfl,h0⟩ | ⟨g,cap,cur,fz,rfl,hbg,hg,hfz,hnc,hcm,hcs,htake⟩
 . have hl:l=[]:=List.eq_nil_of_length_eq_zero h0
   subst hl
   have c1:w.drew.cell? ⟨b,1,none⟩=some (.slice none 0 0):=by
    have:w.drew.heap[b]? = some (.cells #[p,.slice none 0 0] T (0,0)):=q1
    rw [Lib.cell_of_heap this];rfl
   have hSD:(Builtin.unsafeSliceData_ #[90] 154 #[.slice none 0 0]).run Tryz.prog w.drew = .ok (.pointer none) w.drew:=rfl
   have HP:=Lib.hid (zHH (w':=w.drew) h' ⟨rfl,rfl,rfl,Nat.le_refl _,fun _ _ _=>rfl⟩ rfl q3)
   clear h' q3 q4 q1 h0
   go_enter Tryz.func49,Tryz.ntmps49
   go_wp2
   go_region_o
   all_goals (go_wp2;go_ret;exact ⟨rfl,HP.out⟩)
 . have hbg':b≠g:=fun e=>q4 (by rw [e];rfl)
   by_cases hl0:l=[]
   . subst hl0
     by_cases hc0:cap=0
     . subst hc0
       have c1:w.drew.cell? ⟨b,1,none⟩=some (.slice (some ⟨g,0,none⟩) 0 0):=by
        have:w.drew.heap[b]? = some (.cells #[p,.slice (some ⟨g,0,none⟩) 0 0] T (0,0)):=q1
        rw [Lib.cell_of_heap this];rfl
       have hSD:(Builtin.unsafeSliceData_ #[90] 154 #[.slice (some ⟨g,0,none⟩) 0 0]).run Tryz.prog w.drew = .ok (.pointer (some ⟨w.drew.heap.size,0,none⟩)) (w.drew.alloc (.view ⟨g,0,none⟩ 5)):=
        Lib.run_unsafeSliceData_zero w.drew _ _ 5 Tryz.underlying154 ⟨g,0,none⟩ 0 (5,cur.size) (by have hg':w.drew.heap[g]? = some (.cells cur 5 fz):=hg;simp [World.shape?,hg'])
       have c2:(w.drew.alloc (.view ⟨g,0,none⟩ 5)).cell? ⟨b,1,none⟩=some (.slice (some ⟨g,0,none⟩) 0 0):=by
        have:(w.drew.alloc (.view ⟨g,0,none⟩ 5)).heap[b]? = _:=(Lib.alloc_old w.drew _ b hbl).trans q1
        rw [Lib.cell_of_heap this];rfl
       have c3:(w.alloc (.view ⟨g,0,none⟩ 5)).drew.cell? ⟨b,1,none⟩=some (.slice (some ⟨g,0,none⟩) 0 0):=c2
       have c0:w.cell? ⟨b,1,none⟩=some (.slice (some ⟨g,0,none⟩) 0 0):=c1
       have HP:=Lib.hid (zHH (w':=w.drew.alloc (.view ⟨g,0,none⟩ 5)) h' (zEO w _ _) (Below.heap_alloc w.drew _ b hbl) (zAb q3 fun k hk=>Below.heap_alloc w.drew _ k (q3.lt k hk).2))
       clear h' q3 q4 q1 hg htake hcs hbg hbg' hnc hcm hfz
       go_enter Tryz.func49,Tryz.ntmps49
       go_wp2
       go_region_o
       all_goals (go_wp2;go_ret;exact ⟨rfl,HP.out⟩)
     . have c1:w.drew.cell? ⟨b,1,none⟩=some (.slice (some ⟨g,0,none⟩) 0 cap):=by
        have:w.drew.heap[b]? = some (.cells #[p,.slice (some ⟨g,0,none⟩) 0 cap] T (0,0)):=q1
        rw [Lib.cell_of_heap this];rfl
       have hSD:(Builtin.unsafeSliceData_ #[90] 154 #[.slice (some ⟨g,0,none⟩) 0 cap]).run Tryz.prog w.drew = .ok (.pointer (some ⟨g,0,none⟩)) w.drew:=
        Lib.run_unsafeSliceData_row _ _ _ _ _ _ hc0
       have HP:=Lib.hid (zHH (w':=w.drew) h' ⟨rfl,rfl,rfl,Nat.le_refl _,fun _ _ _=>rfl⟩ rfl q3)
       clear h' q3 q4 q1 hg htake hcs hbg hbg' hnc hcm hfz hc0
       go_enter Tryz.func49,Tryz.ntmps49
       go_wp2
       go_region_o
       all_goals (go_wp2;go_ret;exact ⟨rfl,HP.out⟩)
   . have hln:l.length≠0:=by simpa using hl0
     have c1:w.drew.cell? ⟨b,1,none⟩=some (.slice (some ⟨g,0,none⟩) l.length cap):=by
      have:w.drew.heap[b]? = some (.cells #[p,.slice (some ⟨g,0,none⟩) l.length cap] T (0,0)):=q1
      rw [Lib.cell_of_heap this];rfl
     have hSD:(Builtin.unsafeSliceData_ #[90] 154 #[.slice (some ⟨g,0,none⟩) l.length cap]).run Tryz.prog w.drew = .ok (.pointer (some ⟨g,0,none⟩)) w.drew:=
      Lib.run_unsafeSliceData_row _ _ _ _ _ _ (by omega)
     have hUS:(Builtin.unsafeString_ #[154,3] 9 #[.pointer (some ⟨g,0,none⟩),.int .i64 l.length]).run Tryz.prog w.drew = .ok (.string ⟨l.toArray⟩) (w.drew.freeze ⟨g,0,none⟩ l.length):=by
      refine Lib.run_unsafeString_row w.drew 154 3 9 5 Tryz.underlying154 Tryz.Builder_Extra_169.cellsByte g cur.size (by have hg':w.drew.heap[g]? = some (.cells cur 5 fz):=hg;simp [World.shape?,hg']) l hl0 (by omega) (by unfold maxLen at hcm;omega) ?_
      intro j x hx
      exact q3.cells (g:=g) rfl j (.int .u8 x.toNat) (by simp [Lib.byteCells,hx])
     have hfro:(w.drew.freeze ⟨g,0,none⟩ l.length).ownsRowF 0 5 1 (.slice (some ⟨g,0,none⟩) l.length cap) l.length (Lib.byteCells l):=by
      obtain ⟨lo,hi⟩:=fz
      have hg':w.drew.heap[g]? = some (.cells cur 5 (lo,hi)):=hg
      have hf2:(w.drew.freeze ⟨g,0,none⟩ l.length).heap[g]? = some (.cells cur 5 (if lo==hi then (0,0+l.length) else (min lo 0,max hi (0+l.length)))):=by
       unfold World.freeze
       rw [if_neg hln]
       simp only [Array.getElem?_modify,if_true,hg']
       rfl
      refine ⟨q3.1,.inr ⟨g,cap,cur,_,rfl,Nat.zero_le _,hf2,?_,hnc,hcm,hcs,htake⟩⟩
      simp only at hfz
      split<;>simp<;>omega
     have HP:=Lib.hid (zHH (w':=w.drew.freeze ⟨g,0,none⟩ l.length) h' ⟨zBV.1,zBV.2.1,zBV.2.2,by rw [zFw];exact Nat.le_refl _,fun k _ hk=>zCL fun e=>hk (.inr (by rw [e];rfl))⟩ (zCL hbg') hfro)
     clear h' q3 q4 q1 hg htake hcs hbg hbg' hnc hcm hfz hfro
     go_enter Tryz.func49,Tryz.ntmps49
     go_wp2
     go_region_o
     all_goals (go_wp2;go_ret;exact ⟨rfl,HP.out⟩)
end
section
open Go.RowKit
attribute [local irreducible] wpList Calls Code.wp AW AWo OpOk seqK zAG zAP loopK endK AC zt Yld Sub
attribute [local irreducible] ACB absLexG YldG
theorem zE7 {e:Ge} {T:TypeId} (hT:LiesB T) (l:List UInt8) (s:ByteArray) (hlen:l.length+s.size<=140737488355328):ACB e Tryz.prog 46 [.bx (pn 0) 0,.c (.string s)] [.bld T 5 l] .any [.bld T 5 (l++tx s)]:=
 zIu (cargs:=[.string s]) .any (fun _ _=>by simp [rel]) fun b v p w h=>zGD hT b l v p w h s hlen
theorem zJA {e:Ge} {T:TypeId} (l:List UInt8) (hlen:l.length<=maxLen):ACB e Tryz.prog 49 [.bx (pn 0) 0] [.bld T 5 l] (.c (.string (bs l))) [.bld T 5 l]:=
 bld_acbW (cargs:=[]) (show l.toArray.size<=maxLen by simpa using hlen) fun b v p w h=>string_bW b l v p w h
section
variable {X:Cx} {nn:Nat} {st:Vst nn} {o:Oper} {ops:Array Oper} {l:List Oper} {d:Option Tmp} {KK:Vst nn->Prop} {Q:Vst nn->Prop} {rd wr:Nat->List Nat} {k:Nat}
theorem zHE {f:FuncId} {m:Nat} {vs az:List V} {tb tu:TypeId} {bl bl':List UInt8} {r:V} (hg:o.guard=none) (hd:o.dst=d) (h:act1 X.P st.rs (ev st) o.op = .call f vs) (hv:vs = .bx m 0::az) (hr:st.rs m=some (.bld tb tu bl))
 (hc:ACB X.e X.P f (.bx (pn 0) 0::az) [.bld tb tu bl] r [.bld tb tu bl']) (haz : ∀ φ,renL φ az=az) (hrr : ∀ φ,renV φ r=r)
 (hK:AWo X ops l ((st.res m (.bld tb tu bl')).put d r) KK):AWo X ops (o::l) st KK:=by
 subst hv
 refine zJK [m] hg hd h hc (by simp) (by simp only [renL,renV,φin_one,haz]) (by simp [hr,renR]) ?_
 have e:([Res.bld tb tu bl'].map (renR (φout [m])))=[Res.bld tb tu bl']:=rfl
 rw [e,zBa,hrr]
 exact hK
theorem zHT {f:FuncId} {m:Nat} {vs az:List V} {tb tu:TypeId} {bl bl':List UInt8} {r:V} (hg:o.guard=none) (hd:o.dst=d) (h:act1 X.P st.rs (ev st) o.op = .call f vs) (hv:vs = .bx m 0::az) (hr:st.rs m=some (.bld tb tu bl))
 (hc:ACB X.e X.P f (.bx (pn 0) 0::az) [.bld tb tu bl] r [.bld tb tu bl']) (haz : ∀ φ,renL φ az=az) (hrr : ∀ φ,renV φ r=r) (hl:[m].all (fun n=>(wr k).contains n)=true)
 (hK:absLexG X ops rd wr Q (k+1) l ((st.res m (.bld tb tu bl')).put d r)):absLexG X ops rd wr Q k (o::l) st:=by
 subst hv
 refine g_callB [m] hg hd h hc (by simp) (by simp only [renL,renV,φin_one,haz]) (by simp [hr,renR]) rfl hl ?_
 have e:([Res.bld tb tu bl'].map (renR (φout [m])))=[Res.bld tb tu bl']:=rfl
 rw [e,zBa,hrr]
 exact hK
theorem res_res {m:Nat} {a b:Res}:(st.res m a).res m b=st.res m b:=by
 unfold Vst.res
 congr 1
 funext q
 unfold updR
 by_cases h:q=m<;>simp [h]
theorem s_bcall0 {f:FuncId} {m:Nat} {vs az:List V} {tb tu:TypeId} {bl':List UInt8} {r:V} (hg:o.guard=none) (hd:o.dst=d) (h0:act1 X.P st.rs (ev st) o.op = .call f vs) (hv:vs = .bx m 0::az) (hr:st.rs m=some (.box tb [.c (.pointer none),.c (.slice none 0 0)]))
 (hc:ACB X.e X.P f (.bx (pn 0) 0::az) [.bld tb tu []] r [.bld tb tu bl']) (h:act1 X.P (st.res m (.bld tb tu [])).rs (ev (st.res m (.bld tb tu []))) o.op = .call f vs) (haz : ∀ φ,renL φ az=az) (hrr : ∀ φ,renV φ r=r)
 (hK:AWo X ops l ((st.res m (.bld tb tu bl')).put d r) KK):AWo X ops (o::l) st KK:=by
 refine awo_sub (Sub.bld (e:=tu) hr) ?_
 refine zHE hg hd h hv (by simp [Vst.res,updR]) hc haz hrr ?_
 rw [res_res]
 exact hK
theorem s_bs {m:Nat} {vs:List V} {tb tu:TypeId} {bl:List UInt8} (hg:o.guard=none) (hd:o.dst=d) (h:act1 X.P st.rs (ev st) o.op = .call 49 vs) (hv:vs=[.bx m 0]) (hr:st.rs m=some (.bld tb tu bl)) (ht:tb=tb/\tu=5) (hP:X.P=Tryz.prog)
 (hK:AWo X ops l (st.put d (.c (.string (bs bl)))) KK) (hlen:bl.length<=maxLen):AWo X ops (o::l) st KK:=by
 obtain ⟨-,rfl⟩:=ht
 have hc:=zJA (e:=X.e) (T:=tb) bl hlen
 rw [<- hP] at hc
 refine zHE hg hd h hv hr hc (fun _=>rfl) (fun _=>rfl) ?_
 rw [res_same hr]
 exact hK
end
theorem arr_size (l:List UInt8):(⟨l.toArray⟩:ByteArray).size=l.length:=zS l
def opens:List D->List UInt8
 |[]=>[]
 |d::ds=>if d.n==1 then opens ds else opens ds++[91]
def closes:List D->List UInt8
 |[]=>[]
 |d::ds=>if d.n==1 then closes ds++[33] else closes ds++[93]
theorem zGY : ∀ l,[91]++opens l=opens l++[91]
 |[]=>rfl
 |d::ds=>by
  have:=zGY ds
  unfold opens
  split
  . exact this
  . rw [<- List.append_assoc,this]
theorem refB_eq (n:List UInt8) : ∀ l,refB n l=opens l++n++closes l
 |[]=>by simp [refB,opens,closes]
 |d::ds=>by
  unfold refB opens closes
  rw [refB_eq n ds]
  split
  . simp
  . rw [<- zGY];simp
theorem zEy : ∀ l,(opens l).length<=l.length
 |[]=>Nat.le_refl _
 |d::ds=>by
  have:=zEy ds
  unfold opens
  split<;>simp<;>omega
theorem zES : ∀ l,(closes l).length=l.length
 |[]=>rfl
 |d::ds=>by
  have:=zES ds
  unfold closes
  split<;>simp<;>omega
def H150 (n:List UInt8) (l:List D) (j:Nat):Vst 29:=
 stS 29 [(1,.bx 1 0),(3,.bx 3 0),(4,.bx 4 0),(5,.c (.int .i64 ((j:Int)-1)))] [(1,.box 71 [.c (.string (bs n)),.sl 3 l]),(3,.bld 92 5 (opens (l.drop j))),(4,.bld 92 5 (closes (l.drop j)))]
theorem refP_ac (n:List UInt8) (l:List D) (hn:n.length<=16000000) (hl:l.length<=16000000):AC EN Tryz.prog 121 [.agg [.c (.string (bs n)),.sl 3 l]] (.c (.string (bs (refB n l)))):=by
 have ho:=zEy
 have hc:=zES
 refine zG 29 Tryz.func121 rfl rfl rfl rfl ?_
 intro s w he
 repeat' (first
|refine zB ?_
|refine zC ?_
|refine zI ?_
|apply aw_1
 conv=>whnf
 refine ⟨?_,trivial⟩
|apply s_1
 conv=>whnf;arg 1;arg 4;arg 3;whnf
 refine ⟨?_,?_⟩
|apply zAE rfl rfl rfl rfl
 . conv=>lhs;whnf;arg 1;whnf
 . rfl
|exact trivial)
 . refine zf ((Sub.bld (m:=3) (e:=5) rfl).trans (Sub.bld (m:=4) (e:=5) rfl)) ?_
   refine zi (fun j st=>j<=l.length/\Sub (cx EN Tryz.prog s w he) st (H150 n l j)) l.length ⟨Nat.le_refl _,?_⟩ ?_
   . refine Sub.live ⟨rfl,rfl,rfl,rfl,trivial⟩ ⟨rfl,?_,?_,trivial⟩
     . rw [List.drop_length];rfl
     . rw [List.drop_length];rfl
   . rintro j st ⟨hj,hs⟩
     refine zf hs ?_
     have h1:=ho (l.drop j)
     have h2:=hc (l.drop j)
     rw [List.length_drop] at h1 h2
     have hdrop:0<j->l.drop (j-1)=gD l (j-1)::l.drop j:=fun h=>by
      have hlt:j-1<l.length:=by omega
      rw [List.drop_eq_getElem_cons hlt,show j-1+1=j by omega]
      congr 1
      unfold gD;rw [List.getD_eq_getElem?_getD,List.getElem?_eq_getElem hlt];rfl
     have hnat:((j:Int)-1).toNat=j-1:=by omega
     repeat' (first
|apply s_wb rfl
 . conv=>lhs;whnf
 . conv=>lhs;whnf
 . rfl
 . conv=>lhs;whnf;arg 1;whnf
 . rfl
 . rfl
|apply y_bs rfl
 . conv=>lhs;whnf
 . conv=>lhs;whnf
 . rfl
 . conv=>lhs;whnf;arg 1;whnf
 . rfl
|refine zB ?_
|refine zC ?_
|refine zI ?_
|refine zY ?_
|apply aw_1
 conv=>whnf
 refine ⟨?_,trivial⟩
|apply s_1
 conv=>whnf;arg 1;arg 4;arg 3;whnf
 refine ⟨?_,?_⟩
|apply zAD (by kernel_rfl) (by kernel_rfl)
|apply zAq
|apply zAp rfl
 . conv=>lhs;whnf
 . conv=>lhs;whnf;arg 2;whnf
|exact zj
|exact zx
|exact all_nil
|exact (1000000:Nat)
|refine zV (by conv=>lhs;whnf) ?_ ?_<;>intro hb
|refine zN ?_
|refine zJ rfl ?_
|refine zK ?_
|refine zD ?_
|refine ⟨_,by conv=>lhs;whnf;arg 2;whnf,?_⟩;conv=>rhs;whnf
|exact trivial)
     . rename_i hb0
       have hj0:0<j:=by simp at hb0;omega
       refine zE (j':=j-1) (by omega) ⟨by omega,Sub.live ⟨rfl,rfl,rfl,?_,trivial⟩ ⟨rfl,?_,?_,trivial⟩⟩
       . show V.c (.int .i64 ((j:Int)-1-1))=_
         rw [show ((j-1:Nat):Int)-1=(j:Int)-1-1 by omega]
       . show some (Res.bld _ _ (opens (l.drop j)))=_
         rw [hdrop hj0,opens]
         rw [hnat] at hb
         rw [if_pos hb]
       . show some (Res.bld _ _ (closes (l.drop j)++[33]))=_
         rw [hdrop hj0,closes]
         rw [hnat] at hb
         rw [if_pos hb]
     . exact za (by omega)
     . omega
     . rename_i hb0
       have hj0:0<j:=by simp at hb0;omega
       refine zE (j':=j-1) (by omega) ⟨by omega,Sub.live ⟨rfl,rfl,rfl,?_,trivial⟩ ⟨rfl,?_,?_,trivial⟩⟩
       . show V.c (.int .i64 ((j:Int)-1-1))=_
         rw [show ((j-1:Nat):Int)-1=(j:Int)-1-1 by omega]
       . show some (Res.bld _ _ (opens (l.drop j)++[91]))=_
         rw [hdrop hj0,opens]
         rw [hnat] at hb
         rw [if_neg (by rw [hb];simp)]
       . show some (Res.bld _ _ (closes (l.drop j)++[93]))=_
         rw [hdrop hj0,closes]
         rw [hnat] at hb
         rw [if_neg (by rw [hb];simp)]
     . exact za (by omega)
     . omega
     . omega
     . simp at hb;omega
     . have hj0:j=0:=by simp at hb;omega
       subst hj0
       rw [List.drop_zero,refB_eq,<- zU,<- zU]
       rfl
     all_goals (simp only [ByteArray.size_append,zS,arr_size,maxLen];omega)
 . exact za (by omega)
theorem zBz (l:List UInt8) : ∀ n,(Lib.repeatL l n).length=l.length*n
 |0=>by simp [Lib.repeatL]
 |n+1=>by rw [Lib.repeatL,List.length_append,zBz l n,Nat.mul_add];omega
theorem repeat_ac (s:ByteArray) (c:Nat) (hc:c<=1000000) (hs:s.size<=1000):AC EN Tryz.prog 197 [.c (.string s),.c (.int .i64 (c:Int))] (.c (.string (bs (Lib.repeatL (tx s) c)))):=
 zHj fun s1 w us hus he=>by
  have hm:s.size*c<=1000*1000000:=Nat.mul_le_mul hs hc
  refine ⟨zJx (by rw [zBz,zAF];omega),?_⟩
  obtain ⟨u,u2,rfl,h,h2⟩:=zJO hus
  rw [rel] at h h2
  obtain ⟨rfl,-⟩:=h
  obtain ⟨rfl,-⟩:=h2
  exact Tryz.strings_Repeat s c w (by omega) (by omega)
theorem zJY:LiesB 110:=by unfold LiesB;kernel_rfl
def zAl (n:Nat) (t:List UInt8):List UInt8:=Lib.repeatL [32,32] n++t++[10]
theorem zAU (n:Nat) (t:List UInt8):(zAl n t).length=2*n+t.length+1:=by
 simp only [zAl,List.length_append,zBz,List.length_cons,List.length_nil]
theorem zDK (l:List UInt8) (n:Nat) (t:ByteArray) (hn:n<=1000000) (ht:t.size<=8000000000) (hl:l.length<=10000000000000) :
 ACB EN Tryz.prog 115 [.bx (pn 0) 0,.c (.int .i64 (n:Int)),.c (.string t)] [.bld 110 5 l] (.tup []) [.bld 110 5 (l++zAl n (tx t))]:=by
 have hr:=repeat_ac ⟨#[32,32]⟩ n hn (by decide)
 have e0:bs (zAl n (tx t))=bs (Lib.repeatL [32,32] n)++t++⟨#[10]⟩:=by rw [zAl,<- zU,<- zU,zA8];rfl
 have hw:=zE7 (e:=EN) zJY l (bs (zAl n (tx t))) (by rw [zS,zAU,zAF];omega)
 rw [zAX,e0] at hw
 refine zCC 15 Tryz.func115 rfl rfl ?_
 intro pas s w he hp
 have e:(Lib.repeatL (tx ⟨#[32,32]⟩) n).length=2*n:=zBz _ n
 repeat' (first
|apply zBk 9 ([]) ([(8,[1000000])]) rfl (by kernel_rfl) (by kernel_rfl) (by kernel_rfl)
|apply zDn
|apply zDm rfl
 . conv=>lhs;whnf
 . conv=>lhs;whnf;arg 2;whnf
|apply zE3 rfl
 . conv=>lhs;whnf
 . conv=>lhs;whnf
 . first | exact hr
|apply zHT rfl
 . conv=>lhs;whnf
 . conv=>lhs;whnf
 . rfl
 . conv=>lhs;whnf;arg 1;whnf
 . first | exact hw
 . exact fun _=>rfl
 . exact fun _=>rfl
 . rfl
|show inO _ _=true;rfl
|refine zE0 ⟨?_,?_⟩
|exact (rfl:_=V.tup [])
|exact trivial)
 . exact ⟨rfl,trivial⟩
 . rw [ByteArray.size_append,zS,e]
   show 2*n+t.size+1<=maxLen
   unfold maxLen;omega
 . rw [zS,e]
   unfold maxLen;omega
end
section
def zBh (K:Nat) (s:D):List UInt8:=
 if (s.f 0).n=2 then [46,46,46]++tx (s.f 2).s++zB1 K (s.f 5).l
 else if (s.f 0).n=3 then [46,46,46]++(if tx (s.f 3).s=[] then [] else [32,111,110,32]++tx (s.f 3).s)++zB1 K (s.f 5).l
 else (if tx (s.f 1).s=[] then [] else tx (s.f 1).s++[58,32])++(tx (s.f 2).s++parT K (s.f 4).l++zB1 K (s.f 5).l)
def zBl (s:D):Bool:=(s.f 0).n==3||((s.f 0).n != 2&&(s.f 6).l.length != 0)
def selT (K:Nat) (inner:List D->List UInt8) (n:Nat) (s:D):List UInt8:=
 if zBl s=true then zAl n (zBh K s++[32,123])++inner (s.f 6).l++zAl n [125] else zAl n (zBh K s)
def selsT (K:Nat):Nat->Nat->List D->List UInt8
 |0,_,_=>[]
 |f+1,n,l=>(l.map (selT K (selsT K f (n+1)) n)).flatten
structure SelOk (K:Nat) (inner:List D->Prop) (s:D):Prop where
 args:ArgsOk K (s.f 4).l
 dirs:DirsOk K (s.f 5).l
 kind:(s.f 0).n=1\/((s.f 0).n=2/\(s.f 6).l=[])\/((s.f 0).n=3/\(s.f 6).l≠[])
 sub:inner (s.f 6).l
def SelsOk (K:Nat):Nat->List D->Prop
 |0,l=>l=[]
 |f+1,l => ∀ i,i<l.length->SelOk K (SelsOk K f) (gD l i)
theorem zFu (K:Nat) (s:D) (h:wideD s):(zBh K s).length+60*(wD (s.f 6))<=60*wD s+20:=by
 have hf:=zAd s 7
 simp only [sumN] at hf
 have h1:=zy (s.f 1)
 have h2:=zy (s.f 2)
 have h3:=zy (s.f 3)
 have h4:=zr (s.f 4)
 have h5:=zr (s.f 5)
 have t1:=zAF (s.f 1).s
 have t2:=zAF (s.f 2).s
 have t3:=zAF (s.f 3).s
 have p:=zFH K (s.f 4).l fun i=>(h.f 4).l i
 have q:=zH0 K (s.f 5).l fun i=>(h.f 5).l i
 unfold zBh
 split
 . simp only [List.length_append,List.length_cons,List.length_nil];omega
 split
 . split<;>simp only [List.length_append,List.length_cons,List.length_nil]<;>omega
 . split<;>simp only [List.length_append,List.length_cons,List.length_nil]<;>omega
theorem flat_le (l:List D) (f:D->List UInt8) (c:Nat) (h : ∀ i,i<l.length->(f (gD l i)).length<=c*bulkD (gD l i)):(l.map f).flatten.length<=c*bulkL l:=by
 induction l with
 |nil=>simp
 |cons x r ih =>
  have h0:=h 0 (by simp)
  have h1:=ih fun i hi=>h (i+1) (by simpa using hi)
  simp only [List.map_cons,List.flatten_cons,List.length_append,bulkL,Nat.mul_add]
  have e:gD (x::r) 0=x:=rfl
  rw [e] at h0
  omega
theorem zCV (K:Nat) : ∀ (f n:Nat) (l:List D),(∀ i,wideD (gD l i))->(selsT K f n l).length<=(4*(n+f)+70)*bulkL l
 |0,_,_,_=>by simp [selsT]
 |f+1,n,l,hw=>by
  unfold selsT
  refine flat_le l _ _ fun i hi => ?_
  have h:=hw i
  have hh:=zFu K (gD l i) h
  have hb:=zW (gD l i)
  have h6:=zr ((gD l i).f 6)
  have hs:=zCV K f (n+1) ((gD l i).f 6).l fun j=>(h.f 6).l j
  have hf6:=wD_f (gD l i) 6
  rw [show n+1+f=n+(f+1) by omega] at hs
  generalize hc:4*(n+(f+1))+70=c at hs |-
  have hc60:60<=c:=by omega
  have e1:c*bulkL ((gD l i).f 6).l<=c*wD ((gD l i).f 6):=Nat.mul_le_mul_left c h6
  obtain ⟨q,hq⟩:=Nat.exists_eq_add_of_le hf6
  have e2:c*bulkD (gD l i)=c*wD ((gD l i).f 6)+c*q+c:=by rw [hb,hq,Nat.mul_add,Nat.mul_add,Nat.mul_one]
  have e3:60*q<=c*q:=Nat.mul_le_mul_right q hc60
  unfold selT
  split
  . simp only [List.length_append,zAU,List.length_cons,List.length_nil];omega
  . simp only [zAU];omega
theorem zGQ {K f n:Nat} {l:List D} {i:Nat} (h:i<l.length):((l.take (i+1)).map (selT K (selsT K f (n+1)) n)).flatten=((l.take i).map (selT K (selsT K f (n+1)) n)).flatten++selT K (selsT K f (n+1)) n (gD l i):=by
 rw [List.take_succ_eq_append_getElem h,List.map_append,List.flatten_append,zAQ h]
 simp
theorem zBZ {K f n:Nat} {l:List D} (i:Nat):((l.take i).map (selT K (selsT K f (n+1)) n)).flatten.length<=(selsT K (f+1) n l).length:=by
 unfold selsT
 conv=>rhs;rw [<- List.take_append_drop i l,List.map_append,List.flatten_append,List.length_append]
 omega
end
section
open Go.RowKit
attribute [local irreducible] wpList Calls Code.wp AW AWo OpOk seqK zAG zAP loopK endK AC zt Yld Sub
attribute [local irreducible] ACB absLexG YldG
def befT (K f n:Nat) (l:List D) (i:Nat):List UInt8:=((l.take i).map (selT K (selsT K f (n+1)) n)).flatten
noncomputable def HsP (K f n:Nat) (l:List D) (bl:List UInt8) (i:Nat):Vst 85:=
 stS 85 [(0,.bx 1000000 0),(2,.c (.int .i64 n)),(9,.sl 76 l),(10,.c (.int .i64 l.length)),(11,.c (.int .i64 i))] [(1000000,.bld 110 5 (bl++befT K f n l i))]
theorem zH6 (K f n:Nat) (l:List D) (bl:List UInt8) (h:SelsOk K (f+1) l) (hw : ∀ i,wideD (gD l i)) (hb:bulkL l<=8388608) (hn:n+f<=300) (hlen:bl.length+(selsT K (f+1) n l).length<=80000000000+8000000000*n)
 (ih : ∀ i,i<l.length->((gD l i).f 6).l≠[] -> ∀ b2:List UInt8,b2.length+(selsT K f (n+1) ((gD l i).f 6).l).length<=80000000000+8000000000*(n+1)->ACB EN Tryz.prog 55 [.bx (pn 0) 0,.sl 76 ((gD l i).f 6).l,.c (.int .i64 ((n:Int)+1))] [.bld 110 5 b2] (.tup []) [.bld 110 5 (b2++selsT K f (n+1) ((gD l i).f 6).l)]) :
 ACB EN Tryz.prog 55 [.bx (pn 0) 0,.sl 76 l,.c (.int .i64 (n:Int))] [.bld 110 5 bl] (.tup []) [.bld 110 5 (bl++selsT K (f+1) n l)]:=by
 have hll:=zAK l
 refine zCC 85 Tryz.func55 rfl rfl ?_
 intro pas s w he hp
 repeat' (first
|refine zB ?_
|refine zC ?_
|refine zI ?_
|apply aw_1
 conv=>whnf
 refine ⟨?_,trivial⟩
|apply s_1
 conv=>whnf;arg 1;arg 4;arg 3;whnf
 refine ⟨?_,?_⟩
|exact trivial)
 refine zi (fun j st => ∃ i,i+j=l.length/\Sub ⟨Tryz.prog,pas,s,w,EN,he,hp,fun _ _ _=>False,[]⟩ st (HsP K f n l bl i)) l.length ⟨0,by omega,?_⟩ ?_
 . refine Sub.live ⟨rfl,rfl,rfl,rfl,rfl,trivial⟩ ⟨?_,trivial⟩
   show some (Res.bld _ _ bl)=some (Res.bld _ _ (bl++[]))
   rw [List.append_nil]
 . rintro j st ⟨i,hij,hs2⟩
   refine zf hs2 ?_
   by_cases hi:i<l.length
   . have hok:=h i hi
     have hda:=tail_ac K ((gD l i).f 5).l hok.dirs
     have haa:=argsP_ac K ((gD l i).f 4).l hok.args
     have hbe:(befT K f n l i).length<=(selsT K (f+1) n l).length:=zBZ i
     have hbe1:(befT K f n l (i+1)).length<=(selsT K (f+1) n l).length:=zBZ (i+1)
     have hnx:befT K f n l (i+1)=befT K f n l i++selT K (selsT K f (n+1)) n (gD l i):=zGQ hi
     have hhl:=zFu K (gD l i) (hw i)
     have hbi:=zu hi
     have hbw:=zW (gD l i)
     have hs1:((gD l i).f 1).s.size<=8388608:=by have:=zy ((gD l i).f 1);have:=wD_f (gD l i) 1;omega
     have hs2:((gD l i).f 2).s.size<=8388608:=by have:=zy ((gD l i).f 2);have:=wD_f (gD l i) 2;omega
     have hs3:((gD l i).f 3).s.size<=8388608:=by have:=zy ((gD l i).f 3);have:=wD_f (gD l i) 3;omega
     have hpa:(parT K ((gD l i).f 4).l).length<=320000000:=by have:=zFH K _ hok.args.wide;have:=hok.args.bulk;omega
     have hta:(zB1 K ((gD l i).f 5).l).length<=320000000:=by have:=zH0 K _ hok.dirs.wide;have:=hok.dirs.bulk;omega
     have ne3:(((gD l i).f 0).n==3)=true->((gD l i).f 6).l≠[]:=fun hk=>by
      have hk:((gD l i).f 0).n=3:=by simpa using hk
      rcases hok.kind with h1 | ⟨h1,_⟩ | ⟨_,h2⟩
      . omega
      . omega
      . exact h2
     have neL:((((gD l i).f 6).l.length:Int)==0)=false->((gD l i).f 6).l≠[]:=fun hk e=>by rw [e] at hk;simp at hk
     have hin:zBl (gD l i)=true->(befT K f n l i).length+(selsT K f (n+1) ((gD l i).f 6).l).length<=(selsT K (f+1) n l).length:=fun ho=>by
      have e:=congrArg List.length hnx
      rw [List.length_append,selT,if_pos ho] at e
      simp only [List.length_append] at e
      omega
     have hin3:(((gD l i).f 0).n==3)=true->(befT K f n l i).length+(selsT K f (n+1) ((gD l i).f 6).l).length<=(selsT K (f+1) n l).length:=fun hk=>hin (by unfold zBl;rw [hk];rfl)
     have op2:(((gD l i).f 0).n==2)=false->((((gD l i).f 6).l.length:Int)==0)=false->zBl (gD l i)=true:=fun h2 hk=>by
      unfold zBl
      have h0:(((gD l i).f 6).l.length != 0)=true:=by
       have : ¬ ((((gD l i).f 6).l.length:Int))=0:=by simpa using hk
       simp;exact fun e=>this (by rw [e];rfl)
      rw [h0,show (((gD l i).f 0).n != 2)=true by rw [bne,h2];rfl];simp
     have hinL:(((gD l i).f 0).n==2)=false->((((gD l i).f 6).l.length:Int)==0)=false->(befT K f n l i).length+(selsT K f (n+1) ((gD l i).f 6).l).length<=(selsT K (f+1) n l).length:=fun h2 hk=>hin (op2 h2 hk)
     repeat' (first
|apply zBk 10 ([(3,[7]),(6,[7])]) ([(9,[1000000])]) rfl (by kernel_rfl) (by kernel_rfl) (by kernel_rfl)
|apply zDn
|apply zDm rfl
 . conv=>lhs;whnf
 . conv=>lhs;whnf;arg 2;whnf
|apply zE3 rfl
 . conv=>lhs;whnf
 . conv=>lhs;whnf
 . first | exact hda | exact haa
|apply zHT rfl
 . conv=>lhs;whnf
 . conv=>lhs;whnf
 . rfl
 . conv=>lhs;whnf;arg 1;whnf
 . first | exact zDK _ n _ (by omega) (by simp only [ByteArray.size_append,zS,zh,List.size_toArray,List.length_append,List.length_cons,List.length_nil,zAU,zAF,Nat.reduceAdd,Int.toNat_natCast];omega) (by simp only [ByteArray.size_append,zS,zh,List.size_toArray,List.length_append,List.length_cons,List.length_nil,zAU,zAF,Nat.reduceAdd,Int.toNat_natCast];omega)
 . exact fun _=>rfl
 . exact fun _=>rfl
 . rfl
|show inO _ _=true;rfl
|apply zHE rfl
 . conv=>lhs;whnf
 . conv=>lhs;whnf
 . rfl
 . conv=>lhs;whnf;arg 1;whnf
 . first | exact zDK _ n _ (by omega) (by simp only [ByteArray.size_append,zS,zh,List.size_toArray,List.length_append,List.length_cons,List.length_nil,zAU,zAF,Nat.reduceAdd,Int.toNat_natCast];omega) (by simp only [ByteArray.size_append,zS,zh,List.size_toArray,List.length_append,List.length_cons,List.length_nil,zAU,zAF,Nat.reduceAdd,Int.toNat_natCast];omega) | exact zDK _ n _ (by omega) (by simp only [ByteArray.size_append,zS,zh,List.size_toArray,List.length_append,List.length_cons,List.length_nil,zAU,zAF,Nat.reduceAdd,Int.toNat_natCast] ;omega) (by have:=hin3 ‹_› ;simp only [ByteArray.size_append,zS,zh,List.size_toArray,List.length_append,List.length_cons,List.length_nil,zAU,zAF,Nat.reduceAdd,Int.toNat_natCast] ;omega) | exact zDK _ n _ (by omega) (by simp only [ByteArray.size_append,zS,zh,List.size_toArray,List.length_append,List.length_cons,List.length_nil,zAU,zAF,Nat.reduceAdd,Int.toNat_natCast] ;omega) (by have:=hinL ‹_› ‹_› ;simp only [ByteArray.size_append,zS,zh,List.size_toArray,List.length_append,List.length_cons,List.length_nil,zAU,zAF,Nat.reduceAdd,Int.toNat_natCast] ;omega) | exact ih i hi (ne3 ‹_›) _ (by have:=hin3 ‹_› ;simp only [ByteArray.size_append,zS,zh,List.size_toArray,List.length_append,List.length_cons,List.length_nil,zAU,zAF,Nat.reduceAdd,Int.toNat_natCast] ;omega) | exact ih i hi (neL ‹_›) _ (by have:=hinL ‹_› ‹_› ;simp only [ByteArray.size_append,zS,zh,List.size_toArray,List.length_append,List.length_cons,List.length_nil,zAU,zAF,Nat.reduceAdd,Int.toNat_natCast] ;omega)
 . exact fun _=>rfl
 . exact fun _=>rfl
|refine zB ?_
|refine zC ?_
|refine zI ?_
|refine zY ?_
|apply aw_1
 conv=>whnf
 refine ⟨?_,trivial⟩
|apply s_1
 conv=>whnf;arg 1;arg 4;arg 3;whnf
 refine ⟨?_,?_⟩
|apply zd rfl
 . conv=>lhs;whnf
 . conv=>lhs;whnf
 . first | exact hda | exact haa
|apply zX rfl rfl rfl
 . conv=>lhs;whnf
 . conv=>lhs;whnf;arg 1;whnf
 . conv=>lhs;whnf;arg 1;whnf
 . exact ⟨by kernel_rfl,by kernel_rfl⟩
 . rfl
|apply zAD (by kernel_rfl) (by kernel_rfl)
|apply zAq
|apply zAp rfl
 . conv=>lhs;whnf
 . conv=>lhs;whnf;arg 2;whnf
|apply zA9 rfl
 . conv=>lhs;whnf
 . conv=>lhs;whnf
 . first | exact hda | exact haa
|exact zj
|exact zx
|exact (1000000:Nat)
|refine zV (by conv=>lhs;whnf) ?_ ?_<;>intro hb
|refine zN ?_
|refine zJ rfl ?_
|refine zIR rfl ?_
|refine zK ?_
|refine zE0 ⟨?_,?_⟩
|exact (rfl:_=V.tup [])
|exact trivial)
     all_goals first
      |exact za (by omega)
      |((simp only [ByteArray.size_append,zS,zh,List.size_toArray,List.length_append,List.length_cons,List.length_nil,maxLen,Nat.reduceAdd,Int.toNat_natCast];omega);done)
      |exact zDt hb
      |skip
     . have hk:((gD l i).f 0).n=2:=by simpa using hb
       have ho:zBl (gD l i)=false:=by simp [zBl,hk]
       refine zE (j':=j-1) (by omega) ⟨i+1,by omega,Sub.live ⟨rfl,rfl,rfl,rfl,rfl,trivial⟩ ⟨?_,trivial⟩⟩
       show some (Res.bld _ _ (bl++befT K f n l i++zAl n (tx (⟨#[46,46,46]⟩++((gD l i).f 2).s++bs (zB1 K ((gD l i).f 5).l)))))=_
       rw [hnx,selT,if_neg (by rw [ho];decide),zBh,if_pos hk,zp,zp,zAX,List.append_assoc];rfl
     . rename_i h2 h3
       have hk:((gD l i).f 0).n=3:=by simpa using h3
       have ho:zBl (gD l i)=true:=by simp [zBl,hk]
       have he:tx ((gD l i).f 3).s≠[]:=s_ne hb
       refine zE (j':=j-1) (by omega) ⟨i+1,by omega,Sub.live ⟨rfl,rfl,rfl,rfl,rfl,trivial⟩ ⟨?_,trivial⟩⟩
       show some (Res.bld _ _ (bl++befT K f n l i++zAl n (tx (⟨#[46,46,46]⟩++(⟨#[32,111,110,32]⟩++((gD l i).f 3).s)++bs (zB1 K ((gD l i).f 5).l)++⟨#[32,123]⟩))++selsT K f (n+1) ((gD l i).f 6).l++zAl n (tx ⟨#[125]⟩)))=_
       rw [hnx,selT,if_pos ho,zBh,if_neg (by omega),if_pos hk,if_neg he]
       simp only [zp,zAX,List.append_assoc];rfl
     . rename_i h2 h3
       have hk:((gD l i).f 0).n=3:=by simpa using h3
       have ho:zBl (gD l i)=true:=by simp [zBl,hk]
       have he:tx ((gD l i).f 3).s=[]:=s_eq hb
       refine zE (j':=j-1) (by omega) ⟨i+1,by omega,Sub.live ⟨rfl,rfl,rfl,rfl,rfl,trivial⟩ ⟨?_,trivial⟩⟩
       show some (Res.bld _ _ (bl++befT K f n l i++zAl n (tx (⟨#[46,46,46]⟩++bs (zB1 K ((gD l i).f 5).l)++⟨#[32,123]⟩))++selsT K f (n+1) ((gD l i).f 6).l++zAl n (tx ⟨#[125]⟩)))=_
       rw [hnx,selT,if_pos ho,zBh,if_neg (by omega),if_pos hk,if_pos he]
       simp only [zp,zAX,List.append_assoc];rfl
     . rename_i h2 h3 ha
       have hk2 : ¬ ((gD l i).f 0).n=2:=by simpa using h2
       have hk3 : ¬ ((gD l i).f 0).n=3:=by simpa using h3
       have hl0:((gD l i).f 6).l.length=0:=by have:((((gD l i).f 6).l.length:Int))=0:=by simpa using hb
                                              omega
       have ho:zBl (gD l i)=false:=by simp [zBl,hk3,hl0]
       have he:tx ((gD l i).f 1).s≠[]:=s_ne ha
       refine zE (j':=j-1) (by omega) ⟨i+1,by omega,Sub.live ⟨rfl,rfl,rfl,rfl,rfl,trivial⟩ ⟨?_,trivial⟩⟩
       show some (Res.bld _ _ (bl++befT K f n l i++zAl n (tx (((gD l i).f 1).s++⟨#[58,32]⟩++(((gD l i).f 2).s++bs (parT K ((gD l i).f 4).l)++bs (zB1 K ((gD l i).f 5).l))))))=_
       rw [hnx,selT,if_neg (by rw [ho];decide),zBh,if_neg hk2,if_neg hk3,if_neg he]
       simp only [zp,zAX,List.append_assoc];rfl
     . rename_i h2 h3 ha
       have hk2 : ¬ ((gD l i).f 0).n=2:=by simpa using h2
       have hk3 : ¬ ((gD l i).f 0).n=3:=by simpa using h3
       have ho:zBl (gD l i)=true:=op2 h2 hb
       have he:tx ((gD l i).f 1).s≠[]:=s_ne ha
       refine zE (j':=j-1) (by omega) ⟨i+1,by omega,Sub.live ⟨rfl,rfl,rfl,rfl,rfl,trivial⟩ ⟨?_,trivial⟩⟩
       show some (Res.bld _ _ (bl++befT K f n l i++zAl n (tx (((gD l i).f 1).s++⟨#[58,32]⟩++(((gD l i).f 2).s++bs (parT K ((gD l i).f 4).l)++bs (zB1 K ((gD l i).f 5).l))++⟨#[32,123]⟩))++selsT K f (n+1) ((gD l i).f 6).l++zAl n (tx ⟨#[125]⟩)))=_
       rw [hnx,selT,if_pos ho,zBh,if_neg hk2,if_neg hk3,if_neg he]
       simp only [zp,zAX,List.append_assoc];rfl
     . rename_i h2 h3 ha
       have hk2 : ¬ ((gD l i).f 0).n=2:=by simpa using h2
       have hk3 : ¬ ((gD l i).f 0).n=3:=by simpa using h3
       have hl0:((gD l i).f 6).l.length=0:=by have:((((gD l i).f 6).l.length:Int))=0:=by simpa using hb
                                              omega
       have ho:zBl (gD l i)=false:=by simp [zBl,hk3,hl0]
       have he:tx ((gD l i).f 1).s=[]:=s_eq ha
       refine zE (j':=j-1) (by omega) ⟨i+1,by omega,Sub.live ⟨rfl,rfl,rfl,rfl,rfl,trivial⟩ ⟨?_,trivial⟩⟩
       show some (Res.bld _ _ (bl++befT K f n l i++zAl n (tx (⟨#[]⟩++(((gD l i).f 2).s++bs (parT K ((gD l i).f 4).l)++bs (zB1 K ((gD l i).f 5).l))))))=_
       rw [hnx,selT,if_neg (by rw [ho];decide),zBh,if_neg hk2,if_neg hk3,if_pos he]
       simp only [zp,zAX,List.append_assoc];rfl
     . rename_i h2 h3 ha
       have hk2 : ¬ ((gD l i).f 0).n=2:=by simpa using h2
       have hk3 : ¬ ((gD l i).f 0).n=3:=by simpa using h3
       have ho:zBl (gD l i)=true:=op2 h2 hb
       have he:tx ((gD l i).f 1).s=[]:=s_eq ha
       refine zE (j':=j-1) (by omega) ⟨i+1,by omega,Sub.live ⟨rfl,rfl,rfl,rfl,rfl,trivial⟩ ⟨?_,trivial⟩⟩
       show some (Res.bld _ _ (bl++befT K f n l i++zAl n (tx (⟨#[]⟩++(((gD l i).f 2).s++bs (parT K ((gD l i).f 4).l)++bs (zB1 K ((gD l i).f 5).l))++⟨#[32,123]⟩))++selsT K f (n+1) ((gD l i).f 6).l++zAl n (tx ⟨#[125]⟩)))=_
       rw [hnx,selT,if_pos ho,zBh,if_neg hk2,if_neg hk3,if_pos he]
       simp only [zp,zAX,List.append_assoc];rfl
     . have:l.length<=i:=zCo hb
       omega
   . have hno:decide ((i:Int)<(l.length:Int))=true->False:=fun h=>hi (zAL h)
     repeat' (first
|exact (hno ‹_›).elim
|refine zB ?_
|refine zC ?_
|refine zI ?_
|apply aw_1
 conv=>whnf
 refine ⟨?_,trivial⟩
|apply s_1
 conv=>whnf;arg 1;arg 4;arg 3;whnf
 refine ⟨?_,?_⟩
|refine zV (by conv=>lhs;whnf) ?_ ?_<;>intro hb
|refine zN ?_
|refine zJ rfl ?_
|refine zK ?_
|refine zE0 ⟨?_,?_⟩
|exact (rfl:_=V.tup [])
|exact trivial)
     refine ⟨?_,trivial⟩
     show some (Res.bld _ _ (bl++befT K f n l i))=_
     have e:i=l.length:=by omega
     rw [e,befT,List.take_length];rfl
theorem sels_acb (K:Nat) : ∀ (f n:Nat) (l:List D) (bl:List UInt8),SelsOk K (f+1) l->(∀ i,wideD (gD l i))->bulkL l<=8388608->n+f<=300->bl.length+(selsT K (f+1) n l).length<=80000000000+8000000000*n ->
 ACB EN Tryz.prog 55 [.bx (pn 0) 0,.sl 76 l,.c (.int .i64 (n:Int))] [.bld 110 5 bl] (.tup []) [.bld 110 5 (bl++selsT K (f+1) n l)]:=by
 intro f
 induction f with
 |zero =>
  intro n l bl h hw hb hn hlen
  exact zH6 K 0 n l bl h hw hb hn hlen fun i hi hne=>absurd (h i hi).sub hne
 |succ f ih =>
  intro n l bl h hw hb hn hlen
  refine zH6 K (f+1) n l bl h hw hb hn hlen fun i hi hne b2 hb2 => ?_
  have hbi:=zu hi
  have h6:=zr ((gD l i).f 6)
  have hf6:=wD_f (gD l i) 6
  have hbw:=zW (gD l i)
  exact ih (n+1) ((gD l i).f 6).l b2 (h i hi).sub (fun j=>((hw i).f 6).l j) (by omega) (by omega) hb2
end
section
open Go.RowKit
attribute [local irreducible] wpList Calls Code.wp AW AWo OpOk seqK zAG zAP loopK endK AC zt Yld Sub
theorem zAv {l:List UInt8} {e:ByteArray} (h:tx e=l):V.c (.string (bs l))=V.c (.string e):=by rw [<- h,zA8]
theorem zKS (l:List UInt8) : ∀ n,Lib.repeatL l (n+1)=Lib.repeatL l n++l
 |0=>by simp [Lib.repeatL]
 |n+1=>by
  show l++Lib.repeatL l (n+1)=(l++Lib.repeatL l n)++l
  rw [zKS l n,List.append_assoc]
noncomputable def HiR (n i:Nat):Vst 13:=stS 13 [(0,.c (.int .i64 n)),(3,.c (.string (bs (Lib.repeatL [32,32] i)))),(4,.c (.int .i64 i))] []
theorem indentR_ac (n:Nat) (hn:n<=1000000):AC EN Tryz.prog 118 [.c (.int .i64 (n:Int))] (.c (.string (bs (Lib.repeatL [32,32] n)))):=by
 refine zG 13 Tryz.func118 rfl rfl rfl rfl ?_
 intro s w he
 repeat' (first
|refine zB ?_
|refine zC ?_
|refine zI ?_
|apply aw_1
 conv=>whnf
 refine ⟨?_,trivial⟩
|apply s_1
 conv=>whnf;arg 1;arg 4;arg 3;whnf
 refine ⟨?_,?_⟩
|exact trivial)
 refine zi (fun j st => ∃ i,i+j=n/\Sub (cx EN Tryz.prog s w he) st (HiR n i)) n ⟨0,by omega,?_⟩ ?_
 . exact Sub.live ⟨rfl,rfl,rfl,trivial⟩ trivial
 . rintro j st ⟨i,hij,hs2⟩
   refine zf hs2 ?_
   have e:(Lib.repeatL [32,32] i).length=2*i:=zBz _ i
   repeat' (first
|refine zB ?_
|refine zC ?_
|refine zI ?_
|refine zY ?_
|apply aw_1
 conv=>whnf
 refine ⟨?_,trivial⟩
|apply s_1
 conv=>whnf;arg 1;arg 4;arg 3;whnf
 refine ⟨?_,?_⟩
|refine zV (by conv=>lhs;whnf) ?_ ?_<;>intro hb
|refine zN ?_
|refine zJ rfl ?_
|refine zK ?_
|refine zD ?_
|refine ⟨_,by conv=>lhs;whnf;arg 2;whnf,?_⟩;conv=>rhs;whnf
|exact trivial)
   . have hi:=zAL hb
     refine zE (j':=j-1) (by omega) ⟨i+1,by omega,Sub.live ⟨rfl,?_,rfl,trivial⟩ trivial⟩
     show V.c (.string (bs (Lib.repeatL [32,32] i)++⟨#[32,32]⟩))=_
     rw [zKS,<- zU];rfl
   . exact za (by omega)
   . rw [zS,e]
     show 2*i+2<=maxLen
     unfold maxLen;omega
   . have e2:i=n:=by have:=zCo hb;omega
     rw [e2]
theorem zBY (K:Nat) (l:List D):zB1 K l=if 0<l.length then [32]++zGI K l else []:=by
 unfold zB1
 by_cases h:l.length=0
 . rw [if_pos h,if_neg (by omega)]
 . rw [if_neg h,if_pos (by omega)]
theorem lineR_ac (K:Nat) (s:D) {Q:List D->Prop} (h:SelOk K Q s) (hs1:(s.f 1).s.size<=8388608) (hs2:(s.f 2).s.size<=8388608) (hs3:(s.f 3).s.size<=8388608) :
 AC EN Tryz.prog 119 [.agg (cellsV Tryz.prog 12 76 s)] (.c (.string (bs (zBh K s)))):=by
 have hda:=dirsR_ac K (s.f 5).l h.dirs
 have haa:=argsR_ac K (s.f 4).l h.args
 have hpa:(parT K (s.f 4).l).length<=320000000:=by have:=zFH K _ h.args.wide;have:=h.args.bulk;omega
 have hta:(zGI K (s.f 5).l).length<=320000000:=by have:=zDD K _ h.dirs.wide;have:=h.dirs.bulk;omega
 have hkd:=h.kind
 have hlt:decide (((s.f 5).l.length:Int)>0)=true->0<(s.f 5).l.length:=fun h=>by have:=of_decide_eq_true h;omega
 have hle:decide (((s.f 5).l.length:Int)>0)=false -> ¬ 0<(s.f 5).l.length:=fun h=>by have:=of_decide_eq_false h;omega
 refine zG 48 Tryz.func119 rfl rfl rfl rfl ?_
 intro s0 w he
 repeat' (first
|refine zB ?_
|refine zC ?_
|refine zI ?_
|refine zY ?_
|apply aw_1
 conv=>whnf
 refine ⟨?_,trivial⟩
|apply s_1
 conv=>whnf;arg 1;arg 4;arg 3;whnf
 refine ⟨?_,?_⟩
|apply zd rfl
 . conv=>lhs;whnf
 . conv=>lhs;whnf
 . first | exact hda | exact haa
|apply zAE rfl rfl rfl rfl
 . conv=>lhs;whnf;arg 1;whnf
 . rfl
|apply zAD (by kernel_rfl) (by kernel_rfl)
|apply zAq
|apply zAp rfl
 . conv=>lhs;whnf
 . conv=>lhs;whnf;arg 2;whnf
|apply zA9 rfl
 . conv=>lhs;whnf
 . conv=>lhs;whnf
 . first | exact hda | exact haa
|exact zj
|exact zx
|exact (1000000:Nat)
|refine zV (by conv=>lhs;whnf) ?_ ?_<;>intro hb
|refine zD ?_
|refine ⟨_,by conv=>lhs;whnf;arg 2;whnf,?_⟩;conv=>rhs;whnf
|exact trivial)
 all_goals first
  |((simp only [ByteArray.size_append,zS,zh,List.size_toArray,List.length_append,List.length_cons,List.length_nil,maxLen,Nat.reduceAdd,Int.toNat_natCast];omega);done)
  |skip
 . rename_i h1 ha
   have k1:(s.f 0).n=1:=by simpa using h1
   have a1 : ¬ tx (s.f 1).s=[]:=s_ne ha
   have t1:=hlt hb
   refine zAv ?_
   rw [zBh,if_neg (by omega),if_neg (by omega),if_neg a1,zBY,if_pos t1]
   simp only [zp,zAX,List.append_assoc];rfl
 . rename_i h1 ha
   have k1:(s.f 0).n=1:=by simpa using h1
   have a1 : ¬ tx (s.f 1).s=[]:=s_ne ha
   have t1:=hle hb
   refine zAv ?_
   rw [zBh,if_neg (by omega),if_neg (by omega),if_neg a1,zBY,if_neg t1]
   simp only [zp,zAX,List.append_assoc,List.append_nil];rfl
 . rename_i h1 ha
   have k1:(s.f 0).n=1:=by simpa using h1
   have a1:tx (s.f 1).s=[]:=s_eq ha
   have t1:=hlt hb
   refine zAv ?_
   rw [zBh,if_neg (by omega),if_neg (by omega),if_pos a1,zBY,if_pos t1]
   simp only [zp,zAX,List.append_assoc];rfl
 . rename_i h1 ha
   have k1:(s.f 0).n=1:=by simpa using h1
   have a1:tx (s.f 1).s=[]:=s_eq ha
   have t1:=hle hb
   refine zAv ?_
   rw [zBh,if_neg (by omega),if_neg (by omega),if_pos a1,zBY,if_neg t1]
   simp only [zp,zAX,List.append_assoc,List.append_nil];rfl
 . rename_i h1 h2
   have k2:(s.f 0).n=2:=by simpa using h2
   have t1:=hlt hb
   refine zAv ?_
   rw [zBh,if_pos k2,zBY,if_pos t1]
   simp only [zp,zAX,List.append_assoc];rfl
 . rename_i h1 h2
   have k2:(s.f 0).n=2:=by simpa using h2
   have t1:=hle hb
   refine zAv ?_
   rw [zBh,if_pos k2,zBY,if_neg t1]
   simp only [zp,zAX,List.append_assoc,List.append_nil];rfl
 . rename_i h1 h2 h3 ha
   have k3:(s.f 0).n=3:=by simpa using h3
   have a1 : ¬ tx (s.f 3).s=[]:=s_ne ha
   have t1:=hlt hb
   refine zAv ?_
   rw [zBh,if_neg (by omega),if_pos k3,if_neg a1,zBY,if_pos t1]
   simp only [zp,zAX,List.append_assoc];rfl
 . rename_i h1 h2 h3 ha
   have k3:(s.f 0).n=3:=by simpa using h3
   have a1 : ¬ tx (s.f 3).s=[]:=s_ne ha
   have t1:=hle hb
   refine zAv ?_
   rw [zBh,if_neg (by omega),if_pos k3,if_neg a1,zBY,if_neg t1]
   simp only [zp,zAX,List.append_assoc,List.append_nil];rfl
 . rename_i h1 h2 h3 ha
   have k3:(s.f 0).n=3:=by simpa using h3
   have a1:tx (s.f 3).s=[]:=s_eq ha
   have t1:=hlt hb
   refine zAv ?_
   rw [zBh,if_neg (by omega),if_pos k3,if_pos a1,zBY,if_pos t1]
   simp only [zp,zAX,List.append_assoc];rfl
 . rename_i h1 h2 h3 ha
   have k3:(s.f 0).n=3:=by simpa using h3
   have a1:tx (s.f 3).s=[]:=s_eq ha
   have t1:=hle hb
   refine zAv ?_
   rw [zBh,if_neg (by omega),if_pos k3,if_pos a1,zBY,if_neg t1]
   simp only [zp,zAX,List.append_assoc,List.append_nil];rfl
 all_goals
  exfalso
  rename_i h1 h2 h3
  have k1 : ¬ (s.f 0).n=1:=by simpa using h1
  have k2 : ¬ (s.f 0).n=2:=by simpa using h2
  have k3 : ¬ (s.f 0).n=3:=by simpa using h3
  omega
theorem len0 {n:Nat} (h:decide ((n:Int)>0)=false):n=0:=by have:=of_decide_eq_false h;omega
noncomputable def HlR (K f n:Nat) (l:List D) (i:Nat):Vst 48:=
 stS 48 [(0,.sl 76 l),(1,.c (.int .i64 n)),(5,.c (.string (bs (befT K f n l i)))),(6,.c (.int .i64 i))] []
theorem zGd (K f n:Nat) (l:List D) (h:SelsOk K (f+1) l) (hw : ∀ i,wideD (gD l i)) (hb:bulkL l<=8388608) (hn:n+f<=300)
 (ih : ∀ i,i<l.length->((gD l i).f 6).l≠[]->AC EN Tryz.prog 56 [.sl 76 ((gD l i).f 6).l,.c (.int .i64 ((n:Int)+1))] (.c (.string (bs (selsT K f (n+1) ((gD l i).f 6).l))))) :
 AC EN Tryz.prog 56 [.sl 76 l,.c (.int .i64 (n:Int))] (.c (.string (bs (selsT K (f+1) n l)))):=by
 have hll:=zAK l
 have hind:=indentR_ac n (by omega)
 have hrl:(Lib.repeatL [32,32] n).length=2*n:=zBz _ n
 have htot:(selsT K (f+1) n l).length<=16000000000:=by
  have h1:=zCV K (f+1) n l hw
  have h2:(4*(n+(f+1))+70)*bulkL l<=1300*8388608:=Nat.mul_le_mul (by omega) hb
  omega
 refine zG 48 Tryz.func56 rfl rfl rfl rfl ?_
 intro s w he
 repeat' (first
|refine zB ?_
|refine zC ?_
|refine zI ?_
|apply aw_1
 conv=>whnf
 refine ⟨?_,trivial⟩
|apply s_1
 conv=>whnf;arg 1;arg 4;arg 3;whnf
 refine ⟨?_,?_⟩
|exact trivial)
 refine zi (fun j st => ∃ i,i+j=l.length/\Sub (cx EN Tryz.prog s w he) st (HlR K f n l i)) l.length ⟨0,by omega,?_⟩ ?_
 . exact Sub.live ⟨rfl,rfl,rfl,rfl,trivial⟩ trivial
 . rintro j st ⟨i,hij,hs2⟩
   refine zf hs2 ?_
   have hbe:(befT K f n l i).length<=(selsT K (f+1) n l).length:=zBZ i
   by_cases hi:i<l.length
   . have hok:=h i hi
     have hnx:befT K f n l (i+1)=befT K f n l i++selT K (selsT K f (n+1)) n (gD l i):=zGQ hi
     have hbe1:(befT K f n l (i+1)).length<=(selsT K (f+1) n l).length:=zBZ (i+1)
     have hhl:=zFu K (gD l i) (hw i)
     have hbi:=zu hi
     have hbw:=zW (gD l i)
     have hs1:((gD l i).f 1).s.size<=8388608:=by have:=zy ((gD l i).f 1);have:=wD_f (gD l i) 1;omega
     have hs2:((gD l i).f 2).s.size<=8388608:=by have:=zy ((gD l i).f 2);have:=wD_f (gD l i) 2;omega
     have hs3:((gD l i).f 3).s.size<=8388608:=by have:=zy ((gD l i).f 3);have:=wD_f (gD l i) 3;omega
     have hline:=lineR_ac K (gD l i) hok hs1 hs2 hs3
     have hgt:decide ((((gD l i).f 6).l.length:Int)>0)=true->((gD l i).f 6).l≠[]:=fun h e=>by rw [e] at h;simp at h
     have hin:((gD l i).f 6).l≠[]->zBl (gD l i)=true:=fun hne=>by
      have h0:(((gD l i).f 6).l.length != 0)=true:=by simpa using hne
      unfold zBl
      rcases hok.kind with h1 | ⟨_,h2⟩ | ⟨h1,_⟩
      . rw [h0,h1];rfl
      . exact absurd h2 hne
      . rw [h1];rfl
     have hout:((gD l i).f 6).l=[]->zBl (gD l i)=false:=fun hne=>by
      unfold zBl
      rcases hok.kind with h1 | ⟨h1,_⟩ | ⟨_,h2⟩
      . rw [hne,h1];rfl
      . rw [h1];rfl
      . exact absurd hne h2
     have hse:((gD l i).f 6).l≠[]->(selsT K f (n+1) ((gD l i).f 6).l).length<=16000000000:=fun hne=>by
      have e:=congrArg List.length hnx
      rw [List.length_append,selT,if_pos (hin hne)] at e
      simp only [List.length_append] at e
      omega
     repeat' (first
|refine zB ?_
|refine zC ?_
|refine zI ?_
|refine zY ?_
|apply aw_1
 conv=>whnf
 refine ⟨?_,trivial⟩
|apply s_1
 conv=>whnf;arg 1;arg 4;arg 3;whnf
 refine ⟨?_,?_⟩
|apply zd rfl
 . conv=>lhs;whnf
 . conv=>lhs;whnf
 . first | exact hind | exact hline | exact ih i hi (hgt ‹_›)
|apply zAD (by kernel_rfl) (by kernel_rfl)
|apply zAq
|apply zAp rfl
 . conv=>lhs;whnf
 . conv=>lhs;whnf;arg 2;whnf
|apply zA9 rfl
 . conv=>lhs;whnf
 . conv=>lhs;whnf
 . first | exact hind | exact hline | exact ih i hi (hgt ‹_›)
|exact zj
|exact zx
|exact (1000000:Nat)
|refine zV (by conv=>lhs;whnf) ?_ ?_<;>intro hb
|refine zN ?_
|refine zJ rfl ?_
|refine zK ?_
|refine zD ?_
|refine ⟨_,by conv=>lhs;whnf;arg 2;whnf,?_⟩;conv=>rhs;whnf
|exact trivial)
     all_goals first
      |exact za (by omega)
      |((simp only [ByteArray.size_append,zS,zh,List.size_toArray,List.length_append,List.length_cons,List.length_nil,maxLen,Nat.reduceAdd,Int.toNat_natCast];omega);done)
      |(have:=hse (hgt hb);(simp only [ByteArray.size_append,zS,zh,List.size_toArray,List.length_append,List.length_cons,List.length_nil,maxLen,Nat.reduceAdd,Int.toNat_natCast];omega);done)
      |exact ⟨by omega,by omega⟩
      |skip
     . have hne:=hgt hb
       refine zE (j':=j-1) (by omega) ⟨i+1,by omega,Sub.live ⟨rfl,rfl,?_,rfl,trivial⟩ trivial⟩
       show V.c (.string (bs (befT K f n l i)++bs (Lib.repeatL [32,32] n)++bs (zBh K (gD l i))++⟨#[32,123,10]⟩++bs (selsT K f (n+1) ((gD l i).f 6).l)++bs (Lib.repeatL [32,32] n)++⟨#[125]⟩++⟨#[10]⟩))=V.c (.string (bs (befT K f n l (i+1))))
       refine (zAv ?_).symm
       rw [hnx,selT,if_pos (hin hne),zAl,zAl]
       simp only [zp,zAX,List.append_assoc];rfl
     . have hne:((gD l i).f 6).l=[]:=List.eq_nil_of_length_eq_zero (len0 hb)
       refine zE (j':=j-1) (by omega) ⟨i+1,by omega,Sub.live ⟨rfl,rfl,?_,rfl,trivial⟩ trivial⟩
       show V.c (.string (bs (befT K f n l i)++bs (Lib.repeatL [32,32] n)++bs (zBh K (gD l i))++⟨#[10]⟩))=V.c (.string (bs (befT K f n l (i+1))))
       refine (zAv ?_).symm
       rw [hnx,selT,if_neg (by rw [hout hne];decide),zAl]
       simp only [zp,zAX,List.append_assoc];rfl
     . have:l.length<=i:=zCo hb
       omega
   . have hno:decide ((i:Int)<(l.length:Int))=true->False:=fun h=>hi (zAL h)
     repeat' (first
|exact (hno ‹_›).elim
|refine zB ?_
|refine zC ?_
|refine zI ?_
|apply aw_1
 conv=>whnf
 refine ⟨?_,trivial⟩
|apply s_1
 conv=>whnf;arg 1;arg 4;arg 3;whnf
 refine ⟨?_,?_⟩
|refine zV (by conv=>lhs;whnf) ?_ ?_<;>intro hb
|refine zN ?_
|refine zJ rfl ?_
|refine zK ?_
|refine zD ?_
|refine ⟨_,by conv=>lhs;whnf;arg 2;whnf,?_⟩;conv=>rhs;whnf
|exact trivial)
     have e:i=l.length:=by omega
     rw [e,befT,List.take_length];rfl
theorem lines_ac (K:Nat) : ∀ (f n:Nat) (l:List D),SelsOk K (f+1) l->(∀ i,wideD (gD l i))->bulkL l<=8388608->n+f<=300 ->
 AC EN Tryz.prog 56 [.sl 76 l,.c (.int .i64 (n:Int))] (.c (.string (bs (selsT K (f+1) n l)))):=by
 intro f
 induction f with
 |zero =>
  intro n l h hw hb hn
  exact zGd K 0 n l h hw hb hn fun i hi hne=>absurd (h i hi).sub hne
 |succ f ih =>
  intro n l h hw hb hn
  refine zGd K (f+1) n l h hw hb hn fun i hi hne => ?_
  have hbi:=zu hi
  have h6:=zr ((gD l i).f 6)
  have hf6:=wD_f (gD l i) 6
  have hbw:=zW (gD l i)
  exact ih (n+1) ((gD l i).f 6).l (h i hi).sub (fun j=>((hw i).f 6).l j) (by omega) (by omega)
theorem zKO (K f:Nat) (l:List D) (h:SelsOk K (f+1) l) (hw : ∀ i,wideD (gD l i)) (hb:bulkL l<=8388608) (hf:f<=299) :
 AC EN Tryz.prog 27 [.sl 76 l] (.c (.string (bs (selsT K (f+1) 1 l)))):=by
 have hl:=lines_ac K f 1 l h hw hb (by omega)
 refine zG 5 Tryz.func27 rfl rfl rfl rfl ?_
 intro s w he
 repeat' (first
|refine zB ?_
|refine zC ?_
|refine zI ?_
|apply aw_1
 conv=>whnf
 refine ⟨?_,trivial⟩
|apply s_1
 conv=>whnf;arg 1;arg 4;arg 3;whnf
 refine ⟨?_,?_⟩
|apply zd rfl
 . conv=>lhs;whnf
 . conv=>lhs;whnf
 . first | exact hl
|refine zD ?_
|refine ⟨_,by conv=>lhs;whnf;arg 2;whnf,?_⟩;conv=>rhs;whnf
|exact trivial)
def zBc (k:Int):List UInt8:=if k=2 then [109,117,116,97,116,105,111,110] else if k=3 then [115,117,98,115,99,114,105,112,116,105,111,110] else [113,117,101,114,121]
def varT (K:Nat) (v:D):List UInt8:=[36]++tx (v.f 0).s++[58,32]++refB (tx ((v.f 1).f 0).s) ((v.f 1).f 1).l++(if (v.f 2).b=true then [32,61,32]++valT K (v.f 3) else [])
def zHp (K:Nat) (l:List D):List UInt8:=Lib.join (l.map (varT K)) commaT
def opT (K:Nat) (o:D):List UInt8:=
 if (o.f 0).n=1/\tx (o.f 1).s=[]/\(o.f 2).l.length=0 then [123]
 else zBc (o.f 0).n++(if tx (o.f 1).s=[] then [] else [32]++tx (o.f 1).s)++(if (o.f 2).l.length=0 then [] else [40]++zHp K (o.f 2).l++[41])++[32,123]
structure VarsOk (K:Nat) (l:List D):Prop where
 wide : ∀ i,wideD (gD l i)
 bulk:bulkL l<=8388608
 dp : ∀ i,i<l.length->Dp K ((gD l i).f 3)
 good : ∀ i,i<l.length->goodV K ((gD l i).f 3)
theorem varT_len (K:Nat) (v:D) (h:wideD v):(varT K v).length+2<=40*bulkD v:=by
 have h1:=zBW K (v.f 3) (h.f 3)
 have h2:=zW (v.f 3)
 have h3:=zW v
 have h4:=zy (v.f 0)
 have h5:=zAd v 4
 have h6:=zAF (v.f 0).s
 have h7:=zCh (tx ((v.f 1).f 0).s) ((v.f 1).f 1).l
 have h8:=zAd (v.f 1) 2
 have h9:=zy ((v.f 1).f 0)
 have h10:=zAF ((v.f 1).f 0).s
 have h11:=Nat.le_trans (zAK ((v.f 1).f 1).l) (zr ((v.f 1).f 1))
 simp only [sumN] at h5 h8
 unfold varT
 split<;>simp only [List.length_append,List.length_cons,List.length_nil]<;>omega
theorem zFV (K:Nat) (l:List D) (h : ∀ i,wideD (gD l i)):(zHp K l).length<=40*bulkL l:=zBU l _ _ _ fun i _=>varT_len K _ (h i)
theorem refP_d (x:D) (hn:(x.f 0).s.size<=16000000) (hl:(x.f 1).l.length<=16000000):AC EN Tryz.prog 121 [.agg (cellsV Tryz.prog 12 71 x)] (.c (.string (bs (refB (tx (x.f 0).s) (x.f 1).l)))):=by
 have:=refP_ac (tx (x.f 0).s) (x.f 1).l (by rw [zAF];exact hn) hl
 rw [zA8] at this
 exact this
theorem refR_d (x:D) (hn:(x.f 0).s.size<=16000000) (hl:(x.f 1).l.length<=16000000):AC EN Tryz.prog 124 [.agg (cellsV Tryz.prog 12 71 x)] (.c (.string (bs (refB (tx (x.f 0).s) (x.f 1).l)))):=by
 have:=refR_ac (tx (x.f 0).s) (by rw [zAF];exact hn) (x.f 1).l hl
 rw [zA8] at this
 exact this
structure VarSz (K:Nat) (v:D):Prop where
 name:(v.f 0).s.size<=8388608
 rname:((v.f 1).f 0).s.size<=8388608
 wraps:((v.f 1).f 1).l.length<=8388608
 rtext:(refB (tx ((v.f 1).f 0).s) ((v.f 1).f 1).l).length<=32000000
 dflt:bulkD (v.f 3)<=8388608
 dtext:(valT K (v.f 3)).length<=208000000
theorem VarsOk.sz {K:Nat} {l:List D} (h:VarsOk K l) {i:Nat} (hi:i<l.length):VarSz K (gD l i):=by
 have h0:=zu hi
 have h0':=h.bulk
 have h1:=zBW K ((gD l i).f 3) ((h.wide i).f 3)
 have h2:=zW ((gD l i).f 3)
 have h3:=zW (gD l i)
 have h4:=zy ((gD l i).f 0)
 have h5:=zAd (gD l i) 4
 have h7:=zCh (tx (((gD l i).f 1).f 0).s) (((gD l i).f 1).f 1).l
 have h8:=zAd ((gD l i).f 1) 2
 have h9:=zy (((gD l i).f 1).f 0)
 have h10:=zAF (((gD l i).f 1).f 0).s
 have h11:=Nat.le_trans (zAK (((gD l i).f 1).f 1).l) (zr (((gD l i).f 1).f 1))
 simp only [sumN] at h5 h8
 refine ⟨?_,?_,?_,?_,?_,?_⟩<;>omega
theorem word_ac (k:Int):AC EN Tryz.prog 120 [.c (.int .i64 k)] (.c (.string (bs (zBc k)))):=by
 refine zG 8 Tryz.func120 rfl rfl rfl rfl ?_
 intro s w he
 repeat' (first
|refine zB ?_
|refine zC ?_
|refine zI ?_
|refine zY ?_
|apply aw_1
 conv=>whnf
 refine ⟨?_,trivial⟩
|apply s_1
 conv=>whnf;arg 1;arg 4;arg 3;whnf
 refine ⟨?_,?_⟩
|refine zV (by conv=>lhs;whnf) ?_ ?_<;>intro hb
|refine zO ?_
|refine zT ?_
|refine zD ?_
|refine ⟨_,by conv=>lhs;whnf;arg 2;whnf,?_⟩;conv=>rhs;whnf
|exact trivial)
 . rw [zBc,if_pos (by simpa using hb)];rfl
 . rename_i h2
   rw [zBc,if_neg (by simpa using h2),if_pos (by simpa using hb)];rfl
 . rename_i h2
   rw [zBc,if_neg (by simpa using h2),if_neg (by simpa using hb)];rfl
theorem zFT (k:Int):(zBc k).length<=12:=by
 unfold zBc
 split
 . simp
 . split<;>simp
def zAz (o:D):List UInt8:=zBc (o.f 0).n++(if tx (o.f 1).s=[] then [] else [32]++tx (o.f 1).s)
noncomputable def HhA (o:D):Vst 72:=stS 72 [(1,.bx 1 0)] [(1,.box 57 (cellsV Tryz.prog 12 57 o))]
noncomputable def HhB (o:D):Vst 72:=stS 72 [(1,.bx 1 0),(3,.c (.string (bs (zAz o))))] [(1,.box 57 (cellsV Tryz.prog 12 57 o))]
theorem leq0 {n:Nat} (h:(((n:Int))==0)=true):n=0:=by
 have:(n:Int)=0:=by simpa using h
 omega
noncomputable def HhP (K:Nat) (o:D) (i:Nat):Vst 72:=
 stS 72 [(3,.c (.string (bs (zAz o)))),(4,.own 4 9 (zl (fun i=>varT K (gD (o.f 2).l i)) i)),(34,.sl 88 (o.f 2).l),(35,.c (.int .i64 (o.f 2).l.length)),(36,.c (.int .i64 i))] [(4,.tok 9 (zl (fun i=>varT K (gD (o.f 2).l i)) i).length)]
theorem opHead_ac (K:Nat) (o:D) (h:VarsOk K (o.f 2).l) (hn:(o.f 1).s.size<=8388608):AC EN Tryz.prog 58 [.agg (cellsV Tryz.prog 12 57 o)] (.c (.string (bs (opT K o)))):=by
 have hw:=word_ac (o.f 0).n
 have hwl:=zFT (o.f 0).n
 have hll:=Nat.le_trans (zAK (o.f 2).l) h.bulk
 have hvl:(zHp K (o.f 2).l).length<=400000000:=by have:=zFV K _ h.wide;have:=h.bulk;omega
 have hj:=zCR (zl (fun i=>varT K (gD (o.f 2).l i)) (o.f 2).l.length) [44,32] (by rw [zv];omega) (by rw [zAT];exact Nat.le_trans hvl (by omega))
 rw [zAT] at hj
 have hnl:(zAz o).length<=8388700:=by
  have:=zAF (o.f 1).s
  unfold zAz
  split<;>simp only [List.length_append,List.length_cons,List.length_nil]<;>omega
 by_cases hc:(o.f 0).n=1/\tx (o.f 1).s=[]/\(o.f 2).l.length=0
 . have k1:(((o.f 0).n==1)==true)=false->False:=fun h=>by rw [hc.1] at h;cases h
   have k2:(((o.f 1).s.toList==(⟨#[]⟩:ByteArray).toList)==true)=false->False:=fun h=>e_ne (bF1 h) hc.2.1
   have k3:((((o.f 2).l.length:Int))==0)=false->False:=fun h=>by rw [hc.2.2] at h;cases h
   refine zG 72 Tryz.func58 rfl rfl rfl rfl ?_
   intro s w he
   repeat' (first
|exact (k1 ‹_›).elim
|exact (k2 ‹_›).elim
|exact (k3 ‹_›).elim
|refine zB ?_
|refine zC ?_
|refine zI ?_
|apply aw_1
 conv=>whnf
 refine ⟨?_,trivial⟩
|apply ze rfl rfl
 . conv=>lhs;whnf
 . conv=>lhs;whnf
 . first | exact bT1 ‹_› | exact bT2 ‹_›
|apply s_1
 conv=>whnf;arg 1;arg 4;arg 3;whnf
 refine ⟨?_,?_⟩
|apply zAE rfl rfl rfl rfl
 . conv=>lhs;whnf;arg 1;whnf
 . rfl
|apply zF rfl
 . conv=>lhs;whnf
 . conv=>lhs;whnf
 . first | rfl | assumption
 . conv=>lhs;whnf;arg 2;whnf
|apply zBR rfl
 . conv=>lhs;whnf
 . conv=>lhs;whnf
 . conv=>lhs;whnf;arg 2;whnf
|refine zV (by conv=>lhs;whnf) ?_ ?_<;>intro hb
|refine zO ?_
|refine zD ?_
|refine ⟨_,by conv=>lhs;whnf;arg 2;whnf,?_⟩;conv=>rhs;whnf
|exact trivial
|intro hg)
   rw [opT,if_pos hc];rfl
 . have kf:(((o.f 0).n==1)==true)=true->(((o.f 1).s.toList==(⟨#[]⟩:ByteArray).toList)==true)=true->((((o.f 2).l.length:Int))==0)=true->False:=fun h1 h2 h3=>hc ⟨by simpa using bT1 h1,e_eq (bT1 h2),leq0 h3⟩
   refine zG 72 Tryz.func58 rfl rfl rfl rfl ?_
   intro s w he
   repeat' (first
|apply zAW 3 (HhA o) rfl
|apply zAW 6 (HhB o) rfl
|exact (kf ‹_› ‹_› ‹_›).elim
|refine zEj ?_
|refine zB ?_
|refine zC ?_
|refine zI ?_
|apply aw_1
 conv=>whnf
 refine ⟨?_,trivial⟩
|apply ze rfl rfl
 . conv=>lhs;whnf
 . conv=>lhs;whnf
 . first | exact bT1 ‹_› | exact bT2 ‹_›
|apply zZ rfl rfl
 . conv=>lhs;whnf
 . conv=>lhs;whnf
 . first | exact bF1 ‹_› | exact bF2 ‹_›
|apply s_1
 conv=>whnf;arg 1;arg 4;arg 3;whnf
 refine ⟨?_,?_⟩
|apply zd rfl
 . conv=>lhs;whnf
 . conv=>lhs;whnf
 . first | exact hw
|apply zAE rfl rfl rfl rfl
 . conv=>lhs;whnf;arg 1;whnf
 . rfl
|apply zF rfl
 . conv=>lhs;whnf
 . conv=>lhs;whnf
 . first | rfl | assumption
 . conv=>lhs;whnf;arg 2;whnf
|apply zH8 rfl
 . conv=>lhs;whnf
 . conv=>lhs;whnf
 . first | rfl | assumption
|apply zBR rfl
 . conv=>lhs;whnf
 . conv=>lhs;whnf
 . conv=>lhs;whnf;arg 2;whnf
|refine zV (by conv=>lhs;whnf) ?_ ?_<;>intro hb
|exact trivial
|intro hg)
   all_goals first
    |exact Sub.live ⟨rfl,trivial⟩ ⟨rfl,trivial⟩
    |((simp only [ByteArray.size_append,zS,zh,List.size_toArray,List.length_append,List.length_cons,List.length_nil,maxLen,Nat.reduceAdd,Int.toNat_natCast];omega);done)
    |skip
   . have hne : ¬ tx (o.f 1).s=[]:=s_ne hb
     refine Sub.live ⟨rfl,?_,trivial⟩ ⟨rfl,trivial⟩
     show V.c (.string (bs (zBc (o.f 0).n)++(⟨#[32]⟩++(o.f 1).s)))=V.c (.string (bs (zAz o)))
     refine (zAv ?_).symm
     rw [zAz,if_neg hne]
     simp only [zp,zAX];rfl
   . have hne:tx (o.f 1).s=[]:=s_eq hb
     refine Sub.live ⟨rfl,?_,trivial⟩ ⟨rfl,trivial⟩
     show V.c (.string (bs (zBc (o.f 0).n)))=V.c (.string (bs (zAz o)))
     rw [zAz,if_pos hne,List.append_nil]
   . refine zf (Sub.own (t:=4) (e:=9) rfl rfl) ?_
     refine zi (fun j st => ∃ i,i+j=(o.f 2).l.length/\Sub (cx EN Tryz.prog s w he) st (HhP K o i)) (o.f 2).l.length ⟨0,by omega,?_⟩ ?_
     . exact Sub.live ⟨rfl,rfl,rfl,rfl,rfl,trivial⟩ ⟨rfl,trivial⟩
     . rintro j st ⟨i,hij,hs2⟩
       refine zf hs2 ?_
       have htk:=zv (fun i=>varT K (gD (o.f 2).l i)) i
       have hj2:decide ((i:Int)<((o.f 2).l.length:Int))=false->AC EN Tryz.prog 59 [.sl 9 (zl (fun i=>varT K (gD (o.f 2).l i)) i),.c (.string (bs [44,32]))] (.c (.string (bs (zHp K (o.f 2).l)))):=fun hh=>by
        have e:i=(o.f 2).l.length:=by have:=zCo hh;omega
        rw [e];exact hj
       have hv:decide ((i:Int)<((o.f 2).l.length:Int))=true->AC EN Tryz.prog 122 [.agg (cellsV Tryz.prog 12 84 ((gD (o.f 2).l i).f 3))] (.c (.string (bs (valT K ((gD (o.f 2).l i).f 3))))):=fun hh =>
        zD2 K _ (h.dp i (zAL hh)) ((h.wide i).f 3) (h.good i (zAL hh)) (h.sz (zAL hh)).dflt
       have hr:decide ((i:Int)<((o.f 2).l.length:Int))=true->AC EN Tryz.prog 121 [.agg (cellsV Tryz.prog 12 71 ((gD (o.f 2).l i).f 1))] (.c (.string (bs (refB (tx (((gD (o.f 2).l i).f 1).f 0).s) (((gD (o.f 2).l i).f 1).f 1).l)))):=fun hh=>by
        have z:=h.sz (zAL hh)
        exact refP_d _ (Nat.le_trans z.rname (by omega)) (Nat.le_trans z.wraps (by omega))
       have z:i<(o.f 2).l.length->VarSz K (gD (o.f 2).l i):=fun hh=>h.sz hh
       by_cases hi:i<(o.f 2).l.length
       . obtain ⟨z1,z2,z3,z4,z5,z6⟩:=z hi
         repeat' (first
|refine zB ?_
|refine zC ?_
|refine zI ?_
|refine zY ?_
|apply aw_1
 conv=>whnf
 refine ⟨?_,trivial⟩
|apply s_1
 conv=>whnf;arg 1;arg 4;arg 3;whnf
 refine ⟨?_,?_⟩
|apply zd rfl
 . conv=>lhs;whnf
 . conv=>lhs;whnf
 . first | exact hv ‹_› | exact hr ‹_› | exact hj2 ‹_›
|apply zX rfl rfl rfl
 . conv=>lhs;whnf
 . conv=>lhs;whnf;arg 1;whnf
 . conv=>lhs;whnf;arg 1;whnf
 . exact ⟨by kernel_rfl,by kernel_rfl⟩
 . rfl
|apply zCD rfl rfl
 . conv=>lhs;whnf
 . first | exact zw | (conv=>lhs;whnf;arg 1;whnf)
 . first | exact fun _=>rfl | (intro _;kernel_rfl)
 . conv=>lhs;whnf
 . conv=>lhs;whnf;arg 1;whnf
 . conv=>lhs;whnf
|apply zDb rfl rfl
 . conv=>lhs;whnf
 . first | exact zw | (conv=>lhs;whnf;arg 1;whnf)
 . conv=>lhs;whnf;arg 1;whnf
 . rfl
 . rfl
|apply zAD (by kernel_rfl) (by kernel_rfl)
|apply zAq
|apply zAp rfl
 . conv=>lhs;whnf
 . conv=>lhs;whnf;arg 2;whnf
|apply zA9 rfl
 . conv=>lhs;whnf
 . conv=>lhs;whnf
 . first | exact hv ‹_› | exact hr ‹_› | exact hj2 ‹_›
|exact zj
|exact zx
|exact (1000000:Nat)
|refine zV (by conv=>lhs;whnf) ?_ ?_<;>intro hb
|refine zN ?_
|refine zJ rfl ?_
|refine zK ?_
|refine zD ?_
|refine ⟨_,by conv=>lhs;whnf;arg 2;whnf,?_⟩;conv=>rhs;whnf
|exact trivial)
         all_goals first
          |exact za (by omega)
          |exact zBq (by omega) (by omega)
          |((simp only [ByteArray.size_append,zS,zh,List.size_toArray,List.length_append,List.length_cons,List.length_nil,maxLen,Nat.reduceAdd,Int.toNat_natCast];omega);done)
          |exact zDt hb
          |skip
         . have hhas:((gD (o.f 2).l i).f 2).b=true:=hb
           refine zE (j':=j-1) (by omega) ⟨i+1,by omega,Sub.live ⟨rfl,?_,rfl,rfl,rfl,trivial⟩ ⟨?_,trivial⟩⟩
           . show V.own 4 _ (zl _ i++[.str (⟨#[36]⟩++((gD (o.f 2).l i).f 0).s++⟨#[58,32]⟩++bs (refB (tx (((gD (o.f 2).l i).f 1).f 0).s) (((gD (o.f 2).l i).f 1).f 1).l)++(⟨#[32,61,32]⟩++bs (valT K ((gD (o.f 2).l i).f 3))))])=_
             rw [zn,varT,if_pos hhas,<- zU,<- zU,<- zU,<- zU,<- zU,zA8];rfl
           . show some (Res.tok _ ((zl _ i).length+1))=_
             rw [zn,List.length_append];rfl
         . have hhas : ¬ ((gD (o.f 2).l i).f 2).b=true:=by
            have:((gD (o.f 2).l i).f 2).b=false:=hb
            rw [this];decide
           refine zE (j':=j-1) (by omega) ⟨i+1,by omega,Sub.live ⟨rfl,?_,rfl,rfl,rfl,trivial⟩ ⟨?_,trivial⟩⟩
           . show V.own 4 _ (zl _ i++[.str (⟨#[36]⟩++((gD (o.f 2).l i).f 0).s++⟨#[58,32]⟩++bs (refB (tx (((gD (o.f 2).l i).f 1).f 0).s) (((gD (o.f 2).l i).f 1).f 1).l))])=_
             rw [zn,varT,if_neg hhas,List.append_nil,<- zU,<- zU,<- zU,zA8];rfl
           . show some (Res.tok _ ((zl _ i).length+1))=_
             rw [zn,List.length_append];rfl
         all_goals
          rename_i h0
          have:=zCo h0
          omega
       . have hno:decide ((i:Int)<((o.f 2).l.length:Int))=true->False:=fun h=>hi (zAL h)
         have e:i=(o.f 2).l.length:=by omega
         repeat' (first
|exact (hno ‹_›).elim
|refine zB ?_
|refine zC ?_
|refine zI ?_
|apply aw_1
 conv=>whnf
 refine ⟨?_,trivial⟩
|apply s_1
 conv=>whnf;arg 1;arg 4;arg 3;whnf
 refine ⟨?_,?_⟩
|apply zd rfl
 . conv=>lhs;whnf
 . conv=>lhs;whnf
 . first | exact hv ‹_› | exact hr ‹_› | exact hj2 ‹_›
|refine zV (by conv=>lhs;whnf) ?_ ?_<;>intro hb
|refine zN ?_
|refine zJ rfl ?_
|refine zK ?_
|refine zD ?_
|refine ⟨_,by conv=>lhs;whnf;arg 2;whnf,?_⟩;conv=>rhs;whnf
|exact trivial)
         all_goals first
          |((simp only [ByteArray.size_append,zS,zh,List.size_toArray,List.length_append,List.length_cons,List.length_nil,maxLen,Nat.reduceAdd,Int.toNat_natCast];omega);done)
          |skip
         . have hp : ¬ (o.f 2).l.length=0:=by rw [htk] at hb;have:=of_decide_eq_true hb;omega
           refine zAv ?_
           rw [opT,if_neg hc,if_neg hp,<- zAz]
           simp only [zp,zAX,List.append_assoc];rfl
         . have hp:(o.f 2).l.length=0:=by rw [htk] at hb;have:=of_decide_eq_false hb;omega
           refine zAv ?_
           rw [opT,if_neg hc,if_pos hp,<- zAz,List.append_nil]
           simp only [zp,zAX,List.append_assoc];rfl
end
end Go.Proofs.YthjiclhfhjdjpaaGreatDoor
