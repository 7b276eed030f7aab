import Derived.Shelf.Strings.IndexAnyAll
import Derived.Shelf.Strconv.Escaped
import Derived.Laws.Runes
import Derived.WalkMore
import Derived.Shelf.RegionOpenPlain
import Derived.Lib.OthersKept
import Derived.Test.YthjiclhfhjdjpaaGreatDoorQ29
set_option maxHeartbeats 8000000
set_option maxRecDepth 1000000
set_option linter.unusedVariables false
set_option linter.unusedSimpArgs false
namespace Go.Proofs.YthjiclhfhjdjpaaGreatDoor
open Go.Shelf Go.RowKit Go.Lib
variable {P : Program} {ρ : Ren}
theorem zDu {l : List UInt8} {b : UInt8} (h : ∀ c ∈ l,c.toNat < 128) (hb : 128 <= b.toNat) : Lib.indexByte l b = -1:=by
 have : l.contains b = false:=by
  rw [Bool.eq_false_iff]
  intro hc
  have:=h _ (List.contains_iff_mem.1 hc); omega
 have h2:=Lib.contains_iff_indexByte l b
 rw [this] at h2
 have h3 : ¬ (0 : Int) <= Lib.indexByte l b:=of_decide_eq_false h2.symm
 have h4:=Lib.indexAny_ge [b] l
 rw [Lib.indexAny_one] at h4
 omega
theorem zBF (L : Lays.n152 P ρ) (mixed : P.follows .mixedOrders = true) (s : ByteArray) (r : Int) (w : World) (h0 : 128 <= r) (h1 : r ≠ 65533) (hv : Lib.validRune r = true) (_hs : s.size < 1000) (hascii : ∀ (j : Nat) b,s.data.toList[j]? = some b -> b.toNat < 128) :
 Calls P (ρ.f 152) #[.string s,.int .i32 r] w fun e w' => e = .returned (.int .i64 (-1)) /\ (w' = w \/ w' = w.drew.drew):=by
 have HA : Aside (∀ (j : Nat) b,s.data.toList[j]? = some b -> b.toNat < 128):=hascii
 clear hascii
 have t3:=L.t3; have a3:=L.a3; have z3:=L.z3; have v3:=L.v3
 have t4:=L.t4; have a4:=L.a4; have z4:=L.z4; have v4:=L.v4
 have t5:=L.t5; have a5:=L.a5; have z5:=L.z5; have v5:=L.v5
 have t9:=L.t9; have a9:=L.a9; have z9:=L.z9; have v9:=L.v9
 have t21:=L.t21; have a21:=L.a21; have z21:=L.z21; have v21:=L.v21
 have e137 : ∀ args w,(callFunc (ρ.f 137) args).run P w = .ok (.enter (ρ.f 137) args) w:=enters_of L.f137 (by kernel_rfl) rfl
 have e119 : ∀ args w,(callFunc (ρ.f 119) args).run P w = .ok (.enter (ρ.f 119) args) w:=enters_of L.f119 (by kernel_rfl) rfl
 have n1 : decide (r < 128) = false:=decide_eq_false (by omega)
 have n0 : (0 : Int) <= r:=by omega
 have n01 : decide ((0 : Int) <= r) = true:=decide_eq_true n0
 have n3 : ¬ r < 128:=by omega
 have n2 : (r == 65533) = false:=beq_eq_false_iff_ne.2 h1
 have hvu : Utf8.valid r = true:=by rw [validRune_eq]; exact hv
 obtain ⟨m1,m2,m3⟩:=encode_facts r hvu h0
 have hconv : ∀ w,(convert (ρ.t 21) (ρ.t 9) (.int .i32 r)).run P w = .ok (.string (Utf8.encode r)) w:=fun w => run_convert_int_string w _ _ _ _ (by rw [t21]; rfl) t9
 generalize Utf8.encode r = rs at hconv m1 m2 m3
 obtain ⟨k,hk⟩ : ∃ k,rs.size = k + 1:=⟨rs.size - 1,by omega⟩
 have hw1 : IntKind.i64.wrap ((rs.size : Int) - 1) = (k : Int):=by rw [Go.wrap_small _ (by omega) (by omega)]; omega
 go_enter L.f152,Body.n152_ntmps ρ
 go_wp2_with (first
  | (go_at_fn (ρ.f 119); refine (Any.utf8_ValidRune { L with } _ _).mono ?_; rintro e w' ⟨rfl,hw⟩; rw [hw,hv])
  | (go_at_fn (ρ.f 137); refine (Any.strings_IndexByte { L with } _ _ _).mono ?_; rintro e w' ⟨rfl,hw⟩; rw [hw]))
 all_goals (try go_step3)
 all_goals go_wp2_with (first
  | (go_at_fn (ρ.f 137); refine (Any.strings_IndexByte { L with } _ _ _).mono ?_; rintro e w' ⟨rfl,hw⟩; rw [hw]))
 all_goals
  go_loopg [9] 1 (fun _ s9 wx => s9 = .int .i64 (k : Int) /\ wx = w)
  case atStart => exact ⟨rfl,rfl⟩
  case round =>
   obtain ⟨rfl,rfl⟩:=hrel
   by_cases hi : k < s.size
   . have hiz : (k : Int) < (s.size : Int):=by omega
     obtain ⟨x,hx⟩ : ∃ x : UInt8,s[k]'hi = x:=⟨_,rfl⟩
     have hi2 : k < rs.size:=by omega
     obtain ⟨y,hy⟩ : ∃ y : UInt8,rs[k]'hi2 = y:=⟨_,rfl⟩
     have hxl : s.data.toList[k]? = some x:=by rw [<- hx]; exact Lib.data_getElem? s _ hi
     have hx128:=HA.out _ _ hxl
     have hy128 : 128 <= y.toNat:=by
      have:=m3 (by omega)
      have e : rs.size - 1 = k:=by omega
      simp only [e] at this
      rw [hy] at this; exact this
     have hkz : (k : Int) < (rs.size : Int):=by omega
     have hsl : (k : Int) + 1 <= (s.size : Int):=by omega
     have hsl2 : ¬ (s.size : Int) < (k : Int) + 1:=by omega
     have hk0 : ¬ (k : Int) + 1 < 0:=by omega
     have hk1 : (0 : Int) <= (k : Int) + 1:=by omega
     have hwr : IntKind.i64.wrap ((k : Int) + 1) = (k : Int) + 1:=Go.wrap_small _ (by omega) (by omega)
     have hxy : ((x.toNat : Int) == (y.toNat : Int)) = false:=beq_eq_false_iff_ne.2 (by omega)
     have hidx : Lib.indexByte (List.take (s.size - (k + 1)) (List.drop (k + 1) s.data.toList)) y = -1:=zDu (fun c hc => by
      obtain ⟨j,hj⟩:=List.getElem?_of_mem (List.mem_of_mem_drop (List.mem_of_mem_take hc))
      exact HA.out j c hj) hy128
     have hyy : ((y.toNat : Int)).toNat.toUInt8 = y:=by simp
     have hidx2 : Lib.indexByte (s.extract (k + 1) s.size).data.toList ((y.toNat : Int)).toNat.toUInt8 = -1:=by
      rw [hyy]
      exact zDu (fun c hc => by
       obtain ⟨j,hj⟩:=List.getElem?_of_mem (mem_extract hc)
       exact HA.out j c hj) hy128
     go_wp2
     go_step3
     go_wp2
     go_region_o
     go_wp2
     go_region_with_o (go_at_fn (ρ.f 137); refine (Any.strings_IndexByte { L with } _ _ _).mono ?_; rintro e w' ⟨rfl,hw⟩; rw [hw]; rw [hidx2])
     go_wp2
     simp only [Exit.noGoto_ret,Exit.then,Exit.inBlock]
     go_ret
     exact ⟨rfl,.inr rfl⟩
   . have hiz : ¬ (k : Int) < (s.size : Int):=by omega
     go_wp2
     go_ret
     exact ⟨rfl,.inl rfl⟩
theorem get_at (s : ByteArray) (k : Nat) (hk : k < s.size) : s.get! k = s[k]'hk:=by
 simp [ByteArray.get!,getElem!_pos,hk]
 rfl
theorem zHX (s : ByteArray) (i : Nat) (h : i < s.size) (h2 : 128 <= (s[i]'h).toNat) : 128 <= (Utf8.decode s i).1 /\ Utf8.valid ((Utf8.decode s i).1 : Int) = true /\ 1 <= (Utf8.decode s i).2 /\ i + (Utf8.decode s i).2 <= s.size /\ ∀ j,i <= j -> j < i + (Utf8.decode s i).2 -> 128 <= (s.get! j).toNat:=by
 have g0 : (s.get! (i + 0)).toNat = (s[i]'h).toNat:=by rw [Nat.add_zero,get_at s i h]
 have g0' : 128 <= (s.get! i).toNat:=by rw [get_at s i h]; exact h2
 have lt : ∀ k,(s.get! k).toNat < 256:=fun k => UInt8.toNat_lt _
 have one : ∀ j,i <= j -> j < i + 1 -> 128 <= (s.get! j).toNat:=fun j h1 h3 => by
  obtain rfl : j = i:=by omega
  exact g0'
 unfold Utf8.decode
 simp only [Nat.add_zero,Bool.and_eq_true,decide_eq_true_eq,beq_iff_eq,ge_iff_le]
 generalize hb0 : (s.get! i).toNat = b0 at *
 have l1:=lt (i + 1)
 have l2:=lt (i + 2)
 have l3:=lt (i + 3)
 have ev : ∀ c : Nat,((128 <= c /\ c < 55296) \/ (57344 <= c /\ c <= 1114111)) -> Utf8.valid (c : Int) = true:=fun c hc => by
  unfold Utf8.valid
  simp
  rcases hc with hc | hc <;> omega
 rw [if_neg (by omega)]
 have cas : ∀ n,(∀ k,1 <= k -> k < n -> 128 <= (s.get! (i + k)).toNat) -> ∀ j,i <= j -> j < i + n -> 128 <= (s.get! j).toNat:=fun n hn j h1 h3 => by
  by_cases e : j = i
  . subst e; rw [hb0]; exact g0'
  . have:=hn (j - i) (by omega) (by omega)
    rwa [show i + (j - i) = j by omega] at this
 split
 . rename_i hc
   split
   . exact ⟨by omega,ev _ (by omega),by omega,by omega,cas 2 fun k h1 h3 => by
      obtain rfl : k = 1:=by omega
      omega⟩
   . exact ⟨by decide,by decide,by omega,by omega,one⟩
 . split
   . rename_i hc
     split
     . rename_i hv
       refine ⟨by omega,hv.2,by omega,by omega,cas 3 fun k h1 h3 => ?_⟩
       obtain rfl | rfl : k = 1 \/ k = 2:=by omega
       all_goals omega
     . exact ⟨by decide,by decide,by omega,by omega,one⟩
   . split
     . rename_i hc
       split
       . rename_i hv
         refine ⟨by omega,hv.2,by omega,by omega,cas 4 fun k h1 h3 => ?_⟩
         obtain rfl | rfl | rfl : k = 1 \/ k = 2 \/ k = 3:=by omega
         all_goals omega
       . exact ⟨by decide,by decide,by omega,by omega,one⟩
     . exact ⟨by decide,by decide,by omega,by omega,one⟩
theorem zCS (L : Lays.n152 P ρ) (s : ByteArray) (w : World) (hascii : ∀ (j : Nat) b,s.data.toList[j]? = some b -> b.toNat < 128) :
 Calls P (ρ.f 152) #[.string s,.int .i32 65533] w fun e w' => e = .returned (.int .i64 (-1)) /\ w' = w.iter s s.size:=by
 have HA : Aside (∀ (j : Nat) b,s.data.toList[j]? = some b -> b.toNat < 128):=hascii
 clear hascii
 have t3:=L.t3; have a3:=L.a3; have z3:=L.z3; have v3:=L.v3
 have t4:=L.t4; have a4:=L.a4; have z4:=L.z4; have v4:=L.v4
 have t5:=L.t5; have a5:=L.a5; have z5:=L.z5; have v5:=L.v5
 have t9:=L.t9; have a9:=L.a9; have z9:=L.z9; have v9:=L.v9
 have t21:=L.t21; have a21:=L.a21; have z21:=L.z21; have v21:=L.v21
 go_enter L.f152,Body.n152_ntmps ρ
 go_wp2
 go_loopg [5,6] s.size (fun g _ _ wx => ∃ i : Nat,i + g = s.size /\ wx = w.iter s i)
 case atStart => exact ⟨0,by omega,rfl⟩
 case round =>
  obtain ⟨i,hig,rfl⟩:=hrel
  cases gk with
  | zero =>
    obtain rfl : i = s.size:=by omega
    have hnx:=run_next_end (P:=P) w s s.size
    go_wp2
    go_ret
    exact ⟨rfl,rfl⟩
  | succ g =>
    have hi : i < s.size:=by omega
    obtain ⟨x,hx⟩ : ∃ x : UInt8,s[i]'hi = x:=⟨_,rfl⟩
    have hxl : s.data.toList[i]? = some x:=by rw [<- hx]; exact Lib.data_getElem? s i hi
    have hx128 : x.toNat < 128:=HA.out i x hxl
    have hnx:=fun ty => run_next_ascii (P:=P) w s i ty hi (by rw [hx]; exact hx128)
    rw [hx] at hnx
    have hne : ((x.toNat : Int) == 65533) = false:=beq_eq_false_iff_ne.2 (by omega)
    have hne2 : ¬ (x.toNat : Int) = 65533:=by omega
    clear hxl hx
    go_wp2
    go_roundg g
    case measure => omega
    case rel => exact ⟨i + 1,by omega,rfl⟩
theorem zBw (L : Lays.n151 P ρ) (mixed : P.follows .mixedOrders = true) (s : ByteArray) (r : Int) (w : World) (h0 : 128 <= r) (h1 : r ≠ 65533) (hv : Lib.validRune r = true) (hs : s.size < 1000) (hascii : ∀ (j : Nat) b,s.data.toList[j]? = some b -> b.toNat < 128) :
 Calls P (ρ.f 151) #[.string s,.int .i32 r] w fun e w' => e = .returned (.bool false) /\ (w' = w \/ w' = w.drew.drew):=by
 have t3:=L.t3; have a3:=L.a3; have z3:=L.z3; have v3:=L.v3
 have t4:=L.t4; have a4:=L.a4; have z4:=L.z4; have v4:=L.v4
 have t9:=L.t9; have a9:=L.a9; have z9:=L.z9; have v9:=L.v9
 have t21:=L.t21; have a21:=L.a21; have z21:=L.z21; have v21:=L.v21
 have e152 : ∀ args w,(callFunc (ρ.f 152) args).run P w = .ok (.enter (ρ.f 152) args) w:=enters_of L.f152 (by kernel_rfl) rfl
 have hm:=zBF { L with } mixed s r w h0 h1 hv hs hascii
 clear hascii
 go_enter L.f151,Body.n151_ntmps ρ
 go_wp2_with (go_at_fn (ρ.f 152); refine hm.mono ?_; rintro e w' ⟨rfl,hw⟩)
 go_ret
 exact ⟨rfl,hw⟩
theorem zDv {B : Nat} {a w : World} (h : Go.RowKit.Below B a w) {k : Nat} (hk : B <= k) (s : ByteArray) (p : Nat) : Go.RowKit.Below B a (w.iterAt k s p):=
 h.trans ⟨rfl,rfl,rfl,by simp [World.iterAt],fun j hj => by
  show (w.heap.setIfInBounds k _)[j]? = _
  rw [Array.getElem?_setIfInBounds,if_neg (by omega)]⟩
theorem NoAny.jump {s : ByteArray} {chars : List UInt8} {i n : Nat} (h : Lib.NoAny s.data.toList chars i) (hc : ∀ b ∈ chars,b.toNat < 128) (hn : i + n <= s.size) (hb : ∀ j,i <= j -> j < i + n -> 128 <= (s.get! j).toNat) : Lib.NoAny s.data.toList chars (i + n):=by
 have : ∀ m,m <= n -> Lib.NoAny s.data.toList chars (i + m):=fun m => by
  induction m with
  | zero => exact fun _ => h
  | succ m ih =>
    intro hm
    have hlt : i + m < s.size:=by omega
    refine (ih (by omega)).succ (x:=s[i + m]) (Lib.data_getElem? s _ hlt) ?_
    rw [Bool.eq_false_iff]
    intro hx
    have h1:=hc _ (List.contains_iff_mem.1 hx)
    have h2:=hb (i + m) (by omega) (by omega)
    rw [get_at s _ hlt] at h2
    omega
 exact this n (Nat.le_refl _)
theorem zCW (L : Lays.n153 P ρ) (mixed : P.follows .mixedOrders = true) (s chars : ByteArray) (w : World) (h2 : 2 <= chars.size) (hcs : chars.size < 1000) (h8 : s.size <= 8) (hascii : ∀ (j : Nat) b,chars.data.toList[j]? = some b -> b.toNat < 128) :
 Calls P (ρ.f 153) #[.string s,.string chars] w fun e w' => e = .returned (.int .i64 (Lib.indexAny s.data.toList chars.data.toList)) /\ Below w.heap.size w w':=by
 have HA : Aside (∀ b ∈ chars.data.toList,b.toNat < 128):=fun b hb => by
  obtain ⟨j,hj⟩:=List.getElem?_of_mem hb
  exact hascii j b hj
 have hrune : ∀ (c : Int) (wq : World),128 <= c -> Lib.validRune c = true -> Calls P (ρ.f 152) #[.string chars,.int .i32 c] wq fun e w' => e = .returned (.int .i64 (-1)) /\ Below wq.heap.size wq w':=fun c wq h1 hv => by
  by_cases e : c = 65533
  . subst e
    refine (zCS { L with } chars wq hascii).mono ?_
    rintro e w' ⟨rfl,rfl⟩
    exact ⟨rfl,(Below.refl _ _).alloc (Nat.le_refl _) _⟩
  . refine (zBF { L with } mixed chars c wq h1 e hv hcs hascii).mono ?_
    rintro e w' ⟨rfl,rfl | rfl⟩
    . exact ⟨rfl,Below.refl _ _⟩
    . exact ⟨rfl,(Below.refl _ _).drew.drew⟩
 clear hascii
 have hemp : chars.toList.isEmpty = false:=by
  rw [Lib.toList_data]
  cases h : chars.data.toList with
  | nil => have:=Lib.size_eq chars; rw [h,List.length_nil] at this; omega
  | cons _ _ => rfl
 have hn1 : ((chars.size : Int) == 1) = false:=beq_eq_false_iff_ne.2 (by omega)
 have h8z : decide ((8 : Int) < (s.size : Int)) = false:=decide_eq_false (by omega)
 have t3:=L.t3; have a3:=L.a3; have z3:=L.z3; have v3:=L.v3
 have t4:=L.t4; have a4:=L.a4; have z4:=L.z4; have v4:=L.v4
 have t5:=L.t5; have a5:=L.a5; have z5:=L.z5; have v5:=L.v5
 have t9:=L.t9; have a9:=L.a9; have z9:=L.z9; have v9:=L.v9
 have t21:=L.t21; have a21:=L.a21; have z21:=L.z21; have v21:=L.v21
 have e152 : ∀ args w,(callFunc (ρ.f 152) args).run P w = .ok (.enter (ρ.f 152) args) w:=enters_of L.f152 (by kernel_rfl) rfl
 have e226 : ∀ args w,(callFunc (ρ.f 226) args).run P w = .ok (.enter (ρ.f 226) args) w:=enters_of L.f226 (by kernel_rfl) rfl
 go_enter L.f153,Body.n153_ntmps ρ
 go_wp2_with (go_at_fn (ρ.f 226); refine (Any.strings_shouldUseASCIISet { L with } _ _).mono ?_; rintro e w' ⟨rfl,hw⟩; rw [hw,h8z])
 go_loopg [9,10] s.size (fun g _ _ wx => ∃ i : Nat,i + g = s.size /\ wx.heap[w.heap.size]? = some (.stringIter s i) /\ Below w.heap.size w wx /\ Lib.NoAny s.data.toList chars.data.toList i)
 case atStart => exact ⟨0,by omega,World.iter_heap _ _ _,(Below.refl _ _).alloc (Nat.le_refl _) _,Lib.NoAny.zero _ _⟩
 case round =>
  obtain ⟨i,hig,hit,hbl,hno⟩:=hrel
  have HN : Aside (Lib.NoAny s.data.toList chars.data.toList i):=hno
  have HB : Aside (Below w.heap.size w wr):=hbl
  clear hno hbl
  cases gk with
  | zero =>
    obtain rfl : i = s.size:=by omega
    have hnx:=fun ty => run_next_end_at (P:=P) wr w.heap.size s s.size ty hit (by omega)
    clear hit
    go_wp2
    go_ret
    exact ⟨by rw [Lib.indexAny_none (by rw [<- Lib.size_eq]; exact HN.out)]; rfl,HB.out⟩
  | succ g =>
    have hi : i < s.size:=by omega
    obtain ⟨x,hx⟩ : ∃ x : UInt8,s[i]'hi = x:=⟨_,rfl⟩
    have hxl : s.data.toList[i]? = some x:=by rw [<- hx]; exact Lib.data_getElem? s i hi
    by_cases hx128 : x.toNat < 128
    . have hnx:=fun ty => run_next_ascii_at (P:=P) wr w.heap.size s i ty hit hi (by rw [hx]; exact hx128)
      have hit2:=iterAt_heap wr w.heap.size s i (i + 1) hit
      have HI : Aside ((wr.iterAt w.heap.size s (i + 1)).heap[w.heap.size]? = some (.stringIter s (i + 1)) /\ Below w.heap.size w (wr.iterAt w.heap.size s (i + 1))):=⟨hit2,zDv HB.out (Nat.le_refl _) _ _⟩
      clear hit2 hit
      rw [hx] at hnx
      have Hx : Aside (s.data.toList[i]? = some x):=hxl
      clear hxl hx
      have hcon:=Lib.contains_iff_indexByte chars.data.toList x
      have hback : ((x.toNat : Int)).toNat.toUInt8 = x:=by simp
      cases hin : chars.data.toList.contains x
      . rw [hin] at hcon
        have hlt : ¬ ((0 : Int) <= Lib.indexByte chars.data.toList x):=of_decide_eq_false hcon.symm
        clear hcon
        go_wp2_with (go_at_fn (ρ.f 152); refine (Any.strings_IndexRune_ascii { L with } _ _ _ (by omega) (by omega)).mono ?_; rintro e w' ⟨rfl,hw⟩; rw [hw,hback])
        go_roundg g
        case measure => omega
        case rel => exact ⟨i + 1,by omega,HI.out.1,HI.out.2,HN.out.succ Hx.out hin⟩
      . rw [hin] at hcon
        have hge : (0 : Int) <= Lib.indexByte chars.data.toList x:=of_decide_eq_true hcon.symm
        clear hcon
        go_wp2_with (go_at_fn (ρ.f 152); refine (Any.strings_IndexRune_ascii { L with } _ _ _ (by omega) (by omega)).mono ?_; rintro e w' ⟨rfl,hw⟩; rw [hw,hback])
        go_ret
        exact ⟨by rw [Lib.indexAny_hit HN.out Hx.out hin]; rfl,HI.out.2⟩
    . obtain ⟨d1,d2,d3,d4,d5⟩:=zHX s i hi (by rw [hx]; omega)
      have hnx:=fun ty => run_next_any_at (P:=P) wr w.heap.size s i ty hit hi
      have hj : Lib.NoAny s.data.toList chars.data.toList (i + (Utf8.decode s i).2):=NoAny.jump HN.out HA.out d4 d5
      have hv : Lib.validRune ((Utf8.decode s i).1 : Int) = true:=by rw [validRune_eq] at d2; exact d2
      clear d5 d2
      generalize Utf8.decode s i = q at *
      obtain ⟨c,n⟩:=q
      simp only at hnx hj hv d1 d3 d4
      have hit2:=iterAt_heap wr w.heap.size s i (i + n) hit
      have HI : Aside ((wr.iterAt w.heap.size s (i + n)).heap[w.heap.size]? = some (.stringIter s (i + n)) /\ Below w.heap.size w (wr.iterAt w.heap.size s (i + n)) /\ w.heap.size < (wr.iterAt w.heap.size s (i + n)).heap.size):=⟨hit2,zDv HB.out (Nat.le_refl _) _ _,(Array.getElem?_eq_some_iff.1 hit2).1⟩
      have HJ : Aside (Lib.NoAny s.data.toList chars.data.toList (i + n)):=hj
      have hc:=hrune c (wr.iterAt w.heap.size s (i + n)) (by omega) hv
      generalize wr.iterAt w.heap.size s (i + n) = wi at *
      clear hit2 hit hxl hx hj hv hrune
      go_wp2_with (go_at_fn (ρ.f 152); refine hc.mono ?_; rintro e w' ⟨rfl,hw⟩)
      go_roundg (s.size - (i + n))
      case measure => omega
      case rel => exact ⟨i + n,by omega,by rw [hw.block _ HI.out.2.2]; exact HI.out.1,HI.out.2.1.trans (hw.mono (Nat.le_of_lt HI.out.2.2)),HJ.out⟩
theorem zCV (L : Lays.n153 P ρ) (mixed : P.follows .mixedOrders = true) (hv116 : ∀ w,(zeroValue (ρ.t 116)).run P w = .ok (.agg (Array.replicate 256 (.bool false))) w) (hi116 : (P.info? (ρ.t 116)).map (·.size) = some 256) (s chars : ByteArray) (w : World) (h2 : 2 <= chars.size) (hcs : chars.size < 1000) (hs : s.size < 4294967281) (hascii : ∀ (j : Nat) b,chars.data.toList[j]? = some b -> b.toNat < 128) :
 Calls P (ρ.f 153) #[.string s,.string chars] w fun e w' => e = .returned (.int .i64 (Lib.indexAny s.data.toList chars.data.toList)) /\ Below w.heap.size w w':=by
 by_cases h8 : s.size <= 8
 . exact zCW L mixed s chars w h2 hcs h8 hascii
 . refine (Any.strings_IndexAny_long L hv116 hi116 s chars w h2 (by omega) hs (by omega) hascii).mono ?_
   rintro e w' ⟨rfl,rfl⟩
   exact ⟨rfl,((Below.refl _ _).alloc (Nat.le_refl _) _).alloc (by simp) _⟩
end Go.Proofs.YthjiclhfhjdjpaaGreatDoor
namespace Go.Proofs.YthjiclhfhjdjpaaGreatDoor
open Go.RowKit
attribute [local irreducible] wpList Calls Code.wp AW AWo OpOk seqK zAI zAO loopK endK AC zp Yld Sub
attribute [local irreducible] ACB ACX ACE absLexG YldG
section
variable {X : Cx} {nn : Nat} {st : Vst nn} {K : Exit -> Vst nn -> Prop}
theorem zJ {c : Operand} {x y : Code} {b : Bool} (hc : ev st c = .c (.bool b)) (hb : b = true) (ht : AW X x st K) : AW X (.cond c x y) st K:=zg hc (fun _ => ht) (fun e => by rw [hb] at e; cases e)
theorem zE {c : Operand} {x y : Code} {b : Bool} (hc : ev st c = .c (.bool b)) (hb : b = false) (ht : AW X y st K) : AW X (.cond c x y) st K:=zg hc (fun e => by rw [hb] at e; cases e) (fun _ => ht)
end
theorem rel_cc {P : Program} {s : Sg} {w : World} {u v : Value} {us : Array Value} (h : relL P s w [.c u,.c v] us.toList) : us = #[u,v]:=by
 obtain ⟨l⟩:=us
 match l,h with
 | [],h => simp [relL] at h
 | [x],h => simp [relL] at h
 | [x,y],h =>
   simp only [relL,rel,and_true] at h
   obtain ⟨⟨rfl,-⟩,rfl,-⟩:=h
   rfl
 | x :: y :: z :: t,h => simp [relL] at h
theorem rel_b {P : Program} {s : Sg} {w : World} {b : Bool} : rel P s w (.c (.bool b)) (.bool b):=by rw [rel]; exact ⟨rfl,trivial⟩
theorem prefix_ac (s p : ByteArray) : AC EN5 Tryz.prog 162 [.c (.string s),.c (.string p)] (.c (.bool (Lib.hasPrefix s.data.toList p.data.toList))):=by
 refine zDx (u:=.bool (Lib.hasPrefix s.data.toList p.data.toList)) fun σ w us hus he => ?_
 obtain rfl:=rel_cc hus
 refine ⟨fun s' w' => rel_b,(Tryz.strings_HasPrefix s p w).mono ?_⟩
 rintro e w' ⟨rfl,rfl⟩
 exact ⟨rfl,Below.refl _ _⟩
theorem zJn {l : List UInt8} (h : ∀ b ∈ l,b.toNat < 128) : ∀ (j : Nat) b,l[j]? = some b -> b.toNat < 128:=fun j b hj => h b (List.mem_of_getElem? hj)
theorem zDB (x : List UInt8) (cs : List UInt8) : -1 <= Lib.indexAny x cs /\ Lib.indexAny x cs <= x.length:=by
 refine ⟨Lib.indexAny_ge _ _,?_⟩
 induction x with
 | nil => simp [Lib.indexAny]
 | cons c r ih =>
   unfold Lib.indexAny
   split
   . simp only [List.length_cons]; omega
   . split <;> simp only [List.length_cons] <;> omega
theorem indexNl_ac (x : ByteArray) (hx : x.size <= 1000000) : AC EN5 Tryz.prog 160 [.c (.string x),.c (.string { data:=#[10,13] })] (.c (.int .i64 (Lib.indexAny x.data.toList [10,13]))):=by
 refine zDx (u:=.int .i64 (Lib.indexAny x.data.toList [10,13])) fun σ w us hus he => ?_
 obtain rfl:=rel_cc hus
 have hl:=zDB x.data.toList [10,13]
 have hz : x.data.toList.length = x.size:=(Lib.size_eq x).symm
 have h116 : (Tryz.prog.info? (Tryz.lays153_ren.t 116)).map (fun i => (i.zero,i.size)) = some (some (.agg (Array.replicate 256 (.bool false))),256):=by kernel_rfl
 refine ⟨fun s' w' => zF1 (by omega),(zCV Tryz.lays153 (by kernel_rfl) (zero_of_info h116).1 (zero_of_info h116).2 x { data:=#[10,13] } w (by decide) (by decide) (by omega) (zJn (by decide))).mono ?_⟩
 rintro e w' ⟨rfl,hb⟩
 exact ⟨rfl,hb⟩
def signsT : ByteArray:={ data:=#[33,36,38,40,41,58,61,64,91,93,123,124,125] }
theorem zAG (c : UInt8) : AC EN5 Tryz.prog 161 [.c (.string signsT),.c (.int .i32 (c.toNat : Int))] (.c (.bool (signB c))):=by
 refine zDx (u:=.bool (signB c)) fun σ w us hus he => ?_
 obtain rfl:=rel_cc hus
 refine ⟨fun s' w' => rel_b,?_⟩
 have hc:=c.toNat_lt
 by_cases h : c.toNat < 128
 . refine (Tryz.strings_ContainsRune_ascii signsT (c.toNat : Int) w (by omega) (by omega)).mono ?_
   rintro e w' ⟨rfl,rfl⟩
   have hb : ((c.toNat : Int)).toNat.toUInt8 = c:=by simp
   rw [hb,<- Lib.contains_iff_indexByte]
   exact ⟨rfl,Below.refl _ _⟩
 . have hs : signB c = false:=by
    unfold signB
    rw [Bool.eq_false_iff]
    intro hx
    have:=List.contains_iff_mem.1 hx
    have h3 : ∀ b ∈ ([33,36,38,40,41,58,61,64,91,93,123,124,125] : List UInt8),b.toNat < 128:=by decide
    exact h (h3 c this)
   rw [hs]
   refine (zBw Tryz.lays151 (by kernel_rfl) signsT (c.toNat : Int) w (by omega) (by omega) (by unfold Lib.validRune; exact decide_eq_true (by omega)) (by decide) (zJn (by decide))).mono ?_
   rintro e w' ⟨rfl,rfl | rfl⟩
   . exact ⟨rfl,Below.refl _ _⟩
   . exact ⟨rfl,(Below.refl _ _).drew.drew⟩
theorem zHs {s : List UInt8} {k : Nat} (h : k < s.length) : skipM false (s.drop k) = if sepB s[k] then skipM false (s.drop (k + 1)) + 1 else if s[k] == 35 then skipM true (s.drop (k + 1)) + 1 else 0:=by
 rw [List.drop_eq_getElem_cons h,skipM]
theorem zG0 : ∀ l : List UInt8,skipM true l = if Lib.indexAny l [10,13] = -1 then l.length else (Lib.indexAny l [10,13]).toNat + skipM false (l.drop (Lib.indexAny l [10,13]).toNat)
 | [] => by simp [skipM,Lib.indexAny]
 | c :: r => by
   have ih:=zG0 r
   have hge:=Lib.indexAny_ge [10,13] r
   unfold Lib.indexAny
   by_cases h : ([10,13] : List UInt8).contains c = true
   . rw [if_pos h,if_neg (by decide)]
     show skipM true (c :: r) = 0 + skipM false (c :: r)
     have h2 : c = 10 \/ c = 13:=by simpa using List.contains_iff_mem.1 h
     rcases h2 with rfl | rfl <;> simp [skipM,sepB]
   . rw [if_neg h]
     have h2 : (c == 10 || c == 13) = false:=by
      rw [Bool.eq_false_iff]
      intro hx
      apply h
      rw [List.contains_iff_mem]
      simpa using hx
     rw [skipM,h2]
     simp only [Bool.false_eq_true,if_false]
     rw [ih]
     by_cases h3 : Lib.indexAny r [10,13] = -1
     . rw [if_pos h3,h3]; simp
     . have h4 : (Lib.indexAny r [10,13] == -1) = false:=by simpa using h3
       rw [if_neg h3,h4]
       simp only [Bool.false_eq_true,if_false]
       obtain ⟨n,hn⟩ : ∃ n : Nat,Lib.indexAny r [10,13] = n:=⟨(Lib.indexAny r [10,13]).toNat,by omega⟩
       rw [hn,if_neg (by omega)]
       have e : ((n : Int) + 1).toNat = n + 1:=by omega
       rw [e,Int.toNat_natCast,List.drop_succ_cons]
       omega
theorem zJN (s : List UInt8) (k : Nat) : ((bs s).extract ((k : Int)).toNat (bs s).size).data.toList = s.drop k:=by
 have hz:=zh s
 rw [ByteArray.data_extract,Array.toList_extract,zAE,Int.toNat_natCast,hz]
 simp [List.extract]
 exact List.take_of_length_le (by simp)
noncomputable def HSk (s : List UInt8) (k : Nat) : Vst 36:=stS 36 [(0,.c (.string (bs s))),(1,.c (.int .i64 (k : Int)))] []
theorem zAJ {s : List UInt8} {k : Nat} (h : k < s.length) : zO (bs s) ((k : Int)).toNat = (s[k].toNat : Int):=by
 unfold zO
 rw [Int.toNat_natCast,zD4 h]
theorem skip_ac (s : List UInt8) (i : Nat) (hi : i <= s.length) (hs : s.length <= 1000000) : AC EN5 Tryz.prog 84 [.c (.string (bs s)),.c (.int .i64 (i : Int))] (.c (.int .i64 ((i + skipM false (s.drop i) : Nat) : Int))):=by
 refine zF 36 Tryz.func84 rfl rfl rfl rfl ?_
 intro s0 w he
 repeat' (first
|refine zA ?_
|refine zB ?_
|refine zG ?_
|apply aw_1
 conv => whnf
 refine ⟨?_,trivial⟩
|apply s_1
 conv => whnf; arg 1; arg 4; arg 3; whnf
 refine ⟨?_,?_⟩
|exact trivial)
 refine zu (fun j st => ∃ k,k + j = s.length /\ i + skipM false (s.drop i) = k + skipM false (s.drop k) /\ Sub (cx EN5 Tryz.prog s0 w he) st (HSk s k)) (s.length - i) ⟨i,by omega,rfl,?_⟩ ?_
 . exact Sub.live ⟨rfl,rfl,trivial⟩ trivial
 rintro j st ⟨k,hkj,hI,hs2⟩
 refine zn hs2 ?_
 clear hs2
 rw [hI]
 clear hI
 have hz:=zh s
 have hex : ((bs s).extract ((k : Int)).toNat (bs s).size).size <= 1000000:=by rw [ByteArray.size_extract]; omega
 have hix:=indexNl_ac ((bs s).extract ((k : Int)).toNat (bs s).size) hex
 by_cases hk : k < s.length
 . have f0 : decide ((k : Int) < ((bs s).size : Nat)) = true:=decide_eq_true (by omega)
   have hbt:=zAJ hk
   have hsk:=zHs hk
   have hdr : s.drop k = s[k] :: s.drop (k + 1):=List.drop_eq_getElem_cons hk
   generalize s[k] = c at hbt hsk hdr
   have q : ∀ n : Nat,n < 256 -> (zO (bs s) ((k : Int)).toNat == (n : Int)) = (c == UInt8.ofNat n):=fun n hn => by rw [hbt]; exact zBT c n hn
   by_cases h32 : c = 32
   . have f32 : (zO (bs s) ((k : Int)).toNat == 32) = true:=(q 32 (by omega)).trans (by rw [h32]; rfl)
     have hs1 : skipM false (s.drop k) = skipM false (s.drop (k + 1)) + 1:=by rw [hsk,h32]; rfl
     repeat' (first
|apply zJ
 . conv => lhs; whnf
 . assumption
|refine zA ?_
|refine zB ?_
|refine zG ?_
|refine zb ?_
|apply aw_1
 conv => whnf
 refine ⟨?_,trivial⟩
|apply s_1
 conv => whnf; arg 1; arg 4; arg 3; whnf
 refine ⟨?_,?_⟩
|exact trivial)
     all_goals first
      | exact zS (by omega)
      | exact ⟨by kernel_rfl,by omega,by rw [zh]; omega⟩
      | exact (show Tryz.prog.underlying _ = some TypeDesc.string by kernel_rfl)
      | refine zL (j':=j - 1) (by omega) ⟨k + 1,by omega,by omega,Sub.live ⟨rfl,rfl,trivial⟩ trivial⟩
   have f32 : (zO (bs s) ((k : Int)).toNat == 32) = false:=(q 32 (by omega)).trans (by simpa using h32)
   by_cases h9 : c = 9
   . have f9 : (zO (bs s) ((k : Int)).toNat == 9) = true:=(q 9 (by omega)).trans (by rw [h9]; rfl)
     have hs1 : skipM false (s.drop k) = skipM false (s.drop (k + 1)) + 1:=by rw [hsk,h9]; rfl
     repeat' (first
|apply zJ
 . conv => lhs; whnf
 . assumption
|apply zE
 . conv => lhs; whnf
 . assumption
|refine zA ?_
|refine zB ?_
|refine zG ?_
|refine zb ?_
|apply aw_1
 conv => whnf
 refine ⟨?_,trivial⟩
|apply s_1
 conv => whnf; arg 1; arg 4; arg 3; whnf
 refine ⟨?_,?_⟩
|exact trivial)
     all_goals first
      | exact zS (by omega)
      | exact ⟨by kernel_rfl,by omega,by rw [zh]; omega⟩
      | exact (show Tryz.prog.underlying _ = some TypeDesc.string by kernel_rfl)
      | refine zL (j':=j - 1) (by omega) ⟨k + 1,by omega,by omega,Sub.live ⟨rfl,rfl,trivial⟩ trivial⟩
   have f9 : (zO (bs s) ((k : Int)).toNat == 9) = false:=(q 9 (by omega)).trans (by simpa using h9)
   by_cases h10 : c = 10
   . have f10 : (zO (bs s) ((k : Int)).toNat == 10) = true:=(q 10 (by omega)).trans (by rw [h10]; rfl)
     have hs1 : skipM false (s.drop k) = skipM false (s.drop (k + 1)) + 1:=by rw [hsk,h10]; rfl
     repeat' (first
|apply zJ
 . conv => lhs; whnf
 . assumption
|apply zE
 . conv => lhs; whnf
 . assumption
|refine zA ?_
|refine zB ?_
|refine zG ?_
|refine zb ?_
|apply aw_1
 conv => whnf
 refine ⟨?_,trivial⟩
|apply s_1
 conv => whnf; arg 1; arg 4; arg 3; whnf
 refine ⟨?_,?_⟩
|exact trivial)
     all_goals first
      | exact zS (by omega)
      | exact ⟨by kernel_rfl,by omega,by rw [zh]; omega⟩
      | exact (show Tryz.prog.underlying _ = some TypeDesc.string by kernel_rfl)
      | refine zL (j':=j - 1) (by omega) ⟨k + 1,by omega,by omega,Sub.live ⟨rfl,rfl,trivial⟩ trivial⟩
   have f10 : (zO (bs s) ((k : Int)).toNat == 10) = false:=(q 10 (by omega)).trans (by simpa using h10)
   by_cases h13 : c = 13
   . have f13 : (zO (bs s) ((k : Int)).toNat == 13) = true:=(q 13 (by omega)).trans (by rw [h13]; rfl)
     have hs1 : skipM false (s.drop k) = skipM false (s.drop (k + 1)) + 1:=by rw [hsk,h13]; rfl
     repeat' (first
|apply zJ
 . conv => lhs; whnf
 . assumption
|apply zE
 . conv => lhs; whnf
 . assumption
|refine zA ?_
|refine zB ?_
|refine zG ?_
|refine zb ?_
|apply aw_1
 conv => whnf
 refine ⟨?_,trivial⟩
|apply s_1
 conv => whnf; arg 1; arg 4; arg 3; whnf
 refine ⟨?_,?_⟩
|exact trivial)
     all_goals first
      | exact zS (by omega)
      | exact ⟨by kernel_rfl,by omega,by rw [zh]; omega⟩
      | exact (show Tryz.prog.underlying _ = some TypeDesc.string by kernel_rfl)
      | refine zL (j':=j - 1) (by omega) ⟨k + 1,by omega,by omega,Sub.live ⟨rfl,rfl,trivial⟩ trivial⟩
   have f13 : (zO (bs s) ((k : Int)).toNat == 13) = false:=(q 13 (by omega)).trans (by simpa using h13)
   by_cases h44 : c = 44
   . have f44 : (zO (bs s) ((k : Int)).toNat == 44) = true:=(q 44 (by omega)).trans (by rw [h44]; rfl)
     have hs1 : skipM false (s.drop k) = skipM false (s.drop (k + 1)) + 1:=by rw [hsk,h44]; rfl
     repeat' (first
|apply zJ
 . conv => lhs; whnf
 . assumption
|apply zE
 . conv => lhs; whnf
 . assumption
|refine zA ?_
|refine zB ?_
|refine zG ?_
|refine zb ?_
|apply aw_1
 conv => whnf
 refine ⟨?_,trivial⟩
|apply s_1
 conv => whnf; arg 1; arg 4; arg 3; whnf
 refine ⟨?_,?_⟩
|exact trivial)
     all_goals first
      | exact zS (by omega)
      | exact ⟨by kernel_rfl,by omega,by rw [zh]; omega⟩
      | exact (show Tryz.prog.underlying _ = some TypeDesc.string by kernel_rfl)
      | refine zL (j':=j - 1) (by omega) ⟨k + 1,by omega,by omega,Sub.live ⟨rfl,rfl,trivial⟩ trivial⟩
   have f44 : (zO (bs s) ((k : Int)).toNat == 44) = false:=(q 44 (by omega)).trans (by simpa using h44)
   have hns : sepB c = false:=by simp [sepB,h32,h9,h10,h13,h44]
   by_cases h35 : c = 35
   . have f35 : (zO (bs s) ((k : Int)).toNat == 35) = true:=(q 35 (by omega)).trans (by rw [h35]; rfl)
     have hx:=zJN s k
     have hcm : skipM false (s.drop k) = skipM true (s.drop k):=by rw [hsk,hns,hdr,h35]; rfl
     have hco:=zG0 (s.drop k)
     rw [<- hcm] at hco
     have hra:=zDB (s.drop k) [10,13]
     rw [List.length_drop] at hra
     have h1 : Lib.indexAny (s.drop k) [10,13] ≠ 0:=by
      rw [hdr,h35]
      have:=Lib.indexAny_ge [10,13] (s.drop (k + 1))
      unfold Lib.indexAny
      rw [if_neg (by decide)]
      split
      . decide
      . rename_i hq
        have hq2 : ¬ Lib.indexAny (s.drop (k + 1)) [10,13] = -1:=by simpa using hq
        omega
     rw [hx] at hix
     repeat' (first
|apply zJ
 . conv => lhs; whnf
 . assumption
|apply zE
 . conv => lhs; whnf
 . assumption
|refine zA ?_
|refine zB ?_
|refine zG ?_
|refine zb ?_
|apply aw_1
 conv => whnf
 refine ⟨?_,trivial⟩
|apply s_1
 conv => whnf; arg 1; arg 4; arg 3; whnf
 refine ⟨?_,?_⟩
|apply ze rfl
 . conv => lhs; whnf
 . conv => lhs; whnf
 . first | exact hix
|refine zg (by conv => lhs; whnf) ?_ ?_ <;> intro hb
|exact trivial)
     . obtain ⟨n,hn⟩ : ∃ n : Nat,Lib.indexAny (s.drop k) [10,13] = n:=⟨(Lib.indexAny (s.drop k) [10,13]).toNat,by simp at hb; omega⟩
       rw [hn] at hco hra h1 |-
       rw [if_neg (by omega),Int.toNat_natCast,List.drop_drop] at hco
       refine zL (j':=j - n) (by omega) ⟨k + n,by omega,by omega,Sub.live ⟨rfl,rfl,trivial⟩ trivial⟩
     . exact zS (by omega)
     . have h2 : Lib.indexAny (s.drop k) [10,13] = -1:=by simp at hb; omega
       rw [if_pos h2,List.length_drop] at hco
       refine zL (j':=0) (by omega) ⟨s.length,by omega,by rw [hco,List.drop_length]; show k + (s.length - k) = s.length + 0; omega,Sub.live ⟨rfl,?_,trivial⟩ trivial⟩
       show V.c (.int .i64 ((bs s).size : Nat)) = V.c (.int .i64 (s.length : Nat))
       rw [hz]
     all_goals first
      | exact (show Tryz.prog.underlying _ = some TypeDesc.string by kernel_rfl)
      | exact ⟨by kernel_rfl,by omega,by rw [zh]; omega⟩
   have f35 : (zO (bs s) ((k : Int)).toNat == 35) = false:=(q 35 (by omega)).trans (by simpa using h35)
   have hs1 : skipM false (s.drop k) = 0:=by rw [hsk,hns]; simp [h35]
   repeat' (first
|apply zJ
 . conv => lhs; whnf
 . assumption
|apply zE
 . conv => lhs; whnf
 . assumption
|refine zA ?_
|refine zB ?_
|refine zG ?_
|apply aw_1
 conv => whnf
 refine ⟨?_,trivial⟩
|apply s_1
 conv => whnf; arg 1; arg 4; arg 3; whnf
 refine ⟨?_,?_⟩
|refine zU ?_
|refine za ?_
|refine zAQ ?_
|refine zC ?_
|refine ⟨_,by conv => lhs; whnf; arg 2; whnf,?_⟩; conv => rhs; whnf
|exact trivial)
   . rw [hs1]; rfl
   all_goals first
    | exact (show Tryz.prog.underlying _ = some TypeDesc.string by kernel_rfl)
    | exact ⟨by kernel_rfl,by omega,by rw [zh]; omega⟩
 . have f0 : decide ((k : Int) < ((bs s).size : Nat)) = false:=decide_eq_false (by omega)
   have hs1 : skipM false (s.drop k) = 0:=by rw [List.drop_of_length_le (by omega)]; rfl
   repeat' (first
|apply zE
 . conv => lhs; whnf
 . assumption
|refine zA ?_
|refine zB ?_
|refine zG ?_
|apply aw_1
 conv => whnf
 refine ⟨?_,trivial⟩
|apply s_1
 conv => whnf; arg 1; arg 4; arg 3; whnf
 refine ⟨?_,?_⟩
|refine zP ?_
|refine zM rfl ?_
|refine zW ?_
|refine zC ?_
|refine ⟨_,by conv => lhs; whnf; arg 2; whnf,?_⟩; conv => rhs; whnf
|exact trivial)
   . rw [hs1]; rfl
   . exact (show Tryz.prog.underlying _ = some TypeDesc.string by kernel_rfl)
end Go.Proofs.YthjiclhfhjdjpaaGreatDoor
namespace Go.Proofs.YthjiclhfhjdjpaaGreatDoor
open Go.RowKit
set_option linter.unusedSectionVars false
attribute [local irreducible] wpList Calls Code.wp AW AWo OpOk seqK zAI zAO loopK endK AC zp Yld Sub
attribute [local irreducible] ACB ACX ACE absLexG YldG
def tupR (t : Tok) (k : Nat) (e : Int) : V:=.tup [.agg (tokC t),.c (.int .i64 (k : Int)),.c (.int .i64 e)]
def failR : V:=tupR ⟨0,[],0⟩ 0 3
def readV (l : List UInt8) (i : Nat) : V:=
 match l with
 | [] => .any
 | c :: r =>
   if signB c then tupR ⟨1,[c],i⟩ (i + 1) 0
   else if c == 46 then (if r.take 2 = [46,46] then tupR ⟨1,[46,46,46],i⟩ (i + 3) 0 else failR)
   else if c == 45 || digU c then tupR ⟨3,c :: r.take (spanN wrdU r),i⟩ (i + 1 + spanN wrdU r) (nerU (numU (c :: r.take (spanN wrdU r))))
   else if wrdU c then (if spanN wrdU r + 1 > 64 then failR else tupR ⟨2,c :: r.take (spanN wrdU r),i⟩ (i + 1 + spanN wrdU r) 0)
   else if c == 34 then
    (match litN r with
    | none => failR
    | some n => tupR ⟨4,(unquoteU (c :: r.take n)).getD [],i⟩ (i + 1 + n) (uqE (unquoteU (c :: r.take n))))
   else failR
theorem zCk (s : List UInt8) {a b : Nat} (ha : a <= b) (hb : b <= s.length) : (bs s).extract a b = bs ((s.drop a).take (b - a)):=by
 apply ByteArray.ext
 rw [ByteArray.data_extract]
 apply Array.ext'
 rw [Array.toList_extract,zAE,zAE]
section
variable {s : List UInt8} {i : Nat} (hi : i < s.length) (hs : s.length <= 70000)
include hi hs
theorem read_sign (h : signB s[i] = true) : AC EN5 Tryz.prog 85 [.c (.string (bs s)),.c (.int .i64 (i : Int))] (tupR ⟨1,[s[i]],i⟩ (i + 1) 0):=by
 have hz:=zh s
 have hbt:=zAJ hi
 have hgd:=zD4 hi
 have hdr : s.drop i = s[i] :: s.drop (i + 1):=List.drop_eq_getElem_cons hi
 have q : ∀ n : Nat,n < 256 -> (zO (bs s) ((i : Int)).toNat == (n : Int)) = (s[i] == UInt8.ofNat n):=fun n hn => by rw [hbt]; exact zBT _ n hn
 have hsg:=zAG ((bs s).data.toList.getD ((i : Int)).toNat 0)
 have f0 : signB ((bs s).data.toList.getD ((i : Int)).toNat 0) = true:=by rw [Int.toNat_natCast,hgd]; exact h
 have hx : (bs s).extract ((i : Int)).toNat (((i : Int) + 1)).toNat = bs [s[i]]:=by
  rw [show (((i : Int) + 1)).toNat = i + 1 by omega,Int.toNat_natCast,zCk s (by omega) (by omega),hdr,Nat.add_sub_cancel_left]; rfl
 refine zF 116 Tryz.func85 rfl rfl rfl rfl ?_
 intro s0 w he
 repeat' (first
|apply zJ
 . conv => lhs; whnf
 . assumption
|refine zA ?_
|refine zB ?_
|refine zG ?_
|apply aw_1
 conv => whnf
 refine ⟨?_,trivial⟩
|apply s_1
 conv => whnf; arg 1; arg 4; arg 3; whnf
 refine ⟨?_,?_⟩
|apply ze rfl
 . conv => lhs; whnf
 . conv => lhs; whnf
 . first | exact hsg
|apply zI rfl rfl rfl
 . conv => lhs; whnf
 . conv => lhs; whnf; arg 1; whnf
 . conv => lhs; whnf; arg 1; whnf
 . exact ⟨by kernel_rfl,by kernel_rfl⟩
 . rfl
|refine zU ?_
|refine za ?_
|refine zC ?_
|exact trivial)
 . refine ⟨_,_,_,rfl,rfl,rfl,?_⟩
   show _ = V.tup [.agg [.c (.int .i64 1),.c (.string ((bs s).extract ((i : Int)).toNat (((i : Int) + 1)).toNat)),.c (.int .i64 (i : Int))],.c (.int .i64 ((i : Int) + 1)),.c (.int .i64 0)]
   rw [hx]; rfl
 all_goals first
  | exact zS (by omega)
  | exact ⟨by kernel_rfl,by omega,by omega⟩
  | exact ⟨by kernel_rfl,by omega,by omega,by omega⟩
  | (rw [hbt]; exact zAb _)
  | exact (show Tryz.prog.underlying _ = some TypeDesc.string by kernel_rfl)
  | skip
theorem read_dots (h0 : signB s[i] = false) (h : s[i] = 46) (b : Bool) (hb : Lib.hasPrefix (s.drop i) [46,46,46] = b) (hl : b = true -> i + 3 <= s.length) : AC EN5 Tryz.prog 85 [.c (.string (bs s)),.c (.int .i64 (i : Int))] (if b = true then tupR ⟨1,[46,46,46],i⟩ (i + 3) 0 else failR):=by
 have hz:=zh s
 have hbt:=zAJ hi
 have hgd:=zD4 hi
 have hdr : s.drop i = s[i] :: s.drop (i + 1):=List.drop_eq_getElem_cons hi
 have q : ∀ n : Nat,n < 256 -> (zO (bs s) ((i : Int)).toNat == (n : Int)) = (s[i] == UInt8.ofNat n):=fun n hn => by rw [hbt]; exact zBT _ n hn
 have hsg:=zAG ((bs s).data.toList.getD ((i : Int)).toNat 0)
 have f0 : signB ((bs s).data.toList.getD ((i : Int)).toNat 0) = false:=by rw [Int.toNat_natCast,hgd]; exact h0
 have f1 : (zO (bs s) ((i : Int)).toNat == 46) = true:=(q 46 (by omega)).trans (by rw [h]; rfl)
 have hpr:=prefix_ac ((bs s).extract ((i : Int)).toNat (bs s).size) { data:=#[46,46,46] }
 rw [zJN] at hpr
 have hb2 : Lib.hasPrefix (s.drop i) ({ data:=#[46,46,46] } : ByteArray).data.toList = b:=hb
 rw [hb2] at hpr
 cases b
 . refine zF 116 Tryz.func85 rfl rfl rfl rfl ?_
   intro s0 w he
   repeat' (first
|apply zJ
 . conv => lhs; whnf
 . assumption
|apply zE
 . conv => lhs; whnf
 . assumption
|refine zA ?_
|refine zB ?_
|refine zG ?_
|apply aw_1
 conv => whnf
 refine ⟨?_,trivial⟩
|apply s_1
 conv => whnf; arg 1; arg 4; arg 3; whnf
 refine ⟨?_,?_⟩
|apply ze rfl
 . conv => lhs; whnf
 . conv => lhs; whnf
 . first | exact hsg | exact hpr
|apply zI rfl rfl rfl
 . conv => lhs; whnf
 . conv => lhs; whnf; arg 1; whnf
 . conv => lhs; whnf; arg 1; whnf
 . exact ⟨by kernel_rfl,by kernel_rfl⟩
 . rfl
|refine zU ?_
|refine za ?_
|refine zC ?_
|exact trivial)
   . exact ⟨_,_,_,rfl,rfl,rfl,rfl⟩
   all_goals first
    | exact zS (by omega)
    | exact ⟨by kernel_rfl,by omega,by omega⟩
    | exact ⟨by kernel_rfl,by omega,by omega,by omega⟩
    | (rw [hbt]; exact zAb _)
    | exact (show Tryz.prog.underlying _ = some TypeDesc.string by kernel_rfl)
    | skip
 . have hl2:=hl rfl
   refine zF 116 Tryz.func85 rfl rfl rfl rfl ?_
   intro s0 w he
   repeat' (first
|apply zJ
 . conv => lhs; whnf
 . assumption
|apply zE
 . conv => lhs; whnf
 . assumption
|refine zA ?_
|refine zB ?_
|refine zG ?_
|apply aw_1
 conv => whnf
 refine ⟨?_,trivial⟩
|apply s_1
 conv => whnf; arg 1; arg 4; arg 3; whnf
 refine ⟨?_,?_⟩
|apply ze rfl
 . conv => lhs; whnf
 . conv => lhs; whnf
 . first | exact hsg | exact hpr
|apply zI rfl rfl rfl
 . conv => lhs; whnf
 . conv => lhs; whnf; arg 1; whnf
 . conv => lhs; whnf; arg 1; whnf
 . exact ⟨by kernel_rfl,by kernel_rfl⟩
 . rfl
|refine zU ?_
|refine za ?_
|refine zC ?_
|exact trivial)
   . exact ⟨_,_,_,rfl,rfl,rfl,rfl⟩
   all_goals first
    | exact zS (by omega)
    | exact ⟨by kernel_rfl,by omega,by omega⟩
    | exact ⟨by kernel_rfl,by omega,by omega,by omega⟩
    | (rw [hbt]; exact zAb _)
    | exact (show Tryz.prog.underlying _ = some TypeDesc.string by kernel_rfl)
    | skip
theorem read_num (h0 : signB s[i] = false) (h46 : s[i] ≠ 46) (h : s[i] = 45 \/ (s[i] ≠ 45 /\ digU s[i] = true)) :
 AC EN5 Tryz.prog 85 [.c (.string (bs s)),.c (.int .i64 (i : Int))] (tupR ⟨3,s[i] :: (s.drop (i + 1)).take (spanN wrdU (s.drop (i + 1))),i⟩ (i + 1 + spanN wrdU (s.drop (i + 1))) (nerU (numU (s[i] :: (s.drop (i + 1)).take (spanN wrdU (s.drop (i + 1))))))):=by
 have hz:=zh s
 have hbt:=zAJ hi
 have hgd:=zD4 hi
 have hdr : s.drop i = s[i] :: s.drop (i + 1):=List.drop_eq_getElem_cons hi
 have q : ∀ n : Nat,n < 256 -> (zO (bs s) ((i : Int)).toNat == (n : Int)) = (s[i] == UInt8.ofNat n):=fun n hn => by rw [hbt]; exact zBT _ n hn
 have hsg:=zAG ((bs s).data.toList.getD ((i : Int)).toNat 0)
 have f0 : signB ((bs s).data.toList.getD ((i : Int)).toNat 0) = false:=by rw [Int.toNat_natCast,hgd]; exact h0
 have hle:=zAu wrdU (s.drop (i + 1))
 rw [List.length_drop] at hle
 have f1 : (zO (bs s) ((i : Int)).toNat == 46) = false:=(q 46 (by omega)).trans (by simpa using h46)
 have hsp:=zHq s (i + 1) (by omega) (by omega)
 have hx : (bs s).extract ((i : Int)).toNat (((i + 1 + spanN wrdU (s.drop (i + 1)) : Nat) : Int)).toNat = bs (s[i] :: (s.drop (i + 1)).take (spanN wrdU (s.drop (i + 1)))):=by
  rw [Int.toNat_natCast,Int.toNat_natCast,zCk s (by omega) (by omega),hdr,show i + 1 + spanN wrdU (s.drop (i + 1)) - i = spanN wrdU (s.drop (i + 1)) + 1 by omega,List.take_succ_cons]
 have hsz : ((bs s).extract ((i : Int)).toNat (((i + 1 + spanN wrdU (s.drop (i + 1)) : Nat) : Int)).toNat).size <= 281474976710656:=by rw [ByteArray.size_extract]; omega
 have hnu:=zFO _ hsz
 unfold zH1 at hnu
 have htx : tx ((bs s).extract ((i : Int)).toNat (((i + 1 + spanN wrdU (s.drop (i + 1)) : Nat) : Int)).toNat) = s[i] :: (s.drop (i + 1)).take (spanN wrdU (s.drop (i + 1))):=by rw [hx]; exact zAE _
 rw [htx] at hnu
 have k45 : s[i] = 45 -> ((zO (bs s) ((i : Int)).toNat == 45) == false) = true -> False:=fun h h2 => by
  have e : (zO (bs s) ((i : Int)).toNat == 45) = true:=(q 45 (by omega)).trans (by rw [h]; rfl)
  rw [e] at h2; cases h2
 have kn45 : s[i] ≠ 45 -> ((zO (bs s) ((i : Int)).toNat == 45) == false) = false -> False:=fun h h2 => by
  have e : (zO (bs s) ((i : Int)).toNat == 45) = false:=(q 45 (by omega)).trans (by simpa using h)
  rw [e] at h2; cases h2
 have kge : 48 <= s[i].toNat -> (decide (zO (bs s) ((i : Int)).toNat >= 48) == true) = false -> False:=fun h h2 => by
  rw [hbt,decide_eq_true (show ((s[i].toNat : Nat) : Int) >= 48 by omega)] at h2; cases h2
 have kng : s[i].toNat < 48 -> (decide (zO (bs s) ((i : Int)).toNat >= 48) == true) = true -> False:=fun h h2 => by
  rw [hbt,decide_eq_false (show ¬ ((s[i].toNat : Nat) : Int) >= 48 by omega)] at h2; cases h2
 rcases h with h | ⟨h,hd⟩
 . have f2 : (zO (bs s) ((i : Int)).toNat == 45) = true:=(q 45 (by omega)).trans (by rw [h]; rfl)
   have k1:=k45 h
   refine zF 116 Tryz.func85 rfl rfl rfl rfl ?_
   intro s0 w he
   repeat' (first
|apply zE
 . conv => lhs; whnf
 . assumption
|exact (k1 ‹_›).elim
|refine zA ?_
|refine zB ?_
|refine zG ?_
|apply aw_1
 conv => whnf
 refine ⟨?_,trivial⟩
|apply zY rfl rfl
 . conv => lhs; whnf
 . conv => lhs; whnf
 . first | exact bT1 ‹_› | exact bT2 ‹_›
|apply s_1
 conv => whnf; arg 1; arg 4; arg 3; whnf
 refine ⟨?_,?_⟩
|apply ze rfl
 . conv => lhs; whnf
 . conv => lhs; whnf
 . first | exact hsg | exact hsp | exact hnu
|apply zI rfl rfl rfl
 . conv => lhs; whnf
 . conv => lhs; whnf; arg 1; whnf
 . conv => lhs; whnf; arg 1; whnf
 . exact ⟨by kernel_rfl,by kernel_rfl⟩
 . rfl
|apply zd rfl
 . conv => lhs; whnf
 . conv => lhs; whnf
 . first | rfl | assumption
|apply zT rfl
 . conv => lhs; whnf
 . conv => lhs; whnf
 . conv => lhs; whnf; arg 2; whnf
|refine zU ?_
|refine za ?_
|refine zC ?_
|exact trivial
|intro hg)
   . refine ⟨_,_,_,rfl,rfl,rfl,?_⟩
     show _ = V.tup [.agg [.c (.int .i64 3),.c (.string ((bs s).extract ((i : Int)).toNat (((i + 1 + spanN wrdU (s.drop (i + 1)) : Nat) : Int)).toNat)),.c (.int .i64 (i : Int))],.c (.int .i64 ((i + 1 + spanN wrdU (s.drop (i + 1)) : Nat) : Int)),.c (.int .i64 (nerU (numU (s[i] :: (s.drop (i + 1)).take (spanN wrdU (s.drop (i + 1)))))))]
     rw [hx]; rfl
   all_goals first
    | exact zS (by omega)
    | exact ⟨by kernel_rfl,by omega,by omega⟩
    | exact ⟨by kernel_rfl,by omega,by omega,by omega⟩
    | (rw [hbt]; exact zAb _)
    | exact (show Tryz.prog.underlying _ = some TypeDesc.string by kernel_rfl)
    | skip
 . have f2 : (zO (bs s) ((i : Int)).toNat == 45) = false:=(q 45 (by omega)).trans (by simpa using h)
   have hd2 : 48 <= s[i].toNat /\ s[i].toNat <= 57:=by simpa [digU] using hd
   have f3 : decide (zO (bs s) ((i : Int)).toNat >= 48) = true:=by rw [hbt]; exact decide_eq_true (by omega)
   have f4 : decide (zO (bs s) ((i : Int)).toNat <= 57) = true:=by rw [hbt]; exact decide_eq_true (by omega)
   have k1:=kn45 h
   have k2:=kge hd2.1
   refine zF 116 Tryz.func85 rfl rfl rfl rfl ?_
   intro s0 w he
   repeat' (first
|apply zx rfl rfl rfl
 . conv => lhs; whnf
 . first | rfl | assumption
 . conv => lhs; whnf
 . first | exact bT1 ‹_› | exact bT2 ‹_› | rfl
|apply zJ
 . conv => lhs; whnf
 . assumption
|apply zE
 . conv => lhs; whnf
 . assumption
|exact (k1 ‹_›).elim
|exact (k2 ‹_›).elim
|refine zA ?_
|refine zB ?_
|refine zG ?_
|apply aw_1
 conv => whnf
 refine ⟨?_,trivial⟩
|apply zV rfl rfl
 . conv => lhs; whnf
 . conv => lhs; whnf
 . first | exact bF1 ‹_› | exact bF2 ‹_›
|apply s_1
 conv => whnf; arg 1; arg 4; arg 3; whnf
 refine ⟨?_,?_⟩
|apply ze rfl
 . conv => lhs; whnf
 . conv => lhs; whnf
 . first | exact hsg | exact hsp | exact hnu
|apply zI rfl rfl rfl
 . conv => lhs; whnf
 . conv => lhs; whnf; arg 1; whnf
 . conv => lhs; whnf; arg 1; whnf
 . exact ⟨by kernel_rfl,by kernel_rfl⟩
 . rfl
|apply zD rfl
 . conv => lhs; whnf
 . conv => lhs; whnf
 . first | rfl | assumption
 . conv => lhs; whnf; arg 2; whnf
|apply zT rfl
 . conv => lhs; whnf
 . conv => lhs; whnf
 . conv => lhs; whnf; arg 2; whnf
|refine zU ?_
|refine za ?_
|refine zC ?_
|exact trivial
|intro hg)
   . refine ⟨_,_,_,rfl,rfl,rfl,?_⟩
     show _ = V.tup [.agg [.c (.int .i64 3),.c (.string ((bs s).extract ((i : Int)).toNat (((i + 1 + spanN wrdU (s.drop (i + 1)) : Nat) : Int)).toNat)),.c (.int .i64 (i : Int))],.c (.int .i64 ((i + 1 + spanN wrdU (s.drop (i + 1)) : Nat) : Int)),.c (.int .i64 (nerU (numU (s[i] :: (s.drop (i + 1)).take (spanN wrdU (s.drop (i + 1)))))))]
     rw [hx]; rfl
   all_goals first
    | exact zS (by omega)
    | exact ⟨by kernel_rfl,by omega,by omega⟩
    | exact ⟨by kernel_rfl,by omega,by omega,by omega⟩
    | (rw [hbt]; exact zAb _)
    | exact (show Tryz.prog.underlying _ = some TypeDesc.string by kernel_rfl)
    | skip
theorem read_word (h0 : signB s[i] = false) (h46 : s[i] ≠ 46) (h45 : s[i] ≠ 45) (hr : s[i].toNat < 48 \/ 57 < s[i].toNat) (hw : wrdU s[i] = true) (hlen : spanN wrdU (s.drop (i + 1)) + 1 <= 64) : AC EN5 Tryz.prog 85 [.c (.string (bs s)),.c (.int .i64 (i : Int))] (tupR ⟨2,s[i] :: (s.drop (i + 1)).take (spanN wrdU (s.drop (i + 1))),i⟩ (i + 1 + spanN wrdU (s.drop (i + 1))) 0):=by
 have hz:=zh s
 have hbt:=zAJ hi
 have hgd:=zD4 hi
 have hdr : s.drop i = s[i] :: s.drop (i + 1):=List.drop_eq_getElem_cons hi
 have q : ∀ n : Nat,n < 256 -> (zO (bs s) ((i : Int)).toNat == (n : Int)) = (s[i] == UInt8.ofNat n):=fun n hn => by rw [hbt]; exact zBT _ n hn
 have hsg:=zAG ((bs s).data.toList.getD ((i : Int)).toNat 0)
 have f0 : signB ((bs s).data.toList.getD ((i : Int)).toNat 0) = false:=by rw [Int.toNat_natCast,hgd]; exact h0
 have hle:=zAu wrdU (s.drop (i + 1))
 rw [List.length_drop] at hle
 have f1 : (zO (bs s) ((i : Int)).toNat == 46) = false:=(q 46 (by omega)).trans (by simpa using h46)
 have k45 : s[i] = 45 -> ((zO (bs s) ((i : Int)).toNat == 45) == false) = true -> False:=fun h h2 => by
  have e : (zO (bs s) ((i : Int)).toNat == 45) = true:=(q 45 (by omega)).trans (by rw [h]; rfl)
  rw [e] at h2; cases h2
 have kn45 : s[i] ≠ 45 -> ((zO (bs s) ((i : Int)).toNat == 45) == false) = false -> False:=fun h h2 => by
  have e : (zO (bs s) ((i : Int)).toNat == 45) = false:=(q 45 (by omega)).trans (by simpa using h)
  rw [e] at h2; cases h2
 have kge : 48 <= s[i].toNat -> (decide (zO (bs s) ((i : Int)).toNat >= 48) == true) = false -> False:=fun h h2 => by
  rw [hbt,decide_eq_true (show ((s[i].toNat : Nat) : Int) >= 48 by omega)] at h2; cases h2
 have kng : s[i].toNat < 48 -> (decide (zO (bs s) ((i : Int)).toNat >= 48) == true) = true -> False:=fun h h2 => by
  rw [hbt,decide_eq_false (show ¬ ((s[i].toNat : Nat) : Int) >= 48 by omega)] at h2; cases h2
 have hlt:=zCA ((bs s).data.toList.getD ((i : Int)).toNat 0)
 have f5 : wrdU ((bs s).data.toList.getD ((i : Int)).toNat 0) = true:=by rw [Int.toNat_natCast,hgd]; exact hw
 have hsp:=zHq s i (by omega) (by omega)
 have hse : i + spanN wrdU (s.drop i) = i + 1 + spanN wrdU (s.drop (i + 1)):=by rw [hdr,spanN,if_pos hw]; omega
 rw [hse] at hsp
 have hx : (bs s).extract ((i : Int)).toNat (((i + 1 + spanN wrdU (s.drop (i + 1)) : Nat) : Int)).toNat = bs (s[i] :: (s.drop (i + 1)).take (spanN wrdU (s.drop (i + 1)))):=by
  rw [Int.toNat_natCast,Int.toNat_natCast,zCk s (by omega) (by omega),hdr,show i + 1 + spanN wrdU (s.drop (i + 1)) - i = spanN wrdU (s.drop (i + 1)) + 1 by omega,List.take_succ_cons]
 have f6 : decide (((i + 1 + spanN wrdU (s.drop (i + 1)) : Nat) : Int) - (i : Int) > 64) = false:=decide_eq_false (by omega)
 rcases hr with hr | hr
 . have f2 : (zO (bs s) ((i : Int)).toNat == 45) = false:=(q 45 (by omega)).trans (by simpa using h45)
   have k1:=kn45 h45
   have k2:=kng hr
   have f3 : decide (zO (bs s) ((i : Int)).toNat >= 48) = false:=by rw [hbt]; exact decide_eq_false (by omega)
   refine zF 116 Tryz.func85 rfl rfl rfl rfl ?_
   intro s0 w he
   repeat' (first
|apply zo rfl rfl rfl
 . conv => lhs; whnf
 . first | rfl | assumption
 . conv => lhs; whnf
 . first | exact bF1 ‹_› | exact bF2 ‹_› | rfl
|apply zJ
 . conv => lhs; whnf
 . assumption
|apply zE
 . conv => lhs; whnf
 . assumption
|exact (k1 ‹_›).elim
|exact (k2 ‹_›).elim
|refine zA ?_
|refine zB ?_
|refine zG ?_
|apply aw_1
 conv => whnf
 refine ⟨?_,trivial⟩
|apply zV rfl rfl
 . conv => lhs; whnf
 . conv => lhs; whnf
 . first | exact bF1 ‹_› | exact bF2 ‹_›
|apply s_1
 conv => whnf; arg 1; arg 4; arg 3; whnf
 refine ⟨?_,?_⟩
|apply ze rfl
 . conv => lhs; whnf
 . conv => lhs; whnf
 . first | exact hsg | exact hlt | exact hsp
|apply zI rfl rfl rfl
 . conv => lhs; whnf
 . conv => lhs; whnf; arg 1; whnf
 . conv => lhs; whnf; arg 1; whnf
 . exact ⟨by kernel_rfl,by kernel_rfl⟩
 . rfl
|apply zD rfl
 . conv => lhs; whnf
 . conv => lhs; whnf
 . first | rfl | assumption
 . conv => lhs; whnf; arg 2; whnf
|apply zd rfl
 . conv => lhs; whnf
 . conv => lhs; whnf
 . first | rfl | assumption
|apply zT rfl
 . conv => lhs; whnf
 . conv => lhs; whnf
 . conv => lhs; whnf; arg 2; whnf
|refine zU ?_
|refine za ?_
|refine zC ?_
|exact trivial
|intro hg)
   . refine ⟨_,_,_,rfl,rfl,rfl,?_⟩
     show _ = V.tup [.agg [.c (.int .i64 2),.c (.string ((bs s).extract ((i : Int)).toNat (((i + 1 + spanN wrdU (s.drop (i + 1)) : Nat) : Int)).toNat)),.c (.int .i64 (i : Int))],.c (.int .i64 ((i + 1 + spanN wrdU (s.drop (i + 1)) : Nat) : Int)),.c (.int .i64 0)]
     rw [hx]; rfl
   all_goals first
    | exact zS (by omega)
    | exact ⟨by kernel_rfl,by omega,by omega⟩
    | exact ⟨by kernel_rfl,by omega,by omega,by omega⟩
    | (rw [hbt]; exact zAb _)
    | exact (show Tryz.prog.underlying _ = some TypeDesc.string by kernel_rfl)
    | skip
 . have f2 : (zO (bs s) ((i : Int)).toNat == 45) = false:=(q 45 (by omega)).trans (by simpa using h45)
   have k1:=kn45 h45
   have k2:=kge (by omega)
   have f3 : decide (zO (bs s) ((i : Int)).toNat >= 48) = true:=by rw [hbt]; exact decide_eq_true (by omega)
   have f4 : decide (zO (bs s) ((i : Int)).toNat <= 57) = false:=by rw [hbt]; exact decide_eq_false (by omega)
   refine zF 116 Tryz.func85 rfl rfl rfl rfl ?_
   intro s0 w he
   repeat' (first
|apply zx rfl rfl rfl
 . conv => lhs; whnf
 . first | rfl | assumption
 . conv => lhs; whnf
 . first | exact bT1 ‹_› | exact bT2 ‹_› | rfl
|apply zJ
 . conv => lhs; whnf
 . assumption
|apply zE
 . conv => lhs; whnf
 . assumption
|exact (k1 ‹_›).elim
|exact (k2 ‹_›).elim
|refine zA ?_
|refine zB ?_
|refine zG ?_
|apply aw_1
 conv => whnf
 refine ⟨?_,trivial⟩
|apply zV rfl rfl
 . conv => lhs; whnf
 . conv => lhs; whnf
 . first | exact bF1 ‹_› | exact bF2 ‹_›
|apply s_1
 conv => whnf; arg 1; arg 4; arg 3; whnf
 refine ⟨?_,?_⟩
|apply ze rfl
 . conv => lhs; whnf
 . conv => lhs; whnf
 . first | exact hsg | exact hlt | exact hsp
|apply zI rfl rfl rfl
 . conv => lhs; whnf
 . conv => lhs; whnf; arg 1; whnf
 . conv => lhs; whnf; arg 1; whnf
 . exact ⟨by kernel_rfl,by kernel_rfl⟩
 . rfl
|apply zD rfl
 . conv => lhs; whnf
 . conv => lhs; whnf
 . first | rfl | assumption
 . conv => lhs; whnf; arg 2; whnf
|apply zT rfl
 . conv => lhs; whnf
 . conv => lhs; whnf
 . conv => lhs; whnf; arg 2; whnf
|refine zU ?_
|refine za ?_
|refine zC ?_
|exact trivial
|intro hg)
   . refine ⟨_,_,_,rfl,rfl,rfl,?_⟩
     show _ = V.tup [.agg [.c (.int .i64 2),.c (.string ((bs s).extract ((i : Int)).toNat (((i + 1 + spanN wrdU (s.drop (i + 1)) : Nat) : Int)).toNat)),.c (.int .i64 (i : Int))],.c (.int .i64 ((i + 1 + spanN wrdU (s.drop (i + 1)) : Nat) : Int)),.c (.int .i64 0)]
     rw [hx]; rfl
   all_goals first
    | exact zS (by omega)
    | exact ⟨by kernel_rfl,by omega,by omega⟩
    | exact ⟨by kernel_rfl,by omega,by omega,by omega⟩
    | (rw [hbt]; exact zAb _)
    | exact (show Tryz.prog.underlying _ = some TypeDesc.string by kernel_rfl)
    | skip
theorem read_long (h0 : signB s[i] = false) (h46 : s[i] ≠ 46) (h45 : s[i] ≠ 45) (hr : s[i].toNat < 48 \/ 57 < s[i].toNat) (hw : wrdU s[i] = true) (hlen : ¬ spanN wrdU (s.drop (i + 1)) + 1 <= 64) : AC EN5 Tryz.prog 85 [.c (.string (bs s)),.c (.int .i64 (i : Int))] failR:=by
 have hz:=zh s
 have hbt:=zAJ hi
 have hgd:=zD4 hi
 have hdr : s.drop i = s[i] :: s.drop (i + 1):=List.drop_eq_getElem_cons hi
 have q : ∀ n : Nat,n < 256 -> (zO (bs s) ((i : Int)).toNat == (n : Int)) = (s[i] == UInt8.ofNat n):=fun n hn => by rw [hbt]; exact zBT _ n hn
 have hsg:=zAG ((bs s).data.toList.getD ((i : Int)).toNat 0)
 have f0 : signB ((bs s).data.toList.getD ((i : Int)).toNat 0) = false:=by rw [Int.toNat_natCast,hgd]; exact h0
 have hle:=zAu wrdU (s.drop (i + 1))
 rw [List.length_drop] at hle
 have f1 : (zO (bs s) ((i : Int)).toNat == 46) = false:=(q 46 (by omega)).trans (by simpa using h46)
 have k45 : s[i] = 45 -> ((zO (bs s) ((i : Int)).toNat == 45) == false) = true -> False:=fun h h2 => by
  have e : (zO (bs s) ((i : Int)).toNat == 45) = true:=(q 45 (by omega)).trans (by rw [h]; rfl)
  rw [e] at h2; cases h2
 have kn45 : s[i] ≠ 45 -> ((zO (bs s) ((i : Int)).toNat == 45) == false) = false -> False:=fun h h2 => by
  have e : (zO (bs s) ((i : Int)).toNat == 45) = false:=(q 45 (by omega)).trans (by simpa using h)
  rw [e] at h2; cases h2
 have kge : 48 <= s[i].toNat -> (decide (zO (bs s) ((i : Int)).toNat >= 48) == true) = false -> False:=fun h h2 => by
  rw [hbt,decide_eq_true (show ((s[i].toNat : Nat) : Int) >= 48 by omega)] at h2; cases h2
 have kng : s[i].toNat < 48 -> (decide (zO (bs s) ((i : Int)).toNat >= 48) == true) = true -> False:=fun h h2 => by
  rw [hbt,decide_eq_false (show ¬ ((s[i].toNat : Nat) : Int) >= 48 by omega)] at h2; cases h2
 have hlt:=zCA ((bs s).data.toList.getD ((i : Int)).toNat 0)
 have f5 : wrdU ((bs s).data.toList.getD ((i : Int)).toNat 0) = true:=by rw [Int.toNat_natCast,hgd]; exact hw
 have hsp:=zHq s i (by omega) (by omega)
 have hse : i + spanN wrdU (s.drop i) = i + 1 + spanN wrdU (s.drop (i + 1)):=by rw [hdr,spanN,if_pos hw]; omega
 rw [hse] at hsp
 have f6 : decide (((i + 1 + spanN wrdU (s.drop (i + 1)) : Nat) : Int) - (i : Int) > 64) = true:=decide_eq_true (by omega)
 rcases hr with hr | hr
 . have f2 : (zO (bs s) ((i : Int)).toNat == 45) = false:=(q 45 (by omega)).trans (by simpa using h45)
   have k1:=kn45 h45
   have k2:=kng hr
   have f3 : decide (zO (bs s) ((i : Int)).toNat >= 48) = false:=by rw [hbt]; exact decide_eq_false (by omega)
   refine zF 116 Tryz.func85 rfl rfl rfl rfl ?_
   intro s0 w he
   repeat' (first
|apply zo rfl rfl rfl
 . conv => lhs; whnf
 . first | rfl | assumption
 . conv => lhs; whnf
 . first | exact bF1 ‹_› | exact bF2 ‹_› | rfl
|apply zJ
 . conv => lhs; whnf
 . assumption
|apply zE
 . conv => lhs; whnf
 . assumption
|exact (k1 ‹_›).elim
|exact (k2 ‹_›).elim
|refine zA ?_
|refine zB ?_
|refine zG ?_
|apply aw_1
 conv => whnf
 refine ⟨?_,trivial⟩
|apply zV rfl rfl
 . conv => lhs; whnf
 . conv => lhs; whnf
 . first | exact bF1 ‹_› | exact bF2 ‹_›
|apply s_1
 conv => whnf; arg 1; arg 4; arg 3; whnf
 refine ⟨?_,?_⟩
|apply ze rfl
 . conv => lhs; whnf
 . conv => lhs; whnf
 . first | exact hsg | exact hlt | exact hsp
|apply zI rfl rfl rfl
 . conv => lhs; whnf
 . conv => lhs; whnf; arg 1; whnf
 . conv => lhs; whnf; arg 1; whnf
 . exact ⟨by kernel_rfl,by kernel_rfl⟩
 . rfl
|apply zD rfl
 . conv => lhs; whnf
 . conv => lhs; whnf
 . first | rfl | assumption
 . conv => lhs; whnf; arg 2; whnf
|apply zd rfl
 . conv => lhs; whnf
 . conv => lhs; whnf
 . first | rfl | assumption
|apply zT rfl
 . conv => lhs; whnf
 . conv => lhs; whnf
 . conv => lhs; whnf; arg 2; whnf
|refine zU ?_
|refine za ?_
|refine zC ?_
|exact trivial
|intro hg)
   . exact ⟨_,_,_,rfl,rfl,rfl,rfl⟩
   all_goals first
    | exact zS (by omega)
    | exact ⟨by kernel_rfl,by omega,by omega⟩
    | exact ⟨by kernel_rfl,by omega,by omega,by omega⟩
    | (rw [hbt]; exact zAb _)
    | exact (show Tryz.prog.underlying _ = some TypeDesc.string by kernel_rfl)
    | skip
 . have f2 : (zO (bs s) ((i : Int)).toNat == 45) = false:=(q 45 (by omega)).trans (by simpa using h45)
   have k1:=kn45 h45
   have k2:=kge (by omega)
   have f3 : decide (zO (bs s) ((i : Int)).toNat >= 48) = true:=by rw [hbt]; exact decide_eq_true (by omega)
   have f4 : decide (zO (bs s) ((i : Int)).toNat <= 57) = false:=by rw [hbt]; exact decide_eq_false (by omega)
   refine zF 116 Tryz.func85 rfl rfl rfl rfl ?_
   intro s0 w he
   repeat' (first
|apply zx rfl rfl rfl
 . conv => lhs; whnf
 . first | rfl | assumption
 . conv => lhs; whnf
 . first | exact bT1 ‹_› | exact bT2 ‹_› | rfl
|apply zJ
 . conv => lhs; whnf
 . assumption
|apply zE
 . conv => lhs; whnf
 . assumption
|exact (k1 ‹_›).elim
|exact (k2 ‹_›).elim
|refine zA ?_
|refine zB ?_
|refine zG ?_
|apply aw_1
 conv => whnf
 refine ⟨?_,trivial⟩
|apply zV rfl rfl
 . conv => lhs; whnf
 . conv => lhs; whnf
 . first | exact bF1 ‹_› | exact bF2 ‹_›
|apply s_1
 conv => whnf; arg 1; arg 4; arg 3; whnf
 refine ⟨?_,?_⟩
|apply ze rfl
 . conv => lhs; whnf
 . conv => lhs; whnf
 . first | exact hsg | exact hlt | exact hsp
|apply zI rfl rfl rfl
 . conv => lhs; whnf
 . conv => lhs; whnf; arg 1; whnf
 . conv => lhs; whnf; arg 1; whnf
 . exact ⟨by kernel_rfl,by kernel_rfl⟩
 . rfl
|apply zD rfl
 . conv => lhs; whnf
 . conv => lhs; whnf
 . first | rfl | assumption
 . conv => lhs; whnf; arg 2; whnf
|apply zT rfl
 . conv => lhs; whnf
 . conv => lhs; whnf
 . conv => lhs; whnf; arg 2; whnf
|refine zU ?_
|refine za ?_
|refine zC ?_
|exact trivial
|intro hg)
   . exact ⟨_,_,_,rfl,rfl,rfl,rfl⟩
   all_goals first
    | exact zS (by omega)
    | exact ⟨by kernel_rfl,by omega,by omega⟩
    | exact ⟨by kernel_rfl,by omega,by omega,by omega⟩
    | (rw [hbt]; exact zAb _)
    | exact (show Tryz.prog.underlying _ = some TypeDesc.string by kernel_rfl)
    | skip
theorem read_none (h0 : signB s[i] = false) (h46 : s[i] ≠ 46) (h45 : s[i] ≠ 45) (hr : s[i].toNat < 48 \/ 57 < s[i].toNat) (hw : wrdU s[i] = false) (h34 : s[i] ≠ 34) : AC EN5 Tryz.prog 85 [.c (.string (bs s)),.c (.int .i64 (i : Int))] failR:=by
 have hz:=zh s
 have hbt:=zAJ hi
 have hgd:=zD4 hi
 have hdr : s.drop i = s[i] :: s.drop (i + 1):=List.drop_eq_getElem_cons hi
 have q : ∀ n : Nat,n < 256 -> (zO (bs s) ((i : Int)).toNat == (n : Int)) = (s[i] == UInt8.ofNat n):=fun n hn => by rw [hbt]; exact zBT _ n hn
 have hsg:=zAG ((bs s).data.toList.getD ((i : Int)).toNat 0)
 have f0 : signB ((bs s).data.toList.getD ((i : Int)).toNat 0) = false:=by rw [Int.toNat_natCast,hgd]; exact h0
 have hle:=zAu wrdU (s.drop (i + 1))
 rw [List.length_drop] at hle
 have f1 : (zO (bs s) ((i : Int)).toNat == 46) = false:=(q 46 (by omega)).trans (by simpa using h46)
 have k45 : s[i] = 45 -> ((zO (bs s) ((i : Int)).toNat == 45) == false) = true -> False:=fun h h2 => by
  have e : (zO (bs s) ((i : Int)).toNat == 45) = true:=(q 45 (by omega)).trans (by rw [h]; rfl)
  rw [e] at h2; cases h2
 have kn45 : s[i] ≠ 45 -> ((zO (bs s) ((i : Int)).toNat == 45) == false) = false -> False:=fun h h2 => by
  have e : (zO (bs s) ((i : Int)).toNat == 45) = false:=(q 45 (by omega)).trans (by simpa using h)
  rw [e] at h2; cases h2
 have kge : 48 <= s[i].toNat -> (decide (zO (bs s) ((i : Int)).toNat >= 48) == true) = false -> False:=fun h h2 => by
  rw [hbt,decide_eq_true (show ((s[i].toNat : Nat) : Int) >= 48 by omega)] at h2; cases h2
 have kng : s[i].toNat < 48 -> (decide (zO (bs s) ((i : Int)).toNat >= 48) == true) = true -> False:=fun h h2 => by
  rw [hbt,decide_eq_false (show ¬ ((s[i].toNat : Nat) : Int) >= 48 by omega)] at h2; cases h2
 have hlt:=zCA ((bs s).data.toList.getD ((i : Int)).toNat 0)
 have f5 : wrdU ((bs s).data.toList.getD ((i : Int)).toNat 0) = false:=by rw [Int.toNat_natCast,hgd]; exact hw
 have f6 : (zO (bs s) ((i : Int)).toNat == 34) = false:=(q 34 (by omega)).trans (by simpa using h34)
 rcases hr with hr | hr
 . have f2 : (zO (bs s) ((i : Int)).toNat == 45) = false:=(q 45 (by omega)).trans (by simpa using h45)
   have k1:=kn45 h45
   have k2:=kng hr
   have f3 : decide (zO (bs s) ((i : Int)).toNat >= 48) = false:=by rw [hbt]; exact decide_eq_false (by omega)
   refine zF 116 Tryz.func85 rfl rfl rfl rfl ?_
   intro s0 w he
   repeat' (first
|apply zo rfl rfl rfl
 . conv => lhs; whnf
 . first | rfl | assumption
 . conv => lhs; whnf
 . first | exact bF1 ‹_› | exact bF2 ‹_› | rfl
|apply zE
 . conv => lhs; whnf
 . assumption
|exact (k1 ‹_›).elim
|exact (k2 ‹_›).elim
|refine zA ?_
|refine zB ?_
|refine zG ?_
|refine zb ?_
|apply aw_1
 conv => whnf
 refine ⟨?_,trivial⟩
|apply zV rfl rfl
 . conv => lhs; whnf
 . conv => lhs; whnf
 . first | exact bF1 ‹_› | exact bF2 ‹_›
|apply s_1
 conv => whnf; arg 1; arg 4; arg 3; whnf
 refine ⟨?_,?_⟩
|apply ze rfl
 . conv => lhs; whnf
 . conv => lhs; whnf
 . first | exact hsg | exact hlt
|apply zI rfl rfl rfl
 . conv => lhs; whnf
 . conv => lhs; whnf; arg 1; whnf
 . conv => lhs; whnf; arg 1; whnf
 . exact ⟨by kernel_rfl,by kernel_rfl⟩
 . rfl
|apply zD rfl
 . conv => lhs; whnf
 . conv => lhs; whnf
 . first | rfl | assumption
 . conv => lhs; whnf; arg 2; whnf
|apply zd rfl
 . conv => lhs; whnf
 . conv => lhs; whnf
 . first | rfl | assumption
|apply zT rfl
 . conv => lhs; whnf
 . conv => lhs; whnf
 . conv => lhs; whnf; arg 2; whnf
|refine zC ?_
|exact trivial
|intro hg)
   . exact ⟨_,_,_,rfl,rfl,rfl,rfl⟩
   all_goals first
    | exact zS (by omega)
    | exact ⟨by kernel_rfl,by omega,by omega⟩
    | exact ⟨by kernel_rfl,by omega,by omega,by omega⟩
    | (rw [hbt]; exact zAb _)
    | exact (show Tryz.prog.underlying _ = some TypeDesc.string by kernel_rfl)
    | skip
 . have f2 : (zO (bs s) ((i : Int)).toNat == 45) = false:=(q 45 (by omega)).trans (by simpa using h45)
   have k1:=kn45 h45
   have k2:=kge (by omega)
   have f3 : decide (zO (bs s) ((i : Int)).toNat >= 48) = true:=by rw [hbt]; exact decide_eq_true (by omega)
   have f4 : decide (zO (bs s) ((i : Int)).toNat <= 57) = false:=by rw [hbt]; exact decide_eq_false (by omega)
   refine zF 116 Tryz.func85 rfl rfl rfl rfl ?_
   intro s0 w he
   repeat' (first
|apply zx rfl rfl rfl
 . conv => lhs; whnf
 . first | rfl | assumption
 . conv => lhs; whnf
 . first | exact bT1 ‹_› | exact bT2 ‹_› | rfl
|apply zE
 . conv => lhs; whnf
 . assumption
|exact (k1 ‹_›).elim
|exact (k2 ‹_›).elim
|refine zA ?_
|refine zB ?_
|refine zG ?_
|refine zb ?_
|apply aw_1
 conv => whnf
 refine ⟨?_,trivial⟩
|apply zV rfl rfl
 . conv => lhs; whnf
 . conv => lhs; whnf
 . first | exact bF1 ‹_› | exact bF2 ‹_›
|apply s_1
 conv => whnf; arg 1; arg 4; arg 3; whnf
 refine ⟨?_,?_⟩
|apply ze rfl
 . conv => lhs; whnf
 . conv => lhs; whnf
 . first | exact hsg | exact hlt
|apply zI rfl rfl rfl
 . conv => lhs; whnf
 . conv => lhs; whnf; arg 1; whnf
 . conv => lhs; whnf; arg 1; whnf
 . exact ⟨by kernel_rfl,by kernel_rfl⟩
 . rfl
|apply zD rfl
 . conv => lhs; whnf
 . conv => lhs; whnf
 . first | rfl | assumption
 . conv => lhs; whnf; arg 2; whnf
|apply zT rfl
 . conv => lhs; whnf
 . conv => lhs; whnf
 . conv => lhs; whnf; arg 2; whnf
|refine zC ?_
|exact trivial
|intro hg)
   . exact ⟨_,_,_,rfl,rfl,rfl,rfl⟩
   all_goals first
    | exact zS (by omega)
    | exact ⟨by kernel_rfl,by omega,by omega⟩
    | exact ⟨by kernel_rfl,by omega,by omega,by omega⟩
    | (rw [hbt]; exact zAb _)
    | exact (show Tryz.prog.underlying _ = some TypeDesc.string by kernel_rfl)
    | skip
end
section
variable {s : List UInt8} {i : Nat} (hi : i < s.length) (hs : s.length <= 70000)
include hi hs
theorem read_open (h : s[i] = 34) (hn : litN (s.drop (i + 1)) = none) : AC EN5 Tryz.prog 85 [.c (.string (bs s)),.c (.int .i64 (i : Int))] failR:=by
 have hz:=zh s
 have hbt:=zAJ hi
 have hgd:=zD4 hi
 have hdr : s.drop i = s[i] :: s.drop (i + 1):=List.drop_eq_getElem_cons hi
 have q : ∀ n : Nat,n < 256 -> (zO (bs s) ((i : Int)).toNat == (n : Int)) = (s[i] == UInt8.ofNat n):=fun n hn => by rw [hbt]; exact zBT _ n hn
 have hsg:=zAG ((bs s).data.toList.getD ((i : Int)).toNat 0)
 have f0 : signB ((bs s).data.toList.getD ((i : Int)).toNat 0) = false:=by rw [Int.toNat_natCast,hgd,h]; rfl
 have f1 : (zO (bs s) ((i : Int)).toNat == 46) = false:=(q 46 (by omega)).trans (by rw [h]; rfl)
 have f2 : (zO (bs s) ((i : Int)).toNat == 45) = false:=(q 45 (by omega)).trans (by rw [h]; rfl)
 have f3 : decide (zO (bs s) ((i : Int)).toNat >= 48) = false:=by rw [hbt,h]; rfl
 have k1 : ((zO (bs s) ((i : Int)).toNat == 45) == false) = false -> False:=fun h2 => by rw [f2] at h2; cases h2
 have k2 : (decide (zO (bs s) ((i : Int)).toNat >= 48) == true) = true -> False:=fun h2 => by rw [f3] at h2; cases h2
 have hlt:=zCA ((bs s).data.toList.getD ((i : Int)).toNat 0)
 have f5 : wrdU ((bs s).data.toList.getD ((i : Int)).toNat 0) = false:=by rw [Int.toNat_natCast,hgd,h]; rfl
 have f6 : (zO (bs s) ((i : Int)).toNat == 34) = true:=(q 34 (by omega)).trans (by rw [h]; rfl)
 have hll:=zFQ s i hi (by omega)
 have hv : litV s i = -1:=by unfold litV; rw [hn]
 rw [hv] at hll
 refine zF 116 Tryz.func85 rfl rfl rfl rfl ?_
 intro s0 w he
 repeat' (first
|apply zo rfl rfl rfl
 . conv => lhs; whnf
 . first | rfl | assumption
 . conv => lhs; whnf
 . first | exact bF1 ‹_› | exact bF2 ‹_› | rfl
|apply zJ
 . conv => lhs; whnf
 . assumption
|apply zE
 . conv => lhs; whnf
 . assumption
|exact (k1 ‹_›).elim
|exact (k2 ‹_›).elim
|refine zA ?_
|refine zB ?_
|refine zG ?_
|apply aw_1
 conv => whnf
 refine ⟨?_,trivial⟩
|apply zV rfl rfl
 . conv => lhs; whnf
 . conv => lhs; whnf
 . first | exact bF1 ‹_› | exact bF2 ‹_›
|apply s_1
 conv => whnf; arg 1; arg 4; arg 3; whnf
 refine ⟨?_,?_⟩
|apply ze rfl
 . conv => lhs; whnf
 . conv => lhs; whnf
 . first | exact hsg | exact hlt | exact hll
|apply zI rfl rfl rfl
 . conv => lhs; whnf
 . conv => lhs; whnf; arg 1; whnf
 . conv => lhs; whnf; arg 1; whnf
 . exact ⟨by kernel_rfl,by kernel_rfl⟩
 . rfl
|apply zD rfl
 . conv => lhs; whnf
 . conv => lhs; whnf
 . first | rfl | assumption
 . conv => lhs; whnf; arg 2; whnf
|apply zd rfl
 . conv => lhs; whnf
 . conv => lhs; whnf
 . first | rfl | assumption
|apply zT rfl
 . conv => lhs; whnf
 . conv => lhs; whnf
 . conv => lhs; whnf; arg 2; whnf
|refine zU ?_
|refine za ?_
|refine zC ?_
|exact trivial
|intro hg)
 . exact ⟨_,_,_,rfl,rfl,rfl,rfl⟩
 all_goals first
  | exact zS (by omega)
  | exact ⟨by kernel_rfl,by omega,by omega⟩
  | exact ⟨by kernel_rfl,by omega,by omega,by omega⟩
  | (rw [hbt]; exact zAb _)
  | exact (show Tryz.prog.underlying _ = some TypeDesc.string by kernel_rfl)
  | skip
theorem read_text (h : s[i] = 34) (n : Nat) (hn : litN (s.drop (i + 1)) = some n) : AC EN5 Tryz.prog 85 [.c (.string (bs s)),.c (.int .i64 (i : Int))] (tupR ⟨4,(unquoteU (s[i] :: (s.drop (i + 1)).take n)).getD [],i⟩ (i + 1 + n) (uqE (unquoteU (s[i] :: (s.drop (i + 1)).take n)))):=by
 have hz:=zh s
 have hbt:=zAJ hi
 have hgd:=zD4 hi
 have hdr : s.drop i = s[i] :: s.drop (i + 1):=List.drop_eq_getElem_cons hi
 have q : ∀ n : Nat,n < 256 -> (zO (bs s) ((i : Int)).toNat == (n : Int)) = (s[i] == UInt8.ofNat n):=fun n hn => by rw [hbt]; exact zBT _ n hn
 have hsg:=zAG ((bs s).data.toList.getD ((i : Int)).toNat 0)
 have f0 : signB ((bs s).data.toList.getD ((i : Int)).toNat 0) = false:=by rw [Int.toNat_natCast,hgd,h]; rfl
 have f1 : (zO (bs s) ((i : Int)).toNat == 46) = false:=(q 46 (by omega)).trans (by rw [h]; rfl)
 have f2 : (zO (bs s) ((i : Int)).toNat == 45) = false:=(q 45 (by omega)).trans (by rw [h]; rfl)
 have f3 : decide (zO (bs s) ((i : Int)).toNat >= 48) = false:=by rw [hbt,h]; rfl
 have k1 : ((zO (bs s) ((i : Int)).toNat == 45) == false) = false -> False:=fun h2 => by rw [f2] at h2; cases h2
 have k2 : (decide (zO (bs s) ((i : Int)).toNat >= 48) == true) = true -> False:=fun h2 => by rw [f3] at h2; cases h2
 have hlt:=zCA ((bs s).data.toList.getD ((i : Int)).toNat 0)
 have f5 : wrdU ((bs s).data.toList.getD ((i : Int)).toNat 0) = false:=by rw [Int.toNat_natCast,hgd,h]; rfl
 have f6 : (zO (bs s) ((i : Int)).toNat == 34) = true:=(q 34 (by omega)).trans (by rw [h]; rfl)
 have hll:=zFQ s i hi (by omega)
 have hln:=zEg _ n hn
 rw [List.length_drop] at hln
 have hv : litV s i = ((i + 1 + n : Nat) : Int):=by unfold litV; rw [hn]
 rw [hv] at hll
 have f7 : decide (((i + 1 + n : Nat) : Int) < 0) = false:=decide_eq_false (by omega)
 have hx : (bs s).extract ((i : Int)).toNat (((i + 1 + n : Nat) : Int)).toNat = bs (s[i] :: (s.drop (i + 1)).take n):=by
  rw [Int.toNat_natCast,Int.toNat_natCast,zCk s (by omega) (by omega),hdr,show i + 1 + n - i = n + 1 by omega,List.take_succ_cons]
 have hsz : ((bs s).extract ((i : Int)).toNat (((i + 1 + n : Nat) : Int)).toNat).size <= 100000:=by rw [ByteArray.size_extract]; omega
 have huq:=zHh _ hsz
 unfold uqVV at huq
 have htx : tx ((bs s).extract ((i : Int)).toNat (((i + 1 + n : Nat) : Int)).toNat) = s[i] :: (s.drop (i + 1)).take n:=by rw [hx]; exact zAE _
 rw [htx] at huq
 refine zF 116 Tryz.func85 rfl rfl rfl rfl ?_
 intro s0 w he
 repeat' (first
|apply zo rfl rfl rfl
 . conv => lhs; whnf
 . first | rfl | assumption
 . conv => lhs; whnf
 . first | exact bF1 ‹_› | exact bF2 ‹_› | rfl
|apply zJ
 . conv => lhs; whnf
 . assumption
|apply zE
 . conv => lhs; whnf
 . assumption
|exact (k1 ‹_›).elim
|exact (k2 ‹_›).elim
|refine zA ?_
|refine zB ?_
|refine zG ?_
|apply aw_1
 conv => whnf
 refine ⟨?_,trivial⟩
|apply zV rfl rfl
 . conv => lhs; whnf
 . conv => lhs; whnf
 . first | exact bF1 ‹_› | exact bF2 ‹_›
|apply s_1
 conv => whnf; arg 1; arg 4; arg 3; whnf
 refine ⟨?_,?_⟩
|apply ze rfl
 . conv => lhs; whnf
 . conv => lhs; whnf
 . first | exact hsg | exact hlt | exact hll | exact huq
|apply zI rfl rfl rfl
 . conv => lhs; whnf
 . conv => lhs; whnf; arg 1; whnf
 . conv => lhs; whnf; arg 1; whnf
 . exact ⟨by kernel_rfl,by kernel_rfl⟩
 . rfl
|apply zD rfl
 . conv => lhs; whnf
 . conv => lhs; whnf
 . first | rfl | assumption
 . conv => lhs; whnf; arg 2; whnf
|apply zd rfl
 . conv => lhs; whnf
 . conv => lhs; whnf
 . first | rfl | assumption
|apply zT rfl
 . conv => lhs; whnf
 . conv => lhs; whnf
 . conv => lhs; whnf; arg 2; whnf
|refine zU ?_
|refine za ?_
|refine zC ?_
|exact trivial
|intro hg)
 . exact ⟨_,_,_,rfl,rfl,rfl,rfl⟩
 all_goals first
  | exact zS (by omega)
  | exact ⟨by kernel_rfl,by omega,by omega⟩
  | exact ⟨by kernel_rfl,by omega,by omega,by omega⟩
  | (rw [hbt]; exact zAb _)
  | exact (show Tryz.prog.underlying _ = some TypeDesc.string by kernel_rfl)
  | skip
theorem read_ac : AC EN5 Tryz.prog 85 [.c (.string (bs s)),.c (.int .i64 (i : Int))] (readV (s.drop i) i):=by
 have hdr : s.drop i = s[i] :: s.drop (i + 1):=List.drop_eq_getElem_cons hi
 rw [hdr]
 unfold readV
 simp only []
 by_cases h0 : signB s[i] = true
 . rw [if_pos h0]; exact read_sign hi hs h0
 rw [if_neg h0]
 have h0 : signB s[i] = false:=by simpa using h0
 by_cases h46 : s[i] = 46
 . rw [if_pos (by simp [h46])]
   have hp : Lib.hasPrefix (s.drop i) [46,46,46] = decide ((s.drop (i + 1)).take 2 = [46,46]):=by
    rw [hdr,h46]
    show List.isPrefixOf [46,46] (s.drop (i + 1)) = _
    rw [Bool.eq_iff_iff]
    simp only [List.isPrefixOf_iff_prefix,decide_eq_true_eq,List.prefix_iff_eq_take]
    exact eq_comm
   have:=read_dots hi hs h0 h46 _ hp (fun hd => by
    have:=congrArg List.length (of_decide_eq_true hd)
    rw [List.length_take,List.length_drop] at this
    simp at this; omega)
   simpa using this
 rw [if_neg (by simpa using h46)]
 by_cases hd : (s[i] == 45 || digU s[i]) = true
 . rw [if_pos hd]
   refine read_num hi hs h0 h46 ?_
   by_cases h45 : s[i] = 45
   . exact .inl h45
   . exact .inr ⟨h45,by simpa [h45] using hd⟩
 rw [if_neg hd]
 have hd : (s[i] == 45 || digU s[i]) = false:=by simpa using hd
 rw [Bool.or_eq_false_iff] at hd
 have h45 : s[i] ≠ 45:=by simpa using hd.1
 have hr : s[i].toNat < 48 \/ 57 < s[i].toNat:=by
  have:=hd.2
  simp only [digU,decide_eq_false_iff_not] at this
  omega
 by_cases hw : wrdU s[i] = true
 . rw [if_pos hw]
   by_cases hl : spanN wrdU (s.drop (i + 1)) + 1 > 64
   . rw [if_pos hl]; exact read_long hi hs h0 h46 h45 hr hw (by omega)
   . rw [if_neg hl]; exact read_word hi hs h0 h46 h45 hr hw (by omega)
 rw [if_neg hw]
 have hw : wrdU s[i] = false:=by simpa using hw
 by_cases h34 : s[i] = 34
 . rw [if_pos (by simp [h34])]
   cases hn : litN (s.drop (i + 1)) with
   | none => exact read_open hi hs h34 hn
   | some n => exact read_text hi hs h34 n hn
 . rw [if_neg (by simpa using h34)]
   exact read_none hi hs h0 h46 h45 hr hw h34
end
theorem zIz (c : UInt8) (r : List UInt8) (i : Nat) :
 (∀ k t n,readU (c :: r) = .ok (k,t,n) -> readV (c :: r) i = tupR ⟨k,t,i⟩ (i + n) 0) /\ (∀ e,readU (c :: r) = .error e -> e ≠ 0 /\ ∃ t k,readV (c :: r) i = tupR t k e):=by
 unfold readU readV
 simp only []
 have f3 : ∀ e : Int,(3 : Int) = e -> e ≠ 0 /\ ∃ t k,failR = tupR t k e:=fun e he => by subst he; exact ⟨by decide,_,_,rfl⟩
 by_cases h0 : signB c = true
 . rw [if_pos h0,if_pos h0]
   exact ⟨fun k t n h => by cases h; rfl,fun e h => by cases h⟩
 rw [if_neg h0,if_neg h0]
 by_cases h46 : (c == 46) = true
 . rw [if_pos h46,if_pos h46]
   by_cases hp : r.take 2 = [46,46]
   . rw [if_pos hp,if_pos hp]
     exact ⟨fun k t n h => by cases h; rfl,fun e h => by cases h⟩
   . rw [if_neg hp,if_neg hp]
     exact ⟨fun k t n h => (by cases h),fun e h => by cases h; exact f3 _ rfl⟩
 rw [if_neg h46,if_neg h46]
 by_cases hd : (c == 45 || digU c) = true
 . rw [if_pos hd,if_pos hd]
   by_cases hn : nerU (numU (c :: r.take (spanN wrdU r))) = 0
   . rw [if_pos hn]
     refine ⟨fun k t n h => ?_,fun e h => by cases h⟩
     cases h
     rw [hn,show i + 1 + spanN wrdU r = i + (spanN wrdU r + 1) by omega]
   . rw [if_neg hn]
     exact ⟨fun k t n h => (by cases h),fun e h => by cases h; exact ⟨hn,_,_,rfl⟩⟩
 rw [if_neg hd,if_neg hd]
 have hd : (c == 45 || digU c) = false:=by simpa using hd
 rw [Bool.or_eq_false_iff] at hd
 have hwl : wrdU c = letU c:=by unfold wrdU; rw [hd.2,Bool.or_false]
 rw [hwl]
 by_cases hw : letU c = true
 . rw [if_pos hw,if_pos hw]
   by_cases hl : spanN wrdU r + 1 > 64
   . rw [if_pos hl,if_pos hl]
     exact ⟨fun k t n h => (by cases h),fun e h => by cases h; exact f3 _ rfl⟩
   . rw [if_neg hl,if_neg hl]
     refine ⟨fun k t n h => ?_,fun e h => by cases h⟩
     cases h
     rw [show i + 1 + spanN wrdU r = i + (spanN wrdU r + 1) by omega]
 rw [if_neg hw,if_neg hw]
 by_cases h34 : (c == 34) = true
 . rw [if_pos h34,if_pos h34]
   cases hn : litN r with
   | none => exact ⟨fun k t n h => (by cases h),fun e h => by cases h; exact f3 _ rfl⟩
   | some n =>
     dsimp only
     cases hu : unquoteU (c :: r.take n) with
     | none => exact ⟨fun k t n h => (by cases h),fun e h => by cases h; exact ⟨by decide,_,_,rfl⟩⟩
     | some t =>
       refine ⟨fun k t n h => ?_,fun e h => by cases h⟩
       cases h
       show tupR ⟨4,t,i⟩ (i + 1 + n) 0 = tupR ⟨4,t,i⟩ (i + (n + 1)) 0
       rw [show i + 1 + n = i + (n + 1) by omega]
 . rw [if_neg h34,if_neg h34]
   exact ⟨fun k t n h => (by cases h),fun e h => by cases h; exact f3 _ rfl⟩
theorem zGU : z6 Tryz.prog 61 = some (143,32):=by kernel_rfl
def scanG (f : Nat) (l : List UInt8) (k : Nat) : Except (Nat × Int) (List Tok):=
 match l with
 | [] => .ok [⟨5,[],k⟩]
 | c :: r => match zDA (c :: r) k with
   | .error e => .error (k,e)
   | .ok (t,n) => match scanF f ((c :: r).drop n) (k + n) with
     | .error e => .error e
     | .ok ts => .ok (t :: ts)
theorem zIq (f : Nat) (l : List UInt8) (i : Nat) : scanF (f + 1) l i = scanG f (l.drop (skipM false l)) (i + skipM false l):=by
 have hle:=zAl false l
 rw [scanF]
 unfold scanG
 cases h : l.drop (skipM false l) with
 | nil =>
   have:=congrArg List.length h
   rw [List.length_drop] at this
   have e : skipM false l = l.length:=by simp at this; omega
   rw [e]
 | cons c r => rfl
def zHd (acc : List Tok) : Except (Nat × Int) (List Tok) -> Except (Nat × Int) (List Tok)
 | .error e => .error e
 | .ok ts => .ok (acc ++ ts)
noncomputable def scanW : Except (Nat × Int) (List Tok) -> V
 | .ok ts => .tup [.sl 143 (ts.map tokD),.c (.int .i64 0),.c (.int .i64 0)]
 | .error x => .tup [.c (.slice none 0 0),.c (.int .i64 (x.1 : Int)),.c (.int .i64 x.2)]
theorem zDh (r : Except (Nat × Int) (List Tok)) : (scanW r).pure = true:=by cases r <;> rfl
noncomputable def HSn (s : List UInt8) (k : Nat) (acc : List Tok) : Vst 44:=
 stS 44 [(0,.c (.string (bs s))),(5,.own 5 143 (acc.map tokD)),(6,.c (.int .i64 (k : Int)))] [(5,.tok 143 (acc.map tokD).length)]
theorem scan_big (s : List UInt8) (hs : 65536 < s.length) (hs2 : s.length <= 4000000000) : AC EN5 Tryz.prog 37 [.c (.string (bs s))] (scanW (zAp s)):=by
 have hz:=zh s
 have e : zAp s = .error (65536,4):=by unfold zAp; rw [if_pos hs]
 have f0 : decide (((bs s).size : Int) > 65536) = true:=decide_eq_true (by omega)
 rw [e]
 refine zF 44 Tryz.func37 rfl rfl rfl (zDh _) ?_
 intro s0 w he
 repeat' (first
|apply zJ
 . conv => lhs; whnf
 . assumption
|refine zA ?_
|refine zB ?_
|refine zG ?_
|apply aw_1
 conv => whnf
 refine ⟨?_,trivial⟩
|apply s_1
 conv => whnf; arg 1; arg 4; arg 3; whnf
 refine ⟨?_,?_⟩
|refine zU ?_
|refine zC ?_
|exact trivial)
 . exact ⟨_,_,_,rfl,rfl,rfl,rfl⟩
 all_goals exact (show Tryz.prog.underlying _ = some TypeDesc.string by kernel_rfl)
theorem scan_ac (s : List UInt8) (hs : s.length <= 4000000000) : AC EN5 Tryz.prog 37 [.c (.string (bs s))] (scanW (zAp s)):=by
 by_cases hbig : 65536 < s.length
 . exact scan_big s hbig hs
 have hz:=zh s
 have f0 : decide (((bs s).size : Int) > 65536) = false:=decide_eq_false (by omega)
 have hsk0:=skip_ac s 0 (by omega) (by omega)
 rw [Nat.zero_add,List.drop_zero] at hsk0
 have hkl:=zAl false s
 have e0 : zAp s = zHd [] (scanG s.length (s.drop (skipM false s)) (skipM false s)):=by
  unfold zAp
  rw [if_neg hbig,zIq,Nat.zero_add]
  cases scanG s.length (s.drop (skipM false s)) (skipM false s) <;> rfl
 refine zF 44 Tryz.func37 rfl rfl rfl (zDh _) ?_
 intro s0 w he
 repeat' (first
|apply zE
 . conv => lhs; whnf
 . assumption
|refine zA ?_
|refine zB ?_
|refine zG ?_
|apply aw_1
 conv => whnf
 refine ⟨?_,trivial⟩
|apply s_1
 conv => whnf; arg 1; arg 4; arg 3; whnf
 refine ⟨?_,?_⟩
|apply ze rfl
 . conv => lhs; whnf
 . conv => lhs; whnf
 . first | exact hsk0
|exact trivial)
 refine zn (Sub.own (t:=5) (e:=143) rfl rfl) ?_
 refine zu (fun j st => ∃ k acc f,k + j = s.length /\ acc.length <= k /\ s.length < f + k + 1 /\ zAp s = zHd acc (scanG f (s.drop k) k) /\ Sub (cx EN5 Tryz.prog s0 w he) st (HSn s k acc)) (s.length - skipM false s) ⟨skipM false s,[],s.length,by omega,by simp,by omega,e0,?_⟩ ?_
 . exact Sub.live ⟨rfl,rfl,rfl,trivial⟩ ⟨rfl,trivial⟩
 rintro j st ⟨k,acc,f,hkj,hacc,hf,hI,hs2⟩
 refine zn hs2 ?_
 clear hs2 hsk0
 rw [hI]
 clear hI e0
 by_cases hk : k < s.length
 . have f1 : decide ((k : Int) < ((bs s).size : Nat)) = true:=decide_eq_true (by omega)
   have hrd:=read_ac hk (by omega)
   have hdr : s.drop k = s[k] :: s.drop (k + 1):=List.drop_eq_getElem_cons hk
   obtain ⟨r1,r2⟩:=zIz s[k] (s.drop (k + 1)) k
   rw [hdr] at hrd |-
   cases hr : readU (s[k] :: s.drop (k + 1)) with
   | error e =>
     obtain ⟨he0,t',k',ht⟩:=r2 e hr
     rw [ht] at hrd
     unfold tupR at hrd
     have hrt : zDA (s[k] :: s.drop (k + 1)) k = .error e:=by unfold zDA; rw [hr]
     have eG : scanG f (s[k] :: s.drop (k + 1)) k = .error (k,e):=by unfold scanG; simp only [hrt]
     rw [eG]
     have f2 : (e != 0) = true:=by simpa using he0
     repeat' (first
|apply zJ
 . conv => lhs; whnf
 . assumption
|refine zA ?_
|refine zB ?_
|refine zG ?_
|apply aw_1
 conv => whnf
 refine ⟨?_,trivial⟩
|apply s_1
 conv => whnf; arg 1; arg 4; arg 3; whnf
 refine ⟨?_,?_⟩
|apply ze rfl
 . conv => lhs; whnf
 . conv => lhs; whnf
 . first | exact hrd
|apply zI rfl rfl rfl
 . conv => lhs; whnf
 . conv => lhs; whnf; arg 1; whnf
 . conv => lhs; whnf; arg 1; whnf
 . exact ⟨by kernel_rfl,by kernel_rfl⟩
 . rfl
|refine zU ?_
|refine za ?_
|refine zAQ ?_
|refine zC ?_
|exact trivial)
     . exact ⟨_,_,_,rfl,rfl,rfl,rfl⟩
     all_goals exact (show Tryz.prog.underlying _ = some TypeDesc.string by kernel_rfl)
   | ok p =>
     obtain ⟨kk,t,n⟩:=p
     have hn:=zC0 hr
     have hdl : (s[k] :: s.drop (k + 1)).length = s.length - k:=by rw [<- hdr,List.length_drop]
     rw [hdl] at hn
     rw [r1 kk t n hr] at hrd
     unfold tupR at hrd
     have hsk:=skip_ac s (k + n) (by omega) (by omega)
     have hsl:=zAl false (s.drop (k + n))
     rw [List.length_drop] at hsl
     have hrt : zDA (s[k] :: s.drop (k + 1)) k = .ok (⟨kk,t,k⟩,n):=by unfold zDA; rw [hr]
     obtain ⟨f',rfl⟩ : ∃ f',f = f' + 1:=⟨f - 1,by omega⟩
     have hdn : (s[k] :: s.drop (k + 1)).drop n = s.drop (k + n):=by rw [<- hdr,List.drop_drop]
     have eG : zHd acc (scanG (f' + 1) (s[k] :: s.drop (k + 1)) k) = zHd (acc ++ [⟨kk,t,k⟩]) (scanG f' (s.drop (k + n + skipM false (s.drop (k + n)))) (k + n + skipM false (s.drop (k + n)))):=by
      conv => lhs; unfold scanG
      simp only [hrt,hdn]
      rw [zIq,List.drop_drop]
      cases scanG f' (s.drop (k + n + skipM false (s.drop (k + n)))) (k + n + skipM false (s.drop (k + n))) with
      | error x => rfl
      | ok ts => show Except.ok (acc ++ _ :: ts) = Except.ok ((acc ++ [_]) ++ ts); rw [List.append_assoc]; rfl
     rw [eG]
     repeat' (first
|apply zBP [tokD ⟨kk,t,k⟩] rfl rfl
 . conv => lhs; whnf
 . first | exact zGU | (conv => lhs; whnf; arg 1; whnf)
 . rfl
 . rfl
 . repeat' (first | exact trivial | apply And.intro | rfl)
|apply zJ
 . conv => lhs; whnf
 . assumption
|refine zA ?_
|refine zB ?_
|refine zG ?_
|refine zb ?_
|apply aw_1
 conv => whnf
 refine ⟨?_,trivial⟩
|apply s_1
 conv => whnf; arg 1; arg 4; arg 3; whnf
 refine ⟨?_,?_⟩
|apply ze rfl
 . conv => lhs; whnf
 . conv => lhs; whnf
 . first | exact hrd | exact hsk
|apply zI rfl rfl rfl
 . conv => lhs; whnf
 . conv => lhs; whnf; arg 1; whnf
 . conv => lhs; whnf; arg 1; whnf
 . exact ⟨by kernel_rfl,by kernel_rfl⟩
 . rfl
|apply zBQ rfl rfl
 . conv => lhs; whnf
 . first | exact zGU | (conv => lhs; whnf; arg 1; whnf)
 . first | exact fun _ => rfl | (intro _; kernel_rfl)
 . conv => lhs; whnf
 . conv => lhs; whnf; arg 1; whnf
 . conv => lhs; whnf
|exact trivial)
     . refine zL (j':=j - (n + skipM false (s.drop (k + n)))) (by omega) ⟨k + n + skipM false (s.drop (k + n)),acc ++ [⟨kk,t,k⟩],f',by omega,by rw [List.length_append]; simp only [List.length_cons,List.length_nil]; omega,by omega,rfl,Sub.live ⟨rfl,?_,rfl,trivial⟩ ⟨?_,trivial⟩⟩
       . show V.own 5 _ (acc.map tokD ++ [tokD ⟨kk,t,k⟩]) = V.own 5 _ ((acc ++ [(⟨kk,t,k⟩ : Tok)]).map tokD)
         rw [List.map_append]; rfl
       . show some (Res.tok _ ((acc.map tokD).length + 1)) = some (Res.tok _ ((acc ++ [(⟨kk,t,k⟩ : Tok)]).map tokD).length)
         simp
     . refine ⟨by simp,?_,?_⟩ <;> simp only [List.length_cons,List.length_nil,List.length_map,maxLen] <;> omega
     . exact (show Tryz.prog.underlying _ = some TypeDesc.string by kernel_rfl)
 . have f1 : decide ((k : Int) < ((bs s).size : Nat)) = false:=decide_eq_false (by omega)
   have hdr : s.drop k = []:=List.drop_of_length_le (by omega)
   rw [hdr]
   have ek : k = s.length:=by omega
   repeat' (first
|apply zBP [tokD ⟨5,[],(bs s).size⟩] rfl rfl
 . conv => lhs; whnf
 . first | exact zGU | (conv => lhs; whnf; arg 1; whnf)
 . rfl
 . rfl
 . repeat' (first | exact trivial | apply And.intro | rfl)
|apply zE
 . conv => lhs; whnf
 . assumption
|refine zA ?_
|refine zB ?_
|refine zG ?_
|apply aw_1
 conv => whnf
 refine ⟨?_,trivial⟩
|apply s_1
 conv => whnf; arg 1; arg 4; arg 3; whnf
 refine ⟨?_,?_⟩
|apply zBQ rfl rfl
 . conv => lhs; whnf
 . first | exact zGU | (conv => lhs; whnf; arg 1; whnf)
 . first | exact fun _ => rfl | (intro _; kernel_rfl)
 . conv => lhs; whnf
 . conv => lhs; whnf; arg 1; whnf
 . conv => lhs; whnf
|refine zP ?_
|refine zM rfl ?_
|refine zW ?_
|refine zC ?_
|exact trivial)
   . refine ⟨_,_,_,rfl,rfl,rfl,?_⟩
     show V.tup [.sl 143 ((acc ++ [(⟨5,[],k⟩ : Tok)]).map tokD),.c (.int .i64 0),.c (.int .i64 0)] = V.tup [.sl 143 (acc.map tokD ++ [tokD ⟨5,[],(bs s).size⟩]),.c (.int .i64 0),.c (.int .i64 0)]
     rw [ek,hz,List.map_append]; rfl
   . refine ⟨by simp,?_,?_⟩ <;> simp only [List.length_cons,List.length_nil,List.length_map,maxLen] <;> omega
   all_goals exact (show Tryz.prog.underlying _ = some TypeDesc.string by kernel_rfl)
 exact (show Tryz.prog.underlying _ = some TypeDesc.string by kernel_rfl)
end Go.Proofs.YthjiclhfhjdjpaaGreatDoor
namespace Go.Proofs.YthjiclhfhjdjpaaGreatDoor
open Go.RowKit
attribute [local irreducible] wpList Calls Code.wp AW AWo OpOk seqK zAI zAO loopK endK AC zp Yld Sub
attribute [local irreducible] ACB ACX ACE absLexG YldG
theorem etaP2 (l : List Tok) (v : Bool) (n : Nat) : [V.sl 143 (l.map tokD),.c (.bool v),.c (.int .i64 ((n : Int) + 1))] = zi ⟨l,v,n + 1⟩:=rfl
theorem etaP3 (l : List Tok) (v : Bool) : [V.sl 143 (l.map tokD),.c (.bool v),.c (.int .i64 0)] = zi ⟨l,v,0⟩:=rfl
def zVal : List V:=[.c (.int .i64 0),.c (.int .i64 0),.c (.string ⟨#[]⟩),.c (.slice none 0 0),.c (.slice none 0 0)]
noncomputable def HvL (lv : Nat) (y : PS) (acc : List D) : Vst 165:=
 stS 165 [(0,.bx (pn 0) 0),(1,.c (.int .i64 (lv : Int))),(4,.bx 4 0),(8,.bx 8 0)] [(pn 0,boxP y),(4,.box 84 zVal),(8,.box 84 [.c (.int .i64 5),.c (.int .i64 0),.c (.string ⟨#[]⟩),.own 901 84 acc,.c (.slice none 0 0)]),(901,.tok 84 acc.length)]
noncomputable def HvO (lv : Nat) (y : PS) (ks : List (List UInt8)) (acc : List D) : Vst 165:=
 stS 165 [(0,.bx (pn 0) 0),(1,.c (.int .i64 (lv : Int))),(4,.bx 4 0),(9,.bx 9 0)] [(pn 0,boxP y),(4,.box 84 zVal),(9,.box 84 [.c (.int .i64 6),.c (.int .i64 0),.c (.string ⟨#[]⟩),.own 901 84 acc,.own 902 9 (ks.map strD)]),(901,.tok 84 acc.length),(902,.tok 9 (ks.map strD).length)]
theorem nx_nd (x : PS) (n : Nat) : ({ nxT x with nd:=n } : PS) = nxT ⟨x.ts,x.vr,n⟩:=by
 unfold nxT hdT
 split <;> rfl
theorem En.nd {x : PS} (h : En x) (n : Nat) (v : Bool) : En ⟨x.ts,v,n⟩:=h
theorem zCm : z6 Tryz.prog 82 = some (84,80):=by kernel_rfl
noncomputable def HvA (lv : Nat) (x : PS) (t : Tok) : Vst 165:=
 stS 165 [(0,.bx (pn 0) 0),(1,.c (.int .i64 (lv : Int))),(4,.bx 4 0),(5,.bx 5 0)] [(pn 0,boxP x),(4,.box 84 zVal),(5,.box 143 (tokC t))]
theorem nx_len (x : PS) : (nxT x).ts.length <= x.ts.length:=by
 unfold nxT
 split
 . exact Nat.le_refl _
 . show (x.ts.drop 1).length <= _
   rw [List.length_drop]; omega
theorem zI5 (t : Tok) (r : List Tok) (vr : Bool) (nd : Nat) : zBt ⟨t :: r,vr,nd⟩ = (t.k == 5 || (t.k == 1 && !isS ⟨t :: r,vr,nd⟩ [91] && !isS ⟨t :: r,vr,nd⟩ [123] && !(vr && isS ⟨t :: r,vr,nd⟩ [36]))):=rfl
theorem value_bad {f lv : Nat} {x : PS} (h : zBt x = true) : valueQ (f + 1) lv x = .error ((hdT x).i,3):=by rw [valueQ,if_pos h]
theorem value_deep {f lv : Nat} {x : PS} (h : zBt x = false) (h2 : 24 < lv) : valueQ (f + 1) lv x = .error ((hdT x).i,5):=by rw [valueQ,if_neg (by rw [h]; decide),if_pos h2]
theorem value_big {f lv : Nat} {x : PS} (h : zBt x = false) (h2 : ¬ 24 < lv) (h3 : 4096 <= x.nd) : valueQ (f + 1) lv x = .error ((hdT x).i,4):=by rw [valueQ,if_neg (by rw [h]; decide),if_neg h2,if_pos h3]
def zBJ (f lv : Nat) (t : Tok) (y : PS) : PR D:=
 if t.k = 3 then .ok (valD 2 (numQ t.s) [] [] [],y)
 else if t.k = 4 then .ok (valD 3 0 t.s [] [],y)
 else if t.k = 2 then .ok (zC9 t.s,y)
 else if t.s = [36] then zX (nameQ y) fun n z => .ok (valD 7 0 n [] [],z)
 else if t.s = [91] then zX (itemsQ (valueQ f (lv + 1)) (y.ts.length + 1) [] y) fun l z => .ok (valD 5 0 [] l [],z)
 else zX (zy (valueQ f (lv + 1)) (y.ts.length + 1) [] [] y) fun l z => .ok (valD 6 0 [] l.2 l.1,z)
theorem value_go {f lv : Nat} {x : PS} (h : zBt x = false) (h2 : ¬ 24 < lv) (h3 : ¬ 4096 <= x.nd) : valueQ (f + 1) lv x = zBJ f lv (hdT x) (nxT ⟨x.ts,x.vr,x.nd + 1⟩):=by
 have e:=(nx_nd x (x.nd + 1)).symm
 rw [valueQ,if_neg (by rw [h]; decide),if_neg h2,if_neg h3,e]
 rfl
theorem zAx {n most : Nat} {x : PS} {e : Nat × Int} (h : limQ n most x = .error e) : most <= n /\ e = ((hdT x).i,4):=by
 unfold limQ at h
 split at h
 . cases h; exact ⟨by assumption,rfl⟩
 . cases h
section
variable {f lv : Nat} {t : Tok} {y : PS}
theorem vt_3 (h : (t.k == 3) = true) : zBJ f lv t y = .ok (valD 2 (numQ t.s) [] [] [],y):=by rw [zBJ,if_pos (by simpa using h)]
theorem vt_4 (h3 : (t.k == 3) = false) (h : (t.k == 4) = true) : zBJ f lv t y = .ok (valD 3 0 t.s [] [],y):=by rw [zBJ,if_neg (by simpa using h3),if_pos (by simpa using h)]
theorem vt_2 (h3 : (t.k == 3) = false) (h4 : (t.k == 4) = false) (h : (t.k == 2) = true) : zBJ f lv t y = .ok (zC9 t.s,y):=by rw [zBJ,if_neg (by simpa using h3),if_neg (by simpa using h4),if_pos (by simpa using h)]
theorem vt_v (h3 : (t.k == 3) = false) (h4 : (t.k == 4) = false) (h2 : (t.k == 2) = false) (h : ((bs t.s).toList == (⟨#[36]⟩ : ByteArray).toList) = true) : zBJ f lv t y = zX (nameQ y) fun n z => .ok (valD 7 0 n [] [],z):=by
 rw [zBJ,if_neg (by simpa using h3),if_neg (by simpa using h4),if_neg (by simpa using h2),if_pos (zCa h)]
theorem vt_l (h3 : (t.k == 3) = false) (h4 : (t.k == 4) = false) (h2 : (t.k == 2) = false) (h7 : ((bs t.s).toList == (⟨#[36]⟩ : ByteArray).toList) = false) (h : ((bs t.s).toList == (⟨#[91]⟩ : ByteArray).toList) = true) : zBJ f lv t y = zX (itemsQ (valueQ f (lv + 1)) (y.ts.length + 1) [] y) fun l z => .ok (valD 5 0 [] l [],z):=by
 rw [zBJ,if_neg (by simpa using h3),if_neg (by simpa using h4),if_neg (by simpa using h2),if_neg (zA2 h7),if_pos (zCa h)]
theorem vt_o (h3 : (t.k == 3) = false) (h4 : (t.k == 4) = false) (h2 : (t.k == 2) = false) (h7 : ((bs t.s).toList == (⟨#[36]⟩ : ByteArray).toList) = false) (h : ((bs t.s).toList == (⟨#[91]⟩ : ByteArray).toList) = false) : zBJ f lv t y = zX (zy (valueQ f (lv + 1)) (y.ts.length + 1) [] [] y) fun l z => .ok (valD 6 0 [] l.2 l.1,z):=by
 rw [zBJ,if_neg (by simpa using h3),if_neg (by simpa using h4),if_neg (by simpa using h2),if_neg (zA2 h7),if_neg (zA2 h)]
end
section
variable {s : List UInt8}
theorem w_true (h : ((bs s).toList == (⟨#[116,114,117,101]⟩ : ByteArray).toList) = true) : zC9 s = valD 1 (if ((bs s).toList == (⟨#[116,114,117,101]⟩ : ByteArray).toList) = true then 1 else 0) [] [] []:=by
 rw [zC9,if_pos (zCa h),if_pos h]
theorem w_false (h0 : ((bs s).toList == (⟨#[116,114,117,101]⟩ : ByteArray).toList) = false) (h : ((bs s).toList == (⟨#[102,97,108,115,101]⟩ : ByteArray).toList) = true) : zC9 s = valD 1 (if ((bs s).toList == (⟨#[116,114,117,101]⟩ : ByteArray).toList) = true then 1 else 0) [] [] []:=by
 rw [zC9,if_neg (zA2 h0),if_pos (zCa h),if_neg (by rw [h0]; decide)]
theorem w_null (h0 : ((bs s).toList == (⟨#[116,114,117,101]⟩ : ByteArray).toList) = false) (h1 : ((bs s).toList == (⟨#[102,97,108,115,101]⟩ : ByteArray).toList) = false) (h : ((bs s).toList == (⟨#[110,117,108,108]⟩ : ByteArray).toList) = true) : zC9 s = zBG:=by
 rw [zC9,if_neg (zA2 h0),if_neg (zA2 h1),if_pos (zCa h)]
theorem w_enum (h0 : ((bs s).toList == (⟨#[116,114,117,101]⟩ : ByteArray).toList) = false) (h1 : ((bs s).toList == (⟨#[102,97,108,115,101]⟩ : ByteArray).toList) = false) (h : ((bs s).toList == (⟨#[110,117,108,108]⟩ : ByteArray).toList) = false) : zC9 s = valD 4 0 s [] []:=by
 rw [zC9,if_neg (zA2 h0),if_neg (zA2 h1),if_neg (zA2 h)]
theorem w_no {a : Bool} (h : a = true) (h2 : a = false) : False:=by rw [h] at h2; cases h2
end
theorem items_end {v : PS -> PR D} {j : Nat} {acc : List D} {z : PS} (h : (!isS z [93]) = false) : itemsQ v (j + 1) acc z = .ok (acc,nxT z):=by rw [itemsQ,if_pos (by simpa using h)]
theorem zJB {v : PS -> PR D} {j : Nat} {acc : List D} {z : PS} (h : (!isS z [93]) = true) : itemsQ v (j + 1) acc z = zX (v z) fun a y => itemsQ v j (acc ++ [a]) y:=by rw [itemsQ,if_neg (by simpa using h)]
theorem zR {α β : Type} {r : PR α} {f : α -> PS -> PR β} {a : α} {x : PS} (h : r = .ok (a,x)) : zX r f = f a x:=by rw [h]; rfl
theorem then_err {α β : Type} {r : PR α} {f : α -> PS -> PR β} {e : Nat × Int} (h : r = .error e) : zX r f = .error e:=by rw [h]; rfl
theorem fields_end {v : PS -> PR D} {j : Nat} {ks : List (List UInt8)} {acc : List D} {z : PS} (h : (!isS z [125]) = false) : zy v (j + 1) ks acc z = .ok ((ks,acc),nxT z):=by rw [zy,if_pos (by simpa using h)]
theorem zCh {v : PS -> PR D} {j : Nat} {ks : List (List UInt8)} {acc : List D} {z : PS} (h : (!isS z [125]) = true) : zy v (j + 1) ks acc z = zX (nameQ z) fun k y => if ks.contains k = true then .error ((hdT z).i,7) else zX (takeQ [58] y) fun _ z => zX (v z) fun a u => zy v j (ks ++ [k]) (acc ++ [a]) u:=by rw [zy,if_neg (by simpa using h)]
section
variable {v : PS -> PR D} {j : Nat} {ks : List (List UInt8)} {acc : List D} {z y z2 u2 : PS} {k : List UInt8} {e : Nat × Int} {u : Unit} {a : D}
theorem fl_nm (h : (!isS z [125]) = true) (h1 : nameQ z = .error e) : zy v (j + 1) ks acc z = .error e:=by rw [zCh h,then_err h1]
theorem fl_dup (h : (!isS z [125]) = true) (h1 : nameQ z = .ok (k,y)) (h2 : hasL (ks.map strD) (bs k) = true) : zy v (j + 1) ks acc z = .error ((hdT z).i,7):=by
 rw [zED] at h2
 rw [zCh h,zR h1,if_pos h2]
theorem fl_col (h : (!isS z [125]) = true) (h1 : nameQ z = .ok (k,y)) (h2 : hasL (ks.map strD) (bs k) = false) (h3 : takeQ [58] y = .error e) : zy v (j + 1) ks acc z = .error e:=by
 rw [zED] at h2
 rw [zCh h,zR h1,if_neg (by rw [h2]; decide),then_err h3]
theorem fl_val (h : (!isS z [125]) = true) (h1 : nameQ z = .ok (k,y)) (h2 : hasL (ks.map strD) (bs k) = false) (h3 : takeQ [58] y = .ok (u,z2)) (h4 : v z2 = .error e) : zy v (j + 1) ks acc z = .error e:=by
 rw [zED] at h2
 rw [zCh h,zR h1,if_neg (by rw [h2]; decide),zR h3,then_err h4]
theorem fl_ok (h : (!isS z [125]) = true) (h1 : nameQ z = .ok (k,y)) (h2 : hasL (ks.map strD) (bs k) = false) (h3 : takeQ [58] y = .ok (u,z2)) (h4 : v z2 = .ok (a,u2)) : zy v (j + 1) ks acc z = zy v j (ks ++ [k]) (acc ++ [a]) u2:=by
 rw [zED] at h2
 rw [zCh h,zR h1,if_neg (by rw [h2]; decide),zR h3,zR h4]
end
theorem zGs : ∀ (f lv : Nat) (x : PS),En x -> x.ts.length <= 100000 -> f + lv = 26 -> lv <= 25 -> ACE EN5 Tryz.prog 257 [.bx (pn 0) 0,.c (.int .i64 (lv : Int))] [boxP x] (outQ VV (valueQ f lv x))
 | 0,lv,x,h,hlen,hf,h25 => by omega
 | f + 1,lv,x,h,hlen,hf,h25 => by
   have ih:=zGs f
   have hs1:=zAo h [91]
   have hs2:=zAo h [123]
   have hs3:=zAo h [36]
   have hli:=zDn h x.nd 4096
   obtain ⟨y,hy⟩ : ∃ y,y = nxT ⟨x.ts,x.vr,x.nd + 1⟩:=⟨_,rfl⟩
   have hn:=zBI (h.nd (x.nd + 1) x.vr)
   rw [<- hy] at hn
   have hnu:=zFO (bs (hdT x).s) (by rw [zh]; have:=h.hd; omega)
   have hvt:=vText_ac (hdT x).s
   have hve:=vEnum_ac (hdT x).s
   have hvi:=vInt_ac (numQ (hdT x).s)
   have hvb:=vBool_ac
   have hen : En y:=by rw [hy]; exact (h.nd (x.nd + 1) x.vr).nx0
   have hyl : y.ts.length <= 100000:=by rw [hy]; exact Nat.le_trans (nx_len _) hlen
   have hnm:=zCd hen
   have hf3:=zBB (hdT x) 3
   have hf5:=zBB (hdT x) 5
   obtain ⟨t,r,ht⟩:=h.cons
   have hh:=zAn ht
   rw [hh] at hnu hvt hve hvi hf3 hf5
   obtain ⟨ts,vr,nd⟩:=x
   cases ht
   refine zAH (fn:=Tryz.f257) 165 Tryz.func257 rfl rfl ?_
   intro pas w0 w he hp
   by_cases hnv : zBt ⟨t :: r,vr,nd⟩ = true
   . have hv:=value_bad (f:=f) (lv:=lv) hnv
     rw [hh] at hv
     rw [zI5] at hnv
     have k1 : ((t.k == 5) == false) = true -> ((t.k == 1) == true) = false -> False:=fun a b => by simp_all
     have k2 : ((t.k == 5) == false) = true -> ((!isS ⟨t :: r,vr,nd⟩ [91]) == true) = false -> False:=fun a b => by simp_all
     have k3 : ((t.k == 5) == false) = true -> ((!isS ⟨t :: r,vr,nd⟩ [123]) == true) = false -> False:=fun a b => by simp_all
     have k4 : ((t.k == 5) == false) = true -> (vr == true) = true -> (!isS ⟨t :: r,vr,nd⟩ [36]) = false -> False:=fun a b c => by simp_all
     rw [hv]
     repeat' (first
|apply zx rfl rfl rfl
 . conv => lhs; whnf
 . first | rfl | assumption
 . conv => lhs; whnf
 . first | exact bT1 ‹_› | exact bT2 ‹_› | rfl
|apply zo rfl rfl rfl
 . conv => lhs; whnf
 . first | rfl | assumption
 . conv => lhs; whnf
 . first | exact bF1 ‹_› | exact bF2 ‹_› | rfl
|apply zj zi zN rfl
 . conv => lhs; whnf
 . conv => lhs; whnf
 . first | rfl | assumption
 . conv => lhs; whnf
 . rfl
 . conv => lhs; whnf; arg 1; whnf
 . first | exact z7 _
 . first | exact hs1 | exact hs2 | exact hs3
 . exact fun _ => rfl
 . exact fun _ => rfl
|apply zd rfl
 . conv => lhs; whnf
 . conv => lhs; whnf
 . first | rfl | assumption
|apply zCT rfl
 . conv => lhs; whnf
 . rfl
 . rfl
|apply zCb rfl
 . conv => lhs; whnf
 . first | exact hf3
 . first | exact fun _ => rfl | (intro _; simp only [renL,renV,ren_cells])
 change _ = Out.die _
|exact (k1 ‹_› ‹_›).elim
|exact (k2 ‹_› ‹_›).elim
|exact (k3 ‹_› ‹_›).elim
|exact (k4 ‹_› ‹_› ‹_›).elim
|refine zA ?_
|refine zB ?_
|refine zG ?_
|apply aw_1
 conv => whnf
 refine ⟨?_,trivial⟩
|apply zY rfl rfl
 . conv => lhs; whnf
 . conv => lhs; whnf
 . first | exact bT1 ‹_› | exact bT2 ‹_›
|apply zV rfl rfl
 . conv => lhs; whnf
 . conv => lhs; whnf
 . first | exact bF1 ‹_› | exact bF2 ‹_›
|apply s_1
 conv => whnf; arg 1; arg 4; arg 3; whnf
 refine ⟨?_,?_⟩
|apply zI rfl rfl rfl
 . conv => lhs; whnf
 . conv => lhs; whnf; arg 1; whnf
 . conv => lhs; whnf; arg 1; whnf
 . exact ⟨by kernel_rfl,by kernel_rfl⟩
 . rfl
|apply zD rfl
 . conv => lhs; whnf
 . conv => lhs; whnf
 . first | rfl | assumption
 . conv => lhs; whnf; arg 2; whnf
|apply zT rfl
 . conv => lhs; whnf
 . conv => lhs; whnf
 . conv => lhs; whnf; arg 2; whnf
|refine zg (by conv => lhs; whnf) ?_ ?_ <;> intro hb
|exact trivial
|intro hg)
     all_goals first
      | exact zBu _ _
      | rfl
      | skip
   . have hnv : zBt ⟨t :: r,vr,nd⟩ = false:=by simpa using hnv
     have hv5:=value_deep (f:=f) (lv:=lv) hnv
     have hv4:=value_big (f:=f) (lv:=lv) hnv
     have hvg:=value_go (f:=f) (lv:=lv) hnv
     rw [zI5] at hnv
     have k1 : ((t.k == 5) == false) = false -> False:=fun a => by simp_all
     have k2 : ((t.k == 5) == false) = true -> ((t.k == 1) == true) = true -> ((!isS ⟨t :: r,vr,nd⟩ [91]) == true) = true -> ((!isS ⟨t :: r,vr,nd⟩ [123]) == true) = true -> (vr == true) = false -> False:=fun a b c d e => by simp_all
     have k3 : ((t.k == 5) == false) = true -> ((t.k == 1) == true) = true -> ((!isS ⟨t :: r,vr,nd⟩ [91]) == true) = true -> ((!isS ⟨t :: r,vr,nd⟩ [123]) == true) = true -> (!isS ⟨t :: r,vr,nd⟩ [36]) = true -> False:=fun a b c d e => by simp_all
     repeat' (first
|apply zx rfl rfl rfl
 . conv => lhs; whnf
 . first | rfl | assumption
 . conv => lhs; whnf
 . first | exact bT1 ‹_› | exact bT2 ‹_› | rfl
|apply zo rfl rfl rfl
 . conv => lhs; whnf
 . first | rfl | assumption
 . conv => lhs; whnf
 . first | exact bF1 ‹_› | exact bF2 ‹_› | rfl
|apply zAL (VV zBG) rfl rfl
 . conv => lhs; whnf; arg 2; whnf
 . repeat' (first | exact VLe.refl _ | exact VLe.nil _ | exact VLe.lit _ _ | exact VLe.own _ _ _ | apply VLe.agg | apply VLeL.cons | exact VLeL.nil)
|apply zAL (VV (valD 7 0 _ [] [])) rfl rfl
 . conv => lhs; whnf; arg 2; whnf
 . repeat' (first | exact VLe.refl _ | exact VLe.nil _ | exact VLe.lit _ _ | exact VLe.own _ _ _ | apply VLe.agg | apply VLeL.cons | exact VLeL.nil)
|apply s_m zi zN rfl
 . conv => lhs; whnf
 . conv => lhs; whnf
 . rfl
 . conv => lhs; whnf; arg 1; whnf
 . first | exact z7 _ | exact etaP2 _ _ _
 . first | exact hs1 | exact hs2 | exact hs3 | exact hn
 . exact fun _ => rfl
 . exact fun _ => rfl
|apply zj zi zN rfl
 . conv => lhs; whnf
 . conv => lhs; whnf
 . first | rfl | assumption
 . conv => lhs; whnf
 . rfl
 . conv => lhs; whnf; arg 1; whnf
 . first | exact z7 _ | exact etaP2 _ _ _
 . first | exact hs1 | exact hs2 | exact hs3 | exact hn
 . exact fun _ => rfl
 . exact fun _ => rfl
|apply zd rfl
 . conv => lhs; whnf
 . conv => lhs; whnf
 . first | rfl | assumption
|apply zCT rfl
 . conv => lhs; whnf
 . rfl
 . rfl
|apply s_pr zi zN rfl
 . conv => lhs; whnf
 . conv => lhs; whnf
 . rfl
 . conv => lhs; whnf; arg 1; whnf
 . first | exact z7 _ | exact etaP2 _ _ _
 . first | exact hli | exact hnm
 . exact fun _ => rfl
 . first | (intro _ _; simp only [renL,renV,ren_cells]; done) | exact fun _ _ => rfl
 refine fun ee hq => ?_
 change _ = Out.die _
 rotate_left 1
 refine fun aa xx hq => ?_
 first | (replace hq:=zAh hq; obtain ⟨hq,rfl⟩:=hq) | (cases hq; have hq:=True.intro) | skip
|apply zCb rfl
 . conv => lhs; whnf
 . first | exact hf3 | exact hf5
 . first | exact fun _ => rfl | (intro _; simp only [renL,renV,ren_cells])
 change _ = Out.die _
|exact (k1 ‹_›).elim
|exact (k2 ‹_› ‹_› ‹_› ‹_› ‹_›).elim
|exact (k3 ‹_› ‹_› ‹_› ‹_› ‹_›).elim
|apply zAw 4 (HvA lv ⟨t :: r,vr,nd⟩ t) rfl
|apply zAw 9 (HvA lv y t) rfl
|refine zHN ?_
|refine zA ?_
|refine zB ?_
|refine zG ?_
|refine zb ?_
|apply aw_1
 conv => whnf
 refine ⟨?_,trivial⟩
|apply zV rfl rfl
 . conv => lhs; whnf
 . conv => lhs; whnf
 . first | exact bF1 ‹_› | exact bF2 ‹_›
|apply s_1
 conv => whnf; arg 1; arg 4; arg 3; whnf
 refine ⟨?_,?_⟩
|apply ze rfl
 . conv => lhs; whnf
 . conv => lhs; whnf
 . first | exact hnu | exact hvt | exact hve | exact hvi | exact hvb _
|apply zI rfl rfl rfl
 . conv => lhs; whnf
 . conv => lhs; whnf; arg 1; whnf
 . conv => lhs; whnf; arg 1; whnf
 . exact ⟨by kernel_rfl,by kernel_rfl⟩
 . rfl
|apply zD rfl
 . conv => lhs; whnf
 . conv => lhs; whnf
 . first | rfl | assumption
 . conv => lhs; whnf; arg 2; whnf
|apply zT rfl
 . conv => lhs; whnf
 . conv => lhs; whnf
 . conv => lhs; whnf; arg 2; whnf
|refine zg (by conv => lhs; whnf) ?_ ?_ <;> intro hb
|refine zU ?_
|refine za ?_
|apply zAM rfl
 . conv => lhs; whnf; arg 2; whnf
 . conv => lhs; whnf; arg 1; whnf
|exact trivial
|intro hg)
     all_goals first
      | exact zBu _ _
      | exact Sub.live ⟨rfl,rfl,rfl,rfl,trivial⟩ ⟨rfl,rfl,rfl,trivial⟩
      | (exact (w_no (a:=(bs t.s).toList == (⟨#[116,114,117,101]⟩ : ByteArray).toList) ‹_› ‹_›).elim)
      | (have g : nd < 4096:=by assumption
         exact zS ⟨by show -9223372036854775808 <= (nd : Int) + 1; omega,by show (nd : Int) + 1 <= 9223372036854775807; omega⟩)
      | (have g1 : decide ((lv : Int) > 24) = true:=by assumption
         rw [hv5 (by simp at g1; omega)]; rfl)
      | (have g1 : decide ((lv : Int) > 24) = false:=by assumption
         have g1 : ¬ 24 < lv:=by simp at g1; omega
         first
          | (have g2:=zAx hq
             rw [hv4 g1 g2.1,g2.2]; rfl)
          | (have g : nd < 4096:=by assumption
             rw [hvg g1 (by show ¬ 4096 <= nd; omega),hh,<- hy]
             first
              | (rw [vt_3 ‹_›]; rfl)
              | (rw [vt_4 ‹_› ‹_›]; rfl)
              | (rw [vt_2 ‹_› ‹_› ‹_›,w_true ‹_›]; rfl)
              | (rw [vt_2 ‹_› ‹_› ‹_›,w_false ‹_› ‹_›]; rfl)
              | (rw [vt_2 ‹_› ‹_› ‹_›,w_null ‹_› ‹_› ‹_›]; rfl)
              | (rw [vt_2 ‹_› ‹_› ‹_›,w_enum ‹_› ‹_› ‹_›]; rfl)
              | (rw [vt_v ‹_› ‹_› ‹_› ‹_›,hq]; rfl)))
      | skip
     . have g1 : ¬ 24 < lv:=by have g1 : decide ((lv : Int) > 24) = false:=by assumption
                               simp at g1; omega
       have g : nd < 4096:=by assumption
       have hgo:=hvg g1 (by show ¬ 4096 <= nd; omega)
       rw [hh,<- hy,vt_l ‹_› ‹_› ‹_› ‹_› ‹_›] at hgo
       rw [hgo]
       clear hs1 hs2 hs3 hli hn hnu hvt hve hvi hvb hnm hf3 hf5 hvg hv4 hv5 hgo k1 k2 k3
       refine zn (Sub.ownF (m:=8) (q:=901) (i:=3) (e:=84) rfl (by decide) rfl rfl rfl) ?_
       refine zu (fun j st => ∃ z acc,En z /\ z.ts.length < j /\ acc.length + z.ts.length <= y.ts.length /\ itemsQ (valueQ f (lv + 1)) (y.ts.length + 1) [] y = itemsQ (valueQ f (lv + 1)) j acc z /\ Sub (cxE EN5 Tryz.prog pas w0 w he hp (outQ VV (zX (itemsQ (valueQ f (lv + 1)) (y.ts.length + 1) [] y) fun l z => .ok (valD 5 0 [] l [],z)))) st (HvL lv z acc)) (y.ts.length + 1) ⟨y,[],hen,by omega,by simp,rfl,?_⟩ ?_
       . exact Sub.live ⟨rfl,rfl,rfl,rfl,trivial⟩ ⟨rfl,rfl,rfl,rfl,trivial⟩
       rintro j st ⟨z,acc,hz,hzj,hzl,hI,hsub⟩
       refine zn hsub ?_
       clear hsub
       rw [hI]
       clear hI
       cases j with
       | zero => omega
       | succ j =>
       have hs:=zAo hz [93]
       have hn:=zBI hz
       have hv:=ih (lv + 1) z hz (by omega) (by omega) (by omega)
       repeat' (first
|apply zAL (VV (valD 5 0 [] acc [])) rfl rfl
 . conv => lhs; whnf; arg 2; whnf
 . repeat' (first | exact VLe.refl _ | exact VLe.nil _ | exact VLe.lit _ _ | exact VLe.own _ _ _ | apply VLe.agg | apply VLeL.cons | exact VLeL.nil)
|apply zBs 10 ([(1,[8])]) ([(5,[1000000]),(7,[901]),(9,[8])]) rfl (by kernel_rfl) (by kernel_rfl) (by kernel_rfl)
|apply zGM
|apply zGL rfl
 . conv => lhs; whnf
 . conv => lhs; whnf; arg 2; whnf
|apply g_app rfl rfl
 . conv => lhs; whnf
 . first | exact zCm | (conv => lhs; whnf; arg 1; whnf)
 . first | exact fun _ => rfl | (intro _; kernel_rfl)
 . conv => lhs; whnf
 . rfl
 . conv => lhs; whnf; arg 1; whnf
 . conv => lhs; whnf
|apply zCM rfl rfl rfl
 . conv => lhs; whnf
 . rfl
 . conv => lhs; whnf; arg 1; whnf
 . conv => lhs; whnf; arg 1; whnf
 . exact ⟨by kernel_rfl,by kernel_rfl⟩
 . rfl
|exact Or.inl ⟨pn 0,_,rfl⟩
|refine Or.inr ?_
|apply g_pr zi zN (default : D) rfl
 . conv => lhs; whnf
 . conv => lhs; whnf
 . rfl
 . conv => lhs; whnf; arg 1; whnf
 . first | exact z7 _
 . first | exact hv
 . exact fun _ => rfl
 . first | (intro _ _; simp only [renL,renV,ren_cells]; done) | exact fun _ _ => rfl
 . rfl
 refine fun ee hq tm rs => ?_
 change _ = Out.die _
 rotate_left 1
 refine fun aa xx hq => ?_
 rotate_left 1
 refine fun ee hq => ?_
|show inO _ _ = true; rfl
|apply zGN [aa] rfl rfl
 . conv => lhs; whnf
 . first | exact zCm | (conv => lhs; whnf; arg 1; whnf)
 . rfl
 . rfl
 . repeat' (first | exact trivial | apply And.intro | rfl)
|apply zGN [default] rfl rfl
 . conv => lhs; whnf
 . first | exact zCm | (conv => lhs; whnf; arg 1; whnf)
 . rfl
 . rfl
 . repeat' (first | exact trivial | apply And.intro | rfl)
|apply s_m zi zN rfl
 . conv => lhs; whnf
 . conv => lhs; whnf
 . rfl
 . conv => lhs; whnf; arg 1; whnf
 . first | exact z7 _
 . first | exact hs | exact hn
 . exact fun _ => rfl
 . exact fun _ => rfl
|refine zA ?_
|refine zB ?_
|refine zG ?_
|refine zb ?_
|apply aw_1
 conv => whnf
 refine ⟨?_,trivial⟩
|apply s_1
 conv => whnf; arg 1; arg 4; arg 3; whnf
 refine ⟨?_,?_⟩
|apply zI rfl rfl rfl
 . conv => lhs; whnf
 . conv => lhs; whnf; arg 1; whnf
 . conv => lhs; whnf; arg 1; whnf
 . exact ⟨by kernel_rfl,by kernel_rfl⟩
 . rfl
|refine zg (by conv => lhs; whnf) ?_ ?_ <;> intro hb
|refine zP ?_
|refine zU ?_
|refine za ?_
|refine zM rfl ?_
|refine zW ?_
|apply zAM rfl
 . conv => lhs; whnf; arg 2; whnf
 . conv => lhs; whnf; arg 1; whnf
|exact trivial)
       all_goals first
        | exact zS (by omega)
        | (refine ⟨by simp,?_,?_⟩ <;> simp only [List.length_cons,List.length_nil,maxLen] <;> omega)
        | (rw [items_end ‹_›]; rfl)
        | (rw [zJB ‹_›,then_err hq]; rfl)
        | skip
       have hx:=hz.valueL hq
       refine zL (j':=j) (by omega) ⟨xx,acc ++ [aa],hx.1,by omega,by rw [List.length_append]; simp only [List.length_cons,List.length_nil]; omega,by rw [zJB ‹_›,zR hq],Sub.live ⟨rfl,rfl,rfl,rfl,trivial⟩ ⟨rfl,rfl,rfl,?_,trivial⟩⟩
       show some (Res.tok _ (acc.length + 1)) = some (Res.tok _ (acc ++ [aa]).length)
       rw [List.length_append]; rfl
     . have g1 : ¬ 24 < lv:=by have g1 : decide ((lv : Int) > 24) = false:=by assumption
                               simp at g1; omega
       have g : nd < 4096:=by assumption
       have hgo:=hvg g1 (by show ¬ 4096 <= nd; omega)
       rw [hh,<- hy,vt_o ‹_› ‹_› ‹_› ‹_› ‹_›] at hgo
       rw [hgo]
       clear hs1 hs2 hs3 hli hn hnu hvt hve hvi hvb hnm hf3 hf5 hvg hv4 hv5 hgo k1 k2 k3
       refine zn ((Sub.ownF (m:=9) (q:=901) (i:=3) (e:=84) rfl (by decide) rfl rfl rfl).trans (Sub.ownF (m:=9) (q:=902) (i:=4) (e:=9) rfl (by decide) rfl rfl rfl)) ?_
       refine zu (fun j st => ∃ z ks acc,En z /\ z.ts.length < j /\ acc.length + z.ts.length <= y.ts.length /\ ks.length = acc.length /\ zy (valueQ f (lv + 1)) (y.ts.length + 1) [] [] y = zy (valueQ f (lv + 1)) j ks acc z /\ Sub (cxE EN5 Tryz.prog pas w0 w he hp (outQ VV (zX (zy (valueQ f (lv + 1)) (y.ts.length + 1) [] [] y) fun l z => .ok (valD 6 0 [] l.2 l.1,z)))) st (HvO lv z ks acc)) (y.ts.length + 1) ⟨y,[],[],hen,by omega,by simp,rfl,rfl,?_⟩ ?_
       . exact Sub.live ⟨rfl,rfl,rfl,rfl,trivial⟩ ⟨rfl,rfl,rfl,rfl,rfl,trivial⟩
       rintro j st ⟨z,ks,acc,hz,hzj,hzl,hka,hI,hsub⟩
       refine zn hsub ?_
       clear hsub
       rw [hI]
       clear hI
       cases j with
       | zero => omega
       | succ j =>
       have hs:=zAo hz [125]
       have hn:=zBI hz
       have hnm:=zCd hz
       obtain ⟨t2,r2,ht2⟩:=hz.cons
       have hh2:=zAn ht2
       have hf7:=zBB (hdT z) 7
       rw [hh2] at hf7
       have hcon : ∀ k,AC EN5 Tryz.prog 194 [.sl 9 (ks.map strD),.c (.string (bs k))] (.c (.bool (hasL (ks.map strD) (bs k)))):=fun k => zHY _ _ (by rw [List.length_map]; omega)
       have htk : ∀ {k y},nameQ z = .ok (k,y) -> ACE EN5 Tryz.prog 177 [.bx (pn 0) 0,.c (.string (bs [58]))] [boxP y] (outQ (fun _ => .agg (tokC (hdT y))) (takeQ [58] y)):=fun hq => zFF (hz.name hq).1 [58]
       have hv : ∀ {k y u z2},nameQ z = .ok (k,y) -> takeQ [58] y = .ok (u,z2) -> ACE EN5 Tryz.prog 257 [.bx (pn 0) 0,.c (.int .i64 ((lv + 1 : Nat) : Int))] [boxP z2] (outQ VV (valueQ f (lv + 1) z2)):=fun h1 h2 =>
        ih (lv + 1) _ ((hz.name h1).1.take h2).1 (by have:=hz.name h1; have:=this.1.take h2; omega) (by omega) (by omega)
       have hlz : z.ts.length <= 100000:=by omega
       obtain ⟨zts,zvr,znd⟩:=z
       cases ht2
       repeat' (first
|apply zAL (VV (valD 6 0 [] acc ks)) rfl rfl
 . conv => lhs; whnf; arg 2; whnf
 . repeat' (first | exact VLe.refl _ | exact VLe.nil _ | exact VLe.lit _ _ | exact VLe.own _ _ _ | apply VLe.agg | apply VLeL.cons | exact VLeL.nil)
|apply zBs 10 ([(1,[9])]) ([(5,[1000000]),(7,[901]),(9,[9])]) rfl (by kernel_rfl) (by kernel_rfl) (by kernel_rfl)
|apply zGM
|apply zGL rfl
 . conv => lhs; whnf
 . conv => lhs; whnf; arg 2; whnf
|apply g_app rfl rfl
 . conv => lhs; whnf
 . first | exact zCm | exact zEt | (conv => lhs; whnf; arg 1; whnf)
 . first | exact fun _ => rfl | (intro _; kernel_rfl)
 . conv => lhs; whnf
 . rfl
 . conv => lhs; whnf; arg 1; whnf
 . conv => lhs; whnf
|apply zCM rfl rfl rfl
 . conv => lhs; whnf
 . rfl
 . conv => lhs; whnf; arg 1; whnf
 . conv => lhs; whnf; arg 1; whnf
 . exact ⟨by kernel_rfl,by kernel_rfl⟩
 . rfl
|exact Or.inl ⟨pn 0,_,rfl⟩
|refine Or.inr ?_
|apply g_pr zi zN (default : D) rfl
 . conv => lhs; whnf
 . conv => lhs; whnf
 . rfl
 . conv => lhs; whnf; arg 1; whnf
 . first | exact z7 _
 . first | exact hv ‹_› ‹_›
 . exact fun _ => rfl
 . first | (intro _ _; simp only [renL,renV,ren_cells]; done) | exact fun _ _ => rfl
 . rfl
 refine fun ee hq tm rs => ?_
 change _ = Out.die _
 rotate_left 1
 refine fun aa xx hq => ?_
 rotate_left 1
 refine fun ee hq => ?_
|show inO _ _ = true; rfl
|apply zGN [aa] rfl rfl
 . conv => lhs; whnf
 . first | exact zCm | exact zEt | (conv => lhs; whnf; arg 1; whnf)
 . rfl
 . rfl
 . repeat' (first | exact trivial | apply And.intro | rfl)
|apply zGN [default] rfl rfl
 . conv => lhs; whnf
 . first | exact zCm | exact zEt | (conv => lhs; whnf; arg 1; whnf)
 . rfl
 . rfl
 . repeat' (first | exact trivial | apply And.intro | rfl)
|apply s_m zi zN rfl
 . conv => lhs; whnf
 . conv => lhs; whnf
 . rfl
 . conv => lhs; whnf; arg 1; whnf
 . first | exact z7 _
 . first | exact hs | exact hn
 . exact fun _ => rfl
 . exact fun _ => rfl
|apply s_pr zi zN rfl
 . conv => lhs; whnf
 . conv => lhs; whnf
 . rfl
 . conv => lhs; whnf; arg 1; whnf
 . first | exact z7 _
 . first | exact hnm | exact htk ‹_›
 . exact fun _ => rfl
 . first | (intro _ _; simp only [renL,renV,ren_cells]; done) | exact fun _ _ => rfl
 refine fun ee hq => ?_
 change _ = Out.die _
 rotate_left 1
 refine fun aa xx hq => ?_
 first | (replace hq:=zAh hq; obtain ⟨hq,rfl⟩:=hq) | (cases hq; have hq:=True.intro) | skip
|apply zCb rfl
 . conv => lhs; whnf
 . first | exact hf7
 . first | exact fun _ => rfl | (intro _; simp only [renL,renV,ren_cells])
 change _ = Out.die _
|refine zA ?_
|refine zB ?_
|refine zG ?_
|refine zb ?_
|apply aw_1
 conv => whnf
 refine ⟨?_,trivial⟩
|apply s_1
 conv => whnf; arg 1; arg 4; arg 3; whnf
 refine ⟨?_,?_⟩
|apply ze rfl
 . conv => lhs; whnf
 . conv => lhs; whnf
 . first | exact hcon _
|apply zI rfl rfl rfl
 . conv => lhs; whnf
 . conv => lhs; whnf; arg 1; whnf
 . conv => lhs; whnf; arg 1; whnf
 . exact ⟨by kernel_rfl,by kernel_rfl⟩
 . rfl
|apply zBQ rfl rfl
 . conv => lhs; whnf
 . first | exact zCm | exact zEt | (conv => lhs; whnf; arg 1; whnf)
 . first | exact fun _ => rfl | (intro _; kernel_rfl)
 . conv => lhs; whnf
 . conv => lhs; whnf; arg 1; whnf
 . conv => lhs; whnf
|apply s_lit1 rfl rfl
 . conv => lhs; whnf
 . first | exact zCm | exact zEt | (conv => lhs; whnf; arg 1; whnf)
 . conv => lhs; whnf; arg 1; whnf
 . rfl
 . rfl
|refine zg (by conv => lhs; whnf) ?_ ?_ <;> intro hb
|refine zP ?_
|refine zM rfl ?_
|refine zW ?_
|apply zAM rfl
 . conv => lhs; whnf; arg 2; whnf
 . conv => lhs; whnf; arg 1; whnf
|exact trivial)
       all_goals first
        | exact zBu _ _
        | exact zS (by omega)
        | (refine ⟨by simp,?_,?_⟩ <;> simp only [List.length_map,List.length_cons,List.length_nil,maxLen] <;> omega)
        | (rw [fields_end ‹_›]; rfl)
        | (rw [fl_nm ‹_› ‹_›]; rfl)
        | (rw [fl_dup ‹_› ‹_› ‹_›]; rfl)
        | (rw [fl_col ‹_› ‹_› ‹_› ‹_›]; rfl)
        | (rw [fl_val ‹_› ‹_› ‹_› ‹_› ‹_›]; rfl)
        | skip
       rename_i kk yy hnm1 uu zz htk1
       have l1:=hz.name hnm1
       have l2:=l1.1.take htk1
       have l3:=l2.1.valueL hq
       refine zL (j':=j) (by omega) ⟨xx,ks ++ [kk],acc ++ [aa],l3.1,by omega,by rw [List.length_append]; simp only [List.length_cons,List.length_nil]; omega,by rw [List.length_append,List.length_append,hka]; rfl,fl_ok ‹_› hnm1 hb htk1 hq,Sub.live ⟨rfl,rfl,rfl,rfl,trivial⟩ ⟨rfl,rfl,?_,?_,?_,trivial⟩⟩
       . show some (Res.box _ [_,_,_,V.own 901 _ (acc ++ [aa]),V.own 902 _ (ks.map strD ++ [D.str (bs kk)])]) = some (Res.box _ [_,_,_,V.own 901 _ (acc ++ [aa]),V.own 902 _ ((ks ++ [kk]).map strD)])
         rw [List.map_append]; rfl
       . show some (Res.tok _ (acc.length + 1)) = some (Res.tok _ (acc ++ [aa]).length)
         rw [List.length_append]; rfl
       . show some (Res.tok _ ((ks.map strD).length + 1)) = some (Res.tok _ ((ks ++ [kk]).map strD).length)
         rw [List.map_append,List.length_append]; rfl
theorem zGo (x : PS) (h : En x) (hlen : x.ts.length <= 100000) : ACE EN5 Tryz.prog 181 [.bx (pn 0) 0] [boxP x] (outQ VV (zAR x)):=by
 have hv:=zGs 25 1 ⟨x.ts,x.vr,0⟩ h hlen rfl (by omega)
 have e : zAR x = valueQ 25 1 ⟨x.ts,x.vr,0⟩:=rfl
 rw [e]
 obtain ⟨ts,vr,nd⟩:=x
 refine zAH (fn:=Tryz.f181) 8 Tryz.func181 rfl rfl ?_
 intro pas w0 w he hp
 repeat' (first
|apply s_pr zi zN rfl
 . conv => lhs; whnf
 . conv => lhs; whnf
 . rfl
 . conv => lhs; whnf; arg 1; whnf
 . first | exact z7 _ | exact etaP3 _ _
 . first | exact hv
 . exact fun _ => rfl
 . first | (intro _ _; simp only [renL,renV,ren_cells]; done) | exact fun _ _ => rfl
 refine fun ee hq => ?_
 change _ = Out.die _
 rotate_left 1
 refine fun aa xx hq => ?_
 first | (replace hq:=zAh hq; obtain ⟨hq,rfl⟩:=hq) | (cases hq; have hq:=True.intro) | skip
|refine zA ?_
|refine zB ?_
|refine zG ?_
|apply aw_1
 conv => whnf
 refine ⟨?_,trivial⟩
|apply s_1
 conv => whnf; arg 1; arg 4; arg 3; whnf
 refine ⟨?_,?_⟩
|apply zI rfl rfl rfl
 . conv => lhs; whnf
 . conv => lhs; whnf; arg 1; whnf
 . conv => lhs; whnf; arg 1; whnf
 . exact ⟨by kernel_rfl,by kernel_rfl⟩
 . rfl
|apply zAM rfl
 . conv => lhs; whnf; arg 2; whnf
 . conv => lhs; whnf; arg 1; whnf
|exact trivial)
 . rw [hq]; rfl
 . rw [hq]; rfl
theorem ACE.le {e : Ge} {P : Program} {f : FuncId} {args : List V} {bs : List Res} {ε α S : Type} {tR : TypeId} {cl : S -> List V} {toV toV' : α -> V} {toP : ε -> Value} {r : Except ε (α × S)} (hle : ∀ a,VLe (toV a) (toV' a)) (h : ACE e P f args bs (outP tR cl toV toP r)) : ACE e P f args bs (outP tR cl toV' toP r):=by
 cases r with
 | error q => exact h
 | ok q =>
   obtain ⟨a,x⟩:=q
   unfold ACE outP at h |-
   exact ACB.res h (hle a)
theorem zB3 : z6 Tryz.prog 69 = some (86,96):=by kernel_rfl
theorem zGV : z6 Tryz.prog 74 = some (150,40):=by kernel_rfl
def rawA (l : List D) : V:=match l with | [] => .c (.slice none 0 0) | _ => .sl 86 l
noncomputable def HaL (y : PS) (acc : List D) : Vst 45:=
 stS 45 [(0,.bx (pn 0) 0),(3,.own 3 86 acc)] [(pn 0,boxP y),(3,.tok 86 acc.length)]
section
variable {j : Nat} {acc : List D} {z y z2 u2 : PS} {k : List UInt8} {e : Nat × Int} {u : Unit} {a : D}
theorem al_end (h0 : acc.length ≠ 0) (h : isS z [41] = true) : argsF (j + 1) acc z = .ok (acc,nxT z):=by rw [argsF,if_pos ⟨h0,h⟩]
theorem al_go (h : acc.length = 0 \/ isS z [41] = false) : argsF (j + 1) acc z = if (hdT z).k = 2 /\ 16 <= acc.length then .error ((hdT z).i,4) else zX (nameQ z) fun n y => zX (takeQ [58] y) fun _ z => zX (zAR z) fun v u => argsF j (acc ++ [argD n v]) u:=by
 rw [argsF,if_neg (fun hh => by rcases h with h | h; exact hh.1 h; rw [h] at hh; cases hh.2)]
theorem al_lim (h : acc.length = 0 \/ isS z [41] = false) (hk : (hdT z).k = 2) (hl : 16 <= acc.length) : argsF (j + 1) acc z = .error ((hdT z).i,4):=by rw [al_go h,if_pos ⟨hk,hl⟩]
theorem al_nm (h : acc.length = 0 \/ isS z [41] = false) (hl : (hdT z).k = 2 -> acc.length < 16) (h1 : nameQ z = .error e) : argsF (j + 1) acc z = .error e:=by rw [al_go h,if_neg (fun hh => by have:=hl hh.1; omega),then_err h1]
theorem al_col (h : acc.length = 0 \/ isS z [41] = false) (hl : (hdT z).k = 2 -> acc.length < 16) (h1 : nameQ z = .ok (k,y)) (h2 : takeQ [58] y = .error e) : argsF (j + 1) acc z = .error e:=by rw [al_go h,if_neg (fun hh => by have:=hl hh.1; omega),zR h1,then_err h2]
theorem al_val (h : acc.length = 0 \/ isS z [41] = false) (hl : (hdT z).k = 2 -> acc.length < 16) (h1 : nameQ z = .ok (k,y)) (h2 : takeQ [58] y = .ok (u,z2)) (h3 : zAR z2 = .error e) : argsF (j + 1) acc z = .error e:=by rw [al_go h,if_neg (fun hh => by have:=hl hh.1; omega),zR h1,zR h2,then_err h3]
theorem al_ok (h : acc.length = 0 \/ isS z [41] = false) (hl : (hdT z).k = 2 -> acc.length < 16) (h1 : nameQ z = .ok (k,y)) (h2 : takeQ [58] y = .ok (u,z2)) (h3 : zAR z2 = .ok (a,u2)) : argsF (j + 1) acc z = argsF j (acc ++ [argD k a]) u2:=by rw [al_go h,if_neg (fun hh => by have:=hl hh.1; omega),zR h1,zR h2,zR h3]
end
theorem En.wholeL {x y : PS} {v : D} (h : En x) (hq : zAR x = .ok (v,y)) : En y /\ y.ts.length < x.ts.length:=En.valueL (x:=⟨x.ts,x.vr,0⟩) h hq
theorem args_raw (x : PS) (h : En x) (hlen : x.ts.length <= 100000) : ACE EN5 Tryz.prog 254 [.bx (pn 0) 0] [boxP x] (outQ rawA (argsQ x)):=by
 have hs:=zAo h [40]
 have hn:=zBI h
 have e : isS x [40] = true -> argsQ x = argsF x.ts.length [] (nxT x):=fun h => by rw [argsQ,if_pos h]
 refine zAH (fn:=Tryz.f254) 45 Tryz.func254 rfl rfl ?_
 intro pas w0 w he hp
 repeat' (first
|apply s_m zi zN rfl
 . conv => lhs; whnf
 . conv => lhs; whnf
 . rfl
 . conv => lhs; whnf; arg 1; whnf
 . first | exact z7 _
 . first | exact hs | exact hn
 . exact fun _ => rfl
 . exact fun _ => rfl
|refine zA ?_
|refine zB ?_
|refine zG ?_
|apply aw_1
 conv => whnf
 refine ⟨?_,trivial⟩
|apply s_1
 conv => whnf; arg 1; arg 4; arg 3; whnf
 refine ⟨?_,?_⟩
|refine zg (by conv => lhs; whnf) ?_ ?_ <;> intro hb
|refine zU ?_
|apply zAM rfl
 . conv => lhs; whnf; arg 2; whnf
 . conv => lhs; whnf; arg 1; whnf
|exact trivial)
 . rw [argsQ,if_neg (by simpa using hb)]; rfl
 . have hb : isS x [40] = true:=by simpa using hb
   have hx:=h.sg hb
   rw [e hb]
   clear hs hn e
   refine zn (Sub.own (t:=3) (e:=86) rfl rfl) ?_
   refine zu (fun j st => ∃ z acc,En z /\ z.ts.length <= j /\ acc.length + z.ts.length <= x.ts.length /\ argsF x.ts.length [] (nxT x) = argsF j acc z /\ Sub (cxE EN5 Tryz.prog pas w0 w he hp (outQ rawA (argsF x.ts.length [] (nxT x)))) st (HaL z acc)) x.ts.length ⟨nxT x,[],hx.1,by omega,by simp; omega,rfl,?_⟩ ?_
   . exact Sub.live ⟨rfl,rfl,trivial⟩ ⟨rfl,rfl,trivial⟩
   rintro j st ⟨z,acc,hz,hzj,hzl,hI,hsub⟩
   refine zn hsub ?_
   clear hsub
   rw [hI]
   clear hI
   obtain ⟨t,r,ht⟩:=hz.cons
   cases j with
   | zero => rw [ht] at hzj; simp at hzj
   | succ j =>
   have hs:=zAo hz [41]
   have hn:=zBI hz
   have hnm:=zCd hz
   have hli:=zDn hz acc.length 16
   have htk : ∀ {k y},nameQ z = .ok (k,y) -> ACE EN5 Tryz.prog 177 [.bx (pn 0) 0,.c (.string (bs [58]))] [boxP y] (outQ (fun _ => .agg (tokC (hdT y))) (takeQ [58] y)):=fun hq => zFF (hz.name hq).1 [58]
   have hw : ∀ {k y u z2},nameQ z = .ok (k,y) -> takeQ [58] y = .ok (u,z2) -> ACE EN5 Tryz.prog 181 [.bx (pn 0) 0] [boxP z2] (outQ VV (zAR z2)):=fun h1 h2 =>
    zGo _ ((hz.name h1).1.take h2).1 (by have:=hz.name h1; have:=this.1.take h2; omega)
   have hh:=zAn ht
   obtain ⟨zts,zvr,znd⟩:=z
   cases ht
   have A1 : (((acc.length : Int) == 0) == false) = false -> acc.length = 0 \/ isS ⟨t :: r,zvr,znd⟩ [41] = false:=fun h => .inl (by simp at h; simp [h])
   have A2 : (!isS ⟨t :: r,zvr,znd⟩ [41]) = true -> acc.length = 0 \/ isS ⟨t :: r,zvr,znd⟩ [41] = false:=fun h => .inr (by simpa using h)
   have L1 : acc.length < 16 -> (hdT ⟨t :: r,zvr,znd⟩).k = 2 -> acc.length < 16:=fun h _ => h
   have L2 : (t.k == 2) = false -> (hdT ⟨t :: r,zvr,znd⟩).k = 2 -> acc.length < 16:=fun h h2 => by rw [hh] at h2; rw [h2] at h; cases h
   have K1 : (t.k == 2) = true -> (hdT ⟨t :: r,zvr,znd⟩).k = 2:=fun h => by rw [hh]; simpa using h
   have E2 : (!isS ⟨t :: r,zvr,znd⟩ [41]) = false -> isS ⟨t :: r,zvr,znd⟩ [41] = true:=fun h => by simpa using h
   have E1 : (((acc.length : Int) == 0) == false) = true -> acc.length ≠ 0:=fun h => by simp at h; intro h2; rw [List.eq_nil_of_length_eq_zero h2] at h; exact h rfl
   repeat' (first
|apply s_m zi zN rfl
 . conv => lhs; whnf
 . conv => lhs; whnf
 . rfl
 . conv => lhs; whnf; arg 1; whnf
 . first | exact z7 _
 . first | exact hs | exact hn
 . exact fun _ => rfl
 . exact fun _ => rfl
|apply zj zi zN rfl
 . conv => lhs; whnf
 . conv => lhs; whnf
 . first | rfl | assumption
 . conv => lhs; whnf
 . rfl
 . conv => lhs; whnf; arg 1; whnf
 . first | exact z7 _
 . first | exact hs | exact hn
 . exact fun _ => rfl
 . exact fun _ => rfl
|apply zd rfl
 . conv => lhs; whnf
 . conv => lhs; whnf
 . first | rfl | assumption
|apply s_pr zi zN rfl
 . conv => lhs; whnf
 . conv => lhs; whnf
 . rfl
 . conv => lhs; whnf; arg 1; whnf
 . first | exact z7 _
 . first | exact hli | exact hnm | exact htk ‹_› | exact hw ‹_› ‹_›
 . exact fun _ => rfl
 . first | (intro _ _; simp only [renL,renV,ren_cells]; done) | exact fun _ _ => rfl
 refine fun ee hq => ?_
 change _ = Out.die _
 rotate_left 1
 refine fun aa xx hq => ?_
 first | (replace hq:=zAh hq; obtain ⟨hq,rfl⟩:=hq) | (cases hq; have hq:=True.intro) | skip
|apply zBP [argD _ _] rfl rfl
 . conv => lhs; whnf
 . first | exact zB3 | (conv => lhs; whnf; arg 1; whnf)
 . rfl
 . rfl
 . repeat' (first | exact trivial | apply And.intro | rfl)
|refine zA ?_
|refine zB ?_
|refine zG ?_
|refine zb ?_
|apply aw_1
 conv => whnf
 refine ⟨?_,trivial⟩
|apply zY rfl rfl
 . conv => lhs; whnf
 . conv => lhs; whnf
 . first | exact bT1 ‹_› | exact bT2 ‹_›
|apply zV rfl rfl
 . conv => lhs; whnf
 . conv => lhs; whnf
 . first | exact bF1 ‹_› | exact bF2 ‹_›
|apply s_1
 conv => whnf; arg 1; arg 4; arg 3; whnf
 refine ⟨?_,?_⟩
|apply zI rfl rfl rfl
 . conv => lhs; whnf
 . conv => lhs; whnf; arg 1; whnf
 . conv => lhs; whnf; arg 1; whnf
 . exact ⟨by kernel_rfl,by kernel_rfl⟩
 . rfl
|apply zBQ rfl rfl
 . conv => lhs; whnf
 . first | exact zB3 | (conv => lhs; whnf; arg 1; whnf)
 . first | exact fun _ => rfl | (intro _; kernel_rfl)
 . conv => lhs; whnf
 . conv => lhs; whnf; arg 1; whnf
 . conv => lhs; whnf
|apply zD rfl
 . conv => lhs; whnf
 . conv => lhs; whnf
 . first | rfl | assumption
 . conv => lhs; whnf; arg 2; whnf
|apply zT rfl
 . conv => lhs; whnf
 . conv => lhs; whnf
 . conv => lhs; whnf; arg 2; whnf
|refine zg (by conv => lhs; whnf) ?_ ?_ <;> intro hb
|refine zP ?_
|refine zM rfl ?_
|refine zW ?_
|apply zAM rfl
 . conv => lhs; whnf; arg 2; whnf
 . conv => lhs; whnf; arg 1; whnf
|exact trivial
|intro hg)
   all_goals first
    | exact zBu _ _
    | (refine ⟨by simp,?_,?_⟩ <;> simp only [List.length_cons,List.length_nil,maxLen] <;> omega)
    | (have h0:=E1 ‹_›
       have h1:=E2 ‹_›
       rw [al_end h0 h1]
       cases acc with
       | nil => exact (h0 rfl).elim
       | cons a b => rfl)
    | (have hA : acc.length = 0 \/ isS ⟨t :: r,zvr,znd⟩ [41] = false:=by first | exact A1 ‹_› | exact A2 ‹_›
       first
        | (rw [al_lim hA (K1 ‹_›) (zAx hq).1,(zAx hq).2]; rfl)
        | (have hL : (hdT ⟨t :: r,zvr,znd⟩).k = 2 -> acc.length < 16:=by first | exact L1 ‹_› | exact L2 ‹_›
           first
            | (rw [al_nm hA hL ‹_›]; rfl)
            | (rw [al_col hA hL ‹_› ‹_›]; rfl)
            | (rw [al_val hA hL ‹_› ‹_› ‹_›]; rfl)
            | (rename_i kk yy hnm1 uu zz htk1
               have l1:=hz.name hnm1
               have l2:=l1.1.take htk1
               have l3:=l2.1.wholeL hq
               refine zL (j':=j) (by omega) ⟨xx,acc ++ [argD kk aa],l3.1,by omega,by rw [List.length_append]; simp only [List.length_cons,List.length_nil]; omega,al_ok hA hL hnm1 htk1 hq,Sub.live ⟨rfl,rfl,trivial⟩ ⟨rfl,?_,trivial⟩⟩
               show some (Res.tok _ (acc.length + 1)) = some (Res.tok _ (acc ++ [argD kk aa]).length)
               rw [List.length_append]; rfl)))
    | skip
theorem zJo (x : PS) (h : En x) (hlen : x.ts.length <= 100000) : ACE EN5 Tryz.prog 254 [.bx (pn 0) 0] [boxP x] (outQ (fun l => .sl 86 l) (argsQ x)):=
 ACE.le (toV:=rawA) (fun l => by cases l with | nil => exact .nil _ | cons a b => exact .refl _) (args_raw x h hlen)
noncomputable def HdL (y : PS) (acc : List D) : Vst 24:=
 stS 24 [(0,.bx (pn 0) 0),(3,.own 3 150 acc)] [(pn 0,boxP y),(3,.tok 150 acc.length)]
section
variable {j : Nat} {acc : List D} {z y z2 u2 : PS} {k : List UInt8} {e : Nat × Int} {u : Unit} {a : List D}
theorem dl_end (h : isS z [64] = false) : dirsF (j + 1) acc z = .ok (acc,z):=by rw [dirsF,if_neg (by rw [h]; decide)]
theorem dl_lim (h : isS z [64] = true) (hl : 16 <= acc.length) : dirsF (j + 1) acc z = .error ((hdT z).i,4):=by rw [dirsF,if_pos h,if_pos hl]
theorem dl_nm (h : isS z [64] = true) (hl : acc.length < 16) (h1 : nameQ (nxT z) = .error e) : dirsF (j + 1) acc z = .error e:=by rw [dirsF,if_pos h,if_neg (by omega),then_err h1]
theorem dl_as (h : isS z [64] = true) (hl : acc.length < 16) (h1 : nameQ (nxT z) = .ok (k,y)) (h2 : argsQ y = .error e) : dirsF (j + 1) acc z = .error e:=by rw [dirsF,if_pos h,if_neg (by omega),zR h1,then_err h2]
theorem dl_ok (h : isS z [64] = true) (hl : acc.length < 16) (h1 : nameQ (nxT z) = .ok (k,y)) (h2 : argsQ y = .ok (a,u2)) : dirsF (j + 1) acc z = dirsF j (acc ++ [dirD k a]) u2:=by rw [dirsF,if_pos h,if_neg (by omega),zR h1,zR h2]
end
theorem zEI (x : PS) (h : En x) (hlen : x.ts.length <= 100000) : ACE EN5 Tryz.prog 255 [.bx (pn 0) 0] [boxP x] (outQ (fun l => .sl 150 l) (dirsQ x)):=by
 have e0 : dirsQ x = dirsF (x.ts.length + 1) [] x:=rfl
 rw [e0]
 refine zAH (fn:=Tryz.f255) 24 Tryz.func255 rfl rfl ?_
 intro pas w0 w he hp
 repeat' (first
|refine zA ?_
|refine zB ?_
|refine zG ?_
|apply aw_1
 conv => whnf
 refine ⟨?_,trivial⟩
|apply s_1
 conv => whnf; arg 1; arg 4; arg 3; whnf
 refine ⟨?_,?_⟩
|exact trivial)
 refine zn (Sub.own (t:=3) (e:=150) rfl rfl) ?_
 refine zu (fun j st => ∃ z acc,En z /\ z.ts.length < j /\ acc.length + z.ts.length <= x.ts.length /\ dirsF (x.ts.length + 1) [] x = dirsF j acc z /\ Sub (cxE EN5 Tryz.prog pas w0 w he hp (outQ (fun l => V.sl 150 l) (dirsF (x.ts.length + 1) [] x))) st (HdL z acc)) (x.ts.length + 1) ⟨x,[],h,by omega,by simp,rfl,?_⟩ ?_
 . exact Sub.live ⟨rfl,rfl,trivial⟩ ⟨rfl,rfl,trivial⟩
 rintro j st ⟨z,acc,hz,hzj,hzl,hI,hsub⟩
 refine zn hsub ?_
 clear hsub
 rw [hI]
 clear hI
 cases j with
 | zero => omega
 | succ j =>
 have hs:=zAo hz [64]
 have hn:=zBI hz
 have hli:=zDn hz acc.length 16
 have hnm:=zCd hz.nx0
 have hxl:=nx_len z
 have hargs : ∀ {k y},nameQ (nxT z) = .ok (k,y) -> ACE EN5 Tryz.prog 254 [.bx (pn 0) 0] [boxP y] (outQ (fun l => .sl 86 l) (argsQ y)):=fun hq => zJo _ (hz.nx0.name hq).1 (by have:=hz.nx0.name hq; omega)
 repeat' (first
|apply s_m zi zN rfl
 . conv => lhs; whnf
 . conv => lhs; whnf
 . rfl
 . conv => lhs; whnf; arg 1; whnf
 . first | exact z7 _
 . first | exact hs | exact hn
 . exact fun _ => rfl
 . exact fun _ => rfl
|apply s_pr zi zN rfl
 . conv => lhs; whnf
 . conv => lhs; whnf
 . rfl
 . conv => lhs; whnf; arg 1; whnf
 . first | exact z7 _
 . first | exact hli | exact hnm | exact hargs ‹_›
 . exact fun _ => rfl
 . first | (intro _ _; simp only [renL,renV,ren_cells]; done) | exact fun _ _ => rfl
 refine fun ee hq => ?_
 change _ = Out.die _
 rotate_left 1
 refine fun aa xx hq => ?_
 first | (replace hq:=zAh hq; obtain ⟨hq,rfl⟩:=hq) | (cases hq; have hq:=True.intro) | skip
|apply zBP [dirD _ _] rfl rfl
 . conv => lhs; whnf
 . first | exact zGV | (conv => lhs; whnf; arg 1; whnf)
 . rfl
 . rfl
 . repeat' (first | exact trivial | apply And.intro | rfl)
|refine zA ?_
|refine zB ?_
|refine zG ?_
|refine zb ?_
|apply aw_1
 conv => whnf
 refine ⟨?_,trivial⟩
|apply s_1
 conv => whnf; arg 1; arg 4; arg 3; whnf
 refine ⟨?_,?_⟩
|apply zI rfl rfl rfl
 . conv => lhs; whnf
 . conv => lhs; whnf; arg 1; whnf
 . conv => lhs; whnf; arg 1; whnf
 . exact ⟨by kernel_rfl,by kernel_rfl⟩
 . rfl
|apply zBQ rfl rfl
 . conv => lhs; whnf
 . first | exact zGV | (conv => lhs; whnf; arg 1; whnf)
 . first | exact fun _ => rfl | (intro _; kernel_rfl)
 . conv => lhs; whnf
 . conv => lhs; whnf; arg 1; whnf
 . conv => lhs; whnf
|refine zg (by conv => lhs; whnf) ?_ ?_ <;> intro hb
|refine zP ?_
|refine zM rfl ?_
|refine zW ?_
|apply zAM rfl
 . conv => lhs; whnf; arg 2; whnf
 . conv => lhs; whnf; arg 1; whnf
|exact trivial)
 all_goals first
  | (refine ⟨by simp,?_,?_⟩ <;> simp only [List.length_cons,List.length_nil,maxLen] <;> omega)
  | (rw [dl_end ‹_›]; rfl)
  | (rw [dl_lim ‹_› (zAx hq).1,(zAx hq).2]; rfl)
  | (rw [dl_nm ‹_› ‹_› ‹_›]; rfl)
  | (rw [dl_as ‹_› ‹_› ‹_› ‹_›]; rfl)
  | (rename_i kk yy hnm1
     have l1:=hz.nx0.name hnm1
     have l2:=l1.1.args hq
     have l3:=(hz.sg ‹_›).2
     refine zL (j':=j) (by omega) ⟨xx,acc ++ [dirD kk aa],l2.1,by omega,by rw [List.length_append]; simp only [List.length_cons,List.length_nil]; omega,dl_ok ‹_› ‹_› hnm1 hq,Sub.live ⟨rfl,rfl,trivial⟩ ⟨rfl,?_,trivial⟩⟩
     show some (Res.tok _ (acc.length + 1)) = some (Res.tok _ (acc ++ [dirD kk aa]).length)
     rw [List.length_append]; rfl)
  | skip
noncomputable def VS (d : D) : V:=.agg (cellsV Tryz.prog 12 76 d)
theorem zBW : z6 Tryz.prog 55 = some (76,128):=by kernel_rfl
section
variable {v : PS -> PR (List D)} {x y z u o : PS} {on n m : List UInt8} {aa ds ss : List D} {e : Nat × Int}
theorem se_d0 (hd : isS x [46,46,46] = true) (hk : (hdT (nxT x)).k = 2 /\ (hdT (nxT x)).s ≠ onT) : selQ v x = zX (dirsQ (nxT (nxT x))) fun ds z => .ok (selD 2 [] (hdT (nxT x)).s [] [] ds [],z):=by
 unfold selQ
 rw [if_pos hd]
 dsimp only
 rw [if_pos hk]
theorem se_d1 (hd : isS x [46,46,46] = true) (hk : ¬ ((hdT (nxT x)).k = 2 /\ (hdT (nxT x)).s ≠ onT)) : selQ v x = zX (if (hdT (nxT x)).k = 2 then nameQ (nxT (nxT x)) else .ok ([],nxT x)) fun on z => zX (dirsQ z) fun ds u => zX (v u) fun ss o => .ok (selD 3 [] [] on [] ds ss,o):=by
 unfold selQ
 rw [if_pos hd]
 dsimp only
 rw [if_neg hk]
def selT3 (v : PS -> PR (List D)) (al n : List UInt8) (z : PS) : PR D:=
 zX (argsQ z) fun as' u => zX (dirsQ u) fun ds w => zX (if isS w [123] = true then v w else .ok ([],w)) fun ss o => .ok (selD 1 al n [] as' ds ss,o)
def zDo (x : PS) : PR (List UInt8 × List UInt8):=zX (nameQ x) fun n y => if isS y [58] = true then zX (nameQ (nxT y)) fun m z => .ok ((n,m),z) else .ok (([],n),y)
theorem se_n (hd : isS x [46,46,46] = false) : selQ v x = zX (zDo x) fun an z => selT3 v an.1 an.2 z:=by
 unfold selQ zDo
 rw [if_neg (by rw [hd]; decide)]
 cases nameQ x with
 | error q => rfl
 | ok q =>
   obtain ⟨n,y⟩:=q
   rw [zR (r:=Except.ok (n,y)) rfl,zR (r:=Except.ok (n,y)) rfl]
   by_cases h : isS y [58] = true
   . simp only [if_pos h]
     cases nameQ (nxT y) with
     | error q => rfl
     | ok q => rfl
   . simp only [if_neg h]; rfl
theorem hd_e1 {e : Nat × Int} (h1 : nameQ x = .error e) : zDo x = .error e:=by unfold zDo; rw [then_err h1]
theorem hd_e2 {e : Nat × Int} (h1 : nameQ x = .ok (n,y)) (h2 : isS y [58] = true) (h3 : nameQ (nxT y) = .error e) : zDo x = .error e:=by unfold zDo; rw [zR h1,if_pos h2,then_err h3]
theorem hd_o1 (h1 : nameQ x = .ok (n,y)) (h2 : isS y [58] = true) (h3 : nameQ (nxT y) = .ok (m,z)) : zDo x = .ok ((n,m),z):=by unfold zDo; rw [zR h1,if_pos h2,zR h3]
theorem hd_o2 (h1 : nameQ x = .ok (n,y)) (h2 : isS y [58] = false) : zDo x = .ok (([],n),y):=by unfold zDo; rw [zR h1,if_neg (by rw [h2]; decide)]
end
noncomputable def HsB (lv : Nat) (al n : List UInt8) (z : PS) : Vst 86:=
 stS 86 [(0,.bx (pn 0) 0),(1,.c (.int .i64 (lv : Int))),(4,.bx 4 0),(5,.bx 5 0)] [(pn 0,boxP z),(4,.box 76 [.c (.int .i64 0),.c (.string ⟨#[]⟩),.c (.string ⟨#[]⟩),.c (.string ⟨#[]⟩),.c (.slice none 0 0),.c (.slice none 0 0),.c (.slice none 0 0)]),
  (5,.box 76 [.c (.int .i64 1),.c (.string (bs al)),.c (.string (bs n)),.c (.string ⟨#[]⟩),.c (.slice none 0 0),.c (.slice none 0 0),.c (.slice none 0 0)])]
theorem sel_ace (f lv : Nat) (hsels : ∀ x,En x -> x.ts.length <= 100000 -> ACE EN5 Tryz.prog 102 [.bx (pn 0) 0,.c (.int .i64 ((lv + 1 : Nat) : Int))] [boxP x] (outQ (fun l => .sl 76 l) (selsQ f (lv + 1) x))) (hlv : lv <= 100) (x : PS) (h : En x) (hlen : x.ts.length <= 100000) :
 ACE EN5 Tryz.prog 178 [.bx (pn 0) 0,.c (.int .i64 (lv : Int))] [boxP x] (outQ VS (selQ (selsQ f (lv + 1)) x)):=by
 have hs0:=zAo h [46,46,46]
 by_cases hd : isS x [46,46,46] = true
 . have kd : (!isS x [46,46,46]) = true -> False:=fun hh => by rw [hd] at hh; cases hh
   have hn0:=zBI h
   obtain ⟨y,hy⟩ : ∃ y,y = nxT x:=⟨_,rfl⟩
   have hx:=h.sg hd
   rw [<- hy] at hx hn0
   have hn:=zBI hx.1
   have hdr1:=zEI (nxT y) hx.1.nx0 (by have:=nx_len y; omega)
   have hdr2 : ∀ {on z},nameQ (nxT y) = .ok (on,z) -> ACE EN5 Tryz.prog 255 [.bx (pn 0) 0] [boxP z] (outQ (fun l => .sl 150 l) (dirsQ z)):=fun hq => zEI _ (hx.1.nx0.name hq).1 (by have:=hx.1.nx0.name hq; have:=nx_len y; omega)
   have hdr3:=zEI y hx.1 (by omega)
   have hnm:=zCd hx.1.nx0
   have hss : ∀ {z u ds},dirsQ z = .ok (ds,u) -> En z -> z.ts.length <= 100000 -> ACE EN5 Tryz.prog 102 [.bx (pn 0) 0,.c (.int .i64 ((lv + 1 : Nat) : Int))] [boxP u] (outQ (fun l => .sl 76 l) (selsQ f (lv + 1) u)):=fun hq hz hl => hsels _ (hz.dirs hq).1 (by have:=hz.dirs hq; omega)
   have hz1 : ∀ {on z},nameQ (nxT y) = .ok (on,z) -> En z:=fun hq => (hx.1.nx0.name hq).1
   have hz2 : ∀ {on z},nameQ (nxT y) = .ok (on,z) -> z.ts.length <= 100000:=fun hq => by have:=hx.1.nx0.name hq; have:=nx_len y; omega
   have hy1 : En y:=hx.1
   have hy2 : y.ts.length <= 100000:=by omega
   obtain ⟨t,r,ht⟩:=hx.1.cons
   have hh:=zAn ht
   obtain ⟨yts,yvr,ynd⟩:=y
   cases ht
   refine zAH (fn:=Tryz.f178) 86 Tryz.func178 rfl rfl ?_
   intro pas w0 w he hp
   by_cases hk : t.k = 2 /\ t.s ≠ onT
   . have K1 : ((t.k == 2) == true) = false -> False:=fun hh => by simp [hk.1] at hh
     have K2 : (!(bs t.s).toList == (⟨#[111,110]⟩ : ByteArray).toList) = false -> False:=fun hh => hk.2 (zCa (by simpa using hh))
     have e0:=se_d0 (v:=selsQ f (lv + 1)) hd (by rw [<- hy,hh]; exact hk)
     rw [<- hy,hh] at e0
     rw [e0]
     repeat' (first
|apply zAL (VS (selD 2 [] _ [] [] _ [])) rfl rfl
 . conv => lhs; whnf; arg 2; whnf
 . repeat' (first | exact VLe.refl _ | exact VLe.nil _ | exact VLe.lit _ _ | exact VLe.own _ _ _ | apply VLe.agg | apply VLeL.cons | exact VLeL.nil)
|apply s_m zi zN rfl
 . conv => lhs; whnf
 . conv => lhs; whnf
 . rfl
 . conv => lhs; whnf; arg 1; whnf
 . first | exact z7 _
 . first | exact hs0 | exact hn0 | exact hn
 . exact fun _ => rfl
 . exact fun _ => rfl
|apply zd rfl
 . conv => lhs; whnf
 . conv => lhs; whnf
 . first | rfl | assumption
|apply s_pr zi zN rfl
 . conv => lhs; whnf
 . conv => lhs; whnf
 . rfl
 . conv => lhs; whnf; arg 1; whnf
 . first | exact z7 _
 . first | exact hdr1
 . exact fun _ => rfl
 . first | (intro _ _; simp only [renL,renV,ren_cells]; done) | exact fun _ _ => rfl
 refine fun ee hq => ?_
 change _ = Out.die _
 rotate_left 1
 refine fun aa xx hq => ?_
 first | (replace hq:=zAh hq; obtain ⟨hq,rfl⟩:=hq) | (cases hq; have hq:=True.intro) | skip
|exact (kd ‹_›).elim
|exact (K1 ‹_›).elim
|exact (K2 ‹_›).elim
|refine zA ?_
|refine zB ?_
|refine zG ?_
|apply aw_1
 conv => whnf
 refine ⟨?_,trivial⟩
|apply zY rfl rfl
 . conv => lhs; whnf
 . conv => lhs; whnf
 . first | exact bT1 ‹_› | exact bT2 ‹_›
|apply s_1
 conv => whnf; arg 1; arg 4; arg 3; whnf
 refine ⟨?_,?_⟩
|apply zI rfl rfl rfl
 . conv => lhs; whnf
 . conv => lhs; whnf; arg 1; whnf
 . conv => lhs; whnf; arg 1; whnf
 . exact ⟨by kernel_rfl,by kernel_rfl⟩
 . rfl
|apply zD rfl
 . conv => lhs; whnf
 . conv => lhs; whnf
 . first | rfl | assumption
 . conv => lhs; whnf; arg 2; whnf
|apply zT rfl
 . conv => lhs; whnf
 . conv => lhs; whnf
 . conv => lhs; whnf; arg 2; whnf
|refine zg (by conv => lhs; whnf) ?_ ?_ <;> intro hb
|refine zU ?_
|apply zAM rfl
 . conv => lhs; whnf; arg 2; whnf
 . conv => lhs; whnf; arg 1; whnf
|exact trivial
|intro hg)
     all_goals first
      | exact zBu _ _
      | (rw [hq]; rfl)
      | skip
   . have K3 : ((t.k == 2) == true) = true -> (!(bs t.s).toList == (⟨#[111,110]⟩ : ByteArray).toList) = true -> False:=fun h1 h2 => hk ⟨by simpa using h1,zA2 (by simpa using h2)⟩
     have K4 : ((t.k == 2) == true) = false -> (t.k == 2) = true -> False:=fun h1 h2 => by simp_all
     have K5 : ((t.k == 2) == true) = true -> (t.k == 2) = false -> False:=fun h1 h2 => by simp_all
     have e0:=se_d1 (v:=selsQ f (lv + 1)) hd (by rw [<- hy,hh]; exact hk)
     rw [<- hy,hh] at e0
     have e1 : (t.k == 2) = true -> selQ (selsQ f (lv + 1)) x = zX (nameQ (nxT ⟨t :: r,yvr,ynd⟩)) fun on z => zX (dirsQ z) fun ds u => zX (selsQ f (lv + 1) u) fun ss o => .ok (selD 3 [] [] on [] ds ss,o):=fun h => by rw [e0,if_pos (by simpa using h)]
     have e2 : (t.k == 2) = false -> selQ (selsQ f (lv + 1)) x = zX (dirsQ ⟨t :: r,yvr,ynd⟩) fun ds u => zX (selsQ f (lv + 1) u) fun ss o => .ok (selD 3 [] [] [] [] ds ss,o):=fun h => by rw [e0,if_neg (by simpa using h)]; rfl
     repeat' (first
|apply zAL (VS (selD 3 [] [] _ [] _ _)) rfl rfl
 . conv => lhs; whnf; arg 2; whnf
 . repeat' (first | exact VLe.refl _ | exact VLe.nil _ | exact VLe.lit _ _ | exact VLe.own _ _ _ | apply VLe.agg | apply VLeL.cons | exact VLeL.nil)
|apply s_m zi zN rfl
 . conv => lhs; whnf
 . conv => lhs; whnf
 . rfl
 . conv => lhs; whnf; arg 1; whnf
 . first | exact z7 _
 . first | exact hs0 | exact hn0 | exact hn
 . exact fun _ => rfl
 . exact fun _ => rfl
|apply zd rfl
 . conv => lhs; whnf
 . conv => lhs; whnf
 . first | rfl | assumption
|apply s_pr zi zN rfl
 . conv => lhs; whnf
 . conv => lhs; whnf
 . rfl
 . conv => lhs; whnf; arg 1; whnf
 . first | exact z7 _
 . first | exact hdr2 ‹_› | exact hdr3 | exact hnm | exact hss ‹_› ‹_› ‹_› | exact hss ‹_› (hz1 ‹_›) (hz2 ‹_›)
 . exact fun _ => rfl
 . first | (intro _ _; simp only [renL,renV,ren_cells]; done) | exact fun _ _ => rfl
 refine fun ee hq => ?_
 change _ = Out.die _
 rotate_left 1
 refine fun aa xx hq => ?_
 first | (replace hq:=zAh hq; obtain ⟨hq,rfl⟩:=hq) | (cases hq; have hq:=True.intro) | skip
|exact (kd ‹_›).elim
|exact (K3 ‹_› ‹_›).elim
|exact (K4 ‹_› ‹_›).elim
|exact (K5 ‹_› ‹_›).elim
|refine zA ?_
|refine zB ?_
|refine zG ?_
|apply aw_1
 conv => whnf
 refine ⟨?_,trivial⟩
|apply zY rfl rfl
 . conv => lhs; whnf
 . conv => lhs; whnf
 . first | exact bT1 ‹_› | exact bT2 ‹_›
|apply zV rfl rfl
 . conv => lhs; whnf
 . conv => lhs; whnf
 . first | exact bF1 ‹_› | exact bF2 ‹_›
|apply s_1
 conv => whnf; arg 1; arg 4; arg 3; whnf
 refine ⟨?_,?_⟩
|apply zI rfl rfl rfl
 . conv => lhs; whnf
 . conv => lhs; whnf; arg 1; whnf
 . conv => lhs; whnf; arg 1; whnf
 . exact ⟨by kernel_rfl,by kernel_rfl⟩
 . rfl
|apply zD rfl
 . conv => lhs; whnf
 . conv => lhs; whnf
 . first | rfl | assumption
 . conv => lhs; whnf; arg 2; whnf
|apply zT rfl
 . conv => lhs; whnf
 . conv => lhs; whnf
 . conv => lhs; whnf; arg 2; whnf
|refine zg (by conv => lhs; whnf) ?_ ?_ <;> intro hb
|apply zAM rfl
 . conv => lhs; whnf; arg 2; whnf
 . conv => lhs; whnf; arg 1; whnf
|exact trivial
|intro hg)
     all_goals first
      | exact zBu _ _
      | exact zS (by omega)
      | (rw [e2 ‹_›]
         first
          | (rw [then_err (r:=dirsQ _) hq]; rfl)
          | (rename_i hq1; rw [zR (r:=dirsQ _) hq1,then_err hq]; rfl)
          | (rename_i hq1; rw [zR (r:=dirsQ _) hq1,zR hq]; rfl))
      | (rw [e1 ‹_›]
         first
          | (rw [then_err (r:=nameQ _) hq]; rfl)
          | (rename_i hq1; rw [zR (r:=nameQ _) hq1,then_err hq]; rfl)
          | (rename_i hq1 hq2; rw [zR (r:=nameQ _) hq1,zR hq2,then_err hq]; rfl)
          | (rename_i hq1 _ _ hq2; rw [zR (r:=nameQ _) hq1,zR hq2,zR hq]; rfl))
      | skip
 . have hd : isS x [46,46,46] = false:=by simpa using hd
   have kd : (!isS x [46,46,46]) = false -> False:=fun hh => by rw [hd] at hh; cases hh
   have hnm0:=zCd h
   have e0:=se_n (v:=selsQ f (lv + 1)) hd
   rw [e0]
   clear e0
   have hEn : ∀ {n y},nameQ x = .ok (n,y) -> En y /\ y.ts.length <= 99999:=fun hq => ⟨(h.name hq).1,by have:=h.name hq; omega⟩
   have hsg : ∀ {n y},nameQ x = .ok (n,y) -> ACB EN5 Tryz.prog 99 [.bx (pn 0) 0,.c (.string (bs [58]))] [boxP y] (.c (.bool (isS y [58]))) [boxP y]:=fun hq => zAo (hEn hq).1 _
   have hnx : ∀ {n y},nameQ x = .ok (n,y) -> ACB EN5 Tryz.prog 103 [.bx (pn 0) 0] [boxP y] (.agg (tokC (hdT y))) [boxP (nxT y)]:=fun hq => zBI (hEn hq).1
   have hnm : ∀ {n y},nameQ x = .ok (n,y) -> ACE EN5 Tryz.prog 179 [.bx (pn 0) 0] [boxP (nxT y)] (outQ (fun n => .c (.string (bs n))) (nameQ (nxT y))):=fun hq => zCd (hEn hq).1.nx0
   cases hh : zDo x with
   | error e =>
     have k1 : ∀ {n y m z},nameQ x = .ok (n,y) -> isS y [58] = true -> nameQ (nxT y) = .ok (m,z) -> False:=fun h1 h2 h3 => by rw [hd_o1 h1 h2 h3] at hh; cases hh
     have k2 : ∀ {n y},nameQ x = .ok (n,y) -> isS y [58] = false -> False:=fun h1 h2 => by rw [hd_o2 h1 h2] at hh; cases hh
     have g1 : ∀ {e'},nameQ x = .error e' -> e' = e:=fun h1 => by rw [hd_e1 h1] at hh; cases hh; rfl
     have g2 : ∀ {n y e'},nameQ x = .ok (n,y) -> isS y [58] = true -> nameQ (nxT y) = .error e' -> e' = e:=fun h1 h2 h3 => by rw [hd_e2 h1 h2 h3] at hh; cases hh; rfl
     refine zAH (fn:=Tryz.f178) 86 Tryz.func178 rfl rfl ?_
     intro pas w0 w he hp
     repeat' (first
|apply zBs 8 ([(1,[5])]) ([(3,[1000000]),(5,[5]),(7,[5])]) rfl (by kernel_rfl) (by kernel_rfl) (by kernel_rfl)
|apply zGM
|apply zGL rfl
 . conv => lhs; whnf
 . conv => lhs; whnf; arg 2; whnf
|apply zCM rfl rfl rfl
 . conv => lhs; whnf
 . rfl
 . conv => lhs; whnf; arg 1; whnf
 . conv => lhs; whnf; arg 1; whnf
 . exact ⟨by kernel_rfl,by kernel_rfl⟩
 . rfl
|exact Or.inl ⟨pn 0,_,rfl⟩
|refine Or.inr ?_
|apply g_pr zi zN ([] : List UInt8) rfl
 . conv => lhs; whnf
 . conv => lhs; whnf
 . rfl
 . conv => lhs; whnf; arg 1; whnf
 . first | exact z7 _
 . first | exact hnm ‹_›
 . exact fun _ => rfl
 . first | (intro _ _; simp only [renL,renV,ren_cells]; done) | exact fun _ _ => rfl
 . rfl
 refine fun ee hq tm rs => ?_
 change _ = Out.die _
 rotate_left 1
 refine fun aa xx hq => ?_
 rotate_left 1
 refine fun ee hq => ?_
|show inO _ _ = true; rfl
|apply s_m zi zN rfl
 . conv => lhs; whnf
 . conv => lhs; whnf
 . rfl
 . conv => lhs; whnf; arg 1; whnf
 . first | exact z7 _
 . first | exact hs0 | exact hsg ‹_› | exact hnx ‹_›
 . exact fun _ => rfl
 . exact fun _ => rfl
|apply s_pr zi zN rfl
 . conv => lhs; whnf
 . conv => lhs; whnf
 . rfl
 . conv => lhs; whnf; arg 1; whnf
 . first | exact z7 _
 . first | exact hnm0
 . exact fun _ => rfl
 . first | (intro _ _; simp only [renL,renV,ren_cells]; done) | exact fun _ _ => rfl
 refine fun ee hq => ?_
 change _ = Out.die _
 rotate_left 1
 refine fun aa xx hq => ?_
 first | (replace hq:=zAh hq; obtain ⟨hq,rfl⟩:=hq) | (cases hq; have hq:=True.intro) | skip
|exact (kd ‹_›).elim
|exact (k1 ‹_› ‹_› ‹_›).elim
|exact (k2 ‹_› ‹_›).elim
|refine zA ?_
|refine zB ?_
|refine zG ?_
|apply aw_1
 conv => whnf
 refine ⟨?_,trivial⟩
|apply s_1
 conv => whnf; arg 1; arg 4; arg 3; whnf
 refine ⟨?_,?_⟩
|apply zI rfl rfl rfl
 . conv => lhs; whnf
 . conv => lhs; whnf; arg 1; whnf
 . conv => lhs; whnf; arg 1; whnf
 . exact ⟨by kernel_rfl,by kernel_rfl⟩
 . rfl
|refine zg (by conv => lhs; whnf) ?_ ?_ <;> intro hb
|exact trivial)
     all_goals first
      | (rw [g1 hq]; rfl)
      | (rename_i hq1 hb1; rw [g2 hq1 hb1 hq]; rfl)
      | (rename_i hq1; rw [g2 hq1 hb hq]; rfl)
      | skip
   | ok q =>
     obtain ⟨⟨al,nm⟩,z⟩:=q
     have k1 : ∀ {e'},nameQ x = .error e' -> False:=fun h1 => by rw [hd_e1 h1] at hh; cases hh
     have k2 : ∀ {n y e'},nameQ x = .ok (n,y) -> isS y [58] = true -> nameQ (nxT y) = .error e' -> False:=fun h1 h2 h3 => by rw [hd_e2 h1 h2 h3] at hh; cases hh
     have g1 : ∀ {n y m z'},nameQ x = .ok (n,y) -> isS y [58] = true -> nameQ (nxT y) = .ok (m,z') -> n = al /\ m = nm /\ z' = z:=fun h1 h2 h3 => by rw [hd_o1 h1 h2 h3] at hh; cases hh; exact ⟨rfl,rfl,rfl⟩
     have g2 : ∀ {n y},nameQ x = .ok (n,y) -> isS y [58] = false -> al = [] /\ n = nm /\ y = z:=fun h1 h2 => by rw [hd_o2 h1 h2] at hh; cases hh; exact ⟨rfl,rfl,rfl⟩
     have hz : En z /\ z.ts.length <= 99999:=by
      unfold zDo at hh
      cases h1 : nameQ x with
      | error e => rw [h1] at hh; cases hh
      | ok q =>
        obtain ⟨n,y⟩:=q
        rw [zR h1] at hh
        have hy:=hEn h1
        split at hh
        . rename_i hb
          cases h3 : nameQ (nxT y) with
          | error e => rw [h3] at hh; cases hh
          | ok q =>
            obtain ⟨m,z'⟩:=q
            rw [zR h3] at hh
            cases hh
            have h4:=hy.1.nx0.name h3
            exact ⟨h4.1,by have:=nx_len y; omega⟩
        . cases hh; exact hy
     have hat:=zJo z hz.1 (by omega)
     have hdt : ∀ {aa u},argsQ z = .ok (aa,u) -> ACE EN5 Tryz.prog 255 [.bx (pn 0) 0] [boxP u] (outQ (fun l => .sl 150 l) (dirsQ u)):=fun hq => zEI _ (hz.1.args hq).1 (by have:=hz.1.args hq; omega)
     have hE2 : ∀ {aa u ds o},argsQ z = .ok (aa,u) -> dirsQ u = .ok (ds,o) -> En o /\ o.ts.length <= 100000:=fun h1 h2 => ⟨((hz.1.args h1).1.dirs h2).1,by have:=hz.1.args h1; have:=this.1.dirs h2; omega⟩
     have hsg2 : ∀ {aa u ds o},argsQ z = .ok (aa,u) -> dirsQ u = .ok (ds,o) -> ACB EN5 Tryz.prog 99 [.bx (pn 0) 0,.c (.string (bs [123]))] [boxP o] (.c (.bool (isS o [123]))) [boxP o]:=fun h1 h2 => zAo (hE2 h1 h2).1 _
     have hss : ∀ {aa u ds o},argsQ z = .ok (aa,u) -> dirsQ u = .ok (ds,o) -> ACE EN5 Tryz.prog 102 [.bx (pn 0) 0,.c (.int .i64 ((lv + 1 : Nat) : Int))] [boxP o] (outQ (fun l => .sl 76 l) (selsQ f (lv + 1) o)):=fun h1 h2 => hsels _ (hE2 h1 h2).1 (hE2 h1 h2).2
     have e1 : zX (Except.ok ((al,nm),z)) (fun an z => selT3 (selsQ f (lv + 1)) an.1 an.2 z) = selT3 (selsQ f (lv + 1)) al nm z:=rfl
     rw [e1]
     clear e1
     refine zAH (fn:=Tryz.f178) 86 Tryz.func178 rfl rfl ?_
     intro pas w0 w he hp
     repeat' (first
|apply zAL (VS (selD 1 al nm [] _ _ _)) rfl rfl
 . conv => lhs; whnf; arg 2; whnf
 . repeat' (first | exact VLe.refl _ | exact VLe.nil _ | exact VLe.lit _ _ | exact VLe.own _ _ _ | apply VLe.agg | apply VLeL.cons | exact VLeL.nil)
|apply zBs 8 ([(1,[5])]) ([(3,[1000000]),(5,[5]),(7,[5])]) rfl (by kernel_rfl) (by kernel_rfl) (by kernel_rfl)
|apply zGM
|apply zGL rfl
 . conv => lhs; whnf
 . conv => lhs; whnf; arg 2; whnf
|apply zCM rfl rfl rfl
 . conv => lhs; whnf
 . rfl
 . conv => lhs; whnf; arg 1; whnf
 . conv => lhs; whnf; arg 1; whnf
 . exact ⟨by kernel_rfl,by kernel_rfl⟩
 . rfl
|exact Or.inl ⟨pn 0,_,rfl⟩
|refine Or.inr ?_
|apply g_pr zi zN ([] : List UInt8) rfl
 . conv => lhs; whnf
 . conv => lhs; whnf
 . rfl
 . conv => lhs; whnf; arg 1; whnf
 . first | exact z7 _
 . first | exact hnm ‹_›
 . exact fun _ => rfl
 . first | (intro _ _; simp only [renL,renV,ren_cells]; done) | exact fun _ _ => rfl
 . rfl
 refine fun ee hq tm rs => ?_
 change _ = Out.die _
 rotate_left 1
 refine fun aa xx hq => ?_
 rotate_left 1
 refine fun ee hq => ?_
|show inO _ _ = true; rfl
|apply s_m zi zN rfl
 . conv => lhs; whnf
 . conv => lhs; whnf
 . rfl
 . conv => lhs; whnf; arg 1; whnf
 . first | exact z7 _
 . first | exact hs0 | exact hsg ‹_› | exact hnx ‹_› | exact hsg2 ‹_› ‹_›
 . exact fun _ => rfl
 . exact fun _ => rfl
|apply s_pr zi zN rfl
 . conv => lhs; whnf
 . conv => lhs; whnf
 . rfl
 . conv => lhs; whnf; arg 1; whnf
 . first | exact z7 _
 . first | exact hnm0 | exact hat | exact hdt ‹_› | exact hss ‹_› ‹_›
 . exact fun _ => rfl
 . first | (intro _ _; simp only [renL,renV,ren_cells]; done) | exact fun _ _ => rfl
 refine fun ee hq => ?_
 change _ = Out.die _
 rotate_left 1
 refine fun aa xx hq => ?_
 first | (replace hq:=zAh hq; obtain ⟨hq,rfl⟩:=hq) | (cases hq; have hq:=True.intro) | skip
|exact (kd ‹_›).elim
|apply zAw 6 (HsB lv al nm z) rfl
|refine zHN ?_
|refine zA ?_
|refine zB ?_
|refine zG ?_
|apply aw_1
 conv => whnf
 refine ⟨?_,trivial⟩
|apply s_1
 conv => whnf; arg 1; arg 4; arg 3; whnf
 refine ⟨?_,?_⟩
|apply zI rfl rfl rfl
 . conv => lhs; whnf
 . conv => lhs; whnf; arg 1; whnf
 . conv => lhs; whnf; arg 1; whnf
 . exact ⟨by kernel_rfl,by kernel_rfl⟩
 . rfl
|refine zg (by conv => lhs; whnf) ?_ ?_ <;> intro hb
|refine zU ?_
|apply zAM rfl
 . conv => lhs; whnf; arg 2; whnf
 . conv => lhs; whnf; arg 1; whnf
|exact trivial)
     all_goals first
      | exact zS (by omega)
      | exact (k1 hq).elim
      | exact (k2 ‹_› ‹_› hq).elim
      | (obtain ⟨rfl,rfl,rfl⟩:=g1 ‹_› ‹_› hq
         exact Sub.live ⟨rfl,rfl,rfl,rfl,trivial⟩ ⟨rfl,rfl,rfl,trivial⟩)
      | (obtain ⟨rfl,rfl,rfl⟩:=g2 hq ‹_›
         exact Sub.live ⟨rfl,rfl,rfl,rfl,trivial⟩ ⟨rfl,rfl,rfl,trivial⟩)
      | (unfold selT3; rw [then_err (r:=argsQ _) hq]; rfl)
      | (unfold selT3; rename_i h1; rw [zR (r:=argsQ _) h1,then_err (r:=dirsQ _) hq]; rfl)
      | (unfold selT3; rename_i h1; rw [zR (r:=argsQ _) h1,zR (r:=dirsQ _) hq,if_neg (by rw [hb]; decide)]; rfl)
      | (unfold selT3; rename_i h1 h2; rw [zR (r:=argsQ _) h1,zR (r:=dirsQ _) h2,if_pos hb,then_err hq]; rfl)
      | (unfold selT3; rename_i h1 _ _ h2; rw [zR (r:=argsQ _) h1,zR (r:=dirsQ _) h2,if_pos hb,zR hq]; rfl)
      | skip
theorem En.selL {f lv : Nat} {x y : PS} {v : D} (h : En x) (hq : selQ (selsQ f lv) x = .ok (v,y)) : En y /\ y.ts.length < x.ts.length:=by
 refine ⟨(h.sel hq).1,?_⟩
 by_cases hd : isS x [46,46,46] = true
 . have hx:=h.sg hd
   have:=(hx.1.lo (p:=fun y => if (hdT y).k = 2 /\ (hdT y).s ≠ onT then zX (dirsQ (nxT y)) fun ds z => .ok (selD 2 [] (hdT y).s [] [] ds [],z) else zX (if (hdT y).k = 2 then nameQ (nxT y) else .ok ([],y)) fun on z => zX (dirsQ z) fun ds u => zX (selsQ f lv u) fun ss o => .ok (selD 3 [] [] on [] ds ss,o)) (fun {e} {a} {x} {x'} hE h' => by
    refine .ite (fun ha => by rw [h'.hd ha]) (fun hk => ?_) fun _ => ?_
    . obtain ⟨t2,a2,rfl,h2⟩:=h'.ne_of_k hE (by rw [hk.1]; decide)
      rw [h'.hd (by simp)]
      exact LO.mono (b:=a2) (.then (zDL hE h2) fun _ _ _ _ hz => .okk hz _) ⟨[t2],rfl⟩
    . refine .then (.ite (fun ha => by rw [h'.hd ha]) (fun hk => ?_) fun _ => .okk h' _) fun _ _ _ _ hz => .then (zDL hE hz) fun _ _ _ _ hu => .then (zDg hE f lv hu).lo fun _ _ _ _ ho => .okk ho _
      obtain ⟨t2,a2,rfl,h2⟩:=h'.ne_of_k hE (by rw [hk]; decide)
      exact (zA7 hE h2).lo.mono ⟨[t2],rfl⟩) (by unfold selQ at hq; rw [if_pos hd] at hq; exact hq)).2
   exact Nat.lt_of_le_of_lt this hx.2
 . have hd : isS x [46,46,46] = false:=by simpa using hd
   rw [se_n hd] at hq
   unfold zDo at hq
   cases h1 : nameQ x with
   | error e => rw [h1] at hq; cases hq
   | ok q =>
     obtain ⟨n,y1⟩:=q
     rw [zR h1] at hq
     have hy:=h.name h1
     have h3 : ∀ {al nm z},En z -> z.ts.length < x.ts.length -> selT3 (selsQ f lv) al nm z = .ok (v,y) -> y.ts.length < x.ts.length:=fun {al nm z} hz hl hq => by
      have:=(hz.lo (p:=selT3 (selsQ f lv) al nm) (fun hE h => .then (zGj hE h) fun _ _ _ _ hu => .then (zDL hE hu) fun _ _ _ _ hw => .then (.ite (hw.sg _) (fun _ => (zDg hE f lv hw).lo) fun _ => .okk hw _) fun _ _ _ _ ho => .okk ho _) hq).2
      omega
     split at hq
     . cases h4 : nameQ (nxT y1) with
       | error e => rw [h4] at hq; cases hq
       | ok q =>
         obtain ⟨m,z⟩:=q
         rw [zR h4] at hq
         have hz:=hy.1.nx0.name h4
         exact h3 hz.1 (by have:=nx_len y1; omega) hq
     . exact h3 hy.1 hy.2 hq
noncomputable def HsL (lv : Nat) (y : PS) (acc : List D) : Vst 54:=
 stS 54 [(0,.bx (pn 0) 0),(1,.c (.int .i64 (lv : Int))),(5,.own 5 76 acc)] [(pn 0,boxP y),(5,.tok 76 acc.length)]
section
variable {v : PS -> PR D} {j : Nat} {acc : List D} {z y : PS} {e : Nat × Int} {a : D}
theorem sl_end (h0 : acc.length ≠ 0) (h : isS z [125] = true) : setF v (j + 1) acc z = .ok (acc,nxT z):=by rw [setF,if_pos ⟨h0,h⟩]
theorem sl_go (h : acc.length = 0 \/ isS z [125] = false) : setF v (j + 1) acc z = if ((hdT z).k = 2 \/ isS z [46,46,46] = true) /\ 64 <= acc.length then .error ((hdT z).i,4) else zX (v z) fun s y => setF v j (acc ++ [s]) y:=by
 rw [setF,if_neg (fun hh => by rcases h with h | h; exact hh.1 h; rw [h] at hh; cases hh.2)]
theorem sl_lim (h : acc.length = 0 \/ isS z [125] = false) (hk : (hdT z).k = 2 \/ isS z [46,46,46] = true) (hl : 64 <= acc.length) : setF v (j + 1) acc z = .error ((hdT z).i,4):=by rw [sl_go h,if_pos ⟨hk,hl⟩]
theorem sl_err (h : acc.length = 0 \/ isS z [125] = false) (hl : ((hdT z).k = 2 \/ isS z [46,46,46] = true) -> acc.length < 64) (h1 : v z = .error e) : setF v (j + 1) acc z = .error e:=by rw [sl_go h,if_neg (fun hh => by have:=hl hh.1; omega),then_err h1]
theorem sl_ok (h : acc.length = 0 \/ isS z [125] = false) (hl : ((hdT z).k = 2 \/ isS z [46,46,46] = true) -> acc.length < 64) (h1 : v z = .ok (a,y)) : setF v (j + 1) acc z = setF v j (acc ++ [a]) y:=by rw [sl_go h,if_neg (fun hh => by have:=hl hh.1; omega),zR h1]
end
theorem zIn : ∀ (f lv : Nat) (x : PS),En x -> x.ts.length <= 100000 -> f + lv = 26 -> lv <= 25 -> ACE EN5 Tryz.prog 102 [.bx (pn 0) 0,.c (.int .i64 (lv : Int))] [boxP x] (outQ (fun l => .sl 76 l) (selsQ f lv x))
 | 0,lv,x,h,hlen,hf,h25 => by omega
 | f + 1,lv,x,h,hlen,hf,h25 => by
   have ih : lv <= 24 -> ∀ x,En x -> x.ts.length <= 100000 -> ACE EN5 Tryz.prog 178 [.bx (pn 0) 0,.c (.int .i64 (lv : Int))] [boxP x] (outQ VS (selQ (selsQ f (lv + 1)) x)):=fun h24 x hx hl =>
    sel_ace f lv (fun x hx hl => zIn f (lv + 1) x hx hl (by omega) (by omega)) (by omega) x hx hl
   have hs:=zAo h [123]
   have ht1:=zFF h [123]
   have hf5:=zBB (hdT x) 5
   have e0 : selsQ (f + 1) lv x = if isS x [123] = true /\ 24 < lv then .error ((hdT x).i,5) else zX (takeQ [123] x) fun _ y => setF (selQ (selsQ f (lv + 1))) (y.ts.length + 1) [] y:=rfl
   obtain ⟨t,r,ht⟩:=h.cons
   have hh:=zAn ht
   rw [hh] at hf5
   obtain ⟨ts,vr,nd⟩:=x
   cases ht
   refine zAH (fn:=Tryz.f102) 54 Tryz.func102 rfl rfl ?_
   intro pas w0 w he hp
   have K0 : (isS ⟨t :: r,vr,nd⟩ [123] == true) = false -> ∀ {u y},takeQ [123] ⟨t :: r,vr,nd⟩ = .ok (u,y) -> False:=fun h1 u y h2 => by
    unfold takeQ at h2
    rw [if_neg (by simpa using h1)] at h2; cases h2
   have G1 : (isS ⟨t :: r,vr,nd⟩ [123] == true) = true -> decide ((lv : Int) > 24) = true -> selsQ (f + 1) lv ⟨t :: r,vr,nd⟩ = .error (t.i,5):=fun h1 h2 => by
    rw [e0,if_pos ⟨by simpa using h1,by simp at h2; omega⟩,hh]
   have G2 : ((isS ⟨t :: r,vr,nd⟩ [123] == true) = true -> decide ((lv : Int) > 24) = false) -> selsQ (f + 1) lv ⟨t :: r,vr,nd⟩ = zX (takeQ [123] ⟨t :: r,vr,nd⟩) fun _ y => setF (selQ (selsQ f (lv + 1))) (y.ts.length + 1) [] y:=fun h1 => by
    rw [e0,if_neg (fun hh => by have:=h1 (by simpa using hh.1); simp at this; omega)]
   repeat' (first
|apply s_m zi zN rfl
 . conv => lhs; whnf
 . conv => lhs; whnf
 . rfl
 . conv => lhs; whnf; arg 1; whnf
 . first | exact z7 _
 . first | exact hs
 . exact fun _ => rfl
 . exact fun _ => rfl
|apply zd rfl
 . conv => lhs; whnf
 . conv => lhs; whnf
 . first | rfl | assumption
|apply s_pr zi zN rfl
 . conv => lhs; whnf
 . conv => lhs; whnf
 . rfl
 . conv => lhs; whnf; arg 1; whnf
 . first | exact z7 _
 . first | exact ht1
 . exact fun _ => rfl
 . first | (intro _ _; simp only [renL,renV,ren_cells]; done) | exact fun _ _ => rfl
 refine fun ee hq => ?_
 change _ = Out.die _
 rotate_left 1
 refine fun aa xx hq => ?_
 first | (replace hq:=zAh hq; obtain ⟨hq,rfl⟩:=hq) | (cases hq; have hq:=True.intro) | skip
|apply zCb rfl
 . conv => lhs; whnf
 . first | exact hf5
 . first | exact fun _ => rfl | (intro _; simp only [renL,renV,ren_cells])
 change _ = Out.die _
|exact (K0 ‹_› ‹_›).elim
|refine zA ?_
|refine zB ?_
|refine zG ?_
|apply aw_1
 conv => whnf
 refine ⟨?_,trivial⟩
|apply zY rfl rfl
 . conv => lhs; whnf
 . conv => lhs; whnf
 . first | exact bT1 ‹_› | exact bT2 ‹_›
|apply zV rfl rfl
 . conv => lhs; whnf
 . conv => lhs; whnf
 . first | exact bF1 ‹_› | exact bF2 ‹_›
|apply s_1
 conv => whnf; arg 1; arg 4; arg 3; whnf
 refine ⟨?_,?_⟩
|apply zD rfl
 . conv => lhs; whnf
 . conv => lhs; whnf
 . first | rfl | assumption
 . conv => lhs; whnf; arg 2; whnf
|apply zT rfl
 . conv => lhs; whnf
 . conv => lhs; whnf
 . conv => lhs; whnf; arg 2; whnf
|refine zg (by conv => lhs; whnf) ?_ ?_ <;> intro hb
|exact trivial
|intro hg)
   all_goals first
    | exact zBu _ _
    | exact (K0 ‹_› ‹_›).elim
    | (rw [G1 ‹_› ‹_›]; rfl)
    | (rw [G2 (fun _ => by assumption),then_err hq]; rfl)
    | (rename_i hgg; rw [G2 (fun h => by rw [hgg] at h; cases h),then_err hq]; rfl)
    | (rw [G2 (fun h => by rw [hg] at h; cases h),then_err hq]; rfl)
    | skip
   have h24 : lv <= 24:=by have g : decide ((lv : Int) > 24) = false:=by assumption
                           simp at g; omega
   rw [G2 (fun _ => by assumption),zR hq]
   have hx:=h.take hq
   have hv:=ih h24
   clear ih hs ht1 hf5 K0 G1 G2 e0
   refine zn (Sub.own (t:=5) (e:=76) rfl rfl) ?_
   refine zu (fun j st => ∃ z acc,En z /\ z.ts.length < j /\ acc.length + z.ts.length <= xx.ts.length /\ setF (selQ (selsQ f (lv + 1))) (xx.ts.length + 1) [] xx = setF (selQ (selsQ f (lv + 1))) j acc z /\ Sub (cxE EN5 Tryz.prog pas w0 w he hp (outQ (fun l => V.sl 76 l) (setF (selQ (selsQ f (lv + 1))) (xx.ts.length + 1) [] xx))) st (HsL lv z acc)) (xx.ts.length + 1) ⟨xx,[],hx.1,by omega,by simp,rfl,?_⟩ ?_
   . exact Sub.live ⟨rfl,rfl,rfl,trivial⟩ ⟨rfl,rfl,trivial⟩
   rintro j st ⟨z,acc,hz,hzj,hzl,hI,hsub⟩
   refine zn hsub ?_
   clear hsub
   rw [hI]
   clear hI hh
   have hlz : z.ts.length <= 100000:=by omega
   cases j with
   | zero => omega
   | succ j =>
   obtain ⟨t2,r2,ht2⟩:=hz.cons
   have hs1:=zAo hz [125]
   have hs2:=zAo hz [46,46,46]
   have hn:=zBI hz
   have hli:=zDn hz acc.length 64
   have hvz:=hv z hz hlz
   have hh:=zAn ht2
   obtain ⟨zts,zvr,znd⟩:=z
   cases ht2
   have A1 : (((acc.length : Int) == 0) == false) = false -> acc.length = 0 \/ isS ⟨t2 :: r2,zvr,znd⟩ [125] = false:=fun h => .inl (by simp at h; simp [h])
   have A2 : (!isS ⟨t2 :: r2,zvr,znd⟩ [125]) = true -> acc.length = 0 \/ isS ⟨t2 :: r2,zvr,znd⟩ [125] = false:=fun h => .inr (by simpa using h)
   have E2 : (!isS ⟨t2 :: r2,zvr,znd⟩ [125]) = false -> isS ⟨t2 :: r2,zvr,znd⟩ [125] = true:=fun h => by simpa using h
   have E1 : (((acc.length : Int) == 0) == false) = true -> acc.length ≠ 0:=fun h => by simp at h; intro h2; rw [List.eq_nil_of_length_eq_zero h2] at h; exact h rfl
   have B1 : ((t2.k == 2) == false) = false -> (hdT ⟨t2 :: r2,zvr,znd⟩).k = 2 \/ isS ⟨t2 :: r2,zvr,znd⟩ [46,46,46] = true:=fun h => .inl (by rw [hh]; simpa using h)
   have B2 : isS ⟨t2 :: r2,zvr,znd⟩ [46,46,46] = true -> (hdT ⟨t2 :: r2,zvr,znd⟩).k = 2 \/ isS ⟨t2 :: r2,zvr,znd⟩ [46,46,46] = true:=fun h => .inr h
   have L1 : acc.length < 64 -> (hdT ⟨t2 :: r2,zvr,znd⟩).k = 2 \/ isS ⟨t2 :: r2,zvr,znd⟩ [46,46,46] = true -> acc.length < 64:=fun h _ => h
   have L2 : ((t2.k == 2) == false) = true -> isS ⟨t2 :: r2,zvr,znd⟩ [46,46,46] = false -> (hdT ⟨t2 :: r2,zvr,znd⟩).k = 2 \/ isS ⟨t2 :: r2,zvr,znd⟩ [46,46,46] = true -> acc.length < 64:=fun h1 h2 h3 => by
    rw [hh] at h3; rcases h3 with h3 | h3
    . rw [h3] at h1; cases h1
    . rw [h2] at h3; cases h3
   repeat' (first
|apply s_m zi zN rfl
 . conv => lhs; whnf
 . conv => lhs; whnf
 . rfl
 . conv => lhs; whnf; arg 1; whnf
 . first | exact z7 _
 . first | exact hs1 | exact hs2 | exact hn
 . exact fun _ => rfl
 . exact fun _ => rfl
|apply zj zi zN rfl
 . conv => lhs; whnf
 . conv => lhs; whnf
 . first | rfl | assumption
 . conv => lhs; whnf
 . rfl
 . conv => lhs; whnf; arg 1; whnf
 . first | exact z7 _
 . first | exact hs1 | exact hs2 | exact hn
 . exact fun _ => rfl
 . exact fun _ => rfl
|apply zd rfl
 . conv => lhs; whnf
 . conv => lhs; whnf
 . first | rfl | assumption
|apply s_pr zi zN rfl
 . conv => lhs; whnf
 . conv => lhs; whnf
 . rfl
 . conv => lhs; whnf; arg 1; whnf
 . first | exact z7 _
 . first | exact hli | exact hvz
 . exact fun _ => rfl
 . first | (intro _ _; simp only [renL,renV,ren_cells]; done) | exact fun _ _ => rfl
 refine fun ee hq => ?_
 change _ = Out.die _
 rotate_left 1
 refine fun aa xx hq => ?_
 first | (replace hq:=zAh hq; obtain ⟨hq,rfl⟩:=hq) | (cases hq; have hq:=True.intro) | skip
|apply zBP [aa] rfl rfl
 . conv => lhs; whnf
 . first | exact zBW | (conv => lhs; whnf; arg 1; whnf)
 . rfl
 . rfl
 . repeat' (first | exact trivial | apply And.intro | rfl)
|refine zA ?_
|refine zB ?_
|refine zG ?_
|refine zb ?_
|apply aw_1
 conv => whnf
 refine ⟨?_,trivial⟩
|apply zY rfl rfl
 . conv => lhs; whnf
 . conv => lhs; whnf
 . first | exact bT1 ‹_› | exact bT2 ‹_›
|apply zV rfl rfl
 . conv => lhs; whnf
 . conv => lhs; whnf
 . first | exact bF1 ‹_› | exact bF2 ‹_›
|apply s_1
 conv => whnf; arg 1; arg 4; arg 3; whnf
 refine ⟨?_,?_⟩
|apply zBQ rfl rfl
 . conv => lhs; whnf
 . first | exact zBW | (conv => lhs; whnf; arg 1; whnf)
 . first | exact fun _ => rfl | (intro _; kernel_rfl)
 . conv => lhs; whnf
 . conv => lhs; whnf; arg 1; whnf
 . conv => lhs; whnf
|apply zD rfl
 . conv => lhs; whnf
 . conv => lhs; whnf
 . first | rfl | assumption
 . conv => lhs; whnf; arg 2; whnf
|apply zT rfl
 . conv => lhs; whnf
 . conv => lhs; whnf
 . conv => lhs; whnf; arg 2; whnf
|refine zg (by conv => lhs; whnf) ?_ ?_ <;> intro hb
|refine zP ?_
|refine zM rfl ?_
|refine zW ?_
|apply zAM rfl
 . conv => lhs; whnf; arg 2; whnf
 . conv => lhs; whnf; arg 1; whnf
|exact trivial
|intro hg)
   all_goals first
    | exact zBu _ _
    | (refine ⟨by simp,?_,?_⟩ <;> simp only [List.length_cons,List.length_nil,maxLen] <;> omega)
    | (rw [sl_end (E1 ‹_›) (E2 ‹_›)]; rfl)
    | (have hA : acc.length = 0 \/ isS ⟨t2 :: r2,zvr,znd⟩ [125] = false:=by first | exact A1 ‹_› | exact A2 ‹_›
       first
        | (have hB : (hdT ⟨t2 :: r2,zvr,znd⟩).k = 2 \/ isS ⟨t2 :: r2,zvr,znd⟩ [46,46,46] = true:=by first | exact B1 ‹_› | exact B2 ‹_›
           rw [sl_lim hA hB (zAx hq).1,(zAx hq).2]; rfl)
        | (have hL : (hdT ⟨t2 :: r2,zvr,znd⟩).k = 2 \/ isS ⟨t2 :: r2,zvr,znd⟩ [46,46,46] = true -> acc.length < 64:=by first | exact L1 ‹_› | exact L2 ‹_› ‹_›
           first
            | (rw [sl_err hA hL hq]; rfl)
            | (have l3:=hz.selL hq
               refine zL (j':=j) (by omega) ⟨xx,acc ++ [aa],l3.1,by omega,by rw [List.length_append]; simp only [List.length_cons,List.length_nil]; omega,sl_ok hA hL hq,Sub.live ⟨rfl,rfl,rfl,trivial⟩ ⟨rfl,?_,trivial⟩⟩
               show some (Res.tok _ (acc.length + 1)) = some (Res.tok _ (acc ++ [aa]).length)
               rw [List.length_append]; rfl)))
    | skip
noncomputable def VVr (d : D) : V:=.agg (cellsV Tryz.prog 12 88 d)
noncomputable def VO (d : D) : V:=.agg (cellsV Tryz.prog 12 57 d)
noncomputable def VF (d : D) : V:=.agg (cellsV Tryz.prog 12 116 d)
theorem zGT : z6 Tryz.prog 54 = some (88,144):=by kernel_rfl
noncomputable def HoA (k : Int) (n : List UInt8) (z : PS) : Vst 77:=
 stS 77 [(0,.bx (pn 0) 0),(4,.bx 4 0),(5,.bx 5 0)] [(pn 0,boxP z),(4,.box 57 [.c (.int .i64 0),.c (.string ⟨#[]⟩),.c (.slice none 0 0),.c (.slice none 0 0)]),(5,.box 57 [.c (.int .i64 k),.c (.string (bs n)),.c (.slice none 0 0),.c (.slice none 0 0)])]
noncomputable def HoV (k : Int) (n : List UInt8) (z : PS) (acc : List D) : Vst 77:=
 stS 77 [(0,.bx (pn 0) 0),(4,.bx 4 0),(5,.bx 5 0)] [(pn 0,boxP z),(4,.box 57 [.c (.int .i64 0),.c (.string ⟨#[]⟩),.c (.slice none 0 0),.c (.slice none 0 0)]),(5,.box 57 [.c (.int .i64 k),.c (.string (bs n)),.own 903 88 acc,.c (.slice none 0 0)]),(903,.tok 88 acc.length)]
def defQ (v : PS) : PR (Bool × D):=if isS v [61] = true then zX (zAR { nxT v with vr:=false }) fun d o => .ok ((true,d),{ o with vr:=true }) else .ok ((false,zBG),v)
def varQ (x : PS) : PR D:=
 zX (takeQ [36] x) fun _ y => zX (nameQ y) fun n z => zX (takeQ [58] z) fun _ u => zX (typQ u) fun t v => zX (defQ v) fun d o => .ok (varD n t d.1 d.2,o)
section
variable {j : Nat} {acc : List D} {x y z u v o : PS} {n : List UInt8} {e : Nat × Int} {t d : D} {q1 q2 : Unit}
theorem zGq (h0 : acc.length ≠ 0) (h : isS x [41] = true) : varsF (j + 1) acc x = .ok (acc,nxT x):=by rw [varsF,if_pos ⟨h0,h⟩]
theorem zGp (h0 : ¬ (acc.length ≠ 0 /\ isS x [41] = true)) (h : isS x [36] = true /\ 16 <= acc.length) : varsF (j + 1) acc x = .error ((hdT x).i,4):=by rw [varsF,if_neg h0,if_pos h]
theorem then_then {α β γ : Type} (r : PR α) (f : α -> PS -> PR β) (g : β -> PS -> PR γ) : zX (zX r f) g = zX r fun a x => zX (f a x) g:=by
 cases r with
 | error e => rfl
 | ok q => rfl
theorem vl_go (h0 : ¬ (acc.length ≠ 0 /\ isS x [41] = true)) (h : ¬ (isS x [36] = true /\ 16 <= acc.length)) : varsF (j + 1) acc x = zX (varQ x) fun a y => varsF j (acc ++ [a]) y:=by
 rw [varsF,if_neg h0,if_neg h]
 unfold varQ
 simp only [then_then]
 rfl
theorem va_1 (h1 : takeQ [36] x = .error e) : varQ x = .error e:=by rw [varQ,then_err h1]
theorem va_2 (h1 : takeQ [36] x = .ok (q1,y)) (h2 : nameQ y = .error e) : varQ x = .error e:=by rw [varQ,zR h1,then_err h2]
theorem va_3 (h1 : takeQ [36] x = .ok (q1,y)) (h2 : nameQ y = .ok (n,z)) (h3 : takeQ [58] z = .error e) : varQ x = .error e:=by rw [varQ,zR h1,zR h2,then_err h3]
theorem va_4 (h1 : takeQ [36] x = .ok (q1,y)) (h2 : nameQ y = .ok (n,z)) (h3 : takeQ [58] z = .ok (q2,u)) (h4 : typQ u = .error e) : varQ x = .error e:=by rw [varQ,zR h1,zR h2,zR h3,then_err h4]
theorem va_5 (h1 : takeQ [36] x = .ok (q1,y)) (h2 : nameQ y = .ok (n,z)) (h3 : takeQ [58] z = .ok (q2,u)) (h4 : typQ u = .ok (t,v)) (h5 : isS v [61] = true) (h6 : zAR { nxT v with vr:=false } = .error e) : varQ x = .error e:=by
 rw [varQ,zR h1,zR h2,zR h3,zR h4,defQ,if_pos h5,then_err h6]; rfl
theorem va_6 (h1 : takeQ [36] x = .ok (q1,y)) (h2 : nameQ y = .ok (n,z)) (h3 : takeQ [58] z = .ok (q2,u)) (h4 : typQ u = .ok (t,v)) (h5 : isS v [61] = true) (h6 : zAR { nxT v with vr:=false } = .ok (d,o)) : varQ x = .ok (varD n t true d,{ o with vr:=true }):=by
 rw [varQ,zR h1,zR h2,zR h3,zR h4,defQ,if_pos h5,zR h6]; rfl
theorem va_7 (h1 : takeQ [36] x = .ok (q1,y)) (h2 : nameQ y = .ok (n,z)) (h3 : takeQ [58] z = .ok (q2,u)) (h4 : typQ u = .ok (t,v)) (h5 : isS v [61] = false) : varQ x = .ok (varD n t false zBG,v):=by
 rw [varQ,zR h1,zR h2,zR h3,zR h4,defQ,if_neg (by rw [h5]; decide)]; rfl
end
def opT2 (k : Int) (n : List UInt8) (y : PS) : PR D:=
 zX (if isS y [40] = true then varsF y.ts.length [] (nxT y) else .ok ([],y)) fun vs z => zX (setQ z) fun ss u => .ok (opD k n vs ss,u)
theorem zFu (x : PS) (h : En x) (hlen : x.ts.length <= 100000) : ACE EN5 Tryz.prog 102 [.bx (pn 0) 0,.c (.int .i64 1)] [boxP x] (outQ (fun l => .sl 76 l) (setQ x)):=zIn 25 1 x h hlen rfl (by omega)
theorem op_ace (k : Int) (x : PS) (h : En x) (hlen : x.ts.length <= 100000) : ACE EN5 Tryz.prog 104 [.bx (pn 0) 0,.c (.int .i64 k)] [boxP x] (outQ VO (opQ k x)):=by
 obtain ⟨n,y,hny,hy,hyl⟩ : ∃ n y,(if (hdT x).k = 2 then (.ok ((hdT x).s,nxT x) : PR (List UInt8)) else .ok ([],x)) = .ok (n,y) /\ En y /\ y.ts.length <= x.ts.length:=by
  by_cases hk : (hdT x).k = 2
  . exact ⟨_,_,if_pos hk,h.nx0,nx_len x⟩
  . exact ⟨_,_,if_neg hk,h,Nat.le_refl _⟩
 have e0 : opQ k x = opT2 k n y:=by
  unfold opQ
  rw [hny]; rfl
 rw [e0]
 clear e0
 have hn0:=zBI h
 have hs1:=zAo hy [40]
 have hn1:=zBI hy
 have hse:=zFu y hy (by omega)
 obtain ⟨t,r,ht⟩:=h.cons
 have hh:=zAn ht
 rw [hh] at hn0 hny
 have g1 : (t.k == 2) = true -> n = t.s /\ y = nxT x:=fun hk => by rw [if_pos (by simpa using hk)] at hny; cases hny; exact ⟨rfl,rfl⟩
 have g2 : (t.k == 2) = false -> n = [] /\ y = x:=fun hk => by rw [if_neg (by simpa using hk)] at hny; cases hny; exact ⟨rfl,rfl⟩
 obtain ⟨ts,vr,nd⟩:=x
 cases ht
 refine zAH (fn:=Tryz.f104) 77 Tryz.func104 rfl rfl ?_
 intro pas w0 w he hp
 repeat' (first
|apply zAL (VO (opD k n [] _)) rfl rfl
 . conv => lhs; whnf; arg 2; whnf
 . repeat' (first | exact VLe.refl _ | exact VLe.nil _ | exact VLe.lit _ _ | exact VLe.own _ _ _ | apply VLe.agg | apply VLeL.cons | exact VLeL.nil)
|apply s_m zi zN rfl
 . conv => lhs; whnf
 . conv => lhs; whnf
 . rfl
 . conv => lhs; whnf; arg 1; whnf
 . first | exact z7 _
 . first | exact hn0 | exact hs1 | exact hn1
 . exact fun _ => rfl
 . exact fun _ => rfl
|apply s_pr zi zN rfl
 . conv => lhs; whnf
 . conv => lhs; whnf
 . rfl
 . conv => lhs; whnf; arg 1; whnf
 . first | exact z7 _
 . first | exact hse
 . exact fun _ => rfl
 . first | (intro _ _; simp only [renL,renV,ren_cells]; done) | exact fun _ _ => rfl
 refine fun ee hq => ?_
 change _ = Out.die _
 rotate_left 1
 refine fun aa xx hq => ?_
 first | (replace hq:=zAh hq; obtain ⟨hq,rfl⟩:=hq) | (cases hq; have hq:=True.intro) | skip
|apply zAw 4 (HoA k n y) rfl
|refine zHN ?_
|refine zA ?_
|refine zB ?_
|refine zG ?_
|apply aw_1
 conv => whnf
 refine ⟨?_,trivial⟩
|apply s_1
 conv => whnf; arg 1; arg 4; arg 3; whnf
 refine ⟨?_,?_⟩
|apply zI rfl rfl rfl
 . conv => lhs; whnf
 . conv => lhs; whnf; arg 1; whnf
 . conv => lhs; whnf; arg 1; whnf
 . exact ⟨by kernel_rfl,by kernel_rfl⟩
 . rfl
|refine zg (by conv => lhs; whnf) ?_ ?_ <;> intro hb
|apply zAM rfl
 . conv => lhs; whnf; arg 2; whnf
 . conv => lhs; whnf; arg 1; whnf
|exact trivial)
 all_goals first
  | exact zBu _ _
  | (obtain ⟨rfl,rfl⟩:=g1 ‹_›
     exact Sub.live ⟨rfl,rfl,rfl,trivial⟩ ⟨rfl,rfl,rfl,trivial⟩)
  | (obtain ⟨rfl,rfl⟩:=g2 ‹_›
     exact Sub.live ⟨rfl,rfl,rfl,trivial⟩ ⟨rfl,rfl,rfl,trivial⟩)
  | (rw [opT2,if_neg (by rw [hb]; decide)]
     first
      | (rw [zR (r:=Except.ok ([],y)) rfl,zR hq]; rfl)
      | (rw [zR (r:=Except.ok ([],y)) rfl,then_err hq]; rfl))
  | skip
 have hx:=hy.sg hb
 have e1 : opT2 k n y = zX (varsF y.ts.length [] (nxT y)) fun vs z => zX (setQ z) fun ss u => .ok (opD k n vs ss,u):=by rw [opT2,if_pos hb]
 rw [e1]
 have hyl2 : y.ts.length <= 100000:=by omega
 clear e1 hn0 hs1 hn1 hse g1 g2 hny
 refine zn (Sub.ownF (m:=5) (q:=903) (i:=2) (e:=88) rfl (by decide) rfl rfl rfl) ?_
 refine zu (fun j st => ∃ z acc,En z /\ z.ts.length <= j /\ acc.length + z.ts.length <= y.ts.length /\ varsF y.ts.length [] (nxT y) = varsF j acc z /\ Sub (cxE EN5 Tryz.prog pas w0 w he hp (outQ VO (zX (varsF y.ts.length [] (nxT y)) fun vs z => zX (setQ z) fun ss u => .ok (opD k n vs ss,u)))) st (HoV k n z acc)) y.ts.length ⟨nxT y,[],hx.1,by omega,by simp; omega,rfl,?_⟩ ?_
 . exact Sub.live ⟨rfl,rfl,rfl,trivial⟩ ⟨rfl,rfl,rfl,rfl,trivial⟩
 rintro j st ⟨z,acc,hz,hzj,hzl,hI,hsub⟩
 refine zn hsub ?_
 clear hsub
 rw [hI]
 clear hI hh
 cases j with
 | zero => obtain ⟨t3,r3,ht3⟩:=hz.cons; rw [ht3] at hzj; simp at hzj
 | succ j =>
 have hs1:=zAo hz [41]
 have hs2:=zAo hz [36]
 have hn:=zBI hz
 have hli:=zDn hz acc.length 16
 by_cases hE : acc.length ≠ 0 /\ isS z [41] = true
 . have K1 : (((acc.length : Int) == 0) == false) = false -> False:=fun h => hE.1 (by simp at h; simp [h])
   have K2 : (!isS z [41]) = true -> False:=fun h => by rw [hE.2] at h; cases h
   have hse:=zFu (nxT z) hz.nx0 (by have:=nx_len z; omega)
   rw [zGq hE.1 hE.2]
   repeat' (first
|apply zAL (VO (opD k n acc _)) rfl rfl
 . conv => lhs; whnf; arg 2; whnf
 . repeat' (first | exact VLe.refl _ | exact VLe.nil _ | exact VLe.lit _ _ | exact VLe.own _ _ _ | apply VLe.agg | apply VLeL.cons | exact VLeL.nil)
|apply s_m zi zN rfl
 . conv => lhs; whnf
 . conv => lhs; whnf
 . rfl
 . conv => lhs; whnf; arg 1; whnf
 . first | exact z7 _
 . first | exact hs1 | exact hn
 . exact fun _ => rfl
 . exact fun _ => rfl
|apply zj zi zN rfl
 . conv => lhs; whnf
 . conv => lhs; whnf
 . first | rfl | assumption
 . conv => lhs; whnf
 . rfl
 . conv => lhs; whnf; arg 1; whnf
 . first | exact z7 _
 . first | exact hs1 | exact hn
 . exact fun _ => rfl
 . exact fun _ => rfl
|apply zd rfl
 . conv => lhs; whnf
 . conv => lhs; whnf
 . first | rfl | assumption
|apply s_pr zi zN rfl
 . conv => lhs; whnf
 . conv => lhs; whnf
 . rfl
 . conv => lhs; whnf; arg 1; whnf
 . first | exact z7 _
 . first | exact hse
 . exact fun _ => rfl
 . first | (intro _ _; simp only [renL,renV,ren_cells]; done) | exact fun _ _ => rfl
 refine fun ee hq => ?_
 change _ = Out.die _
 rotate_left 1
 refine fun aa xx hq => ?_
 first | (replace hq:=zAh hq; obtain ⟨hq,rfl⟩:=hq) | (cases hq; have hq:=True.intro) | skip
|exact (K1 ‹_›).elim
|exact (K2 ‹_›).elim
|refine zA ?_
|refine zB ?_
|refine zG ?_
|apply aw_1
 conv => whnf
 refine ⟨?_,trivial⟩
|apply zV rfl rfl
 . conv => lhs; whnf
 . conv => lhs; whnf
 . first | exact bF1 ‹_› | exact bF2 ‹_›
|apply s_1
 conv => whnf; arg 1; arg 4; arg 3; whnf
 refine ⟨?_,?_⟩
|apply zI rfl rfl rfl
 . conv => lhs; whnf
 . conv => lhs; whnf; arg 1; whnf
 . conv => lhs; whnf; arg 1; whnf
 . exact ⟨by kernel_rfl,by kernel_rfl⟩
 . rfl
|apply zD rfl
 . conv => lhs; whnf
 . conv => lhs; whnf
 . first | rfl | assumption
 . conv => lhs; whnf; arg 2; whnf
|apply zT rfl
 . conv => lhs; whnf
 . conv => lhs; whnf
 . conv => lhs; whnf; arg 2; whnf
|refine zg (by conv => lhs; whnf) ?_ ?_ <;> intro hb
|refine zP ?_
|refine zM rfl ?_
|refine zW ?_
|apply zAM rfl
 . conv => lhs; whnf; arg 2; whnf
 . conv => lhs; whnf; arg 1; whnf
|exact trivial
|intro hg)
   . rw [zR (r:=Except.ok (acc,nxT z)) rfl,zR hq]; rfl
   . rw [zR (r:=Except.ok (acc,nxT z)) rfl,then_err hq]; rfl
 . have K1 : (((acc.length : Int) == 0) == false) = true -> (!isS z [41]) = false -> False:=fun h h2 => hE ⟨by simp at h; intro h3; rw [List.eq_nil_of_length_eq_zero h3] at h; exact h rfl,by simpa using h2⟩
   by_cases hL : isS z [36] = true /\ 16 <= acc.length
   . have K2 : isS z [36] = false -> False:=fun h => by rw [hL.1] at h; cases h
     have K3 : acc.length < 16 -> False:=fun h => by omega
     rw [zGp hE hL]
     repeat' (first
|apply s_m zi zN rfl
 . conv => lhs; whnf
 . conv => lhs; whnf
 . rfl
 . conv => lhs; whnf; arg 1; whnf
 . first | exact z7 _
 . first | exact hs1 | exact hs2
 . exact fun _ => rfl
 . exact fun _ => rfl
|apply zj zi zN rfl
 . conv => lhs; whnf
 . conv => lhs; whnf
 . first | rfl | assumption
 . conv => lhs; whnf
 . rfl
 . conv => lhs; whnf; arg 1; whnf
 . first | exact z7 _
 . first | exact hs1 | exact hs2
 . exact fun _ => rfl
 . exact fun _ => rfl
|apply zd rfl
 . conv => lhs; whnf
 . conv => lhs; whnf
 . first | rfl | assumption
|apply s_pr zi zN rfl
 . conv => lhs; whnf
 . conv => lhs; whnf
 . rfl
 . conv => lhs; whnf; arg 1; whnf
 . first | exact z7 _
 . first | exact hli
 . exact fun _ => rfl
 . first | (intro _ _; simp only [renL,renV,ren_cells]; done) | exact fun _ _ => rfl
 refine fun ee hq => ?_
 change _ = Out.die _
 rotate_left 1
 refine fun aa xx hq => ?_
 first | (replace hq:=zAh hq; obtain ⟨hq,rfl⟩:=hq) | (cases hq; have hq:=True.intro) | skip
|exact (K1 ‹_› ‹_›).elim
|exact (K2 ‹_›).elim
|exact (K3 ‹_›).elim
|refine zA ?_
|refine zB ?_
|refine zG ?_
|apply aw_1
 conv => whnf
 refine ⟨?_,trivial⟩
|apply zY rfl rfl
 . conv => lhs; whnf
 . conv => lhs; whnf
 . first | exact bT1 ‹_› | exact bT2 ‹_›
|apply zV rfl rfl
 . conv => lhs; whnf
 . conv => lhs; whnf
 . first | exact bF1 ‹_› | exact bF2 ‹_›
|apply s_1
 conv => whnf; arg 1; arg 4; arg 3; whnf
 refine ⟨?_,?_⟩
|apply zD rfl
 . conv => lhs; whnf
 . conv => lhs; whnf
 . first | rfl | assumption
 . conv => lhs; whnf; arg 2; whnf
|apply zT rfl
 . conv => lhs; whnf
 . conv => lhs; whnf
 . conv => lhs; whnf; arg 2; whnf
|refine zg (by conv => lhs; whnf) ?_ ?_ <;> intro hb
|exact trivial
|intro hg)
     all_goals (rw [(zAx hq).2]; rfl)
   . have K2 : ∀ {e : Nat × Int},isS z [36] = true -> limQ acc.length 16 z = .error e -> False:=fun h1 h2 => hL ⟨h1,(zAx h2).1⟩
     rw [vl_go hE hL]
     have ht1:=zFF hz [36]
     have E1 : ∀ {q y1},takeQ [36] z = .ok (q,y1) -> En y1 /\ y1.ts.length < z.ts.length:=fun h1 => hz.take h1
     have E2 : ∀ {q y1 n z1},takeQ [36] z = .ok (q,y1) -> nameQ y1 = .ok (n,z1) -> En z1 /\ z1.ts.length < z.ts.length:=fun h1 h2 => ⟨((E1 h1).1.name h2).1,by have:=(E1 h1).2; have:=((E1 h1).1.name h2).2; omega⟩
     have E3 : ∀ {q y1 n z1 q2 u},takeQ [36] z = .ok (q,y1) -> nameQ y1 = .ok (n,z1) -> takeQ [58] z1 = .ok (q2,u) -> En u /\ u.ts.length < z.ts.length:=fun h1 h2 h3 => ⟨((E2 h1 h2).1.take h3).1,by have:=(E2 h1 h2).2; have:=((E2 h1 h2).1.take h3).2; omega⟩
     have E4 : ∀ {q y1 n z1 q2 u t v},takeQ [36] z = .ok (q,y1) -> nameQ y1 = .ok (n,z1) -> takeQ [58] z1 = .ok (q2,u) -> typQ u = .ok (t,v) -> En v /\ v.ts.length < z.ts.length:=fun h1 h2 h3 h4 => ⟨((E3 h1 h2 h3).1.typ h4).1,by have:=(E3 h1 h2 h3).2; have:=((E3 h1 h2 h3).1.typ h4).2; omega⟩
     have hnm : ∀ {q y1},takeQ [36] z = .ok (q,y1) -> ACE EN5 Tryz.prog 179 [.bx (pn 0) 0] [boxP y1] (outQ (fun n => .c (.string (bs n))) (nameQ y1)):=fun h1 => zCd (E1 h1).1
     have ht2 : ∀ {q y1 n z1},takeQ [36] z = .ok (q,y1) -> nameQ y1 = .ok (n,z1) -> ACE EN5 Tryz.prog 177 [.bx (pn 0) 0,.c (.string (bs [58]))] [boxP z1] (outQ (fun _ => .agg (tokC (hdT z1))) (takeQ [58] z1)):=fun h1 h2 => zFF (E2 h1 h2).1 [58]
     have hty : ∀ {q y1 n z1 q2 u},takeQ [36] z = .ok (q,y1) -> nameQ y1 = .ok (n,z1) -> takeQ [58] z1 = .ok (q2,u) -> ACE EN5 Tryz.prog 180 [.bx (pn 0) 0] [boxP u] (outQ (fun d => .agg (cellsV Tryz.prog 12 71 d)) (typQ u)):=fun h1 h2 h3 => typ_ace _ (E3 h1 h2 h3).1 (by have:=(E3 h1 h2 h3).2; omega)
     have hsi : ∀ {q y1 n z1 q2 u t v},takeQ [36] z = .ok (q,y1) -> nameQ y1 = .ok (n,z1) -> takeQ [58] z1 = .ok (q2,u) -> typQ u = .ok (t,v) -> ACB EN5 Tryz.prog 99 [.bx (pn 0) 0,.c (.string (bs [61]))] [boxP v] (.c (.bool (isS v [61]))) [boxP v]:=fun h1 h2 h3 h4 => zAo (E4 h1 h2 h3 h4).1 _
     have hnx : ∀ {q y1 n z1 q2 u t v},takeQ [36] z = .ok (q,y1) -> nameQ y1 = .ok (n,z1) -> takeQ [58] z1 = .ok (q2,u) -> typQ u = .ok (t,v) -> ACB EN5 Tryz.prog 103 [.bx (pn 0) 0] [boxP v] (.agg (tokC (hdT v))) [boxP (nxT v)]:=fun h1 h2 h3 h4 => zBI (E4 h1 h2 h3 h4).1
     have hwh : ∀ {q y1 n z1 q2 u t v},takeQ [36] z = .ok (q,y1) -> nameQ y1 = .ok (n,z1) -> takeQ [58] z1 = .ok (q2,u) -> typQ u = .ok (t,v) -> ACE EN5 Tryz.prog 181 [.bx (pn 0) 0] [boxP ⟨(nxT v).ts,false,(nxT v).nd⟩] (outQ VV (zAR ⟨(nxT v).ts,false,(nxT v).nd⟩)):=fun {q y1 n z1 q2 u t v} h1 h2 h3 h4 => zGo _ ((E4 h1 h2 h3 h4).1.nx0) (by have:=(E4 h1 h2 h3 h4).2; have:=nx_len v; show (nxT v).ts.length <= _; omega)
     repeat' (first
|apply zAL (VVr (varD _ _ true _)) rfl rfl
 . conv => lhs; whnf; arg 2; whnf
 . repeat' (first | exact VLe.refl _ | exact VLe.nil _ | exact VLe.lit _ _ | exact VLe.own _ _ _ | apply VLe.agg | apply VLeL.cons | exact VLeL.nil)
|apply zAL (VVr (varD _ _ false zBG)) rfl rfl
 . conv => lhs; whnf; arg 2; whnf
 . repeat' (first | exact VLe.refl _ | exact VLe.nil _ | exact VLe.lit _ _ | exact VLe.own _ _ _ | apply VLe.agg | apply VLeL.cons | exact VLeL.nil)
|apply s_m zi zN rfl
 . conv => lhs; whnf
 . conv => lhs; whnf
 . rfl
 . conv => lhs; whnf; arg 1; whnf
 . first | exact z7 _
 . first | exact hs1 | exact hs2 | exact hsi ‹_› ‹_› ‹_› ‹_› | exact hnx ‹_› ‹_› ‹_› ‹_›
 . exact fun _ => rfl
 . exact fun _ => rfl
|apply zj zi zN rfl
 . conv => lhs; whnf
 . conv => lhs; whnf
 . first | rfl | assumption
 . conv => lhs; whnf
 . rfl
 . conv => lhs; whnf; arg 1; whnf
 . first | exact z7 _
 . first | exact hs1 | exact hs2 | exact hsi ‹_› ‹_› ‹_› ‹_› | exact hnx ‹_› ‹_› ‹_› ‹_›
 . exact fun _ => rfl
 . exact fun _ => rfl
|apply zd rfl
 . conv => lhs; whnf
 . conv => lhs; whnf
 . first | rfl | assumption
|apply s_pr zi zN rfl
 . conv => lhs; whnf
 . conv => lhs; whnf
 . rfl
 . conv => lhs; whnf; arg 1; whnf
 . first | exact z7 _ | exact etaP1 _ _ _
 . first | exact hli | exact ht1 | exact hnm ‹_› | exact ht2 ‹_› ‹_› | exact hty ‹_› ‹_› ‹_› | exact hwh ‹_› ‹_› ‹_› ‹_›
 . exact fun _ => rfl
 . first | (intro _ _; simp only [renL,renV,ren_cells]; done) | exact fun _ _ => rfl
 refine fun ee hq => ?_
 change _ = Out.die _
 rotate_left 1
 refine fun aa xx hq => ?_
 first | (replace hq:=zAh hq; obtain ⟨hq,rfl⟩:=hq) | (cases hq; have hq:=True.intro) | skip
|apply zBP [varD _ _ _ _] rfl rfl
 . conv => lhs; whnf
 . first | exact zGT | (conv => lhs; whnf; arg 1; whnf)
 . rfl
 . rfl
 . repeat' (first | exact trivial | apply And.intro | rfl)
|exact (K1 ‹_› ‹_›).elim
|exact (K2 ‹_› ‹_›).elim
|apply zAw 9 (HoV k n z acc) rfl
|refine zHN ?_
|refine zA ?_
|refine zB ?_
|refine zG ?_
|refine zb ?_
|apply aw_1
 conv => whnf
 refine ⟨?_,trivial⟩
|apply zY rfl rfl
 . conv => lhs; whnf
 . conv => lhs; whnf
 . first | exact bT1 ‹_› | exact bT2 ‹_›
|apply zV rfl rfl
 . conv => lhs; whnf
 . conv => lhs; whnf
 . first | exact bF1 ‹_› | exact bF2 ‹_›
|apply s_1
 conv => whnf; arg 1; arg 4; arg 3; whnf
 refine ⟨?_,?_⟩
|apply zI rfl rfl rfl
 . conv => lhs; whnf
 . conv => lhs; whnf; arg 1; whnf
 . conv => lhs; whnf; arg 1; whnf
 . exact ⟨by kernel_rfl,by kernel_rfl⟩
 . rfl
|apply zBQ rfl rfl
 . conv => lhs; whnf
 . first | exact zGT | (conv => lhs; whnf; arg 1; whnf)
 . first | exact fun _ => rfl | (intro _; kernel_rfl)
 . conv => lhs; whnf
 . conv => lhs; whnf; arg 1; whnf
 . conv => lhs; whnf
|apply zD rfl
 . conv => lhs; whnf
 . conv => lhs; whnf
 . first | rfl | assumption
 . conv => lhs; whnf; arg 2; whnf
|apply zT rfl
 . conv => lhs; whnf
 . conv => lhs; whnf
 . conv => lhs; whnf; arg 2; whnf
|refine zg (by conv => lhs; whnf) ?_ ?_ <;> intro hb
|exact trivial
|intro hg)
     all_goals first
      | exact Sub.live ⟨rfl,rfl,rfl,trivial⟩ ⟨rfl,rfl,rfl,rfl,trivial⟩
      | (refine ⟨by simp,?_,?_⟩ <;> simp only [List.length_cons,List.length_nil,maxLen] <;> omega)
      | (rw [va_1 ‹_›]; rfl)
      | (rw [va_2 ‹_› ‹_›]; rfl)
      | (rw [va_3 ‹_› ‹_› ‹_›]; rfl)
      | (rw [va_4 ‹_› ‹_› ‹_› ‹_›]; rfl)
      | (rw [va_5 ‹_› ‹_› ‹_› ‹_› ‹_› hq]; rfl)
      | (rename_i a1 x1 h1 a2 x2 h2 a3 x3 h3 a4 x4 h4
         have l4:=E4 h1 h2 h3 h4
         have l5:=nx_len x4
         have l6:=En.wholeL (x:=⟨(nxT x4).ts,false,(nxT x4).nd⟩) l4.1.nx0 hq
         have l7 : xx.ts.length < (nxT x4).ts.length:=l6.2
         refine zL (j':=j) (by omega) ⟨{ xx with vr:=true },acc ++ [varD a2 a4 true aa],l6.1,by show xx.ts.length <= j; omega,by show (acc ++ _).length + xx.ts.length <= _; rw [List.length_append]; simp only [List.length_cons,List.length_nil]; omega,by rw [va_6 h1 h2 h3 h4 hb hq]; rfl,Sub.live ⟨rfl,rfl,rfl,trivial⟩ ⟨rfl,rfl,rfl,?_,trivial⟩⟩
         show some (Res.tok _ (acc.length + 1)) = some (Res.tok _ (acc ++ [varD a2 a4 true aa]).length)
         rw [List.length_append]; rfl)
      | (rename_i a1 x1 h1 a2 x2 h2 a3 x3 h3
         have l4:=E4 h1 h2 h3 hq
         refine zL (j':=j) (by omega) ⟨xx,acc ++ [varD a2 aa false zBG],l4.1,by omega,by rw [List.length_append]; simp only [List.length_cons,List.length_nil]; omega,by rw [va_7 h1 h2 h3 hq hb]; rfl,Sub.live ⟨rfl,rfl,rfl,trivial⟩ ⟨rfl,rfl,rfl,?_,trivial⟩⟩
         show some (Res.tok _ (acc.length + 1)) = some (Res.tok _ (acc ++ [varD a2 aa false zBG]).length)
         rw [List.length_append]; rfl)
      | skip
theorem nb2_t {a : Int} (h : ((a != 2) == false) = true) : a = 2:=by simpa using h
theorem nb2_f {a : Int} (h : ((a != 2) == false) = false) : a ≠ 2:=by simpa using h
theorem seq_nt {s : List UInt8} {a : Array UInt8} (h : (!((bs s).toList == (⟨a⟩ : ByteArray).toList)) = true) : s ≠ a.toList:=zA2 (by simpa using h)
theorem zG2 {s : List UInt8} {a : Array UInt8} (h : (!((bs s).toList == (⟨a⟩ : ByteArray).toList)) = false) : s = a.toList:=zCa (by simpa using h)
theorem fg_on {x : PS} (h : (hdT x).s = onT) : zA9 x = .error ((hdT x).i,3):=by rw [zA9,if_pos h]
theorem fg_go {x : PS} (h : (hdT x).s ≠ onT) : zA9 x = zX (nameQ x) fun n y => if (hdT y).k = 2 /\ (hdT y).s = onT then zX (nameQ (nxT y)) fun on z => zX (setQ z) fun ss u => .ok (zGP n on ss,u) else .error ((hdT y).i,3):=by rw [zA9,if_neg h]
theorem frag_ace (x : PS) (h : En x) (hlen : x.ts.length <= 100000) : ACE EN5 Tryz.prog 105 [.bx (pn 0) 0] [boxP x] (outQ VF (zA9 x)):=by
 have hnm:=zCd h
 have hf:=zBB (hdT x) 3
 obtain ⟨t,r,ht⟩:=h.cons
 have hh:=zAn ht
 rw [hh] at hf
 cases hq0 : nameQ x with
 | error e =>
   have g : (t.s = onT -> zA9 x = .error (t.i,3)) /\ (t.s ≠ onT -> zA9 x = .error e):=⟨fun h => by rw [fg_on (by rw [hh]; exact h),hh],fun h => by rw [fg_go (by rw [hh]; exact h),then_err hq0]⟩
   have K : ∀ {n y},nameQ x = .ok (n,y) -> False:=fun h => by rw [hq0] at h; cases h
   obtain ⟨ts,vr,nd⟩:=x
   cases ht
   refine zAH (fn:=Tryz.f105) 56 Tryz.func105 rfl rfl ?_
   intro pas w0 w he hp
   repeat' (first
|apply s_pr zi zN rfl
 . conv => lhs; whnf
 . conv => lhs; whnf
 . rfl
 . conv => lhs; whnf; arg 1; whnf
 . first | exact z7 _
 . first | exact hnm
 . exact fun _ => rfl
 . first | (intro _ _; simp only [renL,renV,ren_cells]; done) | exact fun _ _ => rfl
 refine fun ee hq => ?_
 change _ = Out.die _
 rotate_left 1
 refine fun aa xx hq => ?_
 first | (replace hq:=zAh hq; obtain ⟨hq,rfl⟩:=hq) | (cases hq; have hq:=True.intro) | skip
|apply zCb rfl
 . conv => lhs; whnf
 . first | exact hf
 . first | exact fun _ => rfl | (intro _; simp only [renL,renV,ren_cells])
 change _ = Out.die _
|exact (K ‹_›).elim
|refine zA ?_
|refine zB ?_
|refine zG ?_
|apply aw_1
 conv => whnf
 refine ⟨?_,trivial⟩
|apply s_1
 conv => whnf; arg 1; arg 4; arg 3; whnf
 refine ⟨?_,?_⟩
|refine zg (by conv => lhs; whnf) ?_ ?_ <;> intro hb
|exact trivial)
   all_goals first
    | exact zBu _ _
    | exact (K ‹_›).elim
    | (rw [g.1 (zCa ‹_›)]; rfl)
    | (rw [g.2 (zA2 ‹_›)]; rw [hq0] at hq; cases hq; rfl)
    | skip
 | ok q =>
   obtain ⟨n,y⟩:=q
   have hy:=h.name hq0
   obtain ⟨t2,r2,ht2⟩:=hy.1.cons
   have hh2:=zAn ht2
   have hf2:=zBB (hdT y) 3
   rw [hh2] at hf2
   have hn2:=zBI hy.1
   have hnm2:=zCd hy.1.nx0
   have hse : ∀ {on z},nameQ (nxT y) = .ok (on,z) -> ACE EN5 Tryz.prog 102 [.bx (pn 0) 0,.c (.int .i64 1)] [boxP z] (outQ (fun l => .sl 76 l) (setQ z)):=fun h1 => zFu _ (hy.1.nx0.name h1).1 (by have:=(hy.1.nx0.name h1).2; have:=nx_len y; omega)
   have g1 : t.s = onT -> zA9 x = .error (t.i,3):=fun h => by rw [fg_on (by rw [hh]; exact h),hh]
   have g2 : t.s ≠ onT -> ¬ (t2.k = 2 /\ t2.s = onT) -> zA9 x = .error (t2.i,3):=fun h h2 => by rw [fg_go (by rw [hh]; exact h),zR hq0,if_neg (by rw [hh2]; exact h2),hh2]
   have g3 : t.s ≠ onT -> t2.k = 2 /\ t2.s = onT -> zA9 x = zX (nameQ (nxT y)) fun on z => zX (setQ z) fun ss u => .ok (zGP n on ss,u):=fun h h2 => by rw [fg_go (by rw [hh]; exact h),zR hq0,if_pos (by rw [hh2]; exact h2)]
   have K : ∀ {e},nameQ x = .error e -> False:=fun h => by rw [hq0] at h; cases h
   have hnm' : ACE EN5 Tryz.prog 179 [.bx (pn 0) 0] [boxP x] (outQ (fun n => .c (.string (bs n))) (.ok (n,y) : PR (List UInt8))):=by rw [<- hq0]; exact hnm
   obtain ⟨ts,vr,nd⟩:=x
   cases ht
   obtain ⟨yts,yvr,ynd⟩:=y
   cases ht2
   refine zAH (fn:=Tryz.f105) 56 Tryz.func105 rfl rfl ?_
   intro pas w0 w he hp
   have hS : ∀ {a : List UInt8} {b : PS},(Except.ok (n,(⟨t2 :: r2,yvr,ynd⟩ : PS)) : PR (List UInt8)) = .ok (a,b) -> a = n /\ b = ⟨t2 :: r2,yvr,ynd⟩:=fun h => by cases h; exact ⟨rfl,rfl⟩
   repeat' (first
|apply zAL (VF (zGP n _ _)) rfl rfl
 . conv => lhs; whnf; arg 2; whnf
 . repeat' (first | exact VLe.refl _ | exact VLe.nil _ | exact VLe.lit _ _ | exact VLe.own _ _ _ | apply VLe.agg | apply VLeL.cons | exact VLeL.nil)
|apply s_m zi zN rfl
 . conv => lhs; whnf
 . conv => lhs; whnf
 . rfl
 . conv => lhs; whnf; arg 1; whnf
 . first | exact z7 _
 . first | exact hn2
 . exact fun _ => rfl
 . exact fun _ => rfl
|apply zd rfl
 . conv => lhs; whnf
 . conv => lhs; whnf
 . first | rfl | assumption
|apply s_pr zi zN rfl
 . conv => lhs; whnf
 . conv => lhs; whnf
 . rfl
 . conv => lhs; whnf; arg 1; whnf
 . first | exact z7 _
 . first | exact hnm' | exact hnm2 | exact hse ‹_›
 . exact fun _ => rfl
 . first | (intro _ _; simp only [renL,renV,ren_cells]; done) | exact fun _ _ => rfl
 refine fun ee hq => ?_
 change _ = Out.die _
 rotate_left 1
 refine fun aa xx hq => ?_
 first | (replace hq:=zAh hq; obtain ⟨hq,rfl⟩:=hq) | (cases hq; have hq:=True.intro) | skip
|apply zCb rfl
 . conv => lhs; whnf
 . first | exact hf | exact hf2
 . first | exact fun _ => rfl | (intro _; simp only [renL,renV,ren_cells])
 change _ = Out.die _
|refine zA ?_
|refine zB ?_
|refine zG ?_
|apply aw_1
 conv => whnf
 refine ⟨?_,trivial⟩
|apply zY rfl rfl
 . conv => lhs; whnf
 . conv => lhs; whnf
 . first | exact bT1 ‹_› | exact bT2 ‹_›
|apply zV rfl rfl
 . conv => lhs; whnf
 . conv => lhs; whnf
 . first | exact bF1 ‹_› | exact bF2 ‹_›
|apply s_1
 conv => whnf; arg 1; arg 4; arg 3; whnf
 refine ⟨?_,?_⟩
|apply zI rfl rfl rfl
 . conv => lhs; whnf
 . conv => lhs; whnf; arg 1; whnf
 . conv => lhs; whnf; arg 1; whnf
 . exact ⟨by kernel_rfl,by kernel_rfl⟩
 . rfl
|apply zD rfl
 . conv => lhs; whnf
 . conv => lhs; whnf
 . first | rfl | assumption
 . conv => lhs; whnf; arg 2; whnf
|apply zT rfl
 . conv => lhs; whnf
 . conv => lhs; whnf
 . conv => lhs; whnf; arg 2; whnf
|refine zg (by conv => lhs; whnf) ?_ ?_ <;> intro hb
|apply zAM rfl
 . conv => lhs; whnf; arg 2; whnf
 . conv => lhs; whnf; arg 1; whnf
|exact trivial
|intro hg)
   all_goals first
    | exact zBu _ _
    | exact (K ‹_›).elim
    | (cases hq; done)
    | (rw [g1 (zCa ‹_›)]; rfl)
    | (rw [g2 (zA2 ‹_›) (fun h => nb2_f hg h.1)]; rfl)
    | (rw [g2 (zA2 ‹_›) (fun h => seq_nt hb h.2)]; rfl)
    | (rw [g3 (zA2 ‹_›) ⟨nb2_t hg,zG2 hb⟩,then_err hq]; rfl)
    | (rw [g3 (zA2 ‹_›) ⟨nb2_t hg,zG2 hb⟩,zR ‹_›,then_err hq]; rfl)
    | (rw [g3 (zA2 ‹_›) ⟨nb2_t hg,zG2 hb⟩,zR ‹_›,zR hq]; rfl)
    | skip
section
variable {s : List UInt8}
theorem kq_1 (h : s = zHA) : zAi s = 1:=if_pos h
theorem kq_2 (h1 : s ≠ zHA) (h : s = mutT) : zAi s = 2:=(if_neg h1).trans (if_pos h)
theorem kq_3 (h1 : s ≠ zHA) (h2 : s ≠ mutT) (h : s = subT) : zAi s = 3:=(if_neg h1).trans ((if_neg h2).trans (if_pos h))
theorem kq_4 (h1 : s ≠ zHA) (h2 : s ≠ mutT) (h : s ≠ subT) : zAi s = 0:=(if_neg h1).trans ((if_neg h2).trans (if_neg h))
end
theorem kind_ac (s : List UInt8) : AC EN5 Tryz.prog 98 [.c (.string (bs s))] (.c (.int .i64 (zAi s))):=by
 refine zF 10 Tryz.func98 rfl rfl rfl rfl ?_
 intro s0 w he
 repeat' (first
|refine zA ?_
|refine zB ?_
|refine zG ?_
|refine zb ?_
|apply aw_1
 conv => whnf
 refine ⟨?_,trivial⟩
|apply s_1
 conv => whnf; arg 1; arg 4; arg 3; whnf
 refine ⟨?_,?_⟩
|refine zg (by conv => lhs; whnf) ?_ ?_ <;> intro hb
|refine zU ?_
|refine za ?_
|refine zC ?_
|refine ⟨_,by conv => lhs; whnf; arg 2; whnf,?_⟩; conv => rhs; whnf
|exact trivial)
 . rw [kq_1 (zCa hb)]
 . rw [kq_2 (zA2 ‹_›) (zCa hb)]
 . rw [kq_3 (zA2 ‹_›) (zA2 ‹_›) (zCa hb)]
 . rw [kq_4 (zA2 ‹_›) (zA2 ‹_›) (zA2 hb)]
theorem zDw : z6 Tryz.prog 38 = some (57,72):=by kernel_rfl
theorem zC6 : z6 Tryz.prog 39 = some (116,56):=by kernel_rfl
noncomputable def VQ (d : D) : V:=.agg (cellsV Tryz.prog 12 41 d)
noncomputable def HdQ (n : Nat) (ops frs : List D) (z : PS) : Vst 89:=
 stS 89 [(0,.bx (pn 0) 0),(2,.bx 2 0),(3,.bx 3 0),(4,.c (.int .i64 (n : Int)))] [(pn 0,boxP z),(2,.box 41 [.c (.slice none 0 0),.c (.slice none 0 0)]),(3,.box 41 [.own 903 57 ops,.own 904 116 frs]),(903,.tok 57 ops.length),(904,.tok 116 frs.length)]
section
variable {f n : Nat} {ops frs : List D} {x : PS}
def wordQ (x : PS) : Prop:=(hdT x).k = 2 /\ (0 < zAi (hdT x).s \/ (hdT x).s = zBH)
theorem dc_end (h : n ≠ 0 /\ (hdT x).k = 5) : docF (f + 1) n ops frs x = .ok ((ops,frs),x):=by rw [docF,if_pos h]
theorem dc_un (h : ¬ (n ≠ 0 /\ (hdT x).k = 5)) (hw : ¬ wordQ x) (hs : isS x [123] = false) : docF (f + 1) n ops frs x = .error ((hdT x).i,3):=by
 rw [docF,if_neg h]; exact if_pos ⟨hw,by rw [hs]; decide⟩
theorem dc_lim (h : ¬ (n ≠ 0 /\ (hdT x).k = 5)) (hw : wordQ x \/ isS x [123] = true) (hn : 64 <= n) : docF (f + 1) n ops frs x = .error ((hdT x).i,4):=by
 rw [docF,if_neg h]
 exact (if_neg (fun g => hw.elim g.1 g.2)).trans (if_pos hn)
theorem dc_set (h : ¬ (n ≠ 0 /\ (hdT x).k = 5)) (hw : ¬ wordQ x) (hs : isS x [123] = true) (hn : n < 64) : docF (f + 1) n ops frs x = zX (setQ x) fun ss y => docF f (n + 1) (ops ++ [opD 1 [] [] ss]) frs y:=by
 rw [docF,if_neg h]
 exact (if_neg (fun g => g.2 hs)).trans ((if_neg (by omega)).trans (if_pos hw))
theorem dc_op (h : ¬ (n ≠ 0 /\ (hdT x).k = 5)) (hw : wordQ x) (hn : n < 64) (hk : 0 < zAi (hdT x).s) : docF (f + 1) n ops frs x = zX (opQ (zAi (hdT x).s) (nxT x)) fun o y => docF f (n + 1) (ops ++ [o]) frs y:=by
 rw [docF,if_neg h]
 exact (if_neg (fun g => g.1 hw)).trans ((if_neg (by omega)).trans ((if_neg (fun g => g hw)).trans (if_pos hk)))
theorem dc_frag (h : ¬ (n ≠ 0 /\ (hdT x).k = 5)) (hw : wordQ x) (hn : n < 64) (hk : ¬ 0 < zAi (hdT x).s) : docF (f + 1) n ops frs x = zX (zA9 (nxT x)) fun o y => docF f (n + 1) ops (frs ++ [o]) y:=by
 rw [docF,if_neg h]
 exact (if_neg (fun g => g.1 hw)).trans ((if_neg (by omega)).trans ((if_neg (fun g => g hw)).trans (if_neg hk)))
end
theorem doc_ace (x : PS) (h : En x) (hlen : x.ts.length <= 100000) : ACE EN5 Tryz.prog 53 [.bx (pn 0) 0] [boxP x] (outQ (fun p => VQ (queD p.1 p.2)) (docF (x.ts.length + 1) 0 [] [] x)):=by
 refine zAH (fn:=Tryz.f53) 89 Tryz.func53 rfl rfl ?_
 intro pas w0 w he hp
 repeat' (first
|refine zA ?_
|refine zB ?_
|refine zG ?_
|apply aw_1
 conv => whnf
 refine ⟨?_,trivial⟩
|apply s_1
 conv => whnf; arg 1; arg 4; arg 3; whnf
 refine ⟨?_,?_⟩
|exact trivial)
 refine zn ((Sub.ownF (m:=3) (q:=903) (i:=0) (e:=57) rfl (by decide) rfl rfl rfl).trans (Sub.ownF (m:=3) (q:=904) (i:=1) (e:=116) rfl (by decide) rfl rfl rfl)) ?_
 refine zu (fun j st => ∃ z n ops frs,En z /\ z.ts.length < j /\ z.ts.length <= x.ts.length /\ ops.length + frs.length = n /\ n <= 64 /\ docF (x.ts.length + 1) 0 [] [] x = docF j n ops frs z /\ Sub (cxE EN5 Tryz.prog pas w0 w he hp (outQ (fun p => VQ (queD p.1 p.2)) (docF (x.ts.length + 1) 0 [] [] x))) st (HdQ n ops frs z)) (x.ts.length + 1) ⟨x,0,[],[],h,by omega,by omega,rfl,by omega,rfl,?_⟩ ?_
 . exact Sub.live ⟨rfl,rfl,rfl,rfl,trivial⟩ ⟨rfl,rfl,rfl,rfl,rfl,trivial⟩
 rintro j st ⟨z,n,ops,frs,hz,hzj,hzl,hof,hn64,hI,hsub⟩
 refine zn hsub ?_
 clear hsub
 rw [hI]
 clear hI
 cases j with
 | zero => omega
 | succ j =>
 have hs:=zAo hz [123]
 have hli:=zDn hz n 64
 have hf:=zBB (hdT z) 3
 have hnx:=zBI hz
 have hse:=zFu z hz (by omega)
 have hkd:=kind_ac
 have hop : ∀ k,ACE EN5 Tryz.prog 104 [.bx (pn 0) 0,.c (.int .i64 k)] [boxP (nxT z)] (outQ VO (opQ k (nxT z))):=fun k => op_ace k (nxT z) hz.nx0 (by have:=nx_len z; omega)
 have hfr:=frag_ace (nxT z) hz.nx0 (by have:=nx_len z; omega)
 obtain ⟨t,r,ht⟩:=hz.cons
 have hh:=zAn ht
 rw [hh] at hf
 by_cases hE : n ≠ 0 /\ (hdT z).k = 5
 . rw [dc_end hE]
   rw [hh] at hE
   have K1 : (((n : Int) == 0) == false) = false -> False:=fun h => hE.1 (by simpa using h)
   have K2 : (t.k != 5) = true -> False:=fun h => by rw [hE.2] at h; cases h
   obtain ⟨zts,zvr,znd⟩:=z
   cases ht
   repeat' (first
|apply zAL (VQ (queD ops frs)) rfl rfl
 . conv => lhs; whnf; arg 2; whnf
 . repeat' (first | exact VLe.refl _ | exact VLe.nil _ | exact VLe.lit _ _ | exact VLe.own _ _ _ | apply VLe.agg | apply VLeL.cons | exact VLeL.nil)
|exact (K1 ‹_›).elim
|exact (K2 ‹_›).elim
|refine zA ?_
|refine zB ?_
|refine zG ?_
|apply aw_1
 conv => whnf
 refine ⟨?_,trivial⟩
|apply zV rfl rfl
 . conv => lhs; whnf
 . conv => lhs; whnf
 . first | exact bF1 ‹_› | exact bF2 ‹_›
|apply s_1
 conv => whnf; arg 1; arg 4; arg 3; whnf
 refine ⟨?_,?_⟩
|apply zI rfl rfl rfl
 . conv => lhs; whnf
 . conv => lhs; whnf; arg 1; whnf
 . conv => lhs; whnf; arg 1; whnf
 . exact ⟨by kernel_rfl,by kernel_rfl⟩
 . rfl
|apply zD rfl
 . conv => lhs; whnf
 . conv => lhs; whnf
 . first | rfl | assumption
 . conv => lhs; whnf; arg 2; whnf
|apply zT rfl
 . conv => lhs; whnf
 . conv => lhs; whnf
 . conv => lhs; whnf; arg 2; whnf
|refine zg (by conv => lhs; whnf) ?_ ?_ <;> intro hb
|refine zP ?_
|refine zM rfl ?_
|refine zW ?_
|apply zAM rfl
 . conv => lhs; whnf; arg 2; whnf
 . conv => lhs; whnf; arg 1; whnf
|exact trivial
|intro hg)
   all_goals first
    | exact zBu _ _
    | rfl
    | skip
 . have hE2 : ¬ (n ≠ 0 /\ t.k = 5):=by rw [<- hh]; exact hE
   have K0 : (((n : Int) == 0) == false) = true -> (t.k != 5) = false -> False:=fun h1 h2 => hE2 ⟨fun h => (by rw [h] at h1; cases h1),by simpa using h2⟩
   have hop:=hop (zAi t.s)
   by_cases hW : wordQ z
   . by_cases hK : 0 < zAi (hdT z).s
     . have e1 : n < 64 -> docF (j + 1) n ops frs z = zX (opQ (zAi (hdT z).s) (nxT z)) fun o y => docF j (n + 1) (ops ++ [o]) frs y:=fun hn => dc_op hE hW hn hK
       have e2 : 64 <= n -> docF (j + 1) n ops frs z = .error ((hdT z).i,4):=fun hn => dc_lim hE (.inl hW) hn
       have hW1:=hW.1
       rw [hh] at hW1 hK e1 e2
       have K1 : ((t.k == 2) == true) = false -> False:=fun h => by rw [hW1] at h; cases h
       have K2 : decide (zAi t.s > 0) = false -> False:=fun h => by simp at h; omega
       have K3 : (decide (zAi t.s > 0) == false) = true -> False:=fun h => by simp at h; omega
       obtain ⟨zts,zvr,znd⟩:=z
       cases ht
       repeat' (first
|apply zx rfl rfl rfl
 . conv => lhs; whnf
 . first | rfl | assumption
 . conv => lhs; whnf
 . first | exact bT1 ‹_› | exact bT2 ‹_› | rfl
|apply zBs 9 ([(1,[3])]) ([(4,[1000000]),(6,[903]),(8,[3])]) rfl (by kernel_rfl) (by kernel_rfl) (by kernel_rfl)
|apply zGM
|apply zGL rfl
 . conv => lhs; whnf
 . conv => lhs; whnf; arg 2; whnf
|apply g_app rfl rfl
 . conv => lhs; whnf
 . first | exact zDw | (conv => lhs; whnf; arg 1; whnf)
 . first | exact fun _ => rfl | (intro _; kernel_rfl)
 . conv => lhs; whnf
 . rfl
 . conv => lhs; whnf; arg 1; whnf
 . conv => lhs; whnf
|apply zCM rfl rfl rfl
 . conv => lhs; whnf
 . rfl
 . conv => lhs; whnf; arg 1; whnf
 . conv => lhs; whnf; arg 1; whnf
 . exact ⟨by kernel_rfl,by kernel_rfl⟩
 . rfl
|exact Or.inl ⟨pn 0,_,rfl⟩
|refine Or.inr ?_
|apply g_pr zi zN (default : D) rfl
 . conv => lhs; whnf
 . conv => lhs; whnf
 . rfl
 . conv => lhs; whnf; arg 1; whnf
 . first | exact z7 _
 . first | exact hop
 . exact fun _ => rfl
 . first | (intro _ _; simp only [renL,renV,ren_cells]; done) | exact fun _ _ => rfl
 . rfl
 refine fun ee hq tm rs => ?_
 change _ = Out.die _
 rotate_left 1
 refine fun aa xx hq => ?_
 rotate_left 1
 refine fun ee hq => ?_
|show inO _ _ = true; rfl
|apply zGN [aa] rfl rfl
 . conv => lhs; whnf
 . first | exact zDw | (conv => lhs; whnf; arg 1; whnf)
 . rfl
 . rfl
 . repeat' (first | exact trivial | apply And.intro | rfl)
|apply zGN [default] rfl rfl
 . conv => lhs; whnf
 . first | exact zDw | (conv => lhs; whnf; arg 1; whnf)
 . rfl
 . rfl
 . repeat' (first | exact trivial | apply And.intro | rfl)
|apply s_m zi zN rfl
 . conv => lhs; whnf
 . conv => lhs; whnf
 . rfl
 . conv => lhs; whnf; arg 1; whnf
 . first | exact z7 _
 . first | exact hs | exact hnx
 . exact fun _ => rfl
 . exact fun _ => rfl
|apply zd rfl
 . conv => lhs; whnf
 . conv => lhs; whnf
 . first | rfl | assumption
|apply zCT rfl
 . conv => lhs; whnf
 . rfl
 . rfl
|apply s_pr zi zN rfl
 . conv => lhs; whnf
 . conv => lhs; whnf
 . rfl
 . conv => lhs; whnf; arg 1; whnf
 . first | exact z7 _
 . first | exact hli
 . exact fun _ => rfl
 . first | (intro _ _; simp only [renL,renV,ren_cells]; done) | exact fun _ _ => rfl
 refine fun ee hq => ?_
 change _ = Out.die _
 rotate_left 1
 refine fun aa xx hq => ?_
 first | (replace hq:=zAh hq; obtain ⟨hq,rfl⟩:=hq) | (cases hq; have hq:=True.intro) | skip
|exact (K0 ‹_› ‹_›).elim
|exact (K1 ‹_›).elim
|exact (K2 ‹_›).elim
|exact (K3 ‹_›).elim
|refine zA ?_
|refine zB ?_
|refine zG ?_
|refine zb ?_
|apply aw_1
 conv => whnf
 refine ⟨?_,trivial⟩
|apply zY rfl rfl
 . conv => lhs; whnf
 . conv => lhs; whnf
 . first | exact bT1 ‹_› | exact bT2 ‹_›
|apply zV rfl rfl
 . conv => lhs; whnf
 . conv => lhs; whnf
 . first | exact bF1 ‹_› | exact bF2 ‹_›
|apply s_1
 conv => whnf; arg 1; arg 4; arg 3; whnf
 refine ⟨?_,?_⟩
|apply ze rfl
 . conv => lhs; whnf
 . conv => lhs; whnf
 . first | exact hkd _
|apply zI rfl rfl rfl
 . conv => lhs; whnf
 . conv => lhs; whnf; arg 1; whnf
 . conv => lhs; whnf; arg 1; whnf
 . exact ⟨by kernel_rfl,by kernel_rfl⟩
 . rfl
|apply zD rfl
 . conv => lhs; whnf
 . conv => lhs; whnf
 . first | rfl | assumption
 . conv => lhs; whnf; arg 2; whnf
|apply zT rfl
 . conv => lhs; whnf
 . conv => lhs; whnf
 . conv => lhs; whnf; arg 2; whnf
|refine zg (by conv => lhs; whnf) ?_ ?_ <;> intro hb
|exact trivial
|intro hg)
       all_goals first
        | exact zBu _ _
        | exact zS (by omega)
        | (refine ⟨by simp,?_,?_⟩ <;> simp only [List.length_cons,List.length_nil,maxLen] <;> omega)
        | (rw [e2 (zAx hq).1,(zAx hq).2]; rfl)
        | (rw [e1 ‹_›,then_err hq]; rfl)
        | (have hx:=hz.nx0.op hq
           have hnl:=nx_len ⟨t :: r,zvr,znd⟩
           refine zL (j':=j) (by omega) ⟨xx,n + 1,ops ++ [aa],frs,hx.1,by omega,by omega,by rw [List.length_append]; simp only [List.length_cons,List.length_nil]; omega,by omega,by rw [e1 ‹_›,zR hq],Sub.live ⟨rfl,rfl,rfl,rfl,trivial⟩ ⟨rfl,rfl,rfl,?_,rfl,trivial⟩⟩
           show some (Res.tok _ (ops.length + 1)) = some (Res.tok _ (ops ++ [aa]).length)
           rw [List.length_append]; rfl)
        | skip
     . have e1 : n < 64 -> docF (j + 1) n ops frs z = zX (zA9 (nxT z)) fun o y => docF j (n + 1) ops (frs ++ [o]) y:=fun hn => dc_frag hE hW hn hK
       have e2 : 64 <= n -> docF (j + 1) n ops frs z = .error ((hdT z).i,4):=fun hn => dc_lim hE (.inl hW) hn
       have hW1:=hW.1
       have hW2 : (hdT z).s = zBH:=hW.2.resolve_left hK
       rw [hh] at hW1 hW2 hK e2
       have K1 : ((t.k == 2) == true) = false -> False:=fun h => by rw [hW1] at h; cases h
       have K2 : decide (zAi t.s > 0) = true -> False:=fun h => by simp at h; omega
       have K3 : (decide (zAi t.s > 0) == false) = false -> False:=fun h => by simp at h; omega
       have K4 : ((bs t.s).toList == (⟨#[102,114,97,103,109,101,110,116]⟩ : ByteArray).toList) = false -> False:=fun h => zA2 h hW2
       have K5 : (!((bs t.s).toList == (⟨#[102,114,97,103,109,101,110,116]⟩ : ByteArray).toList)) = true -> False:=fun h => seq_nt h hW2
       have K6 : ((!((bs t.s).toList == (⟨#[102,114,97,103,109,101,110,116]⟩ : ByteArray).toList)) == true) = true -> False:=fun h => seq_nt (by simpa using h) hW2
       obtain ⟨zts,zvr,znd⟩:=z
       cases ht
       repeat' (first
|apply zx rfl rfl rfl
 . conv => lhs; whnf
 . first | rfl | assumption
 . conv => lhs; whnf
 . first | exact bT1 ‹_› | exact bT2 ‹_› | rfl
|apply zo rfl rfl rfl
 . conv => lhs; whnf
 . first | rfl | assumption
 . conv => lhs; whnf
 . first | exact bF1 ‹_› | exact bF2 ‹_› | rfl
|apply zBs 8 ([(1,[3])]) ([(3,[1000000]),(5,[904]),(7,[3])]) rfl (by kernel_rfl) (by kernel_rfl) (by kernel_rfl)
|apply zGM
|apply zGL rfl
 . conv => lhs; whnf
 . conv => lhs; whnf; arg 2; whnf
|apply g_app rfl rfl
 . conv => lhs; whnf
 . first | exact zC6 | (conv => lhs; whnf; arg 1; whnf)
 . first | exact fun _ => rfl | (intro _; kernel_rfl)
 . conv => lhs; whnf
 . rfl
 . conv => lhs; whnf; arg 1; whnf
 . conv => lhs; whnf
|apply zCM rfl rfl rfl
 . conv => lhs; whnf
 . rfl
 . conv => lhs; whnf; arg 1; whnf
 . conv => lhs; whnf; arg 1; whnf
 . exact ⟨by kernel_rfl,by kernel_rfl⟩
 . rfl
|exact Or.inl ⟨pn 0,_,rfl⟩
|refine Or.inr ?_
|apply g_pr zi zN (default : D) rfl
 . conv => lhs; whnf
 . conv => lhs; whnf
 . rfl
 . conv => lhs; whnf; arg 1; whnf
 . first | exact z7 _
 . first | exact hfr
 . exact fun _ => rfl
 . first | (intro _ _; simp only [renL,renV,ren_cells]; done) | exact fun _ _ => rfl
 . rfl
 refine fun ee hq tm rs => ?_
 change _ = Out.die _
 rotate_left 1
 refine fun aa xx hq => ?_
 rotate_left 1
 refine fun ee hq => ?_
|show inO _ _ = true; rfl
|apply zGN [aa] rfl rfl
 . conv => lhs; whnf
 . first | exact zC6 | (conv => lhs; whnf; arg 1; whnf)
 . rfl
 . rfl
 . repeat' (first | exact trivial | apply And.intro | rfl)
|apply zGN [default] rfl rfl
 . conv => lhs; whnf
 . first | exact zC6 | (conv => lhs; whnf; arg 1; whnf)
 . rfl
 . rfl
 . repeat' (first | exact trivial | apply And.intro | rfl)
|apply s_m zi zN rfl
 . conv => lhs; whnf
 . conv => lhs; whnf
 . rfl
 . conv => lhs; whnf; arg 1; whnf
 . first | exact z7 _
 . first | exact hs | exact hnx
 . exact fun _ => rfl
 . exact fun _ => rfl
|apply zj zi zN rfl
 . conv => lhs; whnf
 . conv => lhs; whnf
 . first | rfl | assumption
 . conv => lhs; whnf
 . rfl
 . conv => lhs; whnf; arg 1; whnf
 . first | exact z7 _
 . first | exact hs | exact hnx
 . exact fun _ => rfl
 . exact fun _ => rfl
|apply zd rfl
 . conv => lhs; whnf
 . conv => lhs; whnf
 . first | rfl | assumption
|apply zCT rfl
 . conv => lhs; whnf
 . rfl
 . rfl
|apply s_pr zi zN rfl
 . conv => lhs; whnf
 . conv => lhs; whnf
 . rfl
 . conv => lhs; whnf; arg 1; whnf
 . first | exact z7 _
 . first | exact hli
 . exact fun _ => rfl
 . first | (intro _ _; simp only [renL,renV,ren_cells]; done) | exact fun _ _ => rfl
 refine fun ee hq => ?_
 change _ = Out.die _
 rotate_left 1
 refine fun aa xx hq => ?_
 first | (replace hq:=zAh hq; obtain ⟨hq,rfl⟩:=hq) | (cases hq; have hq:=True.intro) | skip
|exact (K0 ‹_› ‹_›).elim
|exact (K1 ‹_›).elim
|exact (K2 ‹_›).elim
|exact (K3 ‹_›).elim
|exact (K5 ‹_›).elim
|exact (K6 ‹_›).elim
|refine zA ?_
|refine zB ?_
|refine zG ?_
|refine zb ?_
|apply aw_1
 conv => whnf
 refine ⟨?_,trivial⟩
|apply zY rfl rfl
 . conv => lhs; whnf
 . conv => lhs; whnf
 . first | exact bT1 ‹_› | exact bT2 ‹_›
|apply zV rfl rfl
 . conv => lhs; whnf
 . conv => lhs; whnf
 . first | exact bF1 ‹_› | exact bF2 ‹_›
|apply s_1
 conv => whnf; arg 1; arg 4; arg 3; whnf
 refine ⟨?_,?_⟩
|apply ze rfl
 . conv => lhs; whnf
 . conv => lhs; whnf
 . first | exact hkd _
|apply zI rfl rfl rfl
 . conv => lhs; whnf
 . conv => lhs; whnf; arg 1; whnf
 . conv => lhs; whnf; arg 1; whnf
 . exact ⟨by kernel_rfl,by kernel_rfl⟩
 . rfl
|apply zD rfl
 . conv => lhs; whnf
 . conv => lhs; whnf
 . first | rfl | assumption
 . conv => lhs; whnf; arg 2; whnf
|apply zT rfl
 . conv => lhs; whnf
 . conv => lhs; whnf
 . conv => lhs; whnf; arg 2; whnf
|refine zg (by conv => lhs; whnf) ?_ ?_ <;> intro hb
|exact trivial
|intro hg)
       all_goals first
        | exact zBu _ _
        | exact zS (by omega)
        | (refine ⟨by simp,?_,?_⟩ <;> simp only [List.length_cons,List.length_nil,maxLen] <;> omega)
        | (rw [e2 (zAx hq).1,(zAx hq).2]; rfl)
        | (rw [e1 ‹_›,then_err hq]; rfl)
        | (have hx:=hz.nx0.frag hq
           have hnl:=nx_len ⟨t :: r,zvr,znd⟩
           refine zL (j':=j) (by omega) ⟨xx,n + 1,ops,frs ++ [aa],hx.1,by omega,by omega,by rw [List.length_append]; simp only [List.length_cons,List.length_nil]; omega,by omega,by rw [e1 ‹_›,zR hq],Sub.live ⟨rfl,rfl,rfl,rfl,trivial⟩ ⟨rfl,rfl,rfl,rfl,?_,trivial⟩⟩
           show some (Res.tok _ (frs.length + 1)) = some (Res.tok _ (frs ++ [aa]).length)
           rw [List.length_append]; rfl)
        | skip
   . have hW2 : ¬ (t.k = 2 /\ (0 < zAi t.s \/ t.s = zBH)):=by rw [<- hh]; exact hW
     have K1 : ((t.k == 2) == true) = true -> decide (zAi t.s > 0) = true -> False:=fun h1 h2 => hW2 ⟨by simpa using h1,.inl (by simpa using h2)⟩
     have K2 : ((t.k == 2) == true) = true -> (decide (zAi t.s > 0) == false) = false -> False:=fun h1 h2 => hW2 ⟨by simpa using h1,.inl (by simpa using h2)⟩
     have K3 : ((t.k == 2) == true) = true -> ((bs t.s).toList == (⟨#[102,114,97,103,109,101,110,116]⟩ : ByteArray).toList) = true -> False:=fun h1 h2 => hW2 ⟨by simpa using h1,.inr (zCa h2)⟩
     have K4 : ((t.k == 2) == true) = true -> (!((bs t.s).toList == (⟨#[102,114,97,103,109,101,110,116]⟩ : ByteArray).toList)) = false -> False:=fun h1 h2 => hW2 ⟨by simpa using h1,.inr (zG2 h2)⟩
     have K5 : ((t.k == 2) == true) = true -> ((!((bs t.s).toList == (⟨#[102,114,97,103,109,101,110,116]⟩ : ByteArray).toList)) == true) = false -> False:=fun h1 h2 => hW2 ⟨by simpa using h1,.inr (zG2 (by simpa using h2))⟩
     by_cases hS : isS z [123] = true
     . have e1 : n < 64 -> docF (j + 1) n ops frs z = zX (setQ z) fun ss y => docF j (n + 1) (ops ++ [opD 1 [] [] ss]) frs y:=fun hn => dc_set hE hW hS hn
       have e2 : 64 <= n -> docF (j + 1) n ops frs z = .error ((hdT z).i,4):=fun hn => dc_lim hE (.inr hS) hn
       have K6 : isS z [123] = false -> False:=fun h => by rw [hS] at h; cases h
       have K7 : (!isS z [123]) = true -> False:=fun h => by rw [hS] at h; cases h
       rw [hh] at e2
       obtain ⟨zts,zvr,znd⟩:=z
       cases ht
       repeat' (first
|apply zx rfl rfl rfl
 . conv => lhs; whnf
 . first | rfl | assumption
 . conv => lhs; whnf
 . first | exact bT1 ‹_› | exact bT2 ‹_› | rfl
|apply zo rfl rfl rfl
 . conv => lhs; whnf
 . first | rfl | assumption
 . conv => lhs; whnf
 . first | exact bF1 ‹_› | exact bF2 ‹_› | rfl
|apply g_valW (VO (opD 1 [] [] _)) rfl rfl
 . conv => lhs; whnf; arg 2; whnf
 . repeat' (first | exact VLe.refl _ | exact VLe.nil _ | exact VLe.lit _ _ | exact VLe.own _ _ _ | apply VLe.agg | apply VLeL.cons | exact VLeL.nil)
|apply zBs 9 ([(1,[3])]) ([(3,[1000000]),(6,[903]),(8,[3])]) rfl (by kernel_rfl) (by kernel_rfl) (by kernel_rfl)
|apply zGM
|apply zGL rfl
 . conv => lhs; whnf
 . conv => lhs; whnf; arg 2; whnf
|apply g_app rfl rfl
 . conv => lhs; whnf
 . first | exact zDw | (conv => lhs; whnf; arg 1; whnf)
 . first | exact fun _ => rfl | (intro _; kernel_rfl)
 . conv => lhs; whnf
 . rfl
 . conv => lhs; whnf; arg 1; whnf
 . conv => lhs; whnf
|apply zCM rfl rfl rfl
 . conv => lhs; whnf
 . rfl
 . conv => lhs; whnf; arg 1; whnf
 . conv => lhs; whnf; arg 1; whnf
 . exact ⟨by kernel_rfl,by kernel_rfl⟩
 . rfl
|exact Or.inl ⟨pn 0,_,rfl⟩
|refine Or.inr ?_
|apply g_pr zi zN ([] : List D) rfl
 . conv => lhs; whnf
 . conv => lhs; whnf
 . rfl
 . conv => lhs; whnf; arg 1; whnf
 . first | exact z7 _
 . first | exact hse
 . exact fun _ => rfl
 . first | (intro _ _; simp only [renL,renV,ren_cells]; done) | exact fun _ _ => rfl
 . rfl
 refine fun ee hq tm rs => ?_
 change _ = Out.die _
 rotate_left 1
 refine fun aa xx hq => ?_
 rotate_left 1
 refine fun ee hq => ?_
|show inO _ _ = true; rfl
|apply zGN [opD 1 [] [] _] rfl rfl
 . conv => lhs; whnf
 . first | exact zDw | (conv => lhs; whnf; arg 1; whnf)
 . rfl
 . rfl
 . repeat' (first | exact trivial | apply And.intro | rfl)
|apply zj zi zN rfl
 . conv => lhs; whnf
 . conv => lhs; whnf
 . first | rfl | assumption
 . conv => lhs; whnf
 . rfl
 . conv => lhs; whnf; arg 1; whnf
 . first | exact z7 _
 . first | exact hs | exact hnx
 . exact fun _ => rfl
 . exact fun _ => rfl
|apply zd rfl
 . conv => lhs; whnf
 . conv => lhs; whnf
 . first | rfl | assumption
|apply zCT rfl
 . conv => lhs; whnf
 . rfl
 . rfl
|apply s_pr zi zN rfl
 . conv => lhs; whnf
 . conv => lhs; whnf
 . rfl
 . conv => lhs; whnf; arg 1; whnf
 . first | exact z7 _
 . first | exact hli
 . exact fun _ => rfl
 . first | (intro _ _; simp only [renL,renV,ren_cells]; done) | exact fun _ _ => rfl
 refine fun ee hq => ?_
 change _ = Out.die _
 rotate_left 1
 refine fun aa xx hq => ?_
 first | (replace hq:=zAh hq; obtain ⟨hq,rfl⟩:=hq) | (cases hq; have hq:=True.intro) | skip
|exact (K0 ‹_› ‹_›).elim
|exact (K2 ‹_› ‹_›).elim
|exact (K4 ‹_› ‹_›).elim
|exact (K5 ‹_› ‹_›).elim
|exact (K7 ‹_›).elim
|refine zA ?_
|refine zB ?_
|refine zG ?_
|refine zb ?_
|apply aw_1
 conv => whnf
 refine ⟨?_,trivial⟩
|apply zY rfl rfl
 . conv => lhs; whnf
 . conv => lhs; whnf
 . first | exact bT1 ‹_› | exact bT2 ‹_›
|apply zV rfl rfl
 . conv => lhs; whnf
 . conv => lhs; whnf
 . first | exact bF1 ‹_› | exact bF2 ‹_›
|apply s_1
 conv => whnf; arg 1; arg 4; arg 3; whnf
 refine ⟨?_,?_⟩
|apply ze rfl
 . conv => lhs; whnf
 . conv => lhs; whnf
 . first | exact hkd _
|apply zI rfl rfl rfl
 . conv => lhs; whnf
 . conv => lhs; whnf; arg 1; whnf
 . conv => lhs; whnf; arg 1; whnf
 . exact ⟨by kernel_rfl,by kernel_rfl⟩
 . rfl
|apply zD rfl
 . conv => lhs; whnf
 . conv => lhs; whnf
 . first | rfl | assumption
 . conv => lhs; whnf; arg 2; whnf
|apply zT rfl
 . conv => lhs; whnf
 . conv => lhs; whnf
 . conv => lhs; whnf; arg 2; whnf
|refine zg (by conv => lhs; whnf) ?_ ?_ <;> intro hb
|exact trivial
|intro hg)
       all_goals first
        | exact zBu _ _
        | exact zS (by omega)
        | (refine ⟨by simp,?_,?_⟩ <;> simp only [List.length_cons,List.length_nil,maxLen] <;> omega)
        | (rw [e2 (zAx hq).1,(zAx hq).2]; rfl)
        | (rw [e1 ‹_›,then_err hq]; rfl)
        | (have hx:=hz.sels hq
           have hnl:=nx_len ⟨t :: r,zvr,znd⟩
           refine zL (j':=j) (by omega) ⟨xx,n + 1,ops ++ [opD 1 [] [] aa],frs,hx.1,by omega,by omega,by rw [List.length_append]; simp only [List.length_cons,List.length_nil]; omega,by omega,by rw [e1 ‹_›,zR hq],Sub.live ⟨rfl,rfl,rfl,rfl,trivial⟩ ⟨rfl,rfl,rfl,?_,rfl,trivial⟩⟩
           show some (Res.tok _ (ops.length + 1)) = some (Res.tok _ (ops ++ [opD 1 [] [] aa]).length)
           rw [List.length_append]; rfl)
        | skip
     . have hS : isS z [123] = false:=by simpa using hS
       have e1:=dc_un (f:=j) (n:=n) (ops:=ops) (frs:=frs) hE hW hS
       have K6 : isS z [123] = true -> False:=fun h => by rw [hS] at h; cases h
       have K7 : (!isS z [123]) = false -> False:=fun h => by rw [hS] at h; cases h
       rw [e1,hh]
       obtain ⟨zts,zvr,znd⟩:=z
       cases ht
       repeat' (first
|apply zx rfl rfl rfl
 . conv => lhs; whnf
 . first | rfl | assumption
 . conv => lhs; whnf
 . first | exact bT1 ‹_› | exact bT2 ‹_› | rfl
|apply zo rfl rfl rfl
 . conv => lhs; whnf
 . first | rfl | assumption
 . conv => lhs; whnf
 . first | exact bF1 ‹_› | exact bF2 ‹_› | rfl
|apply zj zi zN rfl
 . conv => lhs; whnf
 . conv => lhs; whnf
 . first | rfl | assumption
 . conv => lhs; whnf
 . rfl
 . conv => lhs; whnf; arg 1; whnf
 . first | exact z7 _
 . first | exact hs | exact hnx
 . exact fun _ => rfl
 . exact fun _ => rfl
|apply zd rfl
 . conv => lhs; whnf
 . conv => lhs; whnf
 . first | rfl | assumption
|apply zCT rfl
 . conv => lhs; whnf
 . rfl
 . rfl
|apply zCb rfl
 . conv => lhs; whnf
 . first | exact hf
 . first | exact fun _ => rfl | (intro _; simp only [renL,renV,ren_cells])
 change _ = Out.die _
|exact (K0 ‹_› ‹_›).elim
|exact (K2 ‹_› ‹_›).elim
|exact (K5 ‹_› ‹_›).elim
|exact (K7 ‹_›).elim
|refine zA ?_
|refine zB ?_
|refine zG ?_
|apply aw_1
 conv => whnf
 refine ⟨?_,trivial⟩
|apply zY rfl rfl
 . conv => lhs; whnf
 . conv => lhs; whnf
 . first | exact bT1 ‹_› | exact bT2 ‹_›
|apply zV rfl rfl
 . conv => lhs; whnf
 . conv => lhs; whnf
 . first | exact bF1 ‹_› | exact bF2 ‹_›
|apply s_1
 conv => whnf; arg 1; arg 4; arg 3; whnf
 refine ⟨?_,?_⟩
|apply ze rfl
 . conv => lhs; whnf
 . conv => lhs; whnf
 . first | exact hkd _
|apply zI rfl rfl rfl
 . conv => lhs; whnf
 . conv => lhs; whnf; arg 1; whnf
 . conv => lhs; whnf; arg 1; whnf
 . exact ⟨by kernel_rfl,by kernel_rfl⟩
 . rfl
|apply zD rfl
 . conv => lhs; whnf
 . conv => lhs; whnf
 . first | rfl | assumption
 . conv => lhs; whnf; arg 2; whnf
|apply zT rfl
 . conv => lhs; whnf
 . conv => lhs; whnf
 . conv => lhs; whnf; arg 2; whnf
|refine zg (by conv => lhs; whnf) ?_ ?_ <;> intro hb
|exact trivial
|intro hg)
       all_goals first
        | exact zBu _ _
        | rfl
        | skip
end Go.Proofs.YthjiclhfhjdjpaaGreatDoor
