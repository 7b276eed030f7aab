import Derived.Shelf.Strings.IndexAnyAll
import Derived.Shelf.Strconv.Escaped
import Derived.Laws.Runes
import Derived.WalkMore
import Derived.Shelf.RegionOpenPlain
import Derived.Lib.OthersKept
import Derived.Test.YtdlnnlglmifceaaGreatDoorQ26
set_option maxHeartbeats 8000000
set_option maxRecDepth 1000000
set_option linter.unusedVariables false
set_option linter.unusedSimpArgs false
namespace Go.Proofs.YtdlnnlglmifceaaGreatDoor
open Go.Shelf Go.RowKit Go.Lib
variable {P : Program} {ρ : Ren}
theorem zDZ {l : List UInt8} {b : UInt8} (h : ∀ c ∈ l,c.toNat < 128) (hb : 128 <= b.toNat) : Lib.indexByte l b = -1:=by
 have : l.contains b = false:=by
  rw [Bool.eq_false_iff]
  intro hc
  have:=h _ (List.contains_iff_mem.1 hc); omega
 have h2:=Lib.contains_iff_indexByte l b
 rw [this] at h2
 have h3 : ¬ (0 : Int) <= Lib.indexByte l b:=of_decide_eq_false h2.symm
 have h4:=Lib.indexAny_ge [b] l
 rw [Lib.indexAny_one] at h4
 omega
theorem zBA (L : Lays.n152 P ρ) (mixed : P.follows .mixedOrders = true) (s : ByteArray) (r : Int) (w : World) (h0 : 128 <= r) (h1 : r ≠ 65533) (hv : Lib.validRune r = true) (_hs : s.size < 1000) (hascii : ∀ (j : Nat) b,s.data.toList[j]? = some b -> b.toNat < 128) :
 Calls P (ρ.f 152) #[.string s,.int .i32 r] w fun e w' => e = .returned (.int .i64 (-1)) /\ (w' = w \/ w' = w.drew.drew):=by
 have HA : Aside (∀ (j : Nat) b,s.data.toList[j]? = some b -> b.toNat < 128):=hascii
 clear hascii
 have t3:=L.t3; have a3:=L.a3; have z3:=L.z3; have v3:=L.v3
 have t4:=L.t4; have a4:=L.a4; have z4:=L.z4; have v4:=L.v4
 have t5:=L.t5; have a5:=L.a5; have z5:=L.z5; have v5:=L.v5
 have t9:=L.t9; have a9:=L.a9; have z9:=L.z9; have v9:=L.v9
 have t21:=L.t21; have a21:=L.a21; have z21:=L.z21; have v21:=L.v21
 have e137 : ∀ args w,(callFunc (ρ.f 137) args).run P w = .ok (.enter (ρ.f 137) args) w:=enters_of L.f137 (by kernel_rfl) rfl
 have e119 : ∀ args w,(callFunc (ρ.f 119) args).run P w = .ok (.enter (ρ.f 119) args) w:=enters_of L.f119 (by kernel_rfl) rfl
 have n1 : decide (r < 128) = false:=decide_eq_false (by omega)
 have n0 : (0 : Int) <= r:=by omega
 have n01 : decide ((0 : Int) <= r) = true:=decide_eq_true n0
 have n3 : ¬ r < 128:=by omega
 have n2 : (r == 65533) = false:=beq_eq_false_iff_ne.2 h1
 have hvu : Utf8.valid r = true:=by rw [validRune_eq]; exact hv
 obtain ⟨m1,m2,m3⟩:=encode_facts r hvu h0
 have hconv : ∀ w,(convert (ρ.t 21) (ρ.t 9) (.int .i32 r)).run P w = .ok (.string (Utf8.encode r)) w:=fun w => run_convert_int_string w _ _ _ _ (by rw [t21]; rfl) t9
 generalize Utf8.encode r = rs at hconv m1 m2 m3
 obtain ⟨k,hk⟩ : ∃ k,rs.size = k + 1:=⟨rs.size - 1,by omega⟩
 have hw1 : IntKind.i64.wrap ((rs.size : Int) - 1) = (k : Int):=by rw [Go.wrap_small _ (by omega) (by omega)]; omega
 go_enter L.f152,Body.n152_ntmps ρ
 go_wp2_with (first
  | (go_at_fn (ρ.f 119); refine (Any.utf8_ValidRune { L with } _ _).mono ?_; rintro e w' ⟨rfl,hw⟩; rw [hw,hv])
  | (go_at_fn (ρ.f 137); refine (Any.strings_IndexByte { L with } _ _ _).mono ?_; rintro e w' ⟨rfl,hw⟩; rw [hw]))
 all_goals (try go_step3)
 all_goals go_wp2_with (first
  | (go_at_fn (ρ.f 137); refine (Any.strings_IndexByte { L with } _ _ _).mono ?_; rintro e w' ⟨rfl,hw⟩; rw [hw]))
 all_goals
  go_loopg [9] 1 (fun _ s9 wx => s9 = .int .i64 (k : Int) /\ wx = w)
  case atStart => exact ⟨rfl,rfl⟩
  case round =>
   obtain ⟨rfl,rfl⟩:=hrel
   by_cases hi : k < s.size
   . have hiz : (k : Int) < (s.size : Int):=by omega
     obtain ⟨x,hx⟩ : ∃ x : UInt8,s[k]'hi = x:=⟨_,rfl⟩
     have hi2 : k < rs.size:=by omega
     obtain ⟨y,hy⟩ : ∃ y : UInt8,rs[k]'hi2 = y:=⟨_,rfl⟩
     have hxl : s.data.toList[k]? = some x:=by rw [<- hx]; exact Lib.data_getElem? s _ hi
     have hx128:=HA.out _ _ hxl
     have hy128 : 128 <= y.toNat:=by
      have:=m3 (by omega)
      have e : rs.size - 1 = k:=by omega
      simp only [e] at this
      rw [hy] at this; exact this
     have hkz : (k : Int) < (rs.size : Int):=by omega
     have hsl : (k : Int) + 1 <= (s.size : Int):=by omega
     have hsl2 : ¬ (s.size : Int) < (k : Int) + 1:=by omega
     have hk0 : ¬ (k : Int) + 1 < 0:=by omega
     have hk1 : (0 : Int) <= (k : Int) + 1:=by omega
     have hwr : IntKind.i64.wrap ((k : Int) + 1) = (k : Int) + 1:=Go.wrap_small _ (by omega) (by omega)
     have hxy : ((x.toNat : Int) == (y.toNat : Int)) = false:=beq_eq_false_iff_ne.2 (by omega)
     have hidx : Lib.indexByte (List.take (s.size - (k + 1)) (List.drop (k + 1) s.data.toList)) y = -1:=zDZ (fun c hc => by
      obtain ⟨j,hj⟩:=List.getElem?_of_mem (List.mem_of_mem_drop (List.mem_of_mem_take hc))
      exact HA.out j c hj) hy128
     have hyy : ((y.toNat : Int)).toNat.toUInt8 = y:=by simp
     have hidx2 : Lib.indexByte (s.extract (k + 1) s.size).data.toList ((y.toNat : Int)).toNat.toUInt8 = -1:=by
      rw [hyy]
      exact zDZ (fun c hc => by
       obtain ⟨j,hj⟩:=List.getElem?_of_mem (mem_extract hc)
       exact HA.out j c hj) hy128
     go_wp2
     go_step3
     go_wp2
     go_region_o
     go_wp2
     go_region_with_o (go_at_fn (ρ.f 137); refine (Any.strings_IndexByte { L with } _ _ _).mono ?_; rintro e w' ⟨rfl,hw⟩; rw [hw]; rw [hidx2])
     go_wp2
     simp only [Exit.noGoto_ret,Exit.then,Exit.inBlock]
     go_ret
     exact ⟨rfl,.inr rfl⟩
   . have hiz : ¬ (k : Int) < (s.size : Int):=by omega
     go_wp2
     go_ret
     exact ⟨rfl,.inl rfl⟩
theorem get_at (s : ByteArray) (k : Nat) (hk : k < s.size) : s.get! k = s[k]'hk:=by
 simp [ByteArray.get!,getElem!_pos,hk]
 rfl
theorem zGc (s : ByteArray) (i : Nat) (h : i < s.size) (h2 : 128 <= (s[i]'h).toNat) : 128 <= (Utf8.decode s i).1 /\ Utf8.valid ((Utf8.decode s i).1 : Int) = true /\ 1 <= (Utf8.decode s i).2 /\ i + (Utf8.decode s i).2 <= s.size /\ ∀ j,i <= j -> j < i + (Utf8.decode s i).2 -> 128 <= (s.get! j).toNat:=by
 have g0 : (s.get! (i + 0)).toNat = (s[i]'h).toNat:=by rw [Nat.add_zero,get_at s i h]
 have g0' : 128 <= (s.get! i).toNat:=by rw [get_at s i h]; exact h2
 have lt : ∀ k,(s.get! k).toNat < 256:=fun k => UInt8.toNat_lt _
 have one : ∀ j,i <= j -> j < i + 1 -> 128 <= (s.get! j).toNat:=fun j h1 h3 => by
  obtain rfl : j = i:=by omega
  exact g0'
 unfold Utf8.decode
 simp only [Nat.add_zero,Bool.and_eq_true,decide_eq_true_eq,beq_iff_eq,ge_iff_le]
 generalize hb0 : (s.get! i).toNat = b0 at *
 have l1:=lt (i + 1)
 have l2:=lt (i + 2)
 have l3:=lt (i + 3)
 have ev : ∀ c : Nat,((128 <= c /\ c < 55296) \/ (57344 <= c /\ c <= 1114111)) -> Utf8.valid (c : Int) = true:=fun c hc => by
  unfold Utf8.valid
  simp
  rcases hc with hc | hc <;> omega
 rw [if_neg (by omega)]
 have cas : ∀ n,(∀ k,1 <= k -> k < n -> 128 <= (s.get! (i + k)).toNat) -> ∀ j,i <= j -> j < i + n -> 128 <= (s.get! j).toNat:=fun n hn j h1 h3 => by
  by_cases e : j = i
  . subst e; rw [hb0]; exact g0'
  . have:=hn (j - i) (by omega) (by omega)
    rwa [show i + (j - i) = j by omega] at this
 split
 . rename_i hc
   split
   . exact ⟨by omega,ev _ (by omega),by omega,by omega,cas 2 fun k h1 h3 => by
      obtain rfl : k = 1:=by omega
      omega⟩
   . exact ⟨by decide,by decide,by omega,by omega,one⟩
 . split
   . rename_i hc
     split
     . rename_i hv
       refine ⟨by omega,hv.2,by omega,by omega,cas 3 fun k h1 h3 => ?_⟩
       obtain rfl | rfl : k = 1 \/ k = 2:=by omega
       all_goals omega
     . exact ⟨by decide,by decide,by omega,by omega,one⟩
   . split
     . rename_i hc
       split
       . rename_i hv
         refine ⟨by omega,hv.2,by omega,by omega,cas 4 fun k h1 h3 => ?_⟩
         obtain rfl | rfl | rfl : k = 1 \/ k = 2 \/ k = 3:=by omega
         all_goals omega
       . exact ⟨by decide,by decide,by omega,by omega,one⟩
     . exact ⟨by decide,by decide,by omega,by omega,one⟩
theorem zB1 (L : Lays.n152 P ρ) (s : ByteArray) (w : World) (hascii : ∀ (j : Nat) b,s.data.toList[j]? = some b -> b.toNat < 128) :
 Calls P (ρ.f 152) #[.string s,.int .i32 65533] w fun e w' => e = .returned (.int .i64 (-1)) /\ w' = w.iter s s.size:=by
 have HA : Aside (∀ (j : Nat) b,s.data.toList[j]? = some b -> b.toNat < 128):=hascii
 clear hascii
 have t3:=L.t3; have a3:=L.a3; have z3:=L.z3; have v3:=L.v3
 have t4:=L.t4; have a4:=L.a4; have z4:=L.z4; have v4:=L.v4
 have t5:=L.t5; have a5:=L.a5; have z5:=L.z5; have v5:=L.v5
 have t9:=L.t9; have a9:=L.a9; have z9:=L.z9; have v9:=L.v9
 have t21:=L.t21; have a21:=L.a21; have z21:=L.z21; have v21:=L.v21
 go_enter L.f152,Body.n152_ntmps ρ
 go_wp2
 go_loopg [5,6] s.size (fun g _ _ wx => ∃ i : Nat,i + g = s.size /\ wx = w.iter s i)
 case atStart => exact ⟨0,by omega,rfl⟩
 case round =>
  obtain ⟨i,hig,rfl⟩:=hrel
  cases gk with
  | zero =>
    obtain rfl : i = s.size:=by omega
    have hnx:=run_next_end (P:=P) w s s.size
    go_wp2
    go_ret
    exact ⟨rfl,rfl⟩
  | succ g =>
    have hi : i < s.size:=by omega
    obtain ⟨x,hx⟩ : ∃ x : UInt8,s[i]'hi = x:=⟨_,rfl⟩
    have hxl : s.data.toList[i]? = some x:=by rw [<- hx]; exact Lib.data_getElem? s i hi
    have hx128 : x.toNat < 128:=HA.out i x hxl
    have hnx:=fun ty => run_next_ascii (P:=P) w s i ty hi (by rw [hx]; exact hx128)
    rw [hx] at hnx
    have hne : ((x.toNat : Int) == 65533) = false:=beq_eq_false_iff_ne.2 (by omega)
    have hne2 : ¬ (x.toNat : Int) = 65533:=by omega
    clear hxl hx
    go_wp2
    go_roundg g
    case measure => omega
    case rel => exact ⟨i + 1,by omega,rfl⟩
theorem zBg (L : Lays.n151 P ρ) (mixed : P.follows .mixedOrders = true) (s : ByteArray) (r : Int) (w : World) (h0 : 128 <= r) (h1 : r ≠ 65533) (hv : Lib.validRune r = true) (hs : s.size < 1000) (hascii : ∀ (j : Nat) b,s.data.toList[j]? = some b -> b.toNat < 128) :
 Calls P (ρ.f 151) #[.string s,.int .i32 r] w fun e w' => e = .returned (.bool false) /\ (w' = w \/ w' = w.drew.drew):=by
 have t3:=L.t3; have a3:=L.a3; have z3:=L.z3; have v3:=L.v3
 have t4:=L.t4; have a4:=L.a4; have z4:=L.z4; have v4:=L.v4
 have t9:=L.t9; have a9:=L.a9; have z9:=L.z9; have v9:=L.v9
 have t21:=L.t21; have a21:=L.a21; have z21:=L.z21; have v21:=L.v21
 have e152 : ∀ args w,(callFunc (ρ.f 152) args).run P w = .ok (.enter (ρ.f 152) args) w:=enters_of L.f152 (by kernel_rfl) rfl
 have hm:=zBA { L with } mixed s r w h0 h1 hv hs hascii
 clear hascii
 go_enter L.f151,Body.n151_ntmps ρ
 go_wp2_with (go_at_fn (ρ.f 152); refine hm.mono ?_; rintro e w' ⟨rfl,hw⟩)
 go_ret
 exact ⟨rfl,hw⟩
theorem zDb {B : Nat} {a w : World} (h : Go.RowKit.Below B a w) {k : Nat} (hk : B <= k) (s : ByteArray) (p : Nat) : Go.RowKit.Below B a (w.iterAt k s p):=
 h.trans ⟨rfl,rfl,rfl,by simp [World.iterAt],fun j hj => by
  show (w.heap.setIfInBounds k _)[j]? = _
  rw [Array.getElem?_setIfInBounds,if_neg (by omega)]⟩
theorem NoAny.jump {s : ByteArray} {chars : List UInt8} {i n : Nat} (h : Lib.NoAny s.data.toList chars i) (hc : ∀ b ∈ chars,b.toNat < 128) (hn : i + n <= s.size) (hb : ∀ j,i <= j -> j < i + n -> 128 <= (s.get! j).toNat) : Lib.NoAny s.data.toList chars (i + n):=by
 have : ∀ m,m <= n -> Lib.NoAny s.data.toList chars (i + m):=fun m => by
  induction m with
  | zero => exact fun _ => h
  | succ m ih =>
    intro hm
    have hlt : i + m < s.size:=by omega
    refine (ih (by omega)).succ (x:=s[i + m]) (Lib.data_getElem? s _ hlt) ?_
    rw [Bool.eq_false_iff]
    intro hx
    have h1:=hc _ (List.contains_iff_mem.1 hx)
    have h2:=hb (i + m) (by omega) (by omega)
    rw [get_at s _ hlt] at h2
    omega
 exact this n (Nat.le_refl _)
theorem zB8 (L : Lays.n153 P ρ) (mixed : P.follows .mixedOrders = true) (s chars : ByteArray) (w : World) (h2 : 2 <= chars.size) (hcs : chars.size < 1000) (h8 : s.size <= 8) (hascii : ∀ (j : Nat) b,chars.data.toList[j]? = some b -> b.toNat < 128) :
 Calls P (ρ.f 153) #[.string s,.string chars] w fun e w' => e = .returned (.int .i64 (Lib.indexAny s.data.toList chars.data.toList)) /\ Below w.heap.size w w':=by
 have HA : Aside (∀ b ∈ chars.data.toList,b.toNat < 128):=fun b hb => by
  obtain ⟨j,hj⟩:=List.getElem?_of_mem hb
  exact hascii j b hj
 have hrune : ∀ (c : Int) (wq : World),128 <= c -> Lib.validRune c = true -> Calls P (ρ.f 152) #[.string chars,.int .i32 c] wq fun e w' => e = .returned (.int .i64 (-1)) /\ Below wq.heap.size wq w':=fun c wq h1 hv => by
  by_cases e : c = 65533
  . subst e
    refine (zB1 { L with } chars wq hascii).mono ?_
    rintro e w' ⟨rfl,rfl⟩
    exact ⟨rfl,(Below.refl _ _).alloc (Nat.le_refl _) _⟩
  . refine (zBA { L with } mixed chars c wq h1 e hv hcs hascii).mono ?_
    rintro e w' ⟨rfl,rfl | rfl⟩
    . exact ⟨rfl,Below.refl _ _⟩
    . exact ⟨rfl,(Below.refl _ _).drew.drew⟩
 clear hascii
 have hemp : chars.toList.isEmpty = false:=by
  rw [Lib.toList_data]
  cases h : chars.data.toList with
  | nil => have:=Lib.size_eq chars; rw [h,List.length_nil] at this; omega
  | cons _ _ => rfl
 have hn1 : ((chars.size : Int) == 1) = false:=beq_eq_false_iff_ne.2 (by omega)
 have h8z : decide ((8 : Int) < (s.size : Int)) = false:=decide_eq_false (by omega)
 have t3:=L.t3; have a3:=L.a3; have z3:=L.z3; have v3:=L.v3
 have t4:=L.t4; have a4:=L.a4; have z4:=L.z4; have v4:=L.v4
 have t5:=L.t5; have a5:=L.a5; have z5:=L.z5; have v5:=L.v5
 have t9:=L.t9; have a9:=L.a9; have z9:=L.z9; have v9:=L.v9
 have t21:=L.t21; have a21:=L.a21; have z21:=L.z21; have v21:=L.v21
 have e152 : ∀ args w,(callFunc (ρ.f 152) args).run P w = .ok (.enter (ρ.f 152) args) w:=enters_of L.f152 (by kernel_rfl) rfl
 have e226 : ∀ args w,(callFunc (ρ.f 226) args).run P w = .ok (.enter (ρ.f 226) args) w:=enters_of L.f226 (by kernel_rfl) rfl
 go_enter L.f153,Body.n153_ntmps ρ
 go_wp2_with (go_at_fn (ρ.f 226); refine (Any.strings_shouldUseASCIISet { L with } _ _).mono ?_; rintro e w' ⟨rfl,hw⟩; rw [hw,h8z])
 go_loopg [9,10] s.size (fun g _ _ wx => ∃ i : Nat,i + g = s.size /\ wx.heap[w.heap.size]? = some (.stringIter s i) /\ Below w.heap.size w wx /\ Lib.NoAny s.data.toList chars.data.toList i)
 case atStart => exact ⟨0,by omega,World.iter_heap _ _ _,(Below.refl _ _).alloc (Nat.le_refl _) _,Lib.NoAny.zero _ _⟩
 case round =>
  obtain ⟨i,hig,hit,hbl,hno⟩:=hrel
  have HN : Aside (Lib.NoAny s.data.toList chars.data.toList i):=hno
  have HB : Aside (Below w.heap.size w wr):=hbl
  clear hno hbl
  cases gk with
  | zero =>
    obtain rfl : i = s.size:=by omega
    have hnx:=fun ty => run_next_end_at (P:=P) wr w.heap.size s s.size ty hit (by omega)
    clear hit
    go_wp2
    go_ret
    exact ⟨by rw [Lib.indexAny_none (by rw [<- Lib.size_eq]; exact HN.out)]; rfl,HB.out⟩
  | succ g =>
    have hi : i < s.size:=by omega
    obtain ⟨x,hx⟩ : ∃ x : UInt8,s[i]'hi = x:=⟨_,rfl⟩
    have hxl : s.data.toList[i]? = some x:=by rw [<- hx]; exact Lib.data_getElem? s i hi
    by_cases hx128 : x.toNat < 128
    . have hnx:=fun ty => run_next_ascii_at (P:=P) wr w.heap.size s i ty hit hi (by rw [hx]; exact hx128)
      have hit2:=iterAt_heap wr w.heap.size s i (i + 1) hit
      have HI : Aside ((wr.iterAt w.heap.size s (i + 1)).heap[w.heap.size]? = some (.stringIter s (i + 1)) /\ Below w.heap.size w (wr.iterAt w.heap.size s (i + 1))):=⟨hit2,zDb HB.out (Nat.le_refl _) _ _⟩
      clear hit2 hit
      rw [hx] at hnx
      have Hx : Aside (s.data.toList[i]? = some x):=hxl
      clear hxl hx
      have hcon:=Lib.contains_iff_indexByte chars.data.toList x
      have hback : ((x.toNat : Int)).toNat.toUInt8 = x:=by simp
      cases hin : chars.data.toList.contains x
      . rw [hin] at hcon
        have hlt : ¬ ((0 : Int) <= Lib.indexByte chars.data.toList x):=of_decide_eq_false hcon.symm
        clear hcon
        go_wp2_with (go_at_fn (ρ.f 152); refine (Any.strings_IndexRune_ascii { L with } _ _ _ (by omega) (by omega)).mono ?_; rintro e w' ⟨rfl,hw⟩; rw [hw,hback])
        go_roundg g
        case measure => omega
        case rel => exact ⟨i + 1,by omega,HI.out.1,HI.out.2,HN.out.succ Hx.out hin⟩
      . rw [hin] at hcon
        have hge : (0 : Int) <= Lib.indexByte chars.data.toList x:=of_decide_eq_true hcon.symm
        clear hcon
        go_wp2_with (go_at_fn (ρ.f 152); refine (Any.strings_IndexRune_ascii { L with } _ _ _ (by omega) (by omega)).mono ?_; rintro e w' ⟨rfl,hw⟩; rw [hw,hback])
        go_ret
        exact ⟨by rw [Lib.indexAny_hit HN.out Hx.out hin]; rfl,HI.out.2⟩
    . obtain ⟨d1,d2,d3,d4,d5⟩:=zGc s i hi (by rw [hx]; omega)
      have hnx:=fun ty => run_next_any_at (P:=P) wr w.heap.size s i ty hit hi
      have hj : Lib.NoAny s.data.toList chars.data.toList (i + (Utf8.decode s i).2):=NoAny.jump HN.out HA.out d4 d5
      have hv : Lib.validRune ((Utf8.decode s i).1 : Int) = true:=by rw [validRune_eq] at d2; exact d2
      clear d5 d2
      generalize Utf8.decode s i = q at *
      obtain ⟨c,n⟩:=q
      simp only at hnx hj hv d1 d3 d4
      have hit2:=iterAt_heap wr w.heap.size s i (i + n) hit
      have HI : Aside ((wr.iterAt w.heap.size s (i + n)).heap[w.heap.size]? = some (.stringIter s (i + n)) /\ Below w.heap.size w (wr.iterAt w.heap.size s (i + n)) /\ w.heap.size < (wr.iterAt w.heap.size s (i + n)).heap.size):=⟨hit2,zDb HB.out (Nat.le_refl _) _ _,(Array.getElem?_eq_some_iff.1 hit2).1⟩
      have HJ : Aside (Lib.NoAny s.data.toList chars.data.toList (i + n)):=hj
      have hc:=hrune c (wr.iterAt w.heap.size s (i + n)) (by omega) hv
      generalize wr.iterAt w.heap.size s (i + n) = wi at *
      clear hit2 hit hxl hx hj hv hrune
      go_wp2_with (go_at_fn (ρ.f 152); refine hc.mono ?_; rintro e w' ⟨rfl,hw⟩)
      go_roundg (s.size - (i + n))
      case measure => omega
      case rel => exact ⟨i + n,by omega,by rw [hw.block _ HI.out.2.2]; exact HI.out.1,HI.out.2.1.trans (hw.mono (Nat.le_of_lt HI.out.2.2)),HJ.out⟩
theorem zB7 (L : Lays.n153 P ρ) (mixed : P.follows .mixedOrders = true) (hv116 : ∀ w,(zeroValue (ρ.t 116)).run P w = .ok (.agg (Array.replicate 256 (.bool false))) w) (hi116 : (P.info? (ρ.t 116)).map (·.size) = some 256) (s chars : ByteArray) (w : World) (h2 : 2 <= chars.size) (hcs : chars.size < 1000) (hs : s.size < 4294967281) (hascii : ∀ (j : Nat) b,chars.data.toList[j]? = some b -> b.toNat < 128) :
 Calls P (ρ.f 153) #[.string s,.string chars] w fun e w' => e = .returned (.int .i64 (Lib.indexAny s.data.toList chars.data.toList)) /\ Below w.heap.size w w':=by
 by_cases h8 : s.size <= 8
 . exact zB8 L mixed s chars w h2 hcs h8 hascii
 . refine (Any.strings_IndexAny_long L hv116 hi116 s chars w h2 (by omega) hs (by omega) hascii).mono ?_
   rintro e w' ⟨rfl,rfl⟩
   exact ⟨rfl,((Below.refl _ _).alloc (Nat.le_refl _) _).alloc (by simp) _⟩
end Go.Proofs.YtdlnnlglmifceaaGreatDoor
namespace Go.Proofs.YtdlnnlglmifceaaGreatDoor
open Go.RowKit
attribute [local irreducible] wpList Calls Code.wp AW AWo OpOk seqK zAP zAR loopK endK AC zy Yld Sub
attribute [local irreducible] ACB ACX ACE absLexG YldG
section
variable {X : Cx} {nn : Nat} {st : Vst nn} {K : Exit -> Vst nn -> Prop}
theorem zW {c : Operand} {x y : Code} {b : Bool} (hc : ev st c = .c (.bool b)) (hb : b = true) (ht : AW X x st K) : AW X (.cond c x y) st K:=zT hc (fun _ => ht) (fun e => by rw [hb] at e; cases e)
theorem zS {c : Operand} {x y : Code} {b : Bool} (hc : ev st c = .c (.bool b)) (hb : b = false) (ht : AW X y st K) : AW X (.cond c x y) st K:=zT hc (fun e => by rw [hb] at e; cases e) (fun _ => ht)
end
theorem rel_cc {P : Program} {s : Sg} {w : World} {u v : Value} {us : Array Value} (h : relL P s w [.c u,.c v] us.toList) : us = #[u,v]:=by
 obtain ⟨l⟩:=us
 match l,h with
 | [],h => simp [relL] at h
 | [x],h => simp [relL] at h
 | [x,y],h =>
   simp only [relL,rel,and_true] at h
   obtain ⟨⟨rfl,-⟩,rfl,-⟩:=h
   rfl
 | x :: y :: z :: t,h => simp [relL] at h
theorem rel_b {P : Program} {s : Sg} {w : World} {b : Bool} : rel P s w (.c (.bool b)) (.bool b):=by rw [rel]; exact ⟨rfl,trivial⟩
theorem prefix_ac (s p : ByteArray) : AC EN5 Tryz.prog 110 [.c (.string s),.c (.string p)] (.c (.bool (Lib.hasPrefix s.data.toList p.data.toList))):=by
 refine zDB (u:=.bool (Lib.hasPrefix s.data.toList p.data.toList)) fun σ w us hus he => ?_
 obtain rfl:=rel_cc hus
 refine ⟨fun s' w' => rel_b,(Tryz.strings_HasPrefix s p w).mono ?_⟩
 rintro e w' ⟨rfl,rfl⟩
 exact ⟨rfl,Below.refl _ _⟩
theorem zIR {l : List UInt8} (h : ∀ b ∈ l,b.toNat < 128) : ∀ (j : Nat) b,l[j]? = some b -> b.toNat < 128:=fun j b hj => h b (List.mem_of_getElem? hj)
theorem zCf (x : List UInt8) (cs : List UInt8) : -1 <= Lib.indexAny x cs /\ Lib.indexAny x cs <= x.length:=by
 refine ⟨Lib.indexAny_ge _ _,?_⟩
 induction x with
 | nil => simp [Lib.indexAny]
 | cons c r ih =>
   unfold Lib.indexAny
   split
   . simp only [List.length_cons]; omega
   . split <;> simp only [List.length_cons] <;> omega
theorem indexNl_ac (x : ByteArray) (hx : x.size <= 1000000) : AC EN5 Tryz.prog 108 [.c (.string x),.c (.string { data:=#[10,13] })] (.c (.int .i64 (Lib.indexAny x.data.toList [10,13]))):=by
 refine zDB (u:=.int .i64 (Lib.indexAny x.data.toList [10,13])) fun σ w us hus he => ?_
 obtain rfl:=rel_cc hus
 have hl:=zCf x.data.toList [10,13]
 have hz : x.data.toList.length = x.size:=(Lib.size_eq x).symm
 have h116 : (Tryz.prog.info? (Tryz.lays153_ren.t 116)).map (fun i => (i.zero,i.size)) = some (some (.agg (Array.replicate 256 (.bool false))),256):=by kernel_rfl
 refine ⟨fun s' w' => zFZ (by omega),(zB7 Tryz.lays153 (by kernel_rfl) (zero_of_info h116).1 (zero_of_info h116).2 x { data:=#[10,13] } w (by decide) (by decide) (by omega) (zIR (by decide))).mono ?_⟩
 rintro e w' ⟨rfl,hb⟩
 exact ⟨rfl,hb⟩
def signsT : ByteArray:={ data:=#[33,36,38,40,41,58,61,64,91,93,123,124,125] }
theorem zAW (c : UInt8) : AC EN5 Tryz.prog 109 [.c (.string signsT),.c (.int .i32 (c.toNat : Int))] (.c (.bool (zAy c))):=by
 refine zDB (u:=.bool (zAy c)) fun σ w us hus he => ?_
 obtain rfl:=rel_cc hus
 refine ⟨fun s' w' => rel_b,?_⟩
 have hc:=c.toNat_lt
 by_cases h : c.toNat < 128
 . refine (Tryz.strings_ContainsRune_ascii signsT (c.toNat : Int) w (by omega) (by omega)).mono ?_
   rintro e w' ⟨rfl,rfl⟩
   have hb : ((c.toNat : Int)).toNat.toUInt8 = c:=by simp
   rw [hb,<- Lib.contains_iff_indexByte]
   exact ⟨rfl,Below.refl _ _⟩
 . have hs : zAy c = false:=by
    unfold zAy
    rw [Bool.eq_false_iff]
    intro hx
    have:=List.contains_iff_mem.1 hx
    have h3 : ∀ b ∈ ([33,36,38,40,41,58,61,64,91,93,123,124,125] : List UInt8),b.toNat < 128:=by decide
    exact h (h3 c this)
   rw [hs]
   refine (zBg Tryz.lays151 (by kernel_rfl) signsT (c.toNat : Int) w (by omega) (by omega) (by unfold Lib.validRune; exact decide_eq_true (by omega)) (by decide) (zIR (by decide))).mono ?_
   rintro e w' ⟨rfl,rfl | rfl⟩
   . exact ⟨rfl,Below.refl _ _⟩
   . exact ⟨rfl,(Below.refl _ _).drew.drew⟩
theorem skip_at {s : List UInt8} {k : Nat} (h : k < s.length) : skipM false (s.drop k) = if sepB s[k] then skipM false (s.drop (k + 1)) + 1 else if s[k] == 35 then skipM true (s.drop (k + 1)) + 1 else 0:=by
 rw [List.drop_eq_getElem_cons h,skipM]
theorem zF1 : ∀ l : List UInt8,skipM true l = if Lib.indexAny l [10,13] = -1 then l.length else (Lib.indexAny l [10,13]).toNat + skipM false (l.drop (Lib.indexAny l [10,13]).toNat)
 | [] => by simp [skipM,Lib.indexAny]
 | c :: r => by
   have ih:=zF1 r
   have hge:=Lib.indexAny_ge [10,13] r
   unfold Lib.indexAny
   by_cases h : ([10,13] : List UInt8).contains c = true
   . rw [if_pos h,if_neg (by decide)]
     show skipM true (c :: r) = 0 + skipM false (c :: r)
     have h2 : c = 10 \/ c = 13:=by simpa using List.contains_iff_mem.1 h
     rcases h2 with rfl | rfl <;> simp [skipM,sepB]
   . rw [if_neg h]
     have h2 : (c == 10 || c == 13) = false:=by
      rw [Bool.eq_false_iff]
      intro hx
      apply h
      rw [List.contains_iff_mem]
      simpa using hx
     rw [skipM,h2]
     simp only [Bool.false_eq_true,if_false]
     rw [ih]
     by_cases h3 : Lib.indexAny r [10,13] = -1
     . rw [if_pos h3,h3]; simp
     . have h4 : (Lib.indexAny r [10,13] == -1) = false:=by simpa using h3
       rw [if_neg h3,h4]
       simp only [Bool.false_eq_true,if_false]
       obtain ⟨n,hn⟩ : ∃ n : Nat,Lib.indexAny r [10,13] = n:=⟨(Lib.indexAny r [10,13]).toNat,by omega⟩
       rw [hn,if_neg (by omega)]
       have e : ((n : Int) + 1).toNat = n + 1:=by omega
       rw [e,Int.toNat_natCast,List.drop_succ_cons]
       omega
theorem zH8 (s : List UInt8) (k : Nat) : ((bs s).extract ((k : Int)).toNat (bs s).size).data.toList = s.drop k:=by
 have hz:=zAL s
 rw [ByteArray.data_extract,Array.toList_extract,zA2,Int.toNat_natCast,hz]
 simp [List.extract]
 exact List.take_of_length_le (by simp)
noncomputable def HSk (s : List UInt8) (k : Nat) : Vst 36:=stS 36 [(0,.c (.string (bs s))),(1,.c (.int .i64 (k : Int)))] []
theorem zBy {s : List UInt8} {k : Nat} (h : k < s.length) : zx (bs s) ((k : Int)).toNat = (s[k].toNat : Int):=by
 unfold zx
 rw [Int.toNat_natCast,zDh h]
theorem skip_ac (s : List UInt8) (i : Nat) (hi : i <= s.length) (hs : s.length <= 1000000) : AC EN5 Tryz.prog 73 [.c (.string (bs s)),.c (.int .i64 (i : Int))] (.c (.int .i64 ((i + skipM false (s.drop i) : Nat) : Int))):=by
 refine zX 36 Tryz.func73 rfl rfl rfl rfl ?_
 intro s0 w he
 repeat' (first
|refine zA ?_
|refine zI ?_
|refine zb ?_
|refine zU ?_
|refine za ?_
|apply aw_1
 conv => whnf
 refine ⟨?_,trivial⟩
|apply s_1
 conv => whnf; arg 1; arg 4; arg 3; whnf
 refine ⟨?_,?_⟩
|apply zt rfl
 . conv => lhs; whnf
 . conv => lhs; whnf; arg 2; whnf
|apply zd rfl
 . conv => lhs; whnf
 . conv => lhs; whnf
 . first | fail
|apply zN
 . conv => lhs; whnf; arg 1; arg 1; whnf
|apply zO
 . conv => lhs; whnf; arg 1; arg 1; whnf
|refine zT (by conv => lhs; whnf) ?_ ?_ <;> intro hb
|refine zj ?_
|refine zZ ?_
|refine zG ?_
|refine zK ?_
|refine zC ?_
|refine zB rfl ?_
|refine zE rfl ?_
|refine zF ?_
|refine zJ ?_
|refine zD ?_
|refine zL ?_
|refine z6 ?_
|refine zH ?_
|refine ⟨_,by conv => lhs; whnf; arg 2; whnf,?_⟩; conv => rhs; whnf
|exact trivial
|intro hg)
 refine z7 (fun j st => ∃ k,k + j = s.length /\ i + skipM false (s.drop i) = k + skipM false (s.drop k) /\ Sub (cx EN5 Tryz.prog s0 w he) st (HSk s k)) (s.length - i) ⟨i,by omega,rfl,?_⟩ ?_
 . exact Sub.live ⟨rfl,rfl,trivial⟩ trivial
 rintro j st ⟨k,hkj,hI,hs2⟩
 refine z8 hs2 ?_
 clear hs2
 rw [hI]
 clear hI
 have hz:=zAL s
 have hex : ((bs s).extract ((k : Int)).toNat (bs s).size).size <= 1000000:=by rw [ByteArray.size_extract]; omega
 have hix:=indexNl_ac ((bs s).extract ((k : Int)).toNat (bs s).size) hex
 by_cases hk : k < s.length
 . have f0 : decide ((k : Int) < ((bs s).size : Nat)) = true:=decide_eq_true (by omega)
   have hbt:=zBy hk
   have hsk:=skip_at hk
   have hdr : s.drop k = s[k] :: s.drop (k + 1):=List.drop_eq_getElem_cons hk
   generalize s[k] = c at hbt hsk hdr
   have q : ∀ n : Nat,n < 256 -> (zx (bs s) ((k : Int)).toNat == (n : Int)) = (c == UInt8.ofNat n):=fun n hn => by rw [hbt]; exact zD0 c n hn
   by_cases h32 : c = 32
   . have f32 : (zx (bs s) ((k : Int)).toNat == 32) = true:=(q 32 (by omega)).trans (by rw [h32]; rfl)
     have hs1 : skipM false (s.drop k) = skipM false (s.drop (k + 1)) + 1:=by rw [hsk,h32]; rfl
     repeat' (first
|apply zW
 . conv => lhs; whnf
 . assumption
|apply zS
 . conv => lhs; whnf
 . assumption
|refine zi ?_
|refine zf ?_
|refine zAH ?_
|refine zA ?_
|refine zI ?_
|refine zb ?_
|refine zU ?_
|refine za ?_
|apply aw_1
 conv => whnf
 refine ⟨?_,trivial⟩
|apply s_1
 conv => whnf; arg 1; arg 4; arg 3; whnf
 refine ⟨?_,?_⟩
|apply zt rfl
 . conv => lhs; whnf
 . conv => lhs; whnf; arg 2; whnf
|apply zd rfl
 . conv => lhs; whnf
 . conv => lhs; whnf
 . first | exact hix
|apply zN
 . conv => lhs; whnf; arg 1; arg 1; whnf
|apply zO
 . conv => lhs; whnf; arg 1; arg 1; whnf
|refine zT (by conv => lhs; whnf) ?_ ?_ <;> intro hb
|refine zj ?_
|refine zZ ?_
|refine zG ?_
|refine zK ?_
|refine zC ?_
|refine zB rfl ?_
|refine zE rfl ?_
|refine zF ?_
|refine zJ ?_
|refine zD ?_
|refine zL ?_
|refine z6 ?_
|refine zH ?_
|refine ⟨_,by conv => lhs; whnf; arg 2; whnf,?_⟩; conv => rhs; whnf
|exact trivial
|intro hg)
     all_goals first
      | exact zo (by omega)
      | exact ⟨by kernel_rfl,by omega,by rw [zAL]; omega⟩
      | exact (show Tryz.prog.underlying _ = some TypeDesc.string by kernel_rfl)
      | refine zh (j':=j - 1) (by omega) ⟨k + 1,by omega,by omega,Sub.live ⟨rfl,rfl,trivial⟩ trivial⟩
   have f32 : (zx (bs s) ((k : Int)).toNat == 32) = false:=(q 32 (by omega)).trans (by simpa using h32)
   by_cases h9 : c = 9
   . have f9 : (zx (bs s) ((k : Int)).toNat == 9) = true:=(q 9 (by omega)).trans (by rw [h9]; rfl)
     have hs1 : skipM false (s.drop k) = skipM false (s.drop (k + 1)) + 1:=by rw [hsk,h9]; rfl
     repeat' (first
|apply zW
 . conv => lhs; whnf
 . assumption
|apply zS
 . conv => lhs; whnf
 . assumption
|refine zi ?_
|refine zf ?_
|refine zAH ?_
|refine zA ?_
|refine zI ?_
|refine zb ?_
|refine zU ?_
|refine za ?_
|apply aw_1
 conv => whnf
 refine ⟨?_,trivial⟩
|apply s_1
 conv => whnf; arg 1; arg 4; arg 3; whnf
 refine ⟨?_,?_⟩
|apply zt rfl
 . conv => lhs; whnf
 . conv => lhs; whnf; arg 2; whnf
|apply zd rfl
 . conv => lhs; whnf
 . conv => lhs; whnf
 . first | exact hix
|apply zN
 . conv => lhs; whnf; arg 1; arg 1; whnf
|apply zO
 . conv => lhs; whnf; arg 1; arg 1; whnf
|refine zT (by conv => lhs; whnf) ?_ ?_ <;> intro hb
|refine zj ?_
|refine zZ ?_
|refine zG ?_
|refine zK ?_
|refine zC ?_
|refine zB rfl ?_
|refine zE rfl ?_
|refine zF ?_
|refine zJ ?_
|refine zD ?_
|refine zL ?_
|refine z6 ?_
|refine zH ?_
|refine ⟨_,by conv => lhs; whnf; arg 2; whnf,?_⟩; conv => rhs; whnf
|exact trivial
|intro hg)
     all_goals first
      | exact zo (by omega)
      | exact ⟨by kernel_rfl,by omega,by rw [zAL]; omega⟩
      | exact (show Tryz.prog.underlying _ = some TypeDesc.string by kernel_rfl)
      | refine zh (j':=j - 1) (by omega) ⟨k + 1,by omega,by omega,Sub.live ⟨rfl,rfl,trivial⟩ trivial⟩
   have f9 : (zx (bs s) ((k : Int)).toNat == 9) = false:=(q 9 (by omega)).trans (by simpa using h9)
   by_cases h10 : c = 10
   . have f10 : (zx (bs s) ((k : Int)).toNat == 10) = true:=(q 10 (by omega)).trans (by rw [h10]; rfl)
     have hs1 : skipM false (s.drop k) = skipM false (s.drop (k + 1)) + 1:=by rw [hsk,h10]; rfl
     repeat' (first
|apply zW
 . conv => lhs; whnf
 . assumption
|apply zS
 . conv => lhs; whnf
 . assumption
|refine zi ?_
|refine zf ?_
|refine zAH ?_
|refine zA ?_
|refine zI ?_
|refine zb ?_
|refine zU ?_
|refine za ?_
|apply aw_1
 conv => whnf
 refine ⟨?_,trivial⟩
|apply s_1
 conv => whnf; arg 1; arg 4; arg 3; whnf
 refine ⟨?_,?_⟩
|apply zt rfl
 . conv => lhs; whnf
 . conv => lhs; whnf; arg 2; whnf
|apply zd rfl
 . conv => lhs; whnf
 . conv => lhs; whnf
 . first | exact hix
|apply zN
 . conv => lhs; whnf; arg 1; arg 1; whnf
|apply zO
 . conv => lhs; whnf; arg 1; arg 1; whnf
|refine zT (by conv => lhs; whnf) ?_ ?_ <;> intro hb
|refine zj ?_
|refine zZ ?_
|refine zG ?_
|refine zK ?_
|refine zC ?_
|refine zB rfl ?_
|refine zE rfl ?_
|refine zF ?_
|refine zJ ?_
|refine zD ?_
|refine zL ?_
|refine z6 ?_
|refine zH ?_
|refine ⟨_,by conv => lhs; whnf; arg 2; whnf,?_⟩; conv => rhs; whnf
|exact trivial
|intro hg)
     all_goals first
      | exact zo (by omega)
      | exact ⟨by kernel_rfl,by omega,by rw [zAL]; omega⟩
      | exact (show Tryz.prog.underlying _ = some TypeDesc.string by kernel_rfl)
      | refine zh (j':=j - 1) (by omega) ⟨k + 1,by omega,by omega,Sub.live ⟨rfl,rfl,trivial⟩ trivial⟩
   have f10 : (zx (bs s) ((k : Int)).toNat == 10) = false:=(q 10 (by omega)).trans (by simpa using h10)
   by_cases h13 : c = 13
   . have f13 : (zx (bs s) ((k : Int)).toNat == 13) = true:=(q 13 (by omega)).trans (by rw [h13]; rfl)
     have hs1 : skipM false (s.drop k) = skipM false (s.drop (k + 1)) + 1:=by rw [hsk,h13]; rfl
     repeat' (first
|apply zW
 . conv => lhs; whnf
 . assumption
|apply zS
 . conv => lhs; whnf
 . assumption
|refine zi ?_
|refine zf ?_
|refine zAH ?_
|refine zA ?_
|refine zI ?_
|refine zb ?_
|refine zU ?_
|refine za ?_
|apply aw_1
 conv => whnf
 refine ⟨?_,trivial⟩
|apply s_1
 conv => whnf; arg 1; arg 4; arg 3; whnf
 refine ⟨?_,?_⟩
|apply zt rfl
 . conv => lhs; whnf
 . conv => lhs; whnf; arg 2; whnf
|apply zd rfl
 . conv => lhs; whnf
 . conv => lhs; whnf
 . first | exact hix
|apply zN
 . conv => lhs; whnf; arg 1; arg 1; whnf
|apply zO
 . conv => lhs; whnf; arg 1; arg 1; whnf
|refine zT (by conv => lhs; whnf) ?_ ?_ <;> intro hb
|refine zj ?_
|refine zZ ?_
|refine zG ?_
|refine zK ?_
|refine zC ?_
|refine zB rfl ?_
|refine zE rfl ?_
|refine zF ?_
|refine zJ ?_
|refine zD ?_
|refine zL ?_
|refine z6 ?_
|refine zH ?_
|refine ⟨_,by conv => lhs; whnf; arg 2; whnf,?_⟩; conv => rhs; whnf
|exact trivial
|intro hg)
     all_goals first
      | exact zo (by omega)
      | exact ⟨by kernel_rfl,by omega,by rw [zAL]; omega⟩
      | exact (show Tryz.prog.underlying _ = some TypeDesc.string by kernel_rfl)
      | refine zh (j':=j - 1) (by omega) ⟨k + 1,by omega,by omega,Sub.live ⟨rfl,rfl,trivial⟩ trivial⟩
   have f13 : (zx (bs s) ((k : Int)).toNat == 13) = false:=(q 13 (by omega)).trans (by simpa using h13)
   by_cases h44 : c = 44
   . have f44 : (zx (bs s) ((k : Int)).toNat == 44) = true:=(q 44 (by omega)).trans (by rw [h44]; rfl)
     have hs1 : skipM false (s.drop k) = skipM false (s.drop (k + 1)) + 1:=by rw [hsk,h44]; rfl
     repeat' (first
|apply zW
 . conv => lhs; whnf
 . assumption
|apply zS
 . conv => lhs; whnf
 . assumption
|refine zi ?_
|refine zf ?_
|refine zAH ?_
|refine zA ?_
|refine zI ?_
|refine zb ?_
|refine zU ?_
|refine za ?_
|apply aw_1
 conv => whnf
 refine ⟨?_,trivial⟩
|apply s_1
 conv => whnf; arg 1; arg 4; arg 3; whnf
 refine ⟨?_,?_⟩
|apply zt rfl
 . conv => lhs; whnf
 . conv => lhs; whnf; arg 2; whnf
|apply zd rfl
 . conv => lhs; whnf
 . conv => lhs; whnf
 . first | exact hix
|apply zN
 . conv => lhs; whnf; arg 1; arg 1; whnf
|apply zO
 . conv => lhs; whnf; arg 1; arg 1; whnf
|refine zT (by conv => lhs; whnf) ?_ ?_ <;> intro hb
|refine zj ?_
|refine zZ ?_
|refine zG ?_
|refine zK ?_
|refine zC ?_
|refine zB rfl ?_
|refine zE rfl ?_
|refine zF ?_
|refine zJ ?_
|refine zD ?_
|refine zL ?_
|refine z6 ?_
|refine zH ?_
|refine ⟨_,by conv => lhs; whnf; arg 2; whnf,?_⟩; conv => rhs; whnf
|exact trivial
|intro hg)
     all_goals first
      | exact zo (by omega)
      | exact ⟨by kernel_rfl,by omega,by rw [zAL]; omega⟩
      | exact (show Tryz.prog.underlying _ = some TypeDesc.string by kernel_rfl)
      | refine zh (j':=j - 1) (by omega) ⟨k + 1,by omega,by omega,Sub.live ⟨rfl,rfl,trivial⟩ trivial⟩
   have f44 : (zx (bs s) ((k : Int)).toNat == 44) = false:=(q 44 (by omega)).trans (by simpa using h44)
   have hns : sepB c = false:=by simp [sepB,h32,h9,h10,h13,h44]
   by_cases h35 : c = 35
   . have f35 : (zx (bs s) ((k : Int)).toNat == 35) = true:=(q 35 (by omega)).trans (by rw [h35]; rfl)
     have hx:=zH8 s k
     have hcm : skipM false (s.drop k) = skipM true (s.drop k):=by rw [hsk,hns,hdr,h35]; rfl
     have hco:=zF1 (s.drop k)
     rw [<- hcm] at hco
     have hra:=zCf (s.drop k) [10,13]
     rw [List.length_drop] at hra
     have h1 : Lib.indexAny (s.drop k) [10,13] ≠ 0:=by
      rw [hdr,h35]
      have:=Lib.indexAny_ge [10,13] (s.drop (k + 1))
      unfold Lib.indexAny
      rw [if_neg (by decide)]
      split
      . decide
      . rename_i hq
        have hq2 : ¬ Lib.indexAny (s.drop (k + 1)) [10,13] = -1:=by simpa using hq
        omega
     rw [hx] at hix
     repeat' (first
|apply zW
 . conv => lhs; whnf
 . assumption
|apply zS
 . conv => lhs; whnf
 . assumption
|refine zi ?_
|refine zf ?_
|refine zAH ?_
|refine zA ?_
|refine zI ?_
|refine zb ?_
|refine zU ?_
|refine za ?_
|apply aw_1
 conv => whnf
 refine ⟨?_,trivial⟩
|apply s_1
 conv => whnf; arg 1; arg 4; arg 3; whnf
 refine ⟨?_,?_⟩
|apply zt rfl
 . conv => lhs; whnf
 . conv => lhs; whnf; arg 2; whnf
|apply zd rfl
 . conv => lhs; whnf
 . conv => lhs; whnf
 . first | exact hix
|apply zN
 . conv => lhs; whnf; arg 1; arg 1; whnf
|apply zO
 . conv => lhs; whnf; arg 1; arg 1; whnf
|refine zT (by conv => lhs; whnf) ?_ ?_ <;> intro hb
|refine zj ?_
|refine zZ ?_
|refine zG ?_
|refine zK ?_
|refine zC ?_
|refine zB rfl ?_
|refine zE rfl ?_
|refine zF ?_
|refine zJ ?_
|refine zD ?_
|refine zL ?_
|refine z6 ?_
|refine zH ?_
|refine ⟨_,by conv => lhs; whnf; arg 2; whnf,?_⟩; conv => rhs; whnf
|exact trivial
|intro hg)
     . obtain ⟨n,hn⟩ : ∃ n : Nat,Lib.indexAny (s.drop k) [10,13] = n:=⟨(Lib.indexAny (s.drop k) [10,13]).toNat,by simp at hb; omega⟩
       rw [hn] at hco hra h1 |-
       rw [if_neg (by omega),Int.toNat_natCast,List.drop_drop] at hco
       refine zh (j':=j - n) (by omega) ⟨k + n,by omega,by omega,Sub.live ⟨rfl,rfl,trivial⟩ trivial⟩
     . exact zo (by omega)
     . have h2 : Lib.indexAny (s.drop k) [10,13] = -1:=by simp at hb; omega
       rw [if_pos h2,List.length_drop] at hco
       refine zh (j':=0) (by omega) ⟨s.length,by omega,by rw [hco,List.drop_length]; show k + (s.length - k) = s.length + 0; omega,Sub.live ⟨rfl,?_,trivial⟩ trivial⟩
       show V.c (.int .i64 ((bs s).size : Nat)) = V.c (.int .i64 (s.length : Nat))
       rw [hz]
     all_goals first
      | exact (show Tryz.prog.underlying _ = some TypeDesc.string by kernel_rfl)
      | exact ⟨by kernel_rfl,by omega,by rw [zAL]; omega⟩
   have f35 : (zx (bs s) ((k : Int)).toNat == 35) = false:=(q 35 (by omega)).trans (by simpa using h35)
   have hs1 : skipM false (s.drop k) = 0:=by rw [hsk,hns]; simp [h35]
   repeat' (first
|apply zW
 . conv => lhs; whnf
 . assumption
|apply zS
 . conv => lhs; whnf
 . assumption
|refine zi ?_
|refine zf ?_
|refine zAH ?_
|refine zA ?_
|refine zI ?_
|refine zb ?_
|refine zU ?_
|refine za ?_
|apply aw_1
 conv => whnf
 refine ⟨?_,trivial⟩
|apply s_1
 conv => whnf; arg 1; arg 4; arg 3; whnf
 refine ⟨?_,?_⟩
|apply zt rfl
 . conv => lhs; whnf
 . conv => lhs; whnf; arg 2; whnf
|apply zd rfl
 . conv => lhs; whnf
 . conv => lhs; whnf
 . first | exact hix
|apply zN
 . conv => lhs; whnf; arg 1; arg 1; whnf
|apply zO
 . conv => lhs; whnf; arg 1; arg 1; whnf
|refine zT (by conv => lhs; whnf) ?_ ?_ <;> intro hb
|refine zj ?_
|refine zZ ?_
|refine zG ?_
|refine zK ?_
|refine zC ?_
|refine zB rfl ?_
|refine zE rfl ?_
|refine zF ?_
|refine zJ ?_
|refine zD ?_
|refine zL ?_
|refine z6 ?_
|refine zH ?_
|refine ⟨_,by conv => lhs; whnf; arg 2; whnf,?_⟩; conv => rhs; whnf
|exact trivial
|intro hg)
   . rw [hs1]; rfl
   all_goals first
    | exact (show Tryz.prog.underlying _ = some TypeDesc.string by kernel_rfl)
    | exact ⟨by kernel_rfl,by omega,by rw [zAL]; omega⟩
 . have f0 : decide ((k : Int) < ((bs s).size : Nat)) = false:=decide_eq_false (by omega)
   have hs1 : skipM false (s.drop k) = 0:=by rw [List.drop_of_length_le (by omega)]; rfl
   repeat' (first
|apply zW
 . conv => lhs; whnf
 . assumption
|apply zS
 . conv => lhs; whnf
 . assumption
|refine zi ?_
|refine zf ?_
|refine zAH ?_
|refine zA ?_
|refine zI ?_
|refine zb ?_
|refine zU ?_
|refine za ?_
|apply aw_1
 conv => whnf
 refine ⟨?_,trivial⟩
|apply s_1
 conv => whnf; arg 1; arg 4; arg 3; whnf
 refine ⟨?_,?_⟩
|apply zt rfl
 . conv => lhs; whnf
 . conv => lhs; whnf; arg 2; whnf
|apply zd rfl
 . conv => lhs; whnf
 . conv => lhs; whnf
 . first | exact hix
|apply zN
 . conv => lhs; whnf; arg 1; arg 1; whnf
|apply zO
 . conv => lhs; whnf; arg 1; arg 1; whnf
|refine zT (by conv => lhs; whnf) ?_ ?_ <;> intro hb
|refine zj ?_
|refine zZ ?_
|refine zG ?_
|refine zK ?_
|refine zC ?_
|refine zB rfl ?_
|refine zE rfl ?_
|refine zF ?_
|refine zJ ?_
|refine zD ?_
|refine zL ?_
|refine z6 ?_
|refine zH ?_
|refine ⟨_,by conv => lhs; whnf; arg 2; whnf,?_⟩; conv => rhs; whnf
|exact trivial
|intro hg)
   . rw [hs1]; rfl
   . exact (show Tryz.prog.underlying _ = some TypeDesc.string by kernel_rfl)
end Go.Proofs.YtdlnnlglmifceaaGreatDoor
