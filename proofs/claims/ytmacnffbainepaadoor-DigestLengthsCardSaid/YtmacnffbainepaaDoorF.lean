/- The padded message, in the reference's text. -/
import Derived.Test.YtmacnffbainepaaDoorD
import Derived.Test.YtmacnffbainepaaDoorMem
namespace Go.Proofs.YtmacnffbainepaaDoor
open Go.RowKit
attribute [local irreducible] ws rnds blockI wpList Calls Code.wp
def padN (n : Nat) : Nat := (119 - n % 64) % 64
theorem padN_end (n : Nat) : (n + 1 + padN n) % 64 = 56 := by unfold padN; omega
theorem padN_before (n k : Nat) (h : k < padN n) : ¬ (n + 1 + k) % 64 = 56 := by unfold padN at h; omega
theorem padN_le (n : Nat) : padN n < 64 := by unfold padN; omega
/-- the first k bytes of the length in bits -/
def lenTo (n : Nat) (k : Nat) : List Int := (List.range k).map fun i => ((n : Int) * 8) / 2 ^ (56 - 8 * i) % 256
theorem lenTo_succ (n k : Nat) : lenTo n (k + 1) = lenTo n k ++ [((n : Int) * 8) / 2 ^ (56 - 8 * k) % 256] := by simp [lenTo, List.range_succ]
theorem lenTo_length (n k : Nat) : (lenTo n k).length = k := by simp [lenTo]
def msgI (L : List Int) : List Int := (L ++ [128]) ++ List.replicate (padN L.length) 0 ++ lenTo L.length 8
theorem msgI_length (L : List Int) : (msgI L).length % 64 = 0 := by
  have := padN_end L.length
  simp [msgI, lenTo_length]; omega
theorem u8info : (Tryd.prog.info? 5).map (fun i => (i.zero, i.size, i.bytes)) = some (some (.int .u8 0), 1, 1) := by kernel_rfl
def ints (k : IntKind) (l : List Int) : List Value := l.map (Value.int k)
theorem ints_length (k : IntKind) (l : List Int) : (ints k l).length = l.length := by simp [ints]
theorem ints_append (k : IntKind) (l m : List Int) : ints k (l ++ m) = ints k l ++ ints k m := by simp [ints]
/-- a new slice of bytes that reads as M -/
def NewBytes (M : List Int) (w : World) (e : Ending) (w' : World) : Prop :=
  ∃ g c, e = .returned (.slice (some ⟨g, 0, none⟩) M.length c) ∧ w'.ownsRow w.heap.size 5 1 (.slice (some ⟨g, 0, none⟩) M.length c) M.length (ints .u8 M) ∧ Below w.heap.size w w'
set_option maxRecDepth 100000 in
set_option maxHeartbeats 1000000 in
theorem message16 (L : List Int) (A : Option Addr) (cap : Nat) (I : Nat → Prop) (w : World) (hI : ∀ k, I k → k < w.heap.size) (hr : Rd w I 1 A L.length (ints .u8 L)) (hn : L.length ≤ 1000000) :
    Calls Tryd.prog 16 #[.slice A L.length cap] w (NewBytes (msgI L) w) := by
  have hI' : ∀ wr, Below w.heap.size w wr → Rd wr I 1 A L.length (ints .u8 L) := fun wr hb => hr.same (Same.below hb hI)
  have HI := Lib.hid hI'; clear hI'
  have HR := Lib.hid hr; clear hr
  have HII := Lib.hid hI; clear hI
  have hone : ∀ l : List Int, ∀ u ∈ ints .u8 l, u.oneCell' = true := fun l u hu => by
    obtain ⟨x, _, rfl⟩ := List.mem_map.1 hu; rfl
  have HO := Lib.hid hone; clear hone
  have hn0 : ∃ n, n = L.length := ⟨_, rfl⟩
  obtain ⟨n, hn1⟩ := hn0
  rw [← hn1] at HR HI hn ⊢
  have Hn1 := Lib.hid hn1; clear hn1
  go_enter Tryd.func16, Tryd.ntmps16
  go_wp2_with (first
    | (at_builtin; refine append_read (o := ⟨some 8, _, _, _, _, _⟩) rfl (.tmp 6) (.tmp 7) 22 rfl w.heap.size 5 _ 1 1 Tryd.underlying22 u8info rfl (by decide) (.slice none 0 0) 0 [] (World.ownsRow_nil _ _ _ _) A n cap (ints .u8 L) I HR.out (HO.out L) rfl rfl (by simp only [maxLen]; omega) (by omega) (Nat.le_refl _) ?_; intro v1 w1 hown1 hg1 hat1 hsh1)
    | (at_builtin; refine append_new (w := w1) (o := ⟨some 11, _, _, _, _, _⟩) rfl (.tmp 9) (.tmp 10) 22 rfl w.heap.size 5 _ 1 1 Tryd.underlying22 u8info rfl (by decide) v1 (0 + n) ([] ++ ints .u8 L) hown1 #[.int .u8 128] 1 rfl rfl rfl rfl (by simp only [maxLen]; omega) (by omega) hg1.size ?_; intro v2 w2 hown2 hg2 hsz2 hat2 hsh2; obtain ⟨g2, c2, rfl⟩ := hsh2 (by omega)))
  have hb1 : Below w.heap.size w w1 := (Below.refl _ _).grown hg1 (Nat.le_refl _) (by simp [Value.ownBlock])
  have hb2 : Below w.heap.size w w2 := by
    refine hb1.grown hg2 hb1.size (fun k hk => ?_)
    rcases hat1 with e' | ⟨g, e', hge⟩
    · rw [e'] at hk; simp [Value.ownBlock] at hk
    · rw [e'] at hk; injection hk with hk; omega
  have hown2' : w2.ownsRow w.heap.size 5 1 (.slice (some ⟨g2, 0, none⟩) (n + 1 + 0) c2) (n + 1 + 0) (ints .u8 (L ++ [128] ++ List.replicate 0 0)) := by
    have e0 : [] ++ ints .u8 L ++ (#[Value.int .u8 128]).toList = ints .u8 (L ++ [128] ++ List.replicate 0 0) := by simp [ints]
    rw [← e0]
    have e1 : 0 + n + 1 = n + 1 + 0 := by omega
    rw [e1] at hown2
    exact hown2
  clear hown2 hg1 hat1 hsh1 hown1 hg2 hsz2 hat2 hsh2 hb1
  have hp64 := padN_le n
  have hpe := padN_end n
  have hpb := padN_before n
  obtain ⟨p, hp⟩ : ∃ p, p = padN n := ⟨_, rfl⟩
  rw [← hp] at hp64 hpe hpb
  have Hp := Lib.hid hp; have Hpe := Lib.hid hpe; have Hpb := Lib.hid hpb
  clear hp hpe hpb
  go_loopg [3] p (fun j v wr => ∃ k g c : Nat, k + j = p ∧ v = .slice (some ⟨g, 0, none⟩) (n + 1 + k) c ∧ wr.ownsRow w.heap.size 5 1 v (n + 1 + k) (ints .u8 (L ++ [128] ++ List.replicate k 0)) ∧ Below w.heap.size w wr)
  case atStart => exact ⟨0, g2, c2, by omega, rfl, hown2', hb2⟩
  case round =>
    clear hown2' hb2
    obtain ⟨k, g, c, hkj, rfl, hown, hb⟩ := hrel
    have hkp : k ≤ p := by omega
    by_cases hlt : k < p
    · have hne := Hpb.out k hlt
      have Hkj := Lib.hid hkj; clear hkj
      go_wp2_with (at_builtin; refine append_new (o := ⟨some 18, _, _, _, _, _⟩) rfl (.tmp 16) (.tmp 17) 22 rfl w.heap.size 5 _ 1 1 Tryd.underlying22 u8info rfl (by decide) _ _ _ hown #[.int .u8 0] 1 rfl rfl rfl rfl (by simp only [maxLen]; omega) (by omega) hb.size ?_; intro v' w' hown' hg' hsz' hat' hsh'; obtain ⟨g', c', rfl⟩ := hsh' (by omega))
      go_roundg (gk - 1)
      case measure => have := Hkj.out; omega
      case rel =>
        refine ⟨k + 1, g', c', by have := Hkj.out; omega, rfl, ?_, hb.grown hg' hb.size (fun x hx => (hown.lt x hx).1)⟩
        have e0 : ints .u8 (L ++ [128] ++ List.replicate k 0) ++ (#[Value.int .u8 0]).toList = ints .u8 (L ++ [128] ++ List.replicate (k + 1) 0) := by simp [ints, List.replicate_succ', ← List.append_assoc]
        rw [← e0]
        exact hown'
    · have hkp' : k = p := by omega
      subst hkp'
      have hpe := Hpe.out
      clear hkj
      have hd : (((n : Int) + 1 + k) % 64 != 56) = false := by rw [bne_eq_false_iff_eq]; omega
      clear hpe
      go_wp2
      clear hd
      have hpe := Hpe.out
      have hsl : ((n : Int) + 1 + k) % 64 = 56 := by omega
      obtain ⟨P1, hP1⟩ : ∃ P1, P1 = L ++ [128] ++ List.replicate k 0 := ⟨_, rfl⟩
      rw [← hP1] at hown
      have HP1 := Lib.hid hP1; clear hP1
      clear hpe hsl
      go_loopg [3, 5] 8 (fun j v i wr => ∃ m g c : Nat, m + j = 8 ∧ i = .int .i64 m ∧ v = .slice (some ⟨g, 0, none⟩) (n + 1 + k + m) c ∧ wr.ownsRow w.heap.size 5 1 v (n + 1 + k + m) (ints .u8 (P1 ++ lenTo n m)) ∧ Below w.heap.size w wr)
      case atStart => exact ⟨0, g, c, by omega, rfl, rfl, by simpa [lenTo] using hown, hb⟩
      case round =>
        clear hown hb
        obtain ⟨m, g, c, hm, rfl, rfl, hown, hb⟩ := hrel
        have Hm := Lib.hid hm; have hm' : m ≤ 8 := by omega
        clear hm
        by_cases hlt : m < 8
        · go_wp2_with (at_builtin; refine append_new (o := ⟨some 36, _, _, _, _, _⟩) rfl (.tmp 27) (.tmp 35) 22 rfl w.heap.size 5 _ 1 1 Tryd.underlying22 u8info rfl (by decide) _ _ _ hown #[.int .u8 ((n : Int) * 8 / 2 ^ (56 - 8 * m) % 256)] 1 rfl rfl rfl rfl (by simp only [maxLen]; omega) (by omega) hb.size ?_; intro v' w' hown' hg' hsz' hat' hsh'; obtain ⟨g', c', rfl⟩ := hsh' (by omega))
          go_roundg (gk - 1)
          case rel =>
            refine ⟨m + 1, g', c', by have := Hm.out; omega, by go_num, rfl, ?_, hb.grown hg' hb.size (fun x hx => (hown.lt x hx).1)⟩
            have e0 : ints .u8 (P1 ++ lenTo n m) ++ (#[Value.int .u8 ((n : Int) * 8 / 2 ^ (56 - 8 * m) % 256)]).toList = ints .u8 (P1 ++ lenTo n (m + 1)) := by rw [lenTo_succ]; simp [ints]
            rw [← e0]
            exact hown'
          case measure => have := Hm.out; omega
        · have hm8 : m = 8 := by omega
          have E : ints .u8 (P1 ++ lenTo n m) = ints .u8 (msgI L) := by rw [hm8, HP1.out, Hn1.out, Hp.out, Hn1.out]; rfl
          have E2 : n + 1 + k + m = (msgI L).length := by
            have := hown.1
            rw [E] at this
            simpa [ints] using this.symm
          rw [E, E2] at hown
          have Hf : NewBytes (msgI L) w (.returned (.slice (some ⟨g, 0, none⟩) (n + 1 + k + m) c)) wr := ⟨g, c, by rw [E2], hown, hb⟩
          clear E E2 hown hm8
          go_wp2
          go_ret
          exact Hf
end Go.Proofs.YtmacnffbainepaaDoor
