/- Parts of a proof, merged by a program (shake.py). -/
import Derived.Lib.OthersKept
import Derived.Test.YtjhjleanihgopaaDoorQ25
set_option linter.unusedVariables false
set_option linter.unusedSimpArgs false
namespace Go.Proofs.YtjhjleanihgopaaDoor
open Go.RowKit
attribute [local irreducible] wpList Calls Code.wp
def hexIx (g : UInt8) : Int := Lib.indexByte [48, 49, 50, 51, 52, 53, 54, 55, 56, 57, 97, 98, 99, 100, 101, 102] (bits BinOp.or IntKind.u8 (g.toNat : Int) 32).toNat.toUInt8
def ixOk (g : UInt8) : Bool := match valU g with
  | some d => decide (hexIx g = (d : Int)) && decide (48 ≤ g.toNat) && decide (g.toNat ≤ 57 ∨ 65 ≤ g.toNat)
  | none => decide (-1 ≤ hexIx g) && decide (hexIx g ≤ 15) && decide (hexIx g < 0 ∨ g.toNat < 48 ∨ 57 < g.toNat ∧ g.toNat < 65)
theorem ix_ok (g : UInt8) : ixOk g = true := all256 (p := fun g => ixOk g = true) (by decide +kernel) g
theorem ix_some {g : UInt8} {d : Nat} (h : valU g = some d) : hexIx g = (d : Int) ∧ 48 ≤ g.toNat ∧ (g.toNat ≤ 57 ∨ 65 ≤ g.toNat) := by
  have := ix_ok g
  unfold ixOk at this
  rw [h] at this
  simp only [Bool.and_eq_true, decide_eq_true_eq] at this
  exact ⟨this.1.1, this.1.2, this.2⟩
theorem ix_none {g : UInt8} (h : valU g = none) : -1 ≤ hexIx g ∧ hexIx g ≤ 15 ∧ (hexIx g < 0 ∨ g.toNat < 48 ∨ 57 < g.toNat ∧ g.toNat < 65) := by
  have := ix_ok g
  unfold ixOk at this
  rw [h] at this
  simp only [Bool.and_eq_true, decide_eq_true_eq] at this
  exact ⟨this.1.1, this.1.2, this.2⟩
theorem builderAt_keep {T e : TypeId} {B b : Nat} {p : Value} {bs : List Value} {w w' : World} (h : Lib.BuilderAtF T e B b p bs w) (hb : Below w.heap.size w w') : Lib.BuilderAtF T e B b p bs w' := by
  obtain ⟨hB, v, h1, hown, hne⟩ := h
  have old : ∀ k o, w.heap[k]? = some o → w'.heap[k]? = some o := fun k o hk => by
    have hl : k < w.heap.size := by
      rcases Nat.lt_or_ge k w.heap.size with h' | h'
      · exact h'
      · rw [Array.getElem?_eq_none h'] at hk; cases hk
    rw [hb.block k hl]; exact hk
  refine ⟨hB, v, old _ _ h1, ⟨hown.1, ?_⟩, hne⟩
  rcases hown.2 with hn | ⟨g, cap, cur, fz, hv, hbg, hg, rest⟩
  · exact .inl hn
  · exact .inr ⟨g, cap, cur, fz, hv, hbg, old _ _ hg, rest⟩
theorem isB_keep {B b : Nat} {bs : List Value} {w w' : World} (h : IsB B b bs w) (hb : Below w.heap.size w w') : IsB B b bs w' :=
  h.elim (fun x => .inl (builderAt_keep x hb)) (fun x => .inr (builderAt_keep x hb))
set_option maxRecDepth 100000 in
set_option maxHeartbeats 8000000 in
theorem unquoteP (s : ByteArray) (w : World) (hs : s.size ≤ 100000) : Calls Tryd.prog 93 #[.string s] w (Uq (unquoteU s.data.toList) w) := by
  by_cases hlen : s.size < 2
  · have Hno := Lib.hid (unq_not (s := s) (fun h => by omega))
    have q0 : decide ((s.size : Int) < 2) = true := decide_eq_true (by omega)
    go_enter Tryd.func93, Tryd.ntmps93
    go_wp2
    go_ret2
    exact ⟨by rw [Hno.out]; rfl, Below.refl _ _⟩
  have q0 : decide ((s.size : Int) < 2) = false := decide_eq_false (by omega)
  have i0 : (0 : Int) < (s.size : Int) := by omega
  have hb0 := bV_at (show 0 < s.size by omega)
  have hr0 := bV_range s 0
  by_cases h0 : bV s 0 = 34
  case neg =>
    have Hno := Lib.hid (unq_not (s := s) (fun h => h0 h.2.1))
    have q1 : (bV s 0 == 34) = false := beq_false_of_ne h0
    generalize bV s 0 = v0 at *
    go_enter Tryd.func93, Tryd.ntmps93
    go_wp2
    go_ret2
    exact ⟨by rw [Hno.out]; rfl, Below.refl _ _⟩
  have hbz := bV_at (show s.size - 1 < s.size by omega)
  have hrz := bV_range s (s.size - 1)
  by_cases hz : bV s (s.size - 1) = 34
  case neg =>
    have Hno := Lib.hid (unq_not (s := s) (fun h => hz h.2.2))
    have q1 : (bV s (s.size - 1) == 34) = false := beq_false_of_ne hz
    rw [h0] at hb0
    generalize bV s (s.size - 1) = v1 at *
    go_enter Tryd.func93, Tryd.ntmps93
    go_wp2
    go_ret2
    exact ⟨by rw [Hno.out]; rfl, Below.refl _ _⟩
  have Hu := Lib.hid (unq_of (by omega) h0 hz)
  rw [h0] at hb0
  rw [hz] at hbz
  clear h0 hz hr0 hrz
  have hdz : (s.extract 1 (s.size - 1)).size ≤ 100000 := by rw [mid_bs, bs_size]; simp; omega
  obtain ⟨d, hd⟩ : ∃ d, s.extract 1 (s.size - 1) = d := ⟨_, rfl⟩
  rw [hd] at Hu hdz
  go_enter Tryd.func93, Tryd.ntmps93
  go_wp2
  clear hb0 hbz i0 q0
  have h0 := Lib.IsBuilderF.of (Lib.fresh_isBuilder 78 5 w)
  have H0 := Lib.hid h0
  clear h0
  go_loopg [5] d.size (fun j i wr => ∃ (m : Nat) (acc : List UInt8), m + j = d.size ∧ i = .int .i64 m ∧ acc.length ≤ m ∧ unqU d.data.toList = (unqU (d.data.toList.drop m)).map (acc ++ ·) ∧ Below w.heap.size w wr ∧ IsB w.heap.size w.heap.size (Lib.byteCells acc) wr)
  case atStart => exact ⟨0, [], by omega, rfl, by simp, by simp, (Below.refl _ _).alloc (Nat.le_refl _) _, H0.out⟩
  case round =>
    obtain ⟨x, acc, hmj, rfl, hac, hun, hb, hI⟩ := hrel
    have Hmj := Lib.hid hmj; have hmn : x ≤ d.size := by omega
    have Hun := Lib.hid hun
    have Hb := Lib.hid hb
    have HI := Lib.hid hI
    have hal : acc.length ≤ 100000 := by omega
    have Hac := Lib.hid hac
    clear hmj hun hb hac hI H0
    by_cases hlt : x < d.size
    · have hxi : (x : Int) < (d.size : Int) := by omega
      have hb := bV_at hlt
      rw [bV_bC] at hb
      have HL := Lib.hid (drop_at hlt)
      have hc256 := (bC d x).toNat_lt
      generalize bC d x = c at *
      obtain ⟨v, hv⟩ : ∃ v : Int, (c.toNat : Int) = v := ⟨_, rfl⟩
      rw [hv] at hb
      by_cases hbad : c.toNat < 32 ∨ 126 < c.toNat ∨ c = 34
      · have Hno := Lib.hid (Hu.out.trans (unq_none Hun.out (by rw [HL.out]; exact unqU_bad hbad)))
        have hbv : v < 32 ∨ 126 < v ∨ v = 34 := by
          rcases hbad with h | h | h
          · exact .inl (by omega)
          · exact .inr (.inl (by omega))
          · exact .inr (.inr (by rw [← hv, h]; rfl))
        clear hbad hv
        rcases hbv with h | h | h
        · go_wp2
          go_ret2
          exact ⟨by rw [Hno.out]; rfl, Hb.out⟩
        · go_wp2
          all_goals first
            | (exfalso; omega)
            | (go_ret2
               exact ⟨by rw [Hno.out]; rfl, Hb.out⟩)
        · subst h
          go_wp2
          go_ret2
          exact ⟨by rw [Hno.out]; rfl, Hb.out⟩
      have hc34 : v ≠ 34 := by
        rw [← hv]
        exact u8_ne (n := 34) (by omega) (fun e => hbad (.inr (.inr e)))
      have f1 : decide (v < 32) = false := decide_eq_false (by omega)
      have f1' : ¬ v < 32 := by omega
      have f2 : decide (v > 126) = false := decide_eq_false (by omega)
      have f3 : (v == 34) = false := beq_false_of_ne hc34
      by_cases h92 : c = 92
      case neg =>
        have q92 : (v == 92) = false := beq_false_of_ne (by rw [← hv]; exact u8_ne (n := 92) (by omega) h92)
        have Hst := Lib.hid (unq_step (m' := x + 1) Hun.out (by rw [HL.out]; exact unqU_plain hbad h92))
        have Hv := Lib.hid hv
        clear hbad hv h92
        go_wp2_with fail
        refine (wB w.heap.size w.heap.size acc c v _ Hv.out.symm HI.out (by omega) Hb.out.size).mono ?_
        rintro e2 w2 ⟨rfl, h2, hb2⟩
        have H2 := Lib.hid h2
        have Hb2 := Lib.hid (Hb.out.trans hb2)
        clear h2 hb2
        go_wp2
        go_roundg (gk - 1)
        case measure => have := Hmj.out; omega
        case rel => exact ⟨x + 1, acc ++ [c], by have := Hmj.out; omega, by go_num, by have := Hac.out; simp; omega, Hst.out, Hb2.out, H2.out⟩
      subst h92
      obtain rfl : v = 92 := by rw [← hv]; rfl
      clear hbad hv hc34 f1 f1' f2 f3 hc256
      by_cases hlt1 : x + 1 < d.size
      case neg =>
        have Hno := Lib.hid (Hu.out.trans (unq_none Hun.out (by rw [HL.out, List.drop_of_length_le (by simp; omega)]; exact unqU_last)))
        have q1 : ((x : Int) + 1 == (d.size : Int)) = true := by rw [beq_iff_eq]; omega
        go_wp2
        go_ret2
        exact ⟨by rw [Hno.out]; rfl, Hb.out⟩
      have q1 : ((x : Int) + 1 == (d.size : Int)) = false := beq_false_of_ne (by omega)
      have hxi1 : (x : Int) + 1 < (d.size : Int) := by omega
      have hb1 := bV_at hlt1
      rw [bV_bC] at hb1
      have HL1 := Lib.hid (HL.out.trans (by rw [drop_at hlt1]))
      clear HL
      have HS := Lib.hid (plainP (bC d (x + 1)) _ rfl wr)
      unfold Sm at HS
      generalize bC d (x + 1) = e at *
      cases hsim : simU e with
      | some y =>
        rw [hsim] at HS
        unfold simV at HS
        have Hst := Lib.hid (unq_step (m' := x + 2) Hun.out (by rw [HL1.out]; exact unqU_sim hsim))
        clear hsim
        generalize (e.toNat : Int) = ev at *
        go_wp2_with fail
        refine HS.out.mono ?_
        rintro e2 w2 ⟨rfl, rfl⟩
        go_wp2_with fail
        refine (wB w.heap.size w.heap.size acc y (y.toNat : Int) _ rfl HI.out (by omega) Hb.out.size).mono ?_
        rintro e2 w2 ⟨rfl, h2, hb2⟩
        have H2 := Lib.hid h2
        have Hb2 := Lib.hid (Hb.out.trans hb2)
        clear h2 hb2
        go_wp2
        go_roundg (gk - 2)
        case measure => have := Hmj.out; omega
        case rel => exact ⟨x + 2, acc ++ [y], by have := Hmj.out; omega, by go_num, by have := Hac.out; simp; omega, Hst.out, Hb2.out, H2.out⟩
      | none =>
        rw [hsim] at HS
        unfold simV at HS
        have hrl : (d.data.toList.drop (x + 1 + 1)).length = d.size - (x + 2) := by simp
        by_cases h117 : e = 117
        case neg =>
          have q117 : ((e.toNat : Int) == 117) = false := beq_false_of_ne (u8_ne (n := 117) (by omega) h117)
          have Hno := Lib.hid (Hu.out.trans (unq_none Hun.out (by rw [HL1.out]; exact unqU_no hsim (.inl h117))))
          clear hsim h117
          have n117 : ¬ (e.toNat : Int) = 117 := by simpa using q117
          generalize (e.toNat : Int) = ev at *
          go_wp2_with fail
          refine HS.out.mono ?_
          rintro e2 w2 ⟨rfl, rfl⟩
          go_wp2
          all_goals first
            | (exfalso; omega)
            | (go_ret2
               exact ⟨by rw [Hno.out]; rfl, Hb.out⟩)
        have he : (e.toNat : Int) = 117 := by rw [h117]; rfl
        rw [he] at hb1 HS
        by_cases hfit : x + 6 ≤ d.size
        case neg =>
          have q6 : decide ((x : Int) + 1 + 4 ≥ (d.size : Int)) = true := decide_eq_true (by omega)
          have Hno := Lib.hid (Hu.out.trans (unq_none Hun.out (by rw [HL1.out]; exact unqU_no hsim (.inr (by rw [hrl]; omega)))))
          clear hsim h117 he
          go_wp2_with fail
          refine HS.out.mono ?_
          rintro e2 w2 ⟨rfl, rfl⟩
          go_wp2
          go_ret2
          exact ⟨by rw [Hno.out]; rfl, Hb.out⟩
        have q6 : decide ((x : Int) + 1 + 4 ≥ (d.size : Int)) = false := decide_eq_false (by omega)
        have HL2 : d.data.toList.drop x = 92 :: 117 :: d.data.toList.drop (x + 1 + 1) := by rw [HL1.out, h117]
        have Hcode := Lib.hid ((congrArg unqU HL2).trans (unqU_code (by rw [hrl]; omega)))
        clear HL2
        have hksz : (d.extract (x + 2) (x + 6)).size = 4 := by rw [ByteArray.size_extract]; omega
        have Hcl := Lib.hid (cut_list d x)
        obtain ⟨k, hk⟩ : ∃ k, d.extract (x + 2) (x + 6) = k := ⟨_, rfl⟩
        have hk' : d.extract (x + 1 + 1) (x + 1 + 5) = k := hk
        rw [hk] at hksz Hcl
        have Hd4 := Lib.hid (show (d.data.toList.drop (x + 1 + 1)).drop 4 = d.data.toList.drop (x + 6) by rw [List.drop_drop])
        clear hsim h117 he
        go_wp2_with fail
        have hcv := Lib.run_convert_string_bytes (P := Tryd.prog) wr 9 76 5 k Tryd.underlying9 Tryd.underlying76 Tryd.underlying5
        obtain ⟨W2, hW2⟩ : ∃ W2, Lib.bytesWorld wr 5 k = W2 := ⟨_, rfl⟩
        have hcell : ∀ j : Nat, j < 4 → W2.cell? ⟨wr.heap.size, j, none⟩ = some (.int .u8 ((bC k j).toNat : Int)) := fun j hj => by rw [← hW2]; exact Lib.bytesWorld_cell wr 5 k j (by omega)
        have hbl : Below wr.heap.size wr W2 := by rw [← hW2]; exact Lib.bytesWorld_below _ _ _
        have HI2 := Lib.hid (isB_keep HI.out hbl)
        have Hb2 := Lib.hid (Hb.out.trans (hbl.mono Hb.out.size))
        have Hcell := Lib.hid hcell
        rw [hW2, hksz] at hcv
        clear hW2 hbl hcell
        generalize grownCap wr 4 0 5 = cp at hcv
        obtain ⟨bk, hbk⟩ : ∃ bk, wr.heap.size = bk := ⟨_, rfl⟩
        rw [hbk] at hcv Hcell
        clear hbk
        refine HS.out.mono ?_
        rintro e2 w2 ⟨rfl, rfl⟩
        go_wp2
        go_loopg [9, 92] 4 (fun j n i wr2 => ∃ m u : Nat, m + j = 4 ∧ i = .int .i64 m ∧ n = .int .i64 u ∧ u < 16 ^ m ∧ codeFrom 0 k.data.toList = codeFrom u (k.data.toList.drop m) ∧ wr2 = W2)
        case atStart => exact ⟨0, 0, by omega, rfl, rfl, by simp, rfl, rfl⟩
        case round =>
          obtain ⟨z, u, hzj, rfl, rfl, hu, hc, rfl⟩ := hrel
          clear hk hk'
          have Hzj := Lib.hid hzj; have hzn : z ≤ 4 := by omega
          clear hzj
          have Hc := Lib.hid hc
          clear hc
          by_cases hz4 : z < 4
          · have hu2 : u < 65536 := Nat.lt_of_lt_of_le hu (Nat.pow_le_pow_right (by omega) (by omega : z ≤ 4))
            have Hu16 := Lib.hid hu
            clear hu
            have hzi : (z : Int) < 4 := by omega
            have hcl := Hcell.out z hz4
            have Hdr := Lib.hid (drop_at (s := k) (x := z) (by omega))
            generalize bC k z = g at *
            have HIx := Lib.hid (Tryd.strings_IndexByte ⟨#[48, 49, 50, 51, 52, 53, 54, 55, 56, 57, 97, 98, 99, 100, 101, 102]⟩ (bits BinOp.or IntKind.u8 (g.toNat : Int) 32) wr)
            rw [show Lib.indexByte (⟨#[48, 49, 50, 51, 52, 53, 54, 55, 56, 57, 97, 98, 99, 100, 101, 102]⟩ : ByteArray).data.toList (bits BinOp.or IntKind.u8 (g.toNat : Int) 32).toNat.toUInt8 = hexIx g from rfl] at HIx
            cases hval : valU g with
            | some dd =>
              have hd16 := val_lt hval
              obtain ⟨j1, j2, j3⟩ := ix_some hval
              rw [j1] at HIx
              have Hok := Lib.hid (show codeFrom 0 k.data.toList = codeFrom (16 * u + dd) (k.data.toList.drop (z + 1)) by rw [Hc.out, Hdr.out, code_some hval])
              clear hval j1
              have g0 : decide ((dd : Int) < 0) = false := decide_eq_false (by omega)
              have g0' : ¬ (dd : Int) < 0 := by omega
              have g48 : decide ((g.toNat : Int) < 48) = false := decide_eq_false (by omega)
              have g48' : ¬ (g.toNat : Int) < 48 := by omega
              go_wp2_with fail
              refine HIx.out.mono ?_
              rintro e2 w3 ⟨rfl, rfl⟩
              rcases j3 with j3 | j3
              · have g57 : decide ((g.toNat : Int) > 57) = false := decide_eq_false (by omega)
                go_wp2
                all_goals first
                  | (exfalso; omega)
                  | (go_roundg (gk - 1)
                     case measure => have := Hzj.out; omega
                     case rel => exact ⟨z + 1, 16 * u + dd, by have := Hzj.out; omega, by go_num, by go_num, by have := Hu16.out; rw [Nat.pow_succ]; omega, Hok.out, rfl⟩)
              · have g65 : decide ((g.toNat : Int) < 65) = false := decide_eq_false (by omega)
                rcases Nat.lt_or_ge 57 g.toNat with j4 | j4
                · have g57 : decide ((g.toNat : Int) > 57) = true := decide_eq_true (by omega)
                  go_wp2
                  all_goals first
                    | (exfalso; omega)
                    | (go_roundg (gk - 1)
                       case measure => have := Hzj.out; omega
                       case rel => exact ⟨z + 1, 16 * u + dd, by have := Hzj.out; omega, by go_num, by go_num, by have := Hu16.out; rw [Nat.pow_succ]; omega, Hok.out, rfl⟩)
                · exfalso; omega
            | none =>
              obtain ⟨j1, j2, j3⟩ := ix_none hval
              have Hcn := Lib.hid (show codeFrom 0 k.data.toList = none by rw [Hc.out, Hdr.out, code_none hval])
              have Hno := Lib.hid (Hu.out.trans (unq_none Hun.out (Hcode.out.trans (by rw [show (d.data.toList.drop (x + 1 + 1)).take 4 = k.data.toList from Hcl.out.symm, Hcn.out]))))
              clear hval
              obtain ⟨ix, hix⟩ : ∃ ix, hexIx g = ix := ⟨_, rfl⟩
              rw [hix] at HIx j1 j2 j3
              clear hix
              go_wp2_with fail
              refine HIx.out.mono ?_
              rintro e2 w3 ⟨rfl, rfl⟩
              rcases Int.lt_or_le ix 0 with h | h
              · have g0 : decide (ix < 0) = true := decide_eq_true h
                go_wp2
                all_goals first
                  | (exfalso; omega)
                  | (go_ret2
                     exact ⟨by rw [Hno.out]; rfl, Hb2.out⟩)
              · have g0 : decide (ix < 0) = false := decide_eq_false (by omega)
                have g0' : ¬ ix < 0 := by omega
                rcases Nat.lt_or_ge g.toNat 48 with h' | h'
                · have g48 : decide ((g.toNat : Int) < 48) = true := decide_eq_true (by omega)
                  go_wp2
                  all_goals first
                    | (exfalso; omega)
                    | (go_ret2
                       exact ⟨by rw [Hno.out]; rfl, Hb2.out⟩)
                · have g48 : decide ((g.toNat : Int) < 48) = false := decide_eq_false (by omega)
                  have g48' : ¬ (g.toNat : Int) < 48 := by omega
                  have g57 : decide ((g.toNat : Int) > 57) = true := decide_eq_true (by omega)
                  have g65 : decide ((g.toNat : Int) < 65) = true := decide_eq_true (by omega)
                  go_wp2
                  all_goals first
                    | (exfalso; omega)
                    | (go_ret2
                       exact ⟨by rw [Hno.out]; rfl, Hb2.out⟩)
          · obtain rfl : z = 4 := by omega
            have Hfin := Lib.hid (show codeFrom 0 k.data.toList = some u by
              rw [Hc.out, List.drop_of_length_le (by simp; omega)]; rfl)
            clear hu
            have Hcode2 := Lib.hid (Hcode.out.trans (by rw [show (d.data.toList.drop (x + 1 + 1)).take 4 = k.data.toList from Hcl.out.symm, Hfin.out]))
            by_cases hn : u ≤ 255
            case neg =>
              have n255 : decide ((u : Int) > 255) = true := decide_eq_true (by omega)
              have Hno := Lib.hid (Hu.out.trans (unq_none Hun.out (Hcode2.out.trans (if_neg hn))))
              go_wp2
              go_ret2
              exact ⟨by rw [Hno.out]; rfl, Hb2.out⟩
            have n255 : decide ((u : Int) > 255) = false := decide_eq_false (by omega)
            have Hst := Lib.hid (unq_step (m' := x + 6) Hun.out (by rw [← Hd4.out]; exact Hcode2.out.trans (if_pos hn)))
            have hon : (u : Int) = ((UInt8.ofNat u).toNat : Int) := by simp; omega
            have Hon := Lib.hid hon
            clear hon
            go_wp2_with fail
            refine (wB w.heap.size w.heap.size acc (UInt8.ofNat u) (u : Int) _ Hon.out HI2.out (by omega) Hb2.out.size).mono ?_
            rintro e2 w3 ⟨rfl, h3, hb3⟩
            have H3 := Lib.hid h3
            have Hb3 := Lib.hid (Hb2.out.trans hb3)
            clear h3 hb3
            go_wp2
            go_roundg (d.size - (x + 6))
            case measure => have := Hmj.out; omega
            case rel => exact ⟨x + 6, acc ++ [UInt8.ofNat u], by have := Hmj.out; omega, by go_num, by have := Hac.out; simp; omega, Hst.out, Hb3.out, H3.out⟩
    · obtain rfl : x = d.size := by omega
      have Hfin := Lib.hid (Hu.out.trans (unq_end Hun.out (by simp)))
      go_wp2_with fail
      refine (Tryd.Builder_String_any_k w.heap.size w.heap.size acc _ HI.out Hb.out.size).mono ?_
      rintro e w2 ⟨rfl, _, hb2, _⟩
      have Hb2 := Lib.hid (Hb.out.trans hb2)
      clear hb2
      have Ha := Lib.hid (show uqV (some acc) = .tuple #[.string (bs acc), .int .i64 0] from rfl)
      go_wp2
      go_ret2
      exact ⟨by rw [Hfin.out, Ha.out]; rfl, Hb2.out⟩
end Go.Proofs.YtjhjleanihgopaaDoor
