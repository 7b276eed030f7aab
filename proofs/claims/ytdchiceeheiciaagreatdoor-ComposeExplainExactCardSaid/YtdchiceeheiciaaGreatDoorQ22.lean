/- Parts of a proof, merged by a program (shake.py). -/
import Derived.Lib.LaidTab
import Derived.Lib.SmallJoins
import Derived.Test.YtdchiceeheiciaaGreatDoorQ21
set_option linter.unusedVariables false
set_option linter.unusedSimpArgs false
namespace Go.Proofs.YtdchiceeheiciaaGreatDoor
open Go.RowKit
attribute [local irreducible] wpList Calls Code.wp
theorem var_below {P : Program} {w w' : World} {n : String} {cs : Array Value} (h : w.var? P n = some cs) (hb : Below w.heap.size w w') : w'.var? P n = some cs := by
  unfold World.var? at h ⊢
  cases hg : P.globalNamed n with
  | none => rw [hg] at h; cases h
  | some g =>
    rw [hg] at h
    simp only [Option.bind_some] at h ⊢
    have hl : g < w.heap.size := by
      rcases Nat.lt_or_ge g w.heap.size with h' | h'
      · exact h'
      · rw [Array.getElem?_eq_none h'] at h; cases h
    rw [hb.block g hl]; exact h
/-- what the rows list: the table of powers of ten, the two errors -/
def Env (w : World) : Prop := Lib.TabIs Tryz.prog w "internal/strconv.uint64pow10" .u64 Lib.pow10Tab ∧ (∃ tp p, w.var? Tryz.prog "strconv.ErrRange" = some #[.iface tp p]) ∧ (∃ tp p, w.var? Tryz.prog "strconv.ErrSyntax" = some #[.iface tp p])
theorem Env.below {w w' : World} (h : Env w) (hb : Below w.heap.size w w') : Env w' := by
  obtain ⟨h1, ⟨tp, p, h2⟩, ⟨tp', p', h3⟩⟩ := h
  exact ⟨var_below h1 hb, ⟨tp, p, var_below h2 hb⟩, ⟨tp', p', var_below h3 hb⟩⟩
theorem below_grow (w : World) (k : Nat) (os : Array Obj) : Below w.heap.size w (Go.«Sort».grow (w.drewN k) os) := by
  refine ⟨rfl, rfl, rfl, ?_, fun i hi => ?_⟩
  · rw [Go.«Sort».size_grow]; exact Nat.le_add_right _ _
  · show (w.heap ++ os)[i]? = w.heap[i]?
    rw [Array.getElem?_append_left hi]
set_option maxRecDepth 100000 in
set_option maxHeartbeats 2000000 in
theorem digits_step (u : Nat) (n : Int) (w : World) (hu : u ≤ 9223372036854775808) (hn : n = -(u : Int))
    (ih : ¬ u < 10 → ∀ w', Below w.heap.size w w' → Calls Tryz.prog 21 #[.int .i64 (n.tdiv 10)] w' (St (Lib.decDigits (u / 10)) w')) :
    Calls Tryz.prog 21 #[.int .i64 n] w (St (Lib.decDigits u) w) := by
  have ht : n.tmod 10 = -((u % 10 : Nat) : Int) := by rw [hn, Int.neg_tmod, Int.tmod_eq_emod_of_nonneg (by omega)]; omega
  have hn0 : n ≤ 0 := by omega
  have hn1 : -9223372036854775808 ≤ n := by omega
  have hd10 : u % 10 < 10 := Nat.mod_lt _ (by omega)
  have Hd := Lib.hid (show ∃ d, d = u % 10 from ⟨_, rfl⟩)
  by_cases hs : u < 10
  · have hcmp : decide (n > -10) = true := decide_eq_true (by omega)
    have hgt : -10 < n := by omega
    have Hds := Lib.hid (show bs (Lib.decDigits u) = bs [UInt8.ofNat (48 + u % 10)] by rw [dec_small hs]; congr 3; omega)
    have hcv := conv_new w #[.int .u8 (48 + ((u % 10 : Nat) : Int))] [UInt8.ofNat (48 + u % 10)] 1 rfl (by simp only [Lib.byteCells, List.map_cons, List.map_nil]; rw [ofNat_digit hd10]; simp)
    generalize bs [UInt8.ofNat (48 + u % 10)] = last at *
    generalize u % 10 = d at *
    clear ih hn Hd
    go_enter Tryz.func21, Tryz.ntmps21
    go_wp2
    go_ret
    exact ⟨by rw [Hds.out]; rfl, (Below.refl _ _).alloc (Nat.le_refl _) _⟩
  · have hcmp : decide (n > -10) = false := decide_eq_false (by omega)
    have hgt : ¬ -10 < n := by omega
    have Hds := Lib.hid (show bs (Lib.decDigits u) = bs (Lib.decDigits (u / 10)) ++ bs [UInt8.ofNat (48 + u % 10)] by rw [dec_big hs, bs_append])
    have hcv := conv_new w #[.int .u8 (48 + ((u % 10 : Nat) : Int))] [UInt8.ofNat (48 + u % 10)] 1 rfl (by simp only [Lib.byteCells, List.map_cons, List.map_nil]; rw [ofNat_digit hd10]; simp)
    have H := Lib.hid (ih hs _ ((Below.refl _ _).alloc (Nat.le_refl _) (.cells #[.int .u8 (48 + ((u % 10 : Nat) : Int))] 5)))
    have hz1 : (bs [UInt8.ofNat (48 + u % 10)]).size ≤ 1 := by rw [bs_size]; simp
    have hz2 : (bs (Lib.decDigits (u / 10))).size ≤ 20 := by rw [bs_size]; exact dec_len (by omega)
    unfold St at H
    generalize bs [UInt8.ofNat (48 + u % 10)] = last at *
    generalize bs (Lib.decDigits (u / 10)) = rest at *
    generalize u % 10 = d at *
    clear ih hn Hd
    go_enter Tryz.func21, Tryz.ntmps21
    go_wp2_with fail
    refine H.out.mono ?_
    rintro e w2 ⟨rfl, hb⟩
    have Hb := Lib.hid (((Below.refl w.heap.size w).alloc (Nat.le_refl _) (.cells #[.int .u8 (48 + (d : Int))] 5)).trans (hb.mono (by simp)))
    clear hb
    go_wp2
    go_ret
    exact ⟨by rw [Hds.out]; rfl, Hb.out⟩
theorem digitsR : ∀ (k u : Nat) (n : Int) (w : World), u < 10 ^ k → u ≤ 9223372036854775808 → n = -(u : Int) → Calls Tryz.prog 21 #[.int .i64 n] w (St (Lib.decDigits u) w)
  | 0, u, n, w, h, hu, hn => digits_step u n w hu hn (fun h' => absurd (show u < 10 by simp at h; omega) h')
  | k + 1, u, n, w, h, hu, hn => digits_step u n w hu hn (fun _ w' _ => digitsR k (u / 10) (n.tdiv 10) w' (by rw [Nat.pow_succ] at h; omega) (by omega) (by rw [hn, Int.neg_tdiv, Int.tdiv_eq_ediv_of_nonneg (by omega)]; omega))
set_option maxRecDepth 100000 in
set_option maxHeartbeats 2000000 in
theorem decimalR (n : Int) (h0 : -9223372036854775808 ≤ n) (h1 : n ≤ 9223372036854775807) (w : World) : Calls Tryz.prog 11 #[.int .i64 n] w (St (Lib.itoa n) w) := by
  by_cases hn : n < 0
  · have H := Lib.hid (digitsR 20 n.natAbs n w (by omega) (by omega) (by omega))
    have Hi := Lib.hid (show bs (Lib.itoa n) = bs [45] ++ bs (Lib.decDigits n.natAbs) by unfold Lib.itoa; rw [if_pos hn, bs_append]; rfl)
    have hz2 : (bs (Lib.decDigits n.natAbs)).size ≤ 20 := by rw [bs_size]; exact dec_len (by omega)
    unfold St at H
    generalize bs (Lib.decDigits n.natAbs) = rest at *
    go_enter Tryz.func11, Tryz.ntmps11
    go_wp2_with fail
    refine H.out.mono ?_
    rintro e w2 ⟨rfl, hb⟩
    have Hb := Lib.hid hb
    clear hb
    go_wp2
    go_ret
    exact ⟨by rw [Hi.out]; rfl, Hb.out⟩
  · have H := Lib.hid (digitsR 20 n.toNat (-n) w (by omega) (by omega) (by omega))
    have Hi := Lib.hid (show bs (Lib.itoa n) = bs (Lib.decDigits n.toNat) by unfold Lib.itoa; rw [if_neg hn])
    unfold St at H
    generalize bs (Lib.decDigits n.toNat) = rest at *
    go_enter Tryz.func11, Tryz.ntmps11
    go_wp2_with fail
    refine H.out.mono ?_
    rintro e w2 ⟨rfl, hb⟩
    have Hb := Lib.hid hb
    clear hb
    go_wp2
    go_ret
    exact ⟨by rw [Hi.out]; rfl, Hb.out⟩
end Go.Proofs.YtdchiceeheiciaaGreatDoor
namespace Go.Proofs.YtdchiceeheiciaaGreatDoor
open Go.RowKit
attribute [local irreducible] wpList Calls Code.wp
theorem i64_ok {n : Int} (h : -9223372036854775808 ≤ n ∧ n ≤ 9223372036854775807) : IntKind.i64.min ≤ n ∧ n ≤ IntKind.i64.max := h
theorem var_stays {P : Program} {w w' : World} {n : String} {g G : Nat} {cs : Array Value} (hg : P.globalNamed n = some g) (hG : g < G) (h : w.var? P n = some cs) (hs : ∀ k, k < G → w'.heap[k]? = w.heap[k]?) : w'.var? P n = some cs := by
  unfold World.var? at h ⊢
  rw [hg] at h ⊢
  simp only [Option.bind_some] at h ⊢
  rw [hs g hG]; exact h
def EnvT (w : World) : Prop := Lib.TabIs Tryz.prog w "internal/strconv.uint64pow10" .u64 Lib.pow10Tab
def EN : Ge where
  G := 0 + 1
  E := EnvT
  stays w w' h hs := var_stays (g := 0) (by kernel_rfl) (by omega) h hs
  le w h := by
    have h1 := h
    unfold EnvT Lib.TabIs World.var? at h1
    rw [show Tryz.prog.globalNamed "internal/strconv.uint64pow10" = some 0 by kernel_rfl] at h1
    simp only [Option.bind_some] at h1
    rcases Nat.lt_or_ge 0 w.heap.size with h' | h'
    · exact h'
    · rw [Array.getElem?_eq_none h'] at h1; cases h1
/-- a contract over blocks that turns nothing old and hands back values that read no memory -/
theorem ac_ofV {f : FuncId} {args : List V} {r : V} {u : Value} (h : ∀ s w us, relL Tryz.prog s w args us.toList → EnvT w → (∀ s' w', rel Tryz.prog s' w' r u) ∧ Calls Tryz.prog f us w fun e w' => e = .returned u ∧ Below w.heap.size w w') : AC EN Tryz.prog f args r := by
  intro s w us hus hfx he
  obtain ⟨hr, hc⟩ := h s w us hus he
  refine hc.mono ?_
  rintro e w' ⟨rfl, hb⟩
  have hc : ∀ b o, s.F b o → w'.cell? ⟨b, o, none⟩ = w.cell? ⟨b, o, none⟩ := fun b o hF => by
    obtain ⟨x, hx⟩ := Option.isSome_iff_exists.1 (hfx b o hF)
    exact hb.cell (p := ⟨b, o, none⟩) (block_lt_of_cell hx)
  exact ⟨u, s.F, rfl, Frm.of_below hb, fun b o hF => ⟨hc b o hF, hF⟩, fun b o hF => by rw [hc b o hF]; exact hfx b o hF, fun _ _ _ h => h, hr _ _⟩
theorem ac_of {f : FuncId} {args : List V} {r : Value} (h : ∀ s w us, relL Tryz.prog s w args us.toList → EnvT w → okV r ∧ Calls Tryz.prog f us w fun e w' => e = .returned r ∧ Below w.heap.size w w') : AC EN Tryz.prog f args (.c r) :=
  ac_ofV fun s w us hus he => ⟨fun s' w' => by rw [rel]; exact ⟨rfl, (h s w us hus he).1⟩, (h s w us hus he).2⟩
theorem rel_one {P : Program} {s : Sg} {w : World} {v : V} {us : Array Value} (h : relL P s w [v] us.toList) : ∃ u, us = #[u] ∧ rel P s w v u := by
  cases hl : us.toList with
  | nil => rw [hl] at h; simp [relL] at h
  | cons x xs =>
    rw [hl, relL] at h
    cases xs with
    | nil => exact ⟨x, by apply Array.ext'; simpa using hl, h.1⟩
    | cons y ys => simp [relL] at h
theorem bs_ok {l : List UInt8} (h : l.length ≤ 9223372036854775807) : okV (.string (bs l)) := by
  show (bs l).size ≤ maxLen
  rw [bs_size]; unfold maxLen; omega
theorem lit_size (a : Array UInt8) : (⟨a⟩ : ByteArray).size = a.size := rfl
set_option maxRecDepth 100000 in
theorem elemStr : elemOk Tryz.prog 29 = some (9, 16) := by kernel_rfl
theorem itoa_size (n : Int) (h0 : -9223372036854775808 ≤ n) (h1 : n ≤ 9223372036854775807) : (Lib.itoa n).length ≤ 21 := by
  unfold Lib.itoa
  split
  · have := dec_len (u := n.natAbs) (by omega)
    simp only [List.length_cons]; omega
  · have := dec_len (u := n.toNat) (by omega)
    omega
theorem itoa_ac (n : Int) (h0 : -9223372036854775808 ≤ n) (h1 : n ≤ 9223372036854775807) : AC EN Tryz.prog 10 [.c (.int .i64 n)] (.c (.string (bs (Lib.itoa n)))) :=
  ac_of fun s w us hus he => by
    refine ⟨bs_ok (by have := itoa_size n h0 h1; omega), ?_⟩
    obtain ⟨u, rfl, h⟩ := rel_one hus
    rw [rel] at h
    obtain ⟨rfl, -⟩ := h
    refine (Tryz.strconv_Itoa n h0 h1 w he).mono fun e w' h => ?_
    obtain ⟨q1, k, os, rfl⟩ := h
    exact ⟨by rw [q1]; rfl, below_grow w k os⟩
theorem decimalR_ac (n : Int) (h0 : -9223372036854775808 ≤ n) (h1 : n ≤ 9223372036854775807) : AC EN Tryz.prog 11 [.c (.int .i64 n)] (.c (.string (bs (Lib.itoa n)))) :=
  ac_of fun s w us hus he => by
    refine ⟨bs_ok (by have := itoa_size n h0 h1; omega), ?_⟩
    obtain ⟨u, rfl, h⟩ := rel_one hus
    rw [rel] at h
    obtain ⟨rfl, -⟩ := h
    exact decimalR n h0 h1 w
end Go.Proofs.YtdchiceeheiciaaGreatDoor
