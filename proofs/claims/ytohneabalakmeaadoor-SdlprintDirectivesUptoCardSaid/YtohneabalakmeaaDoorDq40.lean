/- Parts of a proof, merged by a program (shake.py). -/
import Derived.Test.YtohneabalakmeaaDoorDq39
namespace Go.Proofs.YtohneabalakmeaaDoor
open Go.RowKit
attribute [local irreducible] wpList Calls Code.wp
def ACP (e : Ge) (P : Program) (f : FuncId) (args : List V) (R : V → Prop) : Prop :=
  ∀ (s : Sg) (w : World) (us : Array Value), relL P s w args us.toList → (∀ b o, s.F b o → (w.cell? ⟨b, o, none⟩).isSome) → e.E w →
    Calls P f us w fun en w' => ∃ v F' r, en = .returned v ∧ Frm (fun _ => False) w w' ∧ Keeps s.F F' w w' ∧ (∀ b o, F' b o → (w'.cell? ⟨b, o, none⟩).isSome) ∧ (∀ b o, b < w.heap.size → F' b o → s.F b o) ∧ R r ∧ rel P { s with F := F' } w' r v
section
variable {X : Cx} {nn : Nat} {st : Vst nn} {o : Oper} {K : Vst nn → Prop} {ops : Array Oper} {l : List Oper} {d : Option Tmp} {KK : Vst nn → Prop}
set_option maxRecDepth 100000 in
theorem opOk_callP {f : FuncId} {args : List V} {R : V → Prop} (h : act1 X.P st.rs (ev st) o.op = .call f args) (hc : ACP X.e X.P f (outL args) R) (hK : ∀ r, R r → K (st.put o.dst r)) : OpOk X o st K := by
  intro s w a hI N Q hN
  obtain ⟨us, h1, h2⟩ := call1_ok h hI.ev (fun _ => rfl)
  unfold Oper.wp
  rw [h1, Oper.upon_enter]
  refine (hc s w us (relL.out _ _ h2) hI.mem.fx hI.en).mono ?_
  rintro e w' ⟨v, F', r, rfl, hfr, hk, hfx, hnf, hR, hr⟩
  have hm := hI.mem.after (s' := { s with F := F' }) hfr hk rfl rfl rfl hfx hnf
  refine hN _ _ _ _ ((hI.go hm.1 hm.2 ⟨hfr.os, hfr.tape, hfr.output, hfr.size, fun k hk _ => hfr.block k hk (fun h => h)⟩ fun b o hb _ hF => hnf b o (Nat.lt_of_lt_of_le hb hI.base) hF).put o.dst hr) (hK r hR)
set_option maxRecDepth 100000 in
theorem s_callP {f : FuncId} {args : List V} {R : V → Prop} (hg : o.guard = none) (hd : o.dst = d) (h : act1 X.P st.rs (ev st) o.op = .call f args) (hc : ACP X.e X.P f (outL args) R) (hK : ∀ r, R r → AWo X ops l (st.put d r) KK) : AWo X ops (o :: l) st KK :=
  awo_cons hg (opOk_callP h hc fun r hr => by rw [hd]; exact hK r hr)
set_option maxRecDepth 100000 in
theorem s_guard_callP {j : Nat} {want b : Bool} {f : FuncId} {args : List V} {R : V → Prop} (hg : o.guard = some (j, want)) (hd : o.dst = d) (hb : gval ops st j = some b) (h : act1 X.P st.rs (ev st) o.op = .call f args) (hc : ACP X.e X.P f (outL args) R) (hK : (b == want) = true → ∀ r, R r → AWo X ops l (st.put d r) KK)
    (hN : (b == want) = false → AWo X ops l (st.put d .any) KK) : AWo X ops (o :: l) st KK := by
  cases e : b == want
  · exact s_skip hg hd hb e (hN e)
  · exact awo_guard hg hb (fun _ => opOk_callP h hc fun r hr => by rw [hd]; exact hK e r hr) fun q => (q (by simpa using e)).elim
end
set_option maxRecDepth 100000 in
/-- a contract over blocks that turns nothing old and hands back some plain value -/
theorem acP_of {f : FuncId} {args : List V} {R : V → Prop} (h : ∀ s w us, relL Tryd.prog s w args us.toList → EnvT w → Calls Tryd.prog f us w fun e w' => ∃ r, e = .returned r ∧ okV r ∧ R (.c r) ∧ Below w.heap.size w w') : ACP EN Tryd.prog f args R := by
  intro s w us hus hfx he
  refine (h s w us hus he).mono ?_
  rintro e w' ⟨r, rfl, hr, hR, hb⟩
  have hc : ∀ b o, s.F b o → w'.cell? ⟨b, o, none⟩ = w.cell? ⟨b, o, none⟩ := fun b o hF => by
    obtain ⟨x, hx⟩ := Option.isSome_iff_exists.1 (hfx b o hF)
    exact hb.cell (p := ⟨b, o, none⟩) (block_lt_of_cell hx)
  exact ⟨r, s.F, .c r, rfl, Frm.of_below hb, fun b o hF => ⟨hc b o hF, hF⟩, fun b o hF => by rw [hc b o hF]; exact hfx b o hF, fun _ _ _ h => h, hR, by rw [rel]; exact ⟨rfl, hr⟩⟩
/-- some bool comes back; if it is true, a thing holds -/
def RB (p : Prop) (r : V) : Prop := ∃ b : Bool, r = .c (.bool b) ∧ (b = true → p)
set_option maxRecDepth 100000 in
/-- data of which the contracts over blocks speak: shape, size, and that a world holds it -/
theorem large_acp (d : D) : ACP EN Tryd.prog 44 [.agg (cellsV Tryd.prog 12 42 d)] (RB True) :=
  acP_of fun s w us hus _ => by
    obtain ⟨cs, k, rfl, hr⟩ := agg_cells (by kernel_rfl) hus
    obtain ⟨A0, c0, e, s0a, s0b, s0c, s0⟩ := inK42 hr
    subst e
    refine (large7 A0 (d.f 0).l c0 w w (Below.refl _ _) ⟨k, s0⟩ s0a s0b).mono ?_
    rintro e w' ⟨b, rfl, hb⟩
    exact ⟨_, rfl, trivial, ⟨b, rfl, fun _ => trivial⟩, hb⟩
set_option maxRecDepth 100000 in
theorem goodF_down : ∀ {K m : Nat} {d : D}, goodF m d → K ≤ m → goodF K d
  | 0, _, _, _, _ => trivial
  | K + 1, 0, _, _, h => by omega
  | K + 1, m + 1, d, hg, h => ⟨hg.1, fun i hi => goodF_down (hg.2 i hi) (by omega)⟩
set_option maxRecDepth 100000 in
theorem goodDirs_down {K m : Nat} {l : List D} (h : goodDirs m l) (hm : K ≤ m) : goodDirs K l := fun i hi j hj => goodF_down (h i hi j hj) (by omega)
set_option maxRecDepth 100000 in
theorem goodIn_down {K m : Nat} {x : D} (h : goodIn m x) (hm : K ≤ m) : goodIn K x := ⟨goodDirs_down h.1 hm, fun hb => goodF_down (h.2 hb) (by omega)⟩
set_option maxRecDepth 100000 in
theorem goodDef_down {K m : Nat} {x : D} (h : goodDef m x) (hm : K ≤ m) : goodDef K x :=
  ⟨h.1, goodDirs_down h.2.1 hm, fun i hi => ⟨fun j hj => goodIn_down ((h.2.2.1 i hi).1 j hj) hm, goodDirs_down (h.2.2.1 i hi).2 hm⟩, fun i hi => goodDirs_down (h.2.2.2.1 i hi) hm, fun i hi => goodIn_down (h.2.2.2.2 i hi) hm⟩
set_option maxRecDepth 100000 in
theorem goodDoc_down {K m : Nat} {l : List D} (h : goodDoc m l) (hm : K ≤ m) : goodDoc K l := fun i hi => goodDef_down (h i hi) hm
set_option maxRecDepth 100000 in
theorem right_acp (K : Nat) (d : D) : ACP EN Tryd.prog 45 [.agg (cellsV Tryd.prog 12 42 d)] (RB (goodDoc K (d.f 0).l)) :=
  acP_of fun s w us hus _ => by
    obtain ⟨cs, k, rfl, hr⟩ := agg_cells (by kernel_rfl) hus
    obtain ⟨A0, c0, e, s0a, s0b, s0c, s0⟩ := inK42 (hr.le (show k ≤ max k K + 1 by omega))
    subst e
    refine (rightR (max k K) A0 (d.f 0).l c0 w w (Below.refl _ _) s0 (by unfold maxLen at s0b; omega)).mono ?_
    rintro e w' ⟨b, rfl, hb, hg⟩
    exact ⟨_, rfl, trivial, ⟨b, rfl, fun h => goodDoc_down (hg h) (by omega)⟩, hb⟩
def wideIn (K : Nat) (x : D) : Prop := wideF (K + 1) (x.f 3) ∧ dirsWide K (x.f 4).l
def wideFld (K : Nat) (x : D) : Prop := (∀ i, i < (x.f 1).l.length → wideIn K (gD (x.f 1).l i)) ∧ dirsWide K (x.f 3).l
def wideDef (K : Nat) (x : D) : Prop :=
  dirsWide K (x.f 3).l ∧ (∀ i, i < (x.f 4).l.length → wideFld K (gD (x.f 4).l i)) ∧ (∀ i, i < (x.f 5).l.length → dirsWide K ((gD (x.f 5).l i).f 1).l) ∧ ∀ i, i < (x.f 6).l.length → wideIn K (gD (x.f 6).l i)
def wideDoc (K : Nat) (l : List D) : Prop := ∀ i, i < l.length → wideDef K (gD l i)
section
variable {K : Nat} {A : Option Addr} {l : List D} {w : World}
set_option maxRecDepth 100000 in
theorem dirsWide_of (h : Sl Tryd.prog w (fun b => b < w.heap.size) (K + 1) 101 A l) : dirsWide K l := fun i hi j hj => by
  obtain ⟨b, off, _, _, hat⟩ := atK101 h (by omega)
  obtain ⟨A1, c1, -, -, -, ⟨-, -, -, s1⟩, -⟩ := hat i hi
  obtain ⟨b2, off2, _, _, hat2⟩ := atK103 s1 (by omega)
  obtain ⟨A4, c4, A5, c5, -, -, -, -, -, -, -, -, -, -, -, -, r⟩ := hat2 j hj
  exact wide_of _ #[_, _, _, _, _] _ _ (partK103_1 r)
set_option maxRecDepth 100000 in
theorem insWide_of (h : Sl Tryd.prog w (fun b => b < w.heap.size) (K + 1) 132 A l) : ∀ i, i < l.length → wideIn K (gD l i) := fun i hi => by
  obtain ⟨b, off, _, _, hat⟩ := atK132 h (by omega)
  obtain ⟨A2, c2, A7, c7, A8, c8, A9, c9, -, -, -, -, -, -, -, -, -, -, -, -, -, -, -, -, -, -, ⟨-, -, -, s9⟩, r⟩ := hat i hi
  exact ⟨wide_of _ #[_, _, _, _, _] _ _ (partK132_3 r), dirsWide_of s9⟩
set_option maxRecDepth 100000 in
theorem fldsWide_of (h : Sl Tryd.prog w (fun b => b < w.heap.size) (K + 1) 64 A l) : ∀ i, i < l.length → wideFld K (gD l i) := fun i hi => by
  obtain ⟨b, off, _, _, hat⟩ := atK64 h (by omega)
  obtain ⟨A1, c1, A3, c3, A4, c4, -, -, -, -, -, -, ⟨-, -, -, s1⟩, -, -, ⟨-, -, -, s4⟩, -⟩ := hat i hi
  exact ⟨insWide_of s1, dirsWide_of s4⟩
set_option maxRecDepth 100000 in
theorem memsWide_of (h : Sl Tryd.prog w (fun b => b < w.heap.size) (K + 1) 112 A l) : ∀ i, i < l.length → dirsWide K ((gD l i).f 1).l := fun i hi => by
  obtain ⟨b, off, _, _, hat⟩ := atK112 h (by omega)
  obtain ⟨A1, c1, -, -, -, ⟨-, -, -, s1⟩, -⟩ := hat i hi
  exact dirsWide_of s1
set_option maxRecDepth 100000 in
theorem wideDoc_of (h : Sl Tryd.prog w (fun b => b < w.heap.size) (K + 1) 58 A l) : wideDoc K l := fun i hi => by
  obtain ⟨b, off, _, _, hat⟩ := atK58 h (by omega)
  obtain ⟨A2, c2, A3, c3, A4, c4, A5, c5, A6, c6, -, -, -, -, -, -, -, -, -, -, ⟨-, -, -, s3⟩, ⟨-, -, -, s4⟩, ⟨-, -, -, s5⟩, ⟨-, -, -, s6⟩, -⟩ := hat i hi
  exact ⟨dirsWide_of s3, fldsWide_of s4, memsWide_of s5, insWide_of s6⟩
end
set_option maxRecDepth 100000 in
theorem inOk_of {K : Nat} {x : D} (hf : Fits Tryd.prog (K + 1) 132 x) (hw : wideIn K x) (hg : goodIn K x) : InOk K x := ⟨hf, hw.1, hw.2, hg⟩
set_option maxRecDepth 100000 in
theorem fldOk_of {K : Nat} {x : D} (hf : Fits Tryd.prog (K + 1) 64 x) (hw : wideFld K x) (hg : goodField K x) : FldOk K x :=
  ⟨hf, fun i hi => inOk_of (by obtain ⟨x0, x1, x2, x3, rfl, h1, -, -⟩ := fits64 hf; exact fitL h1 i hi) (hw.1 i hi) (hg.1 i hi), hw.2, hg.2⟩
set_option maxRecDepth 100000 in
theorem defOk_of {K : Nat} {x : D} (hf : Fits Tryd.prog (K + 1) 58 x) (hw : wideDef K x) (hg : goodDef K x) : DefOk K x := by
  have h6 : (∀ i, i < (x.f 4).l.length → Fits Tryd.prog (K + 1) 64 (gD (x.f 4).l i)) ∧ (∀ i, i < (x.f 5).l.length → Fits Tryd.prog (K + 1) 112 (gD (x.f 5).l i)) ∧ (∀ i, i < (x.f 6).l.length → Fits Tryd.prog (K + 1) 132 (gD (x.f 6).l i)) := by
    obtain ⟨x0, x1, x2, x3, x4, x5, x6, rfl, -, -, h4, h5, h6⟩ := fits58 hf
    exact ⟨fitL h4, fitL h5, fitL h6⟩
  exact ⟨hf, hg.1, hw.1, hg.2.1, fun i hi => fldOk_of (h6.1 i hi) (hw.2.1 i hi) (hg.2.2.1 i hi), fun i hi => ⟨h6.2.1 i hi, hw.2.2.1 i hi, hg.2.2.2.1 i hi⟩, fun i hi => inOk_of (h6.2.2 i hi) (hw.2.2.2 i hi) (hg.2.2.2.2 i hi)⟩
set_option maxRecDepth 100000 in
theorem docOk_of {K : Nat} {d : D} (hf : Fits Tryd.prog (K + 1) 42 d) (hw : wideDoc K (d.f 0).l) (hg : goodDoc K (d.f 0).l) : ∀ i, i < (d.f 0).l.length → DefOk K (gD (d.f 0).l i) := fun i hi => by
  have h1 : ∀ i, i < (d.f 0).l.length → Fits Tryd.prog (K + 1) 58 (gD (d.f 0).l i) := by
    obtain ⟨x0, rfl, h0⟩ := fits42 hf
    exact fitL h0
  exact defOk_of (h1 i hi) (hw i hi) (hg i hi)
end Go.Proofs.YtohneabalakmeaaDoor
