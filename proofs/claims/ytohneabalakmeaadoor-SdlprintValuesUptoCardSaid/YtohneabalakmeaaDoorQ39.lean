/- Parts of a proof, merged by a program (shake.py). -/
import Derived.Test.YtohneabalakmeaaDoorQ38
namespace Go.Proofs.YtohneabalakmeaaDoor
open Go.RowKit
attribute [local irreducible] wpList Calls Code.wp
def ACP (e : Ge) (P : Program) (f : FuncId) (args : List V) (R : V → Prop) : Prop :=
  ∀ (s : Sg) (w : World) (us : Array Value), relL P s w args us.toList → (∀ b o, s.F b o → (w.cell? ⟨b, o, none⟩).isSome) → e.E w →
    Calls P f us w fun en w' => ∃ v F' r, en = .returned v ∧ Frm (fun _ => False) w w' ∧ Keeps s.F F' w w' ∧ (∀ b o, F' b o → (w'.cell? ⟨b, o, none⟩).isSome) ∧ (∀ b o, b < w.heap.size → F' b o → s.F b o) ∧ R r ∧ rel P { s with F := F' } w' r v
section
variable {X : Cx} {nn : Nat} {st : Vst nn} {o : Oper} {K : Vst nn → Prop} {ops : Array Oper} {l : List Oper} {d : Option Tmp} {KK : Vst nn → Prop}
set_option maxRecDepth 100000 in
theorem opOk_callP {f : FuncId} {args : List V} {R : V → Prop} (h : act1 X.P st.rs (ev st) o.op = .call f args) (hc : ACP X.e X.P f (outL args) R) (hK : ∀ r, R r → K (st.put o.dst r)) : OpOk X o st K := by
  intro s w a hI N Q hN
  obtain ⟨us, h1, h2⟩ := call1_ok h hI.ev (fun _ => rfl)
  unfold Oper.wp
  rw [h1, Oper.upon_enter]
  refine (hc s w us (relL.out _ _ h2) hI.mem.fx hI.en).mono ?_
  rintro e w' ⟨v, F', r, rfl, hfr, hk, hfx, hnf, hR, hr⟩
  have hm := hI.mem.after (s' := { s with F := F' }) hfr hk rfl rfl rfl hfx hnf
  refine hN _ _ _ _ ((hI.go hm.1 hm.2 ⟨hfr.os, hfr.tape, hfr.output, hfr.size, fun k hk _ => hfr.block k hk (fun h => h)⟩ fun b o hb _ hF => hnf b o (Nat.lt_of_lt_of_le hb hI.base) hF).put o.dst hr) (hK r hR)
set_option maxRecDepth 100000 in
theorem s_callP {f : FuncId} {args : List V} {R : V → Prop} (hg : o.guard = none) (hd : o.dst = d) (h : act1 X.P st.rs (ev st) o.op = .call f args) (hc : ACP X.e X.P f (outL args) R) (hK : ∀ r, R r → AWo X ops l (st.put d r) KK) : AWo X ops (o :: l) st KK :=
  awo_cons hg (opOk_callP h hc fun r hr => by rw [hd]; exact hK r hr)
set_option maxRecDepth 100000 in
theorem s_guard_callP {j : Nat} {want b : Bool} {f : FuncId} {args : List V} {R : V → Prop} (hg : o.guard = some (j, want)) (hd : o.dst = d) (hb : gval ops st j = some b) (h : act1 X.P st.rs (ev st) o.op = .call f args) (hc : ACP X.e X.P f (outL args) R) (hK : (b == want) = true → ∀ r, R r → AWo X ops l (st.put d r) KK)
    (hN : (b == want) = false → AWo X ops l (st.put d .any) KK) : AWo X ops (o :: l) st KK := by
  cases e : b == want
  · exact s_skip hg hd hb e (hN e)
  · exact awo_guard hg hb (fun _ => opOk_callP h hc fun r hr => by rw [hd]; exact hK e r hr) fun q => (q (by simpa using e)).elim
end
set_option maxRecDepth 100000 in
/-- a contract over blocks that turns nothing old and hands back some plain value -/
theorem acP_of {f : FuncId} {args : List V} {R : V → Prop} (h : ∀ s w us, relL Tryd.prog s w args us.toList → EnvT w → Calls Tryd.prog f us w fun e w' => ∃ r, e = .returned r ∧ okV r ∧ R (.c r) ∧ Below w.heap.size w w') : ACP EN Tryd.prog f args R := by
  intro s w us hus hfx he
  refine (h s w us hus he).mono ?_
  rintro e w' ⟨r, rfl, hr, hR, hb⟩
  have hc : ∀ b o, s.F b o → w'.cell? ⟨b, o, none⟩ = w.cell? ⟨b, o, none⟩ := fun b o hF => by
    obtain ⟨x, hx⟩ := Option.isSome_iff_exists.1 (hfx b o hF)
    exact hb.cell (p := ⟨b, o, none⟩) (block_lt_of_cell hx)
  exact ⟨r, s.F, .c r, rfl, Frm.of_below hb, fun b o hF => ⟨hc b o hF, hF⟩, fun b o hF => by rw [hc b o hF]; exact hfx b o hF, fun _ _ _ h => h, hR, by rw [rel]; exact ⟨rfl, hr⟩⟩
/-- some bool comes back; if it is true, a thing holds -/
def RB (p : Prop) (r : V) : Prop := ∃ b : Bool, r = .c (.bool b) ∧ (b = true → p)
set_option maxRecDepth 100000 in
theorem goodF_down : ∀ {K m : Nat} {d : D}, goodF m d → K ≤ m → goodF K d
  | 0, _, _, _, _ => trivial
  | K + 1, 0, _, _, h => by omega
  | K + 1, m + 1, d, hg, h => ⟨hg.1, fun i hi => goodF_down (hg.2 i hi) (by omega)⟩
set_option maxRecDepth 100000 in
theorem literal_acp {K : Nat} {d : D} (hf : Fits Tryd.prog K 49 d) : ACP EN Tryd.prog 40 [.agg (cellsV Tryd.prog 12 49 d)] (RB (goodF K d)) :=
  acP_of fun s w us hus _ => by
    obtain ⟨cs, k, rfl, hr⟩ := agg_cells lay49 hus
    refine (literalR (max k K) cs d w w ⟨Below.refl _ _, (hr.le (by omega))⟩).mono ?_
    rintro e w' ⟨b, rfl, hb, hg⟩
    exact ⟨_, rfl, trivial, ⟨b, rfl, fun h => goodF_down (hg h) (by omega)⟩, hb⟩
end Go.Proofs.YtohneabalakmeaaDoor
