/- Parts of a proof, merged by a program (shake.py). -/
import Derived.Test.YtdklhkdlndlgnaaGreatDoorCards
import Derived.Test.YtdklhkdlndlgnaaGreatDoorTie
import Derived.ProofKit
import Derived.OpenShut
import Derived.Deep.DeepHandedRow
import Derived.Test.YtdklhkdlndlgnaaGreatDoorQ26
set_option linter.unusedVariables false
set_option linter.unusedSimpArgs false
namespace Go.Proofs.YtdklhkdlndlgnaaGreatDoor
open Go.ChangeShapes Go.WideShapes Go.ChangeAt Go.RowKit
attribute [local irreducible] wpList Calls Code.wp
theorem own : ownKnob Tryz.prog.godebug = none := by kernel_rfl
theorem laidOut' : laidOutB Tryz.prog = true := by kernel_rfl
theorem gPow : Tryz.prog.globalNamed "internal/strconv.uint64pow10" = some 1 := by kernel_rfl
theorem gErrR : Tryz.prog.globalNamed "strconv.ErrRange" = some 5 := by kernel_rfl
theorem gErrS : Tryz.prog.globalNamed "strconv.ErrSyntax" = some 4 := by kernel_rfl
theorem gErrRT : (Tryz.prog.globals[5]?).map (·.type) = some 78 := by kernel_rfl
theorem gErrST : (Tryz.prog.globals[4]?).map (·.type) = some 78 := by kernel_rfl
theorem tab_of_row {P : Program} {W : World} {g : Nat} {n : String} {t e : TypeId} {m : Nat} {k : IntKind} {zs : List Int} (hg : P.globalNamed n = some g) (hty : (P.globals[g]?).map (·.type) = some t) (ht : P.underlying t = some (.array m e)) (he : P.underlying e = some (.int k)) (hce : P.cellsOf e = 1) (hct : P.cellsOf t = m)
    (h : ∃ g t cs fuel p, P.globalNamed n = some g ∧ (P.globals[g]?).map (·.type) = some t ∧ W.var? P n = some cs ∧ DataW.trod (fun _ => ()) P W 0 (fun _ => true) false fuel t cs.toList = some (Lib.tabData k zs, p)) : Lib.TabIs P W n k zs := by
  obtain ⟨g', t', cs, fuel, p, hg', ht', hvar, hd⟩ := h
  obtain rfl := Option.some.inj (hg.symm.trans hg')
  obtain rfl := Option.some.inj (hty.symm.trans ht')
  unfold Lib.TabIs
  rw [hvar, ← Lib.cells_of_tab ht he hce hct hd]
theorem err_of_row {P : Program} {W : World} {g : Nat} {n nm : String} {t : TypeId} {ms : Array (String × TypeId)} {d : DataW Unit} (hg : P.globalNamed n = some g) (hty : (P.globals[g]?).map (·.type) = some t) (ht : P.underlying t = some (.interface ms))
    (h : ∃ g t cs fuel p, P.globalNamed n = some g ∧ (P.globals[g]?).map (·.type) = some t ∧ W.var? P n = some cs ∧ DataW.trod (fun _ => ()) P W 0 (fun _ => true) false fuel t cs.toList = some (.iface nm d, p)) : ∃ tp p, W.var? P n = some #[.iface tp p] := by
  obtain ⟨g', t', cs, fuel, p, hg', ht', hvar, hd⟩ := h
  obtain rfl := Option.some.inj (hg.symm.trans hg')
  obtain rfl := Option.some.inj (hty.symm.trans ht')
  obtain ⟨_, u, v, hc, _⟩ := iface_of_trod ht hd
  refine ⟨u, v, ?_⟩
  rw [hvar]
  cases cs; simp_all
theorem gPowT : (Tryz.prog.globals[1]?).map (·.type) = some 154 := by kernel_rfl
theorem types_ok (ts : List TypeId) (h : (ts.all fun t => Tryz.prog.readableRec t && decide (t < Tryz.prog.types.size)) = true) : ∀ t ∈ ts, Tryz.prog.readableRec t = true ∧ t < Tryz.prog.types.size := by
  intro t ht
  have := List.all_eq_true.1 h t ht
  simpa using this
end Go.Proofs.YtdklhkdlndlgnaaGreatDoor
namespace Go.Proofs.YtdklhkdlndlgnaaGreatDoor
open Go.RowKit
attribute [local irreducible] wpList Calls Code.wp
/-- what the reference's text finds of a numeral: the digits d, the sign -/
structure Rn (l : List UInt8) (d : ByteArray) (ng : Bool) : Prop where
  empty : d.size = 0 → numU l = Lib.NumEnd.syntax
  zero : 0 < d.size → bV d 0 = 48 → (1 < d.size ∨ ng = true) → numU l = Lib.NumEnd.syntax
  bad : ∀ x, x < d.size → digB (bV d x) = false → numU l = Lib.NumEnd.syntax
  good : 0 < d.size → ¬ (bV d 0 = 48 ∧ (1 < d.size ∨ ng = true)) → (∀ k, k < d.size → digB (bV d k) = true) →
    numU l = if ng = true then (if decV 0 (tk d d.size) ≤ 9223372036854775808 then .ok (-(decV 0 (tk d d.size) : Int)) else .range) else if decV 0 (tk d d.size) < 9223372036854775808 then .ok (decV 0 (tk d d.size)) else .range
  mono : ∀ m, decV 0 (tk d m) ≤ decV 0 (tk d d.size)
end Go.Proofs.YtdklhkdlndlgnaaGreatDoor
namespace Go.Proofs.YtdklhkdlndlgnaaGreatDoor
open Go.RowKit
attribute [local irreducible] wpList Calls Code.wp
theorem itoa_sizeM (n : Int) (h0 : -9223372036854775808 ≤ n) (h1 : n ≤ 9223372036854775807) : (bs (Lib.itoa n)).size ≤ 21 := by
  rw [bs_size]
  unfold Lib.itoa
  split
  · have := dec_len (u := n.natAbs) (by omega)
    simp only [List.length_cons]; omega
  · have := dec_len (u := n.toNat) (by omega)
    omega
end Go.Proofs.YtdklhkdlndlgnaaGreatDoor
namespace Go.Proofs.YtdklhkdlndlgnaaGreatDoor
open Go.RowKit
attribute [local irreducible] wpList Calls Code.wp
theorem var_stays {P : Program} {w w' : World} {n : String} {g G : Nat} {cs : Array Value} (hg : P.globalNamed n = some g) (hG : g < G) (h : w.var? P n = some cs) (hs : ∀ k, k < G → w'.heap[k]? = w.heap[k]?) : w'.var? P n = some cs := by
  unfold World.var? at h ⊢
  rw [hg] at h ⊢
  simp only [Option.bind_some] at h ⊢
  rw [hs g hG]; exact h
def EN5 : Ge where
  G := max (1 + 1) (max (5 + 1) (4 + 1))
  E := fun w => Env w ∧ max (1 + 1) (max (5 + 1) (4 + 1)) ≤ w.heap.size
  stays w w' h hs := by
    obtain ⟨⟨h1, ⟨tp, p, h2⟩, ⟨tp', p', h3⟩⟩, h4⟩ := h
    refine ⟨⟨var_stays (g := 1) (by kernel_rfl) (by omega) h1 hs, ⟨tp, p, var_stays (g := 5) (by kernel_rfl) (by omega) h2 hs⟩, ⟨tp', p', var_stays (g := 4) (by kernel_rfl) (by omega) h3 hs⟩⟩, ?_⟩
    generalize hg : max (1 + 1) (max (5 + 1) (4 + 1)) = g at hs h4 ⊢
    have hg0 : 0 < g := by omega
    have h5 := hs (g - 1) (by omega)
    have h6 : w.heap[g - 1]? = some w.heap[g - 1] := Array.getElem?_eq_getElem (by omega)
    have h7 := (Array.getElem?_eq_some_iff.1 (h5.trans h6)).1
    omega
  le w h := h.2
/-- a contract over blocks that turns nothing old and hands back values that read no memory -/
theorem ac_of5 {f : FuncId} {args : List V} {r : V} {u : Value} (h : ∀ s w us, relL Tryz.prog s w args us.toList → Env w → (∀ s' w', rel Tryz.prog s' w' r u) ∧ Calls Tryz.prog f us w fun e w' => e = .returned u ∧ Below w.heap.size w w') : AC EN5 Tryz.prog f args r := by
  intro s w us hus hfx he
  obtain ⟨hr, hc⟩ := h s w us hus he.1
  refine hc.mono ?_
  rintro e w' ⟨rfl, hb⟩
  have hc : ∀ b o, s.F b o → w'.cell? ⟨b, o, none⟩ = w.cell? ⟨b, o, none⟩ := fun b o hF => by
    obtain ⟨x, hx⟩ := Option.isSome_iff_exists.1 (hfx b o hF)
    exact hb.cell (p := ⟨b, o, none⟩) (block_lt_of_cell hx)
  exact ⟨u, s.F, rfl, Frm.of_below hb, fun b o hF => ⟨hc b o hF, hF⟩, fun b o hF => by rw [hc b o hF]; exact hfx b o hF, fun _ _ _ h => h, hr _ _⟩
def R64 (n : Int) : Prop := -9223372036854775808 ≤ n ∧ n ≤ 9223372036854775807
theorem rel_i64 {P : Program} {s : Sg} {w : World} {n : Int} (h : R64 n) : rel P s w (.c (.int .i64 n)) (.int .i64 n) := by
  rw [rel]
  refine ⟨rfl, ?_⟩
  show (Lit.int .i64 n).wf = true
  rw [wf_int]; exact h
theorem rel_bool {P : Program} {s : Sg} {w : World} {b : Bool} : rel P s w (.c (.bool b)) (.bool b) := by rw [rel]; exact ⟨rfl, trivial⟩
theorem R64.zero : R64 0 := ⟨by decide, by decide⟩
end Go.Proofs.YtdklhkdlndlgnaaGreatDoor
