/- Parts of a proof, merged by a program (shake.py). -/
import Derived.Still
import Derived.Test.YthjiclhfhjdjpaaGreatDoorR3
set_option linter.unusedVariables false
set_option linter.unusedSimpArgs false
namespace Go.Proofs.YthjiclhfhjdjpaaGreatDoor
open Go.RowKit
attribute [local irreducible] wpList Calls Code.wp
variable {X : Cx} {nn : Nat} {st : Vst nn} {ops : Array Oper} {o : Oper}
theorem all_nil {ns : List Nat} : ns.all (fun n => !([] : List Nat).contains n) = true := by simp
variable {ws : List Nat} {wi : Nat}
section
variable {l : List Oper} {Q : Vst nn → Prop} {d : Option Tmp} {k : Nat}
theorem y_lit {t e : TypeId} {by_ m : Nat} {parts : Array (Nat × Operand)} (ds : List D) (hg : o.guard = none) (ho : o.op = .buildSlice t m parts) (hd : o.dst = d) (he : elemOk X.P t = some (e, by_)) (hn : m = ds.length) (hsm : Nat.ble (m * X.P.cellsOf e) (2 ^ 24) = true)
    (hp : partsD X.P e (ev st) parts.toList 0 ds) (hK : absLex X ops ws wi Q (k + 1) l (st.put d (.lit e ds))) : absLex X ops ws wi Q k (o :: l) st :=
  ⟨_, [], .inl ⟨by simp [gw, hg], .lit ho he hn (Nat.le_of_ble_eq_true hsm) hp⟩, by rw [hd]; exact hK⟩
theorem y_onlit {t e : TypeId} {by_ : Nat} {x y : Operand} {l1 l2 : List D} (hg : o.guard = none) (ho : o.op = .call { callee := .builtin .append, args := #[x, y], argTypes := #[t, t] }) (hd : o.dst = d) (he : elemOk X.P t = some (e, by_))
    (hleaf : ∀ d, (cellsV X.P 12 e d).all V.leaf = true) (hx : ev st x = .lit e l1) (hy : (ev st y).out = .sl e l2) (hK : absLex X ops ws wi Q (k + 1) l (st.put d (.sl e (l1 ++ l2)))) (hp : l1.length + l2.length ≤ maxLen ∧ (l1.length + l2.length) * by_ ≤ 140737488355328) : absLex X ops ws wi Q k (o :: l) st :=
  ⟨_, [], .inl ⟨by simp [gw, hg], .onlit ho he hleaf hx hy hp⟩, by rw [hd]; exact hK⟩
theorem y_app {t e : TypeId} {by_ q : Nat} {x y : Operand} {l1 l2 : List D} (hg : o.guard = none) (ho : o.op = .call { callee := .builtin .append, args := #[x, y], argTypes := #[t, t] }) (hd : o.dst = d) (he : elemOk X.P t = some (e, by_))
    (hleaf : ∀ d, (cellsV X.P 12 e d).all V.leaf = true) (hx : ev st x = .own q e l1) (hw : wi = k) (hws : ws = [q]) (hr : st.rs q = some (.tok e l1.length)) (hy : (ev st y).out = .sl e l2) (hK : absLex X ops ws wi Q (k + 1) l ((st.res q (.tok e (l1.length + l2.length))).put d (.own q e (l1 ++ l2))))
    (hp : 0 < l2.length ∧ l1.length + l2.length ≤ maxLen ∧ (l1.length + l2.length) * by_ ≤ 140737488355328) : absLex X ops ws wi Q k (o :: l) st :=
  ⟨_, _, .inl ⟨by simp [gw, hg], .app (by simp [hw]) (by simp [hws]) ho he hleaf hx hr hy hp⟩, by rw [hd, stp_one]; exact hK⟩
theorem y_store {t : TypeId} {x y : Operand} {m off : Nat} {t' : TypeId} {vs xs : List V} (hg : o.guard = none) (ho : o.op = .store t x y) (hd : o.dst = none) (hx : ev st x = .bx m off) (hw : wi = k) (hws : ws = [m]) (hr : st.rs m = some (.box t' vs)) (hc : cellsOf (ev st y) = some xs)
    (hs : X.P.cellsOf t = xs.length ∧ (X.P.info? t).isSome) (hl : Nat.ble (off + xs.length) vs.length = true) (hK : absLex X ops ws wi Q (k + 1) l (st.res m (.box t' (splice vs off xs)))) : absLex X ops ws wi Q k (o :: l) st :=
  ⟨_, _, .inl ⟨by simp [gw, hg], .store (by simp [hw]) (by simp [hws]) ho hd hx hr hc hs (Nat.le_of_ble_eq_true hl)⟩, by rw [hd, stp_one]; exact hK⟩
theorem y_guard_call {j : Nat} {want b : Bool} {f : FuncId} {args : List V} {r : V} (hg : o.guard = some (j, want)) (hd : o.dst = d) (hb : gval ops st j = some b) (h : act1 X.P st.rs (ev st) o.op = .call f args) (hc : AC X.e X.P f (outL args) r) (hK : (b == want) = true → absLex X ops ws wi Q (k + 1) l (st.put d r))
    (hN : (b == want) = false → absLex X ops ws wi Q (k + 1) l (st.put d .any)) : absLex X ops ws wi Q k (o :: l) st := by
  cases e : b == want
  · exact y_skip hg hd hb e (hN e)
  · exact y_wanted_call hg hd hb e h hc (hK e)
end
section
variable {l : List Oper} {KK : Vst nn → Prop} {d : Option Tmp}
theorem s_onlit {t e : TypeId} {by_ : Nat} {x y : Operand} {l1 l2 : List D} (hg : o.guard = none) (ho : o.op = .call { callee := .builtin .append, args := #[x, y], argTypes := #[t, t] }) (hd : o.dst = d) (he : elemOk X.P t = some (e, by_))
    (hleaf : ∀ d, (cellsV X.P 12 e d).all V.leaf = true) (hx : ev st x = .lit e l1) (hy : (ev st y).out = .sl e l2) (hK : AWo X ops l (st.put d (.sl e (l1 ++ l2))) KK) (hp : l1.length + l2.length ≤ maxLen ∧ (l1.length + l2.length) * by_ ≤ 140737488355328) : AWo X ops (o :: l) st KK :=
  awo_cons hg (opOk_append_lit ho he hleaf hx hy hp.1 hp.2 (by rw [hd]; exact hK))
theorem s_skip {j : Nat} {want b : Bool} (hg : o.guard = some (j, want)) (hd : o.dst = d) (hb : gval ops st j = some b) (hne : (b == want) = false) (hK : AWo X ops l (st.put d .any) KK) : AWo X ops (o :: l) st KK :=
  awo_guard hg hb (fun e => by subst e; simp at hne) fun _ => by rw [hd]; exact hK
theorem s_guard_val {j : Nat} {want b : Bool} {p : Prop} {v : V} (hg : o.guard = some (j, want)) (hd : o.dst = d) (hb : gval ops st j = some b) (h : act1 X.P st.rs (ev st) o.op = .val p v) (hK : (b == want) = true → AWo X ops l (st.put d v) KK) (hp : (b == want) = true → p)
    (hN : (b == want) = false → AWo X ops l (st.put d .any) KK) : AWo X ops (o :: l) st KK := by
  cases e : b == want
  · exact s_skip hg hd hb e (hN e)
  · exact s_wanted_val hg hd hb e h (hK e) (hp e)
theorem s_guard_call {j : Nat} {want b : Bool} {f : FuncId} {args : List V} {r : V} (hg : o.guard = some (j, want)) (hd : o.dst = d) (hb : gval ops st j = some b) (h : act1 X.P st.rs (ev st) o.op = .call f args) (hc : AC X.e X.P f (outL args) r) (hK : (b == want) = true → AWo X ops l (st.put d r) KK)
    (hN : (b == want) = false → AWo X ops l (st.put d .any) KK) : AWo X ops (o :: l) st KK := by
  cases e : b == want
  · exact s_skip hg hd hb e (hN e)
  · exact s_wanted_call hg hd hb e h hc (hK e)
variable {k : Nat} {ws : List Nat} {wi : Nat} {Q : Vst nn → Prop}
theorem s_lit0 {t e : TypeId} {by_ : Nat} (hg : o.guard = none) (ho : o.op = .buildSlice t 0 #[]) (hd : o.dst = d) (he : elemOk X.P t = some (e, by_)) (hK : AWo X ops l (st.put d (.lit e [])) KK) : AWo X ops (o :: l) st KK :=
  s_lit (by_ := by_) [] hg ho hd he rfl (by rw [Nat.zero_mul]; rfl) trivial hK
theorem y_lit0 {t e : TypeId} {by_ : Nat} (hg : o.guard = none) (ho : o.op = .buildSlice t 0 #[]) (hd : o.dst = d) (he : elemOk X.P t = some (e, by_)) (hK : absLex X ops ws wi Q (k + 1) l (st.put d (.lit e []))) : absLex X ops ws wi Q k (o :: l) st :=
  y_lit (by_ := by_) [] hg ho hd he rfl (by rw [Nat.zero_mul]; rfl) trivial hK
theorem y_lit1 {t e : TypeId} {by_ : Nat} {x : Operand} {d1 : D} (hg : o.guard = none) (ho : o.op = .buildSlice t 1 #[(0, x)]) (hd : o.dst = d) (he : elemOk X.P t = some (e, by_)) (h1 : dOf (ev st x) = some d1) (h2 : cellsOf (ev st x) = some (cellsV X.P 12 e d1)) (hs : Nat.ble (1 * X.P.cellsOf e) (2 ^ 24) = true)
    (hK : absLex X ops ws wi Q (k + 1) l (st.put d (.lit e [d1]))) : absLex X ops ws wi Q k (o :: l) st :=
  y_lit (by_ := by_) [d1] hg ho hd he rfl hs ⟨rfl, h2, trivial⟩ hK
end
end Go.Proofs.YthjiclhfhjdjpaaGreatDoor
