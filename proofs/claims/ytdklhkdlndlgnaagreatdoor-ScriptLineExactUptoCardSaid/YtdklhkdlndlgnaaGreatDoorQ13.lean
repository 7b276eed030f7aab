/- Parts of a proof, merged by a program (shake.py). -/
import Derived.Test.YtdklhkdlndlgnaaGreatDoorQ12
set_option linter.unusedVariables false
set_option linter.unusedSimpArgs false
namespace Go.Proofs.YtdklhkdlndlgnaaGreatDoor
open Go.RowKit
attribute [local irreducible] wpList Calls Code.wp
def rsOf (bs : List Res) : Nat → Option Res := fun n => if n < 1000000 then none else bs[n - 1000000]?
theorem rsOf_some {bs : List Res} {n : Nat} {ρ : Res} (h : rsOf bs n = some ρ) : ∃ i, n = pn i ∧ bs[i]? = some ρ := by
  unfold rsOf at h
  split at h
  · cases h
  · exact ⟨n - 1000000, by unfold pn; omega, h⟩
theorem rsOf_pn (bs : List Res) (i : Nat) : rsOf bs (pn i) = bs[i]? := by
  unfold rsOf pn
  rw [if_neg (by omega), Nat.add_sub_cancel_left]
/-- a contract of a function that writes to what it is handed -/
def ACB (e : Ge) (P : Program) (f : FuncId) (args : List V) (bs : List Res) (r : V) (bs' : List Res) : Prop :=
  ∀ (pas : Nat → Prop) (s : Sg) (w : World) (us : Array Value), relL P s w args us.toList → MemOk P pas w.heap.size (rsOf bs) s w → e.E w → (∀ k, k < e.G → ¬ pas k) →
    Calls P f us w fun en w' => ∃ v s', en = .returned v ∧ Frm pas w w' ∧ Keeps s.F s'.F w w' ∧ (∀ b o, b < w.heap.size → ¬ pas b → s'.F b o → s.F b o) ∧ MemOk P pas w.heap.size (rsOf bs') s' w' ∧ PE s s' ∧ rel P s' w' r v
mutual
def renV (φ : Nat → Option Nat) : V → V
  | .bx n o => match φ n with | some m => .bx m o | none => .any
  | .own n e l => match φ n with | some m => .own m e l | none => .sl e l
  | .agg vs => .agg (renL φ vs)
  | .tup vs => .tup (renL φ vs)
  | .clo f vs => .clo f (renL φ vs)
  | .mp n => match φ n with | some m => .mp m | none => .any
  | .any => .any
  | .c v => .c v
  | .sl e l => .sl e l
  | .lit e l => .lit e l
  | .at t d o => .at t d o
def renL (φ : Nat → Option Nat) : List V → List V
  | [] => []
  | v :: vs => renV φ v :: renL φ vs
end
def renR (φ : Nat → Option Nat) : Res → Res
  | .box t vs => .box t (renL φ vs)
  | ρ => ρ
section
variable {P : Program} {s s2 : Sg} {w : World} {φ : Nat → Option Nat}
mutual
theorem rel.ren (hF : s2.F = s.F) (hφ : ∀ n m, φ n = some m → s2.bx m = s.bx n ∧ s2.tk m = s.tk n) : ∀ (v : V) (u : Value), rel P s w v u → rel P s2 w (renV φ v) u
  | .any, _, _ => by simp [renV, rel]
  | .c _, _, h => by simpa [renV, rel] using h
  | .sl _ _, _, h => by rw [renV]; rw [rel] at h ⊢; rw [hF]; exact h
  | .lit _ _, _, h => by rw [renV]; rw [rel] at h ⊢; rw [hF]; exact h
  | .at _ _ _, _, h => by rw [renV]; rw [rel] at h ⊢; rw [hF]; exact h
  | .bx n o, _, h => by
    rw [renV]
    split
    · rename_i m hm
      rw [rel] at h ⊢
      rw [(hφ n m hm).1]; exact h
    · simp [rel]
  | .mp n, _, h => by
    rw [renV]
    split
    · rename_i m hm
      rw [rel] at h ⊢
      rw [(hφ n m hm).1]; exact h
    · simp [rel]
  | .own n e l, _, h => by
    rw [renV]
    split
    · rename_i m hm
      rw [rel] at h ⊢
      rw [(hφ n m hm).2, hF]; exact h
    · rw [rel] at h; rw [rel, hF]; exact h.1
  | .agg vs, _, h => by rw [renV]; rw [rel] at h ⊢; obtain ⟨cs, h1, h2⟩ := h; exact ⟨cs, h1, relL.ren hF hφ vs _ h2⟩
  | .tup vs, _, h => by rw [renV]; rw [rel] at h ⊢; obtain ⟨cs, h1, h2⟩ := h; exact ⟨cs, h1, relL.ren hF hφ vs _ h2⟩
  | .clo _ vs, _, h => by rw [renV]; rw [rel] at h ⊢; obtain ⟨cs, h1, h2⟩ := h; exact ⟨cs, h1, relL.ren hF hφ vs _ h2⟩
theorem relL.ren (hF : s2.F = s.F) (hφ : ∀ n m, φ n = some m → s2.bx m = s.bx n ∧ s2.tk m = s.tk n) : ∀ (vs : List V) (us : List Value), relL P s w vs us → relL P s2 w (renL φ vs) us
  | [], [], _ => by simp [renL, relL]
  | [], _ :: _, h => by simp [relL] at h
  | _ :: _, [], h => by simp [relL] at h
  | v :: vs, u :: us, h => by rw [relL] at h; rw [renL, relL]; exact ⟨rel.ren hF hφ v u h.1, relL.ren hF hφ vs us h.2⟩
end
theorem Holds.ren {n m : Nat} {ρ : Res} (hF : s2.F = s.F) (hφ : ∀ n m, φ n = some m → s2.bx m = s.bx n ∧ s2.tk m = s.tk n) (h1 : s2.bx m = s.bx n) (h2 : s2.tb m = s.tb n) (h3 : s2.tk m = s.tk n) (h : Holds P s w n ρ) : Holds P s2 w m (renR φ ρ) := by
  cases ρ with
  | box t vs =>
    obtain ⟨b, cs, q1, q2, q3, q4⟩ := h
    exact ⟨b, cs, h1.trans q1, q2, relL.ren hF hφ vs _ q3, by rw [hF]; exact q4⟩
  | tok e k =>
    simp only [renR, Holds] at h ⊢
    rw [h2, h3, hF]; exact h
  | bld t e l =>
    simp only [renR, Holds] at h ⊢
    rw [h1, h2, hF]; exact h
  | blk H =>
    simp only [renR, Holds] at h ⊢
    rw [h1, hF]; exact h
theorem bk_ren {n m b : Nat} {ρ : Res} (h1 : s2.bx m = s.bx n) (h2 : s2.tb m = s.tb n) : s2.bk m (renR φ ρ) b ↔ s.bk n ρ b := by
  cases ρ <;> simp [renR, Sg.bk, h1, h2]
end
def φin (ns : List Nat) (n : Nat) : Option Nat := (ns.idxOf? n).map pn
def φout (ns : List Nat) (n : Nat) : Option Nat := if n < 1000000 then none else ns[n - 1000000]?
theorem φout_pn (ns : List Nat) (i : Nat) : φout ns (pn i) = ns[i]? := by
  unfold φout pn
  rw [if_neg (by omega), Nat.add_sub_cancel_left]
theorem idx_get {ns : List Nat} {n i : Nat} (h : ns.idxOf? n = some i) : ns[i]? = some n := by
  unfold List.idxOf? at h
  rw [List.findIdx?_eq_some_iff_getElem] at h
  obtain ⟨hi, hp, _⟩ := h
  rw [List.getElem?_eq_getElem hi]
  simp at hp
  rw [hp]
theorem idx_none {ns : List Nat} {n : Nat} (h : ns.idxOf? n = none) : n ∉ ns := by
  unfold List.idxOf? at h
  rw [List.findIdx?_eq_none_iff] at h
  intro hn
  have := h n hn
  simp at this
theorem idx_of {ns : List Nat} {n i : Nat} (hnd : ns.Nodup) (h : ns[i]? = some n) : ns.idxOf? n = some i := by
  cases hx : ns.idxOf? n with
  | none => exact (idx_none hx (List.mem_of_getElem? h)).elim
  | some j =>
    have hj := idx_get hx
    obtain ⟨h1, h2⟩ := List.getElem?_eq_some_iff.1 h
    obtain ⟨h3, h4⟩ := List.getElem?_eq_some_iff.1 hj
    congr 1
    exact (List.getElem_inj hnd).1 (h4.trans h2.symm)
def updN (rs : Nat → Option Res) (ns : List Nat) (ρs : List Res) : Nat → Option Res := fun m =>
  match ns.idxOf? m with
  | some i => ρs[i]?
  | none => rs m
variable {X : Cx} {nn : Nat} {st : Vst nn} {o : Oper} {K : Vst nn → Prop}
def Vst.resN (st : Vst nn) (ns : List Nat) (ρs : List Res) : Vst nn := { st with rs := updN st.rs ns ρs }
theorem opOk_callB {f : FuncId} {vargs args : List V} {bs bs' : List Res} {r : V} (ns : List Nat) (h : act1 X.P st.rs (ev st) o.op = .call f vargs) (hc : ACB X.e X.P f args bs r bs') (hnd : ns.Nodup) (ha : renL (φin ns) vargs = args)
    (hb : ns.map (fun n => (st.rs n).map (renR (φin ns))) = bs.map some) (hK : K ((st.resN ns (bs'.map (renR (φout ns)))).put o.dst (renV (φout ns) r))) : OpOk X o st K := by
  intro s w a hI N Q hP hN
  obtain ⟨us, h1, h2⟩ := call1_ok h hI.ev (fun _ => rfl)
  unfold Oper.wp
  rw [h1, Oper.upon_enter]
  -- the callee's reading
  let sc : Sg := { F := s.F, bx := fun n => (φout ns n).bind s.bx, tb := fun n => (φout ns n).bind s.tb, tk := fun n => match φout ns n with | some m => s.tk m | none => (.tuple #[], 0) }
  have hin : ∀ n m, φin ns n = some m → ∃ i, m = pn i ∧ ns[i]? = some n := fun n m hm => by
    obtain ⟨i, hi, rfl⟩ := Option.map_eq_some_iff.1 hm
    exact ⟨i, rfl, idx_get hi⟩
  have hsc : ∀ (i q : Nat), ns[i]? = some q → sc.bx (pn i) = s.bx q ∧ sc.tb (pn i) = s.tb q ∧ sc.tk (pn i) = s.tk q := fun i q hq => by
    have e : φout ns (pn i) = some q := (φout_pn ns i).trans hq
    refine ⟨?_, ?_, ?_⟩
    · show (φout ns (pn i)).bind s.bx = _; rw [e]; rfl
    · show (φout ns (pn i)).bind s.tb = _; rw [e]; rfl
    · show (match φout ns (pn i) with | some m => s.tk m | none => (.tuple #[], 0)) = _; rw [e]
  have hφ1 : ∀ n m, φin ns n = some m → sc.bx m = s.bx n ∧ sc.tk m = s.tk n := fun n m hm => by
    obtain ⟨i, rfl, hi⟩ := hin n m hm
    exact ⟨(hsc i n hi).1, (hsc i n hi).2.2⟩
  have hargs : relL X.P sc w args us.toList := by rw [← ha]; exact relL.ren (s := s) (s2 := sc) rfl hφ1 _ _ h2
  have hbs : ∀ (i : Nat) (ρ : Res), bs[i]? = some ρ → ∃ q ρ0, ns[i]? = some q ∧ st.rs q = some ρ0 ∧ ρ = renR (φin ns) ρ0 := fun i ρ hi => by
    have h3 : (ns.map (fun n => (st.rs n).map (renR (φin ns))))[i]? = (bs.map some)[i]? := by rw [hb]
    rw [List.getElem?_map, List.getElem?_map, hi] at h3
    obtain ⟨q, hq, h4⟩ := Option.map_eq_some_iff.1 h3
    obtain ⟨ρ0, h5, h6⟩ := Option.map_eq_some_iff.1 h4
    exact ⟨q, ρ0, hq, h5, h6.symm⟩
  let pas : Nat → Prop := fun b => ∃ n ρ, n ∈ ns ∧ st.rs n = some ρ ∧ s.bk n ρ b
  have hpas : ∀ b, pas b → X.w0.heap.size ≤ b ∨ X.pas b := fun b ⟨n, ρ, _, hn, hbk⟩ => hI.mem.bs n ρ b hn hbk
  have hmem : MemOk X.P pas w.heap.size (rsOf bs) sc w := by
    refine ⟨hI.mem.fx, fun n ρ hn => ?_, fun n ρ b hn hbk => ?_, fun n m ρ ρ' b hn hm hnb hmb => ?_⟩
    · obtain ⟨i, rfl, hi⟩ := rsOf_some hn
      obtain ⟨q, ρ0, hq, h3, rfl⟩ := hbs i ρ hi
      exact Holds.ren (s := s) (s2 := sc) rfl hφ1 (hsc i q hq).1 (hsc i q hq).2.1 (hsc i q hq).2.2 (hI.mem.ho q ρ0 h3)
    · obtain ⟨i, rfl, hi⟩ := rsOf_some hn
      obtain ⟨q, ρ0, hq, h3, rfl⟩ := hbs i ρ hi
      exact .inr ⟨q, ρ0, List.mem_of_getElem? hq, h3, (bk_ren (hsc i q hq).1 (hsc i q hq).2.1).1 hbk⟩
    · obtain ⟨i, rfl, hi⟩ := rsOf_some hn
      obtain ⟨j, rfl, hj⟩ := rsOf_some hm
      obtain ⟨q, ρ0, hq, h3, rfl⟩ := hbs i ρ hi
      obtain ⟨q', ρ1, hq', h3', rfl⟩ := hbs j ρ' hj
      have e := hI.mem.dj q q' _ _ b h3 h3' ((bk_ren (hsc i q hq).1 (hsc i q hq).2.1).1 hnb) ((bk_ren (hsc j q' hq').1 (hsc j q' hq').2.1).1 hmb)
      subst e
      have := (idx_of hnd hq).symm.trans (idx_of hnd hq')
      cases this; rfl
  refine (hc pas sc w us hargs hmem hI.en fun k hk hp => (hpas k hp).elim (fun h => by have := X.e.le _ X.he; omega) (X.hp k hk)).mono ?_
  rintro e w' ⟨v, s', rfl, hfr, hk, hnf, hm', hpe, hr⟩
  let s2 : Sg := { F := s'.F, bx := fun n => match φin ns n with | some m => s'.bx m | none => s.bx n, tb := fun n => match φin ns n with | some m => s'.tb m | none => s.tb n, tk := fun n => match φin ns n with | some m => s'.tk m | none => s.tk n }
  have s2in : ∀ (i q : Nat), ns[i]? = some q → s2.bx q = s'.bx (pn i) ∧ s2.tb q = s'.tb (pn i) ∧ s2.tk q = s'.tk (pn i) := fun i q hq => by
    have e : φin ns q = some (pn i) := by unfold φin; rw [idx_of hnd hq]; rfl
    refine ⟨?_, ?_, ?_⟩
    · show (match φin ns q with | some m => s'.bx m | none => s.bx q) = _; rw [e]
    · show (match φin ns q with | some m => s'.tb m | none => s.tb q) = _; rw [e]
    · show (match φin ns q with | some m => s'.tk m | none => s.tk q) = _; rw [e]
  have s2out : ∀ q, ns.idxOf? q = none → s2.bx q = s.bx q ∧ s2.tb q = s.tb q ∧ s2.tk q = s.tk q := fun q hq => by
    have e : φin ns q = none := by unfold φin; rw [hq]; rfl
    refine ⟨?_, ?_, ?_⟩
    · show (match φin ns q with | some m => s'.bx m | none => s.bx q) = _; rw [e]
    · show (match φin ns q with | some m => s'.tb m | none => s.tb q) = _; rw [e]
    · show (match φin ns q with | some m => s'.tk m | none => s.tk q) = _; rw [e]
  have hφ2 : ∀ n m, φout ns n = some m → s2.bx m = s'.bx n ∧ s2.tk m = s'.tk n := fun n m hm => by
    unfold φout at hm
    split at hm
    · cases hm
    · have hq := s2in (n - 1000000) m hm
      have e : pn (n - 1000000) = n := by unfold pn; omega
      rw [e] at hq
      exact ⟨hq.1, hq.2.2⟩
  have hx : Ext (fun _ => False) s w s2 w' := by
    refine ⟨hk, fun n _ => ?_, fun n _ => ?_⟩
    · cases hi : ns.idxOf? n with
      | none => exact (s2out n hi).1
      | some i => exact (s2in i n (idx_get hi)).1.trans ((hpe i).1.trans (hsc i n (idx_get hi)).1)
    · cases hi : ns.idxOf? n with
      | none => exact .inl (s2out n hi).2.2
      | some i =>
        have e1 := (s2in i n (idx_get hi)).2.2
        have e2 := (hsc i n (idx_get hi)).2.2
        rcases (hpe i).2 with h5 | h5
        · exact .inl (e1.trans (h5.trans e2))
        · rw [e1]; rw [e2] at h5; exact .inr h5
  have hget : ∀ (m : Nat) (ρ : Res), updN st.rs ns (bs'.map (renR (φout ns))) m = some ρ → (∃ (i : Nat) (ρ0 : Res), ns[i]? = some m ∧ bs'[i]? = some ρ0 ∧ ρ = renR (φout ns) ρ0) ∨ (ns.idxOf? m = none ∧ st.rs m = some ρ) := fun m ρ hm => by
    unfold updN at hm
    split at hm
    · rename_i i hi
      rw [List.getElem?_map] at hm
      obtain ⟨ρ0, h5, h6⟩ := Option.map_eq_some_iff.1 hm
      exact .inl ⟨i, ρ0, idx_get hi, h5, h6.symm⟩
    · rename_i hi; exact .inr ⟨hi, hm⟩
  have hpn : ∀ (i : Nat) (ρ0 : Res), bs'[i]? = some ρ0 → rsOf bs' (pn i) = some ρ0 := fun i ρ0 h => by rw [rsOf_pn]; exact h
  have hnp : ∀ m ρ b, ns.idxOf? m = none → st.rs m = some ρ → s.bk m ρ b → ¬ pas b := fun m ρ b hi hm hbk ⟨n, ρ', hn, hn2, hbk2⟩ => by
    have := hI.mem.dj m n ρ ρ' b hm hn2 hbk hbk2
    subst this
    exact idx_none hi hn
  have bk2 : ∀ m ρ, ns.idxOf? m = none → s2.bk m ρ = s.bk m ρ := fun m ρ hi => by
    funext x
    cases ρ <;> simp [Sg.bk, s2out m hi]
  have hm2 : MemOk X.P X.pas X.w0.heap.size (updN st.rs ns (bs'.map (renR (φout ns)))) s2 w' := by
    refine ⟨hm'.fx, fun m ρ hm => ?_, fun m ρ b hm hbk => ?_, fun m q ρ ρ' b hm hq hmb hqb => ?_⟩
    · rcases hget m ρ hm with ⟨i, ρ0, hi, h5, rfl⟩ | ⟨hi, hm⟩
      · exact Holds.ren (s := s') (s2 := s2) rfl hφ2 (s2in i m hi).1 (s2in i m hi).2.1 (s2in i m hi).2.2 (hm'.ho (pn i) ρ0 (hpn i ρ0 h5))
      · exact (hI.mem.ho m ρ hm).keep hx (fun h => h) (s2out m hi).2.2 (s2out m hi).2.1 (fun _ h => h.elim) (fun b hb' => hfr.block b ((hI.mem.ho m ρ hm).lt hb') (hnp m ρ b hi hm hb')) (fun b o hb' hF => hnf b o ((hI.mem.ho m ρ hm).lt hb') (hnp m ρ b hi hm hb') hF)
    · rcases hget m ρ hm with ⟨i, ρ0, hi, h5, rfl⟩ | ⟨hi, hm⟩
      · rcases hm'.bs (pn i) ρ0 b (hpn i ρ0 h5) ((bk_ren (s2in i m hi).1 (s2in i m hi).2.1).1 hbk) with h6 | h6
        · exact .inl (Nat.le_trans hI.base h6)
        · exact hpas b h6
      · rw [bk2 m ρ hi] at hbk
        exact hI.mem.bs m ρ b hm hbk
    · have cross : ∀ (m q : Nat) (ρ ρ' : Res) (i : Nat) (ρ0 : Res), ns[i]? = some m → bs'[i]? = some ρ0 → ρ = renR (φout ns) ρ0 → s2.bk m ρ b → ns.idxOf? q = none → st.rs q = some ρ' → s2.bk q ρ' b → False := fun m q ρ ρ' i ρ0 hi h5 e hmb hj hq hqb => by
        subst e
        rw [bk2 q ρ' hj] at hqb
        rcases hm'.bs (pn i) ρ0 b (hpn i ρ0 h5) ((bk_ren (s2in i m hi).1 (s2in i m hi).2.1).1 hmb) with h6 | h6
        · have := (hI.mem.ho q ρ' hq).lt hqb; omega
        · exact hnp q ρ' b hj hq hqb h6
      rcases hget m ρ hm with ⟨i, ρ0, hi, h5, e1⟩ | ⟨hi, hm⟩ <;> rcases hget q ρ' hq with ⟨j, ρ1, hj, h6, e2⟩ | ⟨hj, hq⟩
      · subst e1; subst e2
        have e := hm'.dj (pn i) (pn j) ρ0 ρ1 b (hpn i ρ0 h5) (hpn j ρ1 h6) ((bk_ren (s2in i m hi).1 (s2in i m hi).2.1).1 hmb) ((bk_ren (s2in j q hj).1 (s2in j q hj).2.1).1 hqb)
        have e' : i = j := by unfold pn at e; omega
        subst e'
        rw [hi] at hj; cases hj; rfl
      · exact (cross m q ρ ρ' i ρ0 hi h5 e1 hmb hj hq hqb).elim
      · exact (cross q m ρ' ρ j ρ1 hj h6 e2 hqb hi hm hmb).elim
      · rw [bk2 m ρ hi] at hmb
        rw [bk2 q ρ' hj] at hqb
        exact hI.mem.dj m q ρ ρ' b hm hq hmb hqb
  refine hN _ s2 w' _ (Inv.put (st := st.resN ns (bs'.map (renR (φout ns)))) (v := renV (φout ns) r) ⟨hI.sz, fun i hi => (hI.tm i hi).ext0 hx, hI.df, hI.fr.trans hfr hpas, hI.kp.trans hk, fun b o hb' hnp' hF => hI.nf b o hb' hnp' (hnf b o (Nat.lt_of_lt_of_le hb' hI.base) (fun hp => (hpas b hp).elim (fun h => by omega) hnp') hF), hm2, hI.pe.ext0 hx⟩ o.dst (rel.ren (s := s') (s2 := s2) rfl hφ2 r v hr)) hK
def st0b (nn : Nat) (args : List V) (bs : List Res) : Vst nn := ⟨fun i => args.getD i .any, rsOf bs⟩
def haveB (st : Vst nn) : Nat → List Res → Prop
  | _, [] => True
  | i, ρ :: l => st.rs (pn i) = some ρ ∧ haveB st (i + 1) l
theorem haveB_get : ∀ {l : List Res} {i : Nat}, haveB st i l → ∀ j ρ, l[j]? = some ρ → st.rs (pn (i + j)) = some ρ
  | [], _, _, j, ρ, h => by simp at h
  | x :: l, i, hh, j, ρ, h => by
    cases j with
    | zero => simp at h; subst h; exact hh.1
    | succ j =>
      have := haveB_get hh.2 j ρ (by simpa using h)
      rwa [show i + 1 + j = i + (j + 1) by omega] at this
def endKB (P : Program) (rs : Array ResultVar) (r : V) (bs' : List Res) : Exit → Vst nn → Prop
  | .normal, st => retV P st rs.toList r ∧ haveB st 0 bs'
  | .ret, st => retV P st rs.toList r ∧ haveB st 0 bs'
  | _, _ => False
theorem k_endB {P : Program} {rs : Array ResultVar} {r : V} {bs' : List Res} (h : retV P st rs.toList r ∧ haveB st 0 bs') : endKB P rs r bs' .normal st := h
theorem k_endB_ret {P : Program} {rs : Array ResultVar} {r : V} {bs' : List Res} (h : retV P st rs.toList r ∧ haveB st 0 bs') : endKB P rs r bs' .ret st := h
theorem acb_enter {e : Ge} {P : Program} {f : FuncId} {fn : Func} {c : Code} {args : List V} {bs bs' : List Res} {r : V} (nn : Nat) (hf : P.funcs[f]? = some fn) (hb : fn.body = some c) (hnn : args.length + (fn.ntmps - args.length) = nn)
    (h : ∀ pas s w he hp, AW ⟨P, pas, s, w, e, he, hp, fun _ _ _ => False, []⟩ c (st0b nn args bs) (endKB P fn.results r bs')) : ACB e P f args bs r bs' := by
  intro pas s w us hus hmem he hp
  have hlen := hus.length
  have hl2 : us.toList.length = us.size := by simp
  refine calls_of_wp hf hb ?_
  have hI : Inv ⟨P, pas, s, w, e, he, hp, fun _ _ _ => False, []⟩ (st0b nn args bs) s w { tmps := us ++ Array.replicate (fn.ntmps - us.size) undef, defers := [] } := by
    refine ⟨by simp; omega, fun i hi => ?_, rfl, Frm.refl _ _, Keeps.refl, fun _ _ _ _ h => h, hmem, PE.refl _⟩
    show rel P s w (args.getD i .any) _
    by_cases hi2 : i < args.length
    · have h1 : args[i]? = some args[i] := List.getElem?_eq_getElem hi2
      have hi3 : i < us.size := by omega
      have h2 : us.toList[i]? = some us[i] := by rw [Array.getElem?_toList]; exact Array.getElem?_eq_getElem hi3
      rw [List.getD_eq_getElem?_getD, h1]
      have : (us ++ Array.replicate (fn.ntmps - us.size) undef).getD i undef = us[i] := by
        rw [Array.getD_eq_getD_getElem?, Array.getElem?_append_left hi3, Array.getElem?_eq_getElem hi3]; rfl
      rw [this]
      exact hus.get i _ _ h1 h2
    · rw [List.getD_eq_getElem?_getD, List.getElem?_eq_none (by omega)]
      simp [rel]
  refine Code.wp_mono (fun en a' w' ⟨st', s', hI', hK⟩ => ?_) (h pas s w he hp s w _ hI)
  have fin : (retV P st' fn.results.toList r ∧ haveB st' 0 bs') → a'.defers = [] ∧ ∃ v, (results fn a'.tmps).run P w' = .ok v w' ∧ ∃ v' s2, Ending.returned v = .returned v' ∧ Frm pas w w' ∧ Keeps s.F s2.F w w' ∧ (∀ b o, b < w.heap.size → ¬ pas b → s2.F b o → s.F b o) ∧ MemOk P pas w.heap.size (rsOf bs') s2 w' ∧ PE s s2 ∧ rel P s2 w' r v' := fun ⟨hv, hh⟩ => by
    obtain ⟨u, h1, h2⟩ := retV_ok (X := ⟨P, pas, s, w, e, he, hp, fun _ _ _ => False, []⟩) hv hI'
    refine ⟨hI'.df, u, h1, u, s', rfl, hI'.fr, hI'.kp, hI'.nf, hI'.mem.sub fun n ρ hn => ?_, hI'.pe, h2⟩
    obtain ⟨i, rfl, hi⟩ := rsOf_some hn
    have := haveB_get hh i ρ hi
    rwa [Nat.zero_add] at this
  rcases hK with hK | ⟨_, _, hK⟩
  · cases en
    case normal => exact fin hK
    case ret => exact fin hK
    all_goals exact hK.elim
  · exact hK.elim
/-- a function that writes to nothing it is handed, called so -/
theorem s_callB {ops : Array Oper} {l : List Oper} {KK : Vst nn → Prop} {d : Option Tmp} {f : FuncId} {vargs args : List V} {bs bs' : List Res} {r : V} (ns : List Nat) (hg : o.guard = none) (hd : o.dst = d) (h : act1 X.P st.rs (ev st) o.op = .call f vargs) (hc : ACB X.e X.P f args bs r bs') (hnd : ns.Nodup) (ha : renL (φin ns) vargs = args)
    (hb : ns.map (fun n => (st.rs n).map (renR (φin ns))) = bs.map some) (hK : AWo X ops l ((st.resN ns (bs'.map (renR (φout ns)))).put d (renV (φout ns) r)) KK) : AWo X ops (o :: l) st KK :=
  awo_cons hg (opOk_callB ns h hc hnd ha hb (by rw [hd]; exact hK))
end Go.Proofs.YtdklhkdlndlgnaaGreatDoor
