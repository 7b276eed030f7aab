/- Parts of a proof, merged by a program (shake.py). -/
import Derived.Test.YtdklhkdlndlgnaaGreatDoorQ20
set_option linter.unusedVariables false
set_option linter.unusedSimpArgs false
namespace Go.Proofs.YtdklhkdlndlgnaaGreatDoor
open Go.RowKit
attribute [local irreducible] wpList Calls Code.wp
section
variable {X : Cx} {nn : Nat} {st : Vst nn}
def stS (nn : Nat) (cs : List (Nat × V)) (R : List (Nat × Res)) : Vst nn :=
  ⟨fun i => match cs.find? (fun p => p.1 == i) with | some p => p.2 | none => .any, fun m => match R.find? (fun p => p.1 == m) with | some p => some p.2 | none => none⟩
def tmOk (st : Vst nn) : List (Nat × V) → Prop
  | [] => True
  | (i, v) :: l => st.tm i = v ∧ tmOk st l
def rsOk (st : Vst nn) : List (Nat × Res) → Prop
  | [] => True
  | (m, ρ) :: l => st.rs m = some ρ ∧ rsOk st l
theorem tmOk_get : ∀ {l : List (Nat × V)}, tmOk st l → ∀ p ∈ l, st.tm p.1 = p.2
  | [], _, p, h => by simp at h
  | x :: l, hh, p, h => by
    rcases List.mem_cons.1 h with rfl | h
    · exact hh.1
    · exact tmOk_get hh.2 p h
theorem rsOk_get : ∀ {l : List (Nat × Res)}, rsOk st l → ∀ p ∈ l, st.rs p.1 = some p.2
  | [], _, p, h => by simp at h
  | x :: l, hh, p, h => by
    rcases List.mem_cons.1 h with rfl | h
    · exact hh.1
    · exact rsOk_get hh.2 p h
/-- all but what is live is forgotten -/
theorem Sub.live {cs : List (Nat × V)} {R : List (Nat × Res)} (h1 : tmOk st cs) (h2 : rsOk st R) : Sub X st (stS nn cs R) := by
  refine Sub.drop (fun i _ => ?_) fun m ρ h => ?_
  · simp only [stS]
    split
    · rename_i p hp
      have hm := List.mem_of_find?_eq_some hp
      have he := List.find?_some hp
      simp at he
      subst he
      exact .inl (tmOk_get h1 p hm).symm
    · exact .inr rfl
  · simp only [stS] at h
    split at h
    · rename_i p hp
      have hm := List.mem_of_find?_eq_some hp
      have he := List.find?_some hp
      simp at he
      cases h
      subst he
      exact rsOk_get h2 p hm
    · cases h
theorem k_loop_next {j j' : Nat} {I : Nat → Vst nn → Prop} {K : Exit → Vst nn → Prop} (hj : j' < j) (h : I j' st) : loopK j I K .normal st := ⟨j', hj, h⟩
/-- a box that holds the zero builder is an empty builder -/
theorem Sub.bld {m : Nat} {t e : TypeId} (hr : st.rs m = some (.box t [.c (.pointer none), .c (.slice none 0 0)])) : Sub X st (st.res m (.bld t e [])) := fun s w a hI => by
  let s' : Sg := { s with tb := fun q => if q = m then none else s.tb q }
  have hx : Ext (fun _ => False) s w s' w := ⟨Keeps.refl, fun _ _ => rfl, fun _ _ => .inl rfl⟩
  obtain ⟨b, cs, h1, h2, h3, h4⟩ := hI.mem.ho m _ hr
  have hcs : cs = #[.pointer none, .slice none 0 0] := by
    apply Array.ext'
    cases hl : cs.toList with
    | nil => rw [hl] at h3; simp [relL] at h3
    | cons x xs =>
      rw [hl, relL, rel] at h3
      cases xs with
      | nil => simp [relL] at h3
      | cons y ys =>
        rw [relL, rel] at h3
        cases ys with
        | nil => rw [h3.1.1, h3.2.1.1]
        | cons z zs => simp [relL] at h3
  subst hcs
  have hb0 : s.bk m (.box t [.c (.pointer none), .c (.slice none 0 0)]) b := h1
  have hbk : ∀ q ρ x, updR st.rs m (.bld t e []) q = some ρ → s'.bk q ρ x → ∃ ρ', st.rs q = some ρ' ∧ s.bk q ρ' x := fun q ρ x hq hx => by
    by_cases e' : q = m
    · subst e'
      simp only [updR, if_true] at hq
      cases hq
      rcases hx with hx | hx
      · exact ⟨_, hr, hx⟩
      · simp [s'] at hx
    · simp only [updR, if_neg e'] at hq
      refine ⟨ρ, hq, ?_⟩
      cases ρ <;> simpa [Sg.bk, s', e'] using hx
  refine ⟨s', hI.sz, fun i hi => (hI.tm i hi).ext0 hx, hI.df, hI.fr, hI.kp, hI.nf, ⟨hI.mem.fx, fun q ρ (hq : updR st.rs m (.bld t e []) q = some ρ) => ?_, fun q ρ b' (hq : updR st.rs m (.bld t e []) q = some ρ) hqb => ?_, fun q r ρ ρ' b' (hq : updR st.rs m (.bld t e []) q = some ρ) (hq' : updR st.rs m (.bld t e []) r = some ρ') hqb hrb => ?_⟩, hI.pe.ext0 hx⟩
  · by_cases e' : q = m
    · subst e'
      simp only [updR, if_true] at hq
      cases hq
      exact ⟨b, .slice none 0 0, .pointer none, h1, h2, .inl rfl, ⟨by simp [Lib.byteCells], .inl ⟨rfl, rfl⟩⟩, by simp [Value.ownBlock], by simp [s', Value.ownBlock], h4, fun g o hg => by simp [Value.ownBlock] at hg⟩
    · simp only [updR, if_neg e'] at hq
      exact (hI.mem.ho q ρ hq).keep hx (fun h => h) rfl (by simp [s', e']) (fun _ h => h.elim) (fun _ _ => rfl) (fun _ _ _ h => h)
  · obtain ⟨ρ', h5, h6⟩ := hbk q ρ b' hq hqb
    exact hI.mem.bs q ρ' b' h5 h6
  · obtain ⟨ρ1, h5, h6⟩ := hbk q ρ b' hq hqb
    obtain ⟨ρ2, h7, h8⟩ := hbk r ρ' b' hq' hrb
    exact hI.mem.dj q r ρ1 ρ2 b' h5 h7 h6 h8
theorem writeByte_acb {e : Ge} (l : List UInt8) (c : UInt8) (hlen : l.length + 1 ≤ 140737488355328) : ACB e Tryz.prog 43 [.bx (pn 0) 0, .c (.int .u8 c.toNat)] [.bld 64 5 l] (.c .nilIface) [.bld 64 5 (l ++ [c])] :=
  bld_acb (cargs := [.int .u8 c.toNat]) trivial fun b v p w h => writeByte_b b l v p w h c hlen
theorem writeString_acb {e : Ge} (l : List UInt8) (s : ByteArray) (hlen : l.length + s.size ≤ 140737488355328) : ACB e Tryz.prog 41 [.bx (pn 0) 0, .c (.string s)] [.bld 64 5 l] .any [.bld 64 5 (l ++ s.data.toList)] :=
  bld_acbV (cargs := [.string s]) .any (fun _ _ => by simp [rel]) fun b v p w h => writeString_b b l v p w h s hlen
theorem string_acb {e : Ge} (l : List UInt8) (hlen : l.length ≤ maxLen) : ACB e Tryz.prog 27 [.bx (pn 0) 0] [.bld 64 5 l] (.c (.string ⟨l.toArray⟩)) [.bld 64 5 l] :=
  bld_acb (cargs := []) (show l.toArray.size ≤ maxLen by simpa using hlen) fun b v p w h => string_b b l v p w h
theorem resN_one {m : Nat} {ρ : Res} : st.resN [m] [ρ] = st.res m ρ := by
  unfold Vst.resN Vst.res
  congr 1
  funext q
  unfold updN updR
  by_cases h : q = m
  · subst h; simp [List.idxOf?, List.findIdx?_cons]
  · have : ¬ (m == q) = true := by simp; exact fun e => h e.symm
    simp [List.idxOf?, List.findIdx?_cons, this, h]
theorem φin_one (m : Nat) : φin [m] m = some (pn 0) := by simp [φin, List.idxOf?, List.findIdx?_cons]
variable {ops : Array Oper} {l : List Oper} {o : Oper} {KK : Vst nn → Prop} {d : Option Tmp}
theorem s_wb {X : Cx} {m : Nat} {vs : List V} {n : Int} {bl : List UInt8} (hg : o.guard = none) (hd : o.dst = d) (h : act1 X.P st.rs (ev st) o.op = .call 43 vs) (hv : vs = [.bx m 0, .c (.int .u8 n)]) (hr : st.rs m = some (.bld 64 5 bl)) (hn : n = ((UInt8.ofNat n.toNat).toNat : Int)) (hP : X.P = Tryz.prog)
    (hK : AWo X ops l ((st.res m (.bld 64 5 (bl ++ [UInt8.ofNat n.toNat]))).put d (.c .nilIface)) KK) (hlen : bl.length + 1 ≤ 140737488355328) : AWo X ops (o :: l) st KK := by
  subst hv
  have hc := writeByte_acb (e := X.e) bl (UInt8.ofNat n.toNat) hlen
  rw [← hn, ← hP] at hc
  refine s_callB [m] hg hd h hc (by simp) (by simp [renL, renV, φin_one]) (by simp [hr, renR]) ?_
  have e : ([Res.bld 64 5 (bl ++ [UInt8.ofNat n.toNat])].map (renR (φout [m]))) = [Res.bld 64 5 (bl ++ [UInt8.ofNat n.toNat])] := rfl
  rw [e, resN_one]
  exact hK
theorem s_ws {X : Cx} {m : Nat} {vs : List V} {s : ByteArray} {bl : List UInt8} (hg : o.guard = none) (hd : o.dst = d) (h : act1 X.P st.rs (ev st) o.op = .call 41 vs) (hv : vs = [.bx m 0, .c (.string s)]) (hr : st.rs m = some (.bld 64 5 bl)) (hP : X.P = Tryz.prog)
    (hK : AWo X ops l ((st.res m (.bld 64 5 (bl ++ s.data.toList))).put d .any) KK) (hlen : bl.length + s.size ≤ 140737488355328) : AWo X ops (o :: l) st KK := by
  subst hv
  have hc := writeString_acb (e := X.e) bl s hlen
  rw [← hP] at hc
  refine s_callB [m] hg hd h hc (by simp) (by simp [renL, renV, φin_one]) (by simp [hr, renR]) ?_
  have e : ([Res.bld 64 5 (bl ++ s.data.toList)].map (renR (φout [m]))) = [Res.bld 64 5 (bl ++ s.data.toList)] := rfl
  rw [e, resN_one]
  exact hK
end
end Go.Proofs.YtdklhkdlndlgnaaGreatDoor
