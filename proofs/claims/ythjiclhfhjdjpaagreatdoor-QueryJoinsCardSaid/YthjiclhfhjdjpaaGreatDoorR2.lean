/- Parts of a proof, merged by a program (shake.py). -/
import Derived.Test.YthjiclhfhjdjpaaGreatDoorCards
import Derived.Test.YthjiclhfhjdjpaaGreatDoorTie
import Derived.ProofKit
import Derived.OpenShut
import Derived.Deep.DeepHandedRow
import Derived.Test.YthjiclhfhjdjpaaGreatDoorR1
set_option linter.unusedVariables false
set_option linter.unusedSimpArgs false
namespace Go.Proofs.YthjiclhfhjdjpaaGreatDoor
open Go.ChangeShapes Go.WideShapes Go.ChangeAt Go.RowKit
attribute [local irreducible] wpList Calls Code.wp
theorem weight_tail {H : Type} {P : Program} {t : TypeId} {ts : List TypeId} {d : DataW H} {ds : List (DataW H)} {x : Nat} (h : x ∈ DataW.weightsEach P ts ds) : x ∈ DataW.weightsEach P (t :: ts) (d :: ds) := by
  simp [DataW.weightsEach, h]
end Go.Proofs.YthjiclhfhjdjpaaGreatDoor
namespace Go.Proofs.YthjiclhfhjdjpaaGreatDoor
section
variable {α β : Type}
theorem take_nz (s : List UInt8) (x : PS) : Nz (takeQ s x) := by
  unfold takeQ
  exact .ite (fun _ => .okk _) fun _ => .err (by decide)
theorem name_nz (x : PS) : Nz (nameQ x) := by
  unfold nameQ
  exact .ite (fun _ => .okk _) fun _ => .err (by decide)
theorem close_nz : ∀ (n : Nat) (w : List Int) (x : PS), Nz (closeQ n w x)
  | 0, w, x => by unfold closeQ; exact .okk _
  | n + 1, w, x => by unfold closeQ; exact .then (take_nz _ _) fun _ y _ => close_nz n _ y
theorem inner_nz (x : PS) : Nz (innerQ x) := .then (name_nz _) fun _ y _ => .then (close_nz _ _ y) fun _ _ _ => .okk _
theorem typ_nz (x : PS) : Nz (typQ x) := .then (inner_nz x) fun _ _ _ => .ite (fun _ => .err (by decide)) fun _ => .okk _
theorem items_nz {v : PS → PR D} (hv : ∀ y, En y → Nz (v y)) (hl : ∀ {y z a}, En y → v y = .ok (a, z) → En z ∧ z.ts.length < y.ts.length) : ∀ (f : Nat) (acc : List D) (x : PS), En x → x.ts.length < f → Nz (itemsQ v f acc x)
  | 0, _, _, _, h => by omega
  | f + 1, acc, x, hx, h => by
    unfold itemsQ
    exact .ite (fun _ => .okk _) fun _ => .then (hv x hx) fun _ y hq => items_nz hv hl f _ y (hl hx hq).1 (by have := (hl hx hq).2; omega)
theorem fields_nz {v : PS → PR D} (hv : ∀ y, En y → Nz (v y)) (hl : ∀ {y z a}, En y → v y = .ok (a, z) → En z ∧ z.ts.length < y.ts.length) : ∀ (f : Nat) (ks : List (List UInt8)) (acc : List D) (x : PS), En x → x.ts.length < f → Nz (fieldsQ v f ks acc x)
  | 0, _, _, _, _, h => by omega
  | f + 1, ks, acc, x, hx, h => by
    unfold fieldsQ
    refine .ite (fun _ => .okk _) fun _ => .then (name_nz x) fun k y hn => .ite (fun _ => .err (by decide)) fun _ => .then (take_nz _ y) fun u z ht => .then (hv z ?_) fun _ w hw => fields_nz hv hl f _ _ w ?_ ?_
    · exact ((hx.name hn).1.take ht).1
    · exact (hl ((hx.name hn).1.take ht).1 hw).1
    · have h1 := hx.name hn
      have h2 := h1.1.take ht
      have h3 := hl h2.1 hw
      omega
theorem value_nz : ∀ (f lv : Nat) (x : PS), En x → lv ≤ 25 → 26 ≤ f + lv → Nz (valueQ f lv x)
  | 0, lv, _, _, h1, h2 => by omega
  | f + 1, lv, x, hx, h1, h2 => by
    have hy : En { nxT x with nd := x.nd + 1 } := hx.nx0
    unfold valueQ
    refine .ite (fun _ => .err (by decide)) fun _ => .ite (fun _ => .err (by decide)) fun hlv => .ite (fun _ => .err (by decide)) fun _ => ?_
    dsimp only
    refine .ite (fun _ => .okk _) fun _ => .ite (fun _ => .okk _) fun _ => .ite (fun _ => .okk _) fun _ => .ite (fun _ => .then (name_nz _) fun _ _ _ => .okk _) fun _ => .ite (fun _ => ?_) fun _ => ?_
    · exact .then (items_nz (fun y hy => value_nz f (lv + 1) y hy (by omega) (by omega)) (fun hy hq => hy.valueL hq) _ _ _ hy (Nat.lt_succ_self _)) fun _ _ _ => .okk _
    · exact .then (fields_nz (fun y hy => value_nz f (lv + 1) y hy (by omega) (by omega)) (fun hy hq => hy.valueL hq) _ _ _ _ hy (Nat.lt_succ_self _)) fun _ _ _ => .okk _
theorem whole_nz (x : PS) (h : En x) : Nz (wholeQ x) := value_nz 25 1 _ h (by omega) (by omega)
theorem argsF_nz : ∀ (f : Nat) (acc : List D) (x : PS), En x → x.ts.length ≤ f → Nz (argsF f acc x)
  | 0, _, x, hx, h => by obtain ⟨t, r, ht⟩ := hx.cons; rw [ht] at h; simp at h
  | f + 1, acc, x, hx, h => by
    unfold argsF
    refine .ite (fun _ => .okk _) fun _ => .ite (fun _ => .err (by decide)) fun _ => .then (name_nz x) fun n y hn => .then (take_nz _ y) fun u z ht => .then (whole_nz z ?_) fun _ w hw => argsF_nz f _ w ?_ ?_
    · exact ((hx.name hn).1.take ht).1
    · exact (((hx.name hn).1.take ht).1.whole hw).1
    · have h1 := hx.name hn
      have h2 := h1.1.take ht
      have h3 := h2.1.whole hw
      omega
theorem args_nz (x : PS) (h : En x) : Nz (argsQ x) := .ite (fun hs => argsF_nz _ _ _ h.nx0 (by have := (h.sg hs).2; omega)) fun _ => .okk _
theorem dirsF_nz : ∀ (f : Nat) (acc : List D) (x : PS), En x → x.ts.length < f → Nz (dirsF f acc x)
  | 0, _, _, _, h => by omega
  | f + 1, acc, x, hx, h => by
    unfold dirsF
    refine .ite (fun hs => .ite (fun _ => .err (by decide)) fun _ => .then (name_nz _) fun n y hn => .then (args_nz y ?_) fun _ z hz => dirsF_nz f _ z ?_ ?_) fun _ => .okk _
    · exact (hx.nx0.name hn).1
    · exact ((hx.nx0.name hn).1.args hz).1
    · have h1 := hx.sg hs
      have h2 := h1.1.name hn
      have h3 := h2.1.args hz
      omega
theorem dirs_nz (x : PS) (h : En x) : Nz (dirsQ x) := dirsF_nz _ _ _ h (Nat.lt_succ_self _)
theorem sel_nz {v : PS → PR (List D)} (hv : ∀ y, En y → Nz (v y)) (x : PS) (h : En x) : Nz (selQ v x) := by
  unfold selQ
  refine .ite (fun hs => ?_) fun _ => ?_
  · dsimp only
    refine .ite (fun _ => .then (dirs_nz _ h.nx0.nx0) fun _ _ _ => .okk _) fun _ => .then (.ite (fun _ => name_nz _) fun _ => .okk _) fun on z hz => ?_
    have hz' : En z := by
      split at hz
      · exact (h.nx0.nx0.name hz).1
      · cases hz; exact h.nx0
    exact .then (dirs_nz z hz') fun _ u hu => .then (hv u (hz'.dirs hu).1) fun _ _ _ => .okk _
  · refine .then (name_nz x) fun n y hn => ?_
    have hy := (h.name hn).1
    refine .then (.ite (fun _ => .then (name_nz _) fun _ _ _ => .okk _) fun _ => .okk _) fun an z hz => ?_
    have hz' : En z := by
      split at hz
      · cases hm : nameQ (nxT y) with
        | error e => rw [then_err hm] at hz; cases hz
        | ok p =>
          obtain ⟨m, z2⟩ := p
          rw [then_ok hm] at hz
          cases hz
          exact (hy.nx0.name hm).1
      · cases hz; exact hy
    refine .then (args_nz z hz') fun _ u hu => .then (dirs_nz u (hz'.args hu).1) fun _ w hw => ?_
    exact .then (.ite (fun _ => hv w ((hz'.args hu).1.dirs hw).1) fun _ => .okk _) fun _ _ _ => .okk _
theorem setF_nz {v : PS → PR D} (hv : ∀ y, En y → Nz (v y)) (hl : ∀ {y z a}, En y → v y = .ok (a, z) → En z ∧ z.ts.length < y.ts.length) : ∀ (f : Nat) (acc : List D) (x : PS), En x → x.ts.length < f → Nz (setF v f acc x)
  | 0, _, _, _, h => by omega
  | f + 1, acc, x, hx, h => by
    unfold setF
    exact .ite (fun _ => .okk _) fun _ => .ite (fun _ => .err (by decide)) fun _ => .then (hv x hx) fun _ y hq => setF_nz hv hl f _ y (hl hx hq).1 (by have := (hl hx hq).2; omega)
theorem sels_nz : ∀ (f lv : Nat) (x : PS), En x → lv ≤ 25 → 26 ≤ f + lv → Nz (selsQ f lv x)
  | 0, lv, _, _, h1, h2 => by omega
  | f + 1, lv, x, hx, h1, h2 => by
    unfold selsQ
    by_cases hs : isS x [123] = true
    · refine .ite (fun _ => .err (by decide)) fun hlv => .then (take_nz _ x) fun u y hy => ?_
      have hlv : ¬ 24 < lv := fun h => hlv ⟨hs, h⟩
      exact setF_nz (fun y hy => sel_nz (fun y hy => sels_nz f (lv + 1) y hy (by omega) (by omega)) y hy) (fun hy hq => hy.selL hq) _ _ _ (hx.take hy).1 (Nat.lt_succ_self _)
    · refine .ite (fun _ => .err (by decide)) fun _ => .then (take_nz _ x) fun u y hy => ?_
      exfalso
      unfold takeQ at hy
      rw [if_neg hs] at hy
      cases hy
theorem set_nz (x : PS) (h : En x) : Nz (setQ x) := sels_nz 25 1 x h (by omega) (by omega)
theorem def_nz (x : PS) (h : En x) : Nz (defQ x) := by
  unfold defQ
  exact .ite (fun _ => .then (whole_nz _ h.nx0) fun _ _ _ => .okk _) fun _ => .okk _
theorem def_en {x y : PS} {d : Bool × D} (h : En x) (hq : defQ x = .ok (d, y)) : En y ∧ y.ts.length ≤ x.ts.length := by
  unfold defQ at hq
  split at hq
  · cases hw : wholeQ { nxT x with vr := false } with
    | error e => rw [then_err hw] at hq; cases hq
    | ok p =>
      obtain ⟨d', o⟩ := p
      rw [then_ok hw] at hq
      cases hq
      have h1 := En.whole (x := { nxT x with vr := false }) h.nx0 hw
      exact ⟨h1.1, Nat.le_trans h1.2 (nx_len x)⟩
  · cases hq; exact ⟨h, Nat.le_refl _⟩
theorem var_nz (x : PS) (h : En x) : Nz (varQ x) :=
  .then (take_nz _ x) fun u y h1 => .then (name_nz y) fun n z h2 => .then (take_nz _ z) fun u2 w h3 => .then (typ_nz w) fun t v h4 =>
    .then (def_nz v ((((h.take h1).1.name h2).1.take h3).1.typ h4).1) fun _ _ _ => .okk _
theorem var_en {x o : PS} {d : D} (h : En x) (hq : varQ x = .ok (d, o)) : En o ∧ o.ts.length < x.ts.length := by
  unfold varQ at hq
  cases h1 : takeQ [36] x with
  | error e => rw [then_err h1] at hq; cases hq
  | ok p =>
  obtain ⟨u, y⟩ := p
  rw [then_ok h1] at hq
  cases h2 : nameQ y with
  | error e => rw [then_err h2] at hq; cases hq
  | ok p =>
  obtain ⟨n, z⟩ := p
  rw [then_ok h2] at hq
  cases h3 : takeQ [58] z with
  | error e => rw [then_err h3] at hq; cases hq
  | ok p =>
  obtain ⟨u2, w⟩ := p
  rw [then_ok h3] at hq
  cases h4 : typQ w with
  | error e => rw [then_err h4] at hq; cases hq
  | ok p =>
  obtain ⟨t, v⟩ := p
  rw [then_ok h4] at hq
  cases h5 : defQ v with
  | error e => rw [then_err h5] at hq; cases hq
  | ok p =>
  obtain ⟨d', o'⟩ := p
  rw [then_ok h5] at hq
  cases hq
  have e1 := h.take h1
  have e2 := e1.1.name h2
  have e3 := e2.1.take h3
  have e4 := e3.1.typ h4
  have e5 := def_en e4.1 h5
  exact ⟨e5.1, by omega⟩
theorem varsF_nz : ∀ (f : Nat) (acc : List D) (x : PS), En x → x.ts.length ≤ f → Nz (varsF f acc x)
  | 0, _, x, hx, h => by obtain ⟨t, r, ht⟩ := hx.cons; rw [ht] at h; simp at h
  | f + 1, acc, x, hx, h => by
    by_cases hE : acc.length ≠ 0 ∧ isS x [41] = true
    · rw [vl_end hE.1 hE.2]; exact .okk _
    by_cases hL : isS x [36] = true ∧ 16 ≤ acc.length
    · rw [vl_lim hE hL]; exact .err (by decide)
    rw [vl_go hE hL]
    exact .then (var_nz x hx) fun a y hq => varsF_nz f _ y (var_en hx hq).1 (by have := (var_en hx hq).2; omega)
theorem varsF_en : ∀ (f : Nat) (acc : List D) {x y : PS} {l : List D}, En x → varsF f acc x = .ok (l, y) → En y ∧ y.ts.length ≤ x.ts.length
  | 0, _, _, _, _, _, h => by cases h
  | f + 1, acc, x, y, l, hx, hq => by
    by_cases hE : acc.length ≠ 0 ∧ isS x [41] = true
    · rw [vl_end hE.1 hE.2] at hq; cases hq; exact ⟨hx.nx0, nx_len x⟩
    by_cases hL : isS x [36] = true ∧ 16 ≤ acc.length
    · rw [vl_lim hE hL] at hq; cases hq
    rw [vl_go hE hL] at hq
    cases h1 : varQ x with
    | error e => rw [then_err h1] at hq; cases hq
    | ok p =>
      obtain ⟨a, z⟩ := p
      rw [then_ok h1] at hq
      have e1 := var_en hx h1
      have e2 := varsF_en f _ e1.1 hq
      exact ⟨e2.1, by omega⟩
theorem op_nz (k : Int) (x : PS) (h : En x) : Nz (opQ k x) := by
  unfold opQ
  refine .then (.ite (fun _ => .okk _) fun _ => .okk _) fun n y hy => ?_
  have hy' : En y := by
    split at hy
    · cases hy; exact h.nx0
    · cases hy; exact h
  refine .then (.ite (fun hs => varsF_nz _ _ _ hy'.nx0 (nx_len y)) fun _ => .okk _) fun vs z hz => ?_
  have hz' : En z := by
    split at hz
    · exact (varsF_en _ _ hy'.nx0 hz).1
    · cases hz; exact hy'
  exact .then (set_nz z hz') fun _ _ _ => .okk _
theorem frag_nz (x : PS) (h : En x) : Nz (fragQ x) := by
  unfold fragQ
  refine .ite (fun _ => .err (by decide)) fun _ => .then (name_nz x) fun n y hy => .ite (fun _ => .then (name_nz _) fun on z hz => .then (set_nz z ?_) fun _ _ _ => .okk _) fun _ => .err (by decide)
  exact ((h.name hy).1.nx0.name hz).1
theorem docF_nz : ∀ (f n : Nat) (ops frs : List D) (x : PS), En x → x.ts.length < f → Nz (docF f n ops frs x)
  | 0, _, _, _, _, _, h => by omega
  | f + 1, n, ops, frs, x, hx, h => by
    unfold docF
    refine .ite (fun _ => .okk _) fun _ => ?_
    dsimp only
    refine .ite (fun _ => .err (by decide)) fun _ => .ite (fun _ => .err (by decide)) fun _ => .ite (fun _ => ?_) fun _ => .ite (fun _ => ?_) fun _ => ?_
    · exact .then (set_nz x hx) fun ss y hq => docF_nz f _ _ _ y (hx.sels hq).1 (by have := (hx.sels hq).2; omega)
    · exact .then (op_nz _ _ hx.nx0) fun o y hq => docF_nz f _ _ _ y (hx.nx0.op hq).1 (by have := (hx.nx0.op hq).2; have := nx_len x; omega)
    · exact .then (frag_nz _ hx.nx0) fun o y hq => docF_nz f _ _ _ y (hx.nx0.frag hq).1 (by have := (hx.nx0.frag hq).2; have := nx_len x; omega)
theorem doc_nz {ts : List Tok} (h : En ⟨ts, true, 0⟩) : Nz (docQ ts) := docF_nz _ _ _ _ _ h (Nat.lt_succ_self _)
end
end Go.Proofs.YthjiclhfhjdjpaaGreatDoor
namespace Go.Proofs.YthjiclhfhjdjpaaGreatDoor
/-- an error has its number, and its place is within the text -/
theorem parse_err {l : List UInt8} {i : Nat} {e : Int} (h : parseT l = .error (i, e)) : e ≠ 0 ∧ (l.length ≤ 65536 → i ≤ l.length) := by
  unfold parseT at h
  split at h
  · rename_i p hs
    cases h
    unfold scanT at hs
    split at hs
    · rename_i hl
      cases hs
      exact ⟨by decide, fun h => by omega⟩
    · have := scanF_err _ _ _ _ (Nat.lt_succ_self _) hs
      exact ⟨this.2, fun _ => by have := this.1; omega⟩
  · rename_i ts hs
    have hen := scan_en hs
    split at h
    · rename_i p hd
      cases h
      refine ⟨fun h => ?_, fun _ => doc_err hen.2 hd⟩
      subst h
      exact doc_nz hen.1 i hd
    · cases h
end Go.Proofs.YthjiclhfhjdjpaaGreatDoor
namespace Go.Proofs.YthjiclhfhjdjpaaGreatDoor
open Go.RowKit
attribute [local irreducible] wpList Calls Code.wp
section
variable {X : Cx} {nn : Nat} {st : Vst nn} {ops : Array Oper} {o : Oper}
variable {fr rd wr : Nat → List Nat}
section
variable {l : List Oper} {Q : Vst nn → Prop} {d : Option Tmp} {k : Nat}
theorem h_valW {p : Prop} {v : V} (v' : V) (hg : o.guard = none) (hd : o.dst = d) (h : act1 X.P st.rs (ev st) o.op = .val p v) (hle : VLe v v') (hf : nfB (fr k) v' [] = true) (hK : absLexH X ops fr rd wr Q (k + 1) l (st.put d v')) (hp : p) (hl : inO (rd k) (loads (ev st) o.op) = true) : absLexH X ops fr rd wr Q k (o :: l) st :=
  ⟨v', [], .old (.inl ⟨by simp [gw, hg], .valW h hle hp hl⟩) hf, by rw [hd]; exact hK⟩
theorem h_lit0 {t e : TypeId} {by_ m : Nat} (hg : o.guard = none) (ho : o.op = .buildSlice t 0 #[]) (hd : o.dst = some m) (hdl : Nat.ble m 999999 = true) (he : elemOk X.P t = some (e, by_)) (hw : (wr k).contains m = true) (hf : nfB (fr k) (.own m e []) [(m, .tok e 0)] = true)
    (hK : absLexH X ops fr rd wr Q (k + 1) l ((st.res m (.tok e 0)).put (some m) (.own m e []))) : absLexH X ops fr rd wr Q k (o :: l) st :=
  ⟨_, _, .lit0 hg ho hd hdl he hw hf, by rw [stp_one, hd]; exact hK⟩
theorem h_app {t e : TypeId} {by_ q : Nat} {x y : Operand} {l1 l2 : List D} (hg : o.guard = none) (ho : o.op = .call { callee := .builtin .append, args := #[x, y], argTypes := #[t, t] }) (hd : o.dst = d) (he : elemOk X.P t = some (e, by_))
    (hleaf : ∀ d, (cellsV X.P 12 e d).all V.leaf = true) (hx : ev st x = .own q e l1) (hw : (wr k).contains q = true) (hr : st.rs q = some (.tok e l1.length)) (hy : (ev st y).out = .sl e l2) (hf : nfB (fr k) (.own q e (l1 ++ l2)) [(q, .tok e (l1 ++ l2).length)] = true)
    (hK : absLexH X ops fr rd wr Q (k + 1) l ((st.res q (.tok e (l1 ++ l2).length)).put d (.own q e (l1 ++ l2))))
    (hp : l1.length + l2.length ≤ maxLen ∧ (l1.length + l2.length) * by_ ≤ 140737488355328) : absLexH X ops fr rd wr Q k (o :: l) st :=
  ⟨_, _, .app hg hw ho he hleaf hx hr hy hp (by rw [← List.length_append]; exact hf), by rw [hd, stp_one, ← List.length_append]; exact hK⟩
end
end
end Go.Proofs.YthjiclhfhjdjpaaGreatDoor
namespace Go.Proofs.YthjiclhfhjdjpaaGreatDoor
theorem skip_all : ∀ (b : Bool) (l r : List UInt8), skipM b l = l.length → skipM b (l ++ 10 :: r) = l.length + 1 + skipM false r
  | false, [], r, _ => by
    show skipM false (10 :: r) = _
    rw [skipM, if_pos (show sepB 10 = true from rfl), List.length_nil]; omega
  | true, [], r, _ => by
    show skipM true (10 :: r) = _
    rw [skipM, if_pos (show ((10 : UInt8) == 10 || (10 : UInt8) == 13) = true from rfl), List.length_nil]; omega
  | false, c :: l, r, h => by
    rw [skipM] at h
    rw [List.cons_append, skipM]
    split at h
    · rename_i hc
      rw [if_pos hc, skip_all false l r (by simpa using h), List.length_cons]; omega
    · rename_i hc
      rw [if_neg hc]
      split at h
      · rename_i hd
        rw [if_pos hd, skip_all true l r (by simpa using h), List.length_cons]; omega
      · simp at h
  | true, c :: l, r, h => by
    rw [skipM] at h
    rw [List.cons_append, skipM]
    split at h
    · rename_i hc
      rw [if_pos hc, skip_all false l r (by simpa using h), List.length_cons]; omega
    · rename_i hc
      rw [if_neg hc, skip_all true l r (by simpa using h), List.length_cons]; omega
theorem skip_part : ∀ (b : Bool) (l r : List UInt8), skipM b l < l.length → skipM b (l ++ r) = skipM b l
  | b, [], r, h => by cases b <;> simp [skipM] at h
  | false, c :: l, r, h => by
    rw [skipM] at h ⊢
    rw [List.cons_append, skipM]
    split at h
    · rename_i hc
      rw [if_pos hc, if_pos hc, skip_part false l r (by simpa using h)]
    · rename_i hc
      rw [if_neg hc, if_neg hc]
      split at h
      · rename_i hd
        rw [if_pos hd, if_pos hd, skip_part true l r (by simpa using h)]
      · rename_i hd
        rw [if_neg hd, if_neg hd]
  | true, c :: l, r, h => by
    rw [skipM] at h ⊢
    rw [List.cons_append, skipM]
    split at h
    · rename_i hc
      rw [if_pos hc, if_pos hc, skip_part false l r (by simpa using h)]
    · rename_i hc
      rw [if_neg hc, if_neg hc, skip_part true l r (by simpa using h)]
theorem span_part {p : UInt8 → Bool} {x : List UInt8} (hx : ∀ c, x.head? = some c → p c = false) : ∀ l : List UInt8, spanN p (l ++ x) = spanN p l
  | [] => by
    cases x with
    | nil => rfl
    | cons c r => show spanN p (c :: r) = 0; rw [spanN, if_neg (by rw [hx c rfl]; decide)]
  | c :: l => by
    rw [List.cons_append, spanN, spanN, span_part hx l]
theorem take_part {l x : List UInt8} {n : Nat} (h : n ≤ l.length) : (l ++ x).take n = l.take n := by
  rw [List.take_append_of_le_length h]
theorem lit_part : ∀ (l x : List UInt8) (n : Nat), litN l = some n → litN (l ++ x) = some n
  | [], _, _, h => by simp [litN] at h
  | [c], x, n, h => by
    unfold litN at h
    split at h
    · rename_i hc
      cases h
      cases x with
      | nil => show litN [c] = _; unfold litN; rw [if_pos hc]
      | cons d r => show litN (c :: d :: r) = _; rw [litN, if_pos hc]
    · cases h
  | c :: d :: r, x, n, h => by
    rw [litN] at h
    show litN (c :: d :: (r ++ x)) = _
    rw [litN]
    split at h
    · rename_i hc
      rw [if_pos hc, h]
    · rename_i hc
      rw [if_neg hc]
      split at h
      · rename_i hd
        obtain ⟨m, hm, rfl⟩ := Option.map_eq_some_iff.1 h
        rw [if_pos hd, lit_part r x m hm]; rfl
      · rename_i hd
        obtain ⟨m, hm, rfl⟩ := Option.map_eq_some_iff.1 h
        have := lit_part (d :: r) x m hm
        rw [if_neg hd]
        rw [List.cons_append] at this
        rw [this]; rfl
theorem readU_part {l x : List UInt8} {k : Int} {s : List UInt8} {n : Nat} (hx : bnd x) (h : readU l = .ok (k, s, n)) : readU (l ++ x) = .ok (k, s, n) := by
  cases l with
  | nil => cases h
  | cons c r =>
    have hsp := span_part (p := wrdU) hx r
    have htk : (r ++ x).take (spanN wrdU r) = r.take (spanN wrdU r) := take_part (spanN_le wrdU r)
    unfold readU at h
    dsimp only at h
    show readU (c :: (r ++ x)) = _
    unfold readU
    dsimp only
    rw [hsp, htk]
    split at h
    · rename_i h1; rw [if_pos h1, h]
    rename_i h1; rw [if_neg h1]
    split at h
    · rename_i h2
      rw [if_pos h2]
      split at h
      · rename_i h3
        have : (r.take 2).length = 2 := by rw [h3]; rfl
        rw [List.length_take] at this
        rw [take_part (by omega), if_pos h3, h]
      · cases h
    rename_i h2; rw [if_neg h2]
    split at h
    · rename_i h3
      rw [if_pos h3, h]
    rename_i h3; rw [if_neg h3]
    split at h
    · rename_i h4
      rw [if_pos h4, h]
    rename_i h4; rw [if_neg h4]
    split at h
    · rename_i h5
      rw [if_pos h5]
      cases hl : litN r with
      | none => rw [hl] at h; cases h
      | some m =>
        rw [hl] at h
        rw [lit_part r x m hl]
        dsimp only at h ⊢
        rw [take_part (litN_le r m hl).2, h]
    · cases h
/-- a text, a new line, a text: the tokens of the one and of the other -/
theorem Lex.join {l : List UInt8} {ks : List (Int × List UInt8)} (h : Lex l ks) : ∀ {r : List UInt8} {kr : List (Int × List UInt8)}, Lex r kr → Lex (l ++ 10 :: r) (ks ++ kr) := by
  induction h with
  | done h =>
    rename_i l
    intro r kr hr
    have h1 : skipM false l = l.length := by
      have := skipM_le false l
      have h2 := congrArg List.length h
      rw [List.length_drop, List.length_nil] at h2
      omega
    have e : (l ++ 10 :: r).drop (skipM false (l ++ 10 :: r)) = r.drop (skipM false r) := by
      rw [skip_all false l r h1, ← List.drop_drop, show l.length + 1 = (l ++ [10]).length by simp, show l ++ 10 :: r = (l ++ [10]) ++ r by simp, List.drop_left]
    cases hr with
    | done h => exact .done (by rw [e]; exact h)
    | tok h ht hr => exact .tok (by rw [e]; exact h) ht hr
  | tok h ht hr ih =>
    rename_i l c r0 k s n ks
    intro r kr hk
    have hlen := congrArg List.length h
    rw [List.length_drop, List.length_cons] at hlen
    have hn := readU_le ht
    refine .tok (c := c) (r := r0 ++ 10 :: r) (n := n) ?_ (readU_part (l := c :: r0) (bnd_cons rfl) ht) ?_
    · rw [skip_part false l _ (by omega), List.drop_append_of_le_length (by omega), h]; rfl
    · have := ih hk
      rw [show (c :: (r0 ++ 10 :: r)) = (c :: r0) ++ 10 :: r from rfl, List.drop_append_of_le_length hn.2.1]
      exact this
end Go.Proofs.YthjiclhfhjdjpaaGreatDoor
namespace Go.Proofs.YthjiclhfhjdjpaaGreatDoor
section
variable {e : Tok} {r : List Tok} (hE : Ends e r)
include hE
theorem dc_step {x x' : PS} {a : List Tok} (hJ : J e r a x x') (ha : a ≠ []) (hk : (hdT x).k ≠ 5) :
    (∀ f n ops frs, docF (f + 1) n ops frs x = .error ((hdT x).i, 3)) ∨
    ∃ (p p' : PR D) (A B : D → List D), LS e r a p p' ∧ (∀ v, (A v).length + (B v).length = 1) ∧
      (∀ f n ops frs, n < 64 → docF (f + 1) n ops frs x = thenQ p fun v y => docF f (n + 1) (ops ++ A v) (frs ++ B v) y) ∧
      (∀ f n ops frs, n < 64 → docF (f + 1) n ops frs x' = thenQ p' fun v y => docF f (n + 1) (ops ++ A v) (frs ++ B v) y) ∧
      (∀ f n ops frs, 64 ≤ n → docF (f + 1) n ops frs x = .error ((hdT x).i, 4)) ∧
      (∀ f n ops frs, 64 ≤ n → docF (f + 1) n ops frs x' = .error ((hdT x).i, 4)) := by
  have hh := hJ.hd ha
  have hn : ∀ n, ¬ (n ≠ 0 ∧ (hdT x).k = 5) := fun n h => hk h.2
  have hn' : ∀ n, ¬ (n ≠ 0 ∧ (hdT x').k = 5) := fun n h => hk (by rw [← hh]; exact h.2)
  have hw' : wordQ x' ↔ wordQ x := by unfold wordQ; rw [hh]
  by_cases hw : wordQ x
  · right
    have hw2 := hw'.2 hw
    obtain ⟨t, a', ha', hJ'⟩ := hJ.ne_of_k hE hk
    have hab : ∃ d, a = d ++ a' := ⟨[t], ha'⟩
    by_cases hq : 0 < kindQ (hdT x).s
    · have hq' : 0 < kindQ (hdT x').s := by rw [hh]; exact hq
      refine ⟨opQ (kindQ (hdT x).s) (nxT x), opQ (kindQ (hdT x).s) (nxT x'), fun v => [v], fun _ => [], (op_ls hE _ hJ').mono hab, fun _ => rfl, ?_, ?_, ?_, ?_⟩
      · intro f n ops frs h; rw [dc_op (hn n) hw h hq]; simp only [List.append_nil]
      · intro f n ops frs h; rw [dc_op (hn' n) hw2 h hq', hh]; simp only [List.append_nil]
      · intro f n ops frs h; exact dc_lim (hn n) (.inl hw) h
      · intro f n ops frs h; rw [dc_lim (hn' n) (.inl hw2) h, hh]
    · have hq' : ¬ 0 < kindQ (hdT x').s := by rw [hh]; exact hq
      refine ⟨fragQ (nxT x), fragQ (nxT x'), fun _ => [], fun v => [v], (frag_ls hE hJ').mono hab, fun _ => rfl, ?_, ?_, ?_, ?_⟩
      · intro f n ops frs h; rw [dc_frag (hn n) hw h hq]; simp only [List.append_nil]
      · intro f n ops frs h; rw [dc_frag (hn' n) hw2 h hq']; simp only [List.append_nil]
      · intro f n ops frs h; exact dc_lim (hn n) (.inl hw) h
      · intro f n ops frs h; rw [dc_lim (hn' n) (.inl hw2) h, hh]
  · have hw2 : ¬ wordQ x' := fun h => hw (hw'.1 h)
    by_cases hs : isS x [123] = true
    · right
      have hs' : isS x' [123] = true := (hJ.sg _ ha).1 hs
      refine ⟨thenQ (setQ x) fun ss y => .ok (opD 1 [] [] ss, y), thenQ (setQ x') fun ss y => .ok (opD 1 [] [] ss, y), fun v => [v], fun _ => [], ?_, fun _ => rfl, ?_, ?_, ?_, ?_⟩
      · intro v y hp
        cases h1 : setQ x with
        | error q => rw [then_err h1] at hp; cases hp
        | ok q =>
          obtain ⟨ss, u⟩ := q
          rw [then_ok h1] at hp
          cases hp
          obtain ⟨b, y', h2, h3, h4⟩ := set_ls hE hJ ss y h1
          exact ⟨b, y', h2, by rw [then_ok h3], h4⟩
      · intro f n ops frs h; rw [dc_set (hn n) hw hs h, then_then]; simp only [List.append_nil]; rfl
      · intro f n ops frs h; rw [dc_set (hn' n) hw2 hs' h, then_then]; simp only [List.append_nil]; rfl
      · intro f n ops frs h; exact dc_lim (hn n) (.inr hs) h
      · intro f n ops frs h; rw [dc_lim (hn' n) (.inr hs') h, hh]
    · left
      intro f n ops frs
      exact dc_un (hn n) hw (by simpa using hs)
theorem docF_join : ∀ (f : Nat) {n : Nat} {ops frs ops' frs' : List D} {x x' z : PS} {a : List Tok}, J e r a x x' → (∀ t ∈ a, t.k ≠ 5) → docF f n ops frs x = .ok ((ops', frs'), z) →
    ∃ o g y', ops' = ops ++ o ∧ frs' = frs ++ g ∧ (n = 0 → 0 < o.length + g.length) ∧ n + (o.length + g.length) ≤ max n 64 ∧ o.length + g.length ≤ a.length ∧ J e r [] z y' ∧
      ∀ (f' n' : Nat) (ops2 frs2 : List D), a.length < f' → n' ≤ 64 →
        (n' + (o.length + g.length) ≤ 64 → docF f' n' ops2 frs2 x' = docF (f' - (o.length + g.length)) (n' + (o.length + g.length)) (ops2 ++ o) (frs2 ++ g) y') ∧
        (64 < n' + (o.length + g.length) → ∃ i, docF f' n' ops2 frs2 x' = .error (i, 4))
  | 0, _, _, _, _, _, _, _, _, _, _, _, h => by cases h
  | f + 1, n, ops, frs, ops', frs', x, x', z, a, hJ, H, h => by
    by_cases ha : a = []
    · subst ha
      have hk := hJ.k5 hE
      by_cases hn : n = 0
      · have h1 : docF (f + 1) n ops frs x = .error ((hdT x).i, 3) := dc_un (fun g => g.1 hn) (fun g => absurd (hk.symm.trans g.1) (by decide)) (by unfold isS; rw [hk]; rfl)
        rw [h1] at h; cases h
      · rw [dc_end ⟨hn, hk⟩] at h
        cases h
        refine ⟨[], [], x', by simp, by simp, fun h => (hn h).elim, by simp; omega, by simp, hJ, fun f' n' ops2 frs2 _ hn' => ⟨fun _ => by simp, fun h => ?_⟩⟩
        simp at h; omega
    · have hk : (hdT x).k ≠ 5 := by
        cases a with
        | nil => exact (ha rfl).elim
        | cons t q =>
          have : hdT x = t := hdT_cons (by rw [hJ.l]; rfl)
          rw [this]; exact H t (List.mem_cons_self ..)
      rcases dc_step hE hJ ha hk with h1 | ⟨p, p', A, B, hls, hAB, h1, h2, h3, h4⟩
      · rw [h1] at h; cases h
      · by_cases hn : n < 64
        · rw [h1 f n ops frs hn] at h
          cases hp : p with
          | error q => rw [then_err hp] at h; cases h
          | ok q =>
            obtain ⟨v, y⟩ := q
            rw [then_ok hp] at h
            obtain ⟨b, y1, ⟨t, d, hd⟩, hp', hJ'⟩ := hls v y hp
            obtain ⟨o, g, y', e1, e2, e3, e4, e5, e6, e7⟩ := docF_join f hJ' (fun t ht => H t (by rw [hd]; exact List.mem_append_right _ ht)) h
            have hab := hAB v
            have hlen : a.length = d.length + 1 + b.length := by rw [hd]; simp; omega
            have hol : (A v ++ o).length + (B v ++ g).length = o.length + g.length + 1 := by simp only [List.length_append]; omega
            refine ⟨A v ++ o, B v ++ g, y', by rw [e1, List.append_assoc], by rw [e2, List.append_assoc], fun _ => by rw [hol]; omega, by rw [hol]; omega, by rw [hol]; omega, e6, ?_⟩
            intro f' n' ops2 frs2 hf' hn'
            rw [hol]
            obtain ⟨f'', rfl⟩ : ∃ f'', f' = f'' + 1 := ⟨f' - 1, by omega⟩
            constructor
            · intro hm
              rw [h2 f'' n' ops2 frs2 (by omega), then_ok hp', (e7 f'' (n' + 1) _ _ (by omega) (by omega)).1 (by omega), List.append_assoc, List.append_assoc]
              congr 1 <;> omega
            · intro hm
              by_cases h64 : n' < 64
              · rw [h2 f'' n' ops2 frs2 h64, then_ok hp']
                exact (e7 f'' (n' + 1) _ _ (by omega) (by omega)).2 (by omega)
              · exact ⟨_, h4 f'' n' ops2 frs2 (by omega)⟩
        · rw [h3 f n ops frs (by omega)] at h; cases h
end
end Go.Proofs.YthjiclhfhjdjpaaGreatDoor
namespace Go.Proofs.YthjiclhfhjdjpaaGreatDoor
def RN (M : Prop) (V : Bool) (T : Tok → Tok → Prop) (I : Nat → Nat → Prop) {α : Type} : PR α → PR α → Prop
  | .ok (a, x), .ok (a', x') => a = a' ∧ XN M V T x x'
  | .error e, .error e' => I e.1 e'.1 ∧ e.2 = e'.2
  | _, _ => False
section
variable {M : Prop} {V W : Bool} {T : Tok → Tok → Prop} {I : Nat → Nat → Prop} {α β : Type}
theorem XN.hd (hT : TR T I) {x x' : PS} (h : XN M V T x x') : (hdT x').k = (hdT x).k ∧ (hdT x').s = (hdT x).s ∧ I (hdT x).i (hdT x').i := by
  obtain ⟨h1, -, -, -⟩ := h
  unfold hdT
  generalize x.ts = a at h1
  generalize x'.ts = b at h1
  cases h1 with
  | nil => exact ⟨rfl, rfl, hT.z⟩
  | cons h2 h3 => exact ⟨(hT.k h2).symm, (hT.s h2).symm, hT.i h2⟩
theorem XN.isS (hT : TR T I) {x x' : PS} (h : XN M V T x x') (s : List UInt8) : isS x' s = isS x s := by
  obtain ⟨h1, h2, -⟩ := h.hd hT
  unfold Go.Proofs.YthjiclhfhjdjpaaGreatDoor.isS
  rw [h1, h2]
theorem XN.nx (hT : TR T I) {x x' : PS} (h : XN M V T x x') : XN M V T (nxT x) (nxT x') := by
  obtain ⟨h1, -, -⟩ := h.hd hT
  unfold nxT
  rw [h1]
  split
  · exact h
  · exact ⟨all2_drop h.ts 1, h.vr, h.vr', h.nd⟩
theorem XN.len {x x' : PS} (h : XN M V T x x') : x'.ts.length = x.ts.length := (all2_length h.ts).symm
theorem RN.err (hT : TR T I) {x x' : PS} (h : XN M V T x x') (e : Int) : RN M V T I (α := α) (.error ((hdT x).i, e)) (.error ((hdT x').i, e)) := ⟨(h.hd hT).2.2, rfl⟩
theorem RN.okk {x x' : PS} (h : XN M V T x x') (a : α) : RN M V T I (.ok (a, x)) (.ok (a, x')) := ⟨rfl, h⟩
theorem RN.ite {c : Prop} [Decidable c] {a b a' b' : PR α} (h1 : c → RN M V T I a a') (h2 : ¬ c → RN M V T I b b') : RN M V T I (if c then a else b) (if c then a' else b') := by
  split
  · rename_i h; exact h1 h
  · rename_i h; exact h2 h
theorem RN.then {r r' : PR α} {f f' : α → PS → PR β} (h : RN M V T I r r') (hf : ∀ a x x', XN M V T x x' → RN M W T I (f a x) (f' a x')) : RN M W T I (thenQ r f) (thenQ r' f') := by
  unfold thenQ
  cases r with
  | error e => cases r' with | error e' => exact h | ok a' => exact h.elim
  | ok a =>
    cases r' with
    | error e' => exact h.elim
    | ok a' =>
      obtain ⟨a, x⟩ := a
      obtain ⟨a', x'⟩ := a'
      obtain ⟨rfl, hx⟩ := h
      exact hf _ _ _ hx
theorem RN.weak {r r' : PR α} (h : RN True V T I r r') : RN M V T I r r' := by
  cases r with
  | error e => cases r' with | error e' => exact h | ok a' => exact h.elim
  | ok a =>
    cases r' with
    | error e' => exact h.elim
    | ok a' => exact ⟨h.1, h.2.ts, h.2.vr, h.2.vr', fun _ => h.2.nd trivial⟩
variable (hT : TR T I)
include hT
theorem take_rn {x x' : PS} (h : XN M V T x x') (s : List UInt8) : RN M V T I (takeQ s x) (takeQ s x') := by
  unfold takeQ
  rw [h.isS hT]
  exact .ite (fun _ => .okk (h.nx hT) _) fun _ => .err hT h _
theorem name_rn {x x' : PS} (h : XN M V T x x') : RN M V T I (nameQ x) (nameQ x') := by
  unfold nameQ
  rw [(h.hd hT).1, (h.hd hT).2.1]
  exact .ite (fun _ => .okk (h.nx hT) _) fun _ => .err hT h _
theorem open_rn : ∀ (f : Nat) {x x' : PS}, XN M V T x x' → (openQ f x').1 = (openQ f x).1 ∧ XN M V T (openQ f x).2 (openQ f x').2
  | 0, _, _, h => ⟨rfl, h⟩
  | f + 1, x, x', h => by
    unfold openQ
    rw [h.isS hT]
    split
    · obtain ⟨h1, h2⟩ := open_rn f (h.nx hT)
      exact ⟨by simp [h1], h2⟩
    · exact ⟨rfl, h⟩
theorem close_rn : ∀ (n : Nat) (w : List Int) {x x' : PS}, XN M V T x x' → RN M V T I (closeQ n w x) (closeQ n w x')
  | 0, w, x, x', h => by
    unfold closeQ
    rw [h.isS hT]
    split
    · exact .okk (h.nx hT) _
    · exact .okk h _
  | n + 1, w, x, x', h => by
    unfold closeQ
    rw [h.isS hT]
    refine .then (take_rn hT ?_ _) fun _ y y' hy => close_rn n _ hy
    split
    · exact h.nx hT
    · exact h
theorem inner_rn {x x' : PS} (h : XN M V T x x') : RN M V T I (innerQ x) (innerQ x') := by
  unfold innerQ
  rw [h.len]
  obtain ⟨h1, h2⟩ := open_rn hT x.ts.length h
  rw [h1]
  exact .then (name_rn hT h2) fun _ _ _ hy => .then (close_rn hT _ _ hy) fun _ _ _ hz => .okk hz _
theorem typ_rn {x x' : PS} (h : XN M V T x x') : RN M V T I (typQ x) (typQ x') :=
  .then (inner_rn hT h) fun _ _ _ hy => .ite (fun _ => .err hT h _) fun _ => .okk hy _
theorem items_rn {v : PS → PR D} (hv : ∀ {x x' : PS}, XN M V T x x' → RN M V T I (v x) (v x')) : ∀ (f : Nat) (acc : List D) {x x' : PS}, XN M V T x x' → RN M V T I (itemsQ v f acc x) (itemsQ v f acc x')
  | 0, _, _, _, h => .err hT h _
  | f + 1, acc, x, x', h => by
    unfold itemsQ
    rw [h.isS hT]
    exact .ite (fun _ => .okk (h.nx hT) _) fun _ => .then (hv h) fun _ _ _ hy => items_rn hv f _ hy
theorem fields_rn {v : PS → PR D} (hv : ∀ {x x' : PS}, XN M V T x x' → RN M V T I (v x) (v x')) : ∀ (f : Nat) (ks : List (List UInt8)) (acc : List D) {x x' : PS}, XN M V T x x' → RN M V T I (fieldsQ v f ks acc x) (fieldsQ v f ks acc x')
  | 0, _, _, _, _, h => .err hT h _
  | f + 1, ks, acc, x, x', h => by
    unfold fieldsQ
    rw [h.isS hT]
    exact .ite (fun _ => .okk (h.nx hT) _) fun _ => .then (name_rn hT h) fun k _ _ hy => .ite (fun _ => .err hT h _) fun _ => .then (take_rn hT hy _) fun _ _ _ hz => .then (hv hz) fun _ _ _ hu => fields_rn hv f _ _ hu
theorem noVal_rn {x x' : PS} (h : XN M V T x x') : noVal x' = noVal x := by
  unfold noVal
  rw [(h.hd hT).1, h.isS hT, h.isS hT, h.isS hT, h.vr, h.vr']
theorem value_rn (hM : M) : ∀ (f lv : Nat) {x x' : PS}, XN M V T x x' → RN M V T I (valueQ f lv x) (valueQ f lv x')
  | 0, _, _, _, h => .err hT h _
  | f + 1, lv, x, x', h => by
    have hy : XN M V T { nxT x with nd := x.nd + 1 } { nxT x' with nd := x'.nd + 1 } := ⟨(h.nx hT).ts, (h.nx hT).vr, (h.nx hT).vr', fun _ => by show x.nd + 1 = x'.nd + 1; rw [h.nd hM]⟩
    unfold valueQ
    rw [noVal_rn hT h, ← h.nd hM, (h.hd hT).1, (h.hd hT).2.1]
    rw [← h.nd hM] at hy
    refine .ite (fun _ => .err hT h _) fun _ => .ite (fun _ => .err hT h _) fun _ => .ite (fun _ => .err hT h _) fun _ => ?_
    dsimp only
    refine .ite (fun _ => .okk hy _) fun _ => .ite (fun _ => .okk hy _) fun _ => .ite (fun _ => .okk hy _) fun _ => .ite (fun _ => .then (name_rn hT hy) fun _ _ _ hz => .okk hz _) fun _ => .ite (fun _ => ?_) fun _ => ?_
    · have e : (nxT x').ts.length = (nxT x).ts.length := (h.nx hT).len
      rw [e]
      exact .then (items_rn hT (fun h => value_rn hM f (lv + 1) h) _ _ hy) fun _ _ _ hz => .okk hz _
    · have e : (nxT x').ts.length = (nxT x).ts.length := (h.nx hT).len
      rw [e]
      exact .then (fields_rn hT (fun h => value_rn hM f (lv + 1) h) _ _ _ hy) fun _ _ _ hz => .okk hz _
theorem whole_rn {x x' : PS} (h : XN M V T x x') : RN M V T I (wholeQ x) (wholeQ x') := .weak (value_rn hT (M := True) trivial 25 1 ⟨h.ts, h.vr, h.vr', fun _ => rfl⟩)
theorem argsF_rn : ∀ (f : Nat) (acc : List D) {x x' : PS}, XN M V T x x' → RN M V T I (argsF f acc x) (argsF f acc x')
  | 0, _, _, _, h => .err hT h _
  | f + 1, acc, x, x', h => by
    unfold argsF
    rw [h.isS hT, (h.hd hT).1]
    exact .ite (fun _ => .okk (h.nx hT) _) fun _ => .ite (fun _ => .err hT h _) fun _ => .then (name_rn hT h) fun _ _ _ hy => .then (take_rn hT hy _) fun _ _ _ hz => .then (whole_rn hT hz) fun _ _ _ hu => argsF_rn f _ hu
theorem args_rn {x x' : PS} (h : XN M V T x x') : RN M V T I (argsQ x) (argsQ x') := by
  unfold argsQ
  rw [h.isS hT, h.len]
  exact .ite (fun _ => argsF_rn hT _ _ (h.nx hT)) fun _ => .okk h _
theorem dirsF_rn : ∀ (f : Nat) (acc : List D) {x x' : PS}, XN M V T x x' → RN M V T I (dirsF f acc x) (dirsF f acc x')
  | 0, _, _, _, h => .err hT h _
  | f + 1, acc, x, x', h => by
    unfold dirsF
    rw [h.isS hT]
    exact .ite (fun _ => .ite (fun _ => .err hT h _) fun _ => .then (name_rn hT (h.nx hT)) fun _ _ _ hy => .then (args_rn hT hy) fun _ _ _ hz => dirsF_rn f _ hz) fun _ => .okk h _
theorem dirs_rn {x x' : PS} (h : XN M V T x x') : RN M V T I (dirsQ x) (dirsQ x') := by
  unfold dirsQ
  rw [h.len]
  exact dirsF_rn hT _ _ h
theorem sel_rn {v : PS → PR (List D)} (hv : ∀ {x x' : PS}, XN M V T x x' → RN M V T I (v x) (v x')) {x x' : PS} (h : XN M V T x x') : RN M V T I (selQ v x) (selQ v x') := by
  have hy := h.nx hT
  unfold selQ
  rw [h.isS hT]
  dsimp only
  rw [(hy.hd hT).1, (hy.hd hT).2.1]
  refine .ite (fun _ => .ite (fun _ => .then (dirs_rn hT (hy.nx hT)) fun _ _ _ hz => .okk hz _) fun _ => .then (.ite (fun _ => name_rn hT (hy.nx hT)) fun _ => .okk hy _) fun _ _ _ hz => .then (dirs_rn hT hz) fun _ _ _ hu => .then (hv hu) fun _ _ _ ho => .okk ho _) fun _ => ?_
  refine .then (name_rn hT h) fun n y y' hy => ?_
  rw [hy.isS hT]
  refine .then (.ite (fun _ => .then (name_rn hT (hy.nx hT)) fun _ _ _ hz => .okk hz _) fun _ => .okk hy _) fun _ _ _ hz => .then (args_rn hT hz) fun _ _ _ hu => .then (dirs_rn hT hu) fun _ _ _ hw => ?_
  rw [hw.isS hT]
  exact .then (.ite (fun _ => hv hw) fun _ => .okk hw _) fun _ _ _ ho => .okk ho _
theorem setF_rn {v : PS → PR D} (hv : ∀ {x x' : PS}, XN M V T x x' → RN M V T I (v x) (v x')) : ∀ (f : Nat) (acc : List D) {x x' : PS}, XN M V T x x' → RN M V T I (setF v f acc x) (setF v f acc x')
  | 0, _, _, _, h => .err hT h _
  | f + 1, acc, x, x', h => by
    unfold setF
    rw [h.isS hT, h.isS hT, (h.hd hT).1]
    exact .ite (fun _ => .okk (h.nx hT) _) fun _ => .ite (fun _ => .err hT h _) fun _ => .then (hv h) fun _ _ _ hy => setF_rn hv f _ hy
theorem sels_rn : ∀ (f lv : Nat) {x x' : PS}, XN M V T x x' → RN M V T I (selsQ f lv x) (selsQ f lv x')
  | 0, _, _, _, h => .err hT h _
  | f + 1, lv, x, x', h => by
    unfold selsQ
    rw [h.isS hT]
    refine .ite (fun _ => .err hT h _) fun _ => .then (take_rn hT h _) fun _ y y' hy => ?_
    rw [hy.len]
    exact setF_rn hT (fun h => sel_rn hT (fun h => sels_rn f (lv + 1) h) h) _ _ hy
theorem set_rn {x x' : PS} (h : XN M V T x x') : RN M V T I (setQ x) (setQ x') := sels_rn hT _ _ h
theorem varsF_rn : ∀ (f : Nat) (acc : List D) {x x' : PS}, XN M true T x x' → RN M true T I (varsF f acc x) (varsF f acc x')
  | 0, _, _, _, h => .err hT h _
  | f + 1, acc, x, x', h => by
    unfold varsF
    rw [h.isS hT, h.isS hT]
    refine .ite (fun _ => .okk (h.nx hT) _) fun _ => .ite (fun _ => .err hT h _) fun _ => .then (take_rn hT h _) fun _ _ _ hy => .then (name_rn hT hy) fun _ _ _ hz => .then (take_rn hT hz _) fun _ _ _ hu => .then (typ_rn hT hu) fun _ v v' hv => ?_
    rw [hv.isS hT]
    refine .then (.ite (fun _ => .then (whole_rn (V := false) hT ?_) fun d o o' ho => RN.okk (x := { o with vr := true }) (x' := { o' with vr := true }) ⟨ho.ts, rfl, rfl, ho.nd⟩ (true, d)) fun _ => .okk hv _) fun _ _ _ ho => varsF_rn f _ ho
    exact ⟨(hv.nx hT).ts, rfl, rfl, (hv.nx hT).nd⟩
theorem op_rn (k : Int) {x x' : PS} (h : XN M true T x x') : RN M true T I (opQ k x) (opQ k x') := by
  unfold opQ
  rw [(h.hd hT).1, (h.hd hT).2.1]
  refine .then (.ite (fun _ => .okk (h.nx hT) _) fun _ => .okk h _) fun _ y y' hy => ?_
  rw [hy.isS hT, hy.len]
  exact .then (.ite (fun _ => varsF_rn hT _ _ (hy.nx hT)) fun _ => .okk hy _) fun _ _ _ hz => .then (set_rn hT hz) fun _ _ _ hu => .okk hu _
theorem frag_rn {x x' : PS} (h : XN M true T x x') : RN M true T I (fragQ x) (fragQ x') := by
  unfold fragQ
  rw [(h.hd hT).2.1]
  refine .ite (fun _ => .err hT h _) fun _ => .then (name_rn hT h) fun _ y y' hy => ?_
  rw [(hy.hd hT).1, (hy.hd hT).2.1]
  exact .ite (fun _ => .then (name_rn hT (hy.nx hT)) fun _ _ _ hz => .then (set_rn hT hz) fun _ _ _ hu => .okk hu _) fun _ => .err hT hy _
theorem docF_rn : ∀ (f n : Nat) (ops frs : List D) {x x' : PS}, XN M true T x x' → RN M true T I (docF f n ops frs x) (docF f n ops frs x')
  | 0, _, _, _, _, _, h => .err hT h _
  | f + 1, n, ops, frs, x, x', h => by
    unfold docF
    rw [h.isS hT, (h.hd hT).1, (h.hd hT).2.1]
    dsimp only
    refine .ite (fun _ => .okk h _) fun _ => .ite (fun _ => .err hT h _) fun _ => .ite (fun _ => .err hT h _) fun _ => .ite (fun _ => .then (set_rn hT h) fun _ _ _ hy => docF_rn f _ _ _ hy) fun _ => .ite (fun _ => .then (op_rn hT _ (h.nx hT)) fun _ _ _ hy => docF_rn f _ _ _ hy) fun _ => .then (frag_rn hT (h.nx hT)) fun _ _ _ hy => docF_rn f _ _ _ hy
end
end Go.Proofs.YthjiclhfhjdjpaaGreatDoor
namespace Go.Proofs.YthjiclhfhjdjpaaGreatDoor
theorem parse_ok {l : List UInt8} {o g : List D} (h : parseT l = .ok (queD o g)) : ∃ ts z, scanT l = .ok ts ∧ docQ ts = .ok ((o, g), z) := by
  unfold parseT at h
  split at h
  · cases h
  · rename_i ts hs
    split at h
    · cases h
    · rename_i q z hd
      obtain ⟨o', g'⟩ := q
      have h2 : queD o' g' = queD o g := Except.ok.inj h
      unfold queD at h2
      cases h2
      exact ⟨ts, z, hs, hd⟩
/-- a scan's tokens: those of the text, and an end -/
theorem scan_parts {l : List UInt8} {ts : List Tok} (h : scanT l = .ok ts) : ∃ ks a e, Lex l ks ∧ ts = a ++ [e] ∧ e.k = 5 ∧ bare e = endK5 ∧ a.map bare = ks ∧ ∀ t ∈ a, t.k ≠ 5 := by
  obtain ⟨⟨a, e, h1, h2, -⟩, -⟩ := scan_en h
  have h1 : ts = a ++ [e] := h1
  unfold scanT at h
  split at h
  · cases h
  · obtain ⟨ks, h3, h4⟩ := Lex.of_scan _ _ _ _ h
    rw [h1, List.map_append] at h4
    obtain ⟨h5, h6⟩ := List.append_inj' h4 rfl
    refine ⟨ks, a, e, h3, h1, h2, (List.cons.inj h6).1, h5, fun t ht => ?_⟩
    have := h3.kinds (bare t) (by rw [← h5]; exact List.mem_map_of_mem ht)
    exact this
theorem eqT_tr : TR (fun t t' : Tok => t = t') fun _ _ => True := ⟨fun h => by rw [h], fun h => by rw [h], fun _ => trivial, trivial⟩
theorem all2_eq : ∀ ts : List Tok, All2 (fun t t' : Tok => t = t') ts ts
  | [] => .nil
  | _ :: ts => .cons rfl (all2_eq ts)
theorem docF_vr {f n : Nat} {ops frs : List D} {x z : PS} {q : List D × List D} (hv : x.vr = true) (h : docF f n ops frs x = .ok (q, z)) : z.vr = true := by
  have hr := docF_rn (M := False) eqT_tr f n ops frs (x := x) (x' := x) ⟨all2_eq _, hv, hv, fun h => h.elim⟩
  rw [h] at hr
  exact hr.2.vr
/-- what was counted before does not matter -/
theorem docF_nd {f n : Nat} {ops frs : List D} {x x' : PS} (ht : x.ts = x'.ts) (hv : x.vr = true) (hv' : x'.vr = true) : (∀ q z, docF f n ops frs x = .ok (q, z) → ∃ z', docF f n ops frs x' = .ok (q, z')) ∧ (∀ i e, docF f n ops frs x = .error (i, e) → ∃ i', docF f n ops frs x' = .error (i', e)) := by
  have hr := docF_rn (M := False) eqT_tr f n ops frs (x := x) (x' := x') ⟨by rw [ht]; exact all2_eq _, hv, hv', fun h => h.elim⟩
  constructor
  · intro q z hq
    rw [hq] at hr
    cases h2 : docF f n ops frs x' with
    | error e => rw [h2] at hr; exact hr.elim
    | ok p =>
      obtain ⟨q', z'⟩ := p
      rw [h2] at hr
      obtain ⟨rfl, -⟩ := hr
      exact ⟨z', rfl⟩
  · intro i e hq
    rw [hq] at hr
    cases h2 : docF f n ops frs x' with
    | error e' =>
      obtain ⟨i', e'⟩ := e'
      rw [h2] at hr
      obtain ⟨-, rfl⟩ := hr
      exact ⟨i', rfl⟩
    | ok p => rw [h2] at hr; exact hr.elim
theorem doc_joins {a b : List Tok} {e e2 : Tok} {oa fa ob fb : List D} {z z2 : PS} (he : e.k = 5) (he2 : e2.k = 5) (Ha : ∀ t ∈ a, t.k ≠ 5) (Hb : ∀ t ∈ b, t.k ≠ 5) (h1 : docQ (a ++ [e]) = .ok ((oa, fa), z)) (h2 : docQ (b ++ [e2]) = .ok ((ob, fb), z2)) :
    (oa.length + fa.length + (ob.length + fb.length) ≤ 64 → ∃ w, docQ (a ++ (b ++ [e2])) = .ok ((oa ++ ob, fa ++ fb), w)) ∧ (64 < oa.length + fa.length + (ob.length + fb.length) → ∃ i, docQ (a ++ (b ++ [e2])) = .error (i, 4)) := by
  have hvr := docF_vr (x := ⟨a ++ [e], true, 0⟩) rfl h1
  obtain ⟨o1, g1, y1, p1, p2, p3, p4, p5, p6, p7⟩ := docF_join (e := e) (r := b ++ [e2]) ⟨he, by simp⟩ _ (x := ⟨a ++ [e], true, 0⟩) (x' := ⟨a ++ (b ++ [e2]), true, 0⟩) (a := a) ⟨rfl, rfl, rfl, rfl⟩ Ha h1
  obtain ⟨o2, g2, y2, q1, q2, q3, q4, q5, q6, q7⟩ := docF_join (e := e2) (r := [e2]) ⟨he2, by simp⟩ _ (x := ⟨b ++ [e2], true, 0⟩) (x' := ⟨b ++ [e2], true, 0⟩) (a := b) ⟨rfl, rfl, rfl, rfl⟩ Hb h2
  have p1 : oa = o1 := by simpa using p1
  have p2 : fa = g1 := by simpa using p2
  have q1 : ob = o2 := by simpa using q1
  have q2 : fb = g2 := by simpa using q2
  subst p1 p2 q1 q2
  have p4 : oa.length + fa.length ≤ 64 := by simpa using p4
  have hf : (a ++ (b ++ [e2])).length + 1 = a.length + b.length + 2 := by simp; omega
  have hD : docQ (a ++ (b ++ [e2])) = docF (a.length + b.length + 2 - (oa.length + fa.length)) (oa.length + fa.length) oa fa y1 := by
    show docF ((a ++ (b ++ [e2])).length + 1) 0 [] [] ⟨a ++ (b ++ [e2]), true, 0⟩ = _
    rw [hf, (p7 (a.length + b.length + 2) 0 [] [] (by omega) (by omega)).1 (by omega)]
    simp
  rw [hD]
  have hy : y1.ts = b ++ [e2] := by have := p6.r; simpa using this
  have hyv : y1.vr = true := by rw [p6.vr]; exact hvr
  have hn := docF_nd (f := a.length + b.length + 2 - (oa.length + fa.length)) (n := oa.length + fa.length) (ops := oa) (frs := fa) (x := ⟨b ++ [e2], true, 0⟩) (x' := y1) hy.symm rfl hyv
  have hq := q7 (a.length + b.length + 2 - (oa.length + fa.length)) (oa.length + fa.length) oa fa (by omega) p4
  constructor
  · intro h64
    have hy2 : y2.ts = [e2] := by have := q6.r; simpa using this
    have hk : (hdT y2).k = 5 := by rw [hdT_cons hy2]; exact he2
    obtain ⟨f', hf'⟩ : ∃ f', a.length + b.length + 2 - (oa.length + fa.length) - (ob.length + fb.length) = f' + 1 := ⟨a.length + b.length + 2 - (oa.length + fa.length) - (ob.length + fb.length) - 1, by omega⟩
    have h3 := hq.1 h64
    rw [hf', dc_end ⟨by have := q3 rfl; omega, hk⟩] at h3
    exact hn.1 _ _ h3
  · intro h64
    obtain ⟨i, h3⟩ := hq.2 h64
    exact hn.2 _ _ h3
theorem joins_law {s t : List UInt8} {oa fa ob fb : List D} (hl : s.length + t.length ≤ 65000) (ha : parseT s = .ok (queD oa fa)) (hb : parseT t = .ok (queD ob fb)) :
    (oa.length + fa.length + (ob.length + fb.length) ≤ 64 → parseT (s ++ 10 :: t) = .ok (queD (oa ++ ob) (fa ++ fb))) ∧ (64 < oa.length + fa.length + (ob.length + fb.length) → ∃ i, parseT (s ++ 10 :: t) = .error (i, 4)) := by
  obtain ⟨t1, z1, s1, d1⟩ := parse_ok ha
  obtain ⟨t2, z2, s2, d2⟩ := parse_ok hb
  obtain ⟨ks, a, e, x1, rfl, x3, x4, x5, x6⟩ := scan_parts s1
  obtain ⟨kt, b, e2, y1, rfl, y3, y4, y5, y6⟩ := scan_parts s2
  have hj := doc_joins x3 y3 x6 y6 d1 d2
  have hlen : (s ++ 10 :: t).length = s.length + t.length + 1 := by simp; omega
  obtain ⟨tj, w1, w2⟩ := (x1.join y1).scan ((s ++ 10 :: t).length + 1) 0 (by omega)
  have w1 : scanT (s ++ 10 :: t) = .ok tj := by
    unfold scanT
    rw [if_neg (by omega)]
    exact w1
  have w3 : tj.map bare = (a ++ (b ++ [e2])).map bare := by
    rw [w2, List.map_append, List.map_append, x5, y5, List.append_assoc]
    show _ = ks ++ (kt ++ [bare e2])
    rw [y4]
  have hd := doc_like w3
  unfold parseT
  rw [w1]
  dsimp only
  constructor
  · intro h
    obtain ⟨w, hw⟩ := hj.1 h
    obtain ⟨w', hw'⟩ := hd.1 _ _ hw
    rw [hw']
  · intro h
    obtain ⟨i, hi⟩ := hj.2 h
    obtain ⟨i', hi'⟩ := hd.2 _ _ hi
    rw [hi']
    exact ⟨i', rfl⟩
end Go.Proofs.YthjiclhfhjdjpaaGreatDoor
namespace Go.Proofs.YthjiclhfhjdjpaaGreatDoor
open Go.RowKit
set_option linter.unusedSectionVars false
attribute [local irreducible] wpList Calls Code.wp AW AWo OpOk seqK blockK scopeK loopK endK AC absLex Yld Sub
attribute [local irreducible] ACB ACX ACE absLexG YldG absLexH
set_option maxHeartbeats 8000000 in
set_option maxRecDepth 100000 in
theorem parse_que {l : List UInt8} {q : D} (h : parseT l = .ok q) : q = queD (q.f 0).l (q.f 1).l := by
  unfold parseT at h
  split at h
  · cases h
  · split at h
    · cases h
    · cases h; rfl
set_option maxHeartbeats 8000000 in
set_option maxRecDepth 100000 in
theorem joinsBig (s t : List UInt8) (h : 4000 < s.length ∨ 4000 < t.length) : AC EN5 Tryz.prog 12 [.c (.string (bs s)), .c (.string (bs t))] (.c (.bool true)) := by
  have h1 := knows_ac
  have hz := bs_size s
  have hz2 := bs_size t
  by_cases hs : 4000 < s.length
  · have f0 : decide (((bs s).size : Int) > 4000) = true := decide_eq_true (by omega)
    have g0 : (decide (((bs s).size : Int) > 4000) == false) = false := by rw [f0]; rfl
    have k0 : (decide (((bs s).size : Int) > 4000) == false) = true → False := fun h => by rw [g0] at h; cases h
    refine ac_enter 98 Tryz.func12 rfl rfl rfl rfl ?_
    intro σ w he
    repeat' (first
 | refine aw_seq ?_
 | refine aw_region ?_
 | refine awo_nil ?_
 | refine k_seq ?_
 | (apply s_pick_t rfl rfl
    · conv => lhs; whnf
    · conv => lhs; whnf
    · first | exact bT1 (by assumption) | exact bT2 (by assumption))
 | (apply s_val rfl
    · conv => lhs; whnf
    · conv => lhs; whnf; arg 2; whnf)
 | (apply s_call rfl
    · conv => lhs; whnf
    · conv => lhs; whnf
    · first | exact h1)
 | (apply s_skipU rfl
    · conv => lhs; whnf
    · conv => lhs; whnf
    · first | rfl | assumption)
 | (apply aw_cond_t
    · conv => lhs; whnf; arg 1; arg 1; whnf)
 | refine aw_ret ?_
 | refine k_seq_ret ?_
 | refine k_end_ret ?_
 | (refine ⟨_, by conv => lhs; whnf; arg 2; whnf, ?_⟩; conv => rhs; whnf)
 | exact trivial)
    all_goals exact (show Tryz.prog.underlying 9 = some TypeDesc.string by kernel_rfl)
  · have f0 : decide (((bs s).size : Int) > 4000) = false := decide_eq_false (by omega)
    have g0 : (decide (((bs s).size : Int) > 4000) == false) = true := by rw [f0]; rfl
    have f1 : decide (((bs t).size : Int) > 4000) = true := decide_eq_true (by omega)
    have k0 : (decide (((bs s).size : Int) > 4000) == false) = false → False := fun h => by rw [g0] at h; cases h
    refine ac_enter 98 Tryz.func12 rfl rfl rfl rfl ?_
    intro σ w he
    repeat' (first
 | (apply aw_cond_kt
    · conv => lhs; whnf
    · assumption)
 | refine aw_seq ?_
 | refine aw_region ?_
 | refine awo_nil ?_
 | refine k_seq ?_
 | (apply s_pick_f rfl rfl
    · conv => lhs; whnf
    · conv => lhs; whnf
    · first | exact bF1 (by assumption) | exact bF2 (by assumption))
 | (apply s_val rfl
    · conv => lhs; whnf
    · conv => lhs; whnf; arg 2; whnf)
 | (apply s_call rfl
    · conv => lhs; whnf
    · conv => lhs; whnf
    · first | exact h1)
 | (apply s_wanted_val rfl
    · conv => lhs; whnf
    · conv => lhs; whnf
    · first | rfl | assumption
    · conv => lhs; whnf; arg 2; whnf)
 | refine aw_ret ?_
 | refine k_seq_ret ?_
 | refine k_end_ret ?_
 | (refine ⟨_, by conv => lhs; whnf; arg 2; whnf, ?_⟩; conv => rhs; whnf)
 | exact trivial)
    all_goals exact (show Tryz.prog.underlying 9 = some TypeDesc.string by kernel_rfl)
set_option maxHeartbeats 8000000 in
set_option maxRecDepth 100000 in
theorem app2_ok {l l2 : List D} {c : Nat} (h : l.length + l2.length ≤ 1000000) (hc : c ≤ 1000) : l.length + l2.length ≤ maxLen ∧ (l.length + l2.length) * c ≤ 140737488355328 := by
  refine ⟨by unfold maxLen; omega, ?_⟩
  have : (l.length + l2.length) * c ≤ 1000000 * 1000 := Nat.mul_le_mul h hc
  omega
section
variable (s t : List UInt8) (hs : s.length ≤ 4000) (ht : t.length ≤ 4000)
include hs ht
set_option maxHeartbeats 8000000 in
set_option maxRecDepth 100000 in
theorem joinsBad (hb : errO (parseT s) ≠ 0 ∨ errO (parseT t) ≠ 0) : AC EN5 Tryz.prog 12 [.c (.string (bs s)), .c (.string (bs t))] (.c (.bool true)) := by
  have h1 := knows_ac
  have hz := bs_size s
  have hz2 := bs_size t
  have f0 : decide (((bs s).size : Int) > 4000) = false := decide_eq_false (by omega)
  have g0 : (decide (((bs s).size : Int) > 4000) == false) = true := by rw [f0]; rfl
  have f1 : decide (((bs t).size : Int) > 4000) = false := decide_eq_false (by omega)
  have k0 : (decide (((bs s).size : Int) > 4000) == false) = false → False := fun h => by rw [g0] at h; cases h
  have h2 := parseO_ac s (by omega)
  have h3 := parseO_ac t (by omega)
  generalize opsO (parseT s) = x1 at h2
  generalize frsO (parseT s) = x2 at h2
  generalize atO (parseT s) = x3 at h2
  generalize errO (parseT s) = x4 at h2 hb
  generalize opsO (parseT t) = y1 at h3
  generalize frsO (parseT t) = y2 at h3
  generalize atO (parseT t) = y3 at h3
  generalize errO (parseT t) = y4 at h3 hb
  by_cases hx : x4 = 0
  · subst hx
    have hy : y4 ≠ 0 := hb.resolve_left fun h => h rfl
    have f2 : (y4 != 0) = true := by simpa using hy
    refine ac_enter 98 Tryz.func12 rfl rfl rfl rfl ?_
    intro σ w he
    repeat' (first
 | (apply aw_cond_kt
    · conv => lhs; whnf
    · assumption)
 | (apply aw_cond_kf
    · conv => lhs; whnf
    · assumption)
 | refine aw_seq ?_
 | refine aw_region ?_
 | refine awo_nil ?_
 | refine k_seq ?_
 | refine aw_skip ?_
 | (apply s_pick_f rfl rfl
    · conv => lhs; whnf
    · conv => lhs; whnf
    · first | exact bF1 (by assumption) | exact bF2 (by assumption))
 | (apply s_val rfl
    · conv => lhs; whnf
    · conv => lhs; whnf; arg 2; whnf)
 | (apply s_call rfl
    · conv => lhs; whnf
    · conv => lhs; whnf
    · first | exact h1 | exact h2 | exact h3)
 | (apply s_alloc rfl rfl rfl rfl
    · conv => lhs; whnf; arg 1; whnf
    · rfl)
 | (apply s_store rfl rfl rfl
    · conv => lhs; whnf
    · conv => lhs; whnf; arg 1; whnf
    · conv => lhs; whnf; arg 1; whnf
    · exact ⟨by kernel_rfl, by kernel_rfl⟩
    · rfl)
 | (apply s_wanted_val rfl
    · conv => lhs; whnf
    · conv => lhs; whnf
    · first | rfl | assumption
    · conv => lhs; whnf; arg 2; whnf)
 | refine aw_ret ?_
 | refine k_seq_ret ?_
 | refine k_end_ret ?_
 | (refine ⟨_, by conv => lhs; whnf; arg 2; whnf, ?_⟩; conv => rhs; whnf)
 | exact trivial)
    all_goals first
      | exact (show Tryz.prog.underlying 9 = some TypeDesc.string by kernel_rfl)
  · have f2 : (x4 != 0) = true := by simpa using hx
    have g2 : ((x4 != 0) == false) = false := by rw [f2]; rfl
    have k1 : ((x4 != 0) == false) = true → False := fun h => by rw [g2] at h; cases h
    refine ac_enter 98 Tryz.func12 rfl rfl rfl rfl ?_
    intro σ w he
    repeat' (first
 | (apply aw_cond_kf
    · conv => lhs; whnf
    · assumption)
 | refine aw_seq ?_
 | refine aw_region ?_
 | refine awo_nil ?_
 | refine k_seq ?_
 | refine aw_skip ?_
 | (apply s_pick_t rfl rfl
    · conv => lhs; whnf
    · conv => lhs; whnf
    · first | exact bT1 (by assumption) | exact bT2 (by assumption))
 | (apply s_pick_f rfl rfl
    · conv => lhs; whnf
    · conv => lhs; whnf
    · first | exact bF1 (by assumption) | exact bF2 (by assumption))
 | (apply s_val rfl
    · conv => lhs; whnf
    · conv => lhs; whnf; arg 2; whnf)
 | (apply s_call rfl
    · conv => lhs; whnf
    · conv => lhs; whnf
    · first | exact h1 | exact h2 | exact h3)
 | (apply s_alloc rfl rfl rfl rfl
    · conv => lhs; whnf; arg 1; whnf
    · rfl)
 | (apply s_store rfl rfl rfl
    · conv => lhs; whnf
    · conv => lhs; whnf; arg 1; whnf
    · conv => lhs; whnf; arg 1; whnf
    · exact ⟨by kernel_rfl, by kernel_rfl⟩
    · rfl)
 | (apply s_wanted_val rfl
    · conv => lhs; whnf
    · conv => lhs; whnf
    · first | rfl | assumption
    · conv => lhs; whnf; arg 2; whnf)
 | (apply s_skipU rfl
    · conv => lhs; whnf
    · conv => lhs; whnf
    · first | rfl | assumption)
 | (apply aw_cond_t
    · conv => lhs; whnf; arg 1; arg 1; whnf)
 | refine aw_ret ?_
 | refine k_seq_ret ?_
 | refine k_end_ret ?_
 | (refine ⟨_, by conv => lhs; whnf; arg 2; whnf, ?_⟩; conv => rhs; whnf)
 | exact trivial)
    all_goals first
      | exact (show Tryz.prog.underlying 9 = some TypeDesc.string by kernel_rfl)
noncomputable def HJ (oa fa ob fb oc fc : List D) : Vst 98 := stS 98 [(5, .bx 5 0), (8, .bx 8 0), (11, .bx 11 0), (13, .c (.int .i64 0))]
  [(5, .box 41 [.sl 57 oa, .sl 116 fa]), (8, .box 41 [.sl 57 ob, .sl 116 fb]), (11, .box 41 [.sl 57 oc, .sl 116 fc])]
set_option maxHeartbeats 8000000 in
set_option maxRecDepth 100000 in
theorem joinsOk {oa fa ob fb : List D} (ha : parseT s = .ok (queD oa fa)) (hb : parseT t = .ok (queD ob fb)) : AC EN5 Tryz.prog 12 [.c (.string (bs s)), .c (.string (bs t))] (.c (.bool true)) := by
  have h1 := knows_ac
  have hz := bs_size s
  have hz2 := bs_size t
  have f0 : decide (((bs s).size : Int) > 4000) = false := decide_eq_false (by omega)
  have g0 : (decide (((bs s).size : Int) > 4000) == false) = true := by rw [f0]; rfl
  have f1 : decide (((bs t).size : Int) > 4000) = false := decide_eq_false (by omega)
  have k0 : (decide (((bs s).size : Int) > 4000) == false) = false → False := fun h => by rw [g0] at h; cases h
  have h2 := parse_ac s (by omega)
  have h3 := parse_ac t (by omega)
  rw [ha] at h2
  rw [hb] at h3
  have h2 : AC EN5 Tryz.prog 23 [.c (.string (bs s))] (.tup [.agg [.sl 57 oa, .sl 116 fa], .c (.int .i64 0), .c (.int .i64 0)]) := h2
  have h3 : AC EN5 Tryz.prog 23 [.c (.string (bs t))] (.tup [.agg [.sl 57 ob, .sl 116 fb], .c (.int .i64 0), .c (.int .i64 0)]) := h3
  have h4 := parse_ac (s ++ 10 :: t) (by simp; omega)
  have hbs : bs (s ++ 10 :: t) = bs s ++ { data := #[10] } ++ bs t := by
    apply ByteArray.ext
    simp [bs]
  obtain ⟨j1, j2⟩ := joins_law (by omega) ha hb
  have ba := parse_bulk ha
  have bb := parse_bulk hb
  have ba : bulkL oa + bulkL fa ≤ 41 * s.length + 40 := ba
  have bb : bulkL ob + bulkL fb ≤ 41 * t.length + 40 := bb
  have la := bulkL_len oa
  have la2 := bulkL_len fa
  have lb := bulkL_len ob
  have lb2 := bulkL_len fb
  by_cases hn : oa.length + fa.length + (ob.length + fb.length) ≤ 64
  · rw [j1 hn, hbs] at h4
    have h4 : AC EN5 Tryz.prog 23 [.c (.string (bs s ++ { data := #[10] } ++ bs t))] (.tup [.agg [.sl 57 (oa ++ ob), .sl 116 (fa ++ fb)], .c (.int .i64 0), .c (.int .i64 0)]) := h4
    have h5 := alike_ac (oa ++ ob) (fa ++ fb) (by rw [bulkL_app]; omega) (by rw [bulkL_app]; omega)
    have f2 : decide ((oa.length : Int) + (fa.length : Int) + (ob.length : Int) + (fb.length : Int) > 64) = false := decide_eq_false (by omega)
    refine ac_enter 98 Tryz.func12 rfl rfl rfl rfl ?_
    intro σ w he
    repeat' (first
 | (apply aw_drawA ([(2,[5]),(5,[8]),(9,[5]),(12,[8])]) ([(0,[73]),(3,[73]),(6,[73]),(7,[80]),(10,[80]),(13,[80]),(15,[14]),(16,[14])]) ([(0,73),(7,80),(15,14)]) rfl (by kernel_rfl) (by kernel_rfl) (by kernel_rfl) (by intro p hp; simp only [List.mem_cons, List.not_mem_nil, or_false] at hp; rcases hp with rfl | rfl | rfl <;> (repeat' (first | exact fresh_S rfl | refine fresh_put ?_ rfl | refine fresh_res ?_ rfl rfl))))
 | apply h_nil
 | (apply h_valW ((.agg [.sl 57 (oa ++ ob), .sl 116 (fa ++ fb)])) rfl rfl
    · conv => lhs; whnf; arg 2; whnf
    · repeat' (first | exact VLe.refl _ | exact VLe.nil _ | exact VLe.lit _ _ | exact VLe.own _ _ _ | apply VLe.agg | apply VLeL.cons | exact VLeL.nil)
    · kernel_rfl)
 | (apply h_alloc rfl rfl rfl rfl
    · conv => lhs; whnf; arg 1; whnf
    · rfl
    · rfl
    · kernel_rfl)
 | (apply h_val rfl
    · conv => lhs; whnf
    · conv => lhs; whnf; arg 2; whnf
    · kernel_rfl)
 | (apply h_lit0 rfl rfl rfl rfl
    · first | (conv => lhs; whnf; arg 1; whnf)
    · rfl
    · kernel_rfl)
 | (apply h_app rfl rfl
    · conv => lhs; whnf
    · first | (conv => lhs; whnf; arg 1; whnf)
    · first | exact fun _ => rfl | (intro _; kernel_rfl)
    · conv => lhs; whnf
    · rfl
    · first | rfl | (conv => lhs; whnf; arg 1; whnf)
    · conv => lhs; whnf
    · kernel_rfl)
 | (apply h_store rfl rfl rfl
    · conv => lhs; whnf
    · rfl
    · conv => lhs; whnf; arg 1; whnf
    · conv => lhs; whnf; arg 1; whnf
    · exact ⟨by kernel_rfl, by kernel_rfl⟩
    · rfl
    · kernel_rfl)
 | (show inO _ _ = true; rfl)
 | apply aw_cutAt 10 (HJ oa fa ob fb (oa ++ ob) (fa ++ fb)) rfl
 | (apply aw_cond_kf
    · conv => lhs; whnf
    · assumption)
 | refine k_cut ?_
 | refine aw_seq ?_
 | refine aw_region ?_
 | refine awo_nil ?_
 | refine k_seq ?_
 | refine aw_skip ?_
 | (apply s_pick_f rfl rfl
    · conv => lhs; whnf
    · conv => lhs; whnf
    · first | exact bF1 (by assumption) | exact bF2 (by assumption))
 | (apply s_val rfl
    · conv => lhs; whnf
    · conv => lhs; whnf; arg 2; whnf)
 | (apply s_call rfl
    · conv => lhs; whnf
    · conv => lhs; whnf
    · first | exact h1 | exact h2 | exact h3 | exact h4 | exact h5)
 | (apply s_alloc rfl rfl rfl rfl
    · conv => lhs; whnf; arg 1; whnf
    · rfl)
 | (apply s_store rfl rfl rfl
    · conv => lhs; whnf
    · conv => lhs; whnf; arg 1; whnf
    · conv => lhs; whnf; arg 1; whnf
    · exact ⟨by kernel_rfl, by kernel_rfl⟩
    · rfl)
 | (apply s_wanted_val rfl
    · conv => lhs; whnf
    · conv => lhs; whnf
    · first | rfl | assumption
    · conv => lhs; whnf; arg 2; whnf)
 | (apply s_wanted_call rfl
    · conv => lhs; whnf
    · conv => lhs; whnf
    · first | rfl | assumption
    · conv => lhs; whnf
    · first | exact h1 | exact h2 | exact h3 | exact h4 | exact h5)
 | (apply aw_cond_f
    · conv => lhs; whnf; arg 1; arg 1; whnf)
 | refine aw_ret ?_
 | refine k_end_ret ?_
 | (refine ⟨_, by conv => lhs; whnf; arg 2; whnf, ?_⟩; conv => rhs; whnf)
 | exact trivial)
    all_goals first
      | exact Sub.live ⟨rfl, rfl, rfl, rfl, trivial⟩ ⟨rfl, rfl, rfl, trivial⟩
      | exact i64_ok (by omega)
      | exact (show Tryz.prog.underlying 9 = some TypeDesc.string by kernel_rfl)
      | (simp only [ByteArray.size_append, hz, hz2, lit_size, List.size_toArray, List.length_cons, List.length_nil, maxLen]; omega)
      | exact app2_ok (by simp only [List.length_append, List.length_nil]; omega) (of_dec (by kernel_rfl))
      | exact (show V.c (.bool true) = V.c (.bool (bif true then true else false)) from rfl)
      | rfl
      | skip
  · obtain ⟨i, j3⟩ := j2 (by omega)
    rw [j3, hbs] at h4
    have h4 : AC EN5 Tryz.prog 23 [.c (.string (bs s ++ { data := #[10] } ++ bs t))] (.tup [.agg zQ, .c (.int .i64 (i : Int)), .c (.int .i64 4)]) := h4
    have f2 : decide ((oa.length : Int) + (fa.length : Int) + (ob.length : Int) + (fb.length : Int) > 64) = true := decide_eq_true (by omega)
    refine ac_enter 98 Tryz.func12 rfl rfl rfl rfl ?_
    intro σ w he
    repeat' (first
 | (apply aw_cond_kt
    · conv => lhs; whnf
    · assumption)
 | (apply aw_cond_kf
    · conv => lhs; whnf
    · assumption)
 | refine aw_seq ?_
 | refine aw_region ?_
 | refine awo_nil ?_
 | refine k_seq ?_
 | refine aw_skip ?_
 | (apply s_pick_f rfl rfl
    · conv => lhs; whnf
    · conv => lhs; whnf
    · first | exact bF1 (by assumption) | exact bF2 (by assumption))
 | (apply s_val rfl
    · conv => lhs; whnf
    · conv => lhs; whnf; arg 2; whnf)
 | (apply s_call rfl
    · conv => lhs; whnf
    · conv => lhs; whnf
    · first | exact h1 | exact h2 | exact h3 | exact h4)
 | (apply s_alloc rfl rfl rfl rfl
    · conv => lhs; whnf; arg 1; whnf
    · rfl)
 | (apply s_store rfl rfl rfl
    · conv => lhs; whnf
    · conv => lhs; whnf; arg 1; whnf
    · conv => lhs; whnf; arg 1; whnf
    · exact ⟨by kernel_rfl, by kernel_rfl⟩
    · rfl)
 | (apply s_wanted_val rfl
    · conv => lhs; whnf
    · conv => lhs; whnf
    · first | rfl | assumption
    · conv => lhs; whnf; arg 2; whnf)
 | (apply s_wanted_call rfl
    · conv => lhs; whnf
    · conv => lhs; whnf
    · first | rfl | assumption
    · conv => lhs; whnf
    · first | exact h1 | exact h2 | exact h3 | exact h4)
 | (apply aw_cond_f
    · conv => lhs; whnf; arg 1; arg 1; whnf)
 | refine aw_ret ?_
 | refine k_seq_ret ?_
 | refine k_end_ret ?_
 | (refine ⟨_, by conv => lhs; whnf; arg 2; whnf, ?_⟩; conv => rhs; whnf)
 | exact trivial)
    all_goals first
      | exact i64_ok (by omega)
      | exact (show Tryz.prog.underlying 9 = some TypeDesc.string by kernel_rfl)
      | (simp only [ByteArray.size_append, hz, hz2, lit_size, List.size_toArray, List.length_cons, List.length_nil, maxLen]; omega)
      | rfl
      | skip
end
end Go.Proofs.YthjiclhfhjdjpaaGreatDoor
namespace Go.Proofs.YthjiclhfhjdjpaaGreatDoor
open Go.RowKit
attribute [local irreducible] wpList Calls Code.wp
theorem relL2 {P : Program} {s : Sg} {w : World} {v v2 : V} {u u2 : Value} (h : rel P s w v u) (h2 : rel P s w v2 u2) : relL P s w [v, v2] (#[u, u2] : Array Value).toList := by
  show relL P s w [v, v2] [u, u2]
  rw [relL, relL]; exact ⟨h, h2, by simp [relL]⟩
end Go.Proofs.YthjiclhfhjdjpaaGreatDoor
namespace Go.Proofs.YthjiclhfhjdjpaaGreatDoor
open Go.RowKit
attribute [local irreducible] wpList Calls Code.wp
theorem joins_ac (s t : List UInt8) : AC EN5 Tryz.prog 12 [.c (.string (bs s)), .c (.string (bs t))] (.c (.bool true)) := by
  by_cases hs : 4000 < s.length
  · exact joinsBig s t (.inl hs)
  by_cases ht : 4000 < t.length
  · exact joinsBig s t (.inr ht)
  have hs : s.length ≤ 4000 := by omega
  have ht : t.length ≤ 4000 := by omega
  cases ha : parseT s with
  | error x => exact joinsBad s t hs ht (.inl (by rw [ha]; exact (parse_err (i := x.1) ha).1))
  | ok q =>
    cases hb : parseT t with
    | error x => exact joinsBad s t hs ht (.inr (by rw [hb]; exact (parse_err (i := x.1) hb).1))
    | ok p =>
      have e1 := parse_que ha
      have e2 := parse_que hb
      rw [e1] at ha
      rw [e2] at hb
      exact joinsOk s t hs ht ha hb
theorem rowJoins {W : World} (s t : ByteArray) (hs : s.size ≤ 140737488351232) (ht : t.size ≤ 140737488351232) (he : Env W) : Calls Tryz.prog 12 #[.string s, .string t] W fun e W' => e = .returned (.bool true) ∧ Below W.heap.size W W' := by
  have h := joins_ac (tx s) (tx t)
  rw [bs_tx, bs_tx] at h
  exact calls_of_ac5 h (relL2 (rel_str (by unfold maxLen; omega)) (rel_str (by unfold maxLen; omega))) he
end Go.Proofs.YthjiclhfhjdjpaaGreatDoor
namespace Go.Proofs.YthjiclhfhjdjpaaGreatDoor
open Go.ChangeShapes Go.WideShapes Go.ChangeAt Go.RowKit
attribute [local irreducible] wpList Calls Code.wp
set_option maxRecDepth 100000 in
theorem contractQueryJoins (H : Type) (enc : TypeId × Value → H) (W : World) (base : Nat) (args : Array Value) (ds gs : List (DataW H)) (before : List MemPlace)
    (hval : ∀ (j : Nat) t v, Tryz.f12.params[j]? = some t → args[j]? = some v → Value.okWide Tryz.prog W .any base t v)
    (hW : DataW.Whole enc Tryz.prog Tryz.f12.params.toList Rows.queryJoinsSpec.vars false W args.toList ds gs before) (hL : laidMetH Tryz.prog Rows.queryJoinsRow.laid W)
    (hR : (DataW.weightsEach Tryz.prog (Tryz.f12.params.toList ++ (OpenSpec.ofChange Rows.queryJoinsSpec).bare.plain.varTypes Tryz.prog) (ds ++ gs)).all (· ≤ reachBytes) = true) :
    Calls Tryz.prog 12 args W fun e W' => ∃ v, e = .returned v ∧ Rows.queryJoinsSpec.post enc Tryz.prog Tryz.f12 false true false false W args v W' := by
  have hW' := hW
  obtain ⟨p, q, hA0, hV, rfl, hfz, hnd⟩ := hW
  have hA : DataW.TrodAll enc Tryz.prog W 0 (fun _ => true) true Tryz.f12.params.toList args.toList ds p := hA0
  rw [Tryz.params12] at hA hval hR
  obtain ⟨v0, vs0, d0, ds0, p0, q0, hargs, rfl, rfl, h0, r0⟩ := trodAll_cons hA
  obtain ⟨v1, vs1, d1, ds1, p1, q1, e1, rfl, rfl, h1, r1⟩ := trodAll_cons r0
  subst e1
  obtain ⟨rfl, rfl, rfl⟩ := trodAll_nil r1
  obtain rfl : args = #[v0, v1] := by cases args; simp_all
  have hv0 := hval 0 9 v0 rfl rfl
  obtain ⟨s0, rfl, rfl, _, hm0⟩ := Go.ChangeMaps.open_string (r := .any) (b0 := base) (t := 9) (w := W) Tryz.underlying9 hv0 h0
  have hv1 := hval 1 9 v1 rfl rfl
  obtain ⟨s1, rfl, rfl, _, hm1⟩ := Go.ChangeMaps.open_string (r := .any) (b0 := base) (t := 9) (w := W) Tryz.underlying9 hv1 h1
  have hs0 : s0.size ≤ 140737488351232 := reach_size hR (weight_head)
  have hs1 : s1.size ≤ 140737488351232 := reach_size hR (weight_tail (weight_head))
  refine (rowJoins s0 s1 hs0 hs1 (env_of_laid hL)).mono fun e W' ⟨he, hbel⟩ => ?_
  subst he
  exact ⟨_, rfl, post_true laidOut' (types_ok _ (by kernel_rfl)) Tryz.underlying4 rfl rfl hW' hbel (fun gs h => by subst h; rfl)⟩
theorem laid_metQueryJoins (os : Os) : laidMet Tryz.prog Rows.queryJoinsRow.laid ((laidWorld os).forCall (fun _ _ => 0) ⟨#[], #[.string ⟨#[]⟩, .string ⟨#[]⟩], []⟩).memory :=
  laidMet_of_run' 8 (by kernel_rfl) (by kernel_rfl)
theorem readsQueryJoins (os : Os) {H : Type} (enc : TypeId × Value → H) : ∃ places, DataW.whole enc Tryz.prog ((laidWorld os).forCall (fun _ _ => 0) ⟨#[], #[.string ⟨#[]⟩, .string ⟨#[]⟩], []⟩).memory Tryz.f12.params.toList Rows.queryJoinsSpec.vars false (#[.string ⟨#[]⟩, .string ⟨#[]⟩] : Array Value).toList 8 = some ([.lit (.string []), .lit (.string [])], [], places) :=
  ⟨[], by kernel_rfl⟩
set_option maxRecDepth 100000 in
theorem liftedQueryJoins (os : Os) (started : os.Started) (H : Type) (enc : TypeId × Value → H) (F : Stop.Interp) :
    ReturnsInHanded {} Tryz.checked os 12 .any ((OpenSpec.ofChange Rows.queryJoinsSpec).preRow enc Tryz.prog Tryz.f12 Rows.queryJoinsRow.domain false Rows.queryJoinsRow.laid) (((OpenSpec.ofChange Rows.queryJoinsSpec).at F).post enc Tryz.prog Tryz.f12 false true false false) := by
  obtain ⟨places, hx⟩ := readsQueryJoins os enc
  refine returnsInHanded_of_row (C := Tryz.checked) (s := OpenSpec.ofChange Rows.queryJoinsSpec) own started (by kernel_rfl) Tryz.func12
    (witness_row_at (enc := enc) (C := Tryz.checked) false (laidWorld os) #[.string ⟨#[]⟩, .string ⟨#[]⟩] rfl (by kernel_rfl) (by kernel_rfl) (by kernel_rfl)
      (OpenSpec.preRow_of_cond 8 hx (by kernel_rfl) (fun k hk => by cases hk) (by kernel_rfl) (laid_metQueryJoins os))) ?_
  intro W base args ds gs before hval hW _ _ hR hL _ _
  exact contractQueryJoins H enc W base args ds gs before hval hW hL hR
theorem and_tQueryJoins {a b : Bool} (h1 : a = true) (h2 : b = true) : (a && b) = true := by rw [h1, h2]; rfl
set_option maxRecDepth 100000 in
set_option maxHeartbeats 20000000 in
theorem joinedQueryJoins : joinedFacts Tryz.prog 12 Tryz.f12 (OpenSpec.ofChange Rows.queryJoinsSpec).bare Rows.queryJoinsRow = true := by
  unfold joinedFacts
  repeat' (with_reducible apply and_tQueryJoins)
  all_goals as_aux_lemma => kernel_rfl
theorem saidQueryJoins : Rows.QueryJoinsSaid :=
  OpenClaim.holds_of_cond 12 Tryz.f12 rfl rfl rfl rfl rfl rfl rfl ⟨rfl, rfl, rfl, rfl, rfl⟩ rfl rfl rfl rfl rfl (by kernel_rfl) Tryz.func12 joinedQueryJoins
    (of_decide_eq_true (by kernel_rfl)) (by unfold Func.isWrapper; first | (rw [if_pos (by decide +kernel)]; kernel_rfl) | (rw [if_neg (by decide +kernel)]; exact ⟨rfl, rfl⟩))
    (fun os started H enc _ F => by rw [OpenClaim.pre_eq_preRow]; exact liftedQueryJoins os started H enc F)
theorem plainQueryJoins (f : FuncId) (fn : Func) (hf : Tryz.pinned.checked.prog.funcNamed "supergraph/supergraphlaw08.QueryJoins" = some f) (hfn : Tryz.pinned.checked.prog.funcs[f]? = some fn) :
    true = Tryz.pinned.checked.prog.looks [] ∧ ∀ (j : Nat) t, fn.params[j]? = some t → Tryz.pinned.checked.prog.wantsStandIn t = false := by
  obtain rfl : f = 12 := Option.some.inj ((show Tryz.prog.funcNamed "supergraph/supergraphlaw08.QueryJoins" = some 12 by kernel_rfl).symm.trans hf) |>.symm
  obtain rfl : fn = Tryz.f12 := (Option.some.inj (Tryz.func12.symm.trans hfn)).symm
  refine ⟨by kernel_rfl, fun j t ht => ?_⟩
  rw [Tryz.params12] at ht
  have hm := Array.mem_of_getElem? ht
  simp only [List.mem_toArray, List.mem_cons, List.not_mem_nil, or_false] at hm
  rcases hm with rfl | rfl
  · exact (show Tryz.prog.wantsStandIn 9 = false by kernel_rfl)
  · exact (show Tryz.prog.wantsStandIn 9 = false by kernel_rfl)
end Go.Proofs.YthjiclhfhjdjpaaGreatDoor
