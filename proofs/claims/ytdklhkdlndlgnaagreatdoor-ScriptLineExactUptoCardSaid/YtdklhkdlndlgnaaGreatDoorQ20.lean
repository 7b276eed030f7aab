/- Parts of a proof, merged by a program (shake.py). -/
import Derived.Still
import Derived.Test.YtdklhkdlndlgnaaGreatDoorQ19
set_option linter.unusedVariables false
set_option linter.unusedSimpArgs false
namespace Go.Proofs.YtdklhkdlndlgnaaGreatDoor
open Go.RowKit
attribute [local irreducible] wpList Calls Code.wp
variable {X : Cx} {nn : Nat} {st : Vst nn} {ops : Array Oper} {o : Oper}
def updL (rs : Nat → Option Res) : List (Nat × Res) → Nat → Option Res
  | [], m => rs m
  | (k, ρ) :: u, m => if m = k then some ρ else updL rs u m
def stp (st : Vst nn) (d : Option Tmp) (v : V) (u : List (Nat × Res)) : Vst nn := { st with rs := updL st.rs u }.put d v
/-- the box that is loaded from -/
def loads (ea : Operand → V) : Op → Option Nat
  | .load _ x => match ea x with | .bx n _ => some n | _ => none
  | _ => none
def apartB (ws : List Nat) : Option Nat → Bool
  | none => true
  | some n => !ws.contains n
theorem Inv.drew {s : Sg} {w : World} {a : Act} (hI : Inv X st s w a) : Inv X st s { w with drawn := w.drawn + 1 } a :=
  hI.go (w' := w.drew) (ext_drew s w) hI.mem.drew ⟨rfl, rfl, rfl, Nat.le_refl _, fun _ _ _ => rfl⟩ (fun _ _ _ _ h => h)
/-- append onto a literal: what comes is no longer under way -/
theorem opOk_append_lit {K : Vst nn → Prop} {t e : TypeId} {by_ : Nat} {x y : Operand} {l l2 : List D} (ho : o.op = .call { callee := .builtin .append, args := #[x, y], argTypes := #[t, t] }) (he : elemOk X.P t = some (e, by_))
    (hleaf : ∀ d, (cellsV X.P 12 e d).all V.leaf = true) (hx : ev st x = .lit e l) (hy : (ev st y).out = .sl e l2) (hlen : l.length + l2.length ≤ maxLen) (hby : (l.length + l2.length) * by_ ≤ 140737488355328)
    (hK : K (st.put o.dst (.sl e (l ++ l2)))) : OpOk X o st K := by
  intro s w a hI N Q hP hN
  obtain ⟨hu, hlay, i, z, hi, hz, hb, hsp, hzs, hsz⟩ := elemOk_ok he
  have hxe := hI.ev x
  rw [hx, rel] at hxe
  obtain ⟨hv, A, hA⟩ := hxe
  have hcp : 0 < X.P.cellsOf e := by omega
  unfold Oper.wp
  rcases Nat.eq_zero_or_pos l2.length with h0 | hpos
  · have hl0 : l2 = [] := List.eq_nil_of_length_eq_zero h0
    subst hl0
    have hye := rel.out _ _ (hI.ev y)
    rw [hy, rel] at hye
    obtain ⟨k, A2, c2, hy2, -, -, -, -⟩ := hye
    have hrun : (Builtin.append_ #[t, t] o.type #[a.eval x, a.eval y]).run X.P w = .ok (a.eval x) w := by
      rw [hA, hy2]
      have hsz : (sizeOf e).run X.P w = .ok (X.P.cellsOf e) w := by simp [sizeOf, typeInfo, hi, hsz]
      have hld : ∀ q, (loadCells q 0).run X.P w = .ok #[] w := fun q => by simp [loadCells, loadCellsFrom]
      cases A <;> cases A2 <;> simp [Builtin.append_, run_underlying hu, hsz, Builtin.lenOf, Builtin.firstCells, storeCells, hld]
    rw [run_append ho hrun, Oper.upon_value]
    refine hN _ _ _ _ (hI.put o.dst ?_) hK
    rw [List.append_nil, rel]
    exact hv
  · obtain ⟨ad, c, news, q1, q2, q3, q4, q5⟩ := news_of hy (hI.ev y) hpos hcp hlay hleaf
    obtain ⟨xs, x1, x2, x3⟩ : ∃ xs : List Value, xs.length = l.length * X.P.cellsOf e ∧ (0 < l.length → ∃ b off, A = some ⟨b, off, none⟩ ∧ ∀ j x, xs[j]? = some x → w.cell? ⟨b, off + j, none⟩ = some x) ∧ ∃ k, ∀ i, i < l.length → RepF X.P w s.F k e ((xs.drop (i * X.P.cellsOf e)).take (X.P.cellsOf e)) (gD l i) := by
      rcases Nat.eq_zero_or_pos l.length with h0 | h0
      · exact ⟨[], by simp [h0], fun h => by omega, 0, fun i hi => by omega⟩
      · obtain ⟨b, off, c', hb', _, xs, x1, x2, x3⟩ := slice_cells hv hcp h0
        rw [hA] at hb'
        simp only [Value.slice.injEq, true_and] at hb'
        exact ⟨xs, x1, fun _ => ⟨b, off, hb'.1, fun j x hj => (x2 j x hj).1⟩, x3⟩
    obtain ⟨cap, cs, hge, hgm, hcs, hjoin, hrun⟩ : ∃ (cap : Nat) (cs : Array Value), l.length + l2.length ≤ cap ∧ cap ≤ maxLen ∧ cs.size = cap * X.P.cellsOf e ∧ (∀ j u, (xs ++ news)[j]? = some u → cs[j]? = some u) ∧
        (Builtin.append_ #[t, t] o.type #[a.eval x, a.eval y]).run X.P w = .ok (.slice (some ⟨w.heap.size, 0, none⟩) (l.length + l2.length) cap) (w.drew.alloc (.cells cs e)) := by
      have hjo : ∀ (zs : Array Value) (j : Nat) (u : Value), (xs ++ news)[j]? = some u → (xs.toArray ++ news.toArray ++ zs)[j]? = some u := fun zs j u hj => by
        have hjl := (List.getElem?_eq_some_iff.1 hj).1
        rw [Array.getElem?_append_left (by simpa using hjl)]
        simpa using hj
      cases A with
      | none =>
        have h0 : l.length = 0 := by
          rcases Nat.eq_zero_or_pos l.length with h | h
          · exact h
          · obtain ⟨b, off, h1, _⟩ := x2 h; cases h1
        have hl0 : l = [] := List.eq_nil_of_length_eq_zero h0
        subst hl0
        have hx0 : xs = [] := List.eq_nil_of_length_eq_zero (by simpa using x1)
        subst hx0
        simp only [List.length_nil, Nat.zero_add] at hlen hby
        have hr := run_append_nil (P := X.P) w t o.type e i z hu hi hz ad l2.length c news (by rw [q2, hsz]) q3 hpos (by simp only [maxLen] at hlen; omega) (by rw [hb]; omega)
        refine ⟨_, _, by simpa using grownCap_ge w l2.length 0 e, grownCap_le_maxLen w l2.length 0 e hlen, ?_, ?_, by rw [hA, q1]; simpa using hr⟩
        · have := grownCap_ge w l2.length 0 e
          simp only [Array.size_append, List.size_toArray, size_zeroCells, hzs, q2, hsz, ← Nat.add_mul]
          congr 1; omega
        · intro j u hj
          have := hjo (Builtin.zeroCells z.cells (grownCap w l2.length 0 e - l2.length)) j u hj
          simpa using this
      | some ab =>
        have hr := run_append_grow (P := X.P) w t o.type e i z hu hi hz ab l.length l.length xs (by rw [x1, hsz]) (fun j v hj => by
            have hjl := (List.getElem?_eq_some_iff.1 hj).1
            have : 0 < l.length := by
              rcases Nat.eq_zero_or_pos l.length with h | h
              · rw [x1, h] at hjl; omega
              · exact h
            obtain ⟨b, off, h1, h2⟩ := x2 this
            cases h1
            rw [Addr.add_none]; exact h2 j v hj) ad l2.length c news (by rw [q2, hsz]) q3 (by omega) (by simp only [maxLen] at hlen; omega) (growslice_fits (by omega) (by rw [hb]; exact hby))
        refine ⟨_, _, grownCap_ge w (l.length + l2.length) l.length e, grownCap_le_maxLen w (l.length + l2.length) l.length e hlen, ?_, hjo _, by rw [hA, q1]; exact hr⟩
        have := grownCap_ge w (l.length + l2.length) l.length e
        simp only [Array.size_append, List.size_toArray, size_zeroCells, hzs, x1, q2, hsz, ← Nat.add_mul]
        congr 1; omega
    rw [run_append ho hrun, Oper.upon_value]
    have hID := hI.drew
    have hx := ext_ice hID.mem cs e
    have hI2 := hID.go hx (hID.mem.ice cs e) (frm_alloc w.drew _ _) (fun b o hb _ hF => by
      rcases hF with hF | ⟨rfl, _⟩
      · exact hF
      · have := hI.base; simp at hb ⊢; omega)
    refine hN _ _ _ _ (hI2.put o.dst ?_) hK
    rw [rel]
    refine join_sl (g := w.heap.size) (c := cap) (w := w) (F := s.F) ?_ hcp x1 q2 x3 q5 (fun j u hj => ?_) hge hgm
    · exact fun b o hF => ⟨(hx.keeps b o hF).1, (hx.keeps b o hF).2⟩
    · have h1 := hjoin j u hj
      have h2 := (Array.getElem?_eq_some_iff.1 h1).1
      exact ⟨cell_new (w := w.drew) h1, .inr ⟨rfl, h2⟩⟩
/-- a pick by a condition of which more is known than its value -/
theorem opOk_pick {K : Vst nn → Prop} {c x y : Operand} {b : Bool} (ho : o.op = .pick c x y) (hc : ev st c = .c (.bool b)) (hK : K (st.put o.dst (bif b then ev st x else ev st y))) : OpOk X o st K := by
  intro s w a hI N Q hP hN
  have h1 := hI.ev c
  rw [hc, rel] at h1
  unfold Oper.wp
  have hrun : (execOp a.eval o).run X.P w = .ok (.value (if b then a.eval x else a.eval y)) w := by
    simp only [execOp, ho]
    rw [h1.1]
    simp [asBool]
  rw [hrun, Oper.upon_value]
  refine hN _ _ _ _ (hI.put o.dst ?_) hK
  cases b
  · exact hI.ev y
  · exact hI.ev x
def isBld : Res → Bool
  | .bld _ _ _ => true
  | _ => false
theorem ren_bld {φ : Nat → Option Nat} {ρ : Res} (h : isBld ρ = true) : renR φ ρ = ρ := by cases ρ <;> first | rfl | cases h
/-- a call that reads builders -/
theorem opOk_callS {K : Vst nn → Prop} {f : FuncId} {vargs args : List V} {bs : List Res} {r : V} (ns : List Nat) (h : act1 X.P st.rs (ev st) o.op = .call f vargs) (hc : ACB X.e X.P f args bs r bs) (hnd : ns.Nodup) (ha : renL (φin ns) vargs = args)
    (hb : ns.map st.rs = bs.map some) (hp : bs.all isBld = true) (hK : K (st.put o.dst (renV (φout ns) r))) : OpOk X o st K := by
  have hall : ∀ ρ ∈ bs, isBld ρ = true := by simpa using hp
  have hget : ∀ (i q : Nat), ns[i]? = some q → bs[i]? = st.rs q := fun i q hq => by
    have h3 : (ns.map st.rs)[i]? = (bs.map some)[i]? := by rw [hb]
    rw [List.getElem?_map, List.getElem?_map, hq] at h3
    cases hbi : bs[i]? with
    | none => rw [hbi] at h3; simp at h3
    | some ρ => rw [hbi] at h3; simp at h3; exact h3.symm
  refine opOk_callB ns h hc hnd ha ?_ ?_
  · rw [← hb]
    refine List.map_congr_left fun q hq => ?_
    obtain ⟨i, hi⟩ := List.getElem?_of_mem hq
    cases hr : st.rs q with
    | none => rfl
    | some ρ =>
      have := (hget i q hi).trans hr
      rw [Option.map_some, ren_bld (hall ρ (List.mem_of_getElem? this))]
  · have e : bs.map (renR (φout ns)) = bs := by
      conv => rhs; rw [← List.map_id bs]
      exact List.map_congr_left fun ρ hρ => ren_bld (hall ρ hρ)
    have e2 : st.resN ns bs = st := by
      unfold Vst.resN
      have : updN st.rs ns bs = st.rs := by
        funext m
        unfold updN
        split
        · rename_i i hi; exact hget i m (idx_get hi)
        · rfl
      rw [this]
    rw [e, e2]; exact hK
theorem wrap_wf (k : IntKind) (n : Int) : k.min ≤ k.wrap n ∧ k.wrap n ≤ k.max := by
  cases k <;> simp [IntKind.wrap, IntKind.min, IntKind.max, IntKind.bits, IntKind.signed] <;> omega
/-- a sum of integers, whatever their size -/
theorem opOk_addW {K : Vst nn → Prop} {k : IntKind} {a b : Int} {t : TypeId} {x y : Operand} {q : TypeId} (ho : o.op = .binOp .add t x y q) (hx : ev st x = .c (.int k a)) (hy : ev st y = .c (.int k b)) (hK : K (st.put o.dst (.c (.int k (k.wrap (a + b)))))) : OpOk X o st K := by
  intro s w a' hI N Q hP hN
  have r1 := hI.ev x
  have r2 := hI.ev y
  rw [hx, rel] at r1
  rw [hy, rel] at r2
  have h1 : (execOp a'.eval o).run X.P w = .ok (.value (.int k (k.wrap (a + b)))) w := by
    simp [execOp, ho, eqGuard, binOp, Op.intArith, r1.1, r2.1]
  unfold Oper.wp
  rw [h1, Oper.upon_value]
  refine hN _ _ _ _ (hI.put o.dst ?_) hK
  rw [rel]
  exact ⟨rfl, wf_int.2 (wrap_wf k _)⟩
/-- what an operation yields: ws: the names that the region's one writer writes; wr: whether this is the writer -/
inductive Yld1 (X : Cx) (ws : List Nat) (wr : Bool) (o : Oper) (st : Vst nn) : V → List (Nat × Res) → Prop where
  | val {p : Prop} {v : V} (h : act1 X.P st.rs (ev st) o.op = .val p v) (hp : p) (hl : apartB ws (loads (ev st) o.op) = true) : Yld1 X ws wr o st v []
  | call {f : FuncId} {args : List V} {v : V} (h : act1 X.P st.rs (ev st) o.op = .call f args) (hc : AC X.e X.P f (outL args) v) : Yld1 X ws wr o st v []
  | lit {t e : TypeId} {b m : Nat} {parts : Array (Nat × Operand)} {ds : List D} (ho : o.op = .buildSlice t m parts) (he : elemOk X.P t = some (e, b)) (hn : m = ds.length) (hs : m * X.P.cellsOf e ≤ 2 ^ 24) (hp : partsD X.P e (ev st) parts.toList 0 ds) : Yld1 X ws wr o st (.lit e ds) []
  | pick {c x y : Operand} {b : Bool} (ho : o.op = .pick c x y) (hc : ev st c = .c (.bool b)) : Yld1 X ws wr o st (bif b then ev st x else ev st y) []
  | callS {f : FuncId} {vargs args : List V} {bs : List Res} {r : V} (ns : List Nat) (h : act1 X.P st.rs (ev st) o.op = .call f vargs) (hc : ACB X.e X.P f args bs r bs) (hnd : ns.Nodup) (ha : renL (φin ns) vargs = args) (hb : ns.map st.rs = bs.map some) (hp : bs.all isBld = true)
      (hl : ns.all (fun n => !ws.contains n) = true) : Yld1 X ws wr o st (renV (φout ns) r) []
  | addW {k : IntKind} {a b : Int} {t : TypeId} {x y : Operand} {q : TypeId} (ho : o.op = .binOp .add t x y q) (hx : ev st x = .c (.int k a)) (hy : ev st y = .c (.int k b)) : Yld1 X ws wr o st (.c (.int k (k.wrap (a + b)))) []
  | onlit {t e : TypeId} {b : Nat} {x y : Operand} {l l2 : List D} (ho : o.op = .call { callee := .builtin .append, args := #[x, y], argTypes := #[t, t] }) (he : elemOk X.P t = some (e, b)) (hleaf : ∀ d, (cellsV X.P 12 e d).all V.leaf = true)
      (hx : ev st x = .lit e l) (hy : (ev st y).out = .sl e l2) (hp : l.length + l2.length ≤ maxLen ∧ (l.length + l2.length) * b ≤ 140737488355328) : Yld1 X ws wr o st (.sl e (l ++ l2)) []
  | app {t e : TypeId} {b k : Nat} {x y : Operand} {l l2 : List D} (hw : wr = true) (hk : ws.contains k = true) (ho : o.op = .call { callee := .builtin .append, args := #[x, y], argTypes := #[t, t] }) (he : elemOk X.P t = some (e, b)) (hleaf : ∀ d, (cellsV X.P 12 e d).all V.leaf = true)
      (hx : ev st x = .own k e l) (hr : st.rs k = some (.tok e l.length)) (hy : (ev st y).out = .sl e l2) (hp : 0 < l2.length ∧ l.length + l2.length ≤ maxLen ∧ (l.length + l2.length) * b ≤ 140737488355328) :
      Yld1 X ws wr o st (.own k e (l ++ l2)) [(k, .tok e (l.length + l2.length))]
  | store {t t' : TypeId} {x y : Operand} {n off : Nat} {vs xs : List V} (hw : wr = true) (hk : ws.contains n = true) (ho : o.op = .store t x y) (hd : o.dst = none) (hx : ev st x = .bx n off) (hr : st.rs n = some (.box t' vs)) (hc : cellsOf (ev st y) = some xs)
      (hs : X.P.cellsOf t = xs.length ∧ (X.P.info? t).isSome) (hl : off + xs.length ≤ vs.length) : Yld1 X ws wr o st .any [(n, .box t' (splice vs off xs))]
theorem apartB_none {ws : List Nat} : apartB ws none = true := rfl
theorem all_nil {ns : List Nat} : ns.all (fun n => !([] : List Nat).contains n) = true := by simp
theorem apartB_nil {x : Option Nat} : apartB [] x = true := by cases x <;> rfl
def gw (ops : Array Oper) (o : Oper) (st : Vst nn) : Option Bool :=
  match o.guard with
  | none => some true
  | some (j, want) => (gval ops st j).map (· == want)
def Yld (X : Cx) (ops : Array Oper) (ws : List Nat) (wr : Bool) (o : Oper) (st : Vst nn) (v : V) (u : List (Nat × Res)) : Prop :=
  (gw ops o st = some true ∧ Yld1 X ws wr o st v u) ∨ (gw ops o st = some false ∧ v = .any ∧ u = [])
theorem updL_one (rs : Nat → Option Res) (k : Nat) (ρ : Res) : updL rs [(k, ρ)] = updR rs k ρ := by funext m; simp [updL, updR]
theorem opOk_yld {ws : List Nat} {wr : Bool} {K : Vst nn → Prop} {v : V} {u : List (Nat × Res)} (h : Yld1 X ws wr o st v u) (hK : K (stp st o.dst v u)) : OpOk X o st K := by
  cases h with
  | val h hp hl => exact opOk_val h hp hK
  | call h hc => exact opOk_call h hc hK
  | lit ho he hn hs hp => exact opOk_lit ho he hn hs hp hK
  | callS ns h hc hnd ha hb hp hl => exact opOk_callS ns h hc hnd ha hb hp hK
  | pick ho hc => exact opOk_pick ho hc hK
  | addW ho hx hy => exact opOk_addW ho hx hy hK
  | onlit ho he hleaf hx hy hp => exact opOk_append_lit ho he hleaf hx hy hp.1 hp.2 hK
  | app hw hk ho he hleaf hx hr hy hp =>
    unfold stp at hK; rw [updL_one] at hK
    exact opOk_append_own ho he hleaf hx hr hy hp.1 hp.2.1 hp.2.2 hK
  | store hw hk ho hd hx hr hc hs hl =>
    unfold stp at hK; rw [updL_one, hd] at hK
    exact opOk_store ho hd hx hr hc hs hl hK
theorem gw_ok {s : Sg} {w : World} {a : Act} {b : Bool} (h : gw ops o st = some b) (hI : Inv X st s w a) : Region.wanted o (yielded ops a.tmps) = b := by
  unfold gw at h
  unfold Region.wanted
  split at h
  · rename_i hg; rw [hg]; cases h; rfl
  · rename_i j want hg
    obtain ⟨b', hb', rfl⟩ := Option.map_eq_some_iff.1 h
    rw [hg]
    simp [gval_ok hb' hI]
theorem partsD_congr {P : Program} {e : TypeId} {ea ea' : Operand → V} : ∀ (ps : List (Nat × Operand)) (j : Nat) (ds : List D), (∀ p ∈ ps, ea p.2 = ea' p.2) → partsD P e ea ps j ds → partsD P e ea' ps j ds
  | [], _, [], _, h => h
  | [], _, _ :: _, _, h => h
  | (_, _) :: _, _, [], _, h => h
  | (i, x) :: ps, j, d :: ds, he, h => by
    obtain ⟨h1, h2, h3⟩ := h
    exact ⟨h1, by rw [← he (i, x) (by simp)]; exact h2, partsD_congr ps (j + 1) ds (fun p hp => he p (by simp [hp])) h3⟩
theorem call1_congr {P : Program} {ea ea' : Operand → V} (c : Call) (h : ∀ x ∈ c.operands, ea x = ea' x) : call1 P ea c = call1 P ea' c := by
  have hargs : c.args.toList.map ea = c.args.toList.map ea' := List.map_congr_left fun x hx => h x (by simp [Call.operands]; exact .inr (by simpa using hx))
  have hmem : ∀ x, x ∈ c.args.toList → ea x = ea' x := fun x hx => h x (by simp [Call.operands]; exact .inr (by simpa using hx))
  unfold call1
  cases hc : c.callee with
  | value f =>
    have hf : ea f = ea' f := h f (by simp [Call.operands, hc])
    cases f <;> simp only [hargs, hf]
  | invoke r m => rfl
  | builtin b =>
    cases b
    case len =>
      skip
      generalize c.args.toList = l at *
      match l with
      | [] => rfl
      | [x] =>
        have hx := hmem x (by simp)
        cases c.argTypes.toList with
        | nil => rfl
        | cons t ts => cases ts <;> simp [hx]
      | _ :: _ :: _ => rfl
    case min =>
      skip
      generalize c.args.toList = l at *
      match l with
      | [] => rfl
      | [x] => rfl
      | [x, y] => have hx := hmem x (by simp); have hy := hmem y (by simp); simp [hx, hy]
      | _ :: _ :: _ :: _ => rfl
    all_goals rfl
theorem act1_congr {P : Program} {rs : Nat → Option Res} {ea ea' : Operand → V} (op : Op) (h : ∀ x ∈ op.operands, ea x = ea' x) : act1 P rs ea op = act1 P rs ea' op := by
  cases op <;> simp only [Op.operands] at h <;> simp only [act1]
  case call c => exact call1_congr c h
  case slice t x lo hi mx => cases lo <;> cases hi <;> cases mx <;> simp_all [act1]
  case build t ps =>
    congr 1
    refine List.map_congr_left fun p hp => ?_
    rw [h p.2 (by simp; exact ⟨p.1, by simpa using hp⟩)]
  case makeFunc fn fs cs =>
    have e : cs.toList.map ea = cs.toList.map ea' := List.map_congr_left fun x hx => h x (by simp; exact .inr (by simpa using hx))
    rw [e]
  all_goals (first | rfl | (simp_all; done))
theorem updL_out {rs : Nat → Option Res} : ∀ {u : List (Nat × Res)} {n : Nat}, (∀ p ∈ u, p.1 ≠ n) → updL rs u n = rs n
  | [], _, _ => rfl
  | (k, ρ) :: u, n, h => by
    rw [updL, if_neg (fun e => h (k, ρ) (by simp) e.symm)]
    exact updL_out fun p hp => h p (by simp [hp])
theorem act1_rs {P : Program} {rs : Nat → Option Res} {ea : Operand → V} {ws : List Nat} {u : List (Nat × Res)} (hu : ∀ p ∈ u, ws.contains p.1 = true) (op : Op) (hl : apartB ws (loads ea op) = true) : act1 P (updL rs u) ea op = act1 P rs ea op := by
  cases op
  case load t x =>
    simp only [act1, load1]
    simp only [loads] at hl
    split
    · rfl
    · rename_i n o he
      rw [he] at hl
      simp only [apartB, Bool.not_eq_true'] at hl
      rw [updL_out fun p hp e => by have := hu p hp; rw [e, hl] at this; cases this]
    · rfl
  case slice t x lo hi mx => cases mx <;> rfl
  all_goals rfl
theorem ev_put {d : Option Tmp} {v : V} {x : Operand} (h : ∀ t, d = some t → x ≠ .tmp t) : ev (st.put d v) x = ev st x := by
  cases d with
  | none => rfl
  | some t =>
    cases x with
    | tmp i =>
      have hne : i ≠ t := fun e => h t rfl (by rw [e])
      show (if i < nn then (if i = t then v else st.tm i) else .any) = if i < nn then st.tm i else .any
      rw [if_neg hne]
    | _ => rfl
theorem ev_stp {d : Option Tmp} {v : V} {u : List (Nat × Res)} {x : Operand} (h : ∀ t, d = some t → x ≠ .tmp t) : ev (stp st d v u) x = ev st x := by
  unfold stp
  rw [ev_put h]
  cases x <;> rfl
theorem rs_put {d : Option Tmp} {v : V} : (st.put d v).rs = st.rs := by cases d <;> rfl
theorem stp_rs {d : Option Tmp} {v : V} {u : List (Nat × Res)} : (stp st d v u).rs = updL st.rs u := by unfold stp; rw [rs_put]
theorem loads_congr {ea ea' : Operand → V} (op : Op) (h : ∀ x ∈ op.operands, ea x = ea' x) : loads ea op = loads ea' op := by
  cases op <;> simp only [Op.operands] at h <;> simp only [loads]
  rename_i t x
  rw [h x (by simp)]
/-- a step that does not touch what o looks at, nor what it writes -/
theorem Yld.of {ws : List Nat} {wr : Bool} {d : Option Tmp} {v v' : V} {u u' : List (Nat × Res)} (hd : ∀ t, d = some t → t ∉ o.looksAt ops) (hu : u' = [] ∨ (wr = false ∧ ∀ p ∈ u', ws.contains p.1 = true)) :
    Yld X ops ws wr o (stp st d v' u') v u ↔ Yld X ops ws wr o st v u := by
  have hev : ∀ x ∈ o.op.operands, ev (stp st d v' u') x = ev st x := fun x hx => ev_stp fun t ht hxt => hd t ht (by
    subst hxt
    exact List.mem_append_left _ (List.mem_filterMap.2 ⟨.tmp t, by simpa using hx, rfl⟩))
  have hloads := loads_congr o.op hev
  have hact : apartB ws (loads (ev st) o.op) = true → act1 X.P (stp st d v' u').rs (ev (stp st d v' u')) o.op = act1 X.P st.rs (ev st) o.op := fun hl => by
    rw [act1_congr o.op hev, stp_rs]
    refine act1_rs (ws := ws) (fun p hp => ?_) _ hl
    rcases hu with rfl | ⟨_, h⟩
    · simp at hp
    · exact h p hp
  have hact2 : ∀ f args, act1 X.P (stp st d v' u').rs (ev (stp st d v' u')) o.op = .call f args ↔ act1 X.P st.rs (ev st) o.op = .call f args := fun f args => by
    rw [act1_congr o.op hev]
    cases ho : o.op
    case load t x =>
      have nob : ∀ rs, act1 X.P rs (ev st) (.load t x) ≠ .call f args := fun rs h => by
        simp only [act1, load1, ofPart] at h
        repeat' (split at h)
        all_goals cases h
      exact ⟨fun h => (nob _ h).elim, fun h => (nob _ h).elim⟩
    case slice t x lo hi mx => cases mx <;> rfl
    all_goals rfl
  have hgv : ∀ j want, o.guard = some (j, want) → gval ops (stp st d v' u') j = gval ops st j := fun j want hg => by
    unfold gval
    cases ht : (ops[j]?).bind (·.dst) with
    | none => rfl
    | some t =>
      have : ev (stp st d v' u') (.tmp t) = ev st (.tmp t) := ev_stp fun q hq hqt => by
        cases hqt
        exact hd t hq (by simp [Oper.looksAt, hg, ht])
      simp only [this]
  have hgw : gw ops o (stp st d v' u') = gw ops o st := by
    unfold gw
    cases hg : o.guard with
    | none => rfl
    | some jw => simp only [hgv jw.1 jw.2 hg]
  have hwr : wr = true → u' = [] := fun h => by
    rcases hu with h' | ⟨h', _⟩
    · exact h'
    · rw [h] at h'; cases h'
  have hrs : ∀ ns : List Nat, ns.all (fun n => !ws.contains n) = true → ns.map (stp st d v' u').rs = ns.map st.rs := fun ns hl => by
    refine List.map_congr_left fun q hq => ?_
    rw [stp_rs]
    have hq2 : (!ws.contains q) = true := (List.all_eq_true.1 hl) q hq
    rcases hu with rfl | ⟨_, h⟩
    · rfl
    · exact updL_out fun p hp e => by have := h p hp; rw [e] at this; rw [this] at hq2; cases hq2
  unfold Yld
  rw [hgw]
  refine or_congr (and_congr Iff.rfl ⟨fun h => ?_, fun h => ?_⟩) Iff.rfl
  · cases h with
    | val h hp hl => rw [hloads] at hl; exact .val (by rw [← hact hl]; exact h) hp hl
    | call h hc => exact .call ((hact2 _ _).1 h) hc
    | lit ho he hn hs hp => exact .lit ho he hn hs (partsD_congr _ _ _ (fun p hp => hev p.2 (by rw [ho]; simp [Op.operands]; exact ⟨p.1, by simpa using hp⟩)) hp)
    | callS ns h hc hnd ha hb hp hl => exact .callS ns ((hact2 _ _).1 h) hc hnd ha (by rw [← hrs ns hl]; exact hb) hp hl
    | pick ho hc =>
      rename_i c x y b
      rw [hev c (by rw [ho]; simp [Op.operands])] at hc
      rw [hev x (by rw [ho]; simp [Op.operands]), hev y (by rw [ho]; simp [Op.operands])]
      exact .pick ho hc
    | addW ho hx hy =>
      rw [hev _ (by rw [ho]; simp [Op.operands])] at hx
      rw [hev _ (by rw [ho]; simp [Op.operands])] at hy
      exact .addW ho hx hy
    | onlit ho he hleaf hx hy hp =>
      rw [hev _ (by rw [ho]; simp [Op.operands, Call.operands])] at hx
      rw [hev _ (by rw [ho]; simp [Op.operands, Call.operands])] at hy
      exact .onlit ho he hleaf hx hy hp
    | app hw hk ho he hleaf hx hr hy hp =>
      have hn := hwr hw
      subst hn
      rw [hev _ (by rw [ho]; simp [Op.operands, Call.operands])] at hx
      rw [hev _ (by rw [ho]; simp [Op.operands, Call.operands])] at hy
      rw [stp_rs] at hr
      exact .app hw hk ho he hleaf hx hr hy hp
    | store hw hk ho hd' hx hr hc hs hl =>
      have hn := hwr hw
      subst hn
      rw [hev _ (by rw [ho]; simp [Op.operands])] at hx
      rw [hev _ (by rw [ho]; simp [Op.operands])] at hc
      rw [stp_rs] at hr
      exact .store hw hk ho hd' hx hr hc hs hl
  · cases h with
    | val h hp hl => exact .val (by rw [hact hl]; exact h) hp (by rw [hloads]; exact hl)
    | call h hc => exact .call ((hact2 _ _).2 h) hc
    | lit ho he hn hs hp => exact .lit ho he hn hs (partsD_congr _ _ _ (fun p hp => (hev p.2 (by rw [ho]; simp [Op.operands]; exact ⟨p.1, by simpa using hp⟩)).symm) hp)
    | callS ns h hc hnd ha hb hp hl => exact .callS ns ((hact2 _ _).2 h) hc hnd ha (by rw [hrs ns hl]; exact hb) hp hl
    | pick ho hc =>
      rename_i c x y b
      rw [← hev c (by rw [ho]; simp [Op.operands])] at hc
      rw [← hev x (by rw [ho]; simp [Op.operands]), ← hev y (by rw [ho]; simp [Op.operands])]
      exact .pick ho hc
    | addW ho hx hy =>
      rw [← hev _ (by rw [ho]; simp [Op.operands])] at hx
      rw [← hev _ (by rw [ho]; simp [Op.operands])] at hy
      exact .addW ho hx hy
    | onlit ho he hleaf hx hy hp =>
      rw [← hev _ (by rw [ho]; simp [Op.operands, Call.operands])] at hx
      rw [← hev _ (by rw [ho]; simp [Op.operands, Call.operands])] at hy
      exact .onlit ho he hleaf hx hy hp
    | app hw hk ho he hleaf hx hr hy hp =>
      have hn := hwr hw
      subst hn
      rw [← hev _ (by rw [ho]; simp [Op.operands, Call.operands])] at hx
      rw [← hev _ (by rw [ho]; simp [Op.operands, Call.operands])] at hy
      exact .app hw hk ho he hleaf hx (by rw [stp_rs]; exact hr) hy hp
    | store hw hk ho hd' hx hr hc hs hl =>
      have hn := hwr hw
      subst hn
      rw [← hev _ (by rw [ho]; simp [Op.operands])] at hx
      rw [← hev _ (by rw [ho]; simp [Op.operands])] at hc
      exact .store hw hk ho hd' hx (by rw [stp_rs]; exact hr) hc hs hl
theorem put_comm {d d' : Option Tmp} {v v' : V} (h : ∀ t, d = some t → d' ≠ some t) : (st.put d v).put d' v' = (st.put d' v').put d v := by
  cases d with
  | none => rfl
  | some t =>
    cases d' with
    | none => rfl
    | some t' =>
      have hne : t ≠ t' := fun e => h t rfl (by rw [e])
      simp only [Vst.put]
      congr 1
      funext i
      by_cases h1 : i = t <;> by_cases h2 : i = t' <;> simp_all
theorem stp_comm {d d' : Option Tmp} {v v' : V} {u u' : List (Nat × Res)} (h : ∀ t, d = some t → d' ≠ some t) (hu : u = [] ∨ u' = []) : stp (stp st d v u) d' v' u' = stp (stp st d' v' u') d v u := by
  have hpr : ∀ (st : Vst nn) (d : Option Tmp) (v : V) (r : Nat → Option Res), ({ (st.put d v) with rs := r } : Vst nn) = ({ st with rs := r } : Vst nn).put d v := fun st d v r => by cases d <;> rfl
  unfold stp
  rw [hpr, hpr, rs_put, rs_put]
  rcases hu with rfl | rfl <;> exact put_comm h
theorem Yld.names {ws : List Nat} {wr : Bool} {v : V} {u : List (Nat × Res)} (h : Yld X ops ws wr o st v u) : (∀ p ∈ u, ws.contains p.1 = true) ∧ (wr = false → u = []) := by
  rcases h with ⟨_, h⟩ | ⟨_, _, rfl⟩
  · cases h with
    | app hw hk => exact ⟨fun p hp => by simp at hp; subst hp; exact hk, fun e => by rw [hw] at e; cases e⟩
    | store hw hk => exact ⟨fun p hp => by simp at hp; subst hp; exact hk, fun e => by rw [hw] at e; cases e⟩
    | _ => exact ⟨fun p hp => by simp at hp, fun _ => rfl⟩
  · exact ⟨fun p hp => by simp at hp, fun _ => rfl⟩
def aOp (X : Cx) (ops : Array Oper) (ws : List Nat) (wi i : Nat) (K : Vst nn → Prop) (st : Vst nn) : Prop :=
  match ops[i]? with
  | none => K st
  | some o => ∃ v u, Yld X ops ws (i == wi) o st v u ∧ K (stp st o.dst v u)
variable {ws : List Nat} {wi : Nat}
theorem aOp_mono {i : Nat} {K K' : Vst nn → Prop} (h : ∀ st, K st → K' st) (hh : aOp X ops ws wi i K st) : aOp X ops ws wi i K' st := by
  unfold aOp at *
  split
  · rename_i hn; simp only [hn] at hh; exact h _ hh
  · rename_i o ho
    simp only [ho] at hh
    obtain ⟨v, u, h1, h2⟩ := hh
    exact ⟨v, u, h1, h _ h2⟩
def absAny (X : Cx) (ops : Array Oper) (ws : List Nat) (wi : Nat) (Q : Vst nn → Prop) : Nat → Array Bool → Vst nn → Prop
  | 0, listed, st => Region.ready .any ops listed = [] ∧ Q st
  | fuel + 1, listed, st => (Region.ready .any ops listed = [] → Q st) ∧ ∀ i ∈ Region.ready .any ops listed, aOp X ops ws wi i (absAny X ops ws wi Q fuel (listed.setIfInBounds i true)) st
theorem aOp_put {i j : Nat} {oi oj : Oper} {v : V} {u : List (Nat × Res)} (hj : ops[j]? = some oj) (hap : oi.apart ops oj = true) (hij : i ≠ j) {K : Vst nn → Prop} (hy : Yld X ops ws (i == wi) oi st v u) (h : aOp X ops ws wi j K (stp st oi.dst v u)) :
    aOp X ops ws wi j (fun st' => Yld X ops ws (i == wi) oi st' v u ∧ K (stp st' oi.dst v u)) st := by
  obtain ⟨h1, h2, h3⟩ := Oper.apart_spec hap
  have hone : (i == wi) = false ∨ (j == wi) = false := by
    by_cases e : i = wi
    · exact .inr (by simp; omega)
    · exact .inl (by simpa using e)
  unfold aOp at *
  simp only [hj] at *
  obtain ⟨v', u', hy', hK⟩ := h
  have hu : u = [] ∨ ((j == wi) = false ∧ ∀ p ∈ u, ws.contains p.1 = true) := by
    rcases hone with e | e
    · exact .inl (hy.names.2 e)
    · exact .inr ⟨e, hy.names.1⟩
  have hyj : Yld X ops ws (j == wi) oj st v' u' := (Yld.of h1 hu).1 hy'
  have hu' : u' = [] ∨ ((i == wi) = false ∧ ∀ p ∈ u', ws.contains p.1 = true) := by
    rcases hone with e | e
    · exact .inr ⟨e, hyj.names.1⟩
    · exact .inl (hyj.names.2 e)
  have huu : u = [] ∨ u' = [] := by
    rcases hone with e | e
    · exact .inl (hy.names.2 e)
    · exact .inr (hyj.names.2 e)
  exact ⟨v', u', hyj, (Yld.of h3 hu').2 hy, by rw [← stp_comm h2 huu]; exact hK⟩
theorem absAny_first {Q : Vst nn → Prop} {i : Nat} {oi : Oper} {v : V} {u : List (Nat × Res)} (hi : ops[i]? = some oi) :
    ∀ (fuel : Nat) (listed : Array Bool) (st : Vst nn),
      (∀ j oj, ops[j]? = some oj → j ≠ i → listed.getD j true = false → (∀ e ∈ oj.after, Region.binds .any e = true → e.on ≠ i) → oi.apart ops oj = true) →
      i ∈ Region.ready .any ops listed → Yld X ops ws (i == wi) oi st v u →
      absAny X ops ws wi Q fuel (listed.setIfInBounds i true) (stp st oi.dst v u) → absAny X ops ws wi Q (fuel + 1) listed st := by
  intro fuel
  induction fuel with
  | zero =>
    intro listed st _ hr hy H
    refine ⟨fun h => (by rw [h] at hr; cases hr), fun j hj => ?_⟩
    by_cases hji : j = i
    · subst hji; unfold aOp; simp only [hi]; exact ⟨v, u, hy, H⟩
    · have := ready_mono hj hji
      rw [H.1] at this
      cases this
  | succ fuel ih =>
    intro listed st hfree hr hy H
    refine ⟨fun h => (by rw [h] at hr; cases hr), fun j hj => ?_⟩
    by_cases hji : j = i
    · subst hji; unfold aOp; simp only [hi]; exact ⟨v, u, hy, H⟩
    · have h1 := H.2 j (ready_mono hj hji)
      obtain ⟨hjun, oj, hoj, hall⟩ := mem_ready.1 hj
      have hnot : ∀ e ∈ oj.after, Region.binds .any e = true → e.on ≠ i := fun e he hb heq => by
        have h1 := hall e he hb
        have h0 := (mem_ready.1 hr).1
        rw [heq] at h1
        rcases Nat.lt_or_ge i listed.size with h' | h'
        · simp [h'] at h0 h1; rw [h0] at h1; cases h1
        · simp [Array.getElem?_eq_none h'] at h1
      have h2 := aOp_put (i := i) hoj (hfree j oj hoj hji hjun hnot) (Ne.symm hji) hy h1
      have hfree' : ∀ k ok, ops[k]? = some ok → k ≠ i → (listed.setIfInBounds j true).getD k true = false →
          (∀ e ∈ ok.after, Region.binds .any e = true → e.on ≠ i) → oi.apart ops ok = true := fun k ok hk hki hun hno => by
        refine hfree k ok hk hki ?_ hno
        by_cases hjk : j = k
        · subst hjk; exact hjun
        · rw [getD_set_ne true hjk] at hun; exact hun
      refine aOp_mono (fun st' h3 => ih (listed.setIfInBounds j true) st' hfree' (ready_mono hr (Ne.symm hji)) h3.1 ?_) h2
      rw [Array.setIfInBounds_comm _ _ hji]
      exact h3.2
/-- the walk of the text's order -/
def absLex (X : Cx) (ops : Array Oper) (ws : List Nat) (wi : Nat) (Q : Vst nn → Prop) : Nat → List Oper → Vst nn → Prop
  | _, [], st => Q st
  | k, o :: rest, st => ∃ v u, Yld X ops ws (k == wi) o st v u ∧ absLex X ops ws wi Q (k + 1) rest (stp st o.dst v u)
theorem absAny_lex {Q : Vst nn → Prop} : ∀ (l : List Oper) (k : Nat) (listed : Array Bool) (st : Vst nn), (∀ j, l[j]? = ops[k + j]?) →
    Region.lexFrom .any ops l.length k listed = true → absLex X ops ws wi Q k l st → absAny X ops ws wi Q l.length listed st
  | [], _, _, _, _, hB, h => ⟨by simpa [Region.lexFrom] using hB, h⟩
  | o :: l, k, listed, st, hl, hB, h => by
    have h0 : ops[k]? = some o := by simpa using (hl 0).symm
    simp only [List.length_cons, Region.lexFrom, Bool.and_eq_true] at hB
    obtain ⟨⟨hr, hf⟩, hB'⟩ := hB
    obtain ⟨v, u, hy, hK⟩ := h
    exact absAny_first h0 l.length listed st (Region.free_spec h0 hf) (by simpa using hr) hy
      (absAny_lex l (k + 1) _ _ (fun j => by have := hl (j + 1); simpa [Nat.add_assoc, Nat.add_comm 1 j] using this) hB' hK)
theorem wpAny_of_abs {Q : Vst nn → Prop} {Q' : Exit → Act → World → Prop} (hP : PQ X nn Q') (hQ : ∀ st' s' w' a', Inv X st' s' w' a' → Q st' → Q' .normal a' w') : ∀ (fuel : Nat) (listed : Array Bool) (st : Vst nn) (s : Sg) (w : World) (a : Act), Inv X st s w a →
    absAny X ops ws wi Q fuel listed st → wpAny X.P .any ops Q' fuel listed a w
  | 0, _, _, _, _, _, hI, h => ⟨h.1, hQ _ _ _ _ hI h.2⟩
  | fuel + 1, listed, st, s, w, a, hI, h => ⟨fun h0 => hQ _ _ _ _ hI (h.1 h0), fun i hi => by
    have h1 := h.2 i hi
    unfold aOp at h1
    unfold wpOp
    cases ho : ops[i]? with
    | none =>
      simp only [ho] at h1 ⊢
      exact wpAny_of_abs hP hQ fuel _ st s w a hI h1
    | some o =>
      simp only [ho] at h1 ⊢
      obtain ⟨v, u, hy, hK⟩ := h1
      rcases hy with ⟨hg, hy⟩ | ⟨hg, rfl, rfl⟩
      · rw [if_pos (gw_ok hg hI)]
        exact .inl (opOk_yld (K := absAny X ops ws wi Q fuel (listed.setIfInBounds i true)) hy hK s w a hI _ _ hP fun st' s' w' a' hI' hK' => wpAny_of_abs hP hQ fuel _ st' s' w' a' hI' hK')
      · rw [if_neg (by rw [gw_ok hg hI]; simp)]
        exact wpAny_of_abs hP hQ fuel _ _ s w (a.put o.dst undef) (hI.put o.dst (by simp [rel])) hK⟩
/-- a region that draws its order; wi: the index of its one writer, ws: the names that it writes -/
theorem aw_draw {id : Nat} {l : List Oper} {K : Exit → Vst nn → Prop} (hm : X.P.follows .mixedOrders = true) (hB : Region.lexB .any l.toArray = true) (h : absLex X l.toArray ws wi (K .normal) 0 l st) : AW X (.region id l.toArray true) st K := fun s w a hI => by
  simp only [Region.lexB, Bool.and_eq_true] at hB
  refine wp_region_any hm (wpAny_of_abs (ws := ws) (wi := wi) (Q := K .normal) (fun pv st' s' w' a' hI' hp => ⟨st', s', hI', .inr ⟨pv, rfl, hp⟩⟩) (fun st' s' w' a' hI' hK => ⟨st', s', hI', .inl hK⟩) _ _ st s _ a hI.drew ?_)
  have := absAny_lex (X := X) (ws := ws) (wi := wi) (Q := K .normal) l 0 (Array.replicate l.toArray.size false) st (by simp) (by simpa using hB.2) h
  simpa using this
section
variable {l : List Oper} {Q : Vst nn → Prop} {d : Option Tmp} {k : Nat}
theorem y_nil (h : Q st) : absLex X ops ws wi Q k [] st := h
theorem y_val {p : Prop} {v : V} (hg : o.guard = none) (hd : o.dst = d) (h : act1 X.P st.rs (ev st) o.op = .val p v) (hK : absLex X ops ws wi Q (k + 1) l (st.put d v)) (hp : p) (hl : apartB ws (loads (ev st) o.op) = true) : absLex X ops ws wi Q k (o :: l) st :=
  ⟨v, [], .inl ⟨by simp [gw, hg], .val h hp hl⟩, by rw [hd]; exact hK⟩
theorem y_call {f : FuncId} {args : List V} {r : V} (hg : o.guard = none) (hd : o.dst = d) (h : act1 X.P st.rs (ev st) o.op = .call f args) (hc : AC X.e X.P f (outL args) r) (hK : absLex X ops ws wi Q (k + 1) l (st.put d r)) : absLex X ops ws wi Q k (o :: l) st :=
  ⟨r, [], .inl ⟨by simp [gw, hg], .call h hc⟩, by rw [hd]; exact hK⟩
theorem y_lit {t e : TypeId} {by_ m : Nat} {parts : Array (Nat × Operand)} (ds : List D) (hg : o.guard = none) (ho : o.op = .buildSlice t m parts) (hd : o.dst = d) (he : elemOk X.P t = some (e, by_)) (hn : m = ds.length) (hsm : Nat.ble (m * X.P.cellsOf e) (2 ^ 24) = true)
    (hp : partsD X.P e (ev st) parts.toList 0 ds) (hK : absLex X ops ws wi Q (k + 1) l (st.put d (.lit e ds))) : absLex X ops ws wi Q k (o :: l) st :=
  ⟨_, [], .inl ⟨by simp [gw, hg], .lit ho he hn (Nat.le_of_ble_eq_true hsm) hp⟩, by rw [hd]; exact hK⟩
theorem y_onlit {t e : TypeId} {by_ : Nat} {x y : Operand} {l1 l2 : List D} (hg : o.guard = none) (ho : o.op = .call { callee := .builtin .append, args := #[x, y], argTypes := #[t, t] }) (hd : o.dst = d) (he : elemOk X.P t = some (e, by_))
    (hleaf : ∀ d, (cellsV X.P 12 e d).all V.leaf = true) (hx : ev st x = .lit e l1) (hy : (ev st y).out = .sl e l2) (hK : absLex X ops ws wi Q (k + 1) l (st.put d (.sl e (l1 ++ l2)))) (hp : l1.length + l2.length ≤ maxLen ∧ (l1.length + l2.length) * by_ ≤ 140737488355328) : absLex X ops ws wi Q k (o :: l) st :=
  ⟨_, [], .inl ⟨by simp [gw, hg], .onlit ho he hleaf hx hy hp⟩, by rw [hd]; exact hK⟩
theorem y_pick_t {c x y : Operand} {b : Bool} (hg : o.guard = none) (ho : o.op = .pick c x y) (hd : o.dst = d) (hc : ev st c = .c (.bool b)) (hb : b = true) (hK : absLex X ops ws wi Q (k + 1) l (st.put d (ev st x))) : absLex X ops ws wi Q k (o :: l) st :=
  ⟨_, [], .inl ⟨by simp [gw, hg], .pick ho hc⟩, by rw [hd, hb]; exact hK⟩
theorem y_pick_f {c x y : Operand} {b : Bool} (hg : o.guard = none) (ho : o.op = .pick c x y) (hd : o.dst = d) (hc : ev st c = .c (.bool b)) (hb : b = false) (hK : absLex X ops ws wi Q (k + 1) l (st.put d (ev st y))) : absLex X ops ws wi Q k (o :: l) st :=
  ⟨_, [], .inl ⟨by simp [gw, hg], .pick ho hc⟩, by rw [hd, hb]; exact hK⟩
theorem stp_one {v : V} {q : Nat} {ρ : Res} : stp st d v [(q, ρ)] = (st.res q ρ).put d v := by unfold stp; rw [updL_one]; rfl
theorem y_app {t e : TypeId} {by_ q : Nat} {x y : Operand} {l1 l2 : List D} (hg : o.guard = none) (ho : o.op = .call { callee := .builtin .append, args := #[x, y], argTypes := #[t, t] }) (hd : o.dst = d) (he : elemOk X.P t = some (e, by_))
    (hleaf : ∀ d, (cellsV X.P 12 e d).all V.leaf = true) (hx : ev st x = .own q e l1) (hw : wi = k) (hws : ws = [q]) (hr : st.rs q = some (.tok e l1.length)) (hy : (ev st y).out = .sl e l2) (hK : absLex X ops ws wi Q (k + 1) l ((st.res q (.tok e (l1.length + l2.length))).put d (.own q e (l1 ++ l2))))
    (hp : 0 < l2.length ∧ l1.length + l2.length ≤ maxLen ∧ (l1.length + l2.length) * by_ ≤ 140737488355328) : absLex X ops ws wi Q k (o :: l) st :=
  ⟨_, _, .inl ⟨by simp [gw, hg], .app (by simp [hw]) (by simp [hws]) ho he hleaf hx hr hy hp⟩, by rw [hd, stp_one]; exact hK⟩
theorem y_store {t : TypeId} {x y : Operand} {m off : Nat} {t' : TypeId} {vs xs : List V} (hg : o.guard = none) (ho : o.op = .store t x y) (hd : o.dst = none) (hx : ev st x = .bx m off) (hw : wi = k) (hws : ws = [m]) (hr : st.rs m = some (.box t' vs)) (hc : cellsOf (ev st y) = some xs)
    (hs : X.P.cellsOf t = xs.length ∧ (X.P.info? t).isSome) (hl : Nat.ble (off + xs.length) vs.length = true) (hK : absLex X ops ws wi Q (k + 1) l (st.res m (.box t' (splice vs off xs)))) : absLex X ops ws wi Q k (o :: l) st :=
  ⟨_, _, .inl ⟨by simp [gw, hg], .store (by simp [hw]) (by simp [hws]) ho hd hx hr hc hs (Nat.le_of_ble_eq_true hl)⟩, by rw [hd, stp_one]; exact hK⟩
theorem y_skip {j : Nat} {want b : Bool} (hg : o.guard = some (j, want)) (hd : o.dst = d) (hb : gval ops st j = some b) (hne : (b == want) = false) (hK : absLex X ops ws wi Q (k + 1) l (st.put d .any)) : absLex X ops ws wi Q k (o :: l) st :=
  ⟨.any, [], .inr ⟨by simp [gw, hg, hb, hne], rfl, rfl⟩, by rw [hd]; exact hK⟩
theorem y_wanted_val {j : Nat} {want b : Bool} {p : Prop} {v : V} (hg : o.guard = some (j, want)) (hd : o.dst = d) (hb : gval ops st j = some b) (hne : (b == want) = true) (h : act1 X.P st.rs (ev st) o.op = .val p v) (hK : absLex X ops ws wi Q (k + 1) l (st.put d v)) (hp : p) (hl : apartB ws (loads (ev st) o.op) = true) : absLex X ops ws wi Q k (o :: l) st :=
  ⟨v, [], .inl ⟨by simp [gw, hg, hb, hne], .val h hp hl⟩, by rw [hd]; exact hK⟩
theorem y_wanted_call {j : Nat} {want b : Bool} {f : FuncId} {args : List V} {r : V} (hg : o.guard = some (j, want)) (hd : o.dst = d) (hb : gval ops st j = some b) (hne : (b == want) = true) (h : act1 X.P st.rs (ev st) o.op = .call f args) (hc : AC X.e X.P f (outL args) r) (hK : absLex X ops ws wi Q (k + 1) l (st.put d r)) : absLex X ops ws wi Q k (o :: l) st :=
  ⟨r, [], .inl ⟨by simp [gw, hg, hb, hne], .call h hc⟩, by rw [hd]; exact hK⟩
/-- a guard that is not told yet -/
theorem y_guard_val {j : Nat} {want b : Bool} {p : Prop} {v : V} (hg : o.guard = some (j, want)) (hd : o.dst = d) (hb : gval ops st j = some b) (h : act1 X.P st.rs (ev st) o.op = .val p v) (hK : (b == want) = true → absLex X ops ws wi Q (k + 1) l (st.put d v)) (hp : (b == want) = true → p)
    (hl : apartB ws (loads (ev st) o.op) = true) (hN : (b == want) = false → absLex X ops ws wi Q (k + 1) l (st.put d .any)) : absLex X ops ws wi Q k (o :: l) st := by
  cases e : b == want
  · exact y_skip hg hd hb e (hN e)
  · exact y_wanted_val hg hd hb e h (hK e) (hp e) hl
theorem y_guard_call {j : Nat} {want b : Bool} {f : FuncId} {args : List V} {r : V} (hg : o.guard = some (j, want)) (hd : o.dst = d) (hb : gval ops st j = some b) (h : act1 X.P st.rs (ev st) o.op = .call f args) (hc : AC X.e X.P f (outL args) r) (hK : (b == want) = true → absLex X ops ws wi Q (k + 1) l (st.put d r))
    (hN : (b == want) = false → absLex X ops ws wi Q (k + 1) l (st.put d .any)) : absLex X ops ws wi Q k (o :: l) st := by
  cases e : b == want
  · exact y_skip hg hd hb e (hN e)
  · exact y_wanted_call hg hd hb e h hc (hK e)
end
section
variable {l : List Oper} {KK : Vst nn → Prop} {d : Option Tmp}
theorem s_onlit {t e : TypeId} {by_ : Nat} {x y : Operand} {l1 l2 : List D} (hg : o.guard = none) (ho : o.op = .call { callee := .builtin .append, args := #[x, y], argTypes := #[t, t] }) (hd : o.dst = d) (he : elemOk X.P t = some (e, by_))
    (hleaf : ∀ d, (cellsV X.P 12 e d).all V.leaf = true) (hx : ev st x = .lit e l1) (hy : (ev st y).out = .sl e l2) (hK : AWo X ops l (st.put d (.sl e (l1 ++ l2))) KK) (hp : l1.length + l2.length ≤ maxLen ∧ (l1.length + l2.length) * by_ ≤ 140737488355328) : AWo X ops (o :: l) st KK :=
  awo_cons hg (opOk_append_lit ho he hleaf hx hy hp.1 hp.2 (by rw [hd]; exact hK))
theorem s_pick_t {c x y : Operand} {b : Bool} (hg : o.guard = none) (ho : o.op = .pick c x y) (hd : o.dst = d) (hc : ev st c = .c (.bool b)) (hb : b = true) (hK : AWo X ops l (st.put d (ev st x)) KK) : AWo X ops (o :: l) st KK :=
  awo_cons hg (opOk_pick ho hc (by rw [hd, hb]; exact hK))
theorem s_pick_f {c x y : Operand} {b : Bool} (hg : o.guard = none) (ho : o.op = .pick c x y) (hd : o.dst = d) (hc : ev st c = .c (.bool b)) (hb : b = false) (hK : AWo X ops l (st.put d (ev st y)) KK) : AWo X ops (o :: l) st KK :=
  awo_cons hg (opOk_pick ho hc (by rw [hd, hb]; exact hK))
theorem aw_cond_t {c : Operand} {x y : Code} {K : Exit → Vst nn → Prop} (hc : ev st c = .c (.bool true)) (h : AW X x st K) : AW X (.cond c x y) st K := aw_cond hc (fun _ => h) fun h => by cases h
theorem aw_cond_f {c : Operand} {x y : Code} {K : Exit → Vst nn → Prop} (hc : ev st c = .c (.bool false)) (h : AW X y st K) : AW X (.cond c x y) st K := aw_cond hc (fun h => by cases h) fun _ => h
theorem bT1 {b : Bool} (h : (b == true) = true) : b = true := by simpa using h
theorem bT2 {b : Bool} (h : (b == false) = false) : b = true := by simpa using h
theorem bF1 {b : Bool} (h : (b == true) = false) : b = false := by simpa using h
theorem bF2 {b : Bool} (h : (b == false) = true) : b = false := by simpa using h
theorem s_skip {j : Nat} {want b : Bool} (hg : o.guard = some (j, want)) (hd : o.dst = d) (hb : gval ops st j = some b) (hne : (b == want) = false) (hK : AWo X ops l (st.put d .any) KK) : AWo X ops (o :: l) st KK :=
  awo_guard hg hb (fun e => by subst e; simp at hne) fun _ => by rw [hd]; exact hK
theorem s_wanted_val {j : Nat} {want b : Bool} {p : Prop} {v : V} (hg : o.guard = some (j, want)) (hd : o.dst = d) (hb : gval ops st j = some b) (hne : (b == want) = true) (h : act1 X.P st.rs (ev st) o.op = .val p v) (hK : AWo X ops l (st.put d v) KK) (hp : p) : AWo X ops (o :: l) st KK :=
  awo_guard hg hb (fun _ => opOk_val h hp (by rw [hd]; exact hK)) fun e => (e (by simpa using hne)).elim
theorem s_wanted_call {j : Nat} {want b : Bool} {f : FuncId} {args : List V} {r : V} (hg : o.guard = some (j, want)) (hd : o.dst = d) (hb : gval ops st j = some b) (hne : (b == want) = true) (h : act1 X.P st.rs (ev st) o.op = .call f args) (hc : AC X.e X.P f (outL args) r) (hK : AWo X ops l (st.put d r) KK) : AWo X ops (o :: l) st KK :=
  awo_guard hg hb (fun _ => opOk_call h hc (by rw [hd]; exact hK)) fun e => (e (by simpa using hne)).elim
theorem s_guard_val {j : Nat} {want b : Bool} {p : Prop} {v : V} (hg : o.guard = some (j, want)) (hd : o.dst = d) (hb : gval ops st j = some b) (h : act1 X.P st.rs (ev st) o.op = .val p v) (hK : (b == want) = true → AWo X ops l (st.put d v) KK) (hp : (b == want) = true → p)
    (hN : (b == want) = false → AWo X ops l (st.put d .any) KK) : AWo X ops (o :: l) st KK := by
  cases e : b == want
  · exact s_skip hg hd hb e (hN e)
  · exact s_wanted_val hg hd hb e h (hK e) (hp e)
theorem s_guard_call {j : Nat} {want b : Bool} {f : FuncId} {args : List V} {r : V} (hg : o.guard = some (j, want)) (hd : o.dst = d) (hb : gval ops st j = some b) (h : act1 X.P st.rs (ev st) o.op = .call f args) (hc : AC X.e X.P f (outL args) r) (hK : (b == want) = true → AWo X ops l (st.put d r) KK)
    (hN : (b == want) = false → AWo X ops l (st.put d .any) KK) : AWo X ops (o :: l) st KK := by
  cases e : b == want
  · exact s_skip hg hd hb e (hN e)
  · exact s_wanted_call hg hd hb e h hc (hK e)
/-- the datum of a plain value -/
def dOf : V → Option D
  | .c (.string s) => some (.str s)
  | .c (.int _ n) => some (.int n)
  | .c (.bool b) => some (.bool b)
  | .sl _ l => some (.list l)
  | _ => none
variable {k : Nat} {ws : List Nat} {wi : Nat} {Q : Vst nn → Prop}
theorem s_lit0 {t e : TypeId} {by_ : Nat} (hg : o.guard = none) (ho : o.op = .buildSlice t 0 #[]) (hd : o.dst = d) (he : elemOk X.P t = some (e, by_)) (hK : AWo X ops l (st.put d (.lit e [])) KK) : AWo X ops (o :: l) st KK :=
  s_lit (by_ := by_) [] hg ho hd he rfl (by rw [Nat.zero_mul]; rfl) trivial hK
theorem s_lit1 {t e : TypeId} {by_ : Nat} {x : Operand} {d1 : D} (hg : o.guard = none) (ho : o.op = .buildSlice t 1 #[(0, x)]) (hd : o.dst = d) (he : elemOk X.P t = some (e, by_)) (h1 : dOf (ev st x) = some d1) (h2 : cellsOf (ev st x) = some (cellsV X.P 12 e d1)) (hs : Nat.ble (1 * X.P.cellsOf e) (2 ^ 24) = true)
    (hK : AWo X ops l (st.put d (.lit e [d1])) KK) : AWo X ops (o :: l) st KK :=
  s_lit (by_ := by_) [d1] hg ho hd he rfl hs ⟨rfl, h2, trivial⟩ hK
theorem y_lit0 {t e : TypeId} {by_ : Nat} (hg : o.guard = none) (ho : o.op = .buildSlice t 0 #[]) (hd : o.dst = d) (he : elemOk X.P t = some (e, by_)) (hK : absLex X ops ws wi Q (k + 1) l (st.put d (.lit e []))) : absLex X ops ws wi Q k (o :: l) st :=
  y_lit (by_ := by_) [] hg ho hd he rfl (by rw [Nat.zero_mul]; rfl) trivial hK
theorem y_lit1 {t e : TypeId} {by_ : Nat} {x : Operand} {d1 : D} (hg : o.guard = none) (ho : o.op = .buildSlice t 1 #[(0, x)]) (hd : o.dst = d) (he : elemOk X.P t = some (e, by_)) (h1 : dOf (ev st x) = some d1) (h2 : cellsOf (ev st x) = some (cellsV X.P 12 e d1)) (hs : Nat.ble (1 * X.P.cellsOf e) (2 ^ 24) = true)
    (hK : absLex X ops ws wi Q (k + 1) l (st.put d (.lit e [d1]))) : absLex X ops ws wi Q k (o :: l) st :=
  y_lit (by_ := by_) [d1] hg ho hd he rfl hs ⟨rfl, h2, trivial⟩ hK
end
end Go.Proofs.YtdklhkdlndlgnaaGreatDoor
