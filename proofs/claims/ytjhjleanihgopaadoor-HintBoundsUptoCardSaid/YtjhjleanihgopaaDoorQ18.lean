/- Parts of a proof, merged by a program (shake.py). -/
import Derived.Still
import Derived.Test.YtjhjleanihgopaaDoorQ17
namespace Go.Proofs.YtjhjleanihgopaaDoor
open Go.RowKit
attribute [local irreducible] wpList Calls Code.wp
variable {X : Cx} {nn : Nat} {st : Vst nn} {ops : Array Oper} {o : Oper}
def updL (rs : Nat → Option Res) : List (Nat × Res) → Nat → Option Res
  | [], m => rs m
  | (k, ρ) :: u, m => if m = k then some ρ else updL rs u m
def stp (st : Vst nn) (d : Option Tmp) (v : V) (u : List (Nat × Res)) : Vst nn := { st with rs := updL st.rs u }.put d v
/-- the box that is loaded from -/
def loads (ea : Operand → V) : Op → Option Nat
  | .load _ x => match ea x with | .bx n _ => some n | _ => none
  | _ => none
def apartB (ws : List Nat) : Option Nat → Bool
  | none => true
  | some n => !ws.contains n
theorem Inv.drew {s : Sg} {w : World} {a : Act} (hI : Inv X st s w a) : Inv X st s { w with drawn := w.drawn + 1 } a :=
  hI.go (w' := w.drew) (ext_drew s w) hI.mem.drew ⟨rfl, rfl, rfl, Nat.le_refl _, fun _ _ _ => rfl⟩ (fun _ _ _ _ h => h)
/-- a pick by a condition of which more is known than its value -/
theorem opOk_pick {K : Vst nn → Prop} {c x y : Operand} {b : Bool} (ho : o.op = .pick c x y) (hc : ev st c = .c (.bool b)) (hK : K (st.put o.dst (bif b then ev st x else ev st y))) : OpOk X o st K := by
  intro s w a hI N Q hN
  have h1 := hI.ev c
  rw [hc, rel] at h1
  unfold Oper.wp
  have hrun : (execOp a.eval o).run X.P w = .ok (.value (if b then a.eval x else a.eval y)) w := by
    simp only [execOp, ho]
    rw [h1.1]
    simp [asBool]
  rw [hrun, Oper.upon_value]
  refine hN _ _ _ _ (hI.put o.dst ?_) hK
  cases b
  · exact hI.ev y
  · exact hI.ev x
def isBld : Res → Bool
  | .bld _ _ _ => true
  | _ => false
/-- what an operation yields: ws: the names that the region's one writer writes; wr: whether this is the writer -/
inductive Yld1 (X : Cx) (ws : List Nat) (wr : Bool) (o : Oper) (st : Vst nn) : V → List (Nat × Res) → Prop where
  | val {p : Prop} {v : V} (h : act1 X.P st.rs (ev st) o.op = .val p v) (hp : p) (hl : apartB ws (loads (ev st) o.op) = true) : Yld1 X ws wr o st v []
  | call {f : FuncId} {args : List V} {v : V} (h : act1 X.P st.rs (ev st) o.op = .call f args) (hc : AC X.e X.P f (outL args) v) : Yld1 X ws wr o st v []
  | lit {t e : TypeId} {b m : Nat} {parts : Array (Nat × Operand)} {ds : List D} (ho : o.op = .buildSlice t m parts) (he : elemOk X.P t = some (e, b)) (hn : m = ds.length) (hs : m * X.P.cellsOf e ≤ 2 ^ 24) (hp : partsD X.P e (ev st) parts.toList 0 ds) : Yld1 X ws wr o st (.lit e ds) []
  | pick {c x y : Operand} {b : Bool} (ho : o.op = .pick c x y) (hc : ev st c = .c (.bool b)) : Yld1 X ws wr o st (bif b then ev st x else ev st y) []
  | callS {f : FuncId} {vargs args : List V} {bs : List Res} {r : V} (ns : List Nat) (h : act1 X.P st.rs (ev st) o.op = .call f vargs) (hc : ACB X.e X.P f args bs r bs) (hnd : ns.Nodup) (ha : renL (φin ns) vargs = args) (hb : ns.map st.rs = bs.map some) (hp : bs.all isBld = true)
      (hl : ns.all (fun n => !ws.contains n) = true) : Yld1 X ws wr o st (renV (φout ns) r) []
  | onlit {t e : TypeId} {b : Nat} {x y : Operand} {l l2 : List D} (ho : o.op = .call { callee := .builtin .append, args := #[x, y], argTypes := #[t, t] }) (he : elemOk X.P t = some (e, b)) (hleaf : ∀ d, (cellsV X.P 12 e d).all V.leaf = true)
      (hx : ev st x = .lit e l) (hy : (ev st y).out = .sl e l2) (hp : l.length + l2.length ≤ maxLen ∧ (l.length + l2.length) * b ≤ 140737488355328) : Yld1 X ws wr o st (.sl e (l ++ l2)) []
  | app {t e : TypeId} {b k : Nat} {x y : Operand} {l l2 : List D} (hw : wr = true) (hk : ws.contains k = true) (ho : o.op = .call { callee := .builtin .append, args := #[x, y], argTypes := #[t, t] }) (he : elemOk X.P t = some (e, b)) (hleaf : ∀ d, (cellsV X.P 12 e d).all V.leaf = true)
      (hx : ev st x = .own k e l) (hr : st.rs k = some (.tok e l.length)) (hy : (ev st y).out = .sl e l2) (hp : 0 < l2.length ∧ l.length + l2.length ≤ maxLen ∧ (l.length + l2.length) * b ≤ 140737488355328) :
      Yld1 X ws wr o st (.own k e (l ++ l2)) [(k, .tok e (l.length + l2.length))]
  | store {t t' : TypeId} {x y : Operand} {n off : Nat} {vs xs : List V} (hw : wr = true) (hk : ws.contains n = true) (ho : o.op = .store t x y) (hd : o.dst = none) (hx : ev st x = .bx n off) (hr : st.rs n = some (.box t' vs)) (hc : cellsOf (ev st y) = some xs)
      (hs : X.P.cellsOf t = xs.length ∧ (X.P.info? t).isSome) (hl : off + xs.length ≤ vs.length) : Yld1 X ws wr o st .any [(n, .box t' (splice vs off xs))]
def gw (ops : Array Oper) (o : Oper) (st : Vst nn) : Option Bool :=
  match o.guard with
  | none => some true
  | some (j, want) => (gval ops st j).map (· == want)
def Yld (X : Cx) (ops : Array Oper) (ws : List Nat) (wr : Bool) (o : Oper) (st : Vst nn) (v : V) (u : List (Nat × Res)) : Prop :=
  (gw ops o st = some true ∧ Yld1 X ws wr o st v u) ∨ (gw ops o st = some false ∧ v = .any ∧ u = [])
theorem partsD_congr {P : Program} {e : TypeId} {ea ea' : Operand → V} : ∀ (ps : List (Nat × Operand)) (j : Nat) (ds : List D), (∀ p ∈ ps, ea p.2 = ea' p.2) → partsD P e ea ps j ds → partsD P e ea' ps j ds
  | [], _, [], _, h => h
  | [], _, _ :: _, _, h => h
  | (_, _) :: _, _, [], _, h => h
  | (i, x) :: ps, j, d :: ds, he, h => by
    obtain ⟨h1, h2, h3⟩ := h
    exact ⟨h1, by rw [← he (i, x) (by simp)]; exact h2, partsD_congr ps (j + 1) ds (fun p hp => he p (by simp [hp])) h3⟩
theorem call1_congr {P : Program} {ea ea' : Operand → V} (c : Call) (h : ∀ x ∈ c.operands, ea x = ea' x) : call1 P ea c = call1 P ea' c := by
  have hargs : c.args.toList.map ea = c.args.toList.map ea' := List.map_congr_left fun x hx => h x (by simp [Call.operands]; exact .inr (by simpa using hx))
  have hmem : ∀ x, x ∈ c.args.toList → ea x = ea' x := fun x hx => h x (by simp [Call.operands]; exact .inr (by simpa using hx))
  unfold call1
  cases hc : c.callee with
  | value f =>
    have hf : ea f = ea' f := h f (by simp [Call.operands, hc])
    cases f <;> simp only [hargs, hf]
  | invoke r m => rfl
  | builtin b =>
    cases b
    case len =>
      skip
      generalize c.args.toList = l at *
      match l with
      | [] => rfl
      | [x] =>
        have hx := hmem x (by simp)
        cases c.argTypes.toList with
        | nil => rfl
        | cons t ts => cases ts <;> simp [hx]
      | _ :: _ :: _ => rfl
    case min =>
      skip
      generalize c.args.toList = l at *
      match l with
      | [] => rfl
      | [x] => rfl
      | [x, y] => have hx := hmem x (by simp); have hy := hmem y (by simp); simp [hx, hy]
      | _ :: _ :: _ :: _ => rfl
    all_goals rfl
theorem act1_congr {P : Program} {rs : Nat → Option Res} {ea ea' : Operand → V} (op : Op) (h : ∀ x ∈ op.operands, ea x = ea' x) : act1 P rs ea op = act1 P rs ea' op := by
  cases op <;> simp only [Op.operands] at h <;> simp only [act1]
  case call c => exact call1_congr c h
  case slice t x lo hi mx => cases lo <;> cases hi <;> cases mx <;> simp_all [act1]
  case build t ps =>
    congr 1
    refine List.map_congr_left fun p hp => ?_
    rw [h p.2 (by simp; exact ⟨p.1, by simpa using hp⟩)]
  case makeFunc fn fs cs =>
    have e : cs.toList.map ea = cs.toList.map ea' := List.map_congr_left fun x hx => h x (by simp; exact .inr (by simpa using hx))
    rw [e]
  all_goals (first | rfl | (simp_all; done))
theorem updL_out {rs : Nat → Option Res} : ∀ {u : List (Nat × Res)} {n : Nat}, (∀ p ∈ u, p.1 ≠ n) → updL rs u n = rs n
  | [], _, _ => rfl
  | (k, ρ) :: u, n, h => by
    rw [updL, if_neg (fun e => h (k, ρ) (by simp) e.symm)]
    exact updL_out fun p hp => h p (by simp [hp])
theorem act1_rs {P : Program} {rs : Nat → Option Res} {ea : Operand → V} {ws : List Nat} {u : List (Nat × Res)} (hu : ∀ p ∈ u, ws.contains p.1 = true) (op : Op) (hl : apartB ws (loads ea op) = true) : act1 P (updL rs u) ea op = act1 P rs ea op := by
  cases op
  case load t x =>
    simp only [act1, load1]
    simp only [loads] at hl
    split
    · rfl
    · rename_i n o he
      rw [he] at hl
      simp only [apartB, Bool.not_eq_true'] at hl
      rw [updL_out fun p hp e => by have := hu p hp; rw [e, hl] at this; cases this]
    · rfl
  case slice t x lo hi mx => cases mx <;> rfl
  all_goals rfl
theorem ev_put {d : Option Tmp} {v : V} {x : Operand} (h : ∀ t, d = some t → x ≠ .tmp t) : ev (st.put d v) x = ev st x := by
  cases d with
  | none => rfl
  | some t =>
    cases x with
    | tmp i =>
      have hne : i ≠ t := fun e => h t rfl (by rw [e])
      show (if i < nn then (if i = t then v else st.tm i) else .any) = if i < nn then st.tm i else .any
      rw [if_neg hne]
    | _ => rfl
theorem ev_stp {d : Option Tmp} {v : V} {u : List (Nat × Res)} {x : Operand} (h : ∀ t, d = some t → x ≠ .tmp t) : ev (stp st d v u) x = ev st x := by
  unfold stp
  rw [ev_put h]
  cases x <;> rfl
theorem rs_put {d : Option Tmp} {v : V} : (st.put d v).rs = st.rs := by cases d <;> rfl
theorem stp_rs {d : Option Tmp} {v : V} {u : List (Nat × Res)} : (stp st d v u).rs = updL st.rs u := by unfold stp; rw [rs_put]
theorem loads_congr {ea ea' : Operand → V} (op : Op) (h : ∀ x ∈ op.operands, ea x = ea' x) : loads ea op = loads ea' op := by
  cases op <;> simp only [Op.operands] at h <;> simp only [loads]
  rename_i t x
  rw [h x (by simp)]
/-- a step that does not touch what o looks at, nor what it writes -/
theorem Yld.of {ws : List Nat} {wr : Bool} {d : Option Tmp} {v v' : V} {u u' : List (Nat × Res)} (hd : ∀ t, d = some t → t ∉ o.looksAt ops) (hu : u' = [] ∨ (wr = false ∧ ∀ p ∈ u', ws.contains p.1 = true)) :
    Yld X ops ws wr o (stp st d v' u') v u ↔ Yld X ops ws wr o st v u := by
  have hev : ∀ x ∈ o.op.operands, ev (stp st d v' u') x = ev st x := fun x hx => ev_stp fun t ht hxt => hd t ht (by
    subst hxt
    exact List.mem_append_left _ (List.mem_filterMap.2 ⟨.tmp t, by simpa using hx, rfl⟩))
  have hloads := loads_congr o.op hev
  have hact : apartB ws (loads (ev st) o.op) = true → act1 X.P (stp st d v' u').rs (ev (stp st d v' u')) o.op = act1 X.P st.rs (ev st) o.op := fun hl => by
    rw [act1_congr o.op hev, stp_rs]
    refine act1_rs (ws := ws) (fun p hp => ?_) _ hl
    rcases hu with rfl | ⟨_, h⟩
    · simp at hp
    · exact h p hp
  have hact2 : ∀ f args, act1 X.P (stp st d v' u').rs (ev (stp st d v' u')) o.op = .call f args ↔ act1 X.P st.rs (ev st) o.op = .call f args := fun f args => by
    rw [act1_congr o.op hev]
    cases ho : o.op
    case load t x =>
      have nob : ∀ rs, act1 X.P rs (ev st) (.load t x) ≠ .call f args := fun rs h => by
        simp only [act1, load1, ofPart] at h
        repeat' (split at h)
        all_goals cases h
      exact ⟨fun h => (nob _ h).elim, fun h => (nob _ h).elim⟩
    case slice t x lo hi mx => cases mx <;> rfl
    all_goals rfl
  have hgv : ∀ j want, o.guard = some (j, want) → gval ops (stp st d v' u') j = gval ops st j := fun j want hg => by
    unfold gval
    cases ht : (ops[j]?).bind (·.dst) with
    | none => rfl
    | some t =>
      have : ev (stp st d v' u') (.tmp t) = ev st (.tmp t) := ev_stp fun q hq hqt => by
        cases hqt
        exact hd t hq (by simp [Oper.looksAt, hg, ht])
      simp only [this]
  have hgw : gw ops o (stp st d v' u') = gw ops o st := by
    unfold gw
    cases hg : o.guard with
    | none => rfl
    | some jw => simp only [hgv jw.1 jw.2 hg]
  have hwr : wr = true → u' = [] := fun h => by
    rcases hu with h' | ⟨h', _⟩
    · exact h'
    · rw [h] at h'; cases h'
  have hrs : ∀ ns : List Nat, ns.all (fun n => !ws.contains n) = true → ns.map (stp st d v' u').rs = ns.map st.rs := fun ns hl => by
    refine List.map_congr_left fun q hq => ?_
    rw [stp_rs]
    have hq2 : (!ws.contains q) = true := (List.all_eq_true.1 hl) q hq
    rcases hu with rfl | ⟨_, h⟩
    · rfl
    · exact updL_out fun p hp e => by have := h p hp; rw [e] at this; rw [this] at hq2; cases hq2
  unfold Yld
  rw [hgw]
  refine or_congr (and_congr Iff.rfl ⟨fun h => ?_, fun h => ?_⟩) Iff.rfl
  · cases h with
    | val h hp hl => rw [hloads] at hl; exact .val (by rw [← hact hl]; exact h) hp hl
    | call h hc => exact .call ((hact2 _ _).1 h) hc
    | lit ho he hn hs hp => exact .lit ho he hn hs (partsD_congr _ _ _ (fun p hp => hev p.2 (by rw [ho]; simp [Op.operands]; exact ⟨p.1, by simpa using hp⟩)) hp)
    | callS ns h hc hnd ha hb hp hl => exact .callS ns ((hact2 _ _).1 h) hc hnd ha (by rw [← hrs ns hl]; exact hb) hp hl
    | pick ho hc =>
      rename_i c x y b
      rw [hev c (by rw [ho]; simp [Op.operands])] at hc
      rw [hev x (by rw [ho]; simp [Op.operands]), hev y (by rw [ho]; simp [Op.operands])]
      exact .pick ho hc
    | onlit ho he hleaf hx hy hp =>
      rw [hev _ (by rw [ho]; simp [Op.operands, Call.operands])] at hx
      rw [hev _ (by rw [ho]; simp [Op.operands, Call.operands])] at hy
      exact .onlit ho he hleaf hx hy hp
    | app hw hk ho he hleaf hx hr hy hp =>
      have hn := hwr hw
      subst hn
      rw [hev _ (by rw [ho]; simp [Op.operands, Call.operands])] at hx
      rw [hev _ (by rw [ho]; simp [Op.operands, Call.operands])] at hy
      rw [stp_rs] at hr
      exact .app hw hk ho he hleaf hx hr hy hp
    | store hw hk ho hd' hx hr hc hs hl =>
      have hn := hwr hw
      subst hn
      rw [hev _ (by rw [ho]; simp [Op.operands])] at hx
      rw [hev _ (by rw [ho]; simp [Op.operands])] at hc
      rw [stp_rs] at hr
      exact .store hw hk ho hd' hx hr hc hs hl
  · cases h with
    | val h hp hl => exact .val (by rw [hact hl]; exact h) hp (by rw [hloads]; exact hl)
    | call h hc => exact .call ((hact2 _ _).2 h) hc
    | lit ho he hn hs hp => exact .lit ho he hn hs (partsD_congr _ _ _ (fun p hp => (hev p.2 (by rw [ho]; simp [Op.operands]; exact ⟨p.1, by simpa using hp⟩)).symm) hp)
    | callS ns h hc hnd ha hb hp hl => exact .callS ns ((hact2 _ _).2 h) hc hnd ha (by rw [hrs ns hl]; exact hb) hp hl
    | pick ho hc =>
      rename_i c x y b
      rw [← hev c (by rw [ho]; simp [Op.operands])] at hc
      rw [← hev x (by rw [ho]; simp [Op.operands]), ← hev y (by rw [ho]; simp [Op.operands])]
      exact .pick ho hc
    | onlit ho he hleaf hx hy hp =>
      rw [← hev _ (by rw [ho]; simp [Op.operands, Call.operands])] at hx
      rw [← hev _ (by rw [ho]; simp [Op.operands, Call.operands])] at hy
      exact .onlit ho he hleaf hx hy hp
    | app hw hk ho he hleaf hx hr hy hp =>
      have hn := hwr hw
      subst hn
      rw [← hev _ (by rw [ho]; simp [Op.operands, Call.operands])] at hx
      rw [← hev _ (by rw [ho]; simp [Op.operands, Call.operands])] at hy
      exact .app hw hk ho he hleaf hx (by rw [stp_rs]; exact hr) hy hp
    | store hw hk ho hd' hx hr hc hs hl =>
      have hn := hwr hw
      subst hn
      rw [← hev _ (by rw [ho]; simp [Op.operands])] at hx
      rw [← hev _ (by rw [ho]; simp [Op.operands])] at hc
      exact .store hw hk ho hd' hx (by rw [stp_rs]; exact hr) hc hs hl
variable {ws : List Nat} {wi : Nat}
section
variable {l : List Oper} {KK : Vst nn → Prop} {d : Option Tmp}
theorem s_pick_t {c x y : Operand} {b : Bool} (hg : o.guard = none) (ho : o.op = .pick c x y) (hd : o.dst = d) (hc : ev st c = .c (.bool b)) (hb : b = true) (hK : AWo X ops l (st.put d (ev st x)) KK) : AWo X ops (o :: l) st KK :=
  awo_cons hg (opOk_pick ho hc (by rw [hd, hb]; exact hK))
theorem s_pick_f {c x y : Operand} {b : Bool} (hg : o.guard = none) (ho : o.op = .pick c x y) (hd : o.dst = d) (hc : ev st c = .c (.bool b)) (hb : b = false) (hK : AWo X ops l (st.put d (ev st y)) KK) : AWo X ops (o :: l) st KK :=
  awo_cons hg (opOk_pick ho hc (by rw [hd, hb]; exact hK))
theorem aw_cond_t {c : Operand} {x y : Code} {K : Exit → Vst nn → Prop} (hc : ev st c = .c (.bool true)) (h : AW X x st K) : AW X (.cond c x y) st K := aw_cond hc (fun _ => h) fun h => by cases h
theorem aw_cond_f {c : Operand} {x y : Code} {K : Exit → Vst nn → Prop} (hc : ev st c = .c (.bool false)) (h : AW X y st K) : AW X (.cond c x y) st K := aw_cond hc (fun h => by cases h) fun _ => h
theorem bT1 {b : Bool} (h : (b == true) = true) : b = true := by simpa using h
theorem bT2 {b : Bool} (h : (b == false) = false) : b = true := by simpa using h
theorem bF1 {b : Bool} (h : (b == true) = false) : b = false := by simpa using h
theorem bF2 {b : Bool} (h : (b == false) = true) : b = false := by simpa using h
theorem s_skip {j : Nat} {want b : Bool} (hg : o.guard = some (j, want)) (hd : o.dst = d) (hb : gval ops st j = some b) (hne : (b == want) = false) (hK : AWo X ops l (st.put d .any) KK) : AWo X ops (o :: l) st KK :=
  awo_guard hg hb (fun e => by subst e; simp at hne) fun _ => by rw [hd]; exact hK
theorem s_wanted_val {j : Nat} {want b : Bool} {p : Prop} {v : V} (hg : o.guard = some (j, want)) (hd : o.dst = d) (hb : gval ops st j = some b) (hne : (b == want) = true) (h : act1 X.P st.rs (ev st) o.op = .val p v) (hK : AWo X ops l (st.put d v) KK) (hp : p) : AWo X ops (o :: l) st KK :=
  awo_guard hg hb (fun _ => opOk_val h hp (by rw [hd]; exact hK)) fun e => (e (by simpa using hne)).elim
theorem s_wanted_call {j : Nat} {want b : Bool} {f : FuncId} {args : List V} {r : V} (hg : o.guard = some (j, want)) (hd : o.dst = d) (hb : gval ops st j = some b) (hne : (b == want) = true) (h : act1 X.P st.rs (ev st) o.op = .call f args) (hc : AC X.e X.P f (outL args) r) (hK : AWo X ops l (st.put d r) KK) : AWo X ops (o :: l) st KK :=
  awo_guard hg hb (fun _ => opOk_call h hc (by rw [hd]; exact hK)) fun e => (e (by simpa using hne)).elim
theorem s_guard_val {j : Nat} {want b : Bool} {p : Prop} {v : V} (hg : o.guard = some (j, want)) (hd : o.dst = d) (hb : gval ops st j = some b) (h : act1 X.P st.rs (ev st) o.op = .val p v) (hK : (b == want) = true → AWo X ops l (st.put d v) KK) (hp : (b == want) = true → p)
    (hN : (b == want) = false → AWo X ops l (st.put d .any) KK) : AWo X ops (o :: l) st KK := by
  cases e : b == want
  · exact s_skip hg hd hb e (hN e)
  · exact s_wanted_val hg hd hb e h (hK e) (hp e)
theorem s_guard_call {j : Nat} {want b : Bool} {f : FuncId} {args : List V} {r : V} (hg : o.guard = some (j, want)) (hd : o.dst = d) (hb : gval ops st j = some b) (h : act1 X.P st.rs (ev st) o.op = .call f args) (hc : AC X.e X.P f (outL args) r) (hK : (b == want) = true → AWo X ops l (st.put d r) KK)
    (hN : (b == want) = false → AWo X ops l (st.put d .any) KK) : AWo X ops (o :: l) st KK := by
  cases e : b == want
  · exact s_skip hg hd hb e (hN e)
  · exact s_wanted_call hg hd hb e h hc (hK e)
variable {k : Nat} {ws : List Nat} {wi : Nat} {Q : Vst nn → Prop}
end
end Go.Proofs.YtjhjleanihgopaaDoor
