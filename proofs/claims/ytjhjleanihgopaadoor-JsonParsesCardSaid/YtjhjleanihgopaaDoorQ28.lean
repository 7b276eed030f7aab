/- Parts of a proof, merged by a program (shake.py). -/
import Derived.Deep.Upon
import Derived.Test.YtjhjleanihgopaaDoorQ27
set_option linter.unusedVariables false
set_option linter.unusedSimpArgs false
namespace Go.Proofs.YtjhjleanihgopaaDoor
open Go.RowKit
attribute [local irreducible] wpList Calls Code.wp
section
variable {X : Cx} {nn : Nat} {st : Vst nn} {o : Oper} {K : Vst nn → Prop} {ops : Array Oper} {l : List Oper} {d : Option Tmp} {KK : Vst nn → Prop}
set_option maxRecDepth 100000 in
theorem res_same {k : Nat} {ρ : Res} (h : st.rs k = some ρ) : st.res k ρ = st := by
  unfold Vst.res
  have e : updR st.rs k ρ = st.rs := by
    funext m
    unfold updR
    by_cases hm : m = k
    · subst hm; rw [if_pos rfl, h]
    · rw [if_neg hm]
  rw [e]
end
end Go.Proofs.YtjhjleanihgopaaDoor
namespace Go.Proofs.YtjhjleanihgopaaDoor
open Go.RowKit
attribute [local irreducible] wpList Calls Code.wp
section
variable {X : Cx} {nn : Nat} {st : Vst nn} {ops : Array Oper} {ws : List Nat} {wi : Nat}
/-- what is listed has all that it waits for listed -/
def Closed (ops : Array Oper) (listed : Array Bool) : Prop := ∀ k o, ops[k]? = some o → listed.getD k false = true → ∀ e ∈ o.after, Region.binds .any e = true → listed.getD e.on false = true
set_option maxRecDepth 100000 in
theorem Closed.set {listed : Array Bool} {j : Nat} (h : Closed ops listed) (hj : j ∈ Region.ready .any ops listed) : Closed ops (listed.setIfInBounds j true) := by
  intro k o ho hk e he hb
  obtain ⟨-, oj, hoj, hall⟩ := mem_ready.1 hj
  by_cases hkj : k = j
  · subst hkj
    rw [hoj] at ho; cases ho
    exact getD_set_true (hall e he hb)
  · rw [getD_set_ne false (fun e => hkj e.symm)] at hk
    exact getD_set_true (h k o ho hk e he hb)
def waits (ops : Array Oper) (k : Nat) : List Nat := match ops[k]? with | some o => (o.after.toList.filter fun e => Region.binds .any e).map (·.on) | none => []
def reachS (ops : Array Oper) : Nat → List Nat → List Nat
  | 0, S => S
  | n + 1, S => reachS ops n (S ++ (S.flatMap (waits ops)).filter fun k => !S.contains k)
set_option maxRecDepth 100000 in
theorem waits_ok {listed : Array Bool} (h : Closed ops listed) {q k : Nat} (hq : listed.getD q false = true) (hk : k ∈ waits ops q) : listed.getD k false = true := by
  unfold waits at hk
  split at hk
  · rename_i o ho
    obtain ⟨e, he, rfl⟩ := List.mem_map.1 hk
    obtain ⟨h1, h2⟩ := List.mem_filter.1 he
    exact h q o ho hq e (by simpa using h1) h2
  · simp at hk
set_option maxRecDepth 100000 in
theorem reach_ok {listed : Array Bool} (h : Closed ops listed) : ∀ (n : Nat) (S : List Nat), (∀ k ∈ S, listed.getD k false = true) → ∀ k ∈ reachS ops n S, listed.getD k false = true
  | 0, S, hS, k, hk => hS k hk
  | n + 1, S, hS, k, hk => by
    refine reach_ok h n _ (fun q hq => ?_) k hk
    rcases List.mem_append.1 hq with hq | hq
    · exact hS q hq
    · obtain ⟨h1, -⟩ := List.mem_filter.1 hq
      obtain ⟨p, hp, h2⟩ := List.mem_flatMap.1 h1
      exact waits_ok h (hS p hp) h2
set_option maxRecDepth 100000 in
theorem listed_both {listed : Array Bool} {i : Nat} (h0 : listed.getD i true = false) (h1 : listed.getD i false = true) : False := by
  rw [Array.getD_eq_getD_getElem?] at h0 h1
  cases h : listed[i]? with
  | none => rw [h] at h0; simp at h0
  | some b => rw [h] at h0 h1; simp at h0 h1; rw [h0] at h1; cases h1
end
end Go.Proofs.YtjhjleanihgopaaDoor
namespace Go.Proofs.YtjhjleanihgopaaDoor
open Go.RowKit
attribute [local irreducible] wpList Calls Code.wp
section
variable {X : Cx} {nn : Nat} {st : Vst nn} {ops : Array Oper} {o : Oper}
def inO (l : List Nat) : Option Nat → Bool
  | none => true
  | some n => l.contains n
/-- what an operation yields; rd, wr: the names that it reads, that it writes -/
inductive YldN (X : Cx) (rd wr : List Nat) (o : Oper) (st : Vst nn) : V → List (Nat × Res) → Prop where
  | val {p : Prop} {v : V} (h : act1 X.P st.rs (ev st) o.op = .val p v) (hp : p) (hl : inO rd (loads (ev st) o.op) = true) : YldN X rd wr o st v []
  | call {f : FuncId} {args : List V} {v : V} (h : act1 X.P st.rs (ev st) o.op = .call f args) (hc : AC X.e X.P f (outL args) v) : YldN X rd wr o st v []
  | lit {t e : TypeId} {b m : Nat} {parts : Array (Nat × Operand)} {ds : List D} (ho : o.op = .buildSlice t m parts) (he : elemOk X.P t = some (e, b)) (hn : m = ds.length) (hs : m * X.P.cellsOf e ≤ 2 ^ 24) (hp : partsD X.P e (ev st) parts.toList 0 ds) : YldN X rd wr o st (.lit e ds) []
  | pick {c x y : Operand} {b : Bool} (ho : o.op = .pick c x y) (hc : ev st c = .c (.bool b)) : YldN X rd wr o st (bif b then ev st x else ev st y) []
  | callB {f : FuncId} {vargs args : List V} {bs bs' : List Res} {r : V} (ns : List Nat) (h : act1 X.P st.rs (ev st) o.op = .call f vargs) (hc : ACB X.e X.P f args bs r bs') (hnd : ns.Nodup) (ha : renL (φin ns) vargs = args) (hb : ns.map (fun n => (st.rs n).map (renR (φin ns))) = bs.map some)
      (hl : ns.all (fun n => wr.contains n) = true) (hlen : bs'.length = ns.length) : YldN X rd wr o st (renV (φout ns) r) (ns.zip (bs'.map (renR (φout ns))))
  | callS {f : FuncId} {vargs args : List V} {bs : List Res} {r : V} (ns : List Nat) (h : act1 X.P st.rs (ev st) o.op = .call f vargs) (hc : ACB X.e X.P f args bs r bs) (hnd : ns.Nodup) (ha : renL (φin ns) vargs = args) (hb : ns.map st.rs = bs.map some) (hp : bs.all isBld = true)
      (hl : ns.all (fun n => rd.contains n) = true) : YldN X rd wr o st (renV (φout ns) r) []
  | onlit {t e : TypeId} {b : Nat} {x y : Operand} {l l2 : List D} (ho : o.op = .call { callee := .builtin .append, args := #[x, y], argTypes := #[t, t] }) (he : elemOk X.P t = some (e, b)) (hleaf : ∀ d, (cellsV X.P 12 e d).all V.leaf = true)
      (hx : ev st x = .lit e l) (hy : (ev st y).out = .sl e l2) (hp : l.length + l2.length ≤ maxLen ∧ (l.length + l2.length) * b ≤ 140737488355328) : YldN X rd wr o st (.sl e (l ++ l2)) []
  | app {t e : TypeId} {b k : Nat} {x y : Operand} {l l2 : List D} (hk : wr.contains k = true) (ho : o.op = .call { callee := .builtin .append, args := #[x, y], argTypes := #[t, t] }) (he : elemOk X.P t = some (e, b)) (hleaf : ∀ d, (cellsV X.P 12 e d).all V.leaf = true)
      (hx : ev st x = .own k e l) (hr : st.rs k = some (.tok e l.length)) (hy : (ev st y).out = .sl e l2) (hp : 0 < l2.length ∧ l.length + l2.length ≤ maxLen ∧ (l.length + l2.length) * b ≤ 140737488355328) :
      YldN X rd wr o st (.own k e (l ++ l2)) [(k, .tok e (l.length + l2.length))]
  | store {t t' : TypeId} {x y : Operand} {n off : Nat} {vs xs : List V} (hk : wr.contains n = true) (ho : o.op = .store t x y) (hd : o.dst = none) (hx : ev st x = .bx n off) (hr : st.rs n = some (.box t' vs)) (hc : cellsOf (ev st y) = some xs)
      (hs : X.P.cellsOf t = xs.length ∧ (X.P.info? t).isSome) (hl : off + xs.length ≤ vs.length) : YldN X rd wr o st .any [(n, .box t' (splice vs off xs))]
def YldG (X : Cx) (ops : Array Oper) (rd wr : List Nat) (o : Oper) (st : Vst nn) (v : V) (u : List (Nat × Res)) : Prop :=
  (gw ops o st = some true ∧ YldN X rd wr o st v u) ∨ (gw ops o st = some false ∧ v = .any ∧ u = [])
theorem updL_zip {rs : Nat → Option Res} : ∀ {ns : List Nat} {ρs : List Res}, ns.Nodup → ρs.length = ns.length → updL rs (ns.zip ρs) = updN rs ns ρs
  | [], [], _, _ => by funext m; rfl
  | n :: ns, ρ :: ρs, h, hl => by
    have ih := updL_zip (rs := rs) (ns := ns) (ρs := ρs) (List.nodup_cons.1 h).2 (by simpa using hl)
    funext m
    show (if m = n then some ρ else updL rs (ns.zip ρs) m) = _
    unfold updN
    rw [List.idxOf?_cons]
    by_cases e : m = n
    · subst e; simp
    · have e2 : ¬ (n == m) = true := by simp; exact fun h => e h.symm
      rw [if_neg e, ih, if_neg e2]
      unfold updN
      cases ns.idxOf? m <;> rfl
theorem opOk_yldN {rd wr : List Nat} {K : Vst nn → Prop} {v : V} {u : List (Nat × Res)} (h : YldN X rd wr o st v u) (hK : K (stp st o.dst v u)) : OpOk X o st K := by
  cases h with
  | val h hp hl => exact opOk_val h hp hK
  | call h hc => exact opOk_call h hc hK
  | lit ho he hn hs hp => exact opOk_lit ho he hn hs hp hK
  | callS ns h hc hnd ha hb hp hl => exact opOk_callS ns h hc hnd ha hb hp hK
  | callB ns h hc hnd ha hb hl hlen =>
    refine opOk_callB ns h hc hnd ha hb ?_
    unfold stp at hK
    rw [updL_zip hnd (by simpa using hlen)] at hK
    exact hK
  | pick ho hc => exact opOk_pick ho hc hK
  | onlit ho he hleaf hx hy hp => exact opOk_append_lit ho he hleaf hx hy hp.1 hp.2 hK
  | app hk ho he hleaf hx hr hy hp =>
    unfold stp at hK; rw [updL_one] at hK
    exact opOk_append_own ho he hleaf hx hr hy hp.1 hp.2.1 hp.2.2 hK
  | store hk ho hd hx hr hc hs hl =>
    unfold stp at hK; rw [updL_one, hd] at hK
    exact opOk_store ho hd hx hr hc hs hl hK
/-- two lists of names have nothing in common -/
def disjB (a b : List Nat) : Bool := a.all fun n => !b.contains n
theorem disjB_ok {a b : List Nat} (h : disjB a b = true) {n : Nat} (ha : a.contains n = true) (hb : b.contains n = true) : False := by
  have := List.all_eq_true.1 h n (by simpa using ha)
  rw [hb] at this; cases this
/-- the names that a step has written are none that o looks at -/
def Off (rd wr : List Nat) (u' : List (Nat × Res)) : Prop := ∀ p ∈ u', rd.contains p.1 = false ∧ wr.contains p.1 = false
theorem updL_off {rs : Nat → Option Res} {rd wr : List Nat} {u' : List (Nat × Res)} (h : Off rd wr u') {n : Nat} (hn : rd.contains n = true ∨ wr.contains n = true) : updL rs u' n = rs n :=
  updL_out fun p hp e => by
    have := h p hp
    rw [e] at this
    rcases hn with hn | hn
    · rw [this.1] at hn; cases hn
    · rw [this.2] at hn; cases hn
theorem act1_off {P : Program} {rs : Nat → Option Res} {ea : Operand → V} {rd wr : List Nat} {u : List (Nat × Res)} (hu : Off rd wr u) (op : Op) (hl : inO rd (loads ea op) = true) : act1 P (updL rs u) ea op = act1 P rs ea op := by
  cases op
  case load t x =>
    simp only [act1, load1]
    simp only [loads] at hl
    split
    · rfl
    · rename_i n o he
      rw [he] at hl
      simp only [inO] at hl
      rw [updL_off hu (.inl hl)]
    · rfl
  case slice t x lo hi mx => cases mx <;> rfl
  all_goals rfl
theorem YldN.congr {rd wr : List Nat} {st st' : Vst nn} {v : V} {u : List (Nat × Res)} (hev : ∀ x ∈ o.op.operands, ev st' x = ev st x) (hrs : ∀ n, rd.contains n = true ∨ wr.contains n = true → st'.rs n = st.rs n) (hact : inO rd (loads (ev st) o.op) = true → act1 X.P st'.rs (ev st') o.op = act1 X.P st.rs (ev st) o.op)
    (hact2 : ∀ f args, act1 X.P st'.rs (ev st') o.op = .call f args ↔ act1 X.P st.rs (ev st) o.op = .call f args) (h : YldN X rd wr o st v u) : YldN X rd wr o st' v u := by
  have hloads := loads_congr o.op hev
  cases h with
  | val h hp hl => exact .val (by rw [hact hl]; exact h) hp (by rw [hloads]; exact hl)
  | call h hc => exact .call ((hact2 _ _).2 h) hc
  | lit ho he hn hs hp => exact .lit ho he hn hs (partsD_congr _ _ _ (fun p hp => (hev p.2 (by rw [ho]; simp [Op.operands]; exact ⟨p.1, by simpa using hp⟩)).symm) hp)
  | callB ns h hc hnd ha hb hl hlen =>
    refine .callB ns ((hact2 _ _).2 h) hc hnd ha ?_ hl hlen
    rw [← hb]
    exact List.map_congr_left fun q hq => by rw [hrs q (.inr (List.all_eq_true.1 hl q hq))]
  | callS ns h hc hnd ha hb hp hl =>
    refine .callS ns ((hact2 _ _).2 h) hc hnd ha ?_ hp hl
    rw [← hb]
    exact List.map_congr_left fun q hq => hrs q (.inl (List.all_eq_true.1 hl q hq))
  | pick ho hc =>
    rename_i c x y b
    rw [← hev c (by rw [ho]; simp [Op.operands])] at hc
    rw [← hev x (by rw [ho]; simp [Op.operands]), ← hev y (by rw [ho]; simp [Op.operands])]
    exact .pick ho hc
  | onlit ho he hleaf hx hy hp =>
    rw [← hev _ (by rw [ho]; simp [Op.operands, Call.operands])] at hx
    rw [← hev _ (by rw [ho]; simp [Op.operands, Call.operands])] at hy
    exact .onlit ho he hleaf hx hy hp
  | app hk ho he hleaf hx hr hy hp =>
    rw [← hev _ (by rw [ho]; simp [Op.operands, Call.operands])] at hx
    rw [← hev _ (by rw [ho]; simp [Op.operands, Call.operands])] at hy
    exact .app hk ho he hleaf hx (by rw [hrs _ (.inr hk)]; exact hr) hy hp
  | store hk ho hd hx hr hc hs hl =>
    rw [← hev _ (by rw [ho]; simp [Op.operands])] at hx
    rw [← hev _ (by rw [ho]; simp [Op.operands])] at hc
    exact .store hk ho hd hx (by rw [hrs _ (.inr hk)]; exact hr) hc hs hl
theorem YldG.of {rd wr : List Nat} {d : Option Tmp} {v v' : V} {u u' : List (Nat × Res)} (hd : ∀ t, d = some t → t ∉ o.looksAt ops) (hu : Off rd wr u') :
    YldG X ops rd wr o (stp st d v' u') v u ↔ YldG X ops rd wr o st v u := by
  have hev : ∀ x ∈ o.op.operands, ev (stp st d v' u') x = ev st x := fun x hx => ev_stp fun t ht hxt => hd t ht (by
    subst hxt
    exact List.mem_append_left _ (List.mem_filterMap.2 ⟨.tmp t, by simpa using hx, rfl⟩))
  have hloads := loads_congr o.op hev
  have hact : inO rd (loads (ev st) o.op) = true → act1 X.P (stp st d v' u').rs (ev (stp st d v' u')) o.op = act1 X.P st.rs (ev st) o.op := fun hl => by
    rw [act1_congr o.op hev, stp_rs]
    exact act1_off hu _ hl
  have hact2 : ∀ f args, act1 X.P (stp st d v' u').rs (ev (stp st d v' u')) o.op = .call f args ↔ act1 X.P st.rs (ev st) o.op = .call f args := fun f args => by
    rw [act1_congr o.op hev]
    cases ho : o.op
    case load t x =>
      have nob : ∀ rs, act1 X.P rs (ev st) (.load t x) ≠ .call f args := fun rs h => by
        simp only [act1, load1, ofPart] at h
        repeat' (split at h)
        all_goals cases h
      exact ⟨fun h => (nob _ h).elim, fun h => (nob _ h).elim⟩
    case slice t x lo hi mx => cases mx <;> rfl
    all_goals rfl
  have hgv : ∀ j want, o.guard = some (j, want) → gval ops (stp st d v' u') j = gval ops st j := fun j want hg => by
    unfold gval
    cases ht : (ops[j]?).bind (·.dst) with
    | none => rfl
    | some t =>
      have : ev (stp st d v' u') (.tmp t) = ev st (.tmp t) := ev_stp fun q hq hqt => by
        cases hqt
        exact hd t hq (by simp [Oper.looksAt, hg, ht])
      simp only [this]
  have hgw : gw ops o (stp st d v' u') = gw ops o st := by
    unfold gw
    cases hg : o.guard with
    | none => rfl
    | some jw => simp only [hgv jw.1 jw.2 hg]
  have hrs : ∀ n, rd.contains n = true ∨ wr.contains n = true → (stp st d v' u').rs n = st.rs n := fun n hn => by
    rw [stp_rs]; exact updL_off hu hn
  unfold YldG
  rw [hgw]
  refine or_congr (and_congr Iff.rfl ⟨fun h => ?_, fun h => ?_⟩) Iff.rfl
  · exact h.congr (fun x hx => (hev x hx).symm) (fun n hn => (hrs n hn).symm) (fun hl => (hact (by rw [hloads] at hl; exact hl)).symm) fun f args => (hact2 f args).symm
  · exact h.congr hev hrs hact hact2
theorem YldG.names {rd wr : List Nat} {v : V} {u : List (Nat × Res)} (h : YldG X ops rd wr o st v u) : ∀ p ∈ u, wr.contains p.1 = true := by
  rcases h with ⟨_, h⟩ | ⟨_, _, rfl⟩
  · cases h with
    | app hk => exact fun p hp => by simp at hp; subst hp; exact hk
    | store hk => exact fun p hp => by simp at hp; subst hp; exact hk
    | callB ns h hc hnd ha hb hl hlen => exact fun p hp => List.all_eq_true.1 hl _ (List.of_mem_zip hp).1
    | _ => exact fun p hp => by simp at hp
  · exact fun p hp => by simp at hp
theorem updL_comm {rs : Nat → Option Res} {u u' : List (Nat × Res)} (h : ∀ p ∈ u, ∀ q ∈ u', p.1 ≠ q.1) : updL (updL rs u) u' = updL (updL rs u') u := by
  have look : ∀ (rs : Nat → Option Res) (u : List (Nat × Res)) (m : Nat), (∃ p ∈ u, p.1 = m) → ∀ rs', updL rs u m = updL rs' u m := by
    intro rs u m hm rs'
    induction u with
    | nil => obtain ⟨p, hp, _⟩ := hm; simp at hp
    | cons x u ih =>
      obtain ⟨k, ρ⟩ := x
      show (if m = k then some ρ else updL rs u m) = if m = k then some ρ else updL rs' u m
      by_cases e : m = k
      · rw [if_pos e, if_pos e]
      · rw [if_neg e, if_neg e]
        obtain ⟨p, hp, he⟩ := hm
        rcases List.mem_cons.1 hp with rfl | hp
        · exact absurd he.symm e
        · exact ih ⟨p, hp, he⟩
  funext m
  by_cases h1 : ∃ p ∈ u, p.1 = m
  · have h2 : ∀ q ∈ u', q.1 ≠ m := fun q hq e => by
      obtain ⟨p, hp, he⟩ := h1
      exact h p hp q hq (he.trans e.symm)
    rw [updL_out h2, look (updL rs u') u m h1 rs]
  · have h3 : ∀ p ∈ u, p.1 ≠ m := fun p hp e => h1 ⟨p, hp, e⟩
    rw [updL_out (rs := updL rs u') h3]
    by_cases h2 : ∃ q ∈ u', q.1 = m
    · rw [look (updL rs u) u' m h2 rs]
    · have h4 : ∀ q ∈ u', q.1 ≠ m := fun q hq e => h2 ⟨q, hq, e⟩
      rw [updL_out h4, updL_out h4, updL_out h3]
theorem stp_commG {d d' : Option Tmp} {v v' : V} {u u' : List (Nat × Res)} (h : ∀ t, d = some t → d' ≠ some t) (hu : ∀ p ∈ u, ∀ q ∈ u', p.1 ≠ q.1) : stp (stp st d v u) d' v' u' = stp (stp st d' v' u') d v u := by
  have hpr : ∀ (st : Vst nn) (d : Option Tmp) (v : V) (r : Nat → Option Res), ({ (st.put d v) with rs := r } : Vst nn) = ({ st with rs := r } : Vst nn).put d v := fun st d v r => by cases d <;> rfl
  unfold stp
  rw [hpr, hpr, rs_put, rs_put, updL_comm hu]
  exact put_comm h
variable {rd wr : Nat → List Nat}
/-- operations that do not wait for one another touch different names -/
def namesB (ops : Array Oper) (rd wr : Nat → List Nat) : Bool := (List.range ops.size).all fun j => (List.range j).all fun i =>
  (disjB (wr i) (rd j) && disjB (wr i) (wr j) && disjB (wr j) (rd i)) || (reachS ops ops.size (waits ops j)).contains i
def aOpG (X : Cx) (ops : Array Oper) (rd wr : Nat → List Nat) (i : Nat) (K : Vst nn → Prop) (st : Vst nn) : Prop :=
  match ops[i]? with
  | none => K st
  | some o => ∃ v u, YldG X ops (rd i) (wr i) o st v u ∧ K (stp st o.dst v u)
theorem aOpG_mono {i : Nat} {K K' : Vst nn → Prop} (h : ∀ st, K st → K' st) (hh : aOpG X ops rd wr i K st) : aOpG X ops rd wr i K' st := by
  unfold aOpG at *
  split
  · rename_i hn; simp only [hn] at hh; exact h _ hh
  · rename_i o ho
    simp only [ho] at hh
    obtain ⟨v, u, h1, h2⟩ := hh
    exact ⟨v, u, h1, h _ h2⟩
def absAnyG (X : Cx) (ops : Array Oper) (rd wr : Nat → List Nat) (Q : Vst nn → Prop) : Nat → Array Bool → Vst nn → Prop
  | 0, listed, st => Region.ready .any ops listed = [] ∧ Q st
  | fuel + 1, listed, st => (Region.ready .any ops listed = [] → Q st) ∧ ∀ i ∈ Region.ready .any ops listed, aOpG X ops rd wr i (absAnyG X ops rd wr Q fuel (listed.setIfInBounds i true)) st
theorem aOpG_put {i j : Nat} {oi oj : Oper} {v : V} {u : List (Nat × Res)} (hj : ops[j]? = some oj) (hap : oi.apart ops oj = true) (hn : disjB (wr i) (rd j) = true ∧ disjB (wr i) (wr j) = true ∧ disjB (wr j) (rd i) = true) {K : Vst nn → Prop} (hy : YldG X ops (rd i) (wr i) oi st v u) (h : aOpG X ops rd wr j K (stp st oi.dst v u)) :
    aOpG X ops rd wr j (fun st' => YldG X ops (rd i) (wr i) oi st' v u ∧ K (stp st' oi.dst v u)) st := by
  obtain ⟨h1, h2, h3⟩ := Oper.apart_spec hap
  unfold aOpG at *
  simp only [hj] at *
  obtain ⟨v', u', hy', hK⟩ := h
  have hu : Off (rd j) (wr j) u := fun p hp => by
    have hw := hy.names p hp
    refine ⟨?_, ?_⟩
    · cases hq : (rd j).contains p.1
      · rfl
      · exact (disjB_ok hn.1 hw hq).elim
    · cases hq : (wr j).contains p.1
      · rfl
      · exact (disjB_ok hn.2.1 hw hq).elim
  have hyj : YldG X ops (rd j) (wr j) oj st v' u' := (YldG.of h1 hu).1 hy'
  have hu' : Off (rd i) (wr i) u' := fun p hp => by
    have hw := hyj.names p hp
    refine ⟨?_, ?_⟩
    · cases hq : (rd i).contains p.1
      · rfl
      · exact (disjB_ok hn.2.2 hw hq).elim
    · cases hq : (wr i).contains p.1
      · rfl
      · exact (disjB_ok hn.2.1 hq hw).elim
  have huu : ∀ p ∈ u, ∀ q ∈ u', p.1 ≠ q.1 := fun p hp q hq e => by
    have h5 := hy.names p hp
    have h6 := hyj.names q hq
    rw [← e] at h6
    exact disjB_ok hn.2.1 h5 h6
  exact ⟨v', u', hyj, (YldG.of h3 hu').2 hy, by rw [← stp_commG h2 huu]; exact hK⟩
theorem absAnyG_first {Q : Vst nn → Prop} {i : Nat} {oi : Oper} {v : V} {u : List (Nat × Res)} (hi : ops[i]? = some oi) (hN : namesB ops rd wr = true) :
    ∀ (fuel : Nat) (listed : Array Bool) (st : Vst nn), Closed ops listed → (∀ j, j < i → listed.getD j false = true) →
      (∀ j oj, ops[j]? = some oj → j ≠ i → listed.getD j true = false → (∀ e ∈ oj.after, Region.binds .any e = true → e.on ≠ i) → oi.apart ops oj = true) →
      i ∈ Region.ready .any ops listed → YldG X ops (rd i) (wr i) oi st v u →
      absAnyG X ops rd wr Q fuel (listed.setIfInBounds i true) (stp st oi.dst v u) → absAnyG X ops rd wr Q (fuel + 1) listed st := by
  intro fuel
  induction fuel with
  | zero =>
    intro listed st _ _ _ hr hy H
    refine ⟨fun h => (by rw [h] at hr; cases hr), fun j hj => ?_⟩
    by_cases hji : j = i
    · subst hji; unfold aOpG; simp only [hi]; exact ⟨v, u, hy, H⟩
    · have := ready_mono hj hji
      rw [H.1] at this
      cases this
  | succ fuel ih =>
    intro listed st hcl hlow hfree hr hy H
    refine ⟨fun h => (by rw [h] at hr; cases hr), fun j hj => ?_⟩
    by_cases hji : j = i
    · subst hji; unfold aOpG; simp only [hi]; exact ⟨v, u, hy, H⟩
    · have h1 := H.2 j (ready_mono hj hji)
      obtain ⟨hjun, oj, hoj, hall⟩ := mem_ready.1 hj
      have hiun := (mem_ready.1 hr).1
      have hnot : ∀ e ∈ oj.after, Region.binds .any e = true → e.on ≠ i := fun e he hb heq => by
        have h1 := hall e he hb
        rw [heq] at h1
        exact listed_both hiun h1
      have hij : i < j := by
        rcases Nat.lt_trichotomy i j with h | h | h
        · exact h
        · exact absurd h.symm hji
        · exact (listed_both hjun (hlow j h)).elim
      have hsz : j < ops.size := (Array.getElem?_eq_some_iff.1 hoj).1
      have hnm : disjB (wr i) (rd j) = true ∧ disjB (wr i) (wr j) = true ∧ disjB (wr j) (rd i) = true := by
        have h2 := List.all_eq_true.1 (List.all_eq_true.1 hN j (List.mem_range.2 hsz)) i (List.mem_range.2 hij)
        rw [Bool.or_eq_true] at h2
        rcases h2 with h2 | h2
        · simp only [Bool.and_eq_true] at h2; exact ⟨h2.1.1, h2.1.2, h2.2⟩
        · refine (listed_both hiun (reach_ok hcl _ _ (fun k hk => ?_) i (by simpa using h2))).elim
          unfold waits at hk
          rw [hoj] at hk
          obtain ⟨e, he, rfl⟩ := List.mem_map.1 hk
          obtain ⟨h2, h3⟩ := List.mem_filter.1 he
          exact hall e (by simpa using h2) h3
      have h2 := aOpG_put (i := i) hoj (hfree j oj hoj hji hjun hnot) hnm hy h1
      have hfree' : ∀ k ok, ops[k]? = some ok → k ≠ i → (listed.setIfInBounds j true).getD k true = false →
          (∀ e ∈ ok.after, Region.binds .any e = true → e.on ≠ i) → oi.apart ops ok = true := fun k ok hk hki hun hno => by
        refine hfree k ok hk hki ?_ hno
        by_cases hjk : j = k
        · subst hjk; exact hjun
        · rw [getD_set_ne true hjk] at hun; exact hun
      refine aOpG_mono (fun st' h3 => ih (listed.setIfInBounds j true) st' (hcl.set hj) (fun k hk => getD_set_true (hlow k hk)) hfree' (ready_mono hr (Ne.symm hji)) h3.1 ?_) h2
      rw [Array.setIfInBounds_comm _ _ hji]
      exact h3.2
/-- the walk of the text's order -/
def absLexG (X : Cx) (ops : Array Oper) (rd wr : Nat → List Nat) (Q : Vst nn → Prop) : Nat → List Oper → Vst nn → Prop
  | _, [], st => Q st
  | k, o :: rest, st => ∃ v u, YldG X ops (rd k) (wr k) o st v u ∧ absLexG X ops rd wr Q (k + 1) rest (stp st o.dst v u)
theorem set_self_true {listed : Array Bool} {k : Nat} (h : k < listed.size) : (listed.setIfInBounds k true).getD k false = true := by
  simp [Array.getD_eq_getD_getElem?, h]
theorem absAnyG_lex {Q : Vst nn → Prop} (hN : namesB ops rd wr = true) : ∀ (l : List Oper) (k : Nat) (listed : Array Bool) (st : Vst nn), (∀ j, l[j]? = ops[k + j]?) → Closed ops listed → (∀ j, j < k → listed.getD j false = true) → listed.size = ops.size →
    Region.lexFrom .any ops l.length k listed = true → absLexG X ops rd wr Q k l st → absAnyG X ops rd wr Q l.length listed st
  | [], _, _, _, _, _, _, _, hB, h => ⟨by simpa [Region.lexFrom] using hB, h⟩
  | o :: l, k, listed, st, hl, hcl, hlow, hsz, hB, h => by
    have h0 : ops[k]? = some o := by simpa using (hl 0).symm
    have hk : k < ops.size := (Array.getElem?_eq_some_iff.1 h0).1
    simp only [List.length_cons, Region.lexFrom, Bool.and_eq_true] at hB
    obtain ⟨⟨hr, hf⟩, hB'⟩ := hB
    have hr : k ∈ Region.ready .any ops listed := by simpa using hr
    obtain ⟨v, u, hy, hK⟩ := h
    exact absAnyG_first h0 hN l.length listed st hcl hlow (Region.free_spec h0 hf) hr hy
      (absAnyG_lex hN l (k + 1) _ _ (fun j => by have := hl (j + 1); simpa [Nat.add_assoc, Nat.add_comm 1 j] using this) (hcl.set hr) (fun j hj => by
        by_cases e : j = k
        · subst e; exact set_self_true (by omega)
        · exact getD_set_true (hlow j (by omega))) (by simpa using hsz) hB' hK)
theorem wpAny_of_absG {Q : Vst nn → Prop} {Q' : Exit → Act → World → Prop} (hQ : ∀ st' s' w' a', Inv X st' s' w' a' → Q st' → Q' .normal a' w') : ∀ (fuel : Nat) (listed : Array Bool) (st : Vst nn) (s : Sg) (w : World) (a : Act), Inv X st s w a →
    absAnyG X ops rd wr Q fuel listed st → wpAny X.P .any ops Q' fuel listed a w
  | 0, _, _, _, _, _, hI, h => ⟨h.1, hQ _ _ _ _ hI h.2⟩
  | fuel + 1, listed, st, s, w, a, hI, h => ⟨fun h0 => hQ _ _ _ _ hI (h.1 h0), fun i hi => by
    have h1 := h.2 i hi
    unfold aOpG at h1
    unfold wpOp
    cases ho : ops[i]? with
    | none =>
      simp only [ho] at h1 ⊢
      exact wpAny_of_absG hQ fuel _ st s w a hI h1
    | some o =>
      simp only [ho] at h1 ⊢
      obtain ⟨v, u, hy, hK⟩ := h1
      rcases hy with ⟨hg, hy⟩ | ⟨hg, rfl, rfl⟩
      · rw [if_pos (gw_ok hg hI)]
        exact .inl (opOk_yldN (K := absAnyG X ops rd wr Q fuel (listed.setIfInBounds i true)) hy hK s w a hI _ _ fun st' s' w' a' hI' hK' => wpAny_of_absG hQ fuel _ st' s' w' a' hI' hK')
      · rw [if_neg (by rw [gw_ok hg hI]; simp)]
        exact wpAny_of_absG hQ fuel _ _ s w (a.put o.dst undef) (hI.put o.dst (by simp [rel])) hK⟩
/-- a list of names for each operation -/
def nmf (l : List (Nat × List Nat)) (k : Nat) : List Nat := match l.find? (fun p => p.1 == k) with | some p => p.2 | none => []
/-- a region that draws its order; r, w: the names that operations read, write, by their places -/
theorem aw_drawG (r w : List (Nat × List Nat)) {id : Nat} {l : List Oper} {K : Exit → Vst nn → Prop} (hm : X.P.follows .mixedOrders = true) (hB : Region.lexB .any l.toArray = true) (hN : namesB l.toArray (nmf r) (nmf w) = true) (h : absLexG X l.toArray (nmf r) (nmf w) (K .normal) 0 l st) : AW X (.region id l.toArray true) st K := fun s wd a hI => by
  simp only [Region.lexB, Bool.and_eq_true] at hB
  refine wp_region_any hm (wpAny_of_absG (rd := nmf r) (wr := nmf w) (Q := K .normal) (fun st' s' w' a' hI' hK => ⟨st', s', hI', hK⟩) _ _ st s _ a hI.drew ?_)
  have := absAnyG_lex (X := X) (rd := nmf r) (wr := nmf w) (Q := K .normal) hN l 0 (Array.replicate l.toArray.size false) st (by simp) (fun k o _ hk => by
    have e : (Array.replicate l.toArray.size false).getD k false = false := by
      rw [Array.getD_eq_getD_getElem?, Array.getElem?_replicate]
      split <;> rfl
    rw [e] at hk; cases hk) (fun j hj => absurd hj (Nat.not_lt_zero j)) (by simp) (by simpa using hB.2) h
  simpa using this
section
variable {l : List Oper} {Q : Vst nn → Prop} {d : Option Tmp} {k : Nat}
theorem g_nil (h : Q st) : absLexG X ops rd wr Q k [] st := h
theorem g_val {p : Prop} {v : V} (hg : o.guard = none) (hd : o.dst = d) (h : act1 X.P st.rs (ev st) o.op = .val p v) (hK : absLexG X ops rd wr Q (k + 1) l (st.put d v)) (hp : p) (hl : inO (rd k) (loads (ev st) o.op) = true) : absLexG X ops rd wr Q k (o :: l) st :=
  ⟨v, [], .inl ⟨by simp [gw, hg], .val h hp hl⟩, by rw [hd]; exact hK⟩
theorem g_call {f : FuncId} {args : List V} {r : V} (hg : o.guard = none) (hd : o.dst = d) (h : act1 X.P st.rs (ev st) o.op = .call f args) (hc : AC X.e X.P f (outL args) r) (hK : absLexG X ops rd wr Q (k + 1) l (st.put d r)) : absLexG X ops rd wr Q k (o :: l) st :=
  ⟨r, [], .inl ⟨by simp [gw, hg], .call h hc⟩, by rw [hd]; exact hK⟩
theorem g_lit {t e : TypeId} {by_ m : Nat} {parts : Array (Nat × Operand)} (ds : List D) (hg : o.guard = none) (ho : o.op = .buildSlice t m parts) (hd : o.dst = d) (he : elemOk X.P t = some (e, by_)) (hn : m = ds.length) (hsm : Nat.ble (m * X.P.cellsOf e) (2 ^ 24) = true)
    (hp : partsD X.P e (ev st) parts.toList 0 ds) (hK : absLexG X ops rd wr Q (k + 1) l (st.put d (.lit e ds))) : absLexG X ops rd wr Q k (o :: l) st :=
  ⟨_, [], .inl ⟨by simp [gw, hg], .lit ho he hn (Nat.le_of_ble_eq_true hsm) hp⟩, by rw [hd]; exact hK⟩
theorem stp_two {v : V} {us : List (Nat × Res)} : stp st d v us = ({ st with rs := updL st.rs us } : Vst nn).put d v := rfl
/-- a call that writes -/
theorem g_callB {f : FuncId} {vargs args : List V} {bs bs' : List Res} {r : V} (ns : List Nat) (hg : o.guard = none) (hd : o.dst = d) (h : act1 X.P st.rs (ev st) o.op = .call f vargs) (hc : ACB X.e X.P f args bs r bs') (hnd : ns.Nodup) (ha : renL (φin ns) vargs = args) (hb : ns.map (fun n => (st.rs n).map (renR (φin ns))) = bs.map some)
    (hlen : bs'.length = ns.length) (hl : ns.all (fun n => (wr k).contains n) = true) (hK : absLexG X ops rd wr Q (k + 1) l ((st.resN ns (bs'.map (renR (φout ns)))).put d (renV (φout ns) r))) : absLexG X ops rd wr Q k (o :: l) st :=
  ⟨_, _, .inl ⟨by simp [gw, hg], .callB ns h hc hnd ha hb hl hlen⟩, by rw [hd, stp_two, updL_zip hnd (by simpa using hlen)]; exact hK⟩
theorem g_app {t e : TypeId} {by_ q : Nat} {x y : Operand} {l1 l2 : List D} (hg : o.guard = none) (ho : o.op = .call { callee := .builtin .append, args := #[x, y], argTypes := #[t, t] }) (hd : o.dst = d) (he : elemOk X.P t = some (e, by_))
    (hleaf : ∀ d, (cellsV X.P 12 e d).all V.leaf = true) (hx : ev st x = .own q e l1) (hw : (wr k).contains q = true) (hr : st.rs q = some (.tok e l1.length)) (hy : (ev st y).out = .sl e l2) (hK : absLexG X ops rd wr Q (k + 1) l ((st.res q (.tok e (l1.length + l2.length))).put d (.own q e (l1 ++ l2))))
    (hp : 0 < l2.length ∧ l1.length + l2.length ≤ maxLen ∧ (l1.length + l2.length) * by_ ≤ 140737488355328) : absLexG X ops rd wr Q k (o :: l) st :=
  ⟨_, _, .inl ⟨by simp [gw, hg], .app hw ho he hleaf hx hr hy hp⟩, by rw [hd, stp_one]; exact hK⟩
theorem g_store {t : TypeId} {x y : Operand} {m off : Nat} {t' : TypeId} {vs xs : List V} (hg : o.guard = none) (ho : o.op = .store t x y) (hd : o.dst = none) (hx : ev st x = .bx m off) (hw : (wr k).contains m = true) (hr : st.rs m = some (.box t' vs)) (hc : cellsOf (ev st y) = some xs)
    (hs : X.P.cellsOf t = xs.length ∧ (X.P.info? t).isSome) (hl : Nat.ble (off + xs.length) vs.length = true) (hK : absLexG X ops rd wr Q (k + 1) l (st.res m (.box t' (splice vs off xs)))) : absLexG X ops rd wr Q k (o :: l) st :=
  ⟨_, _, .inl ⟨by simp [gw, hg], .store hw ho hd hx hr hc hs (Nat.le_of_ble_eq_true hl)⟩, by rw [hd, stp_one]; exact hK⟩
end
end
end Go.Proofs.YtjhjleanihgopaaDoor
namespace Go.Proofs.YtjhjleanihgopaaDoor
open Go.RowKit
attribute [local irreducible] wpList Calls Code.wp
mutual
inductive VLe : V → V → Prop
  | refl (v : V) : VLe v v
  | nil (e : TypeId) : VLe (.c (.slice none 0 0)) (.sl e [])
  | lit (e : TypeId) (l : List D) : VLe (.lit e l) (.sl e l)
  | own (k : Nat) (e : TypeId) (l : List D) : VLe (.own k e l) (.sl e l)
  | agg {a b : List V} : VLeL a b → VLe (.agg a) (.agg b)
  | tup {a b : List V} : VLeL a b → VLe (.tup a) (.tup b)
inductive VLeL : List V → List V → Prop
  | nil : VLeL [] []
  | cons {v u : V} {a b : List V} : VLe v u → VLeL a b → VLeL (v :: a) (u :: b)
end
mutual
theorem rel_le {P : Program} {s : Sg} {w : World} {v u : V} {x : Value} (h : VLe v u) (hr : rel P s w v x) : rel P s w u x := by
  cases h with
  | refl => exact hr
  | nil e =>
    unfold rel at hr ⊢
    rw [hr.1]
    exact ⟨0, none, 0, rfl, Nat.le_refl _, by decide, fun _ => rfl, fun h => by simp at h⟩
  | lit e l => unfold rel at hr ⊢; exact hr.1
  | own k e l => unfold rel at hr ⊢; exact hr.1
  | agg h => unfold rel at hr ⊢; obtain ⟨cs, h1, h2⟩ := hr; exact ⟨cs, h1, relL_le h h2⟩
  | tup h => unfold rel at hr ⊢; obtain ⟨cs, h1, h2⟩ := hr; exact ⟨cs, h1, relL_le h h2⟩
theorem relL_le {P : Program} {s : Sg} {w : World} {a b : List V} {xs : List Value} (h : VLeL a b) (hr : relL P s w a xs) : relL P s w b xs := by
  cases h with
  | nil => exact hr
  | cons h1 h2 =>
    cases xs with
    | nil => unfold relL at hr; exact hr.elim
    | cons x xs => unfold relL at hr ⊢; exact ⟨rel_le h1 hr.1, relL_le h2 hr.2⟩
end
theorem AC.res {e : Ge} {P : Program} {f : FuncId} {args : List V} {r r' : V} (h : AC e P f args r) (hle : VLe r r') : AC e P f args r' := fun s w us hus hfx he =>
  (h s w us hus hfx he).mono fun _ _ ⟨v, F', h1, h2, h3, h4, h5, h6⟩ => ⟨v, F', h1, h2, h3, h4, h5, rel_le hle h6⟩
theorem AC.arg {e : Ge} {P : Program} {f : FuncId} {args args' : List V} {r : V} (h : AC e P f args' r) (hle : VLeL args args') : AC e P f args r := fun s w us hus hfx he => h s w us (relL_le hle hus) hfx he
section
variable {X : Cx} {nn : Nat} {st : Vst nn} {o : Oper} {ops : Array Oper} {l : List Oper} {d : Option Tmp} {KK : Vst nn → Prop}
theorem opOk_valW {K : Vst nn → Prop} {p : Prop} {v : V} (v' : V) (h : act1 X.P st.rs (ev st) o.op = .val p v) (hle : VLe v v') (hp : p) (hK : K (st.put o.dst v')) : OpOk X o st K := by
  intro s w a hI N Q hN
  obtain ⟨u, h1, h2⟩ := act1_ok h hp hI.boxes hI.ev
  unfold Oper.wp
  rw [h1, Oper.upon_value]
  exact hN _ _ _ _ (hI.put o.dst (rel_le hle h2)) hK
/-- a value that is built, said as data -/
theorem s_valW {p : Prop} {v : V} (v' : V) (hg : o.guard = none) (hd : o.dst = d) (h : act1 X.P st.rs (ev st) o.op = .val p v) (hle : VLe v v') (hK : AWo X ops l (st.put d v') KK) (hp : p) : AWo X ops (o :: l) st KK := awo_cons hg (opOk_valW v' h hle hp (by rw [hd]; exact hK))
end
theorem ACB.res {e : Ge} {P : Program} {f : FuncId} {args : List V} {bs bs' : List Res} {r r' : V} (h : ACB e P f args bs r bs') (hle : VLe r r') : ACB e P f args bs r' bs' := fun pas s w us hus hm he hp =>
  (h pas s w us hus hm he hp).mono fun _ _ ⟨v, s', h1, h2, h3, h4, h5, h6, h7⟩ => ⟨v, s', h1, h2, h3, h4, h5, h6, rel_le hle h7⟩
section
variable {X : Cx} {nn : Nat} {st : Vst nn}
/-- the region that a statement begins with -/
def headR : Code → Option Nat
  | .region id _ _ => some id
  | .seq x _ => headR x
  | .block _ x => headR x
  | .scope x => headR x
  | .loop x => headR x
  | _ => none
def cutK (X : Cx) (st1 : Vst nn) (K : Exit → Vst nn → Prop) : Exit → Vst nn → Prop
  | .normal, st => Sub X st st1
  | e, st => K e st
/-- what follows is walked once, from the state st1 -/
theorem aw_cutAt (n : Nat) (st1 : Vst nn) {x y : Code} {K : Exit → Vst nn → Prop} (_hn : headR y = some n) (hx : AW X x st (cutK X st1 K)) (hy : AW X y st1 K) : AW X (.seq x y) st K := by
  refine aw_seq ?_
  intro s w a hI
  refine Code.wp_mono (fun e a' w' ⟨st', s', hI', hK⟩ => ?_) (hx s w a hI)
  cases e
  case normal =>
    refine ⟨st', s', hI', ?_⟩
    show AW X y st' K
    exact aw_sub hK hy
  all_goals exact ⟨st', s', hI', hK⟩
theorem k_cut {st1 : Vst nn} {K : Exit → Vst nn → Prop} (h : Sub X st st1) : cutK X st1 K .normal st := h
theorem k_cut_ret {st1 : Vst nn} {K : Exit → Vst nn → Prop} (h : K .ret st) : cutK X st1 K .ret st := h
theorem k_cut_exit {st1 : Vst nn} {K : Exit → Vst nn → Prop} {id : Nat} (h : K (.exit id) st) : cutK X st1 K (.exit id) st := h
end
end Go.Proofs.YtjhjleanihgopaaDoor
namespace Go.Proofs.YtjhjleanihgopaaDoor
abbrev JE := Nat × Int
def isSp (c : UInt8) : Bool := c == 32 || c == 9 || c == 10 || c == 13
def spc (r : List UInt8) : List UInt8 := r.dropWhile isSp
def takeJ (p : UInt8 → Bool) : List UInt8 → Except JE (List UInt8)
  | [] => .error (0, 3)
  | c :: r => if p c then .ok r else .error (r.length + 1, 3)
def wordJ : List UInt8 → List UInt8 → Except JE (List UInt8)
  | [], r => .ok r
  | c :: w, r => (takeJ (· == c) r).bind (wordJ w)
def simJ (c : UInt8) : Bool := c == 34 || c == 92 || c == 47 || c == 98 || c == 102 || c == 110 || c == 114 || c == 116
def hexJ (c : UInt8) : Bool := digU c || decide (97 ≤ c.toNat ∧ c.toNat ≤ 102) || decide (65 ≤ c.toNat ∧ c.toNat ≤ 70)
/-- an escape, behind its backslash -/
def escJ : List UInt8 → Except JE (List UInt8)
  | [] => .error (0, 3)
  | d :: r => if simJ d then .ok r else if d == 117 then (takeJ (· == 48) r).bind fun r => (takeJ (· == 48) r).bind fun r => (takeJ hexJ r).bind fun r => takeJ hexJ r else .error (r.length + 1, 3)
/-- a string, behind its first quote -/
def bodyJ : Nat → List UInt8 → Except JE (List UInt8)
  | 0, r => .error (r.length, 3)
  | _ + 1, [] => .error (0, 3)
  | n + 1, c :: r =>
    if c.toNat < 32 ∨ 126 < c.toNat then .error (r.length + 1, 3)
    else if c = 34 then .ok r
    else if c = 92 then (escJ r).bind (bodyJ n)
    else bodyJ n r
/-- what was read of r, where q is left -/
def readJ (r q : List UInt8) : List UInt8 := r.take (r.length - q.length)
def strJ (r : List UInt8) : Except JE (List UInt8 × List UInt8) :=
  (takeJ (· == 34) r).bind fun r1 => (bodyJ (r1.length + 1) r1).bind fun q => .ok ((unquoteU (readJ r q)).getD [], q)
def numOk : Lib.NumEnd Int → Option Int
  | .ok n => some n
  | _ => none
/-- an integer -/
def numJ (r : List UInt8) : Except JE (Int × List UInt8) :=
  let r1 := if r.head? = some 45 then r.tail else r
  (takeJ (fun c => digU c && !(c == 48 && r.head? == some 45)) r1).bind fun r2 =>
    let q := if r1.head? = some 48 then r2 else r2.dropWhile digU
    match numOk (numU (readJ r q)) with
    | some n => .ok (n, q)
    | none => .error (r.length, 4)
def beginsJ (c : UInt8) : Bool := digU c || c == 45 || c == 34 || c == 91 || c == 123 || c == 110 || c == 116 || c == 102
def vD (k n : Int) (s : List UInt8) (items keys : List D) : D := .obj [.int k, .int n, .str ⟨s.toArray⟩, .list items, .list keys]
/-- the items of a list, from the first one on; f reads a value -/
def itemsJ (f : Nat → List UInt8 → Except JE (D × Nat × List UInt8)) : Nat → Nat → List UInt8 → List D → Except JE (List D × Nat × List UInt8)
  | 0, _, r, _ => .error (r.length, 3)
  | k + 1, m, r, l => (f m r).bind fun x =>
    match spc x.2.2 with
    | [] => .error (0, 3)
    | c :: q => if c = 44 then itemsJ f k x.2.1 q (l ++ [x.1]) else if c = 93 then .ok (l ++ [x.1], x.2.1, q) else .error (q.length + 1, 3)
/-- the fields of an object, from the first one on -/
def fieldsJ (f : Nat → List UInt8 → Except JE (D × Nat × List UInt8)) : Nat → Nat → List UInt8 → List (List UInt8) → List D → Except JE (List (List UInt8) × List D × Nat × List UInt8)
  | 0, _, r, _, _ => .error (r.length, 3)
  | k + 1, m, r, ks, l => (strJ (spc r)).bind fun y =>
    if y.1 ∈ ks then .error ((spc r).length, 7) else
    (takeJ (· == 58) (spc y.2)).bind fun r2 => (f m r2).bind fun x =>
    match spc x.2.2 with
    | [] => .error (0, 3)
    | c :: q => if c = 44 then fieldsJ f k x.2.1 q (ks ++ [y.1]) (l ++ [x.1]) else if c = 125 then .ok (ks ++ [y.1], l ++ [x.1], x.2.1, q) else .error (q.length + 1, 3)
/-- a value, k levels below it; m nodes were read before it -/
def valueJ : Nat → Nat → List UInt8 → Except JE (D × Nat × List UInt8)
  | 0, _, r0 =>
    match spc r0 with
    | [] => .error (0, 3)
    | c :: r => if beginsJ c = false then .error (r.length + 1, 3) else .error (r.length + 1, 5)
  | k + 1, m, r0 =>
    match spc r0 with
    | [] => .error (0, 3)
    | c :: r =>
      if beginsJ c = false then .error (r.length + 1, 3)
      else if 4096 < m + 1 then .error (r.length + 1, 4)
      else if c = 110 then (wordJ [110, 117, 108, 108] (c :: r)).bind fun q => .ok (vD 0 0 [] [] [], m + 1, q)
      else if c = 116 then (wordJ [116, 114, 117, 101] (c :: r)).bind fun q => .ok (vD 1 1 [] [] [], m + 1, q)
      else if c = 102 then (wordJ [102, 97, 108, 115, 101] (c :: r)).bind fun q => .ok (vD 1 0 [] [] [], m + 1, q)
      else if c = 34 then (strJ (c :: r)).bind fun y => .ok (vD 3 0 y.1 [] [], m + 1, y.2)
      else if c = 91 then
        if (spc r).head? = some 93 then .ok (vD 5 0 [] [] [], m + 1, (spc r).tail)
        else (itemsJ (valueJ k) (r.length + 1) (m + 1) (spc r) []).bind fun y => .ok (vD 5 0 [] y.1 [], y.2.1, y.2.2)
      else if c = 123 then
        if (spc r).head? = some 125 then .ok (vD 6 0 [] [] [], m + 1, (spc r).tail)
        else (fieldsJ (valueJ k) (r.length + 1) (m + 1) (spc r) [] []).bind fun y => .ok (vD 6 0 [] y.2.1 (y.1.map fun s => D.str ⟨s.toArray⟩), y.2.2.1, y.2.2.2)
      else (numJ (c :: r)).bind fun y => .ok (vD 2 y.1 [] [] [], m + 1, y.2)
/-- the whole: a value, the index of an error, the error -/
def parseJ (s : List UInt8) : Except JE D :=
  (valueJ 24 0 s).bind fun x => match spc x.2.2 with | [] => .ok x.1 | _ :: q => .error (q.length + 1, 3)
theorem spc_suffix (r : List UInt8) : spc r <:+ r := List.dropWhile_suffix _
theorem takeJ_ok {p : UInt8 → Bool} {r q : List UInt8} (h : takeJ p r = .ok q) : ∃ c, r = c :: q ∧ p c = true := by
  cases r with
  | nil => cases h
  | cons c r =>
    by_cases hp : p c = true
    · rw [takeJ, if_pos hp] at h; cases h; exact ⟨c, rfl, hp⟩
    · rw [takeJ, if_neg hp] at h; cases h
theorem bind_ok {α β ε : Type} {x : Except ε α} {f : α → Except ε β} {y : β} (h : x.bind f = .ok y) : ∃ a, x = .ok a ∧ f a = .ok y := by
  cases x with
  | error e => cases h
  | ok a => exact ⟨a, rfl, h⟩
theorem takeJ_suffix {p : UInt8 → Bool} {r q : List UInt8} (h : takeJ p r = .ok q) : q <:+ r ∧ q.length < r.length := by
  obtain ⟨c, rfl, -⟩ := takeJ_ok h
  exact ⟨List.suffix_cons _ _, by simp⟩
theorem wordJ_suffix : ∀ {w r q : List UInt8}, wordJ w r = .ok q → q <:+ r
  | [], r, q, h => by cases h; exact List.suffix_refl _
  | c :: w, r, q, h => by
    obtain ⟨a, h1, h2⟩ := bind_ok h
    exact (wordJ_suffix h2).trans (takeJ_suffix h1).1
theorem escJ_suffix {r q : List UInt8} (h : escJ r = .ok q) : q <:+ r ∧ q.length < r.length := by
  cases r with
  | nil => cases h
  | cons d r =>
    by_cases hs : simJ d = true
    · rw [escJ, if_pos hs] at h; cases h; exact ⟨List.suffix_cons _ _, by simp⟩
    · rw [escJ, if_neg hs] at h
      by_cases hu : (d == 117) = true
      · rw [if_pos hu] at h
        obtain ⟨a, h1, h⟩ := bind_ok h
        obtain ⟨b, h2, h⟩ := bind_ok h
        obtain ⟨c, h3, h⟩ := bind_ok h
        have q1 := takeJ_suffix h1
        have q2 := takeJ_suffix h2
        have q3 := takeJ_suffix h3
        have q4 := takeJ_suffix h
        exact ⟨(((q4.1.trans q3.1).trans q2.1).trans q1.1).trans (List.suffix_cons _ _), by simp; omega⟩
      · rw [if_neg hu] at h; cases h
theorem bodyJ_suffix : ∀ {n : Nat} {r q : List UInt8}, bodyJ n r = .ok q → q <:+ r ∧ q.length < r.length
  | 0, _, _, h => by cases h
  | n + 1, [], _, h => by cases h
  | n + 1, c :: r, q, h => by
    unfold bodyJ at h
    split at h
    · cases h
    split at h
    · cases h; exact ⟨List.suffix_cons _ _, by simp⟩
    split at h
    · obtain ⟨a, h1, h2⟩ := bind_ok h
      have q1 := escJ_suffix h1
      have q2 := bodyJ_suffix h2
      exact ⟨(q2.1.trans q1.1).trans (List.suffix_cons _ _), by simp; omega⟩
    · have q2 := bodyJ_suffix h
      exact ⟨q2.1.trans (List.suffix_cons _ _), by simp; omega⟩
theorem strJ_suffix {r : List UInt8} {y : List UInt8 × List UInt8} (h : strJ r = .ok y) : y.2 <:+ r ∧ y.2.length < r.length := by
  obtain ⟨a, h1, h⟩ := bind_ok h
  obtain ⟨b, h2, h⟩ := bind_ok h
  cases h
  have q1 := takeJ_suffix h1
  have q2 := bodyJ_suffix h2
  exact ⟨q2.1.trans q1.1, by show b.length < _; omega⟩
theorem numJ_suffix {r : List UInt8} {y : Int × List UInt8} (h : numJ r = .ok y) : y.2 <:+ r ∧ y.2.length < r.length := by
  unfold numJ at h
  obtain ⟨a, h1, h⟩ := bind_ok h
  have q1 := takeJ_suffix h1
  have q0 : (if r.head? = some 45 then r.tail else r) <:+ r := by
    by_cases hh : r.head? = some 45
    · rw [if_pos hh]; exact List.tail_suffix _
    · rw [if_neg hh]; exact List.suffix_refl _
  generalize (if r.head? = some 45 then r.tail else r) = r1 at h h1 q1 q0
  have q2 : (if r1.head? = some 48 then a else a.dropWhile digU) <:+ a := by
    by_cases hh : r1.head? = some 48
    · rw [if_pos hh]; exact List.suffix_refl _
    · rw [if_neg hh]; exact List.dropWhile_suffix _
  dsimp only at h
  generalize (if r1.head? = some 48 then a else a.dropWhile digU) = q at h q2
  cases hn : numOk (numU (readJ r q)) with
  | none => rw [hn] at h; cases h
  | some n =>
    rw [hn] at h
    cases h
    have l0 := q0.length_le
    have l2 := q2.length_le
    exact ⟨(q2.trans q1.1).trans q0, by show q.length < _; omega⟩
end Go.Proofs.YtjhjleanihgopaaDoor
namespace Go.Proofs.YtjhjleanihgopaaDoor
/-- the reader: where it is, how many nodes it has read, where it failed, the error -/
structure JS where
  p : Nat
  m : Nat
  bad : Int
  e : Int
def failS (x : JS) (q : Nat) (c : Int) : JS := if x.e = 0 then ⟨x.p, x.m, q, c⟩ else x
section
variable (S : List UInt8)
def atS (x : JS) : UInt8 := S.getD x.p 0
def spaceS (x : JS) : JS := ⟨S.length - (spc (S.drop x.p)).length, x.m, x.bad, x.e⟩
def goS (x : JS) : JS := ⟨x.p + 1, x.m, x.bad, x.e⟩
def takeS (q : List UInt8) (x : JS) : UInt8 × JS :=
  if x.e = 0 ∧ x.p < S.length ∧ q.contains (atS S x) = true then (atS S x, goS x) else (0, failS x x.p 3)
def wordS (w : List UInt8) (x : JS) : JS := w.foldl (fun x c => (takeS S [c] x).2) x
def digsS (x : JS) : JS := if x.e = 0 then ⟨S.length - ((S.drop x.p).dropWhile digU).length, x.m, x.bad, x.e⟩ else x
def d10 : List UInt8 := [48, 49, 50, 51, 52, 53, 54, 55, 56, 57]
def d9 : List UInt8 := [49, 50, 51, 52, 53, 54, 55, 56, 57]
def dHex : List UInt8 := [48, 49, 50, 51, 52, 53, 54, 55, 56, 57, 97, 98, 99, 100, 101, 102, 65, 66, 67, 68, 69, 70]
def dEsc : List UInt8 := [34, 92, 47, 98, 102, 110, 114, 116, 117]
def dBeg : List UInt8 := [110, 116, 102, 34, 45, 91, 123, 48, 49, 50, 51, 52, 53, 54, 55, 56, 57]
def numE : Lib.NumEnd Int → Int × Int
  | .ok n => (n, 0)
  | .range => (0, 4)
  | Lib.NumEnd.syntax => (0, 3)
def midS (a b : Nat) : List UInt8 := (S.take b).drop a
def numberS (x : JS) : D × JS :=
  let t := takeS S (if atS S x = 45 then d9 else d10) (if atS S x = 45 then goS x else x)
  let y := if t.1 = 48 then t.2 else digsS S t.2
  if y.e ≠ 0 then (vD 0 0 [] [] [], y) else
  let v := numE (numU (midS S x.p y.p))
  (vD 2 v.1 [] [] [], if v.2 ≠ 0 then failS y x.p v.2 else y)
def escS (x : JS) : JS :=
  let t := takeS S dEsc x
  if t.1 = 117 then (takeS S dHex (takeS S dHex (takeS S [48] (takeS S [48] t.2).2).2).2).2 else t.2
def bodyS (a : Nat) : Nat → JS → List UInt8 × JS
  | 0, x => ([], x)
  | k + 1, x =>
    if x.e ≠ 0 then ([], x)
    else if x.p = S.length ∨ (atS S x).toNat < 32 ∨ 126 < (atS S x).toNat then bodyS a k (failS x x.p 3)
    else if atS S x = 34 then ((unquoteU (midS S a (x.p + 1))).getD [], goS x)
    else if atS S x = 92 then bodyS a k (escS S (goS x))
    else bodyS a k (goS x)
def strS (x : JS) : List UInt8 × JS := bodyS S x.p (S.length + 3) (takeS S [34] x).2
def itemsS (f : JS → D × JS) : Nat → JS → List D → List D × JS
  | 0, x, l => (l, x)
  | j + 1, x, l =>
    if x.e ≠ 0 then (l, x) else
    let y := f x
    let t := takeS S [44, 93] (spaceS S y.2)
    if t.1 = 93 then (l ++ [y.1], t.2) else itemsS f j t.2 (l ++ [y.1])
def twiceS (ks : List (List UInt8)) (k : List UInt8) (q : Nat) (x : JS) : JS := if x.e = 0 ∧ k ∈ ks then failS x q 7 else x
def fieldsS (f : JS → D × JS) : Nat → JS → List (List UInt8) → List D → List (List UInt8) × List D × JS
  | 0, x, ks, l => (ks, l, x)
  | j + 1, x, ks, l =>
    if x.e ≠ 0 then (ks, l, x) else
    let y := strS S (spaceS S x)
    let z := f (takeS S [58] (spaceS S (twiceS ks y.1 (spaceS S x).p y.2))).2
    let t := takeS S [44, 125] (spaceS S z.2)
    if t.1 = 125 then (ks ++ [y.1], l ++ [z.1], t.2) else fieldsS f j t.2 (ks ++ [y.1]) (l ++ [z.1])
def listS (f : JS → D × JS) (x : JS) : D × JS :=
  let y := spaceS S (goS x)
  if atS S y = 93 then (vD 5 0 [] [] [], goS y) else
  let z := itemsS S f (S.length + 2) y []
  (vD 5 0 [] z.1 [], z.2)
def keysD (ks : List (List UInt8)) : List D := ks.map fun s => D.str ⟨s.toArray⟩
def objS (f : JS → D × JS) (x : JS) : D × JS :=
  let y := spaceS S (goS x)
  if atS S y = 125 then (vD 6 0 [] [] [], goS y) else
  let z := fieldsS S f (S.length + 2) y [] []
  (vD 6 0 [] z.2.1 (keysD z.1), z.2.2)
/-- a value's head: is there one, is it not too deep, are there not too many -/
def headS (deep : Bool) (x : JS) : JS :=
  let x0 := spaceS S x
  let x1 := if x0.p = S.length ∨ dBeg.contains (atS S x0) = false then failS x0 x0.p 3 else x0
  let x2 := if deep then failS x1 x1.p 5 else x1
  let x3 : JS := ⟨x2.p, x2.m + 1, x2.bad, x2.e⟩
  if 4096 < x3.m then failS x3 x3.p 4 else x3
def stepS (f : JS → D × JS) (deep : Bool) (x : JS) : D × JS :=
  let y := headS S deep x
  if y.e ≠ 0 then (vD 0 0 [] [] [], y)
  else if atS S y = 110 then (vD 0 0 [] [] [], wordS S [110, 117, 108, 108] y)
  else if atS S y = 116 then (vD 1 1 [] [] [], wordS S [116, 114, 117, 101] y)
  else if atS S y = 102 then (vD 1 0 [] [] [], wordS S [102, 97, 108, 115, 101] y)
  else if atS S y = 34 then (vD 3 0 (strS S y).1 [] [], (strS S y).2)
  else if atS S y = 91 then listS S f y
  else if atS S y = 123 then objS S f y
  else numberS S y
def valueS : Nat → JS → D × JS
  | 0 => stepS S (fun x => (vD 0 0 [] [] [], x)) true
  | k + 1 => stepS S (valueS k) false
def parseS : D × Int × Int :=
  let y := valueS S 24 ⟨0, 0, 0, 0⟩
  let x1 := spaceS S y.2
  let x2 := if x1.p < S.length then failS x1 x1.p 3 else x1
  if x2.e ≠ 0 then (vD 0 0 [] [] [], x2.bad, x2.e) else (y.1, 0, 0)
def okS (x : JS) (r : List UInt8) (m : Nat) : Prop := x.e = 0 ∧ x.bad = 0 ∧ x.m = m ∧ x.p ≤ S.length ∧ S.drop x.p = r
def bdS (x : JS) (k : Nat) (c : Int) : Prop := x.e = c ∧ c ≠ 0 ∧ x.bad = (S.length : Int) - k ∧ x.p ≤ S.length
end
variable {S : List UInt8} {x : JS} {r : List UInt8} {m k : Nat} {c : Int}
theorem okS.nne (h : okS S x r m) : ¬ x.e ≠ 0 := fun hh => hh h.1
theorem okS.len (h : okS S x r m) : x.p + r.length = S.length := by
  obtain ⟨-, -, -, h4, h5⟩ := h
  rw [← h5, List.length_drop]; omega
theorem okS.pos (h : okS S x r m) : x.p = S.length - r.length := by have := h.len; omega
theorem okS.atNil (h : okS S x [] m) : x.p = S.length ∧ atS S x = 0 := by
  have := h.len
  refine ⟨by simpa using this, ?_⟩
  unfold atS
  rw [List.getD_eq_getElem?_getD, List.getElem?_eq_none (by simp at this; omega)]; rfl
theorem okS.atCons {c : UInt8} {r : List UInt8} (h : okS S x (c :: r) m) : x.p < S.length ∧ atS S x = c := by
  have hl := h.len
  have hlt : x.p < S.length := by simp at hl; omega
  refine ⟨hlt, ?_⟩
  have h5 := h.2.2.2.2
  rw [List.drop_eq_getElem_cons hlt] at h5
  cases h5
  unfold atS
  rw [List.getD_eq_getElem?_getD, List.getElem?_eq_getElem hlt]; rfl
theorem okS.go {c : UInt8} {r : List UInt8} (h : okS S x (c :: r) m) : okS S (goS x) r m := by
  obtain ⟨h1, h2, h3, h4, h5⟩ := h
  have hlt := (okS.atCons (S := S) ⟨h1, h2, h3, h4, h5⟩).1
  refine ⟨h1, h2, h3, hlt, ?_⟩
  rw [List.drop_eq_getElem_cons hlt] at h5
  cases h5; rfl
theorem drop_suffix {q : List UInt8} (h : q <:+ S) : S.drop (S.length - q.length) = q := by
  obtain ⟨t, rfl⟩ := h
  simp
theorem okS.suffix (h : okS S x r m) : r <:+ S := h.2.2.2.2 ▸ List.drop_suffix _ _
/-- the reader goes on to a later place -/
theorem okS.to (h : okS S x r m) {q : List UInt8} (hq : q <:+ r) : okS S ⟨S.length - q.length, x.m, x.bad, x.e⟩ q m :=
  ⟨h.1, h.2.1, h.2.2.1, Nat.sub_le _ _, drop_suffix (hq.trans h.suffix)⟩
theorem okS.space (h : okS S x r m) : okS S (spaceS S x) (spc r) m := by
  unfold spaceS
  rw [h.2.2.2.2]
  exact h.to (spc_suffix r)
theorem okS.fail (h : okS S x r m) (hc : c ≠ 0) : bdS S (failS x x.p c) r.length c := by
  have hl := h.len
  unfold failS
  rw [if_pos h.1]
  exact ⟨rfl, hc, by show (x.p : Int) = _; omega, h.2.2.2.1⟩
/-- a failure further back -/
theorem okS.failAt (h : okS S x r m) {q : List UInt8} (hq : q.length ≤ S.length) (hc : c ≠ 0) : bdS S (failS x (S.length - q.length) c) q.length c := by
  unfold failS
  rw [if_pos h.1]
  exact ⟨rfl, hc, by show ((S.length - q.length : Nat) : Int) = _; omega, h.2.2.2.1⟩
theorem bdS.ne (h : bdS S x k c) : x.e ≠ 0 := by rw [h.1]; exact h.2.1
theorem bdS.fail (h : bdS S x k c) (q : Nat) (d : Int) : failS x q d = x := by
  unfold failS; rw [if_neg h.ne]
theorem bdS.space (h : bdS S x k c) : bdS S (spaceS S x) k c := ⟨h.1, h.2.1, h.2.2.1, Nat.sub_le _ _⟩
theorem bdS.take (h : bdS S x k c) (q : List UInt8) : takeS S q x = (0, x) := by
  unfold takeS; rw [if_neg fun hh => h.ne hh.1, h.fail]
theorem take_yes {c : UInt8} {r q : List UInt8} (h : okS S x (c :: r) m) (hq : q.contains c = true) : takeS S q x = (c, goS x) := by
  unfold takeS
  rw [h.atCons.2, if_pos ⟨h.1, h.atCons.1, hq⟩]
theorem take_nil {q : List UInt8} (h : okS S x [] m) : takeS S q x = (0, failS x x.p 3) := by
  unfold takeS
  rw [if_neg fun hh => by have := h.atNil.1; omega]
theorem take_no {c : UInt8} {r q : List UInt8} (h : okS S x (c :: r) m) (hq : q.contains c = false) : takeS S q x = (0, failS x x.p 3) := by
  unfold takeS
  rw [h.atCons.2, if_neg fun hh => by rw [hq] at hh; exact Bool.noConfusion hh.2.2]
/-- what an expected byte brings -/
theorem take_spec {q : List UInt8} {p : UInt8 → Bool} (hp : ∀ c, q.contains c = p c) (h : okS S x r m) :
    match takeJ p r with
    | .ok r' => (∃ c, r = c :: r' ∧ (takeS S q x).1 = c ∧ p c = true) ∧ okS S (takeS S q x).2 r' m
    | .error (k, e) => (takeS S q x).1 = 0 ∧ bdS S (takeS S q x).2 k e := by
  cases r with
  | nil => rw [takeJ, take_nil h]; exact ⟨rfl, h.fail (by decide)⟩
  | cons c r =>
    by_cases hc : p c = true
    · rw [takeJ, if_pos hc, take_yes h (by rw [hp]; exact hc)]
      exact ⟨⟨c, rfl, rfl, hc⟩, h.go⟩
    · rw [takeJ, if_neg hc, take_no h (by rw [hp]; simpa using hc)]
      exact ⟨rfl, by have := h.fail (c := 3) (by decide); simpa using this⟩
theorem has_one (a c : UInt8) : [a].contains c = (c == a) := by
  simp only [List.contains_cons, List.contains_nil, Bool.or_false]
theorem word_spec : ∀ {w : List UInt8} {x : JS} {r : List UInt8}, okS S x r m → match wordJ w r with | .ok q => okS S (wordS S w x) q m | .error (k, e) => bdS S (wordS S w x) k e
  | [], x, r, h => h
  | a :: w, x, r, h => by
    have h1 := take_spec (has_one a) h
    show match (takeJ (· == a) r).bind (wordJ w) with | .ok q => okS S (wordS S w (takeS S [a] x).2) q m | .error (k, e) => bdS S (wordS S w (takeS S [a] x).2) k e
    cases hx : takeJ (· == a) r with
    | ok r' => rw [hx] at h1; exact word_spec h1.2
    | error ke =>
      rw [hx] at h1
      have h2 := h1.2
      show bdS S (wordS S w (takeS S [a] x).2) ke.1 ke.2
      clear h1 hx
      generalize (takeS S [a] x).2 = y at h2
      induction w with
      | nil => exact h2
      | cons b w ih => show bdS S (wordS S w (takeS S [b] y).2) _ _; rw [h2.take]; exact ih
theorem d10_dig (c : UInt8) : d10.contains c = digU c := all256 (p := fun c => d10.contains c = digU c) (by decide +kernel) c
theorem d9_dig (c : UInt8) : d9.contains c = (digU c && !(c == 48)) := all256 (p := fun c => d9.contains c = (digU c && !(c == 48))) (by decide +kernel) c
theorem dHex_hex (c : UInt8) : dHex.contains c = hexJ c := all256 (p := fun c => dHex.contains c = hexJ c) (by decide +kernel) c
theorem dEsc_esc (c : UInt8) : dEsc.contains c = (simJ c || c == 117) := all256 (p := fun c => dEsc.contains c = (simJ c || c == 117)) (by decide +kernel) c
theorem dBeg_beg (c : UInt8) : dBeg.contains c = beginsJ c := all256 (p := fun c => dBeg.contains c = beginsJ c) (by decide +kernel) c
/-- a reader of values: what it leaves is a part, behind something; it counts -/
def PartJ (f : Nat → List UInt8 → Except JE (D × Nat × List UInt8)) : Prop := ∀ m r y, f m r = .ok y → y.2.2 <:+ r ∧ y.2.2.length < r.length ∧ m < y.2.1 ∧ y.2.1 ≤ 4096
theorem items_part {f : Nat → List UInt8 → Except JE (D × Nat × List UInt8)} (hf : PartJ f) : ∀ {j m : Nat} {r : List UInt8} {l : List D} {y : List D × Nat × List UInt8}, itemsJ f j m r l = .ok y → y.2.2 <:+ r ∧ y.2.2.length < r.length ∧ m < y.2.1 ∧ y.2.1 ≤ 4096
  | 0, _, _, _, _, h => by cases h
  | j + 1, m, r, l, y, h => by
    unfold itemsJ at h
    obtain ⟨x, h1, h⟩ := bind_ok h
    obtain ⟨q1, q2, q3, q4⟩ := hf m r x h1
    have q5 := spc_suffix x.2.2
    cases hs : spc x.2.2 with
    | nil => rw [hs] at h; cases h
    | cons c q =>
      rw [hs] at h q5
      have q6 : q <:+ x.2.2 := (List.suffix_cons c q).trans q5
      have q7 := q5.length_le
      simp only [List.length_cons] at q7
      dsimp only at h
      split at h
      · obtain ⟨p1, p2, p3, p4⟩ := items_part hf h
        exact ⟨(p1.trans q6).trans q1, by omega, by omega, p4⟩
      · split at h
        · cases h; exact ⟨q6.trans q1, by show q.length < _; omega, q3, q4⟩
        · cases h
theorem fields_part {f : Nat → List UInt8 → Except JE (D × Nat × List UInt8)} (hf : PartJ f) : ∀ {j m : Nat} {r : List UInt8} {ks : List (List UInt8)} {l : List D} {y : List (List UInt8) × List D × Nat × List UInt8}, fieldsJ f j m r ks l = .ok y → y.2.2.2 <:+ r ∧ y.2.2.2.length < r.length ∧ m < y.2.2.1 ∧ y.2.2.1 ≤ 4096
  | 0, _, _, _, _, _, h => by cases h
  | j + 1, m, r, ks, l, y, h => by
    unfold fieldsJ at h
    obtain ⟨u, h1, h⟩ := bind_ok h
    have u1 := strJ_suffix h1
    have u0 := spc_suffix r
    have u2 := u0.length_le
    split at h
    · cases h
    obtain ⟨r2, h2, h⟩ := bind_ok h
    have v1 := takeJ_suffix h2
    have v2 := spc_suffix u.2
    have v3 := v2.length_le
    obtain ⟨x, h3, h⟩ := bind_ok h
    obtain ⟨q1, q2, q3, q4⟩ := hf m r2 x h3
    have q0 := ((q1.trans v1.1).trans v2).trans (u1.1.trans u0)
    have q5 := spc_suffix x.2.2
    cases hs : spc x.2.2 with
    | nil => rw [hs] at h; cases h
    | cons c q =>
      rw [hs] at h q5
      have q6 : q <:+ x.2.2 := (List.suffix_cons c q).trans q5
      have q7 := q5.length_le
      simp only [List.length_cons] at q7
      dsimp only at h
      split at h
      · obtain ⟨p1, p2, p3, p4⟩ := fields_part hf h
        exact ⟨(p1.trans q6).trans q0, by omega, by omega, p4⟩
      · split at h
        · cases h; exact ⟨q6.trans q0, by show q.length < _; omega, q3, q4⟩
        · cases h
theorem value_part : ∀ k : Nat, PartJ (valueJ k)
  | 0, m, r0, y, h => by
    unfold valueJ at h
    cases hs : spc r0 with
    | nil => rw [hs] at h; cases h
    | cons c r =>
      rw [hs] at h
      dsimp only at h
      split at h <;> cases h
  | k + 1, m, r0, y, h => by
    have ih := value_part k
    unfold valueJ at h
    have s0 := spc_suffix r0
    have s1 := s0.length_le
    cases hs : spc r0 with
    | nil => rw [hs] at h; cases h
    | cons c r =>
      rw [hs] at h s0 s1
      simp only [List.length_cons] at s1
      dsimp only at h
      have fin : ∀ q : List UInt8, q <:+ c :: r → q.length < (c :: r).length → q <:+ r0 ∧ q.length < r0.length := fun q a b => ⟨a.trans s0, by simp only [List.length_cons] at b; omega⟩
      have t1 : ∀ b : UInt8, (spc r).head? = some b → (spc r).tail <:+ c :: r ∧ (spc r).tail.length < (c :: r).length := fun b hb => by
        have e1 := spc_suffix r
        have e2 := e1.length_le
        refine ⟨((List.tail_suffix _).trans e1).trans (List.suffix_cons _ _), ?_⟩
        simp only [List.length_tail, List.length_cons]; omega
      split at h
      · cases h
      split at h
      · cases h
      rename_i hm
      split at h
      · obtain ⟨q, h1, h2⟩ := bind_ok h
        cases h2
        obtain ⟨a, h3, h4⟩ := bind_ok h1
        have := (takeJ_suffix h3).2
        have := (wordJ_suffix h4).length_le
        have w := fin q (wordJ_suffix h1) (by omega)
        exact ⟨w.1, w.2, Nat.lt_succ_self _, by show m + 1 ≤ 4096; omega⟩
      split at h
      · obtain ⟨q, h1, h2⟩ := bind_ok h
        cases h2
        obtain ⟨a, h3, h4⟩ := bind_ok h1
        have := (takeJ_suffix h3).2
        have := (wordJ_suffix h4).length_le
        have w := fin q (wordJ_suffix h1) (by omega)
        exact ⟨w.1, w.2, Nat.lt_succ_self _, by show m + 1 ≤ 4096; omega⟩
      split at h
      · obtain ⟨q, h1, h2⟩ := bind_ok h
        cases h2
        obtain ⟨a, h3, h4⟩ := bind_ok h1
        have := (takeJ_suffix h3).2
        have := (wordJ_suffix h4).length_le
        have w := fin q (wordJ_suffix h1) (by omega)
        exact ⟨w.1, w.2, Nat.lt_succ_self _, by show m + 1 ≤ 4096; omega⟩
      split at h
      · obtain ⟨q, h1, h2⟩ := bind_ok h
        cases h2
        have w := fin q.2 (strJ_suffix h1).1 (strJ_suffix h1).2
        exact ⟨w.1, w.2, Nat.lt_succ_self _, by show m + 1 ≤ 4096; omega⟩
      split at h
      · split at h
        · rename_i hb
          cases h
          have w := fin _ (t1 _ hb).1 (t1 _ hb).2
          exact ⟨w.1, w.2, Nat.lt_succ_self _, by show m + 1 ≤ 4096; omega⟩
        · obtain ⟨q, h1, h2⟩ := bind_ok h
          cases h2
          obtain ⟨p1, p2, p3, p4⟩ := items_part ih h1
          have e1 := spc_suffix r
          have e2 := e1.length_le
          have w := fin q.2.2 ((p1.trans e1).trans (List.suffix_cons _ _)) (by simp only [List.length_cons]; omega)
          exact ⟨w.1, w.2, Nat.lt_trans (Nat.lt_succ_self _) p3, p4⟩
      split at h
      · split at h
        · rename_i hb
          cases h
          have w := fin _ (t1 _ hb).1 (t1 _ hb).2
          exact ⟨w.1, w.2, Nat.lt_succ_self _, by show m + 1 ≤ 4096; omega⟩
        · obtain ⟨q, h1, h2⟩ := bind_ok h
          cases h2
          obtain ⟨p1, p2, p3, p4⟩ := fields_part ih h1
          have e1 := spc_suffix r
          have e2 := e1.length_le
          have w := fin q.2.2.2 ((p1.trans e1).trans (List.suffix_cons _ _)) (by simp only [List.length_cons]; omega)
          exact ⟨w.1, w.2, Nat.lt_trans (Nat.lt_succ_self _) p3, p4⟩
      · obtain ⟨q, h1, h2⟩ := bind_ok h
        cases h2
        have w := fin q.2 (numJ_suffix h1).1 (numJ_suffix h1).2
        exact ⟨w.1, w.2, Nat.lt_succ_self _, by show m + 1 ≤ 4096; omega⟩
def spJ (S : List UInt8) (m : Nat) (res : Except JE (List UInt8)) (y : JS) : Prop :=
  match res with
  | .ok q => okS S y q m
  | .error (k, e) => bdS S y k e
theorem chain_spec {q : List UInt8} {p : UInt8 → Bool} {f : List UInt8 → Except JE (List UInt8)} {g : JS → JS} (hp : ∀ c, q.contains c = p c) (h : okS S x r m) (hf : ∀ x r, okS S x r m → spJ S m (f r) (g x)) (hb : ∀ x k c, bdS S x k c → g x = x) :
    spJ S m ((takeJ p r).bind f) (g (takeS S q x).2) := by
  have h1 := take_spec hp h
  cases hx : takeJ p r with
  | ok r' => rw [hx] at h1; exact hf _ _ h1.2
  | error ke => rw [hx] at h1; rw [hb _ _ _ h1.2]; exact h1.2
theorem last_spec {q : List UInt8} {p : UInt8 → Bool} (hp : ∀ c, q.contains c = p c) (h : okS S x r m) : spJ S m (takeJ p r) (takeS S q x).2 := by
  have h1 := take_spec hp h
  unfold spJ
  cases hx : takeJ p r with
  | ok r' => rw [hx] at h1; exact h1.2
  | error ke => rw [hx] at h1; exact h1.2
theorem esc_spec (h : okS S x r m) : spJ S m (escJ r) (escS S x) := by
  unfold escS
  cases r with
  | nil =>
    rw [take_nil h]
    exact h.fail (by decide)
  | cons d r =>
    by_cases hd : dEsc.contains d = true
    · rw [take_yes h hd]
      dsimp only
      rw [dEsc_esc] at hd
      by_cases hu : d = 117
      · subst hu
        rw [if_pos rfl]
        have e : escJ (117 :: r) = (takeJ (· == 48) r).bind fun r => (takeJ (· == 48) r).bind fun r => (takeJ hexJ r).bind fun r => takeJ hexJ r := rfl
        rw [e]
        refine chain_spec (g := fun x => (takeS S dHex (takeS S dHex (takeS S [48] x).2).2).2) (has_one 48) h.go (fun x r hx => ?_) (fun x k c hb => by simp only [hb.take])
        refine chain_spec (g := fun x => (takeS S dHex (takeS S dHex x).2).2) (has_one 48) hx (fun x r hx => ?_) (fun x k c hb => by simp only [hb.take])
        refine chain_spec (g := fun x => (takeS S dHex x).2) dHex_hex hx (fun x r hx => ?_) (fun x k c hb => by simp only [hb.take])
        exact last_spec dHex_hex hx
      · rw [if_neg hu]
        have hs : simJ d = true := by simpa [hu] using hd
        rw [escJ, if_pos hs]
        exact h.go
    · have hd2 : dEsc.contains d = false := by simpa using hd
      rw [take_no h hd2]
      rw [dEsc_esc, Bool.or_eq_false_iff] at hd2
      rw [escJ, if_neg (by rw [hd2.1]; decide), if_neg (by rw [hd2.2]; decide)]
      have := h.fail (c := 3) (by decide)
      simpa [spJ] using this
theorem bodyS_bd {a n : Nat} (h : bdS S x k c) : bodyS S a n x = ([], x) := by
  cases n with
  | zero => rfl
  | succ n => unfold bodyS; rw [if_pos h.ne]
theorem body_spec {a : Nat} : ∀ {n n' : Nat} {x : JS} {r : List UInt8}, okS S x r m → r.length < n → r.length < n' → match bodyJ n r with
    | .ok q => (bodyS S a n' x).1 = (unquoteU (midS S a (S.length - q.length))).getD [] ∧ okS S (bodyS S a n' x).2 q m
    | .error (k, e) => bdS S (bodyS S a n' x).2 k e
  | 0, _, _, _, _, h, _ => by omega
  | _ + 1, 0, _, _, _, _, h => by omega
  | n + 1, n' + 1, x, [], h, _, _ => by
    unfold bodyJ bodyS
    rw [if_neg h.nne, if_pos (.inl h.atNil.1)]
    have hf := h.fail (c := 3) (by decide)
    rw [bodyS_bd hf]
    exact hf
  | n + 1, n' + 1, x, c :: r, h, h1, h2 => by
    simp only [List.length_cons] at h1 h2
    unfold bodyJ bodyS
    rw [if_neg h.nne, h.atCons.2]
    have hlt := h.atCons.1
    have hl := h.len
    simp only [List.length_cons] at hl
    by_cases hc : c.toNat < 32 ∨ 126 < c.toNat
    · rw [if_pos hc, if_pos (.inr hc)]
      have hf := h.fail (c := 3) (by decide)
      rw [bodyS_bd hf]
      simpa using hf
    · rw [if_neg hc, if_neg (show ¬ (x.p = S.length ∨ c.toNat < 32 ∨ 126 < c.toNat) from fun hh => hh.elim (fun e => by omega) hc)]
      by_cases hq : c = 34
      · rw [if_pos hq, if_pos hq]
        exact ⟨by rw [show x.p + 1 = S.length - r.length by omega], h.go⟩
      · rw [if_neg hq, if_neg hq]
        by_cases hs : c = 92
        · rw [if_pos hs, if_pos hs]
          have he := esc_spec h.go
          unfold spJ at he
          cases hx : escJ r with
          | error ke => rw [hx] at he; show bdS S _ ke.1 ke.2; rw [bodyS_bd he]; exact he
          | ok q =>
            rw [hx] at he
            have := (escJ_suffix hx).2
            exact body_spec (n := n) (n' := n') he (by omega) (by omega)
        · rw [if_neg hs, if_neg hs]
          exact body_spec h.go (by omega) (by omega)
theorem mid_read (h : okS S x r m) {q : List UInt8} (hq : q <:+ r) : midS S x.p (S.length - q.length) = readJ r q := by
  have hl := h.len
  have := hq.length_le
  unfold midS readJ
  rw [List.drop_take, h.2.2.2.2, show S.length - q.length - x.p = r.length - q.length by omega]
theorem str_spec (h : okS S x r m) : match strJ r with
    | .ok (u, q) => (strS S x).1 = u ∧ okS S (strS S x).2 q m
    | .error (k, e) => bdS S (strS S x).2 k e := by
  have h1 := take_spec (has_one 34) h
  unfold strJ strS
  cases hx : takeJ (· == 34) r with
  | error ke =>
    rw [hx] at h1
    show bdS S _ ke.1 ke.2
    rw [bodyS_bd h1.2]; exact h1.2
  | ok r1 =>
    rw [hx] at h1
    have hl := h.len
    have hs1 := takeJ_suffix hx
    have h2 := body_spec (a := x.p) (n := r1.length + 1) (n' := S.length + 3) h1.2 (Nat.lt_succ_self _) (by omega)
    show match (bodyJ (r1.length + 1) r1).bind fun q => Except.ok ((unquoteU (readJ r q)).getD [], q) with
      | .ok (u, q) => (bodyS S x.p (S.length + 3) (takeS S [34] x).2).1 = u ∧ okS S (bodyS S x.p (S.length + 3) (takeS S [34] x).2).2 q m
      | .error (k, e) => bdS S (bodyS S x.p (S.length + 3) (takeS S [34] x).2).2 k e
    cases hy : bodyJ (r1.length + 1) r1 with
    | error ke => rw [hy] at h2; exact h2
    | ok q =>
      rw [hy] at h2
      refine ⟨?_, h2.2⟩
      rw [← mid_read h ((bodyJ_suffix hy).1.trans hs1.1)]
      exact h2.1
end Go.Proofs.YtjhjleanihgopaaDoor
namespace Go.Proofs.YtjhjleanihgopaaDoor
variable {S : List UInt8} {x : JS} {r : List UInt8} {m k : Nat} {c : Int}
theorem readJ_cons {c : UInt8} {r q : List UInt8} (hq : q.length ≤ r.length) : readJ (c :: r) q = c :: readJ r q := by
  unfold readJ
  rw [List.length_cons, show r.length + 1 - q.length = (r.length - q.length) + 1 by omega]; rfl
theorem readJ_self (r : List UInt8) : readJ r r = [] := by simp [readJ]
theorem readJ_dw (p : UInt8 → Bool) (r : List UInt8) : readJ r (r.dropWhile p) = r.takeWhile p := by
  induction r with
  | nil => rfl
  | cons c r ih =>
    rw [List.dropWhile_cons, List.takeWhile_cons]
    by_cases h : p c = true
    · rw [if_pos h, if_pos h, readJ_cons (List.dropWhile_suffix _).length_le, ih]
    · rw [if_neg h, if_neg h, readJ_self]
theorem tw_dig (r : List UInt8) : (r.takeWhile digU).all digU = true := by
  induction r with
  | nil => rfl
  | cons c r ih =>
    rw [List.takeWhile_cons]
    split
    · rename_i h; simp [h]
    · rfl
theorem num_ns {l ds : List UInt8} {c : UInt8} (hm : magU l = c :: ds) (hc : digU c = true) (hd : ds.all digU = true) (h0 : c = 48 → l.length ≤ 1) : numU l ≠ Lib.NumEnd.syntax := by
  have ha : (magU l).all digU = true := by rw [hm]; simp [hc]; simpa using hd
  have hn : magU l ≠ [] := by rw [hm]; exact List.cons_ne_nil _ _
  rw [numU_val hn (fun h => by rw [hm] at h; have := h0 (by simpa using h.1); omega) ha]
  exact atoi_ns hn ha
theorem digs_spec (h : okS S x r m) : okS S (digsS S x) (r.dropWhile digU) m := by
  unfold digsS
  rw [if_pos h.1, h.2.2.2.2]
  exact h.to (List.dropWhile_suffix _)
theorem digsS_bd (h : bdS S x k c) : digsS S x = x := by unfold digsS; rw [if_neg h.ne]
theorem num_tail {x1 : JS} {r1 q9 : List UInt8} {p : UInt8 → Bool} (h : okS S x r m) (h1 : okS S x1 r1 m) (hs : r1 <:+ r) (hp : ∀ c, q9.contains c = p c) (hdig : ∀ c, p c = true → digU c = true)
    (hns : ∀ c r2 q, r1 = c :: r2 → p c = true → q = (if c = 48 then r2 else r2.dropWhile digU) → numU (readJ r q) ≠ Lib.NumEnd.syntax) :
    let t := takeS S q9 x1
    let y := if t.1 = 48 then t.2 else digsS S t.2
    let z : D × JS := if y.e ≠ 0 then (vD 0 0 [] [] [], y) else
      let v := numE (numU (midS S x.p y.p))
      (vD 2 v.1 [] [] [], if v.2 ≠ 0 then failS y x.p v.2 else y)
    match ((takeJ p r1).bind fun r2 =>
      let q := if r1.head? = some 48 then r2 else r2.dropWhile digU
      match numOk (numU (readJ r q)) with
      | some n => Except.ok (n, q)
      | none => .error (r.length, (4 : Int))) with
    | .ok y => z.1 = vD 2 y.1 [] [] [] ∧ okS S z.2 y.2 m
    | .error ke => bdS S z.2 ke.1 ke.2 := by
  have ht := take_spec hp h1
  intro t y z
  cases hx : takeJ p r1 with
  | error ke =>
    rw [hx] at ht
    have e1 : y = t.2 := by
      show (if (takeS S q9 x1).1 = 48 then (takeS S q9 x1).2 else digsS S (takeS S q9 x1).2) = (takeS S q9 x1).2
      rw [ht.1, if_neg (by decide), digsS_bd ht.2]
    have e2 : z = (vD 0 0 [] [] [], t.2) := by
      show (if y.e ≠ 0 then _ else _) = _
      rw [if_pos (by rw [e1]; exact ht.2.ne), e1]
    show bdS S z.2 ke.1 ke.2
    rw [e2]; exact ht.2
  | ok r2 =>
    rw [hx] at ht
    obtain ⟨⟨c, rfl, ht1, hpc⟩, ht2⟩ := ht
    have hq : okS S y (if c = 48 then r2 else r2.dropWhile digU) m := by
      show okS S (if (takeS S q9 x1).1 = 48 then (takeS S q9 x1).2 else digsS S (takeS S q9 x1).2) _ m
      rw [ht1]
      by_cases hc : c = 48
      · rw [if_pos hc, if_pos hc]; exact ht2
      · rw [if_neg hc, if_neg hc]; exact digs_spec ht2
    have hqq : (if (c :: r2).head? = some 48 then r2 else r2.dropWhile digU) = (if c = 48 then r2 else r2.dropWhile digU) := by
      by_cases hc : c = 48
      · subst hc; rfl
      · rw [if_neg hc, if_neg (by simpa using hc)]
    have hns2 := hns c r2 _ rfl hpc rfl
    have hsu : (if c = 48 then r2 else r2.dropWhile digU) <:+ r := by
      refine List.IsSuffix.trans ?_ hs
      split
      · exact List.suffix_cons _ _
      · exact (List.dropWhile_suffix _).trans (List.suffix_cons _ _)
    have hmid : midS S x.p y.p = readJ r (if c = 48 then r2 else r2.dropWhile digU) := by
      rw [hq.pos]; exact mid_read h hsu
    have ez : z = (let v := numE (numU (readJ r (if c = 48 then r2 else r2.dropWhile digU))); (vD 2 v.1 [] [] [], if v.2 ≠ 0 then failS y x.p v.2 else y)) := by
      show (if y.e ≠ 0 then _ else _) = _
      rw [if_neg hq.nne]
      show (let v := numE (numU (midS S x.p y.p)); (vD 2 v.1 [] [] [], if v.2 ≠ 0 then failS y x.p v.2 else y)) = _
      rw [hmid]
    show match (let q := if (c :: r2).head? = some 48 then r2 else r2.dropWhile digU
      match numOk (numU (readJ r q)) with
      | some n => Except.ok (n, q)
      | none => .error (r.length, (4 : Int))) with
    | .ok y => z.1 = vD 2 y.1 [] [] [] ∧ okS S z.2 y.2 m
    | .error ke => bdS S z.2 ke.1 ke.2
    rw [hqq, ez]
    clear ez hmid hqq
    generalize (if c = 48 then r2 else r2.dropWhile digU) = q at hq hns2 hsu
    clear_value y
    dsimp only
    cases hn : numU (readJ r q) with
    | ok n => exact ⟨rfl, hq⟩
    | range =>
      show bdS S (failS y x.p 4) r.length 4
      rw [h.pos]
      have := h.len
      exact okS.failAt hq (by omega) (by decide)
    | _ => exact (hns2 hn).elim
theorem number_spec (h : okS S x r m) : match numJ r with
    | .ok y => (numberS S x).1 = vD 2 y.1 [] [] [] ∧ okS S (numberS S x).2 y.2 m
    | .error ke => bdS S (numberS S x).2 ke.1 ke.2 := by
  by_cases hn : r.head? = some 45
  · obtain ⟨r1, rfl⟩ : ∃ r1, r = 45 :: r1 := by
      cases r with
      | nil => cases hn
      | cons a r1 => simp at hn; exact ⟨r1, by rw [hn]⟩
    have ha := h.atCons.2
    have := num_tail (q9 := d9) (p := fun c => digU c && !(c == 48 && (45 :: r1).head? == some 45)) h h.go (List.suffix_cons _ _) (fun c => by rw [d9_dig]; simp) (fun c hc => by simp at hc; exact hc.1) (fun c r2 q e hc hq => by
      subst e
      have hc2 : digU c = true ∧ c ≠ 48 := by simpa using hc
      rw [if_neg hc2.2] at hq
      subst hq
      have e1 : readJ (45 :: c :: r2) (r2.dropWhile digU) = 45 :: c :: r2.takeWhile digU := by
        have := (List.dropWhile_suffix (p := digU) (l := r2)).length_le
        rw [readJ_cons (by simp; omega), readJ_cons this, readJ_dw]
      rw [e1]
      exact num_ns (c := c) (ds := r2.takeWhile digU) rfl hc2.1 (tw_dig _) fun e => (hc2.2 e).elim)
    unfold numberS numJ
    rw [ha, if_pos rfl, if_pos rfl, if_pos hn]
    exact this
  · have ha : ¬ atS S x = 45 := by
      cases r with
      | nil => rw [h.atNil.2]; decide
      | cons a r => rw [h.atCons.2]; simpa using hn
    have := num_tail (q9 := d10) (p := fun c => digU c && !(c == 48 && r.head? == some 45)) h h (List.suffix_refl _) (fun c => by rw [d10_dig]; simp [hn]) (fun c hc => by simp at hc; exact hc.1) (fun c r2 q e hc hq => by
      subst e
      have hc2 : digU c = true := by simp at hc; exact hc.1
      have h45 : c ≠ 45 := by simpa using hn
      by_cases h48 : c = 48
      · rw [if_pos h48] at hq
        subst hq
        rw [readJ_cons (Nat.le_refl _), readJ_self]
        exact num_ns (c := c) (ds := []) (mag_pos (by simpa using h45)) hc2 rfl fun _ => Nat.le_refl _
      · rw [if_neg h48] at hq
        subst hq
        rw [readJ_cons (List.dropWhile_suffix _).length_le, readJ_dw]
        exact num_ns (c := c) (ds := r2.takeWhile digU) (mag_pos (by simpa using h45)) hc2 (tw_dig _) fun e => (h48 e).elim)
    unfold numberS numJ
    rw [if_neg ha, if_neg ha, if_neg hn]
    exact this
def ValSpec (S : List UInt8) (fJ : Nat → List UInt8 → Except JE (D × Nat × List UInt8)) (f : JS → D × JS) : Prop :=
  ∀ x r m, okS S x r m → m ≤ 4096 → match fJ m r with
    | .ok y => (f x).1 = y.1 ∧ okS S (f x).2 y.2.2 y.2.1
    | .error ke => bdS S (f x).2 ke.1 ke.2
def ValBd (S : List UInt8) (f : JS → D × JS) : Prop := ∀ x k c, bdS S x k c → bdS S (f x).2 k c
variable {fJ : Nat → List UInt8 → Except JE (D × Nat × List UInt8)} {f : JS → D × JS}
theorem itemsS_bd {j : Nat} {l : List D} (h : bdS S x k c) : itemsS S f j x l = (l, x) := by
  cases j with
  | zero => rfl
  | succ j => unfold itemsS; rw [if_pos h.ne]
theorem fieldsS_bd {j : Nat} {ks : List (List UInt8)} {l : List D} (h : bdS S x k c) : fieldsS S f j x ks l = (ks, l, x) := by
  cases j with
  | zero => rfl
  | succ j => unfold fieldsS; rw [if_pos h.ne]
theorem two_contains (a b c : UInt8) : [a, b].contains c = (c == a || c == b) := by
  simp only [List.contains_cons, List.contains_nil, Bool.or_false]
theorem items_spec (hf : ValSpec S fJ f) (hp : PartJ fJ) : ∀ {j j' : Nat} {x : JS} {r : List UInt8} {m : Nat} {l : List D}, okS S x r m → m ≤ 4096 → r.length < j → j ≤ j' → match itemsJ fJ j m r l with
    | .ok y => (itemsS S f j' x l).1 = y.1 ∧ okS S (itemsS S f j' x l).2 y.2.2 y.2.1
    | .error ke => bdS S (itemsS S f j' x l).2 ke.1 ke.2
  | 0, _, _, _, _, _, _, _, h, _ => by omega
  | _ + 1, 0, _, _, _, _, _, _, _, h => by omega
  | j + 1, j' + 1, x, r, m, l, h, hm, hr, hj => by
    have h1 := hf x r m h hm
    unfold itemsJ itemsS
    rw [if_neg h.nne]
    cases hx : fJ m r with
    | error ke =>
      rw [hx] at h1
      have h2 := h1.space
      show bdS S _ ke.1 ke.2
      dsimp only
      rw [h2.take, if_neg (show ¬ (0 : UInt8) = 93 by decide), itemsS_bd h2]
      exact h2
    | ok y =>
      rw [hx] at h1
      obtain ⟨p1, p2, p3, p4⟩ := hp _ _ _ hx
      have h2 := h1.2.space
      show match (match spc y.2.2 with
        | [] => Except.error (0, (3 : Int))
        | c :: q => if c = 44 then itemsJ fJ j y.2.1 q (l ++ [y.1]) else if c = 93 then Except.ok (l ++ [y.1], y.2.1, q) else Except.error (q.length + 1, 3)) with
        | .ok y => _
        | .error ke => _
      have hsp := (spc_suffix y.2.2).length_le
      dsimp only
      rw [h1.1]
      cases hs : spc y.2.2 with
      | nil =>
        rw [hs] at h2
        have h3 := h2.fail (c := 3) (by decide)
        rw [take_nil h2, if_neg (show ¬ (0 : UInt8) = 93 by decide), itemsS_bd h3]
        exact h3
      | cons c q =>
        rw [hs] at h2 hsp
        simp only [List.length_cons] at hsp
        dsimp only
        by_cases h44 : c = 44
        · subst h44
          rw [if_pos rfl, take_yes h2 (by decide), if_neg (show ¬ (44 : UInt8) = 93 by decide)]
          exact items_spec hf hp h2.go p4 (by omega) (by omega)
        · rw [if_neg h44]
          by_cases h93 : c = 93
          · subst h93
            rw [if_pos rfl, take_yes h2 (by decide), if_pos rfl]
            exact ⟨rfl, h2.go⟩
          · have h3 := h2.fail (c := 3) (by decide)
            rw [if_neg h93, take_no h2 (by rw [two_contains]; simp [h44, h93]), if_neg (show ¬ (0 : UInt8) = 93 by decide), itemsS_bd h3]
            simpa using h3
theorem twiceS_bd {ks : List (List UInt8)} {u : List UInt8} {q : Nat} (h : bdS S x k c) : twiceS ks u q x = x := by
  unfold twiceS; rw [if_neg fun hh => h.ne hh.1]
theorem fields_spec (hf : ValSpec S fJ f) (hb : ValBd S f) (hp : PartJ fJ) : ∀ {j j' : Nat} {x : JS} {r : List UInt8} {m : Nat} {ks : List (List UInt8)} {l : List D}, okS S x r m → m ≤ 4096 → r.length < j → j ≤ j' → match fieldsJ fJ j m r ks l with
    | .ok y => (fieldsS S f j' x ks l).1 = y.1 ∧ (fieldsS S f j' x ks l).2.1 = y.2.1 ∧ okS S (fieldsS S f j' x ks l).2.2 y.2.2.2 y.2.2.1
    | .error ke => bdS S (fieldsS S f j' x ks l).2.2 ke.1 ke.2
  | 0, _, _, _, _, _, _, _, _, h, _ => by omega
  | _ + 1, 0, _, _, _, _, _, _, _, _, h => by omega
  | j + 1, j' + 1, x, r, m, ks, l, h, hm, hr, hj => by
    have bad : ∀ (y : JS) (k : Nat) (c : Int) (u : List UInt8), bdS S y k c → bdS S (let z := f (takeS S [58] (spaceS S y)).2; let t := takeS S [44, 125] (spaceS S z.2); if t.1 = 125 then (ks ++ [u], l ++ [z.1], t.2) else fieldsS S f j' t.2 (ks ++ [u]) (l ++ [z.1])).2.2 k c := fun y k c u hy => by
      have g1 := hb _ _ _ (show bdS S (takeS S [58] (spaceS S y)).2 k c by rw [hy.space.take]; exact hy.space)
      have g2 := g1.space
      dsimp only
      rw [g2.take, if_neg (show ¬ (0 : UInt8) = 125 by decide), fieldsS_bd g2]
      exact g2
    have h0 := h.space
    have s0 := spc_suffix r
    have s1 := s0.length_le
    have h1 := str_spec h0
    unfold fieldsJ fieldsS
    rw [if_neg h.nne]
    cases hx : strJ (spc r) with
    | error ke =>
      rw [hx] at h1
      show bdS S _ ke.1 ke.2
      dsimp only
      rw [twiceS_bd h1]
      exact bad _ _ _ _ h1
    | ok u =>
      rw [hx] at h1
      have u1 := strJ_suffix hx
      show match (if u.1 ∈ ks then Except.error ((spc r).length, (7 : Int)) else
        (takeJ (· == 58) (spc u.2)).bind fun r2 => (fJ m r2).bind fun x =>
        match spc x.2.2 with
        | [] => .error (0, 3)
        | c :: q => if c = 44 then fieldsJ fJ j x.2.1 q (ks ++ [u.1]) (l ++ [x.1]) else if c = 125 then .ok (ks ++ [u.1], l ++ [x.1], x.2.1, q) else .error (q.length + 1, 3)) with
        | .ok y => _
        | .error ke => _
      dsimp only
      rw [h1.1]
      by_cases hk : u.1 ∈ ks
      · rw [if_pos hk]
        have hl0 := h0.len
        have g : bdS S (twiceS ks u.1 (spaceS S x).p (strS S (spaceS S x)).2) (spc r).length 7 := by
          unfold twiceS
          rw [if_pos ⟨h1.2.1, hk⟩, h0.pos]
          exact okS.failAt h1.2 (by omega) (by decide)
        exact bad _ _ _ _ g
      · have e0 : twiceS ks u.1 (spaceS S x).p (strS S (spaceS S x)).2 = (strS S (spaceS S x)).2 := by
          unfold twiceS; rw [if_neg fun hh => hk hh.2]
        rw [if_neg hk, e0]
        have h2 := h1.2.space
        have s2 := spc_suffix u.2
        have s3 := s2.length_le
        have h3 := take_spec (has_one 58) h2
        cases hy : takeJ (· == 58) (spc u.2) with
        | error ke =>
          rw [hy] at h3
          show bdS S _ ke.1 ke.2
          have g1 := hb _ _ _ h3.2
          have g2 := g1.space
          rw [g2.take, if_neg (show ¬ (0 : UInt8) = 125 by decide), fieldsS_bd g2]
          exact g2
        | ok r2 =>
          rw [hy] at h3
          have s4 := (takeJ_suffix hy).2
          have h4 := hf _ _ _ h3.2 hm
          show match ((fJ m r2).bind fun x =>
            match spc x.2.2 with
            | [] => Except.error (0, (3 : Int))
            | c :: q => if c = 44 then fieldsJ fJ j x.2.1 q (ks ++ [u.1]) (l ++ [x.1]) else if c = 125 then .ok (ks ++ [u.1], l ++ [x.1], x.2.1, q) else .error (q.length + 1, 3)) with
            | .ok y => _
            | .error ke => _
          cases hz : fJ m r2 with
          | error ke =>
            rw [hz] at h4
            show bdS S _ ke.1 ke.2
            have g2 := h4.space
            rw [g2.take, if_neg (show ¬ (0 : UInt8) = 125 by decide), fieldsS_bd g2]
            exact g2
          | ok y =>
            rw [hz] at h4
            obtain ⟨p1, p2, p3, p4⟩ := hp _ _ _ hz
            have h5 := h4.2.space
            show match (match spc y.2.2 with
              | [] => Except.error (0, (3 : Int))
              | c :: q => if c = 44 then fieldsJ fJ j y.2.1 q (ks ++ [u.1]) (l ++ [y.1]) else if c = 125 then .ok (ks ++ [u.1], l ++ [y.1], y.2.1, q) else .error (q.length + 1, 3)) with
              | .ok y => _
              | .error ke => _
            have hsp := (spc_suffix y.2.2).length_le
            rw [h4.1]
            cases hs : spc y.2.2 with
            | nil =>
              rw [hs] at h5
              have h6 := h5.fail (c := 3) (by decide)
              rw [take_nil h5, if_neg (show ¬ (0 : UInt8) = 125 by decide), fieldsS_bd h6]
              exact h6
            | cons c q =>
              rw [hs] at h5 hsp
              simp only [List.length_cons] at hsp
              dsimp only
              by_cases h44 : c = 44
              · subst h44
                rw [if_pos rfl, take_yes h5 (by decide), if_neg (show ¬ (44 : UInt8) = 125 by decide)]
                exact fields_spec hf hb hp h5.go p4 (by omega) (by omega)
              · rw [if_neg h44]
                by_cases h125 : c = 125
                · subst h125
                  rw [if_pos rfl, take_yes h5 (by decide), if_pos rfl]
                  exact ⟨rfl, rfl, h5.go⟩
                · have h6 := h5.fail (c := 3) (by decide)
                  rw [if_neg h125, take_no h5 (by rw [two_contains]; simp [h44, h125]), if_neg (show ¬ (0 : UInt8) = 125 by decide), fieldsS_bd h6]
                  simpa using h6
theorem bdS.count (h : bdS S x k c) (n : Nat) : bdS S ⟨x.p, n, x.bad, x.e⟩ k c := h
theorem head_bd {deep : Bool} (h : bdS S x k c) : bdS S (headS S deep x) k c := by
  have h0 := h.space
  unfold headS
  dsimp only
  have e1 : (if (spaceS S x).p = S.length ∨ dBeg.contains (atS S (spaceS S x)) = false then failS (spaceS S x) (spaceS S x).p 3 else spaceS S x) = spaceS S x := by
    split
    · exact h0.fail _ _
    · rfl
  rw [e1]
  have e2 : (if deep = true then failS (spaceS S x) (spaceS S x).p 5 else spaceS S x) = spaceS S x := by
    split
    · exact h0.fail _ _
    · rfl
  rw [e2]
  split
  · rw [(h0.count _).fail]; exact h0.count _
  · exact h0.count _
theorem head_spec {deep : Bool} {r0 : List UInt8} (h : okS S x r0 m) (hm : m ≤ 4096) :
    match spc r0 with
    | [] => bdS S (headS S deep x) 0 3
    | c :: r => if beginsJ c = false then bdS S (headS S deep x) (r.length + 1) 3 else if deep = true then bdS S (headS S deep x) (r.length + 1) 5
      else if 4096 < m + 1 then bdS S (headS S deep x) (r.length + 1) 4 else okS S (headS S deep x) (c :: r) (m + 1) := by
  have h0 := h.space
  have late : ∀ (y : JS) (k : Nat) (c : Int), bdS S y k c → bdS S (let x2 := if deep = true then failS y y.p 5 else y; let x3 : JS := ⟨x2.p, x2.m + 1, x2.bad, x2.e⟩; if 4096 < x3.m then failS x3 x3.p 4 else x3) k c := fun y k c hy => by
    have e2 : (if deep = true then failS y y.p 5 else y) = y := by
      split
      · exact hy.fail _ _
      · rfl
    dsimp only
    rw [e2]
    split
    · rw [(hy.count _).fail]; exact hy.count _
    · exact hy.count _
  unfold headS
  cases hs : spc r0 with
  | nil =>
    rw [hs] at h0
    dsimp only
    rw [if_pos (show (spaceS S x).p = S.length ∨ dBeg.contains (atS S (spaceS S x)) = false from .inl h0.atNil.1)]
    exact late _ _ _ (h0.fail (by decide))
  | cons c r =>
    rw [hs] at h0
    have hlt := h0.atCons.1
    dsimp only
    by_cases hb : beginsJ c = false
    · rw [if_pos hb, if_pos (show (spaceS S x).p = S.length ∨ dBeg.contains (atS S (spaceS S x)) = false from .inr (by rw [h0.atCons.2, dBeg_beg]; exact hb))]
      exact late _ _ _ (by have := h0.fail (c := 3) (by decide); simpa using this)
    · rw [if_neg hb, if_neg (show ¬ ((spaceS S x).p = S.length ∨ dBeg.contains (atS S (spaceS S x)) = false) from fun hh => hh.elim (fun e => by omega) fun e => hb (by rw [h0.atCons.2, dBeg_beg] at e; exact e))]
      cases deep with
      | true =>
        rw [if_pos rfl, if_pos rfl]
        have h5 := h0.fail (c := 5) (by decide)
        split
        · rw [(h5.count _).fail]; simpa using h5.count _
        · simpa using h5.count _
      | false =>
        rw [if_neg (show ¬ (false = true) by decide), if_neg (show ¬ (false = true) by decide)]
        have hmm := h0.2.2.1
        have h6 : okS S ⟨(spaceS S x).p, (spaceS S x).m + 1, (spaceS S x).bad, (spaceS S x).e⟩ (c :: r) (m + 1) := ⟨h0.1, h0.2.1, by show (spaceS S x).m + 1 = _; rw [hmm], h0.2.2.2.1, h0.2.2.2.2⟩
        rw [hmm] at h6 ⊢
        by_cases h4 : 4096 < m + 1
        · rw [if_pos h4, if_pos h4]
          have := h6.fail (c := 4) (by decide)
          simpa using this
        · rw [if_neg h4, if_neg h4]; exact h6
theorem step_bd {deep : Bool} (h : bdS S x k c) : bdS S (stepS S f deep x).2 k c := by
  unfold stepS
  have := head_bd (deep := deep) h
  dsimp only
  rw [if_pos this.ne]
  exact this
theorem value_bd : ∀ k : Nat, ValBd S (valueS S k)
  | 0 => fun _ _ _ h => step_bd h
  | _ + 1 => fun _ _ _ h => step_bd h
theorem headE_93 {r : List UInt8} {y : JS} (b : UInt8) (hb : b ≠ 0) (h : okS S y r m) : atS S y = b ↔ r.head? = some b := by
  cases r with
  | nil => rw [h.atNil.2]; simp; exact fun e => hb e.symm
  | cons c r => rw [h.atCons.2]; simp
theorem list_spec (hf : ValSpec S fJ f) (hp : PartJ fJ) {c : UInt8} {r : List UInt8} (h : okS S x (c :: r) m) (hm : m ≤ 4096) :
    match (if (spc r).head? = some 93 then Except.ok (vD 5 0 [] [] [], m, (spc r).tail)
        else (itemsJ fJ (r.length + 1) m (spc r) []).bind fun y => .ok (vD 5 0 [] y.1 [], y.2.1, y.2.2)) with
    | .ok y => (listS S f x).1 = y.1 ∧ okS S (listS S f x).2 y.2.2 y.2.1
    | .error ke => bdS S (listS S f x).2 ke.1 ke.2 := by
  have h1 := h.go.space
  have hl := h.len
  have hs := (spc_suffix r).length_le
  simp only [List.length_cons] at hl
  unfold listS
  dsimp only
  by_cases h93 : (spc r).head? = some 93
  · rw [if_pos h93, if_pos ((headE_93 93 (by decide) h1).2 h93)]
    refine ⟨rfl, ?_⟩
    cases hq : spc r with
    | nil => rw [hq] at h93; cases h93
    | cons b q => rw [hq] at h1; exact h1.go
  · rw [if_neg h93, if_neg (fun e => h93 ((headE_93 93 (by decide) h1).1 e))]
    have h2 := items_spec (j' := S.length + 2) (l := []) hf hp h1 hm (Nat.lt_succ_of_le hs) (by omega)
    cases hx : itemsJ fJ (r.length + 1) m (spc r) [] with
    | error ke => rw [hx] at h2; exact h2
    | ok y => rw [hx] at h2; exact ⟨by show vD 5 0 [] _ [] = _; rw [h2.1], h2.2⟩
theorem obj_spec (hf : ValSpec S fJ f) (hb : ValBd S f) (hp : PartJ fJ) {c : UInt8} {r : List UInt8} (h : okS S x (c :: r) m) (hm : m ≤ 4096) :
    match (if (spc r).head? = some 125 then Except.ok (vD 6 0 [] [] [], m, (spc r).tail)
        else (fieldsJ fJ (r.length + 1) m (spc r) [] []).bind fun y => .ok (vD 6 0 [] y.2.1 (y.1.map fun s => D.str ⟨s.toArray⟩), y.2.2.1, y.2.2.2)) with
    | .ok y => (objS S f x).1 = y.1 ∧ okS S (objS S f x).2 y.2.2 y.2.1
    | .error ke => bdS S (objS S f x).2 ke.1 ke.2 := by
  have h1 := h.go.space
  have hl := h.len
  have hs := (spc_suffix r).length_le
  simp only [List.length_cons] at hl
  unfold objS
  dsimp only
  by_cases h93 : (spc r).head? = some 125
  · rw [if_pos h93, if_pos ((headE_93 125 (by decide) h1).2 h93)]
    refine ⟨rfl, ?_⟩
    cases hq : spc r with
    | nil => rw [hq] at h93; cases h93
    | cons b q => rw [hq] at h1; exact h1.go
  · rw [if_neg h93, if_neg (fun e => h93 ((headE_93 125 (by decide) h1).1 e))]
    have h2 := fields_spec (j' := S.length + 2) (ks := []) (l := []) hf hb hp h1 hm (Nat.lt_succ_of_le hs) (by omega)
    cases hx : fieldsJ fJ (r.length + 1) m (spc r) [] [] with
    | error ke => rw [hx] at h2; exact h2
    | ok y => rw [hx] at h2; exact ⟨by show vD 6 0 [] _ (keysD _) = _; rw [h2.1, h2.2.1]; rfl, h2.2.2⟩
theorem word_of (w : List UInt8) {r : List UInt8} (d : D) (h : okS S x r m) :
    match ((wordJ w r).bind fun q => Except.ok (d, m, q)) with
    | .ok y => d = y.1 ∧ okS S (wordS S w x) y.2.2 y.2.1
    | .error ke => bdS S (wordS S w x) ke.1 ke.2 := by
  have := word_spec (w := w) h
  cases hx : wordJ w r with
  | error ke => rw [hx] at this; exact this
  | ok q => rw [hx] at this; exact ⟨rfl, this⟩
theorem value_spec : ∀ k : Nat, ValSpec S (valueJ k) (valueS S k)
  | 0 => fun x r0 m h hm => by
    have hh := head_spec (deep := true) h hm
    unfold valueJ valueS stepS
    cases hs : spc r0 with
    | nil => rw [hs] at hh; dsimp only; rw [if_pos hh.ne]; exact hh
    | cons c r =>
      rw [hs] at hh
      dsimp only at hh ⊢
      by_cases hb : beginsJ c = false
      · rw [if_pos hb] at hh ⊢; rw [if_pos hh.ne]; exact hh
      · rw [if_neg hb, if_pos rfl] at hh; rw [if_neg hb, if_pos hh.ne]; exact hh
  | k + 1 => fun x r0 m h hm => by
    have ih := value_spec k
    have hp := value_part k
    have hbd := value_bd (S := S) k
    have hh := head_spec (deep := false) h hm
    unfold valueJ valueS stepS
    cases hs : spc r0 with
    | nil => rw [hs] at hh; dsimp only; rw [if_pos hh.ne]; exact hh
    | cons c r =>
      rw [hs] at hh
      dsimp only at hh ⊢
      by_cases hb : beginsJ c = false
      · rw [if_pos hb] at hh ⊢; rw [if_pos hh.ne]; exact hh
      rw [if_neg hb, if_neg (show ¬ (false = true) by decide)] at hh
      rw [if_neg hb]
      by_cases h4 : 4096 < m + 1
      · rw [if_pos h4] at hh ⊢; rw [if_pos hh.ne]; exact hh
      rw [if_neg h4] at hh
      rw [if_neg h4, if_neg hh.nne, hh.atCons.2]
      have hm1 : m + 1 ≤ 4096 := by omega
      by_cases c1 : c = 110
      · rw [if_pos c1, if_pos c1]; exact word_of _ _ hh
      rw [if_neg c1, if_neg c1]
      by_cases c2 : c = 116
      · rw [if_pos c2, if_pos c2]; exact word_of _ _ hh
      rw [if_neg c2, if_neg c2]
      by_cases c3 : c = 102
      · rw [if_pos c3, if_pos c3]; exact word_of _ _ hh
      rw [if_neg c3, if_neg c3]
      by_cases c4 : c = 34
      · rw [if_pos c4, if_pos c4]
        have h5 := str_spec hh
        cases hx : strJ (c :: r) with
        | error ke => rw [hx] at h5; exact h5
        | ok y => rw [hx] at h5; exact ⟨by show vD 3 0 _ [] [] = _; rw [h5.1], h5.2⟩
      rw [if_neg c4, if_neg c4]
      by_cases c5 : c = 91
      · rw [if_pos c5, if_pos c5]; exact list_spec ih hp hh hm1
      rw [if_neg c5, if_neg c5]
      by_cases c6 : c = 123
      · rw [if_pos c6, if_pos c6]; exact obj_spec ih hbd hp hh hm1
      rw [if_neg c6, if_neg c6]
      have h5 := number_spec hh
      cases hx : numJ (c :: r) with
      | error ke => rw [hx] at h5; exact h5
      | ok y => rw [hx] at h5; exact h5
theorem parse_spec (S : List UInt8) : parseS S = match parseJ S with
    | .ok d => (d, 0, 0)
    | .error ke => (vD 0 0 [] [] [], (S.length : Int) - ke.1, ke.2) := by
  have h0 : okS S ⟨0, 0, 0, 0⟩ S 0 := ⟨rfl, rfl, rfl, Nat.zero_le _, rfl⟩
  have h1 := value_spec (S := S) 24 _ _ _ h0 (Nat.zero_le _)
  have bad : ∀ (x : JS) (k : Nat) (c : Int) (d : D), bdS S x k c → (let x1 := spaceS S x; let x2 := if x1.p < S.length then failS x1 x1.p 3 else x1; if x2.e ≠ 0 then (vD 0 0 [] [] [], x2.bad, x2.e) else (d, 0, 0)) = (vD 0 0 [] [] [], (S.length : Int) - k, c) := fun x k c d hx => by
    have g := hx.space
    have e : (if (spaceS S x).p < S.length then failS (spaceS S x) (spaceS S x).p 3 else spaceS S x) = spaceS S x := by
      split
      · exact g.fail _ _
      · rfl
    dsimp only
    rw [e, if_pos g.ne, g.1, g.2.2.1]
  unfold parseS parseJ
  cases hx : valueJ 24 0 S with
  | error ke => rw [hx] at h1; exact bad _ _ _ _ h1
  | ok y =>
    rw [hx] at h1
    have h2 := h1.2.space
    show _ = match (match spc y.2.2 with | [] => Except.ok y.1 | _ :: q => .error (q.length + 1, (3 : Int))) with
      | .ok d => (d, 0, 0)
      | .error ke => (vD 0 0 [] [] [], (S.length : Int) - ke.1, ke.2)
    cases hs : spc y.2.2 with
    | nil =>
      rw [hs] at h2
      dsimp only
      rw [if_neg (show ¬ (spaceS S (valueS S 24 ⟨0, 0, 0, 0⟩).2).p < S.length by have := h2.atNil.1; omega), if_neg h2.nne, h1.1]
    | cons c q =>
      rw [hs] at h2
      have h3 := h2.fail (c := 3) (by decide)
      dsimp only
      rw [if_pos h2.atCons.1, if_pos h3.ne, h3.1, h3.2.2.1]
      simp
end Go.Proofs.YtjhjleanihgopaaDoor
