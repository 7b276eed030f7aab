/- Parts of a proof, merged by a program (shake.py). -/
import Derived.WalkSmall
import Derived.Test.YtdchiceeheiciaaGreatDoorQ18
set_option linter.unusedVariables false
set_option linter.unusedSimpArgs false
namespace Go.Proofs.YtdchiceeheiciaaGreatDoor
open Go.RowKit
attribute [local irreducible] wpList Calls Code.wp
/-- how a call ends -/
inductive Out where
  | ret (r : V) (bs : List Res)
  | die (v : Value)
/-- a contract of a function that panics -/
def ACX (e : Ge) (P : Program) (f : FuncId) (args : List V) (bs : List Res) (pv : Value) : Prop :=
  ∀ (pas : Nat → Prop) (s : Sg) (w : World) (us : Array Value), relL P s w args us.toList → MemOk P pas w.heap.size (rsOf bs) s w → e.E w → (∀ k, k < e.G → ¬ pas k) →
    Calls P f us w fun en w' => en = .panicked [{ v := pv, recovered := false }] ∧ ∃ F', Frm pas w w' ∧ Keeps s.F F' w w' ∧ (∀ b o, b < w.heap.size → ¬ pas b → F' b o → s.F b o) ∧ (∀ b o, F' b o → (w'.cell? ⟨b, o, none⟩).isSome)
end Go.Proofs.YtdchiceeheiciaaGreatDoor
namespace Go.Proofs.YtdchiceeheiciaaGreatDoor
open Go.RowKit
attribute [local irreducible] wpList Calls Code.wp
section
variable {X : Cx} {nn : Nat} {st : Vst nn} {ops : Array Oper} {o : Oper}
def inO (l : List Nat) : Option Nat → Bool
  | none => true
  | some n => l.contains n
/-- what an operation yields; rd, wr: the names that it reads, that it writes -/
inductive YldN (X : Cx) (rd wr : List Nat) (o : Oper) (st : Vst nn) : V → List (Nat × Res) → Prop where
  | val {p : Prop} {v : V} (h : act1 X.P st.rs (ev st) o.op = .val p v) (hp : p) (hl : inO rd (loads (ev st) o.op) = true) : YldN X rd wr o st v []
  | valW {p : Prop} {v v' : V} (h : act1 X.P st.rs (ev st) o.op = .val p v) (hle : VLe v v') (hp : p) (hl : inO rd (loads (ev st) o.op) = true) : YldN X rd wr o st v' []
  | call {f : FuncId} {args : List V} {v : V} (h : act1 X.P st.rs (ev st) o.op = .call f args) (hc : AC X.e X.P f (outL args) v) : YldN X rd wr o st v []
  | lit {t e : TypeId} {b m : Nat} {parts : Array (Nat × Operand)} {ds : List D} (ho : o.op = .buildSlice t m parts) (he : elemOk X.P t = some (e, b)) (hn : m = ds.length) (hs : m * X.P.cellsOf e ≤ 2 ^ 24) (hp : partsD X.P e (ev st) parts.toList 0 ds) : YldN X rd wr o st (.lit e ds) []
  | pick {c x y : Operand} {b : Bool} (ho : o.op = .pick c x y) (hc : ev st c = .c (.bool b)) : YldN X rd wr o st (bif b then ev st x else ev st y) []
  | callB {f : FuncId} {vargs args : List V} {bs bs' : List Res} {r : V} (ns : List Nat) (h : act1 X.P st.rs (ev st) o.op = .call f vargs) (hc : ACB X.e X.P f args bs r bs') (hnd : ns.Nodup) (ha : renL (φin ns) vargs = args) (hb : ns.map (fun n => (st.rs n).map (renR (φin ns))) = bs.map some)
      (hl : ns.all (fun n => wr.contains n) = true) (hlen : bs'.length = ns.length) : YldN X rd wr o st (renV (φout ns) r) (ns.zip (bs'.map (renR (φout ns))))
  | callX {f : FuncId} {vargs args : List V} {bs : List Res} {pv : Value} (ns : List Nat) (h : act1 X.P st.rs (ev st) o.op = .call f vargs) (hc : ACX X.e X.P f args bs pv) (hnd : ns.Nodup) (ha : renL (φin ns) vargs = args) (hb : ns.map (fun n => (st.rs n).map (renR (φin ns))) = bs.map some)
      (hl : ns.all (fun n => wr.contains n) = true) (hpk : ∀ tm rs, X.pk pv tm rs) (v : V) (ρs : List Res) (hlen : ρs.length = ns.length) : YldN X rd wr o st v (ns.zip ρs)
  | callS {f : FuncId} {vargs args : List V} {bs : List Res} {r : V} (ns : List Nat) (h : act1 X.P st.rs (ev st) o.op = .call f vargs) (hc : ACB X.e X.P f args bs r bs) (hnd : ns.Nodup) (ha : renL (φin ns) vargs = args) (hb : ns.map st.rs = bs.map some) (hp : bs.all isBld = true)
      (hl : ns.all (fun n => rd.contains n) = true) : YldN X rd wr o st (renV (φout ns) r) []
  | onlit {t e : TypeId} {b : Nat} {x y : Operand} {l l2 : List D} (ho : o.op = .call { callee := .builtin .append, args := #[x, y], argTypes := #[t, t] }) (he : elemOk X.P t = some (e, b)) (hleaf : ∀ d, (cellsV X.P 12 e d).all V.leaf = true)
      (hx : ev st x = .lit e l) (hy : (ev st y).out = .sl e l2) (hp : l.length + l2.length ≤ maxLen ∧ (l.length + l2.length) * b ≤ 140737488355328) : YldN X rd wr o st (.sl e (l ++ l2)) []
  | app {t e : TypeId} {b k : Nat} {x y : Operand} {l l2 : List D} (hk : wr.contains k = true) (ho : o.op = .call { callee := .builtin .append, args := #[x, y], argTypes := #[t, t] }) (he : elemOk X.P t = some (e, b)) (hleaf : ∀ d, (cellsV X.P 12 e d).all V.leaf = true)
      (hx : ev st x = .own k e l) (hr : st.rs k = some (.tok e l.length)) (hy : (ev st y).out = .sl e l2) (hp : 0 < l2.length ∧ l.length + l2.length ≤ maxLen ∧ (l.length + l2.length) * b ≤ 140737488355328) :
      YldN X rd wr o st (.own k e (l ++ l2)) [(k, .tok e (l.length + l2.length))]
  | store {t t' : TypeId} {x y : Operand} {n off : Nat} {vs xs : List V} (hk : wr.contains n = true) (ho : o.op = .store t x y) (hd : o.dst = none) (hx : ev st x = .bx n off) (hr : st.rs n = some (.box t' vs)) (hc : cellsOf (ev st y) = some xs)
      (hs : X.P.cellsOf t = xs.length ∧ (X.P.info? t).isSome) (hl : off + xs.length ≤ vs.length) : YldN X rd wr o st .any [(n, .box t' (splice vs off xs))]
def YldG (X : Cx) (ops : Array Oper) (rd wr : List Nat) (o : Oper) (st : Vst nn) (v : V) (u : List (Nat × Res)) : Prop :=
  (gw ops o st = some true ∧ YldN X rd wr o st v u) ∨ (gw ops o st = some false ∧ v = .any ∧ u = [])
/-- the names that a step has written are none that o looks at -/
def Off (rd wr : List Nat) (u' : List (Nat × Res)) : Prop := ∀ p ∈ u', rd.contains p.1 = false ∧ wr.contains p.1 = false
theorem updL_off {rs : Nat → Option Res} {rd wr : List Nat} {u' : List (Nat × Res)} (h : Off rd wr u') {n : Nat} (hn : rd.contains n = true ∨ wr.contains n = true) : updL rs u' n = rs n :=
  updL_out fun p hp e => by
    have := h p hp
    rw [e] at this
    rcases hn with hn | hn
    · rw [this.1] at hn; cases hn
    · rw [this.2] at hn; cases hn
theorem act1_off {P : Program} {rs : Nat → Option Res} {ea : Operand → V} {rd wr : List Nat} {u : List (Nat × Res)} (hu : Off rd wr u) (op : Op) (hl : inO rd (loads ea op) = true) : act1 P (updL rs u) ea op = act1 P rs ea op := by
  cases op
  case load t x =>
    simp only [act1, load1]
    simp only [loads] at hl
    split
    · rfl
    · rename_i n o he
      rw [he] at hl
      simp only [inO] at hl
      rw [updL_off hu (.inl hl)]
    · rfl
  case slice t x lo hi mx => cases mx <;> rfl
  all_goals rfl
theorem YldN.congr {rd wr : List Nat} {st st' : Vst nn} {v : V} {u : List (Nat × Res)} (hev : ∀ x ∈ o.op.operands, ev st' x = ev st x) (hrs : ∀ n, rd.contains n = true ∨ wr.contains n = true → st'.rs n = st.rs n) (hact : inO rd (loads (ev st) o.op) = true → act1 X.P st'.rs (ev st') o.op = act1 X.P st.rs (ev st) o.op)
    (hact2 : ∀ f args, act1 X.P st'.rs (ev st') o.op = .call f args ↔ act1 X.P st.rs (ev st) o.op = .call f args) (h : YldN X rd wr o st v u) : YldN X rd wr o st' v u := by
  have hloads := loads_congr o.op hev
  cases h with
  | val h hp hl => exact .val (by rw [hact hl]; exact h) hp (by rw [hloads]; exact hl)
  | valW h hle hp hl => exact .valW (by rw [hact hl]; exact h) hle hp (by rw [hloads]; exact hl)
  | call h hc => exact .call ((hact2 _ _).2 h) hc
  | lit ho he hn hs hp => exact .lit ho he hn hs (partsD_congr _ _ _ (fun p hp => (hev p.2 (by rw [ho]; simp [Op.operands]; exact ⟨p.1, by simpa using hp⟩)).symm) hp)
  | callB ns h hc hnd ha hb hl hlen =>
    refine .callB ns ((hact2 _ _).2 h) hc hnd ha ?_ hl hlen
    rw [← hb]
    exact List.map_congr_left fun q hq => by rw [hrs q (.inr (List.all_eq_true.1 hl q hq))]
  | callX ns h hc hnd ha hb hl hpk v ρs hlen =>
    refine .callX ns ((hact2 _ _).2 h) hc hnd ha ?_ hl hpk _ _ hlen
    rw [← hb]
    exact List.map_congr_left fun q hq => by rw [hrs q (.inr (List.all_eq_true.1 hl q hq))]
  | callS ns h hc hnd ha hb hp hl =>
    refine .callS ns ((hact2 _ _).2 h) hc hnd ha ?_ hp hl
    rw [← hb]
    exact List.map_congr_left fun q hq => hrs q (.inl (List.all_eq_true.1 hl q hq))
  | pick ho hc =>
    rename_i c x y b
    rw [← hev c (by rw [ho]; simp [Op.operands])] at hc
    rw [← hev x (by rw [ho]; simp [Op.operands]), ← hev y (by rw [ho]; simp [Op.operands])]
    exact .pick ho hc
  | onlit ho he hleaf hx hy hp =>
    rw [← hev _ (by rw [ho]; simp [Op.operands, Call.operands])] at hx
    rw [← hev _ (by rw [ho]; simp [Op.operands, Call.operands])] at hy
    exact .onlit ho he hleaf hx hy hp
  | app hk ho he hleaf hx hr hy hp =>
    rw [← hev _ (by rw [ho]; simp [Op.operands, Call.operands])] at hx
    rw [← hev _ (by rw [ho]; simp [Op.operands, Call.operands])] at hy
    exact .app hk ho he hleaf hx (by rw [hrs _ (.inr hk)]; exact hr) hy hp
  | store hk ho hd hx hr hc hs hl =>
    rw [← hev _ (by rw [ho]; simp [Op.operands])] at hx
    rw [← hev _ (by rw [ho]; simp [Op.operands])] at hc
    exact .store hk ho hd hx (by rw [hrs _ (.inr hk)]; exact hr) hc hs hl
theorem YldG.of {rd wr : List Nat} {d : Option Tmp} {v v' : V} {u u' : List (Nat × Res)} (hd : ∀ t, d = some t → t ∉ o.looksAt ops) (hu : Off rd wr u') :
    YldG X ops rd wr o (stp st d v' u') v u ↔ YldG X ops rd wr o st v u := by
  have hev : ∀ x ∈ o.op.operands, ev (stp st d v' u') x = ev st x := fun x hx => ev_stp fun t ht hxt => hd t ht (by
    subst hxt
    exact List.mem_append_left _ (List.mem_filterMap.2 ⟨.tmp t, by simpa using hx, rfl⟩))
  have hloads := loads_congr o.op hev
  have hact : inO rd (loads (ev st) o.op) = true → act1 X.P (stp st d v' u').rs (ev (stp st d v' u')) o.op = act1 X.P st.rs (ev st) o.op := fun hl => by
    rw [act1_congr o.op hev, stp_rs]
    exact act1_off hu _ hl
  have hact2 : ∀ f args, act1 X.P (stp st d v' u').rs (ev (stp st d v' u')) o.op = .call f args ↔ act1 X.P st.rs (ev st) o.op = .call f args := fun f args => by
    rw [act1_congr o.op hev]
    cases ho : o.op
    case load t x =>
      have nob : ∀ rs, act1 X.P rs (ev st) (.load t x) ≠ .call f args := fun rs h => by
        simp only [act1, load1, ofPart] at h
        repeat' (split at h)
        all_goals cases h
      exact ⟨fun h => (nob _ h).elim, fun h => (nob _ h).elim⟩
    case slice t x lo hi mx => cases mx <;> rfl
    all_goals rfl
  have hgv : ∀ j want, o.guard = some (j, want) → gval ops (stp st d v' u') j = gval ops st j := fun j want hg => by
    unfold gval
    cases ht : (ops[j]?).bind (·.dst) with
    | none => rfl
    | some t =>
      have : ev (stp st d v' u') (.tmp t) = ev st (.tmp t) := ev_stp fun q hq hqt => by
        cases hqt
        exact hd t hq (by simp [Oper.looksAt, hg, ht])
      simp only [this]
  have hgw : gw ops o (stp st d v' u') = gw ops o st := by
    unfold gw
    cases hg : o.guard with
    | none => rfl
    | some jw => simp only [hgv jw.1 jw.2 hg]
  have hrs : ∀ n, rd.contains n = true ∨ wr.contains n = true → (stp st d v' u').rs n = st.rs n := fun n hn => by
    rw [stp_rs]; exact updL_off hu hn
  unfold YldG
  rw [hgw]
  refine or_congr (and_congr Iff.rfl ⟨fun h => ?_, fun h => ?_⟩) Iff.rfl
  · exact h.congr (fun x hx => (hev x hx).symm) (fun n hn => (hrs n hn).symm) (fun hl => (hact (by rw [hloads] at hl; exact hl)).symm) fun f args => (hact2 f args).symm
  · exact h.congr hev hrs hact hact2
variable {rd wr : Nat → List Nat}
/-- no such state is there: a call has panicked -/
def Dead (st : Vst nn) : Prop := ∃ m t, st.rs m = some (.box t [.c (.tuple #[])])
theorem Dead.no {s : Sg} {w : World} {a : Act} (h : Dead st) (hI : Inv X st s w a) : False := by
  obtain ⟨m, t, h1⟩ := h
  obtain ⟨b, cs, -, -, h2, -⟩ := hI.mem.ho m _ h1
  cases hc : cs.toList with
  | nil => rw [hc] at h2; simp [relL] at h2
  | cons x r =>
    rw [hc, relL, rel] at h2
    exact h2.1.2
end
end Go.Proofs.YtdchiceeheiciaaGreatDoor
namespace Go.Proofs.YtdchiceeheiciaaGreatDoor
open Go.RowKit
attribute [local irreducible] wpList Calls Code.wp
section
variable {X : Cx} {nn : Nat} {st : Vst nn} {o : Oper} {ops : Array Oper} {l : List Oper} {d : Option Tmp} {KK : Vst nn → Prop}
theorem s_skipU {j : Nat} {want b : Bool} (hg : o.guard = some (j, want)) (hd : o.dst = d) (hb : gval ops st j = some b) (hne : (b == want) = false) (hK : AWo X ops l (st.put d (.tup [])) KK) : AWo X ops (o :: l) st KK := fun s w a hI Q hP hQ => by
  have hy := gval_ok hb hI
  refine wpList_step fun K' hK' => ?_
  have hwt : Region.wanted o (yielded ops a.tmps) = (b == want) := by simp [Region.wanted, hg, hy]
  rw [hwt, if_neg (by rw [hne]; decide)]
  exact hK' _ _ (hK s w (a.put o.dst undef) (by rw [hd]; exact hI.put d (by rw [rel]; exact ⟨#[], rfl, by simp [relL]⟩)) Q hP hQ)
/-- a guard that looks at what was not done -/
theorem s_dead {j : Nat} {want : Bool} {t : Tmp} (hg : o.guard = some (j, want)) (hd : o.dst = d) (ht : (ops[j]?).bind (·.dst) = some t) (hu : ev st (.tmp t) = .tup []) (hK : AWo X ops l (st.put d (.tup [])) KK) : AWo X ops (o :: l) st KK := fun s w a hI Q hP hQ => by
  have hr := hI.ev (.tmp t)
  rw [hu, rel] at hr
  have he : a.tmps.getD t undef = undef := by
    obtain ⟨cs, h1, h2⟩ := hr
    have : cs = #[] := by
      apply Array.ext'
      cases hc : cs.toList with
      | nil => rfl
      | cons x xs => rw [hc] at h2; simp [relL] at h2
    have h3 : a.tmps.getD t undef = .tuple cs := h1
    rw [h3, this]; rfl
  have hy : yielded ops a.tmps j = none := by
    unfold yielded
    rw [ht]
    simp only [Option.bind_some]
    rw [Array.getD_eq_getD_getElem?] at he
    cases hq : a.tmps[t]? with
    | none => simp
    | some u => rw [hq] at he; simp at he; rw [he]; rfl
  refine wpList_step fun K' hK' => ?_
  have hwt : Region.wanted o (yielded ops a.tmps) = false := by simp [Region.wanted, hg, hy]
  rw [hwt, if_neg (by decide)]
  exact hK' _ _ (hK s w (a.put o.dst undef) (by rw [hd]; exact hI.put d (by rw [rel]; exact ⟨#[], rfl, by simp [relL]⟩)) Q hP hQ)
theorem s_guard_valU {j : Nat} {want b : Bool} {p : Prop} {v : V} (hg : o.guard = some (j, want)) (hd : o.dst = d) (hb : gval ops st j = some b) (h : act1 X.P st.rs (ev st) o.op = .val p v) (hK : (b == want) = true → AWo X ops l (st.put d v) KK) (hp : (b == want) = true → p)
    (hN : (b == want) = false → AWo X ops l (st.put d (.tup [])) KK) : AWo X ops (o :: l) st KK := by
  cases e : b == want
  · exact s_skipU hg hd hb e (hN e)
  · exact s_wanted_val hg hd hb e h (hK e) (hp e)
theorem s_guard_callU {j : Nat} {want b : Bool} {f : FuncId} {args : List V} {r : V} (hg : o.guard = some (j, want)) (hd : o.dst = d) (hb : gval ops st j = some b) (h : act1 X.P st.rs (ev st) o.op = .call f args) (hc : AC X.e X.P f (outL args) r) (hK : (b == want) = true → AWo X ops l (st.put d r) KK)
    (hN : (b == want) = false → AWo X ops l (st.put d (.tup [])) KK) : AWo X ops (o :: l) st KK := by
  cases e : b == want
  · exact s_skipU hg hd hb e (hN e)
  · exact s_wanted_call hg hd hb e h hc (hK e)
end
section
variable {X : Cx} {nn : Nat} {st : Vst nn} {o : Oper} {ops : Array Oper} {l : List Oper} {dst : Option Tmp} {KK : Vst nn → Prop}
theorem s_wpick_t {j : Nat} {want b b' : Bool} {c x y : Operand} (hg : o.guard = some (j, want)) (ho : o.op = .pick c x y) (hd : o.dst = dst) (hb : gval ops st j = some b) (hne : (b == want) = true) (hc : ev st c = .c (.bool b')) (hb' : b' = true) (hK : AWo X ops l (st.put dst (ev st x)) KK) : AWo X ops (o :: l) st KK :=
  awo_guard hg hb (fun _ => opOk_pick ho hc (by rw [hd, hb']; exact hK)) fun e => (e (by simpa using hne)).elim
theorem s_wpick_f {j : Nat} {want b b' : Bool} {c x y : Operand} (hg : o.guard = some (j, want)) (ho : o.op = .pick c x y) (hd : o.dst = dst) (hb : gval ops st j = some b) (hne : (b == want) = true) (hc : ev st c = .c (.bool b')) (hb' : b' = false) (hK : AWo X ops l (st.put dst (ev st y)) KK) : AWo X ops (o :: l) st KK :=
  awo_guard hg hb (fun _ => opOk_pick ho hc (by rw [hd, hb']; exact hK)) fun e => (e (by simpa using hne)).elim
end
end Go.Proofs.YtdchiceeheiciaaGreatDoor
namespace Go.Proofs.YtdchiceeheiciaaGreatDoor
open Go.RowKit
attribute [local irreducible] wpList Calls Code.wp
section
variable {X : Cx} {nn : Nat} {st : Vst nn} {o : Oper} {ops : Array Oper} {l : List Oper} {KK : Vst nn → Prop}
/-- what an operation that is done leads to -/
def w1 (X : Cx) (ops : Array Oper) (l : List Oper) (st : Vst nn) (o : Oper) (KK : Vst nn → Prop) : Prop :=
  match act1 X.P st.rs (ev st) o.op with
  | .val p v => AWo X ops l (st.put o.dst v) KK ∧ p
  | .call _ _ => False
  | .bad => match o.op with
    | .alloc t => match o.dst with
      | some m => match zeroV X.P t with
        | some vs => match Nat.ble m 999999 && freeL m vs with
          | true => AWo X ops l (((st.kill m).res m (.box t vs)).put (some m) (.bx m 0)) KK ∧ True
          | false => False
        | none => False
      | none => False
    | .pick c x y => match ev st c with
      | .c (.bool b) => match b with
        | true => AWo X ops l (st.put o.dst (ev st x)) KK ∧ True
        | false => AWo X ops l (st.put o.dst (ev st y)) KK ∧ True
      | _ => False
    | _ => False
theorem w1_ok (h : w1 X ops l st o KK) : OpOk X o st (fun st' => AWo X ops l st' KK) := by
  unfold w1 at h
  split at h
  · rename_i p v e
    exact opOk_val e h.2 h.1
  · exact h.elim
  · split at h
    · rename_i t ho
      split at h
      · rename_i m hd
        split at h
        · rename_i vs hz
          split at h
          · rename_i hb
            rw [Bool.and_eq_true] at hb
            exact opOk_alloc ho hd hb.1 hz hb.2 h.1
          · exact h.elim
        · exact h.elim
      · exact h.elim
    · rename_i c x y ho
      split at h
      · rename_i b hc
        split at h
        · exact opOk_pick ho hc h.1
        · exact opOk_pick ho hc h.1
      · exact h.elim
    · exact h.elim
/-- likewise, with its guard -/
def w2 (X : Cx) (ops : Array Oper) (l : List Oper) (st : Vst nn) (o : Oper) (KK : Vst nn → Prop) : Prop :=
  match o.guard with
  | none => w1 X ops l st o KK
  | some (j, want) => match (ops[j]?).bind (·.dst) with
    | some t => match ev st (.tmp t) with
      | .c (.bool b) => match b == want with
        | true => w1 X ops l st o KK
        | false => AWo X ops l (st.put o.dst (.tup [])) KK ∧ True
      | .tup [] => AWo X ops l (st.put o.dst (.tup [])) KK ∧ True
      | _ => False
    | none => False
theorem s_1 (h : w2 X ops l st o KK) : AWo X ops (o :: l) st KK := by
  unfold w2 at h
  split at h
  · rename_i hg
    exact awo_cons hg (w1_ok h)
  · rename_i j want hg
    split at h
    · rename_i t ht
      split at h
      · rename_i b hb
        have hv : gval ops st j = some b := by unfold gval; rw [ht]; dsimp only; rw [hb]
        split at h
        · rename_i e
          exact awo_guard hg hv (fun _ => w1_ok h) fun q => (q (by simpa using e)).elim
        · rename_i e
          exact s_skipU hg rfl hv e h.1
      · rename_i hb
        exact s_dead hg rfl ht hb h.1
      · exact h.elim
    · exact h.elim
/-- what a statement whose way is known leads to -/
def w3 (X : Cx) (c : Code) (st : Vst nn) (K : Exit → Vst nn → Prop) : Prop :=
  match c with
  | .seq x y => AW X x st (seqK X y K) ∧ True
  | .block id c => AW X c st (blockK id K) ∧ True
  | .scope c => AW X c st (scopeK K) ∧ True
  | .skip => K .normal st ∧ True
  | .label _ => K .normal st ∧ True
  | .ret => K .ret st ∧ True
  | .exit id => K (.exit id) st ∧ True
  | .cond c x y => match ev st c with
    | .c (.bool b) => match b with
      | true => AW X x st K ∧ True
      | false => AW X y st K ∧ True
    | _ => False
  | _ => False
theorem aw_1 {c : Code} {K : Exit → Vst nn → Prop} (h : w3 X c st K) : AW X c st K := by
  unfold w3 at h
  split at h
  · exact aw_seq h.1
  · exact aw_block h.1
  · exact aw_scope h.1
  · exact aw_skip h.1
  · exact aw_label h.1
  · exact aw_ret h.1
  · exact aw_exit h.1
  · rename_i c x y
    split at h
    · rename_i b hc
      split at h
      · exact aw_cond hc (fun _ => h.1) fun e => by cases e
      · exact aw_cond hc (fun e => by cases e) fun _ => h.1
    · exact h.elim
  · exact h.elim
end
end Go.Proofs.YtdchiceeheiciaaGreatDoor
