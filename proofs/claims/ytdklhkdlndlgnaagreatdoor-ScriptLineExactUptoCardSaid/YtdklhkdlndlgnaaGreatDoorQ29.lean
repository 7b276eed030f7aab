/- Parts of a proof, merged by a program (shake.py). -/
import Derived.WalkSmall
import Derived.Test.YtdklhkdlndlgnaaGreatDoorQ28
set_option linter.unusedVariables false
set_option linter.unusedSimpArgs false
namespace Go.Proofs.YtdklhkdlndlgnaaGreatDoor
open Go.RowKit
attribute [local irreducible] wpList Calls Code.wp
/-- how a call ends -/
inductive Out where
  | ret (r : V) (bs : List Res)
  | die (v : Value)
/-- a contract of a function that panics -/
def ACX (e : Ge) (P : Program) (f : FuncId) (args : List V) (bs : List Res) (pv : Value) : Prop :=
  ∀ (pas : Nat → Prop) (s : Sg) (w : World) (us : Array Value), relL P s w args us.toList → MemOk P pas w.heap.size (rsOf bs) s w → e.E w → (∀ k, k < e.G → ¬ pas k) →
    Calls P f us w fun en w' => en = .panicked [{ v := pv, recovered := false }] ∧ ∃ F', Frm pas w w' ∧ Keeps s.F F' w w' ∧ (∀ b o, b < w.heap.size → ¬ pas b → F' b o → s.F b o) ∧ (∀ b o, F' b o → (w'.cell? ⟨b, o, none⟩).isSome)
def forgetN (rs : Nat → Option Res) (ns : List Nat) : Nat → Option Res := fun m => if m ∈ ns then none else rs m
section
variable {X : Cx} {nn : Nat} {st : Vst nn} {o : Oper} {K : Vst nn → Prop}
theorem opOk_callX {f : FuncId} {vargs args : List V} {bs : List Res} {pv : Value} (ns : List Nat) (h : act1 X.P st.rs (ev st) o.op = .call f vargs) (hc : ACX X.e X.P f args bs pv) (hnd : ns.Nodup) (ha : renL (φin ns) vargs = args)
    (hb : ns.map (fun n => (st.rs n).map (renR (φin ns))) = bs.map some) (hK : X.pk pv st.tm (forgetN st.rs ns)) : OpOk X o st K := by
  intro s w a hI N Q hP hN
  obtain ⟨us, h1, h2⟩ := call1_ok h hI.ev (fun _ => rfl)
  unfold Oper.wp
  rw [h1, Oper.upon_enter]
  let sc : Sg := { F := s.F, bx := fun n => (φout ns n).bind s.bx, tb := fun n => (φout ns n).bind s.tb, tk := fun n => match φout ns n with | some m => s.tk m | none => (.tuple #[], 0) }
  have hin : ∀ n m, φin ns n = some m → ∃ i, m = pn i ∧ ns[i]? = some n := fun n m hm => by
    obtain ⟨i, hi, rfl⟩ := Option.map_eq_some_iff.1 hm
    exact ⟨i, rfl, idx_get hi⟩
  have hsc : ∀ (i q : Nat), ns[i]? = some q → sc.bx (pn i) = s.bx q ∧ sc.tb (pn i) = s.tb q ∧ sc.tk (pn i) = s.tk q := fun i q hq => by
    have e : φout ns (pn i) = some q := (φout_pn ns i).trans hq
    refine ⟨?_, ?_, ?_⟩
    · show (φout ns (pn i)).bind s.bx = _; rw [e]; rfl
    · show (φout ns (pn i)).bind s.tb = _; rw [e]; rfl
    · show (match φout ns (pn i) with | some m => s.tk m | none => (.tuple #[], 0)) = _; rw [e]
  have hφ1 : ∀ n m, φin ns n = some m → sc.bx m = s.bx n ∧ sc.tk m = s.tk n := fun n m hm => by
    obtain ⟨i, rfl, hi⟩ := hin n m hm
    exact ⟨(hsc i n hi).1, (hsc i n hi).2.2⟩
  have hargs : relL X.P sc w args us.toList := by rw [← ha]; exact relL.ren (s := s) (s2 := sc) rfl hφ1 _ _ h2
  have hbs : ∀ (i : Nat) (ρ : Res), bs[i]? = some ρ → ∃ q ρ0, ns[i]? = some q ∧ st.rs q = some ρ0 ∧ ρ = renR (φin ns) ρ0 := fun i ρ hi => by
    have h3 : (ns.map (fun n => (st.rs n).map (renR (φin ns))))[i]? = (bs.map some)[i]? := by rw [hb]
    rw [List.getElem?_map, List.getElem?_map, hi] at h3
    obtain ⟨q, hq, h4⟩ := Option.map_eq_some_iff.1 h3
    obtain ⟨ρ0, h5, h6⟩ := Option.map_eq_some_iff.1 h4
    exact ⟨q, ρ0, hq, h5, h6.symm⟩
  let pas : Nat → Prop := fun b => ∃ n ρ, n ∈ ns ∧ st.rs n = some ρ ∧ s.bk n ρ b
  have hpas : ∀ b, pas b → X.w0.heap.size ≤ b ∨ X.pas b := fun b ⟨n, ρ, _, hn, hbk⟩ => hI.mem.bs n ρ b hn hbk
  have hmem : MemOk X.P pas w.heap.size (rsOf bs) sc w := by
    refine ⟨hI.mem.fx, fun n ρ hn => ?_, fun n ρ b hn hbk => ?_, fun n m ρ ρ' b hn hm hnb hmb => ?_⟩
    · obtain ⟨i, rfl, hi⟩ := rsOf_some hn
      obtain ⟨q, ρ0, hq, h3, rfl⟩ := hbs i ρ hi
      exact Holds.ren (s := s) (s2 := sc) rfl hφ1 (hsc i q hq).1 (hsc i q hq).2.1 (hsc i q hq).2.2 (hI.mem.ho q ρ0 h3)
    · obtain ⟨i, rfl, hi⟩ := rsOf_some hn
      obtain ⟨q, ρ0, hq, h3, rfl⟩ := hbs i ρ hi
      exact .inr ⟨q, ρ0, List.mem_of_getElem? hq, h3, (bk_ren (hsc i q hq).1 (hsc i q hq).2.1).1 hbk⟩
    · obtain ⟨i, rfl, hi⟩ := rsOf_some hn
      obtain ⟨j, rfl, hj⟩ := rsOf_some hm
      obtain ⟨q, ρ0, hq, h3, rfl⟩ := hbs i ρ hi
      obtain ⟨q', ρ1, hq', h3', rfl⟩ := hbs j ρ' hj
      have e := hI.mem.dj q q' _ _ b h3 h3' ((bk_ren (hsc i q hq).1 (hsc i q hq).2.1).1 hnb) ((bk_ren (hsc j q' hq').1 (hsc j q' hq').2.1).1 hmb)
      subst e
      have := (idx_of hnd hq).symm.trans (idx_of hnd hq')
      cases this; rfl
  refine (hc pas sc w us hargs hmem hI.en fun k hk hp => (hpas k hp).elim (fun h => by have := X.e.le _ X.he; omega) (X.hp k hk)).mono ?_
  rintro e w' ⟨rfl, F', hfr, hk, hnf, hfx⟩
  have hx : Ext (fun _ => False) s w { s with F := F' } w' := ⟨hk, fun _ _ => rfl, fun _ _ => .inl rfl⟩
  have hnp : ∀ m ρ b, m ∉ ns → st.rs m = some ρ → s.bk m ρ b → ¬ pas b := fun m ρ b hi hm hbk ⟨n, ρ', hn, hn2, hbk2⟩ => by
    have := hI.mem.dj m n ρ ρ' b hm hn2 hbk hbk2
    subst this
    exact hi hn
  have hget : ∀ m ρ, forgetN st.rs ns m = some ρ → m ∉ ns ∧ st.rs m = some ρ := fun m ρ hm => by
    unfold forgetN at hm
    split at hm
    · cases hm
    · rename_i hn; exact ⟨hn, hm⟩
  have bk2 : ∀ m ρ, ({ s with F := F' } : Sg).bk m ρ = s.bk m ρ := fun m ρ => by funext x; cases ρ <;> simp [Sg.bk]
  refine hP pv ⟨st.tm, forgetN st.rs ns⟩ { s with F := F' } w' a ⟨hI.sz, fun i hi => (hI.tm i hi).ext0 hx, hI.df, hI.fr.trans hfr hpas, hI.kp.trans hk, fun b o hb' hnp' hF => hI.nf b o hb' hnp' (hnf b o (Nat.lt_of_lt_of_le hb' hI.base) (fun hp => (hpas b hp).elim (fun h => by omega) hnp') hF), ?_, hI.pe.ext0 hx⟩ hK
  refine ⟨hfx, fun m ρ hm => ?_, fun m ρ b hm hbk => ?_, fun m q ρ ρ' b hm hq hmb hqb => ?_⟩
  · obtain ⟨hn, hm⟩ := hget m ρ hm
    exact (hI.mem.ho m ρ hm).keep hx (fun h => h) rfl rfl (fun _ h => h.elim) (fun b hb' => hfr.block b ((hI.mem.ho m ρ hm).lt hb') (hnp m ρ b hn hm hb')) (fun b o hb' hF => hnf b o ((hI.mem.ho m ρ hm).lt hb') (hnp m ρ b hn hm hb') hF)
  · rw [bk2] at hbk
    exact hI.mem.bs m ρ b (hget m ρ hm).2 hbk
  · rw [bk2] at hmb hqb
    exact hI.mem.dj m q ρ ρ' b (hget m ρ hm).2 (hget q ρ' hq).2 hmb hqb
end
theorem awo_sub {X : Cx} {nn : Nat} {st st' : Vst nn} {ops : Array Oper} {l : List Oper} {KK : Vst nn → Prop} (hs : Sub X st st') (h : AWo X ops l st' KK) : AWo X ops l st KK := fun s w a hI => by
  obtain ⟨s', hI'⟩ := hs s w a hI
  exact h s' w a hI'
end Go.Proofs.YtdklhkdlndlgnaaGreatDoor
namespace Go.Proofs.YtdklhkdlndlgnaaGreatDoor
open Go.RowKit
attribute [local irreducible] wpList Calls Code.wp
section
variable {X : Cx} {nn : Nat} {st : Vst nn} {ops : Array Oper} {o : Oper}
def inO (l : List Nat) : Option Nat → Bool
  | none => true
  | some n => l.contains n
/-- what an operation yields; rd, wr: the names that it reads, that it writes -/
inductive YldN (X : Cx) (rd wr : List Nat) (o : Oper) (st : Vst nn) : V → List (Nat × Res) → Prop where
  | val {p : Prop} {v : V} (h : act1 X.P st.rs (ev st) o.op = .val p v) (hp : p) (hl : inO rd (loads (ev st) o.op) = true) : YldN X rd wr o st v []
  | valW {p : Prop} {v v' : V} (h : act1 X.P st.rs (ev st) o.op = .val p v) (hle : VLe v v') (hp : p) (hl : inO rd (loads (ev st) o.op) = true) : YldN X rd wr o st v' []
  | call {f : FuncId} {args : List V} {v : V} (h : act1 X.P st.rs (ev st) o.op = .call f args) (hc : AC X.e X.P f (outL args) v) : YldN X rd wr o st v []
  | lit {t e : TypeId} {b m : Nat} {parts : Array (Nat × Operand)} {ds : List D} (ho : o.op = .buildSlice t m parts) (he : elemOk X.P t = some (e, b)) (hn : m = ds.length) (hs : m * X.P.cellsOf e ≤ 2 ^ 24) (hp : partsD X.P e (ev st) parts.toList 0 ds) : YldN X rd wr o st (.lit e ds) []
  | pick {c x y : Operand} {b : Bool} (ho : o.op = .pick c x y) (hc : ev st c = .c (.bool b)) : YldN X rd wr o st (bif b then ev st x else ev st y) []
  | callB {f : FuncId} {vargs args : List V} {bs bs' : List Res} {r : V} (ns : List Nat) (h : act1 X.P st.rs (ev st) o.op = .call f vargs) (hc : ACB X.e X.P f args bs r bs') (hnd : ns.Nodup) (ha : renL (φin ns) vargs = args) (hb : ns.map (fun n => (st.rs n).map (renR (φin ns))) = bs.map some)
      (hl : ns.all (fun n => wr.contains n) = true) (hlen : bs'.length = ns.length) : YldN X rd wr o st (renV (φout ns) r) (ns.zip (bs'.map (renR (φout ns))))
  | callX {f : FuncId} {vargs args : List V} {bs : List Res} {pv : Value} (ns : List Nat) (h : act1 X.P st.rs (ev st) o.op = .call f vargs) (hc : ACX X.e X.P f args bs pv) (hnd : ns.Nodup) (ha : renL (φin ns) vargs = args) (hb : ns.map (fun n => (st.rs n).map (renR (φin ns))) = bs.map some)
      (hl : ns.all (fun n => wr.contains n) = true) (hpk : ∀ tm rs, X.pk pv tm rs) (v : V) (ρs : List Res) (hlen : ρs.length = ns.length) : YldN X rd wr o st v (ns.zip ρs)
  | callS {f : FuncId} {vargs args : List V} {bs : List Res} {r : V} (ns : List Nat) (h : act1 X.P st.rs (ev st) o.op = .call f vargs) (hc : ACB X.e X.P f args bs r bs) (hnd : ns.Nodup) (ha : renL (φin ns) vargs = args) (hb : ns.map st.rs = bs.map some) (hp : bs.all isBld = true)
      (hl : ns.all (fun n => rd.contains n) = true) : YldN X rd wr o st (renV (φout ns) r) []
  | onlit {t e : TypeId} {b : Nat} {x y : Operand} {l l2 : List D} (ho : o.op = .call { callee := .builtin .append, args := #[x, y], argTypes := #[t, t] }) (he : elemOk X.P t = some (e, b)) (hleaf : ∀ d, (cellsV X.P 12 e d).all V.leaf = true)
      (hx : ev st x = .lit e l) (hy : (ev st y).out = .sl e l2) (hp : l.length + l2.length ≤ maxLen ∧ (l.length + l2.length) * b ≤ 140737488355328) : YldN X rd wr o st (.sl e (l ++ l2)) []
  | app {t e : TypeId} {b k : Nat} {x y : Operand} {l l2 : List D} (hk : wr.contains k = true) (ho : o.op = .call { callee := .builtin .append, args := #[x, y], argTypes := #[t, t] }) (he : elemOk X.P t = some (e, b)) (hleaf : ∀ d, (cellsV X.P 12 e d).all V.leaf = true)
      (hx : ev st x = .own k e l) (hr : st.rs k = some (.tok e l.length)) (hy : (ev st y).out = .sl e l2) (hp : 0 < l2.length ∧ l.length + l2.length ≤ maxLen ∧ (l.length + l2.length) * b ≤ 140737488355328) :
      YldN X rd wr o st (.own k e (l ++ l2)) [(k, .tok e (l.length + l2.length))]
  | store {t t' : TypeId} {x y : Operand} {n off : Nat} {vs xs : List V} (hk : wr.contains n = true) (ho : o.op = .store t x y) (hd : o.dst = none) (hx : ev st x = .bx n off) (hr : st.rs n = some (.box t' vs)) (hc : cellsOf (ev st y) = some xs)
      (hs : X.P.cellsOf t = xs.length ∧ (X.P.info? t).isSome) (hl : off + xs.length ≤ vs.length) : YldN X rd wr o st .any [(n, .box t' (splice vs off xs))]
def YldG (X : Cx) (ops : Array Oper) (rd wr : List Nat) (o : Oper) (st : Vst nn) (v : V) (u : List (Nat × Res)) : Prop :=
  (gw ops o st = some true ∧ YldN X rd wr o st v u) ∨ (gw ops o st = some false ∧ v = .any ∧ u = [])
theorem updL_zip {rs : Nat → Option Res} : ∀ {ns : List Nat} {ρs : List Res}, ns.Nodup → ρs.length = ns.length → updL rs (ns.zip ρs) = updN rs ns ρs
  | [], [], _, _ => by funext m; rfl
  | n :: ns, ρ :: ρs, h, hl => by
    have ih := updL_zip (rs := rs) (ns := ns) (ρs := ρs) (List.nodup_cons.1 h).2 (by simpa using hl)
    funext m
    show (if m = n then some ρ else updL rs (ns.zip ρs) m) = _
    unfold updN
    rw [List.idxOf?_cons]
    by_cases e : m = n
    · subst e; simp
    · have e2 : ¬ (n == m) = true := by simp; exact fun h => e h.symm
      rw [if_neg e, ih, if_neg e2]
      unfold updN
      cases ns.idxOf? m <;> rfl
theorem opOk_yldN {rd wr : List Nat} {K : Vst nn → Prop} {v : V} {u : List (Nat × Res)} (h : YldN X rd wr o st v u) (hK : K (stp st o.dst v u)) : OpOk X o st K := by
  cases h with
  | val h hp hl => exact opOk_val h hp hK
  | valW h hle hp hl => exact opOk_valW _ h hle hp hK
  | call h hc => exact opOk_call h hc hK
  | lit ho he hn hs hp => exact opOk_lit ho he hn hs hp hK
  | callS ns h hc hnd ha hb hp hl => exact opOk_callS ns h hc hnd ha hb hp hK
  | callB ns h hc hnd ha hb hl hlen =>
    refine opOk_callB ns h hc hnd ha hb ?_
    unfold stp at hK
    rw [updL_zip hnd (by simpa using hlen)] at hK
    exact hK
  | callX ns h hc hnd ha hb hl hpk => exact opOk_callX ns h hc hnd ha hb (hpk _ _)
  | pick ho hc => exact opOk_pick ho hc hK
  | onlit ho he hleaf hx hy hp => exact opOk_append_lit ho he hleaf hx hy hp.1 hp.2 hK
  | app hk ho he hleaf hx hr hy hp =>
    unfold stp at hK; rw [updL_one] at hK
    exact opOk_append_own ho he hleaf hx hr hy hp.1 hp.2.1 hp.2.2 hK
  | store hk ho hd hx hr hc hs hl =>
    unfold stp at hK; rw [updL_one, hd] at hK
    exact opOk_store ho hd hx hr hc hs hl hK
/-- two lists of names have nothing in common -/
def disjB (a b : List Nat) : Bool := a.all fun n => !b.contains n
theorem disjB_ok {a b : List Nat} (h : disjB a b = true) {n : Nat} (ha : a.contains n = true) (hb : b.contains n = true) : False := by
  have := List.all_eq_true.1 h n (by simpa using ha)
  rw [hb] at this; cases this
/-- the names that a step has written are none that o looks at -/
def Off (rd wr : List Nat) (u' : List (Nat × Res)) : Prop := ∀ p ∈ u', rd.contains p.1 = false ∧ wr.contains p.1 = false
theorem updL_off {rs : Nat → Option Res} {rd wr : List Nat} {u' : List (Nat × Res)} (h : Off rd wr u') {n : Nat} (hn : rd.contains n = true ∨ wr.contains n = true) : updL rs u' n = rs n :=
  updL_out fun p hp e => by
    have := h p hp
    rw [e] at this
    rcases hn with hn | hn
    · rw [this.1] at hn; cases hn
    · rw [this.2] at hn; cases hn
theorem act1_off {P : Program} {rs : Nat → Option Res} {ea : Operand → V} {rd wr : List Nat} {u : List (Nat × Res)} (hu : Off rd wr u) (op : Op) (hl : inO rd (loads ea op) = true) : act1 P (updL rs u) ea op = act1 P rs ea op := by
  cases op
  case load t x =>
    simp only [act1, load1]
    simp only [loads] at hl
    split
    · rfl
    · rename_i n o he
      rw [he] at hl
      simp only [inO] at hl
      rw [updL_off hu (.inl hl)]
    · rfl
  case slice t x lo hi mx => cases mx <;> rfl
  all_goals rfl
theorem YldN.congr {rd wr : List Nat} {st st' : Vst nn} {v : V} {u : List (Nat × Res)} (hev : ∀ x ∈ o.op.operands, ev st' x = ev st x) (hrs : ∀ n, rd.contains n = true ∨ wr.contains n = true → st'.rs n = st.rs n) (hact : inO rd (loads (ev st) o.op) = true → act1 X.P st'.rs (ev st') o.op = act1 X.P st.rs (ev st) o.op)
    (hact2 : ∀ f args, act1 X.P st'.rs (ev st') o.op = .call f args ↔ act1 X.P st.rs (ev st) o.op = .call f args) (h : YldN X rd wr o st v u) : YldN X rd wr o st' v u := by
  have hloads := loads_congr o.op hev
  cases h with
  | val h hp hl => exact .val (by rw [hact hl]; exact h) hp (by rw [hloads]; exact hl)
  | valW h hle hp hl => exact .valW (by rw [hact hl]; exact h) hle hp (by rw [hloads]; exact hl)
  | call h hc => exact .call ((hact2 _ _).2 h) hc
  | lit ho he hn hs hp => exact .lit ho he hn hs (partsD_congr _ _ _ (fun p hp => (hev p.2 (by rw [ho]; simp [Op.operands]; exact ⟨p.1, by simpa using hp⟩)).symm) hp)
  | callB ns h hc hnd ha hb hl hlen =>
    refine .callB ns ((hact2 _ _).2 h) hc hnd ha ?_ hl hlen
    rw [← hb]
    exact List.map_congr_left fun q hq => by rw [hrs q (.inr (List.all_eq_true.1 hl q hq))]
  | callX ns h hc hnd ha hb hl hpk v ρs hlen =>
    refine .callX ns ((hact2 _ _).2 h) hc hnd ha ?_ hl hpk _ _ hlen
    rw [← hb]
    exact List.map_congr_left fun q hq => by rw [hrs q (.inr (List.all_eq_true.1 hl q hq))]
  | callS ns h hc hnd ha hb hp hl =>
    refine .callS ns ((hact2 _ _).2 h) hc hnd ha ?_ hp hl
    rw [← hb]
    exact List.map_congr_left fun q hq => hrs q (.inl (List.all_eq_true.1 hl q hq))
  | pick ho hc =>
    rename_i c x y b
    rw [← hev c (by rw [ho]; simp [Op.operands])] at hc
    rw [← hev x (by rw [ho]; simp [Op.operands]), ← hev y (by rw [ho]; simp [Op.operands])]
    exact .pick ho hc
  | onlit ho he hleaf hx hy hp =>
    rw [← hev _ (by rw [ho]; simp [Op.operands, Call.operands])] at hx
    rw [← hev _ (by rw [ho]; simp [Op.operands, Call.operands])] at hy
    exact .onlit ho he hleaf hx hy hp
  | app hk ho he hleaf hx hr hy hp =>
    rw [← hev _ (by rw [ho]; simp [Op.operands, Call.operands])] at hx
    rw [← hev _ (by rw [ho]; simp [Op.operands, Call.operands])] at hy
    exact .app hk ho he hleaf hx (by rw [hrs _ (.inr hk)]; exact hr) hy hp
  | store hk ho hd hx hr hc hs hl =>
    rw [← hev _ (by rw [ho]; simp [Op.operands])] at hx
    rw [← hev _ (by rw [ho]; simp [Op.operands])] at hc
    exact .store hk ho hd hx (by rw [hrs _ (.inr hk)]; exact hr) hc hs hl
theorem YldG.of {rd wr : List Nat} {d : Option Tmp} {v v' : V} {u u' : List (Nat × Res)} (hd : ∀ t, d = some t → t ∉ o.looksAt ops) (hu : Off rd wr u') :
    YldG X ops rd wr o (stp st d v' u') v u ↔ YldG X ops rd wr o st v u := by
  have hev : ∀ x ∈ o.op.operands, ev (stp st d v' u') x = ev st x := fun x hx => ev_stp fun t ht hxt => hd t ht (by
    subst hxt
    exact List.mem_append_left _ (List.mem_filterMap.2 ⟨.tmp t, by simpa using hx, rfl⟩))
  have hloads := loads_congr o.op hev
  have hact : inO rd (loads (ev st) o.op) = true → act1 X.P (stp st d v' u').rs (ev (stp st d v' u')) o.op = act1 X.P st.rs (ev st) o.op := fun hl => by
    rw [act1_congr o.op hev, stp_rs]
    exact act1_off hu _ hl
  have hact2 : ∀ f args, act1 X.P (stp st d v' u').rs (ev (stp st d v' u')) o.op = .call f args ↔ act1 X.P st.rs (ev st) o.op = .call f args := fun f args => by
    rw [act1_congr o.op hev]
    cases ho : o.op
    case load t x =>
      have nob : ∀ rs, act1 X.P rs (ev st) (.load t x) ≠ .call f args := fun rs h => by
        simp only [act1, load1, ofPart] at h
        repeat' (split at h)
        all_goals cases h
      exact ⟨fun h => (nob _ h).elim, fun h => (nob _ h).elim⟩
    case slice t x lo hi mx => cases mx <;> rfl
    all_goals rfl
  have hgv : ∀ j want, o.guard = some (j, want) → gval ops (stp st d v' u') j = gval ops st j := fun j want hg => by
    unfold gval
    cases ht : (ops[j]?).bind (·.dst) with
    | none => rfl
    | some t =>
      have : ev (stp st d v' u') (.tmp t) = ev st (.tmp t) := ev_stp fun q hq hqt => by
        cases hqt
        exact hd t hq (by simp [Oper.looksAt, hg, ht])
      simp only [this]
  have hgw : gw ops o (stp st d v' u') = gw ops o st := by
    unfold gw
    cases hg : o.guard with
    | none => rfl
    | some jw => simp only [hgv jw.1 jw.2 hg]
  have hrs : ∀ n, rd.contains n = true ∨ wr.contains n = true → (stp st d v' u').rs n = st.rs n := fun n hn => by
    rw [stp_rs]; exact updL_off hu hn
  unfold YldG
  rw [hgw]
  refine or_congr (and_congr Iff.rfl ⟨fun h => ?_, fun h => ?_⟩) Iff.rfl
  · exact h.congr (fun x hx => (hev x hx).symm) (fun n hn => (hrs n hn).symm) (fun hl => (hact (by rw [hloads] at hl; exact hl)).symm) fun f args => (hact2 f args).symm
  · exact h.congr hev hrs hact hact2
theorem YldG.names {rd wr : List Nat} {v : V} {u : List (Nat × Res)} (h : YldG X ops rd wr o st v u) : ∀ p ∈ u, wr.contains p.1 = true := by
  rcases h with ⟨_, h⟩ | ⟨_, _, rfl⟩
  · cases h with
    | app hk => exact fun p hp => by simp at hp; subst hp; exact hk
    | store hk => exact fun p hp => by simp at hp; subst hp; exact hk
    | callB ns h hc hnd ha hb hl hlen => exact fun p hp => List.all_eq_true.1 hl _ (List.of_mem_zip hp).1
    | callX ns h hc hnd ha hb hl => exact fun p hp => List.all_eq_true.1 hl _ (List.of_mem_zip hp).1
    | _ => exact fun p hp => by simp at hp
  · exact fun p hp => by simp at hp
theorem updL_comm {rs : Nat → Option Res} {u u' : List (Nat × Res)} (h : ∀ p ∈ u, ∀ q ∈ u', p.1 ≠ q.1) : updL (updL rs u) u' = updL (updL rs u') u := by
  have look : ∀ (rs : Nat → Option Res) (u : List (Nat × Res)) (m : Nat), (∃ p ∈ u, p.1 = m) → ∀ rs', updL rs u m = updL rs' u m := by
    intro rs u m hm rs'
    induction u with
    | nil => obtain ⟨p, hp, _⟩ := hm; simp at hp
    | cons x u ih =>
      obtain ⟨k, ρ⟩ := x
      show (if m = k then some ρ else updL rs u m) = if m = k then some ρ else updL rs' u m
      by_cases e : m = k
      · rw [if_pos e, if_pos e]
      · rw [if_neg e, if_neg e]
        obtain ⟨p, hp, he⟩ := hm
        rcases List.mem_cons.1 hp with rfl | hp
        · exact absurd he.symm e
        · exact ih ⟨p, hp, he⟩
  funext m
  by_cases h1 : ∃ p ∈ u, p.1 = m
  · have h2 : ∀ q ∈ u', q.1 ≠ m := fun q hq e => by
      obtain ⟨p, hp, he⟩ := h1
      exact h p hp q hq (he.trans e.symm)
    rw [updL_out h2, look (updL rs u') u m h1 rs]
  · have h3 : ∀ p ∈ u, p.1 ≠ m := fun p hp e => h1 ⟨p, hp, e⟩
    rw [updL_out (rs := updL rs u') h3]
    by_cases h2 : ∃ q ∈ u', q.1 = m
    · rw [look (updL rs u) u' m h2 rs]
    · have h4 : ∀ q ∈ u', q.1 ≠ m := fun q hq e => h2 ⟨q, hq, e⟩
      rw [updL_out h4, updL_out h4, updL_out h3]
theorem stp_commG {d d' : Option Tmp} {v v' : V} {u u' : List (Nat × Res)} (h : ∀ t, d = some t → d' ≠ some t) (hu : ∀ p ∈ u, ∀ q ∈ u', p.1 ≠ q.1) : stp (stp st d v u) d' v' u' = stp (stp st d' v' u') d v u := by
  have hpr : ∀ (st : Vst nn) (d : Option Tmp) (v : V) (r : Nat → Option Res), ({ (st.put d v) with rs := r } : Vst nn) = ({ st with rs := r } : Vst nn).put d v := fun st d v r => by cases d <;> rfl
  unfold stp
  rw [hpr, hpr, rs_put, rs_put, updL_comm hu]
  exact put_comm h
variable {rd wr : Nat → List Nat}
/-- operations that do not wait for one another touch different names -/
def namesB (ops : Array Oper) (rd wr : Nat → List Nat) : Bool := (List.range ops.size).all fun j => (List.range j).all fun i =>
  (disjB (wr i) (rd j) && disjB (wr i) (wr j) && disjB (wr j) (rd i)) || (reachS ops ops.size (waits ops j)).contains i
def aOpG (X : Cx) (ops : Array Oper) (rd wr : Nat → List Nat) (i : Nat) (K : Vst nn → Prop) (st : Vst nn) : Prop :=
  match ops[i]? with
  | none => K st
  | some o => ∃ v u, YldG X ops (rd i) (wr i) o st v u ∧ K (stp st o.dst v u)
theorem aOpG_mono {i : Nat} {K K' : Vst nn → Prop} (h : ∀ st, K st → K' st) (hh : aOpG X ops rd wr i K st) : aOpG X ops rd wr i K' st := by
  unfold aOpG at *
  split
  · rename_i hn; simp only [hn] at hh; exact h _ hh
  · rename_i o ho
    simp only [ho] at hh
    obtain ⟨v, u, h1, h2⟩ := hh
    exact ⟨v, u, h1, h _ h2⟩
def absAnyG (X : Cx) (ops : Array Oper) (rd wr : Nat → List Nat) (Q : Vst nn → Prop) : Nat → Array Bool → Vst nn → Prop
  | 0, listed, st => Region.ready .any ops listed = [] ∧ Q st
  | fuel + 1, listed, st => (Region.ready .any ops listed = [] → Q st) ∧ ∀ i ∈ Region.ready .any ops listed, aOpG X ops rd wr i (absAnyG X ops rd wr Q fuel (listed.setIfInBounds i true)) st
theorem aOpG_put {i j : Nat} {oi oj : Oper} {v : V} {u : List (Nat × Res)} (hj : ops[j]? = some oj) (hap : oi.apart ops oj = true) (hn : disjB (wr i) (rd j) = true ∧ disjB (wr i) (wr j) = true ∧ disjB (wr j) (rd i) = true) {K : Vst nn → Prop} (hy : YldG X ops (rd i) (wr i) oi st v u) (h : aOpG X ops rd wr j K (stp st oi.dst v u)) :
    aOpG X ops rd wr j (fun st' => YldG X ops (rd i) (wr i) oi st' v u ∧ K (stp st' oi.dst v u)) st := by
  obtain ⟨h1, h2, h3⟩ := Oper.apart_spec hap
  unfold aOpG at *
  simp only [hj] at *
  obtain ⟨v', u', hy', hK⟩ := h
  have hu : Off (rd j) (wr j) u := fun p hp => by
    have hw := hy.names p hp
    refine ⟨?_, ?_⟩
    · cases hq : (rd j).contains p.1
      · rfl
      · exact (disjB_ok hn.1 hw hq).elim
    · cases hq : (wr j).contains p.1
      · rfl
      · exact (disjB_ok hn.2.1 hw hq).elim
  have hyj : YldG X ops (rd j) (wr j) oj st v' u' := (YldG.of h1 hu).1 hy'
  have hu' : Off (rd i) (wr i) u' := fun p hp => by
    have hw := hyj.names p hp
    refine ⟨?_, ?_⟩
    · cases hq : (rd i).contains p.1
      · rfl
      · exact (disjB_ok hn.2.2 hw hq).elim
    · cases hq : (wr i).contains p.1
      · rfl
      · exact (disjB_ok hn.2.1 hq hw).elim
  have huu : ∀ p ∈ u, ∀ q ∈ u', p.1 ≠ q.1 := fun p hp q hq e => by
    have h5 := hy.names p hp
    have h6 := hyj.names q hq
    rw [← e] at h6
    exact disjB_ok hn.2.1 h5 h6
  exact ⟨v', u', hyj, (YldG.of h3 hu').2 hy, by rw [← stp_commG h2 huu]; exact hK⟩
theorem absAnyG_first {Q : Vst nn → Prop} {i : Nat} {oi : Oper} {v : V} {u : List (Nat × Res)} (hi : ops[i]? = some oi) (hN : namesB ops rd wr = true) :
    ∀ (fuel : Nat) (listed : Array Bool) (st : Vst nn), Closed ops listed → (∀ j, j < i → listed.getD j false = true) →
      (∀ j oj, ops[j]? = some oj → j ≠ i → listed.getD j true = false → (∀ e ∈ oj.after, Region.binds .any e = true → e.on ≠ i) → oi.apart ops oj = true) →
      i ∈ Region.ready .any ops listed → YldG X ops (rd i) (wr i) oi st v u →
      absAnyG X ops rd wr Q fuel (listed.setIfInBounds i true) (stp st oi.dst v u) → absAnyG X ops rd wr Q (fuel + 1) listed st := by
  intro fuel
  induction fuel with
  | zero =>
    intro listed st _ _ _ hr hy H
    refine ⟨fun h => (by rw [h] at hr; cases hr), fun j hj => ?_⟩
    by_cases hji : j = i
    · subst hji; unfold aOpG; simp only [hi]; exact ⟨v, u, hy, H⟩
    · have := ready_mono hj hji
      rw [H.1] at this
      cases this
  | succ fuel ih =>
    intro listed st hcl hlow hfree hr hy H
    refine ⟨fun h => (by rw [h] at hr; cases hr), fun j hj => ?_⟩
    by_cases hji : j = i
    · subst hji; unfold aOpG; simp only [hi]; exact ⟨v, u, hy, H⟩
    · have h1 := H.2 j (ready_mono hj hji)
      obtain ⟨hjun, oj, hoj, hall⟩ := mem_ready.1 hj
      have hiun := (mem_ready.1 hr).1
      have hnot : ∀ e ∈ oj.after, Region.binds .any e = true → e.on ≠ i := fun e he hb heq => by
        have h1 := hall e he hb
        rw [heq] at h1
        exact listed_both hiun h1
      have hij : i < j := by
        rcases Nat.lt_trichotomy i j with h | h | h
        · exact h
        · exact absurd h.symm hji
        · exact (listed_both hjun (hlow j h)).elim
      have hsz : j < ops.size := (Array.getElem?_eq_some_iff.1 hoj).1
      have hnm : disjB (wr i) (rd j) = true ∧ disjB (wr i) (wr j) = true ∧ disjB (wr j) (rd i) = true := by
        have h2 := List.all_eq_true.1 (List.all_eq_true.1 hN j (List.mem_range.2 hsz)) i (List.mem_range.2 hij)
        rw [Bool.or_eq_true] at h2
        rcases h2 with h2 | h2
        · simp only [Bool.and_eq_true] at h2; exact ⟨h2.1.1, h2.1.2, h2.2⟩
        · refine (listed_both hiun (reach_ok hcl _ _ (fun k hk => ?_) i (by simpa using h2))).elim
          unfold waits at hk
          rw [hoj] at hk
          obtain ⟨e, he, rfl⟩ := List.mem_map.1 hk
          obtain ⟨h2, h3⟩ := List.mem_filter.1 he
          exact hall e (by simpa using h2) h3
      have h2 := aOpG_put (i := i) hoj (hfree j oj hoj hji hjun hnot) hnm hy h1
      have hfree' : ∀ k ok, ops[k]? = some ok → k ≠ i → (listed.setIfInBounds j true).getD k true = false →
          (∀ e ∈ ok.after, Region.binds .any e = true → e.on ≠ i) → oi.apart ops ok = true := fun k ok hk hki hun hno => by
        refine hfree k ok hk hki ?_ hno
        by_cases hjk : j = k
        · subst hjk; exact hjun
        · rw [getD_set_ne true hjk] at hun; exact hun
      refine aOpG_mono (fun st' h3 => ih (listed.setIfInBounds j true) st' (hcl.set hj) (fun k hk => getD_set_true (hlow k hk)) hfree' (ready_mono hr (Ne.symm hji)) h3.1 ?_) h2
      rw [Array.setIfInBounds_comm _ _ hji]
      exact h3.2
/-- the walk of the text's order -/
def absLexG (X : Cx) (ops : Array Oper) (rd wr : Nat → List Nat) (Q : Vst nn → Prop) : Nat → List Oper → Vst nn → Prop
  | _, [], st => Q st
  | k, o :: rest, st => ∃ v u, YldG X ops (rd k) (wr k) o st v u ∧ absLexG X ops rd wr Q (k + 1) rest (stp st o.dst v u)
theorem set_self_true {listed : Array Bool} {k : Nat} (h : k < listed.size) : (listed.setIfInBounds k true).getD k false = true := by
  simp [Array.getD_eq_getD_getElem?, h]
theorem absAnyG_lex {Q : Vst nn → Prop} (hN : namesB ops rd wr = true) : ∀ (l : List Oper) (k : Nat) (listed : Array Bool) (st : Vst nn), (∀ j, l[j]? = ops[k + j]?) → Closed ops listed → (∀ j, j < k → listed.getD j false = true) → listed.size = ops.size →
    Region.lexFrom .any ops l.length k listed = true → absLexG X ops rd wr Q k l st → absAnyG X ops rd wr Q l.length listed st
  | [], _, _, _, _, _, _, _, hB, h => ⟨by simpa [Region.lexFrom] using hB, h⟩
  | o :: l, k, listed, st, hl, hcl, hlow, hsz, hB, h => by
    have h0 : ops[k]? = some o := by simpa using (hl 0).symm
    have hk : k < ops.size := (Array.getElem?_eq_some_iff.1 h0).1
    simp only [List.length_cons, Region.lexFrom, Bool.and_eq_true] at hB
    obtain ⟨⟨hr, hf⟩, hB'⟩ := hB
    have hr : k ∈ Region.ready .any ops listed := by simpa using hr
    obtain ⟨v, u, hy, hK⟩ := h
    exact absAnyG_first h0 hN l.length listed st hcl hlow (Region.free_spec h0 hf) hr hy
      (absAnyG_lex hN l (k + 1) _ _ (fun j => by have := hl (j + 1); simpa [Nat.add_assoc, Nat.add_comm 1 j] using this) (hcl.set hr) (fun j hj => by
        by_cases e : j = k
        · subst e; exact set_self_true (by omega)
        · exact getD_set_true (hlow j (by omega))) (by simpa using hsz) hB' hK)
theorem wpAny_of_absG {Q : Vst nn → Prop} {Q' : Exit → Act → World → Prop} (hP : PQ X nn Q') (hQ : ∀ st' s' w' a', Inv X st' s' w' a' → Q st' → Q' .normal a' w') : ∀ (fuel : Nat) (listed : Array Bool) (st : Vst nn) (s : Sg) (w : World) (a : Act), Inv X st s w a →
    absAnyG X ops rd wr Q fuel listed st → wpAny X.P .any ops Q' fuel listed a w
  | 0, _, _, _, _, _, hI, h => ⟨h.1, hQ _ _ _ _ hI h.2⟩
  | fuel + 1, listed, st, s, w, a, hI, h => ⟨fun h0 => hQ _ _ _ _ hI (h.1 h0), fun i hi => by
    have h1 := h.2 i hi
    unfold aOpG at h1
    unfold wpOp
    cases ho : ops[i]? with
    | none =>
      simp only [ho] at h1 ⊢
      exact wpAny_of_absG hP hQ fuel _ st s w a hI h1
    | some o =>
      simp only [ho] at h1 ⊢
      obtain ⟨v, u, hy, hK⟩ := h1
      rcases hy with ⟨hg, hy⟩ | ⟨hg, rfl, rfl⟩
      · rw [if_pos (gw_ok hg hI)]
        exact .inl (opOk_yldN (K := absAnyG X ops rd wr Q fuel (listed.setIfInBounds i true)) hy hK s w a hI _ _ hP fun st' s' w' a' hI' hK' => wpAny_of_absG hP hQ fuel _ st' s' w' a' hI' hK')
      · rw [if_neg (by rw [gw_ok hg hI]; simp)]
        exact wpAny_of_absG hP hQ fuel _ _ s w (a.put o.dst undef) (hI.put o.dst (by simp [rel])) hK⟩
/-- a list of names for each operation -/
def nmf (l : List (Nat × List Nat)) (k : Nat) : List Nat := match l.find? (fun p => p.1 == k) with | some p => p.2 | none => []
/-- a region that draws its order; r, w: the names that operations read, write, by their places -/
theorem aw_drawG (r w : List (Nat × List Nat)) {id : Nat} {l : List Oper} {K : Exit → Vst nn → Prop} (hm : X.P.follows .mixedOrders = true) (hB : Region.lexB .any l.toArray = true) (hN : namesB l.toArray (nmf r) (nmf w) = true) (h : absLexG X l.toArray (nmf r) (nmf w) (K .normal) 0 l st) : AW X (.region id l.toArray true) st K := fun s wd a hI => by
  simp only [Region.lexB, Bool.and_eq_true] at hB
  refine wp_region_any hm (wpAny_of_absG (rd := nmf r) (wr := nmf w) (Q := K .normal) (fun pv st' s' w' a' hI' hp => ⟨st', s', hI', .inr ⟨pv, rfl, hp⟩⟩) (fun st' s' w' a' hI' hK => ⟨st', s', hI', .inl hK⟩) _ _ st s _ a hI.drew ?_)
  have := absAnyG_lex (X := X) (rd := nmf r) (wr := nmf w) (Q := K .normal) hN l 0 (Array.replicate l.toArray.size false) st (by simp) (fun k o _ hk => by
    have e : (Array.replicate l.toArray.size false).getD k false = false := by
      rw [Array.getD_eq_getD_getElem?, Array.getElem?_replicate]
      split <;> rfl
    rw [e] at hk; cases hk) (fun j hj => absurd hj (Nat.not_lt_zero j)) (by simp) (by simpa using hB.2) h
  simpa using this
/-- no such state is there: a call has panicked -/
def Dead (st : Vst nn) : Prop := ∃ m t, st.rs m = some (.box t [.c (.tuple #[])])
theorem Dead.no {s : Sg} {w : World} {a : Act} (h : Dead st) (hI : Inv X st s w a) : False := by
  obtain ⟨m, t, h1⟩ := h
  obtain ⟨b, cs, -, -, h2, -⟩ := hI.mem.ho m _ h1
  cases hc : cs.toList with
  | nil => rw [hc] at h2; simp [relL] at h2
  | cons x r =>
    rw [hc, relL, rel] at h2
    exact h2.1.2
section
variable {l : List Oper} {Q : Vst nn → Prop} {d : Option Tmp} {k : Nat}
theorem g_nil (h : Q st) : absLexG X ops rd wr Q k [] st := h
theorem g_valW {p : Prop} {v : V} (v' : V) (hg : o.guard = none) (hd : o.dst = d) (h : act1 X.P st.rs (ev st) o.op = .val p v) (hle : VLe v v') (hK : absLexG X ops rd wr Q (k + 1) l (st.put d v')) (hp : p) (hl : inO (rd k) (loads (ev st) o.op) = true) : absLexG X ops rd wr Q k (o :: l) st :=
  ⟨v', [], .inl ⟨by simp [gw, hg], .valW h hle hp hl⟩, by rw [hd]; exact hK⟩
theorem g_val {p : Prop} {v : V} (hg : o.guard = none) (hd : o.dst = d) (h : act1 X.P st.rs (ev st) o.op = .val p v) (hK : absLexG X ops rd wr Q (k + 1) l (st.put d v)) (hp : p) (hl : inO (rd k) (loads (ev st) o.op) = true) : absLexG X ops rd wr Q k (o :: l) st :=
  ⟨v, [], .inl ⟨by simp [gw, hg], .val h hp hl⟩, by rw [hd]; exact hK⟩
theorem g_call {f : FuncId} {args : List V} {r : V} (hg : o.guard = none) (hd : o.dst = d) (h : act1 X.P st.rs (ev st) o.op = .call f args) (hc : AC X.e X.P f (outL args) r) (hK : absLexG X ops rd wr Q (k + 1) l (st.put d r)) : absLexG X ops rd wr Q k (o :: l) st :=
  ⟨r, [], .inl ⟨by simp [gw, hg], .call h hc⟩, by rw [hd]; exact hK⟩
theorem g_lit {t e : TypeId} {by_ m : Nat} {parts : Array (Nat × Operand)} (ds : List D) (hg : o.guard = none) (ho : o.op = .buildSlice t m parts) (hd : o.dst = d) (he : elemOk X.P t = some (e, by_)) (hn : m = ds.length) (hsm : Nat.ble (m * X.P.cellsOf e) (2 ^ 24) = true)
    (hp : partsD X.P e (ev st) parts.toList 0 ds) (hK : absLexG X ops rd wr Q (k + 1) l (st.put d (.lit e ds))) : absLexG X ops rd wr Q k (o :: l) st :=
  ⟨_, [], .inl ⟨by simp [gw, hg], .lit ho he hn (Nat.le_of_ble_eq_true hsm) hp⟩, by rw [hd]; exact hK⟩
theorem stp_two {v : V} {us : List (Nat × Res)} : stp st d v us = ({ st with rs := updL st.rs us } : Vst nn).put d v := rfl
theorem g_app {t e : TypeId} {by_ q : Nat} {x y : Operand} {l1 l2 : List D} (hg : o.guard = none) (ho : o.op = .call { callee := .builtin .append, args := #[x, y], argTypes := #[t, t] }) (hd : o.dst = d) (he : elemOk X.P t = some (e, by_))
    (hleaf : ∀ d, (cellsV X.P 12 e d).all V.leaf = true) (hx : ev st x = .own q e l1) (hw : (wr k).contains q = true) (hr : st.rs q = some (.tok e l1.length)) (hy : (ev st y).out = .sl e l2) (hK : absLexG X ops rd wr Q (k + 1) l ((st.res q (.tok e (l1.length + l2.length))).put d (.own q e (l1 ++ l2))))
    (hp : 0 < l2.length ∧ l1.length + l2.length ≤ maxLen ∧ (l1.length + l2.length) * by_ ≤ 140737488355328) : absLexG X ops rd wr Q k (o :: l) st :=
  ⟨_, _, .inl ⟨by simp [gw, hg], .app hw ho he hleaf hx hr hy hp⟩, by rw [hd, stp_one]; exact hK⟩
theorem g_store {t : TypeId} {x y : Operand} {m off : Nat} {t' : TypeId} {vs xs : List V} (hg : o.guard = none) (ho : o.op = .store t x y) (hd : o.dst = none) (hx : ev st x = .bx m off) (hw : (wr k).contains m = true) (hr : st.rs m = some (.box t' vs)) (hc : cellsOf (ev st y) = some xs)
    (hs : X.P.cellsOf t = xs.length ∧ (X.P.info? t).isSome) (hl : Nat.ble (off + xs.length) vs.length = true) (hK : absLexG X ops rd wr Q (k + 1) l (st.res m (.box t' (splice vs off xs)))) : absLexG X ops rd wr Q k (o :: l) st :=
  ⟨_, _, .inl ⟨by simp [gw, hg], .store hw ho hd hx hr hc hs (Nat.le_of_ble_eq_true hl)⟩, by rw [hd, stp_one]; exact hK⟩
end
end
end Go.Proofs.YtdklhkdlndlgnaaGreatDoor
namespace Go.Proofs.YtdklhkdlndlgnaaGreatDoor
open Go.RowKit
attribute [local irreducible] wpList Calls Code.wp
section
variable {X : Cx} {nn : Nat} {st : Vst nn} {o : Oper} {ops : Array Oper} {l : List Oper} {d : Option Tmp} {KK : Vst nn → Prop} {Q : Vst nn → Prop} {rd wr : Nat → List Nat} {k : Nat}
theorem aw_drawGn (n : Nat) (r w : List (Nat × List Nat)) {id : Nat} {l : List Oper} {K : Exit → Vst nn → Prop} (hn : l.length = n) (hm : X.P.follows .mixedOrders = true) (hB : Region.lexB .any l.toArray = true) (hN : namesB l.toArray (nmf r) (nmf w) = true) (h : absLexG X l.toArray (nmf r) (nmf w) (K .normal) 0 l st) : AW X (.region id l.toArray true) st K :=
  aw_drawG r w hm hB hN h
/-- a nil slice in a box becomes one under way, named q -/
theorem Sub.ownF {m q i : Nat} {t e : TypeId} {vs : List V} (hq : Nat.ble q 999999 = true) (hmq : m ≠ q) (hr : st.rs m = some (.box t vs)) (hv : vs[i]? = some (.c (.slice none 0 0))) (hf : freeL q vs = true) :
    Sub X st (((st.kill q).res q (.tok e 0)).res m (.box t (vs.set i (.own q e [])))) := fun s w a hI => by
  have hI' := hI.kill q
  let s' : Sg := { s with tb := fun p => if p = q then none else s.tb p, tk := fun p => if p = q then (.slice none 0 0, 0) else s.tk p }
  have hx : Ext (fun p => p = q) s w s' w := ⟨Keeps.refl, fun _ _ => rfl, fun p hp => .inl (by show (if p = q then _ else s.tk p) = _; rw [if_neg hp])⟩
  have hbk : ∀ p ρ, p ≠ q → s'.bk p ρ = s.bk p ρ := fun p ρ hp => by
    funext x; cases ρ <;> simp [Sg.bk, s', hp]
  have hkm : (st.kill q).rs m = some (.box t vs) := by
    simp only [Vst.kill]
    rw [if_neg hmq, hr]
    simp [Res.free, hf]
  have hget : ∀ p ρ, (((st.kill q).res q (.tok e 0)).res m (.box t (vs.set i (.own q e [])))).rs p = some ρ → (p = m ∧ ρ = .box t (vs.set i (.own q e []))) ∨ (p = q ∧ ρ = .tok e 0) ∨ (p ≠ m ∧ p ≠ q ∧ (st.kill q).rs p = some ρ) := fun p ρ hp => by
    simp only [Vst.res, updR] at hp
    split at hp
    · rename_i h1; cases hp; exact .inl ⟨h1, rfl⟩
    · rename_i h1
      split at hp
      · rename_i h2; cases hp; exact .inr (.inl ⟨h2, rfl⟩)
      · rename_i h2; exact .inr (.inr ⟨h1, h2, hp⟩)
  have hbm : ∀ b, s'.bk m (.box t (vs.set i (.own q e []))) b → s.bk m (.box t vs) b := fun b h => h
  refine ⟨s', hI.sz, fun j hj => ?_, hI.df, hI.fr, hI.kp, hI.nf, ?_, hI.pe.ext hx fun p hp => by subst hp; exact Nat.le_of_ble_eq_true hq⟩
  · exact rel.ext hx _ _ (killV_rel (hI.tm j hj)).1 fun n hn => by subst hn; exact (killV_rel (hI.tm j hj)).2
  · refine ⟨hI.mem.fx, fun p ρ hp => ?_, fun p ρ b hp hb => ?_, fun p r ρ ρ' b hp hr' hpb hrb => ?_⟩
    · rcases hget p ρ hp with ⟨rfl, rfl⟩ | ⟨rfl, rfl⟩ | ⟨h1, h2, h3⟩
      · obtain ⟨b, cs, q1, q2, q3, q4⟩ := (hI'.mem.ho p _ hkm).keep hx hmq (by simp [s', hmq]) (by simp [s', hmq]) (fun n hn => by subst hn; exact hf) (fun _ _ => rfl) (fun _ _ _ h => h)
        refine ⟨b, cs, q1, q2, ?_, q4⟩
        have hlt : i < vs.length := (List.getElem?_eq_some_iff.1 hv).1
        have hlt2 : i < cs.toList.length := by rw [← q3.length]; exact hlt
        have hu := q3.get i _ _ hv (List.getElem?_eq_getElem hlt2)
        rw [rel] at hu
        have hset : cs.toList.set i (.slice none 0 0) = cs.toList := by
          rw [← hu.1]; exact List.set_getElem_self hlt2
        have h5 := q3.set i (v := .own q e []) (u := .slice none 0 0) (by
          rw [rel]
          refine ⟨⟨0, none, 0, rfl, Nat.le_refl _, by decide, fun _ => rfl, fun h => by simp at h⟩, ?_, ?_⟩
          · simp [s']
          · intro _; simp [s'])
        rw [hset] at h5
        exact h5
      · exact ⟨by simp [s'], .inl ⟨by simp [s'], by simp [s'], rfl⟩⟩
      · exact (hI'.mem.ho p ρ h3).keep hx h2 (by simp [s', h2]) (by simp [s', h2]) (fun n hn => by subst hn; exact kill_free st n p h3) (fun _ _ => rfl) (fun _ _ _ h => h)
    · rcases hget p ρ hp with ⟨rfl, rfl⟩ | ⟨rfl, rfl⟩ | ⟨h1, h2, h3⟩
      · exact hI'.mem.bs p _ b hkm hb
      · simp [Sg.bk, s'] at hb
      · rw [hbk p ρ h2] at hb; exact hI'.mem.bs p ρ b h3 hb
    · rcases hget p ρ hp with ⟨rfl, rfl⟩ | ⟨rfl, rfl⟩ | ⟨h1, h2, h3⟩ <;> rcases hget r ρ' hr' with ⟨rfl, rfl⟩ | ⟨rfl, rfl⟩ | ⟨g1, g2, g3⟩
      · rfl
      · simp [Sg.bk, s'] at hrb
      · rw [hbk r ρ' g2] at hrb; exact hI'.mem.dj p r _ _ b hkm g3 hpb hrb
      · simp [Sg.bk, s'] at hpb
      · rfl
      · simp [Sg.bk, s'] at hpb
      · rw [hbk p ρ h2] at hpb; exact hI'.mem.dj p r _ _ b h3 hkm hpb hrb
      · simp [Sg.bk, s'] at hrb
      · rw [hbk p ρ h2] at hpb; rw [hbk r ρ' g2] at hrb; exact hI'.mem.dj p r _ _ b h3 g3 hpb hrb
end
end Go.Proofs.YtdklhkdlndlgnaaGreatDoor
namespace Go.Proofs.YtdklhkdlndlgnaaGreatDoor
abbrev JE := Nat × Int
def vD (k n : Int) (s : List UInt8) (items keys : List D) : D := .obj [.int k, .int n, .str ⟨s.toArray⟩, .list items, .list keys]
end Go.Proofs.YtdklhkdlndlgnaaGreatDoor
namespace Go.Proofs.YtdklhkdlndlgnaaGreatDoor
/-- the reader: where it is, how many nodes it has read, where it failed, the error -/
structure JS where
  p : Nat
  m : Nat
  bad : Int
  e : Int
def failS (x : JS) (q : Nat) (c : Int) : JS := if x.e = 0 then ⟨x.p, x.m, q, c⟩ else x
section
variable (S : List UInt8)
def atS (x : JS) : UInt8 := S.getD x.p 0
def goS (x : JS) : JS := ⟨x.p + 1, x.m, x.bad, x.e⟩
def takeS (q : List UInt8) (x : JS) : UInt8 × JS :=
  if x.e = 0 ∧ x.p < S.length ∧ q.contains (atS S x) = true then (atS S x, goS x) else (0, failS x x.p 3)
def keysD (ks : List (List UInt8)) : List D := ks.map fun s => D.str ⟨s.toArray⟩
def okS (x : JS) (r : List UInt8) (m : Nat) : Prop := x.e = 0 ∧ x.bad = 0 ∧ x.m = m ∧ x.p ≤ S.length ∧ S.drop x.p = r
def bdS (x : JS) (k : Nat) (c : Int) : Prop := x.e = c ∧ c ≠ 0 ∧ x.bad = (S.length : Int) - k ∧ x.p ≤ S.length
end
variable {S : List UInt8} {x : JS} {r : List UInt8} {m k : Nat} {c : Int}
theorem okS.len (h : okS S x r m) : x.p + r.length = S.length := by
  obtain ⟨-, -, -, h4, h5⟩ := h
  rw [← h5, List.length_drop]; omega
theorem okS.atCons {c : UInt8} {r : List UInt8} (h : okS S x (c :: r) m) : x.p < S.length ∧ atS S x = c := by
  have hl := h.len
  have hlt : x.p < S.length := by simp at hl; omega
  refine ⟨hlt, ?_⟩
  have h5 := h.2.2.2.2
  rw [List.drop_eq_getElem_cons hlt] at h5
  cases h5
  unfold atS
  rw [List.getD_eq_getElem?_getD, List.getElem?_eq_getElem hlt]; rfl
theorem okS.go {c : UInt8} {r : List UInt8} (h : okS S x (c :: r) m) : okS S (goS x) r m := by
  obtain ⟨h1, h2, h3, h4, h5⟩ := h
  have hlt := (okS.atCons (S := S) ⟨h1, h2, h3, h4, h5⟩).1
  refine ⟨h1, h2, h3, hlt, ?_⟩
  rw [List.drop_eq_getElem_cons hlt] at h5
  cases h5; rfl
theorem drop_suffix {q : List UInt8} (h : q <:+ S) : S.drop (S.length - q.length) = q := by
  obtain ⟨t, rfl⟩ := h
  simp
theorem okS.suffix (h : okS S x r m) : r <:+ S := h.2.2.2.2 ▸ List.drop_suffix _ _
/-- the reader goes on to a later place -/
theorem okS.to (h : okS S x r m) {q : List UInt8} (hq : q <:+ r) : okS S ⟨S.length - q.length, x.m, x.bad, x.e⟩ q m :=
  ⟨h.1, h.2.1, h.2.2.1, Nat.sub_le _ _, drop_suffix (hq.trans h.suffix)⟩
theorem okS.fail (h : okS S x r m) (hc : c ≠ 0) : bdS S (failS x x.p c) r.length c := by
  have hl := h.len
  unfold failS
  rw [if_pos h.1]
  exact ⟨rfl, hc, by show (x.p : Int) = _; omega, h.2.2.2.1⟩
theorem bdS.ne (h : bdS S x k c) : x.e ≠ 0 := by rw [h.1]; exact h.2.1
theorem bdS.fail (h : bdS S x k c) (q : Nat) (d : Int) : failS x q d = x := by
  unfold failS; rw [if_neg h.ne]
theorem bdS.take (h : bdS S x k c) (q : List UInt8) : takeS S q x = (0, x) := by
  unfold takeS; rw [if_neg fun hh => h.ne hh.1, h.fail]
end Go.Proofs.YtdklhkdlndlgnaaGreatDoor
namespace Go.Proofs.YtdklhkdlndlgnaaGreatDoor
structure Mv (S : List UInt8) (x y : JS) : Prop where
  lo : x.p ≤ y.p
  hi : y.p ≤ S.length
  m : y.m = x.m
  e : y.e = 0 → x.e = 0
variable {S : List UInt8} {x y z : JS}
theorem Mv.trans (h : Mv S x y) (k : Mv S y z) : Mv S x z := ⟨Nat.le_trans h.lo k.lo, k.hi, k.m.trans h.m, fun e => h.e (k.e e)⟩
theorem Mv.refl (h : x.p ≤ S.length) : Mv S x x := ⟨Nat.le_refl _, h, rfl, fun e => e⟩
structure Mc (S : List UInt8) (x y : JS) : Prop where
  lo : x.p ≤ y.p
  hi : y.p ≤ S.length
  m : y.m ≤ 4097
  e : y.e = 0 → x.e = 0 ∧ y.m ≤ 4096
theorem Mv.then (h : Mv S x y) (k : Mc S y z) : Mc S x z := ⟨Nat.le_trans h.lo k.lo, k.hi, k.m, fun e => ⟨h.e (k.e e).1, (k.e e).2⟩⟩
theorem Mc.then (h : Mc S x y) (k : Mc S y z) : Mc S x z := ⟨Nat.le_trans h.lo k.lo, k.hi, k.m, fun e => ⟨(h.e (k.e e).1).1, (k.e e).2⟩⟩
/-- a state that has been counted -/
structure Oc (S : List UInt8) (x : JS) : Prop where
  hi : x.p ≤ S.length
  m : x.m ≤ 4097
  e : x.e = 0 → x.m ≤ 4096
theorem Oc.refl (h : Oc S x) : Mc S x x := ⟨Nat.le_refl _, h.hi, h.m, fun e => ⟨e, h.e e⟩⟩
variable {f : JS → D × JS}
end Go.Proofs.YtdklhkdlndlgnaaGreatDoor
namespace Go.Proofs.YtdklhkdlndlgnaaGreatDoor
/-- the bytes of the string at a key -/
def keyU (d : D) (i : Nat) : List UInt8 := (gD (d.f 4).l i).s.data.toList
def sepU (d : D) (i : Nat) : List UInt8 := (if 0 < i then [44] else []) ++ (if (d.f 0).n = 6 then quoteU (keyU d i) ++ [58] else [])
/-- has it a text -/
def okJ : Nat → D → Bool
  | 0, _ => false
  | k + 1, d => decide (0 ≤ (d.f 0).n ∧ (d.f 0).n ≤ 6 ∧ ((d.f 0).n = 6 → (d.f 4).l.length = (d.f 3).l.length)) && (decide ((d.f 0).n ≤ 4) || (List.range (d.f 3).l.length).all fun i => okJ k (gD (d.f 3).l i))
def catU (g : Nat → List UInt8) (n : Nat) : List UInt8 := (List.range n).flatMap g
theorem catU_succ (g : Nat → List UInt8) (n : Nat) : catU g (n + 1) = catU g n ++ g n := by
  unfold catU; rw [List.range_succ, List.flatMap_append]; simp
def leafU (d : D) : List UInt8 :=
  if (d.f 0).n = 0 then [110, 117, 108, 108]
  else if (d.f 0).n = 1 then (if (d.f 1).n = 0 then [102, 97, 108, 115, 101] else [116, 114, 117, 101])
  else if (d.f 0).n = 2 then Lib.itoa (d.f 1).n
  else quoteU (d.f 2).s.data.toList
/-- the text -/
def wrJ : Nat → D → List UInt8
  | 0, _ => []
  | k + 1, d =>
    if (d.f 0).n ≤ 4 then leafU d
    else (if (d.f 0).n = 6 then [123] else [91]) ++ catU (fun i => sepU d i ++ wrJ k (gD (d.f 3).l i)) (d.f 3).l.length ++ (if (d.f 0).n = 6 then [125] else [93])
/-- what the program has written behind i elements, and whether it goes on -/
def seqP (h : Nat → List UInt8) (f : Nat → Bool × List UInt8) : Nat → Bool × List UInt8
  | 0 => (true, [])
  | i + 1 => if (seqP h f i).1 = true then ((f i).1, (seqP h f i).2 ++ h i ++ (f i).2) else seqP h f i
theorem seqP_go {h : Nat → List UInt8} {f : Nat → Bool × List UInt8} {i : Nat} (e : (seqP h f i).1 = true) : seqP h f (i + 1) = ((f i).1, (seqP h f i).2 ++ h i ++ (f i).2) := by
  rw [seqP, if_pos e]
theorem seqP_stop {h : Nat → List UInt8} {f : Nat → Bool × List UInt8} {i : Nat} (e : (seqP h f i).1 = false) : ∀ j, seqP h f (i + j) = seqP h f i
  | 0 => rfl
  | j + 1 => by
    show seqP h f (i + j + 1) = _
    rw [seqP, seqP_stop e j, if_neg (by rw [e]; decide)]
theorem seqP_all {h : Nat → List UInt8} {f : Nat → Bool × List UInt8} : ∀ n, ((seqP h f n).1 = (List.range n).all fun i => (f i).1) ∧ (((List.range n).all fun i => (f i).1) = true → (seqP h f n).2 = catU (fun i => h i ++ (f i).2) n)
  | 0 => ⟨rfl, fun _ => rfl⟩
  | n + 1 => by
    obtain ⟨h1, h2⟩ := seqP_all (h := h) (f := f) n
    rw [List.range_succ, List.all_append]
    by_cases e : (seqP h f n).1 = true
    · rw [seqP_go e]
      rw [e] at h1
      refine ⟨by simp [← h1], fun _ => ?_⟩
      rw [h2 h1.symm, catU_succ, List.append_assoc]
    · have e2 : (seqP h f n).1 = false := by simpa using e
      rw [seqP, if_neg e]
      rw [e2] at h1
      exact ⟨by rw [e2, ← h1]; rfl, fun hh => by rw [← h1] at hh; cases hh⟩
/-- what the program writes -/
def prP : Nat → D → Bool × List UInt8
  | 0, _ => (false, [])
  | k + 1, d =>
    if (d.f 0).n < 0 ∨ 6 < (d.f 0).n then (false, [])
    else if (d.f 0).n ≤ 4 then (true, leafU d)
    else if (d.f 0).n = 6 ∧ (d.f 4).l.length ≠ (d.f 3).l.length then (false, [])
    else
      let y := seqP (sepU d) (fun i => prP k (gD (d.f 3).l i)) (d.f 3).l.length
      if y.1 = true then (true, (if (d.f 0).n = 6 then [123] else [91]) ++ y.2 ++ (if (d.f 0).n = 6 then [125] else [93])) else (false, (if (d.f 0).n = 6 then [123] else [91]) ++ y.2)
theorem all_congr {n : Nat} {p q : Nat → Bool} (h : ∀ i, i < n → p i = q i) : (List.range n).all p = (List.range n).all q := by
  induction n with
  | zero => rfl
  | succ n ih => rw [List.range_succ, List.all_append, List.all_append, ih fun i hi => h i (by omega)]; simp [h n (Nat.lt_succ_self n)]
theorem catU_congr {n : Nat} {g g' : Nat → List UInt8} (h : ∀ i, i < n → g i = g' i) : catU g n = catU g' n := by
  induction n with
  | zero => rfl
  | succ n ih => rw [catU_succ, catU_succ, ih fun i hi => h i (by omega), h n (Nat.lt_succ_self n)]
theorem prP_ok : ∀ (k : Nat) (d : D), (prP k d).1 = okJ k d ∧ (okJ k d = true → (prP k d).2 = wrJ k d)
  | 0, _ => ⟨rfl, fun h => by cases h⟩
  | k + 1, d => by
    unfold prP okJ wrJ
    by_cases h0 : (d.f 0).n < 0 ∨ 6 < (d.f 0).n
    · rw [if_pos h0]
      have e : decide (0 ≤ (d.f 0).n ∧ (d.f 0).n ≤ 6 ∧ ((d.f 0).n = 6 → (d.f 4).l.length = (d.f 3).l.length)) = false := decide_eq_false fun h => by omega
      rw [e]
      exact ⟨rfl, fun h => by cases h⟩
    rw [if_neg h0]
    by_cases h4 : (d.f 0).n ≤ 4
    · rw [if_pos h4, if_pos h4]
      have e : decide (0 ≤ (d.f 0).n ∧ (d.f 0).n ≤ 6 ∧ ((d.f 0).n = 6 → (d.f 4).l.length = (d.f 3).l.length)) = true := decide_eq_true ⟨by omega, by omega, fun h => by omega⟩
      rw [e, decide_eq_true h4]
      exact ⟨rfl, fun _ => rfl⟩
    rw [if_neg h4, if_neg h4]
    by_cases h6 : (d.f 0).n = 6 ∧ (d.f 4).l.length ≠ (d.f 3).l.length
    · rw [if_pos h6]
      have e : decide (0 ≤ (d.f 0).n ∧ (d.f 0).n ≤ 6 ∧ ((d.f 0).n = 6 → (d.f 4).l.length = (d.f 3).l.length)) = false := decide_eq_false fun h => h6.2 (h.2.2 h6.1)
      rw [e]
      exact ⟨rfl, fun h => by cases h⟩
    rw [if_neg h6]
    have e : decide (0 ≤ (d.f 0).n ∧ (d.f 0).n ≤ 6 ∧ ((d.f 0).n = 6 → (d.f 4).l.length = (d.f 3).l.length)) = true := decide_eq_true ⟨by omega, by omega, fun h => by
      by_cases hh : (d.f 4).l.length = (d.f 3).l.length
      · exact hh
      · exact (h6 ⟨h, hh⟩).elim⟩
    rw [e, decide_eq_false h4, Bool.true_and, Bool.false_or]
    obtain ⟨h1, h2⟩ := seqP_all (h := sepU d) (f := fun i => prP k (gD (d.f 3).l i)) (d.f 3).l.length
    have e2 : ((List.range (d.f 3).l.length).all fun i => (prP k (gD (d.f 3).l i)).1) = (List.range (d.f 3).l.length).all fun i => okJ k (gD (d.f 3).l i) := all_congr fun i _ => (prP_ok k _).1
    dsimp only at h1 h2 ⊢
    rw [e2] at h1 h2
    rw [h1]
    by_cases ha : ((List.range (d.f 3).l.length).all fun i => okJ k (gD (d.f 3).l i)) = true
    · rw [if_pos ha]
      refine ⟨ha.symm, fun _ => ?_⟩
      rw [h2 ha]
      have e3 : catU (fun i => sepU d i ++ (prP k (gD (d.f 3).l i)).2) (d.f 3).l.length = catU (fun i => sepU d i ++ wrJ k (gD (d.f 3).l i)) (d.f 3).l.length := catU_congr fun i hi => by
        rw [(prP_ok k _).2 (by rw [List.all_eq_true] at ha; exact ha i (List.mem_range.2 hi))]
      rw [e3]
    · rw [if_neg ha]
      exact ⟨by simpa using (Bool.eq_false_iff.2 ha).symm, fun h => (ha h).elim⟩
end Go.Proofs.YtdklhkdlndlgnaaGreatDoor
