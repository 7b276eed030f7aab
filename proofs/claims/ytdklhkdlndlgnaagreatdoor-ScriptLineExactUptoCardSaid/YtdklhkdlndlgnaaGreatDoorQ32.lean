/- Parts of a proof, merged by a program (shake.py). -/
import Derived.LoopN
import Derived.Test.YtdklhkdlndlgnaaGreatDoorQ31
set_option linter.unusedVariables false
set_option linter.unusedSimpArgs false
namespace Go.Proofs.YtdklhkdlndlgnaaGreatDoor
open Go.RowKit
attribute [local irreducible] wpList Calls Code.wp
section
variable {X : Cx} {nn : Nat}
def rndK (R : Vst nn → Prop) (K : Exit → Vst nn → Prop) : Exit → Vst nn → Prop
  | .normal, st => R st
  | e, st => K e st
/-- a loop of at most so many rounds -/
def rnd (X : Cx) (c : Code) (K : Exit → Vst nn → Prop) : Nat → Vst nn → Prop
  | 0, _ => False
  | n + 1, st => AW X c st (rndK (rnd X c K n) K)
theorem rounds_of {c : Code} {K : Exit → Vst nn → Prop} : ∀ (n : Nat) (st : Vst nn) (s : Sg) (w : World) (a : Act), rnd X c K n st → Inv X st s w a →
    Code.rounds X.P c (fun e a' w' => ∃ (st' : Vst nn) (s' : Sg), Inv X st' s' w' a' ∧ (K e st' ∨ PX X e st')) n a w
  | 0, _, _, _, _, h, _ => h.elim
  | n + 1, st, s, w, a, h, hI => by
    rw [rounds_succ]
    refine Code.wp_mono (fun e a2 w2 ⟨st2, s2, hI2, hK⟩ => ?_) (h s w a hI)
    rcases hK with hK | ⟨pv, rfl, hp⟩
    · cases e
      case normal => exact rounds_of n st2 s2 w2 a2 hK hI2
      all_goals exact ⟨st2, s2, hI2, .inl hK⟩
    · exact ⟨st2, s2, hI2, .inr ⟨pv, rfl, hp⟩⟩
theorem aw_rounds {c : Code} {st : Vst nn} {K : Exit → Vst nn → Prop} (n : Nat) (h : AW X c st (rndK (rnd X c K n) K)) : AW X (.loop c) st K := fun s w a hI =>
  wp_loop_rounds (n + 1) (rounds_of (n + 1) st s w a h hI)
section
variable {st : Vst nn} {K : Exit → Vst nn → Prop} {c : Code}
theorem k_rnd {n : Nat} (h : AW X c st (rndK (rnd X c K n) K)) : rndK (rnd X c K (n + 1)) K .normal st := h
theorem k_rnd_exit {R : Vst nn → Prop} {id : Nat} (h : K (.exit id) st) : rndK R K (.exit id) st := h
theorem k_rnd_ret {R : Vst nn → Prop} (h : K .ret st) : rndK R K .ret st := h
end
end
end Go.Proofs.YtdklhkdlndlgnaaGreatDoor
namespace Go.Proofs.YtdklhkdlndlgnaaGreatDoor
open Go.RowKit
attribute [local irreducible] wpList Calls Code.wp
section
variable {X : Cx} {nn : Nat} {st : Vst nn} {ops : Array Oper} {o : Oper}
theorem opOk_callR {K : Vst nn → Prop} {f : FuncId} {vargs args : List V} {bs : List Res} {r : V} (ns : List Nat) (h : act1 X.P st.rs (ev st) o.op = .call f vargs) (hc : ACB X.e X.P f args bs r bs) (hnd : ns.Nodup) (ha : renL (φin ns) vargs = args)
    (hb : ns.map st.rs = bs.map some) (hp : ∀ ρ ∈ bs, ∀ φ, renR φ ρ = ρ) (hK : K (st.put o.dst (renV (φout ns) r))) : OpOk X o st K := by
  have hall := fun ρ (h : ρ ∈ bs) φ => hp ρ h φ
  have hget : ∀ (i q : Nat), ns[i]? = some q → bs[i]? = st.rs q := fun i q hq => by
    have h3 : (ns.map st.rs)[i]? = (bs.map some)[i]? := by rw [hb]
    rw [List.getElem?_map, List.getElem?_map, hq] at h3
    cases hbi : bs[i]? with
    | none => rw [hbi] at h3; simp at h3
    | some ρ => rw [hbi] at h3; simp at h3; exact h3.symm
  refine opOk_callB ns h hc hnd ha ?_ ?_
  · rw [← hb]
    refine List.map_congr_left fun q hq => ?_
    obtain ⟨i, hi⟩ := List.getElem?_of_mem hq
    cases hr : st.rs q with
    | none => rfl
    | some ρ =>
      have := (hget i q hi).trans hr
      rw [Option.map_some, hall ρ (List.mem_of_getElem? this) _]
  · have e : bs.map (renR (φout ns)) = bs := by
      conv => rhs; rw [← List.map_id bs]
      exact List.map_congr_left fun ρ hρ => hall ρ hρ _
    have e2 : st.resN ns bs = st := by
      unfold Vst.resN
      have : updN st.rs ns bs = st.rs := by
        funext m
        unfold updN
        split
        · rename_i i hi; exact hget i m (idx_get hi)
        · rfl
      rw [this]
    rw [e, e2]; exact hK
/-- what a guard looks at: a bool, or what was skipped -/
def gvD (ops : Array Oper) (st : Vst nn) (j : Nat) : Option (Option Bool) :=
  match (ops[j]?).bind (·.dst) with
  | some d => match ev st (.tmp d) with | .c (.bool b) => some (some b) | .tup [] => some none | _ => none
  | none => none
def gwD (ops : Array Oper) (o : Oper) (st : Vst nn) : Option Bool :=
  match o.guard with
  | none => some true
  | some (j, want) => (gvD ops st j).map (· == some want)
theorem gvD_of {j : Nat} {b : Bool} (h : gval ops st j = some b) : gvD ops st j = some (some b) := by
  unfold gval at h
  unfold gvD
  split at h
  · rename_i d hd
    rw [hd]
    dsimp only
    split at h
    · rename_i b' hb; rw [hb]; cases h; rfl
    · cases h
  · cases h
theorem gvD_dead {j : Nat} {t : Tmp} (ht : (ops[j]?).bind (·.dst) = some t) (hu : ev st (.tmp t) = .tup []) : gvD ops st j = some none := by
  unfold gvD
  rw [ht]
  dsimp only
  rw [hu]
theorem gwD_ok {s : Sg} {w : World} {a : Act} {b : Bool} (h : gwD ops o st = some b) (hI : Inv X st s w a) : Region.wanted o (yielded ops a.tmps) = b := by
  unfold gwD at h
  split at h
  · rename_i hg; unfold Region.wanted; rw [hg]; cases h; rfl
  · rename_i j want hg
    obtain ⟨q, hq, rfl⟩ := Option.map_eq_some_iff.1 h
    cases q with
    | some b' =>
      have hb : gval ops st j = some b' := by
        unfold gvD at hq
        unfold gval
        split at hq
        · rename_i d hd
          rw [hd]
          dsimp only
          split at hq
          · rename_i b2 hb; rw [hb]; cases hq; rfl
          · cases hq
          · cases hq
        · cases hq
      unfold Region.wanted
      rw [hg]
      simp [gval_ok hb hI]
    | none =>
      unfold gvD at hq
      split at hq
      · rename_i t ht
        split at hq
        · cases hq
        · rename_i hu
          have hr := hI.ev (.tmp t)
          rw [hu, rel] at hr
          have he : a.tmps.getD t undef = undef := by
            obtain ⟨cs, h1, h2⟩ := hr
            have : cs = #[] := by
              apply Array.ext'
              cases hc : cs.toList with
              | nil => rfl
              | cons x xs => rw [hc] at h2; simp [relL] at h2
            have h3 : a.tmps.getD t undef = .tuple cs := h1
            rw [h3, this]; rfl
          have hy : yielded ops a.tmps j = none := by
            unfold yielded
            rw [ht]
            simp only [Option.bind_some]
            rw [Array.getD_eq_getD_getElem?] at he
            cases hq : a.tmps[t]? with
            | none => simp
            | some u => rw [hq] at he; simp at he; rw [he]; rfl
          unfold Region.wanted
          rw [hg]
          cases hq
          simp [hy]
        · cases hq
      · cases hq
/-- what an operation yields; rd, wr: the names that it reads, that it writes -/
inductive YldT (X : Cx) (rd wr : List Nat) (o : Oper) (st : Vst nn) : V → List (Nat × Res) → Prop where
  | val {p : Prop} {v : V} (h : act1 X.P st.rs (ev st) o.op = .val p v) (hp : p) (hl : inO rd (loads (ev st) o.op) = true) : YldT X rd wr o st v []
  | valW {p : Prop} {v v' : V} (h : act1 X.P st.rs (ev st) o.op = .val p v) (hle : VLe v v') (hp : p) (hl : inO rd (loads (ev st) o.op) = true) : YldT X rd wr o st v' []
  | call {f : FuncId} {args : List V} {v : V} (h : act1 X.P st.rs (ev st) o.op = .call f args) (hc : AC X.e X.P f (outL args) v) : YldT X rd wr o st v []
  | lit {t e : TypeId} {b m : Nat} {parts : Array (Nat × Operand)} {ds : List D} (ho : o.op = .buildSlice t m parts) (he : elemOk X.P t = some (e, b)) (hn : m = ds.length) (hs : m * X.P.cellsOf e ≤ 2 ^ 24) (hp : partsD X.P e (ev st) parts.toList 0 ds) : YldT X rd wr o st (.lit e ds) []
  | pick {c x y : Operand} {b : Bool} (ho : o.op = .pick c x y) (hc : ev st c = .c (.bool b)) : YldT X rd wr o st (bif b then ev st x else ev st y) []
  | callB {f : FuncId} {vargs args : List V} {bs bs' : List Res} {r : V} (ns : List Nat) (h : act1 X.P st.rs (ev st) o.op = .call f vargs) (hc : ACB X.e X.P f args bs r bs') (hnd : ns.Nodup) (ha : renL (φin ns) vargs = args) (hb : ns.map (fun n => (st.rs n).map (renR (φin ns))) = bs.map some)
      (hl : ns.all (fun n => wr.contains n) = true) (hlen : bs'.length = ns.length) : YldT X rd wr o st (renV (φout ns) r) (ns.zip (bs'.map (renR (φout ns))))
  | callR {f : FuncId} {vargs args : List V} {bs : List Res} {r : V} (ns : List Nat) (h : act1 X.P st.rs (ev st) o.op = .call f vargs) (hc : ACB X.e X.P f args bs r bs) (hnd : ns.Nodup) (ha : renL (φin ns) vargs = args) (hb : ns.map st.rs = bs.map some) (hp : ∀ ρ ∈ bs, ∀ φ, renR φ ρ = ρ)
      (hl : ns.all (fun n => rd.contains n) = true) : YldT X rd wr o st (renV (φout ns) r) []
  | onlit {t e : TypeId} {b : Nat} {x y : Operand} {l l2 : List D} (ho : o.op = .call { callee := .builtin .append, args := #[x, y], argTypes := #[t, t] }) (he : elemOk X.P t = some (e, b)) (hleaf : ∀ d, (cellsV X.P 12 e d).all V.leaf = true)
      (hx : ev st x = .lit e l) (hy : (ev st y).out = .sl e l2) (hp : l.length + l2.length ≤ maxLen ∧ (l.length + l2.length) * b ≤ 140737488355328) : YldT X rd wr o st (.sl e (l ++ l2)) []
  | app {t e : TypeId} {b k : Nat} {x y : Operand} {l l2 : List D} (hk : wr.contains k = true) (ho : o.op = .call { callee := .builtin .append, args := #[x, y], argTypes := #[t, t] }) (he : elemOk X.P t = some (e, b)) (hleaf : ∀ d, (cellsV X.P 12 e d).all V.leaf = true)
      (hx : ev st x = .own k e l) (hr : st.rs k = some (.tok e l.length)) (hy : (ev st y).out = .sl e l2) (hp : 0 < l2.length ∧ l.length + l2.length ≤ maxLen ∧ (l.length + l2.length) * b ≤ 140737488355328) :
      YldT X rd wr o st (.own k e (l ++ l2)) [(k, .tok e (l.length + l2.length))]
  | store {t t' : TypeId} {x y : Operand} {n off : Nat} {vs xs : List V} (hk : wr.contains n = true) (ho : o.op = .store t x y) (hd : o.dst = none) (hx : ev st x = .bx n off) (hr : st.rs n = some (.box t' vs)) (hc : cellsOf (ev st y) = some xs)
      (hs : X.P.cellsOf t = xs.length ∧ (X.P.info? t).isSome) (hl : off + xs.length ≤ vs.length) : YldT X rd wr o st .any [(n, .box t' (splice vs off xs))]
def YldU (X : Cx) (ops : Array Oper) (rd wr : List Nat) (o : Oper) (st : Vst nn) (v : V) (u : List (Nat × Res)) : Prop :=
  (gwD ops o st = some true ∧ YldT X rd wr o st v u) ∨ (gwD ops o st = some false ∧ v = .tup [] ∧ u = [])
theorem opOk_yldT {rd wr : List Nat} {K : Vst nn → Prop} {v : V} {u : List (Nat × Res)} (h : YldT X rd wr o st v u) (hK : K (stp st o.dst v u)) : OpOk X o st K := by
  cases h with
  | val h hp hl => exact opOk_val h hp hK
  | valW h hle hp hl => exact opOk_valW _ h hle hp hK
  | call h hc => exact opOk_call h hc hK
  | lit ho he hn hs hp => exact opOk_lit ho he hn hs hp hK
  | callR ns h hc hnd ha hb hp hl => exact opOk_callR ns h hc hnd ha hb hp hK
  | callB ns h hc hnd ha hb hl hlen =>
    refine opOk_callB ns h hc hnd ha hb ?_
    unfold stp at hK
    rw [updL_zip hnd (by simpa using hlen)] at hK
    exact hK
  | pick ho hc => exact opOk_pick ho hc hK
  | onlit ho he hleaf hx hy hp => exact opOk_append_lit ho he hleaf hx hy hp.1 hp.2 hK
  | app hk ho he hleaf hx hr hy hp =>
    unfold stp at hK; rw [updL_one] at hK
    exact opOk_append_own ho he hleaf hx hr hy hp.1 hp.2.1 hp.2.2 hK
  | store hk ho hd hx hr hc hs hl =>
    unfold stp at hK; rw [updL_one, hd] at hK
    exact opOk_store ho hd hx hr hc hs hl hK
theorem YldT.congr {rd wr : List Nat} {st st' : Vst nn} {v : V} {u : List (Nat × Res)} (hev : ∀ x ∈ o.op.operands, ev st' x = ev st x) (hrs : ∀ n, rd.contains n = true ∨ wr.contains n = true → st'.rs n = st.rs n) (hact : inO rd (loads (ev st) o.op) = true → act1 X.P st'.rs (ev st') o.op = act1 X.P st.rs (ev st) o.op)
    (hact2 : ∀ f args, act1 X.P st'.rs (ev st') o.op = .call f args ↔ act1 X.P st.rs (ev st) o.op = .call f args) (h : YldT X rd wr o st v u) : YldT X rd wr o st' v u := by
  have hloads := loads_congr o.op hev
  cases h with
  | val h hp hl => exact .val (by rw [hact hl]; exact h) hp (by rw [hloads]; exact hl)
  | valW h hle hp hl => exact .valW (by rw [hact hl]; exact h) hle hp (by rw [hloads]; exact hl)
  | call h hc => exact .call ((hact2 _ _).2 h) hc
  | lit ho he hn hs hp => exact .lit ho he hn hs (partsD_congr _ _ _ (fun p hp => (hev p.2 (by rw [ho]; simp [Op.operands]; exact ⟨p.1, by simpa using hp⟩)).symm) hp)
  | callB ns h hc hnd ha hb hl hlen =>
    refine .callB ns ((hact2 _ _).2 h) hc hnd ha ?_ hl hlen
    rw [← hb]
    exact List.map_congr_left fun q hq => by rw [hrs q (.inr (List.all_eq_true.1 hl q hq))]
  | callR ns h hc hnd ha hb hp hl =>
    refine .callR ns ((hact2 _ _).2 h) hc hnd ha ?_ hp hl
    rw [← hb]
    exact List.map_congr_left fun q hq => hrs q (.inl (List.all_eq_true.1 hl q hq))
  | pick ho hc =>
    rename_i c x y b
    rw [← hev c (by rw [ho]; simp [Op.operands])] at hc
    rw [← hev x (by rw [ho]; simp [Op.operands]), ← hev y (by rw [ho]; simp [Op.operands])]
    exact .pick ho hc
  | onlit ho he hleaf hx hy hp =>
    rw [← hev _ (by rw [ho]; simp [Op.operands, Call.operands])] at hx
    rw [← hev _ (by rw [ho]; simp [Op.operands, Call.operands])] at hy
    exact .onlit ho he hleaf hx hy hp
  | app hk ho he hleaf hx hr hy hp =>
    rw [← hev _ (by rw [ho]; simp [Op.operands, Call.operands])] at hx
    rw [← hev _ (by rw [ho]; simp [Op.operands, Call.operands])] at hy
    exact .app hk ho he hleaf hx (by rw [hrs _ (.inr hk)]; exact hr) hy hp
  | store hk ho hd hx hr hc hs hl =>
    rw [← hev _ (by rw [ho]; simp [Op.operands])] at hx
    rw [← hev _ (by rw [ho]; simp [Op.operands])] at hc
    exact .store hk ho hd hx (by rw [hrs _ (.inr hk)]; exact hr) hc hs hl
theorem YldU.of {rd wr : List Nat} {d : Option Tmp} {v v' : V} {u u' : List (Nat × Res)} (hd : ∀ t, d = some t → t ∉ o.looksAt ops) (hu : Off rd wr u') :
    YldU X ops rd wr o (stp st d v' u') v u ↔ YldU X ops rd wr o st v u := by
  have hev : ∀ x ∈ o.op.operands, ev (stp st d v' u') x = ev st x := fun x hx => ev_stp fun t ht hxt => hd t ht (by
    subst hxt
    exact List.mem_append_left _ (List.mem_filterMap.2 ⟨.tmp t, by simpa using hx, rfl⟩))
  have hloads := loads_congr o.op hev
  have hact : inO rd (loads (ev st) o.op) = true → act1 X.P (stp st d v' u').rs (ev (stp st d v' u')) o.op = act1 X.P st.rs (ev st) o.op := fun hl => by
    rw [act1_congr o.op hev, stp_rs]
    exact act1_off hu _ hl
  have hact2 : ∀ f args, act1 X.P (stp st d v' u').rs (ev (stp st d v' u')) o.op = .call f args ↔ act1 X.P st.rs (ev st) o.op = .call f args := fun f args => by
    rw [act1_congr o.op hev]
    cases ho : o.op
    case load t x =>
      have nob : ∀ rs, act1 X.P rs (ev st) (.load t x) ≠ .call f args := fun rs h => by
        simp only [act1, load1, ofPart] at h
        repeat' (split at h)
        all_goals cases h
      exact ⟨fun h => (nob _ h).elim, fun h => (nob _ h).elim⟩
    case slice t x lo hi mx => cases mx <;> rfl
    all_goals rfl
  have hgv : ∀ j want, o.guard = some (j, want) → gvD ops (stp st d v' u') j = gvD ops st j := fun j want hg => by
    unfold gvD
    cases ht : (ops[j]?).bind (·.dst) with
    | none => rfl
    | some t =>
      have : ev (stp st d v' u') (.tmp t) = ev st (.tmp t) := ev_stp fun q hq hqt => by
        cases hqt
        exact hd t hq (by simp [Oper.looksAt, hg, ht])
      simp only [this]
  have hgw : gwD ops o (stp st d v' u') = gwD ops o st := by
    unfold gwD
    cases hg : o.guard with
    | none => rfl
    | some jw => simp only [hgv jw.1 jw.2 hg]
  have hrs : ∀ n, rd.contains n = true ∨ wr.contains n = true → (stp st d v' u').rs n = st.rs n := fun n hn => by
    rw [stp_rs]; exact updL_off hu hn
  unfold YldU
  rw [hgw]
  refine or_congr (and_congr Iff.rfl ⟨fun h => ?_, fun h => ?_⟩) Iff.rfl
  · exact h.congr (fun x hx => (hev x hx).symm) (fun n hn => (hrs n hn).symm) (fun hl => (hact (by rw [hloads] at hl; exact hl)).symm) fun f args => (hact2 f args).symm
  · exact h.congr hev hrs hact hact2
theorem YldU.names {rd wr : List Nat} {v : V} {u : List (Nat × Res)} (h : YldU X ops rd wr o st v u) : ∀ p ∈ u, wr.contains p.1 = true := by
  rcases h with ⟨_, h⟩ | ⟨_, _, rfl⟩
  · cases h with
    | app hk => exact fun p hp => by simp at hp; subst hp; exact hk
    | store hk => exact fun p hp => by simp at hp; subst hp; exact hk
    | callB ns h hc hnd ha hb hl hlen => exact fun p hp => List.all_eq_true.1 hl _ (List.of_mem_zip hp).1
    | _ => exact fun p hp => by simp at hp
  · exact fun p hp => by simp at hp
variable {rd wr : Nat → List Nat}
def aOpU (X : Cx) (ops : Array Oper) (rd wr : Nat → List Nat) (i : Nat) (K : Vst nn → Prop) (st : Vst nn) : Prop :=
  match ops[i]? with
  | none => K st
  | some o => ∃ v u, YldU X ops (rd i) (wr i) o st v u ∧ K (stp st o.dst v u)
theorem aOpU_mono {i : Nat} {K K' : Vst nn → Prop} (h : ∀ st, K st → K' st) (hh : aOpU X ops rd wr i K st) : aOpU X ops rd wr i K' st := by
  unfold aOpU at *
  split
  · rename_i hn; simp only [hn] at hh; exact h _ hh
  · rename_i o ho
    simp only [ho] at hh
    obtain ⟨v, u, h1, h2⟩ := hh
    exact ⟨v, u, h1, h _ h2⟩
def absAnyU (X : Cx) (ops : Array Oper) (rd wr : Nat → List Nat) (Q : Vst nn → Prop) : Nat → Array Bool → Vst nn → Prop
  | 0, listed, st => Region.ready .any ops listed = [] ∧ Q st
  | fuel + 1, listed, st => (Region.ready .any ops listed = [] → Q st) ∧ ∀ i ∈ Region.ready .any ops listed, aOpU X ops rd wr i (absAnyU X ops rd wr Q fuel (listed.setIfInBounds i true)) st
theorem aOpU_put {i j : Nat} {oi oj : Oper} {v : V} {u : List (Nat × Res)} (hj : ops[j]? = some oj) (hap : oi.apart ops oj = true) (hn : disjB (wr i) (rd j) = true ∧ disjB (wr i) (wr j) = true ∧ disjB (wr j) (rd i) = true) {K : Vst nn → Prop} (hy : YldU X ops (rd i) (wr i) oi st v u) (h : aOpU X ops rd wr j K (stp st oi.dst v u)) :
    aOpU X ops rd wr j (fun st' => YldU X ops (rd i) (wr i) oi st' v u ∧ K (stp st' oi.dst v u)) st := by
  obtain ⟨h1, h2, h3⟩ := Oper.apart_spec hap
  unfold aOpU at *
  simp only [hj] at *
  obtain ⟨v', u', hy', hK⟩ := h
  have hu : Off (rd j) (wr j) u := fun p hp => by
    have hw := hy.names p hp
    refine ⟨?_, ?_⟩
    · cases hq : (rd j).contains p.1
      · rfl
      · exact (disjB_ok hn.1 hw hq).elim
    · cases hq : (wr j).contains p.1
      · rfl
      · exact (disjB_ok hn.2.1 hw hq).elim
  have hyj : YldU X ops (rd j) (wr j) oj st v' u' := (YldU.of h1 hu).1 hy'
  have hu' : Off (rd i) (wr i) u' := fun p hp => by
    have hw := hyj.names p hp
    refine ⟨?_, ?_⟩
    · cases hq : (rd i).contains p.1
      · rfl
      · exact (disjB_ok hn.2.2 hw hq).elim
    · cases hq : (wr i).contains p.1
      · rfl
      · exact (disjB_ok hn.2.1 hq hw).elim
  have huu : ∀ p ∈ u, ∀ q ∈ u', p.1 ≠ q.1 := fun p hp q hq e => by
    have h5 := hy.names p hp
    have h6 := hyj.names q hq
    rw [← e] at h6
    exact disjB_ok hn.2.1 h5 h6
  exact ⟨v', u', hyj, (YldU.of h3 hu').2 hy, by rw [← stp_commG h2 huu]; exact hK⟩
theorem absAnyU_first {Q : Vst nn → Prop} {i : Nat} {oi : Oper} {v : V} {u : List (Nat × Res)} (hi : ops[i]? = some oi) (hN : namesB ops rd wr = true) :
    ∀ (fuel : Nat) (listed : Array Bool) (st : Vst nn), Closed ops listed → (∀ j, j < i → listed.getD j false = true) →
      (∀ j oj, ops[j]? = some oj → j ≠ i → listed.getD j true = false → (∀ e ∈ oj.after, Region.binds .any e = true → e.on ≠ i) → oi.apart ops oj = true) →
      i ∈ Region.ready .any ops listed → YldU X ops (rd i) (wr i) oi st v u →
      absAnyU X ops rd wr Q fuel (listed.setIfInBounds i true) (stp st oi.dst v u) → absAnyU X ops rd wr Q (fuel + 1) listed st := by
  intro fuel
  induction fuel with
  | zero =>
    intro listed st _ _ _ hr hy H
    refine ⟨fun h => (by rw [h] at hr; cases hr), fun j hj => ?_⟩
    by_cases hji : j = i
    · subst hji; unfold aOpU; simp only [hi]; exact ⟨v, u, hy, H⟩
    · have := ready_mono hj hji
      rw [H.1] at this
      cases this
  | succ fuel ih =>
    intro listed st hcl hlow hfree hr hy H
    refine ⟨fun h => (by rw [h] at hr; cases hr), fun j hj => ?_⟩
    by_cases hji : j = i
    · subst hji; unfold aOpU; simp only [hi]; exact ⟨v, u, hy, H⟩
    · have h1 := H.2 j (ready_mono hj hji)
      obtain ⟨hjun, oj, hoj, hall⟩ := mem_ready.1 hj
      have hiun := (mem_ready.1 hr).1
      have hnot : ∀ e ∈ oj.after, Region.binds .any e = true → e.on ≠ i := fun e he hb heq => by
        have h1 := hall e he hb
        rw [heq] at h1
        exact listed_both hiun h1
      have hij : i < j := by
        rcases Nat.lt_trichotomy i j with h | h | h
        · exact h
        · exact absurd h.symm hji
        · exact (listed_both hjun (hlow j h)).elim
      have hsz : j < ops.size := (Array.getElem?_eq_some_iff.1 hoj).1
      have hnm : disjB (wr i) (rd j) = true ∧ disjB (wr i) (wr j) = true ∧ disjB (wr j) (rd i) = true := by
        have h2 := List.all_eq_true.1 (List.all_eq_true.1 hN j (List.mem_range.2 hsz)) i (List.mem_range.2 hij)
        rw [Bool.or_eq_true] at h2
        rcases h2 with h2 | h2
        · simp only [Bool.and_eq_true] at h2; exact ⟨h2.1.1, h2.1.2, h2.2⟩
        · refine (listed_both hiun (reach_ok hcl _ _ (fun k hk => ?_) i (by simpa using h2))).elim
          unfold waits at hk
          rw [hoj] at hk
          obtain ⟨e, he, rfl⟩ := List.mem_map.1 hk
          obtain ⟨h2, h3⟩ := List.mem_filter.1 he
          exact hall e (by simpa using h2) h3
      have h2 := aOpU_put (i := i) hoj (hfree j oj hoj hji hjun hnot) hnm hy h1
      have hfree' : ∀ k ok, ops[k]? = some ok → k ≠ i → (listed.setIfInBounds j true).getD k true = false →
          (∀ e ∈ ok.after, Region.binds .any e = true → e.on ≠ i) → oi.apart ops ok = true := fun k ok hk hki hun hno => by
        refine hfree k ok hk hki ?_ hno
        by_cases hjk : j = k
        · subst hjk; exact hjun
        · rw [getD_set_ne true hjk] at hun; exact hun
      refine aOpU_mono (fun st' h3 => ih (listed.setIfInBounds j true) st' (hcl.set hj) (fun k hk => getD_set_true (hlow k hk)) hfree' (ready_mono hr (Ne.symm hji)) h3.1 ?_) h2
      rw [Array.setIfInBounds_comm _ _ hji]
      exact h3.2
/-- the walk of the text's order -/
def absLexU (X : Cx) (ops : Array Oper) (rd wr : Nat → List Nat) (Q : Vst nn → Prop) : Nat → List Oper → Vst nn → Prop
  | _, [], st => Q st
  | k, o :: rest, st => ∃ v u, YldU X ops (rd k) (wr k) o st v u ∧ absLexU X ops rd wr Q (k + 1) rest (stp st o.dst v u)
theorem absAnyU_lex {Q : Vst nn → Prop} (hN : namesB ops rd wr = true) : ∀ (l : List Oper) (k : Nat) (listed : Array Bool) (st : Vst nn), (∀ j, l[j]? = ops[k + j]?) → Closed ops listed → (∀ j, j < k → listed.getD j false = true) → listed.size = ops.size →
    Region.lexFrom .any ops l.length k listed = true → absLexU X ops rd wr Q k l st → absAnyU X ops rd wr Q l.length listed st
  | [], _, _, _, _, _, _, _, hB, h => ⟨by simpa [Region.lexFrom] using hB, h⟩
  | o :: l, k, listed, st, hl, hcl, hlow, hsz, hB, h => by
    have h0 : ops[k]? = some o := by simpa using (hl 0).symm
    have hk : k < ops.size := (Array.getElem?_eq_some_iff.1 h0).1
    simp only [List.length_cons, Region.lexFrom, Bool.and_eq_true] at hB
    obtain ⟨⟨hr, hf⟩, hB'⟩ := hB
    have hr : k ∈ Region.ready .any ops listed := by simpa using hr
    obtain ⟨v, u, hy, hK⟩ := h
    exact absAnyU_first h0 hN l.length listed st hcl hlow (Region.free_spec h0 hf) hr hy
      (absAnyU_lex hN l (k + 1) _ _ (fun j => by have := hl (j + 1); simpa [Nat.add_assoc, Nat.add_comm 1 j] using this) (hcl.set hr) (fun j hj => by
        by_cases e : j = k
        · subst e; exact set_self_true (by omega)
        · exact getD_set_true (hlow j (by omega))) (by simpa using hsz) hB' hK)
theorem wpAny_of_absU {Q : Vst nn → Prop} {Q' : Exit → Act → World → Prop} (hP : PQ X nn Q') (hQ : ∀ st' s' w' a', Inv X st' s' w' a' → Q st' → Q' .normal a' w') : ∀ (fuel : Nat) (listed : Array Bool) (st : Vst nn) (s : Sg) (w : World) (a : Act), Inv X st s w a →
    absAnyU X ops rd wr Q fuel listed st → wpAny X.P .any ops Q' fuel listed a w
  | 0, _, _, _, _, _, hI, h => ⟨h.1, hQ _ _ _ _ hI h.2⟩
  | fuel + 1, listed, st, s, w, a, hI, h => ⟨fun h0 => hQ _ _ _ _ hI (h.1 h0), fun i hi => by
    have h1 := h.2 i hi
    unfold aOpU at h1
    unfold wpOp
    cases ho : ops[i]? with
    | none =>
      simp only [ho] at h1 ⊢
      exact wpAny_of_absU hP hQ fuel _ st s w a hI h1
    | some o =>
      simp only [ho] at h1 ⊢
      obtain ⟨v, u, hy, hK⟩ := h1
      rcases hy with ⟨hg, hy⟩ | ⟨hg, rfl, rfl⟩
      · rw [if_pos (gwD_ok hg hI)]
        exact .inl (opOk_yldT (K := absAnyU X ops rd wr Q fuel (listed.setIfInBounds i true)) hy hK s w a hI _ _ hP fun st' s' w' a' hI' hK' => wpAny_of_absU hP hQ fuel _ st' s' w' a' hI' hK')
      · rw [if_neg (by rw [gwD_ok hg hI]; simp)]
        exact wpAny_of_absU hP hQ fuel _ _ s w (a.put o.dst undef) (hI.put o.dst (by rw [rel]; exact ⟨#[], rfl, by simp [relL]⟩)) hK⟩
/-- a region that draws its order; r, w: the names that operations read, write, by their places -/
theorem aw_drawU (r w : List (Nat × List Nat)) {id : Nat} {l : List Oper} {K : Exit → Vst nn → Prop} (hm : X.P.follows .mixedOrders = true) (hB : Region.lexB .any l.toArray = true) (hN : namesB l.toArray (nmf r) (nmf w) = true) (h : absLexU X l.toArray (nmf r) (nmf w) (K .normal) 0 l st) : AW X (.region id l.toArray true) st K := fun s wd a hI => by
  simp only [Region.lexB, Bool.and_eq_true] at hB
  refine wp_region_any hm (wpAny_of_absU (rd := nmf r) (wr := nmf w) (Q := K .normal) (fun pv st' s' w' a' hI' hp => ⟨st', s', hI', .inr ⟨pv, rfl, hp⟩⟩) (fun st' s' w' a' hI' hK => ⟨st', s', hI', .inl hK⟩) _ _ st s _ a hI.drew ?_)
  have := absAnyU_lex (X := X) (rd := nmf r) (wr := nmf w) (Q := K .normal) hN l 0 (Array.replicate l.toArray.size false) st (by simp) (fun k o _ hk => by
    have e : (Array.replicate l.toArray.size false).getD k false = false := by
      rw [Array.getD_eq_getD_getElem?, Array.getElem?_replicate]
      split <;> rfl
    rw [e] at hk; cases hk) (fun j hj => absurd hj (Nat.not_lt_zero j)) (by simp) (by simpa using hB.2) h
  simpa using this
section
variable {l : List Oper} {Q : Vst nn → Prop} {d : Option Tmp} {k : Nat}
theorem u_nil (h : Q st) : absLexU X ops rd wr Q k [] st := h
theorem u_val {p : Prop} {v : V} (hg : o.guard = none) (hd : o.dst = d) (h : act1 X.P st.rs (ev st) o.op = .val p v) (hK : absLexU X ops rd wr Q (k + 1) l (st.put d v)) (hp : p) (hl : inO (rd k) (loads (ev st) o.op) = true) : absLexU X ops rd wr Q k (o :: l) st :=
  ⟨v, [], .inl ⟨by simp [gwD, hg], .val h hp hl⟩, by rw [hd]; exact hK⟩
theorem u_call {f : FuncId} {args : List V} {r : V} (hg : o.guard = none) (hd : o.dst = d) (h : act1 X.P st.rs (ev st) o.op = .call f args) (hc : AC X.e X.P f (outL args) r) (hK : absLexU X ops rd wr Q (k + 1) l (st.put d r)) : absLexU X ops rd wr Q k (o :: l) st :=
  ⟨r, [], .inl ⟨by simp [gwD, hg], .call h hc⟩, by rw [hd]; exact hK⟩
theorem u_lit {t e : TypeId} {by_ m : Nat} {parts : Array (Nat × Operand)} (ds : List D) (hg : o.guard = none) (ho : o.op = .buildSlice t m parts) (hd : o.dst = d) (he : elemOk X.P t = some (e, by_)) (hn : m = ds.length) (hsm : Nat.ble (m * X.P.cellsOf e) (2 ^ 24) = true)
    (hp : partsD X.P e (ev st) parts.toList 0 ds) (hK : absLexU X ops rd wr Q (k + 1) l (st.put d (.lit e ds))) : absLexU X ops rd wr Q k (o :: l) st :=
  ⟨_, [], .inl ⟨by simp [gwD, hg], .lit ho he hn (Nat.le_of_ble_eq_true hsm) hp⟩, by rw [hd]; exact hK⟩
/-- a call that writes -/
theorem u_callB {f : FuncId} {vargs args : List V} {bs bs' : List Res} {r : V} (ns : List Nat) (hg : o.guard = none) (hd : o.dst = d) (h : act1 X.P st.rs (ev st) o.op = .call f vargs) (hc : ACB X.e X.P f args bs r bs') (hnd : ns.Nodup) (ha : renL (φin ns) vargs = args) (hb : ns.map (fun n => (st.rs n).map (renR (φin ns))) = bs.map some)
    (hlen : bs'.length = ns.length) (hl : ns.all (fun n => (wr k).contains n) = true) (hK : absLexU X ops rd wr Q (k + 1) l ((st.resN ns (bs'.map (renR (φout ns)))).put d (renV (φout ns) r))) : absLexU X ops rd wr Q k (o :: l) st :=
  ⟨_, _, .inl ⟨by simp [gwD, hg], .callB ns h hc hnd ha hb hl hlen⟩, by rw [hd, stp_two, updL_zip hnd (by simpa using hlen)]; exact hK⟩
theorem u_app {t e : TypeId} {by_ q : Nat} {x y : Operand} {l1 l2 : List D} (hg : o.guard = none) (ho : o.op = .call { callee := .builtin .append, args := #[x, y], argTypes := #[t, t] }) (hd : o.dst = d) (he : elemOk X.P t = some (e, by_))
    (hleaf : ∀ d, (cellsV X.P 12 e d).all V.leaf = true) (hx : ev st x = .own q e l1) (hw : (wr k).contains q = true) (hr : st.rs q = some (.tok e l1.length)) (hy : (ev st y).out = .sl e l2) (hK : absLexU X ops rd wr Q (k + 1) l ((st.res q (.tok e (l1.length + l2.length))).put d (.own q e (l1 ++ l2))))
    (hp : 0 < l2.length ∧ l1.length + l2.length ≤ maxLen ∧ (l1.length + l2.length) * by_ ≤ 140737488355328) : absLexU X ops rd wr Q k (o :: l) st :=
  ⟨_, _, .inl ⟨by simp [gwD, hg], .app hw ho he hleaf hx hr hy hp⟩, by rw [hd, stp_one]; exact hK⟩
theorem u_store {t : TypeId} {x y : Operand} {m off : Nat} {t' : TypeId} {vs xs : List V} (hg : o.guard = none) (ho : o.op = .store t x y) (hd : o.dst = none) (hx : ev st x = .bx m off) (hw : (wr k).contains m = true) (hr : st.rs m = some (.box t' vs)) (hc : cellsOf (ev st y) = some xs)
    (hs : X.P.cellsOf t = xs.length ∧ (X.P.info? t).isSome) (hl : Nat.ble (off + xs.length) vs.length = true) (hK : absLexU X ops rd wr Q (k + 1) l (st.res m (.box t' (splice vs off xs)))) : absLexU X ops rd wr Q k (o :: l) st :=
  ⟨_, _, .inl ⟨by simp [gwD, hg], .store hw ho hd hx hr hc hs (Nat.le_of_ble_eq_true hl)⟩, by rw [hd, stp_one]; exact hK⟩
theorem u_skip {j : Nat} {want b : Bool} (hg : o.guard = some (j, want)) (hd : o.dst = d) (hb : gval ops st j = some b) (hne : (b == want) = false) (hK : absLexU X ops rd wr Q (k + 1) l (st.put d (.tup []))) : absLexU X ops rd wr Q k (o :: l) st :=
  ⟨.tup [], [], .inr ⟨by simp [gwD, hg, gvD_of hb, hne], rfl, rfl⟩, by rw [hd]; exact hK⟩
theorem u_pick_t {c x y : Operand} {b : Bool} (hg : o.guard = none) (ho : o.op = .pick c x y) (hd : o.dst = d) (hc : ev st c = .c (.bool b)) (hb : b = true) (hK : absLexU X ops rd wr Q (k + 1) l (st.put d (ev st x))) : absLexU X ops rd wr Q k (o :: l) st :=
  ⟨_, [], .inl ⟨by simp [gwD, hg], .pick ho hc⟩, by rw [hd, hb]; exact hK⟩
theorem u_pick_f {c x y : Operand} {b : Bool} (hg : o.guard = none) (ho : o.op = .pick c x y) (hd : o.dst = d) (hc : ev st c = .c (.bool b)) (hb : b = false) (hK : absLexU X ops rd wr Q (k + 1) l (st.put d (ev st y))) : absLexU X ops rd wr Q k (o :: l) st :=
  ⟨_, [], .inl ⟨by simp [gwD, hg], .pick ho hc⟩, by rw [hd, hb]; exact hK⟩
theorem u_wanted_val {j : Nat} {want b : Bool} {p : Prop} {v : V} (hg : o.guard = some (j, want)) (hd : o.dst = d) (hb : gval ops st j = some b) (hne : (b == want) = true) (h : act1 X.P st.rs (ev st) o.op = .val p v) (hK : absLexU X ops rd wr Q (k + 1) l (st.put d v)) (hp : p) (hl : inO (rd k) (loads (ev st) o.op) = true) : absLexU X ops rd wr Q k (o :: l) st :=
  ⟨v, [], .inl ⟨by simp [gwD, hg, gvD_of hb, hne], .val h hp hl⟩, by rw [hd]; exact hK⟩
theorem u_wanted_call {j : Nat} {want b : Bool} {f : FuncId} {args : List V} {r : V} (hg : o.guard = some (j, want)) (hd : o.dst = d) (hb : gval ops st j = some b) (hne : (b == want) = true) (h : act1 X.P st.rs (ev st) o.op = .call f args) (hc : AC X.e X.P f (outL args) r) (hK : absLexU X ops rd wr Q (k + 1) l (st.put d r)) : absLexU X ops rd wr Q k (o :: l) st :=
  ⟨r, [], .inl ⟨by simp [gwD, hg, gvD_of hb, hne], .call h hc⟩, by rw [hd]; exact hK⟩
theorem u_guard_val {j : Nat} {want b : Bool} {p : Prop} {v : V} (hg : o.guard = some (j, want)) (hd : o.dst = d) (hb : gval ops st j = some b) (h : act1 X.P st.rs (ev st) o.op = .val p v) (hK : (b == want) = true → absLexU X ops rd wr Q (k + 1) l (st.put d v)) (hp : (b == want) = true → p)
    (hl : inO (rd k) (loads (ev st) o.op) = true) (hN : (b == want) = false → absLexU X ops rd wr Q (k + 1) l (st.put d (.tup []))) : absLexU X ops rd wr Q k (o :: l) st := by
  cases e : b == want
  · exact u_skip hg hd hb e (hN e)
  · exact u_wanted_val hg hd hb e h (hK e) (hp e) hl
theorem u_guard_call {j : Nat} {want b : Bool} {f : FuncId} {args : List V} {r : V} (hg : o.guard = some (j, want)) (hd : o.dst = d) (hb : gval ops st j = some b) (h : act1 X.P st.rs (ev st) o.op = .call f args) (hc : AC X.e X.P f (outL args) r) (hK : (b == want) = true → absLexU X ops rd wr Q (k + 1) l (st.put d r))
    (hN : (b == want) = false → absLexU X ops rd wr Q (k + 1) l (st.put d (.tup []))) : absLexU X ops rd wr Q k (o :: l) st := by
  cases e : b == want
  · exact u_skip hg hd hb e (hN e)
  · exact u_wanted_call hg hd hb e h hc (hK e)
theorem u_dead {j : Nat} {want : Bool} {q : Tmp} (hg : o.guard = some (j, want)) (hd : o.dst = d) (ht : (ops[j]?).bind (·.dst) = some q) (hu : ev st (.tmp q) = .tup []) (hK : absLexU X ops rd wr Q (k + 1) l (st.put d (.tup []))) : absLexU X ops rd wr Q k (o :: l) st :=
  ⟨.tup [], [], .inr ⟨by simp [gwD, hg, gvD_dead ht hu], rfl, rfl⟩, by rw [hd]; exact hK⟩
theorem u_wpick {c x y : Operand} {j : Nat} {want b b2 : Bool} (hg : o.guard = some (j, want)) (ho : o.op = .pick c x y) (hd : o.dst = d) (hb : gval ops st j = some b) (hne : (b == want) = true) (hc : ev st c = .c (.bool b2)) (hK : absLexU X ops rd wr Q (k + 1) l (st.put d (bif b2 then ev st x else ev st y))) : absLexU X ops rd wr Q k (o :: l) st :=
  ⟨_, [], .inl ⟨by simp [gwD, hg, gvD_of hb, hne], .pick ho hc⟩, by rw [hd]; exact hK⟩
theorem u_wpick_t {c x y : Operand} {j : Nat} {want b b2 : Bool} (hg : o.guard = some (j, want)) (ho : o.op = .pick c x y) (hd : o.dst = d) (hb : gval ops st j = some b) (hne : (b == want) = true) (hc : ev st c = .c (.bool b2)) (h2 : b2 = true) (hK : absLexU X ops rd wr Q (k + 1) l (st.put d (ev st x))) : absLexU X ops rd wr Q k (o :: l) st :=
  u_wpick hg ho hd hb hne hc (by rw [h2]; exact hK)
theorem u_wpick_f {c x y : Operand} {j : Nat} {want b b2 : Bool} (hg : o.guard = some (j, want)) (ho : o.op = .pick c x y) (hd : o.dst = d) (hb : gval ops st j = some b) (hne : (b == want) = true) (hc : ev st c = .c (.bool b2)) (h2 : b2 = false) (hK : absLexU X ops rd wr Q (k + 1) l (st.put d (ev st y))) : absLexU X ops rd wr Q k (o :: l) st :=
  u_wpick hg ho hd hb hne hc (by rw [h2]; exact hK)
theorem aw_drawUn (n : Nat) (r w : List (Nat × List Nat)) {id : Nat} {l : List Oper} {K : Exit → Vst nn → Prop} (hn : l.length = n) (hm : X.P.follows .mixedOrders = true) (hB : Region.lexB .any l.toArray = true) (hN : namesB l.toArray (nmf r) (nmf w) = true) (h : absLexU X l.toArray (nmf r) (nmf w) (K .normal) 0 l st) : AW X (.region id l.toArray true) st K :=
  aw_drawU r w hm hB hN h
end
end
end Go.Proofs.YtdklhkdlndlgnaaGreatDoor
namespace Go.Proofs.YtdklhkdlndlgnaaGreatDoor
open Go.RowKit
set_option linter.unusedSectionVars false
set_option maxHeartbeats 8000000 in
set_option maxRecDepth 100000 in
theorem s_wanted_callB {X : Cx} {nn : Nat} {st : Vst nn} {o : Oper} {ops : Array Oper} {l : List Oper} {KK : Vst nn → Prop} {d : Option Tmp} {j : Nat} {want b : Bool} {f : FuncId} {vargs args : List V} {bs bs' : List Res} {r : V} (ns : List Nat) (hg : o.guard = some (j, want)) (hd : o.dst = d) (hb : gval ops st j = some b) (hne : (b == want) = true)
    (h : act1 X.P st.rs (ev st) o.op = .call f vargs) (hc : ACB X.e X.P f args bs r bs') (hnd : ns.Nodup) (ha : renL (φin ns) vargs = args) (hbs : ns.map (fun n => (st.rs n).map (renR (φin ns))) = bs.map some) (hK : AWo X ops l ((st.resN ns (bs'.map (renR (φout ns)))).put d (renV (φout ns) r)) KK) : AWo X ops (o :: l) st KK :=
  awo_guard hg hb (fun _ => opOk_callB ns h hc hnd ha hbs (by rw [hd]; exact hK)) fun e => (e (by simpa using hne)).elim
attribute [local irreducible] wpList Calls Code.wp AW AWo OpOk seqK blockK scopeK loopK endK AC absLex Yld Sub
attribute [local irreducible] ACB ACX absLexG YldG absLexH
set_option maxHeartbeats 8000000 in
set_option maxRecDepth 100000 in
theorem index5_ac : AC EN5 Tryz.prog 55 [.c (.string ⟨#[120, 10]⟩), .c (.string ⟨#[10]⟩)] (.c (.int .i64 1)) :=
  ac_of5 (u := .int .i64 1) fun s1 w us hus he => by
    obtain ⟨u1, u2, rfl, h, h2⟩ := rel_two hus
    rw [rel] at h h2
    obtain ⟨rfl, -⟩ := h
    obtain ⟨rfl, -⟩ := h2
    refine ⟨fun s' w' => rel_i64 ⟨by decide, by decide⟩, ?_⟩
    refine (Tryz.stringslite_Index_one (⟨#[120, 10]⟩ : ByteArray) 10 w).mono fun e w' h => ?_
    obtain ⟨rfl, rfl⟩ := h
    exact ⟨by rfl, Below.refl _ _⟩
set_option maxHeartbeats 8000000 in
set_option maxRecDepth 100000 in
theorem cut5_ac : AC EN5 Tryz.prog 35 [.c (.string ⟨#[120, 10]⟩), .c (.string ⟨#[10]⟩)] (.tup [.c (.string ⟨#[120]⟩), .c (.string ⟨#[]⟩), .c (.bool true)]) := by
  have h1 := index5_ac
  have h2 : AC EN5 Tryz.prog 47 [.c (.string ⟨#[120, 10]⟩), .c (.string ⟨#[10]⟩)] (.tup [.c (.string ⟨#[120]⟩), .c (.string ⟨#[]⟩), .c (.bool true)]) := by
    refine ac_enter 23 Tryz.func47 rfl rfl rfl rfl ?_
    intro s w he
    repeat' (first
    | apply aw_rounds 7
    | refine k_rnd ?_
    | refine k_rnd_exit ?_
    | refine k_rnd_ret ?_
    | (apply aw_cond_kt
       · conv => lhs; whnf
       · decide +kernel)
    | (apply aw_cond_kf
       · conv => lhs; whnf
       · decide +kernel)
    | refine aw_region ?_
    | refine awo_nil ?_
    | refine k_seq ?_
    | refine k_block ?_
    | refine k_scope ?_
    | (apply aw_1
       conv => whnf
       refine ⟨?_, trivial⟩)
    | (apply s_1
       conv => whnf; arg 1; arg 4; arg 3; whnf
       refine ⟨?_, ?_⟩)
    | (apply s_val rfl
       · conv => lhs; whnf
       · conv => lhs; whnf; arg 2; whnf)
    | (apply s_call rfl
       · conv => lhs; whnf
       · conv => lhs; whnf
       · first | exact h1)
    | (apply aw_draw (by kernel_rfl) (by kernel_rfl))
    | apply y_nil
    | (apply y_val rfl
       · conv => lhs; whnf
       · conv => lhs; whnf; arg 2; whnf)
    | (apply y_call rfl
       · conv => lhs; whnf
       · conv => lhs; whnf
       · first | exact h1)
    | exact apartB_none
    | exact apartB_nil
    | exact all_nil
    | (show List.all _ _ = true; rfl)
    | (show apartB _ _ = true; rfl)
    | exact ([] : List Nat)
    | exact (1000000 : Nat)
    | (apply aw_cond_t
       · conv => lhs; whnf; arg 1; arg 1; whnf)
    | (apply aw_cond_f
       · conv => lhs; whnf; arg 1; arg 1; whnf)
    | (refine aw_cond (by conv => lhs; whnf) ?_ ?_ <;> intro hb)
    | refine aw_ret ?_
    | refine aw_exit ?_
    | refine k_seq_exit ?_
    | refine k_seq_ret ?_
    | refine k_block_ret ?_
    | refine k_block_hit rfl ?_
    | refine k_block_miss rfl ?_
    | refine k_scope_exit ?_
    | refine k_scope_ret ?_
    | refine k_loop_exit ?_
    | refine k_loop_ret ?_
    | refine k_end ?_
    | refine k_end_ret ?_
    | (refine ⟨_, by conv => lhs; whnf; arg 2; whnf, ?_⟩; conv => rhs; whnf)
    | exact trivial
    | intro hg)
    all_goals first
      | exact ⟨_, _, _, rfl, rfl, rfl, rfl⟩
      | exact (show Tryz.prog.underlying 9 = some TypeDesc.string by kernel_rfl)
      | exact i64_in2 (by decide)
      | (refine ⟨by kernel_rfl, ?_, ?_⟩ <;> decide)
      | skip
  refine ac_enter 13 Tryz.func35 rfl rfl rfl rfl ?_
  intro s w he
  repeat' (first
    | refine aw_region ?_
    | refine awo_nil ?_
    | refine k_seq ?_
    | refine k_block ?_
    | refine k_scope ?_
    | (apply aw_1
       conv => whnf
       refine ⟨?_, trivial⟩)
    | (apply s_1
       conv => whnf; arg 1; arg 4; arg 3; whnf
       refine ⟨?_, ?_⟩)
    | (apply s_val rfl
       · conv => lhs; whnf
       · conv => lhs; whnf; arg 2; whnf)
    | (apply s_call rfl
       · conv => lhs; whnf
       · conv => lhs; whnf
       · first | exact h2)
    | (apply aw_cond_t
       · conv => lhs; whnf; arg 1; arg 1; whnf)
    | (apply aw_cond_f
       · conv => lhs; whnf; arg 1; arg 1; whnf)
    | (refine aw_cond (by conv => lhs; whnf) ?_ ?_ <;> intro hb)
    | refine aw_ret ?_
    | refine aw_exit ?_
    | refine k_seq_exit ?_
    | refine k_seq_ret ?_
    | refine k_block_ret ?_
    | refine k_block_hit rfl ?_
    | refine k_block_miss rfl ?_
    | refine k_scope_exit ?_
    | refine k_scope_ret ?_
    | refine k_loop_exit ?_
    | refine k_loop_ret ?_
    | refine k_end ?_
    | refine k_end_ret ?_
    | (refine ⟨_, by conv => lhs; whnf; arg 2; whnf, ?_⟩; conv => rhs; whnf)
    | exact trivial
    | intro hg)
  exact ⟨_, _, _, rfl, rfl, rfl, rfl⟩
def ln5 (s : ByteArray) (b d : Bool) : Res := .box 87 [.c (.string s), .c (.bool b), .c (.bool d)]
set_option maxHeartbeats 8000000 in
set_option maxRecDepth 100000 in
theorem lcut5_acb : ACB EN5 Tryz.prog 57 [.bx (pn 0) 0, .c (.int .i64 1)] [ln5 ⟨#[120]⟩ false false] (.c (.string ⟨#[120]⟩)) [ln5 ⟨#[]⟩ false true] := by
  refine acb_enter 48 Tryz.func57 rfl rfl ?_
  intro pas s w he hpp
  repeat' (first
    | apply aw_rounds 7
    | refine k_rnd ?_
    | refine k_rnd_exit ?_
    | refine k_rnd_ret ?_
    | (apply aw_cond_kt
       · conv => lhs; whnf
       · decide +kernel)
    | (apply aw_cond_kf
       · conv => lhs; whnf
       · decide +kernel)
    | refine aw_region ?_
    | refine awo_nil ?_
    | refine k_seq ?_
    | refine k_block ?_
    | refine k_scope ?_
    | (apply aw_1
       conv => whnf
       refine ⟨?_, trivial⟩)
    | (apply s_1
       conv => whnf; arg 1; arg 4; arg 3; whnf
       refine ⟨?_, ?_⟩)
    | (apply s_val rfl
       · conv => lhs; whnf
       · conv => lhs; whnf; arg 2; whnf)
    | (apply s_store rfl rfl rfl
       · conv => lhs; whnf
       · conv => lhs; whnf; arg 1; whnf
       · conv => lhs; whnf; arg 1; whnf
       · exact ⟨by kernel_rfl, by kernel_rfl⟩
       · rfl)
    | (apply aw_cond_t
       · conv => lhs; whnf; arg 1; arg 1; whnf)
    | (apply aw_cond_f
       · conv => lhs; whnf; arg 1; arg 1; whnf)
    | (refine aw_cond (by conv => lhs; whnf) ?_ ?_ <;> intro hb)
    | refine aw_ret ?_
    | refine aw_exit ?_
    | refine k_seq_exit ?_
    | refine k_seq_ret ?_
    | refine k_block_ret ?_
    | refine k_block_hit rfl ?_
    | refine k_block_miss rfl ?_
    | refine k_scope_exit ?_
    | refine k_scope_ret ?_
    | refine k_loop_exit ?_
    | refine k_loop_ret ?_
    | refine k_endB ⟨?_, ?_⟩
    | refine k_endB_ret ⟨?_, ?_⟩
    | exact (rfl : _ = V.tup [])
    | (refine ⟨_, by conv => lhs; whnf; arg 2; whnf, ?_⟩; conv => rhs; whnf)
    | exact trivial
    | intro hg)
  all_goals first
    | exact ⟨rfl, trivial⟩
    | rfl
    | exact (show Tryz.prog.underlying 9 = some TypeDesc.string by kernel_rfl)
    | (refine ⟨by kernel_rfl, ?_, ?_⟩ <;> decide)
    | skip
set_option maxHeartbeats 8000000 in
set_option maxRecDepth 100000 in
theorem word5_acb : ACB EN5 Tryz.prog 48 [.bx (pn 0) 0] [ln5 ⟨#[120]⟩ false false] (.c (.string ⟨#[120]⟩)) [ln5 ⟨#[]⟩ false true] := by
  have h1 : AC EN5 Tryz.prog 56 [.c (.string ⟨#[120]⟩), .c (.int .u8 32)] (.c (.int .i64 (-1))) := indexByte_ac ⟨#[120]⟩ 32 (by decide)
  have h2 := lcut5_acb
  refine acb_enter 30 Tryz.func48 rfl rfl ?_
  intro pas s w he hpp
  repeat' (first
    | (apply s_callB [1000000] rfl rfl
       · conv => lhs; whnf
       · exact h2
       · decide
       · rfl
       · rfl)
    | apply aw_rounds 7
    | refine k_rnd ?_
    | refine k_rnd_exit ?_
    | refine k_rnd_ret ?_
    | (apply aw_cond_kt
       · conv => lhs; whnf
       · decide +kernel)
    | (apply aw_cond_kf
       · conv => lhs; whnf
       · decide +kernel)
    | refine aw_region ?_
    | refine awo_nil ?_
    | refine k_seq ?_
    | refine k_block ?_
    | refine k_scope ?_
    | (apply aw_1
       conv => whnf
       refine ⟨?_, trivial⟩)
    | (apply s_pick_t rfl rfl
       · conv => lhs; whnf
       · conv => lhs; whnf
       · first | decide +kernel)
    | (apply s_pick_f rfl rfl
       · conv => lhs; whnf
       · conv => lhs; whnf
       · first | decide +kernel)
    | (apply s_1
       conv => whnf; arg 1; arg 4; arg 3; whnf
       refine ⟨?_, ?_⟩)
    | (apply s_val rfl
       · conv => lhs; whnf
       · conv => lhs; whnf; arg 2; whnf)
    | (apply s_call rfl
       · conv => lhs; whnf
       · conv => lhs; whnf
       · first | exact h1)
    | (apply s_store rfl rfl rfl
       · conv => lhs; whnf
       · conv => lhs; whnf; arg 1; whnf
       · conv => lhs; whnf; arg 1; whnf
       · exact ⟨by kernel_rfl, by kernel_rfl⟩
       · rfl)
    | (apply s_wanted_val rfl
       · conv => lhs; whnf
       · conv => lhs; whnf
       · first | rfl | assumption | decide +kernel
       · conv => lhs; whnf; arg 2; whnf)
    | (apply s_wanted_call rfl
       · conv => lhs; whnf
       · conv => lhs; whnf
       · first | rfl | assumption | decide +kernel
       · conv => lhs; whnf
       · first | exact h1)
    | (apply s_skip rfl
       · conv => lhs; whnf
       · conv => lhs; whnf
       · first | rfl | assumption | decide +kernel)
    | (apply s_guard_val rfl
       · conv => lhs; whnf
       · conv => lhs; whnf
       · conv => lhs; whnf; arg 2; whnf)
    | (apply s_guard_call rfl
       · conv => lhs; whnf
       · conv => lhs; whnf
       · conv => lhs; whnf
       · first | exact h1)
    | (apply aw_cond_t
       · conv => lhs; whnf; arg 1; arg 1; whnf)
    | (apply aw_cond_f
       · conv => lhs; whnf; arg 1; arg 1; whnf)
    | (refine aw_cond (by conv => lhs; whnf) ?_ ?_ <;> intro hb)
    | refine aw_ret ?_
    | refine aw_exit ?_
    | refine k_seq_exit ?_
    | refine k_seq_ret ?_
    | refine k_block_ret ?_
    | refine k_block_hit rfl ?_
    | refine k_block_miss rfl ?_
    | refine k_scope_exit ?_
    | refine k_scope_ret ?_
    | refine k_loop_exit ?_
    | refine k_loop_ret ?_
    | refine k_endB ⟨?_, ?_⟩
    | refine k_endB_ret ⟨?_, ?_⟩
    | exact (rfl : _ = V.tup [])
    | (refine ⟨_, by conv => lhs; whnf; arg 2; whnf, ?_⟩; conv => rhs; whnf)
    | exact trivial
    | intro hg)
  all_goals first
    | exact ⟨rfl, trivial⟩
    | rfl
    | skip
def cells05 : List V := [.c (.slice none 0 0), .c (.int .i64 0), .c (.int .i64 16), .c (.int .i64 16), .c (.bool false), .c (.slice none 0 0), .c (.slice none 0 0), .c (.slice none 0 0), .c (.int .i64 0), .c (.slice none 0 0), .c (.int .i64 0), .c (.bool false)]
def ps5 : Res := .box 72 cells05
set_option maxHeartbeats 8000000 in
set_option maxRecDepth 100000 in
theorem data5_acb : ACB EN5 Tryz.prog 62 [.bx (pn 0) 0, .c (.string ⟨#[120]⟩), .bx (pn 1) 0] [ps5, ln5 ⟨#[]⟩ false true] (.c (.int .i64 (-1))) [ps5, ln5 ⟨#[]⟩ false true] := by
  refine acb_enter 105 Tryz.func62 rfl rfl ?_
  intro pas s w he hpp
  repeat' (first
    | apply aw_rounds 7
    | refine k_rnd ?_
    | refine k_rnd_exit ?_
    | refine k_rnd_ret ?_
    | (apply aw_cond_kt
       · conv => lhs; whnf
       · decide +kernel)
    | (apply aw_cond_kf
       · conv => lhs; whnf
       · decide +kernel)
    | refine aw_region ?_
    | refine awo_nil ?_
    | refine k_seq ?_
    | refine k_block ?_
    | refine k_scope ?_
    | (apply aw_1
       conv => whnf
       refine ⟨?_, trivial⟩)
    | (apply s_1
       conv => whnf; arg 1; arg 4; arg 3; whnf
       refine ⟨?_, ?_⟩)
    | (apply s_val rfl
       · conv => lhs; whnf
       · conv => lhs; whnf; arg 2; whnf)
    | (apply s_call rfl
       · conv => lhs; whnf
       · conv => lhs; whnf
       · first | fail)
    | (apply s_alloc rfl rfl rfl rfl
       · conv => lhs; whnf; arg 1; whnf
       · rfl)
    | (apply s_store rfl rfl rfl
       · conv => lhs; whnf
       · conv => lhs; whnf; arg 1; whnf
       · conv => lhs; whnf; arg 1; whnf
       · exact ⟨by kernel_rfl, by kernel_rfl⟩
       · rfl)
    | (apply s_app rfl rfl
       · conv => lhs; whnf
       · first | (conv => lhs; whnf; arg 1; whnf)
       · first | exact fun _ => rfl | (intro _; kernel_rfl)
       · conv => lhs; whnf
       · conv => lhs; whnf; arg 1; whnf
       · conv => lhs; whnf)
    | (apply s_app_nil rfl rfl rfl rfl
       · first | (conv => lhs; whnf; arg 1; whnf)
       · first | exact fun _ => rfl | (intro _; kernel_rfl)
       · conv => lhs; whnf
       · conv => lhs; whnf)
    | (apply s_lit0 rfl rfl
       · conv => lhs; whnf
       · first | (conv => lhs; whnf; arg 1; whnf))
    | (apply s_lit1 rfl rfl
       · conv => lhs; whnf
       · first | (conv => lhs; whnf; arg 1; whnf)
       · conv => lhs; whnf; arg 1; whnf
       · rfl
       · rfl)
    | (apply s_onlit rfl rfl
       · conv => lhs; whnf
       · first | (conv => lhs; whnf; arg 1; whnf)
       · first | exact fun _ => rfl | (intro _; kernel_rfl)
       · conv => lhs; whnf
       · conv => lhs; whnf)
    | (apply aw_draw (by kernel_rfl) (by kernel_rfl))
    | apply y_nil
    | (apply y_val rfl
       · conv => lhs; whnf
       · conv => lhs; whnf; arg 2; whnf)
    | (apply y_call rfl
       · conv => lhs; whnf
       · conv => lhs; whnf
       · first | fail)
    | (apply y_store rfl rfl rfl
       · conv => lhs; whnf
       · rfl
       · rfl
       · conv => lhs; whnf; arg 1; whnf
       · conv => lhs; whnf; arg 1; whnf
       · exact ⟨by kernel_rfl, by kernel_rfl⟩
       · rfl)
    | (apply y_app rfl rfl
       · conv => lhs; whnf
       · first | (conv => lhs; whnf; arg 1; whnf)
       · first | exact fun _ => rfl | (intro _; kernel_rfl)
       · conv => lhs; whnf
       · rfl
       · rfl
       · conv => lhs; whnf; arg 1; whnf
       · conv => lhs; whnf)
    | (apply y_lit0 rfl rfl
       · conv => lhs; whnf
       · first | (conv => lhs; whnf; arg 1; whnf))
    | (apply y_lit1 rfl rfl
       · conv => lhs; whnf
       · first | (conv => lhs; whnf; arg 1; whnf)
       · conv => lhs; whnf; arg 1; whnf
       · rfl
       · rfl)
    | (apply y_onlit rfl rfl
       · conv => lhs; whnf
       · first | (conv => lhs; whnf; arg 1; whnf)
       · first | exact fun _ => rfl | (intro _; kernel_rfl)
       · conv => lhs; whnf
       · conv => lhs; whnf)
    | exact apartB_none
    | exact apartB_nil
    | exact all_nil
    | (show List.all _ _ = true; rfl)
    | (show apartB _ _ = true; rfl)
    | exact ([] : List Nat)
    | exact (1000000 : Nat)
    | (apply aw_cond_t
       · conv => lhs; whnf; arg 1; arg 1; whnf)
    | (apply aw_cond_f
       · conv => lhs; whnf; arg 1; arg 1; whnf)
    | (refine aw_cond (by conv => lhs; whnf) ?_ ?_ <;> intro hb)
    | refine aw_ret ?_
    | refine aw_exit ?_
    | refine k_seq_exit ?_
    | refine k_seq_ret ?_
    | refine k_block_ret ?_
    | refine k_block_hit rfl ?_
    | refine k_block_miss rfl ?_
    | refine k_scope_exit ?_
    | refine k_scope_ret ?_
    | refine k_loop_exit ?_
    | refine k_loop_ret ?_
    | refine k_endB ⟨?_, ?_⟩
    | refine k_endB_ret ⟨?_, ?_⟩
    | exact (rfl : _ = V.tup [])
    | (refine ⟨_, by conv => lhs; whnf; arg 2; whnf, ?_⟩; conv => rhs; whnf)
    | exact trivial
    | intro hg)
  all_goals first
    | exact ⟨rfl, rfl, trivial⟩
    | rfl
    | skip
set_option maxHeartbeats 8000000 in
set_option maxRecDepth 100000 in
theorem head5_acb : ACB EN5 Tryz.prog 49 [.bx (pn 0) 0, .c (.string ⟨#[120]⟩), .bx (pn 1) 0] [ps5, ln5 ⟨#[]⟩ false true] (.c (.int .i64 (-1))) [ps5, ln5 ⟨#[]⟩ false true] := by
  have h1 := data5_acb
  refine acb_enter 96 Tryz.func49 rfl rfl ?_
  intro pas s w he hpp
  repeat' (first
    | (apply s_callB [1000000, 1000001] rfl rfl
       · conv => lhs; whnf
       · exact h1
       · decide
       · rfl
       · rfl)
    | apply aw_rounds 7
    | refine k_rnd ?_
    | refine k_rnd_exit ?_
    | refine k_rnd_ret ?_
    | (apply aw_cond_kt
       · conv => lhs; whnf
       · decide +kernel)
    | (apply aw_cond_kf
       · conv => lhs; whnf
       · decide +kernel)
    | refine aw_region ?_
    | refine awo_nil ?_
    | refine k_seq ?_
    | refine k_block ?_
    | refine k_scope ?_
    | (apply aw_1
       conv => whnf
       refine ⟨?_, trivial⟩)
    | (apply s_1
       conv => whnf; arg 1; arg 4; arg 3; whnf
       refine ⟨?_, ?_⟩)
    | (apply s_val rfl
       · conv => lhs; whnf
       · conv => lhs; whnf; arg 2; whnf)
    | (apply s_call rfl
       · conv => lhs; whnf
       · conv => lhs; whnf
       · first | fail)
    | (apply s_alloc rfl rfl rfl rfl
       · conv => lhs; whnf; arg 1; whnf
       · rfl)
    | (apply s_store rfl rfl rfl
       · conv => lhs; whnf
       · conv => lhs; whnf; arg 1; whnf
       · conv => lhs; whnf; arg 1; whnf
       · exact ⟨by kernel_rfl, by kernel_rfl⟩
       · rfl)
    | (apply s_app rfl rfl
       · conv => lhs; whnf
       · first | (conv => lhs; whnf; arg 1; whnf)
       · first | exact fun _ => rfl | (intro _; kernel_rfl)
       · conv => lhs; whnf
       · conv => lhs; whnf; arg 1; whnf
       · conv => lhs; whnf)
    | (apply s_app_nil rfl rfl rfl rfl
       · first | (conv => lhs; whnf; arg 1; whnf)
       · first | exact fun _ => rfl | (intro _; kernel_rfl)
       · conv => lhs; whnf
       · conv => lhs; whnf)
    | (apply s_lit0 rfl rfl
       · conv => lhs; whnf
       · first | (conv => lhs; whnf; arg 1; whnf))
    | (apply s_lit1 rfl rfl
       · conv => lhs; whnf
       · first | (conv => lhs; whnf; arg 1; whnf)
       · conv => lhs; whnf; arg 1; whnf
       · rfl
       · rfl)
    | (apply s_onlit rfl rfl
       · conv => lhs; whnf
       · first | (conv => lhs; whnf; arg 1; whnf)
       · first | exact fun _ => rfl | (intro _; kernel_rfl)
       · conv => lhs; whnf
       · conv => lhs; whnf)
    | (apply aw_draw (by kernel_rfl) (by kernel_rfl))
    | apply y_nil
    | (apply y_val rfl
       · conv => lhs; whnf
       · conv => lhs; whnf; arg 2; whnf)
    | (apply y_call rfl
       · conv => lhs; whnf
       · conv => lhs; whnf
       · first | fail)
    | (apply y_store rfl rfl rfl
       · conv => lhs; whnf
       · rfl
       · rfl
       · conv => lhs; whnf; arg 1; whnf
       · conv => lhs; whnf; arg 1; whnf
       · exact ⟨by kernel_rfl, by kernel_rfl⟩
       · rfl)
    | (apply y_app rfl rfl
       · conv => lhs; whnf
       · first | (conv => lhs; whnf; arg 1; whnf)
       · first | exact fun _ => rfl | (intro _; kernel_rfl)
       · conv => lhs; whnf
       · rfl
       · rfl
       · conv => lhs; whnf; arg 1; whnf
       · conv => lhs; whnf)
    | (apply y_lit0 rfl rfl
       · conv => lhs; whnf
       · first | (conv => lhs; whnf; arg 1; whnf))
    | (apply y_lit1 rfl rfl
       · conv => lhs; whnf
       · first | (conv => lhs; whnf; arg 1; whnf)
       · conv => lhs; whnf; arg 1; whnf
       · rfl
       · rfl)
    | (apply y_onlit rfl rfl
       · conv => lhs; whnf
       · first | (conv => lhs; whnf; arg 1; whnf)
       · first | exact fun _ => rfl | (intro _; kernel_rfl)
       · conv => lhs; whnf
       · conv => lhs; whnf)
    | exact apartB_none
    | exact apartB_nil
    | exact all_nil
    | (show List.all _ _ = true; rfl)
    | (show apartB _ _ = true; rfl)
    | exact ([] : List Nat)
    | exact (1000000 : Nat)
    | (apply aw_cond_t
       · conv => lhs; whnf; arg 1; arg 1; whnf)
    | (apply aw_cond_f
       · conv => lhs; whnf; arg 1; arg 1; whnf)
    | (refine aw_cond (by conv => lhs; whnf) ?_ ?_ <;> intro hb)
    | refine aw_ret ?_
    | refine aw_exit ?_
    | refine k_seq_exit ?_
    | refine k_seq_ret ?_
    | refine k_block_ret ?_
    | refine k_block_hit rfl ?_
    | refine k_block_miss rfl ?_
    | refine k_scope_exit ?_
    | refine k_scope_ret ?_
    | refine k_loop_exit ?_
    | refine k_loop_ret ?_
    | refine k_endB ⟨?_, ?_⟩
    | refine k_endB_ret ⟨?_, ?_⟩
    | exact (rfl : _ = V.tup [])
    | (refine ⟨_, by conv => lhs; whnf; arg 2; whnf, ?_⟩; conv => rhs; whnf)
    | exact trivial
    | intro hg)
  all_goals first
    | exact ⟨rfl, rfl, trivial⟩
    | rfl
    | skip
def nulV5 : D := .obj [.int 0, .int 0, .str ⟨#[]⟩, .list [], .list []]
def stepZ5 : D := .obj [.int 0, .obj [.str ⟨#[]⟩, .str ⟨#[]⟩, .str ⟨#[]⟩, nulV5, .obj [.bool false, .list []]], .int 0, .obj [.int 0, .int 0, .int 0, .int 0, .int 0, .str ⟨#[]⟩], .str ⟨#[]⟩, nulV5]
set_option maxHeartbeats 8000000 in
set_option maxRecDepth 100000 in
theorem step5_acb : ACB EN5 Tryz.prog 50 [.c (.string ⟨#[120]⟩), .bx (pn 0) 0] [ln5 ⟨#[]⟩ false true] (.agg (cellsV Tryz.prog 12 96 stepZ5)) [ln5 ⟨#[]⟩ true true] := by
  refine acb_enter 129 Tryz.func50 rfl rfl ?_
  intro pas s w he hpp
  repeat' (first
    | (apply s_valW ((.agg (cellsV Tryz.prog 12 96 stepZ5))) rfl rfl
       · conv => lhs; whnf; arg 2; whnf
       · repeat' (first | exact VLe.refl _ | exact VLe.nil _ | exact VLe.lit _ _ | exact VLe.own _ _ _ | apply VLe.agg | apply VLeL.cons | exact VLeL.nil))
    | apply aw_rounds 7
    | refine k_rnd ?_
    | refine k_rnd_exit ?_
    | refine k_rnd_ret ?_
    | (apply aw_cond_kt
       · conv => lhs; whnf
       · decide +kernel)
    | (apply aw_cond_kf
       · conv => lhs; whnf
       · decide +kernel)
    | refine aw_region ?_
    | refine awo_nil ?_
    | refine k_seq ?_
    | refine k_block ?_
    | refine k_scope ?_
    | (apply aw_1
       conv => whnf
       refine ⟨?_, trivial⟩)
    | (apply s_1
       conv => whnf; arg 1; arg 4; arg 3; whnf
       refine ⟨?_, ?_⟩)
    | (apply s_val rfl
       · conv => lhs; whnf
       · conv => lhs; whnf; arg 2; whnf)
    | (apply s_call rfl
       · conv => lhs; whnf
       · conv => lhs; whnf
       · first | fail)
    | (apply s_alloc rfl rfl rfl rfl
       · conv => lhs; whnf; arg 1; whnf
       · rfl)
    | (apply s_store rfl rfl rfl
       · conv => lhs; whnf
       · conv => lhs; whnf; arg 1; whnf
       · conv => lhs; whnf; arg 1; whnf
       · exact ⟨by kernel_rfl, by kernel_rfl⟩
       · rfl)
    | (apply aw_cond_t
       · conv => lhs; whnf; arg 1; arg 1; whnf)
    | (apply aw_cond_f
       · conv => lhs; whnf; arg 1; arg 1; whnf)
    | (refine aw_cond (by conv => lhs; whnf) ?_ ?_ <;> intro hb)
    | refine aw_ret ?_
    | refine aw_exit ?_
    | refine k_seq_exit ?_
    | refine k_seq_ret ?_
    | refine k_block_ret ?_
    | refine k_block_hit rfl ?_
    | refine k_block_miss rfl ?_
    | refine k_scope_exit ?_
    | refine k_scope_ret ?_
    | refine k_loop_exit ?_
    | refine k_loop_ret ?_
    | refine k_endB ⟨?_, ?_⟩
    | refine k_endB_ret ⟨?_, ?_⟩
    | exact (rfl : _ = V.tup [])
    | (refine ⟨_, by conv => lhs; whnf; arg 2; whnf, ?_⟩; conv => rhs; whnf)
    | exact trivial
    | intro hg)
  all_goals first
    | exact ⟨rfl, trivial⟩
    | rfl
    | skip
end Go.Proofs.YtdklhkdlndlgnaaGreatDoor
namespace Go.Proofs.YtdklhkdlndlgnaaGreatDoor
open Go.RowKit
set_option linter.unusedSectionVars false
attribute [local irreducible] wpList Calls Code.wp AW AWo OpOk seqK blockK scopeK loopK endK AC absLex Yld Sub
attribute [local irreducible] ACB ACX absLexG YldG absLexH absLexU YldU rnd rndK
set_option maxHeartbeats 8000000 in
set_option maxRecDepth 100000 in
theorem elemStep5 : elemOk Tryz.prog 54 = some (96, 328) := by kernel_rfl
noncomputable def HRd5 : Vst 53 := stS 53 [(0, .bx (pn 0) 0), (5, .bx 10 0), (6, .c (.string ⟨#[120]⟩)), (7, .c (.int .i64 9))]
  [(1000000, .box 72 [.c (.slice none 0 0), .c (.int .i64 0), .c (.int .i64 16), .c (.int .i64 16), .c (.bool false), .c (.slice none 0 0), .c (.slice none 0 0), .c (.slice none 0 0), .c (.int .i64 0), .own 900 96 [], .c (.int .i64 0), .c (.bool false)]), (10, ln5 ⟨#[]⟩ false true), (900, .tok 96 ([] : List D).length)]
set_option maxHeartbeats 8000000 in
set_option maxRecDepth 100000 in
theorem read5_acb : ACB EN5 Tryz.prog 36 [.bx (pn 0) 0, .c (.string ⟨#[120]⟩)] [ps5] (.c (.bool false)) [] := by
  have h1 := word5_acb
  have h2 := head5_acb
  have h3 := step5_acb
  refine acb_enter 53 Tryz.func36 rfl rfl ?_
  intro pas s w he hpp
  repeat' (first
    | (apply s_callB [10] rfl rfl
       · conv => lhs; whnf
       · exact h1
       · decide
       · rfl
       · rfl)
    | (apply s_callB [1000000, 10] rfl rfl
       · conv => lhs; whnf
       · exact h2
       · decide
       · rfl
       · rfl)
    | (apply aw_drawUn 15 ([(5,[1000000])]) ([(8,[10]),(10,[900]),(14,[1000000])]) rfl (by kernel_rfl) (by kernel_rfl) (by kernel_rfl))
    | apply u_nil
    | (apply u_callB [10] rfl rfl
       · conv => lhs; whnf
       · exact h3
       · decide
       · rfl
       · rfl
       · rfl
       · rfl)
    | (apply u_lit [stepZ5] rfl rfl
       · conv => lhs; whnf
       · first | exact elemStep5 | (conv => lhs; whnf; arg 1; whnf)
       · rfl
       · rfl
       · repeat' (first | exact trivial | apply And.intro | rfl))
    | (apply u_pick_t rfl rfl
       · conv => lhs; whnf
       · conv => lhs; whnf
       · first | decide +kernel)
    | (apply u_pick_f rfl rfl
       · conv => lhs; whnf
       · conv => lhs; whnf
       · first | decide +kernel)
    | (apply u_val rfl
       · conv => lhs; whnf
       · conv => lhs; whnf; arg 2; whnf)
    | (apply u_call rfl
       · conv => lhs; whnf
       · conv => lhs; whnf
       · first | fail)
    | (apply u_app rfl rfl
       · conv => lhs; whnf
       · first | exact elemStep5 | (conv => lhs; whnf; arg 1; whnf)
       · first | exact fun _ => rfl | (intro _; kernel_rfl)
       · conv => lhs; whnf
       · rfl
       · conv => lhs; whnf; arg 1; whnf
       · conv => lhs; whnf)
    | (apply u_store rfl rfl rfl
       · conv => lhs; whnf
       · rfl
       · conv => lhs; whnf; arg 1; whnf
       · conv => lhs; whnf; arg 1; whnf
       · exact ⟨by kernel_rfl, by kernel_rfl⟩
       · rfl)
    | (apply u_wpick_t rfl rfl rfl
       · conv => lhs; whnf
       · first | rfl | assumption | decide +kernel
       · conv => lhs; whnf
       · first | decide +kernel | rfl)
    | (apply u_wpick_f rfl rfl rfl
       · conv => lhs; whnf
       · first | rfl | assumption | decide +kernel
       · conv => lhs; whnf
       · first | decide +kernel | rfl)
    | (apply u_wanted_val rfl
       · conv => lhs; whnf
       · conv => lhs; whnf
       · first | rfl | assumption | decide +kernel
       · conv => lhs; whnf; arg 2; whnf)
    | (apply u_wanted_call rfl
       · conv => lhs; whnf
       · conv => lhs; whnf
       · first | rfl | assumption | decide +kernel
       · conv => lhs; whnf
       · first | fail)
    | (apply u_skip rfl
       · conv => lhs; whnf
       · conv => lhs; whnf
       · first | rfl | assumption | decide +kernel)
    | (apply u_dead rfl
       · conv => lhs; whnf
       · rfl
       · rfl)
    | (apply u_guard_val rfl
       · conv => lhs; whnf
       · conv => lhs; whnf
       · conv => lhs; whnf; arg 2; whnf)
    | (apply u_guard_call rfl
       · conv => lhs; whnf
       · conv => lhs; whnf
       · conv => lhs; whnf
       · first | fail)
    | (show inO _ _ = true; rfl)
    | (apply s_wanted_pick_t rfl rfl rfl
       · conv => lhs; whnf
       · first | rfl | assumption | decide +kernel
       · conv => lhs; whnf
       · first | decide +kernel | rfl)
    | (apply s_wpick_t rfl rfl rfl
       · conv => lhs; whnf
       · first | rfl | assumption | decide +kernel
       · conv => lhs; whnf
       · first | decide +kernel | rfl)
    | (apply s_wanted_pick_f rfl rfl rfl
       · conv => lhs; whnf
       · first | rfl | assumption | decide +kernel
       · conv => lhs; whnf
       · first | decide +kernel | rfl)
    | (apply s_wpick_f rfl rfl rfl
       · conv => lhs; whnf
       · first | rfl | assumption | decide +kernel
       · conv => lhs; whnf
       · first | decide +kernel | rfl)
    | apply aw_rounds 7
    | refine k_rnd ?_
    | refine k_rnd_exit ?_
    | refine k_rnd_ret ?_
    | (apply aw_cond_kt
       · conv => lhs; whnf
       · decide +kernel)
    | (apply aw_cond_kf
       · conv => lhs; whnf
       · decide +kernel)
    | apply aw_cutAt 8 (HRd5) rfl
    | refine k_cut_ret ?_
    | refine k_cut_exit ?_
    | refine k_cut ?_
    | refine aw_region ?_
    | refine awo_nil ?_
    | refine k_seq ?_
    | refine k_block ?_
    | refine k_scope ?_
    | (apply aw_1
       conv => whnf
       refine ⟨?_, trivial⟩)
    | (apply s_pick_t rfl rfl
       · conv => lhs; whnf
       · conv => lhs; whnf
       · first | decide +kernel)
    | (apply s_pick_f rfl rfl
       · conv => lhs; whnf
       · conv => lhs; whnf
       · first | decide +kernel)
    | (apply s_1
       conv => whnf; arg 1; arg 4; arg 3; whnf
       refine ⟨?_, ?_⟩)
    | (apply s_val rfl
       · conv => lhs; whnf
       · conv => lhs; whnf; arg 2; whnf)
    | (apply s_call rfl
       · conv => lhs; whnf
       · conv => lhs; whnf
       · first | fail)
    | (apply s_box rfl rfl rfl rfl
       · conv => lhs; whnf; arg 1; whnf
       · rfl)
    | (apply s_store rfl rfl rfl
       · conv => lhs; whnf
       · conv => lhs; whnf; arg 1; whnf
       · conv => lhs; whnf; arg 1; whnf
       · exact ⟨by kernel_rfl, by kernel_rfl⟩
       · rfl)
    | (apply s_app rfl rfl
       · conv => lhs; whnf
       · first | exact elemStep5 | (conv => lhs; whnf; arg 1; whnf)
       · first | exact fun _ => rfl | (intro _; kernel_rfl)
       · conv => lhs; whnf
       · conv => lhs; whnf; arg 1; whnf
       · conv => lhs; whnf)
    | (apply s_app_nil rfl rfl rfl rfl
       · first | exact elemStep5 | (conv => lhs; whnf; arg 1; whnf)
       · first | exact fun _ => rfl | (intro _; kernel_rfl)
       · conv => lhs; whnf
       · conv => lhs; whnf)
    | (apply s_lit0 rfl rfl
       · conv => lhs; whnf
       · first | exact elemStep5 | (conv => lhs; whnf; arg 1; whnf))
    | (apply s_lit1 rfl rfl
       · conv => lhs; whnf
       · first | exact elemStep5 | (conv => lhs; whnf; arg 1; whnf)
       · conv => lhs; whnf; arg 1; whnf
       · rfl
       · rfl)
    | (apply s_onlit rfl rfl
       · conv => lhs; whnf
       · first | exact elemStep5 | (conv => lhs; whnf; arg 1; whnf)
       · first | exact fun _ => rfl | (intro _; kernel_rfl)
       · conv => lhs; whnf
       · conv => lhs; whnf)
    | (apply s_wanted_val rfl
       · conv => lhs; whnf
       · conv => lhs; whnf
       · first | rfl | assumption | decide +kernel
       · conv => lhs; whnf; arg 2; whnf)
    | (apply s_wanted_call rfl
       · conv => lhs; whnf
       · conv => lhs; whnf
       · first | rfl | assumption | decide +kernel
       · conv => lhs; whnf
       · first | fail)
    | (apply s_skipU rfl
       · conv => lhs; whnf
       · conv => lhs; whnf
       · first | rfl | assumption | decide +kernel)
    | (apply s_dead rfl
       · conv => lhs; whnf
       · rfl
       · rfl)
    | (apply s_guard_valU rfl
       · conv => lhs; whnf
       · conv => lhs; whnf
       · conv => lhs; whnf; arg 2; whnf)
    | (apply s_guard_callU rfl
       · conv => lhs; whnf
       · conv => lhs; whnf
       · conv => lhs; whnf
       · first | fail)
    | (apply s_guard_val rfl
       · conv => lhs; whnf
       · conv => lhs; whnf
       · conv => lhs; whnf; arg 2; whnf)
    | (apply s_guard_call rfl
       · conv => lhs; whnf
       · conv => lhs; whnf
       · conv => lhs; whnf
       · first | fail)
    | (apply aw_draw (by kernel_rfl) (by kernel_rfl))
    | apply y_nil
    | (apply y_pick_t rfl rfl
       · conv => lhs; whnf
       · conv => lhs; whnf
       · first | decide +kernel)
    | (apply y_pick_f rfl rfl
       · conv => lhs; whnf
       · conv => lhs; whnf
       · first | decide +kernel)
    | (apply y_val rfl
       · conv => lhs; whnf
       · conv => lhs; whnf; arg 2; whnf)
    | (apply y_call rfl
       · conv => lhs; whnf
       · conv => lhs; whnf
       · first | fail)
    | (apply y_store rfl rfl rfl
       · conv => lhs; whnf
       · rfl
       · rfl
       · conv => lhs; whnf; arg 1; whnf
       · conv => lhs; whnf; arg 1; whnf
       · exact ⟨by kernel_rfl, by kernel_rfl⟩
       · rfl)
    | (apply y_app rfl rfl
       · conv => lhs; whnf
       · first | exact elemStep5 | (conv => lhs; whnf; arg 1; whnf)
       · first | exact fun _ => rfl | (intro _; kernel_rfl)
       · conv => lhs; whnf
       · rfl
       · rfl
       · conv => lhs; whnf; arg 1; whnf
       · conv => lhs; whnf)
    | (apply y_lit0 rfl rfl
       · conv => lhs; whnf
       · first | exact elemStep5 | (conv => lhs; whnf; arg 1; whnf))
    | (apply y_lit1 rfl rfl
       · conv => lhs; whnf
       · first | exact elemStep5 | (conv => lhs; whnf; arg 1; whnf)
       · conv => lhs; whnf; arg 1; whnf
       · rfl
       · rfl)
    | (apply y_onlit rfl rfl
       · conv => lhs; whnf
       · first | exact elemStep5 | (conv => lhs; whnf; arg 1; whnf)
       · first | exact fun _ => rfl | (intro _; kernel_rfl)
       · conv => lhs; whnf
       · conv => lhs; whnf)
    | (apply y_wanted_val rfl
       · conv => lhs; whnf
       · conv => lhs; whnf
       · first | rfl | assumption | decide +kernel
       · conv => lhs; whnf; arg 2; whnf)
    | (apply y_wanted_call rfl
       · conv => lhs; whnf
       · conv => lhs; whnf
       · first | rfl | assumption | decide +kernel
       · conv => lhs; whnf
       · first | fail)
    | (apply y_skip rfl
       · conv => lhs; whnf
       · conv => lhs; whnf
       · first | rfl | assumption | decide +kernel)
    | (apply y_guard_val rfl
       · conv => lhs; whnf
       · conv => lhs; whnf
       · conv => lhs; whnf; arg 2; whnf)
    | (apply y_guard_call rfl
       · conv => lhs; whnf
       · conv => lhs; whnf
       · conv => lhs; whnf
       · first | fail)
    | exact apartB_none
    | exact apartB_nil
    | exact all_nil
    | (show List.all _ _ = true; rfl)
    | (show apartB _ _ = true; rfl)
    | exact ([] : List Nat)
    | exact (1000000 : Nat)
    | (apply aw_cond_t
       · conv => lhs; whnf; arg 1; arg 1; whnf)
    | (apply aw_cond_f
       · conv => lhs; whnf; arg 1; arg 1; whnf)
    | (refine aw_cond (by conv => lhs; whnf) ?_ ?_ <;> intro hb)
    | refine aw_ret ?_
    | refine aw_exit ?_
    | refine k_seq_exit ?_
    | refine k_seq_ret ?_
    | refine k_block_ret ?_
    | refine k_block_hit rfl ?_
    | refine k_block_miss rfl ?_
    | refine k_scope_exit ?_
    | refine k_scope_ret ?_
    | refine k_loop_exit ?_
    | refine k_loop_ret ?_
    | refine k_endB ⟨?_, ?_⟩
    | refine k_endB_ret ⟨?_, ?_⟩
    | exact (rfl : _ = V.tup [])
    | (refine ⟨_, by conv => lhs; whnf; arg 2; whnf, ?_⟩; conv => rhs; whnf)
    | exact trivial
    | intro hg)
  all_goals first
    | (refine ⟨?_, ?_, ?_⟩ <;> decide)
    | exact (Sub.ownF (m := 1000000) (q := 900) (i := 9) (e := 96) rfl (by decide) rfl rfl rfl).trans (Sub.live ⟨rfl, rfl, rfl, rfl, trivial⟩ ⟨rfl, rfl, rfl, trivial⟩)
    | skip
def zeros05 : List V := [.c (.slice none 0 0), .c (.int .i64 0), .c (.int .i64 0), .c (.int .i64 0), .c (.bool false), .c (.slice none 0 0), .c (.slice none 0 0), .c (.slice none 0 0), .c (.int .i64 0), .c (.slice none 0 0)]
noncomputable def HPa5 : Vst 43 := stS 43 [(0, .c (.string ⟨#[120, 10]⟩)), (2, .bx 2 0), (3, .c (.int .i64 0)), (4, .c (.int .i64 0)), (5, .bx 17 0)] [(2, .box 56 zeros05), (17, ps5)]
set_option maxHeartbeats 8000000 in
set_option maxRecDepth 100000 in
theorem parse5_ac : AC EN5 Tryz.prog 21 [.c (.string ⟨#[120, 10]⟩)] (.tup [.agg [.c (.slice none 0 0), .c (.int .i64 0), .c (.int .i64 0), .c (.int .i64 0), .c (.bool false), .c (.slice none 0 0), .c (.slice none 0 0), .c (.slice none 0 0), .c (.int .i64 0), .c (.slice none 0 0)], .c (.int .i64 1), .c (.int .i64 3)]) := by
  have h1 := cut5_ac
  have h2 := read5_acb
  refine ac_enter 43 Tryz.func21 rfl rfl rfl rfl ?_
  intro s w he
  repeat' (first
    | (apply s_wanted_callB [17] rfl rfl
       · conv => lhs; whnf
       · first | rfl | assumption | decide +kernel | decide
       · conv => lhs; whnf
       · exact h2
       · decide
       · rfl
       · rfl)
    | (apply s_wanted_pick_t rfl rfl rfl
       · conv => lhs; whnf
       · first | rfl | assumption | decide +kernel
       · conv => lhs; whnf
       · first | decide +kernel | rfl)
    | (apply s_wpick_t rfl rfl rfl
       · conv => lhs; whnf
       · first | rfl | assumption | decide +kernel
       · conv => lhs; whnf
       · first | decide +kernel | rfl)
    | (apply s_wanted_pick_f rfl rfl rfl
       · conv => lhs; whnf
       · first | rfl | assumption | decide +kernel
       · conv => lhs; whnf
       · first | decide +kernel | rfl)
    | (apply s_wpick_f rfl rfl rfl
       · conv => lhs; whnf
       · first | rfl | assumption | decide +kernel
       · conv => lhs; whnf
       · first | decide +kernel | rfl)
    | (apply s_valW ((.agg [.c (.slice none 0 0), .c (.int .i64 0), .c (.int .i64 16), .c (.int .i64 16), .c (.bool false), .c (.slice none 0 0)])) rfl rfl
       · conv => lhs; whnf; arg 2; whnf
       · repeat' (first | exact VLe.refl _ | exact VLe.nil _ | exact VLe.lit _ _ | exact VLe.own _ _ _ | apply VLe.agg | apply VLeL.cons | exact VLeL.nil))
    | (apply s_valW ((.agg [.c (.slice none 0 0), .c (.int .i64 0), .c (.int .i64 16), .c (.int .i64 16), .c (.bool false), .c (.slice none 0 0), .c (.slice none 0 0), .c (.slice none 0 0), .c (.int .i64 0), .c (.slice none 0 0)])) rfl rfl
       · conv => lhs; whnf; arg 2; whnf
       · repeat' (first | exact VLe.refl _ | exact VLe.nil _ | exact VLe.lit _ _ | exact VLe.own _ _ _ | apply VLe.agg | apply VLeL.cons | exact VLeL.nil))
    | (apply s_valW ((.agg cells05)) rfl rfl
       · conv => lhs; whnf; arg 2; whnf
       · repeat' (first | exact VLe.refl _ | exact VLe.nil _ | exact VLe.lit _ _ | exact VLe.own _ _ _ | apply VLe.agg | apply VLeL.cons | exact VLeL.nil))
    | (apply s_valW ((.agg zeros05)) rfl rfl
       · conv => lhs; whnf; arg 2; whnf
       · repeat' (first | exact VLe.refl _ | exact VLe.nil _ | exact VLe.lit _ _ | exact VLe.own _ _ _ | apply VLe.agg | apply VLeL.cons | exact VLeL.nil))
    | apply aw_rounds 7
    | refine k_rnd ?_
    | refine k_rnd_exit ?_
    | refine k_rnd_ret ?_
    | (apply aw_cond_kt
       · conv => lhs; whnf
       · decide +kernel)
    | (apply aw_cond_kf
       · conv => lhs; whnf
       · decide +kernel)
    | apply aw_cutAt 4 (HPa5) rfl
    | refine k_cut_ret ?_
    | refine k_cut_exit ?_
    | refine k_cut ?_
    | refine aw_region ?_
    | refine awo_nil ?_
    | refine k_seq ?_
    | refine k_block ?_
    | refine k_scope ?_
    | (apply aw_1
       conv => whnf
       refine ⟨?_, trivial⟩)
    | (apply s_pick_t rfl rfl
       · conv => lhs; whnf
       · conv => lhs; whnf
       · first | decide +kernel)
    | (apply s_pick_f rfl rfl
       · conv => lhs; whnf
       · conv => lhs; whnf
       · first | decide +kernel)
    | (apply s_1
       conv => whnf; arg 1; arg 4; arg 3; whnf
       refine ⟨?_, ?_⟩)
    | (apply s_val rfl
       · conv => lhs; whnf
       · conv => lhs; whnf; arg 2; whnf)
    | (apply s_call rfl
       · conv => lhs; whnf
       · conv => lhs; whnf
       · first | exact h1)
    | (apply s_box rfl rfl rfl rfl
       · conv => lhs; whnf; arg 1; whnf
       · rfl)
    | (apply s_alloc rfl rfl rfl rfl
       · conv => lhs; whnf; arg 1; whnf
       · rfl)
    | (apply s_store rfl rfl rfl
       · conv => lhs; whnf
       · conv => lhs; whnf; arg 1; whnf
       · conv => lhs; whnf; arg 1; whnf
       · exact ⟨by kernel_rfl, by kernel_rfl⟩
       · rfl)
    | (apply s_wanted_val rfl
       · conv => lhs; whnf
       · conv => lhs; whnf
       · first | rfl | assumption | decide +kernel
       · conv => lhs; whnf; arg 2; whnf)
    | (apply s_wanted_call rfl
       · conv => lhs; whnf
       · conv => lhs; whnf
       · first | rfl | assumption | decide +kernel
       · conv => lhs; whnf
       · first | exact h1)
    | (apply s_skipU rfl
       · conv => lhs; whnf
       · conv => lhs; whnf
       · first | rfl | assumption | decide +kernel)
    | (apply s_dead rfl
       · conv => lhs; whnf
       · rfl
       · rfl)
    | (apply s_guard_valU rfl
       · conv => lhs; whnf
       · conv => lhs; whnf
       · conv => lhs; whnf; arg 2; whnf)
    | (apply s_guard_callU rfl
       · conv => lhs; whnf
       · conv => lhs; whnf
       · conv => lhs; whnf
       · first | exact h1)
    | (apply s_guard_val rfl
       · conv => lhs; whnf
       · conv => lhs; whnf
       · conv => lhs; whnf; arg 2; whnf)
    | (apply s_guard_call rfl
       · conv => lhs; whnf
       · conv => lhs; whnf
       · conv => lhs; whnf
       · first | exact h1)
    | (apply aw_cond_t
       · conv => lhs; whnf; arg 1; arg 1; whnf)
    | (apply aw_cond_f
       · conv => lhs; whnf; arg 1; arg 1; whnf)
    | (refine aw_cond (by conv => lhs; whnf) ?_ ?_ <;> intro hb)
    | refine aw_ret ?_
    | refine aw_exit ?_
    | refine k_seq_exit ?_
    | refine k_seq_ret ?_
    | refine k_block_ret ?_
    | refine k_block_hit rfl ?_
    | refine k_block_miss rfl ?_
    | refine k_scope_exit ?_
    | refine k_scope_ret ?_
    | refine k_loop_exit ?_
    | refine k_loop_ret ?_
    | refine k_end ?_
    | refine k_end_ret ?_
    | (refine ⟨_, by conv => lhs; whnf; arg 2; whnf, ?_⟩; conv => rhs; whnf)
    | exact trivial
    | intro hg)
  all_goals first
    | exact (show Tryz.prog.underlying 9 = some TypeDesc.string by kernel_rfl)
    | exact ⟨_, _, _, rfl, rfl, rfl, rfl⟩
    | exact Sub.live ⟨rfl, rfl, rfl, rfl, rfl, trivial⟩ ⟨rfl, rfl, trivial⟩
    | skip
set_option maxHeartbeats 8000000 in
set_option maxRecDepth 100000 in
theorem awake5_ac : AC EN5 Tryz.prog 8 [] (.c (.bool true)) := by
  have h1 := parse5_ac
  refine ac_enter 15 Tryz.func8 rfl rfl rfl rfl ?_
  intro s w he
  repeat' (first
    | (apply s_wanted_pick_t rfl rfl rfl
       · conv => lhs; whnf
       · first | rfl | assumption | decide +kernel
       · conv => lhs; whnf
       · first | decide +kernel | rfl)
    | (apply s_wpick_t rfl rfl rfl
       · conv => lhs; whnf
       · first | rfl | assumption | decide +kernel
       · conv => lhs; whnf
       · first | decide +kernel | rfl)
    | (apply s_wanted_pick_f rfl rfl rfl
       · conv => lhs; whnf
       · first | rfl | assumption | decide +kernel
       · conv => lhs; whnf
       · first | decide +kernel | rfl)
    | (apply s_wpick_f rfl rfl rfl
       · conv => lhs; whnf
       · first | rfl | assumption | decide +kernel
       · conv => lhs; whnf
       · first | decide +kernel | rfl)
    | apply aw_rounds 7
    | refine k_rnd ?_
    | refine k_rnd_exit ?_
    | refine k_rnd_ret ?_
    | (apply aw_cond_kt
       · conv => lhs; whnf
       · decide +kernel)
    | (apply aw_cond_kf
       · conv => lhs; whnf
       · decide +kernel)
    | refine aw_region ?_
    | refine awo_nil ?_
    | refine k_seq ?_
    | refine k_block ?_
    | refine k_scope ?_
    | (apply aw_1
       conv => whnf
       refine ⟨?_, trivial⟩)
    | (apply s_pick_t rfl rfl
       · conv => lhs; whnf
       · conv => lhs; whnf
       · first | decide +kernel)
    | (apply s_pick_f rfl rfl
       · conv => lhs; whnf
       · conv => lhs; whnf
       · first | decide +kernel)
    | (apply s_1
       conv => whnf; arg 1; arg 4; arg 3; whnf
       refine ⟨?_, ?_⟩)
    | (apply s_val rfl
       · conv => lhs; whnf
       · conv => lhs; whnf; arg 2; whnf)
    | (apply s_call rfl
       · conv => lhs; whnf
       · conv => lhs; whnf
       · first | exact h1)
    | (apply s_alloc rfl rfl rfl rfl
       · conv => lhs; whnf; arg 1; whnf
       · rfl)
    | (apply s_store rfl rfl rfl
       · conv => lhs; whnf
       · conv => lhs; whnf; arg 1; whnf
       · conv => lhs; whnf; arg 1; whnf
       · exact ⟨by kernel_rfl, by kernel_rfl⟩
       · rfl)
    | (apply s_wanted_val rfl
       · conv => lhs; whnf
       · conv => lhs; whnf
       · first | rfl | assumption | decide +kernel
       · conv => lhs; whnf; arg 2; whnf)
    | (apply s_wanted_call rfl
       · conv => lhs; whnf
       · conv => lhs; whnf
       · first | rfl | assumption | decide +kernel
       · conv => lhs; whnf
       · first | exact h1)
    | (apply s_skipU rfl
       · conv => lhs; whnf
       · conv => lhs; whnf
       · first | rfl | assumption | decide +kernel)
    | (apply s_dead rfl
       · conv => lhs; whnf
       · rfl
       · rfl)
    | (apply s_guard_valU rfl
       · conv => lhs; whnf
       · conv => lhs; whnf
       · conv => lhs; whnf; arg 2; whnf)
    | (apply s_guard_callU rfl
       · conv => lhs; whnf
       · conv => lhs; whnf
       · conv => lhs; whnf
       · first | exact h1)
    | (apply s_guard_val rfl
       · conv => lhs; whnf
       · conv => lhs; whnf
       · conv => lhs; whnf; arg 2; whnf)
    | (apply s_guard_call rfl
       · conv => lhs; whnf
       · conv => lhs; whnf
       · conv => lhs; whnf
       · first | exact h1)
    | (apply aw_cond_t
       · conv => lhs; whnf; arg 1; arg 1; whnf)
    | (apply aw_cond_f
       · conv => lhs; whnf; arg 1; arg 1; whnf)
    | (refine aw_cond (by conv => lhs; whnf) ?_ ?_ <;> intro hb)
    | refine aw_ret ?_
    | refine aw_exit ?_
    | refine k_seq_exit ?_
    | refine k_seq_ret ?_
    | refine k_block_ret ?_
    | refine k_block_hit rfl ?_
    | refine k_block_miss rfl ?_
    | refine k_scope_exit ?_
    | refine k_scope_ret ?_
    | refine k_loop_exit ?_
    | refine k_loop_ret ?_
    | refine k_end ?_
    | refine k_end_ret ?_
    | (refine ⟨_, by conv => lhs; whnf; arg 2; whnf, ?_⟩; conv => rhs; whnf)
    | exact trivial
    | intro hg)
  all_goals first
    | rfl
    | skip
end Go.Proofs.YtdklhkdlndlgnaaGreatDoor
namespace Go.Proofs.YtdklhkdlndlgnaaGreatDoor
open Go.RowKit
set_option linter.unusedSectionVars false
/-- whether all that came ahead is right -/
def okL5 (k : Nat) (r : D) : Nat → Bool
  | 0 => right5 k (r.f 1)
  | i + 1 => bif okL5 k r i then right5 (k + 1) (lstV5 ((gD (r.f 2).l i).f 0).l) else false
attribute [local irreducible] wpList Calls Code.wp AW AWo OpOk seqK blockK scopeK loopK endK AC absLex Yld Sub
attribute [local irreducible] ACB ACX absLexG YldG absLexH
noncomputable def HL5 (r : D) (b : Bool) (i : Nat) : Vst 38 := stS 38 [(1, .bx 1 0), (3, .c (.bool b)), (4, .c (.int .i64 (i : Int)))] [(1, .box 31 (cellsV Tryz.prog 12 31 r))]
set_option maxHeartbeats 8000000 in
set_option maxRecDepth 100000 in
theorem law5_ac (k : Nat) (r : D) (h : RepK k r) : AC EN5 Tryz.prog 3 [.agg (cellsV Tryz.prog 12 31 r)] (.c (.bool true)) := by
  have hw := h.wt
  have h1 := right5_ac k (r.f 1) h.data.1 (by omega)
  have hP := lineP5_ac k r h
  have hR := lineR5_ac k r h
  have hA := awake5_ac
  have hln := h.len
  refine ac_enter 38 Tryz.func3 rfl rfl rfl rfl ?_
  intro s w he
  repeat' (first
    | refine aw_region ?_
    | refine awo_nil ?_
    | refine k_seq ?_
    | refine k_block ?_
    | refine k_scope ?_
    | (apply aw_1
       conv => whnf
       refine ⟨?_, trivial⟩)
    | (apply s_pick_t rfl rfl
       · conv => lhs; whnf
       · conv => lhs; whnf
       · first | exact bT1 (by assumption) | exact bT2 (by assumption))
    | (apply s_pick_f rfl rfl
       · conv => lhs; whnf
       · conv => lhs; whnf
       · first | exact bF1 (by assumption) | exact bF2 (by assumption))
    | (apply s_1
       conv => whnf; arg 1; arg 4; arg 3; whnf
       refine ⟨?_, ?_⟩)
    | (apply s_val rfl
       · conv => lhs; whnf
       · conv => lhs; whnf; arg 2; whnf)
    | (apply s_call rfl
       · conv => lhs; whnf
       · conv => lhs; whnf
       · first | exact h1)
    | (apply s_box rfl rfl rfl rfl
       · conv => lhs; whnf; arg 1; whnf
       · rfl)
    | (apply s_wanted_val rfl
       · conv => lhs; whnf
       · conv => lhs; whnf
       · first | rfl | assumption
       · conv => lhs; whnf; arg 2; whnf)
    | (apply s_wanted_call rfl
       · conv => lhs; whnf
       · conv => lhs; whnf
       · first | rfl | assumption
       · conv => lhs; whnf
       · first | exact h1)
    | (apply s_skip rfl
       · conv => lhs; whnf
       · conv => lhs; whnf
       · first | rfl | assumption)
    | (apply s_guard_val rfl
       · conv => lhs; whnf
       · conv => lhs; whnf
       · conv => lhs; whnf; arg 2; whnf)
    | (apply s_guard_call rfl
       · conv => lhs; whnf
       · conv => lhs; whnf
       · conv => lhs; whnf
       · first | exact h1)
    | (apply aw_draw (by kernel_rfl) (by kernel_rfl))
    | apply y_nil
    | (apply y_pick_t rfl rfl
       · conv => lhs; whnf
       · conv => lhs; whnf
       · first | exact bT1 (by assumption) | exact bT2 (by assumption))
    | (apply y_pick_f rfl rfl
       · conv => lhs; whnf
       · conv => lhs; whnf
       · first | exact bF1 (by assumption) | exact bF2 (by assumption))
    | (apply y_val rfl
       · conv => lhs; whnf
       · conv => lhs; whnf; arg 2; whnf)
    | (apply y_call rfl
       · conv => lhs; whnf
       · conv => lhs; whnf
       · first | exact h1)
    | (apply y_wanted_val rfl
       · conv => lhs; whnf
       · conv => lhs; whnf
       · first | rfl | assumption
       · conv => lhs; whnf; arg 2; whnf)
    | (apply y_wanted_call rfl
       · conv => lhs; whnf
       · conv => lhs; whnf
       · first | rfl | assumption
       · conv => lhs; whnf
       · first | exact h1)
    | (apply y_skip rfl
       · conv => lhs; whnf
       · conv => lhs; whnf
       · first | rfl | assumption)
    | (apply y_guard_val rfl
       · conv => lhs; whnf
       · conv => lhs; whnf
       · conv => lhs; whnf; arg 2; whnf)
    | (apply y_guard_call rfl
       · conv => lhs; whnf
       · conv => lhs; whnf
       · conv => lhs; whnf
       · first | exact h1)
    | exact apartB_none
    | exact apartB_nil
    | exact all_nil
    | (show List.all _ _ = true; rfl)
    | (show apartB _ _ = true; rfl)
    | exact ([] : List Nat)
    | exact (1000000 : Nat)
    | (apply aw_cond_t
       · conv => lhs; whnf; arg 1; arg 1; whnf)
    | (apply aw_cond_f
       · conv => lhs; whnf; arg 1; arg 1; whnf)
    | (refine aw_cond (by conv => lhs; whnf) ?_ ?_ <;> intro hb)
    | refine aw_ret ?_
    | refine aw_exit ?_
    | refine k_seq_exit ?_
    | refine k_seq_ret ?_
    | refine k_block_ret ?_
    | refine k_block_hit rfl ?_
    | refine k_block_miss rfl ?_
    | refine k_scope_exit ?_
    | refine k_scope_ret ?_
    | refine k_loop_exit ?_
    | refine k_loop_ret ?_
    | refine k_end ?_
    | refine k_end_ret ?_
    | (refine ⟨_, by conv => lhs; whnf; arg 2; whnf, ?_⟩; conv => rhs; whnf)
    | exact trivial
    | intro hg)
  refine aw_loop (fun j st => ∃ i, i + j = (r.f 2).l.length ∧ Sub (cx EN5 Tryz.prog s w he) st (HL5 r (okL5 k r i) i)) (r.f 2).l.length ⟨0, by omega, Sub.live ⟨rfl, rfl, rfl, trivial⟩ ⟨rfl, trivial⟩⟩ ?_
  rintro j st ⟨i, hij, hs2⟩
  by_cases hi : i < (r.f 2).l.length
  · have f0 : decide ((i : Int) < ((r.f 2).l.length : Nat)) = true := decide_eq_true (by omega)
    have hp := path_wt (h.path i hi) (h.prob hi)
    have h3 := listF_ac EN5 k ((gD (r.f 2).l i).f 0).l (by omega) fun q hq => cpV_of (h.path i hi q hq).1 (by have := hp.2.1 q hq; omega)
    have h4 := right5_ac (k + 1) (lstV5 ((gD (r.f 2).l i).f 0).l) (VK.lst (h.path i hi)).1 (by omega)
    have e1 : okL5 k r (i + 1) = bif okL5 k r i then right5 (k + 1) (lstV5 ((gD (r.f 2).l i).f 0).l) else false := rfl
    generalize okL5 k r i = b at hs2 e1
    refine aw_sub hs2 ?_
    clear hs2
    cases b
    all_goals
      repeat' (first
    | (apply s_wanted_pick_t rfl rfl rfl
       · conv => lhs; whnf
       · first | rfl | assumption
       · conv => lhs; whnf
       · first | exact bT1 (by assumption) | exact bT2 (by assumption) | rfl)
    | (apply s_wpick_t rfl rfl rfl
       · conv => lhs; whnf
       · first | rfl | assumption
       · conv => lhs; whnf
       · first | exact bT1 (by assumption) | exact bT2 (by assumption) | rfl)
    | (apply s_wanted_pick_f rfl rfl rfl
       · conv => lhs; whnf
       · first | rfl | assumption
       · conv => lhs; whnf
       · first | exact bF1 (by assumption) | exact bF2 (by assumption) | rfl)
    | (apply s_wpick_f rfl rfl rfl
       · conv => lhs; whnf
       · first | rfl | assumption
       · conv => lhs; whnf
       · first | exact bF1 (by assumption) | exact bF2 (by assumption) | rfl)
    | (apply aw_cond_kt
       · conv => lhs; whnf
       · assumption)
    | (apply aw_cond_kf
       · conv => lhs; whnf
       · assumption)
    | refine k_cut_ret ?_
    | refine k_cut_exit ?_
    | refine k_cut ?_
    | refine aw_region ?_
    | refine awo_nil ?_
    | refine k_seq ?_
    | refine k_block ?_
    | refine k_scope ?_
    | (apply aw_1
       conv => whnf
       refine ⟨?_, trivial⟩)
    | (apply s_pick_t rfl rfl
       · conv => lhs; whnf
       · conv => lhs; whnf
       · first | exact bT1 (by assumption) | exact bT2 (by assumption))
    | (apply s_pick_f rfl rfl
       · conv => lhs; whnf
       · conv => lhs; whnf
       · first | exact bF1 (by assumption) | exact bF2 (by assumption))
    | (apply s_1
       conv => whnf; arg 1; arg 4; arg 3; whnf
       refine ⟨?_, ?_⟩)
    | (apply s_val rfl
       · conv => lhs; whnf
       · conv => lhs; whnf; arg 2; whnf)
    | (apply s_call rfl
       · conv => lhs; whnf
       · conv => lhs; whnf
       · first | exact h3 | exact h4)
    | (apply s_box rfl rfl rfl rfl
       · conv => lhs; whnf; arg 1; whnf
       · rfl)
    | (apply s_wanted_val rfl
       · conv => lhs; whnf
       · conv => lhs; whnf
       · first | rfl | assumption
       · conv => lhs; whnf; arg 2; whnf)
    | (apply s_wanted_call rfl
       · conv => lhs; whnf
       · conv => lhs; whnf
       · first | rfl | assumption
       · conv => lhs; whnf
       · first | exact h3 | exact h4)
    | (apply s_skipU rfl
       · conv => lhs; whnf
       · conv => lhs; whnf
       · first | rfl | assumption)
    | (apply s_dead rfl
       · conv => lhs; whnf
       · rfl
       · rfl)
    | (apply s_guard_valU rfl
       · conv => lhs; whnf
       · conv => lhs; whnf
       · conv => lhs; whnf; arg 2; whnf)
    | (apply s_guard_callU rfl
       · conv => lhs; whnf
       · conv => lhs; whnf
       · conv => lhs; whnf
       · first | exact h3 | exact h4)
    | (apply s_guard_val rfl
       · conv => lhs; whnf
       · conv => lhs; whnf
       · conv => lhs; whnf; arg 2; whnf)
    | (apply s_guard_call rfl
       · conv => lhs; whnf
       · conv => lhs; whnf
       · conv => lhs; whnf
       · first | exact h3 | exact h4)
    | (apply aw_draw (by kernel_rfl) (by kernel_rfl))
    | apply y_nil
    | (apply y_pick_t rfl rfl
       · conv => lhs; whnf
       · conv => lhs; whnf
       · first | exact bT1 (by assumption) | exact bT2 (by assumption))
    | (apply y_pick_f rfl rfl
       · conv => lhs; whnf
       · conv => lhs; whnf
       · first | exact bF1 (by assumption) | exact bF2 (by assumption))
    | (apply y_val rfl
       · conv => lhs; whnf
       · conv => lhs; whnf; arg 2; whnf)
    | (apply y_call rfl
       · conv => lhs; whnf
       · conv => lhs; whnf
       · first | exact h3 | exact h4)
    | (apply y_wanted_val rfl
       · conv => lhs; whnf
       · conv => lhs; whnf
       · first | rfl | assumption
       · conv => lhs; whnf; arg 2; whnf)
    | (apply y_wanted_call rfl
       · conv => lhs; whnf
       · conv => lhs; whnf
       · first | rfl | assumption
       · conv => lhs; whnf
       · first | exact h3 | exact h4)
    | (apply y_skip rfl
       · conv => lhs; whnf
       · conv => lhs; whnf
       · first | rfl | assumption)
    | (apply y_guard_val rfl
       · conv => lhs; whnf
       · conv => lhs; whnf
       · conv => lhs; whnf; arg 2; whnf)
    | (apply y_guard_call rfl
       · conv => lhs; whnf
       · conv => lhs; whnf
       · conv => lhs; whnf
       · first | exact h3 | exact h4)
    | exact apartB_none
    | exact apartB_nil
    | exact all_nil
    | (show List.all _ _ = true; rfl)
    | (show apartB _ _ = true; rfl)
    | exact ([] : List Nat)
    | exact (1000000 : Nat)
    | (apply aw_cond_t
       · conv => lhs; whnf; arg 1; arg 1; whnf)
    | (apply aw_cond_f
       · conv => lhs; whnf; arg 1; arg 1; whnf)
    | (refine aw_cond (by conv => lhs; whnf) ?_ ?_ <;> intro hb)
    | refine aw_ret ?_
    | refine aw_exit ?_
    | refine k_seq_exit ?_
    | refine k_seq_ret ?_
    | refine k_block_ret ?_
    | refine k_block_hit rfl ?_
    | refine k_block_miss rfl ?_
    | refine k_scope_exit ?_
    | refine k_scope_ret ?_
    | refine k_loop_exit ?_
    | refine k_loop_ret ?_
    | refine k_end ?_
    | refine k_end_ret ?_
    | (refine ⟨_, by conv => lhs; whnf; arg 2; whnf, ?_⟩; conv => rhs; whnf)
    | exact trivial
    | intro hg)
      all_goals first
        | exact i64_in2 (by omega)
        | exact at31 hi
        | exact k_loop_next (j' := j - 1) (by omega) ⟨i + 1, by omega, Sub.live ⟨rfl, by rw [e1]; rfl, rfl, trivial⟩ ⟨rfl, trivial⟩⟩
        | skip
  · have f0 : decide ((i : Int) < ((r.f 2).l.length : Nat)) = false := decide_eq_false (by omega)
    have eq : ((bs (lineS5 k r)).toList == (bs (lineS5 k r)).toList) = true := by simp
    generalize okL5 k r i = b at hs2
    refine aw_sub hs2 ?_
    clear hs2
    cases b
    all_goals
      repeat' (first
    | (apply s_wanted_pick_t rfl rfl rfl
       · conv => lhs; whnf
       · first | rfl | assumption
       · conv => lhs; whnf
       · first | exact bT1 (by assumption) | exact bT2 (by assumption) | rfl)
    | (apply s_wpick_t rfl rfl rfl
       · conv => lhs; whnf
       · first | rfl | assumption
       · conv => lhs; whnf
       · first | exact bT1 (by assumption) | exact bT2 (by assumption) | rfl)
    | (apply s_wanted_pick_f rfl rfl rfl
       · conv => lhs; whnf
       · first | rfl | assumption
       · conv => lhs; whnf
       · first | exact bF1 (by assumption) | exact bF2 (by assumption) | rfl)
    | (apply s_wpick_f rfl rfl rfl
       · conv => lhs; whnf
       · first | rfl | assumption
       · conv => lhs; whnf
       · first | exact bF1 (by assumption) | exact bF2 (by assumption) | rfl)
    | (apply aw_cond_kt
       · conv => lhs; whnf
       · assumption)
    | (apply aw_cond_kf
       · conv => lhs; whnf
       · assumption)
    | refine k_cut_ret ?_
    | refine k_cut_exit ?_
    | refine k_cut ?_
    | refine aw_region ?_
    | refine awo_nil ?_
    | refine k_seq ?_
    | refine k_block ?_
    | refine k_scope ?_
    | (apply aw_1
       conv => whnf
       refine ⟨?_, trivial⟩)
    | (apply s_pick_t rfl rfl
       · conv => lhs; whnf
       · conv => lhs; whnf
       · first | exact bT1 (by assumption) | exact bT2 (by assumption))
    | (apply s_pick_f rfl rfl
       · conv => lhs; whnf
       · conv => lhs; whnf
       · first | exact bF1 (by assumption) | exact bF2 (by assumption))
    | (apply s_1
       conv => whnf; arg 1; arg 4; arg 3; whnf
       refine ⟨?_, ?_⟩)
    | (apply s_val rfl
       · conv => lhs; whnf
       · conv => lhs; whnf; arg 2; whnf)
    | (apply s_call rfl
       · conv => lhs; whnf
       · conv => lhs; whnf
       · first | exact hP | exact hR | exact hA)
    | (apply s_box rfl rfl rfl rfl
       · conv => lhs; whnf; arg 1; whnf
       · rfl)
    | (apply s_wanted_val rfl
       · conv => lhs; whnf
       · conv => lhs; whnf
       · first | rfl | assumption
       · conv => lhs; whnf; arg 2; whnf)
    | (apply s_wanted_call rfl
       · conv => lhs; whnf
       · conv => lhs; whnf
       · first | rfl | assumption
       · conv => lhs; whnf
       · first | exact hP | exact hR | exact hA)
    | (apply s_skipU rfl
       · conv => lhs; whnf
       · conv => lhs; whnf
       · first | rfl | assumption)
    | (apply s_dead rfl
       · conv => lhs; whnf
       · rfl
       · rfl)
    | (apply s_guard_valU rfl
       · conv => lhs; whnf
       · conv => lhs; whnf
       · conv => lhs; whnf; arg 2; whnf)
    | (apply s_guard_callU rfl
       · conv => lhs; whnf
       · conv => lhs; whnf
       · conv => lhs; whnf
       · first | exact hP | exact hR | exact hA)
    | (apply s_guard_val rfl
       · conv => lhs; whnf
       · conv => lhs; whnf
       · conv => lhs; whnf; arg 2; whnf)
    | (apply s_guard_call rfl
       · conv => lhs; whnf
       · conv => lhs; whnf
       · conv => lhs; whnf
       · first | exact hP | exact hR | exact hA)
    | (apply aw_draw (by kernel_rfl) (by kernel_rfl))
    | apply y_nil
    | (apply y_pick_t rfl rfl
       · conv => lhs; whnf
       · conv => lhs; whnf
       · first | exact bT1 (by assumption) | exact bT2 (by assumption))
    | (apply y_pick_f rfl rfl
       · conv => lhs; whnf
       · conv => lhs; whnf
       · first | exact bF1 (by assumption) | exact bF2 (by assumption))
    | (apply y_val rfl
       · conv => lhs; whnf
       · conv => lhs; whnf; arg 2; whnf)
    | (apply y_call rfl
       · conv => lhs; whnf
       · conv => lhs; whnf
       · first | exact hP | exact hR | exact hA)
    | (apply y_wanted_val rfl
       · conv => lhs; whnf
       · conv => lhs; whnf
       · first | rfl | assumption
       · conv => lhs; whnf; arg 2; whnf)
    | (apply y_wanted_call rfl
       · conv => lhs; whnf
       · conv => lhs; whnf
       · first | rfl | assumption
       · conv => lhs; whnf
       · first | exact hP | exact hR | exact hA)
    | (apply y_skip rfl
       · conv => lhs; whnf
       · conv => lhs; whnf
       · first | rfl | assumption)
    | (apply y_guard_val rfl
       · conv => lhs; whnf
       · conv => lhs; whnf
       · conv => lhs; whnf; arg 2; whnf)
    | (apply y_guard_call rfl
       · conv => lhs; whnf
       · conv => lhs; whnf
       · conv => lhs; whnf
       · first | exact hP | exact hR | exact hA)
    | exact apartB_none
    | exact apartB_nil
    | exact all_nil
    | (show List.all _ _ = true; rfl)
    | (show apartB _ _ = true; rfl)
    | exact ([] : List Nat)
    | exact (1000000 : Nat)
    | (apply aw_cond_t
       · conv => lhs; whnf; arg 1; arg 1; whnf)
    | (apply aw_cond_f
       · conv => lhs; whnf; arg 1; arg 1; whnf)
    | (refine aw_cond (by conv => lhs; whnf) ?_ ?_ <;> intro hb)
    | refine aw_ret ?_
    | refine aw_exit ?_
    | refine k_seq_exit ?_
    | refine k_seq_ret ?_
    | refine k_block_ret ?_
    | refine k_block_hit rfl ?_
    | refine k_block_miss rfl ?_
    | refine k_scope_exit ?_
    | refine k_scope_ret ?_
    | refine k_loop_exit ?_
    | refine k_loop_ret ?_
    | refine k_end ?_
    | refine k_end_ret ?_
    | (refine ⟨_, by conv => lhs; whnf; arg 2; whnf, ?_⟩; conv => rhs; whnf)
    | exact trivial
    | intro hg)
      all_goals first
        | rfl
        | (rw [eq]; rfl)
        | (exfalso; revert hg; rw [eq]; decide)
        | skip
end Go.Proofs.YtdklhkdlndlgnaaGreatDoor
