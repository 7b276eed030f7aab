/- Parts of a proof, merged by a program (shake.py). -/
import Derived.Lib.IndexLaws
import Derived.Test.YtjhjleanihgopaaDoorQ29
set_option linter.unusedVariables false
set_option linter.unusedSimpArgs false
namespace Go.Proofs.YtjhjleanihgopaaDoor
open Go.RowKit
attribute [local irreducible] wpList Calls Code.wp AW AWo OpOk seqK blockK scopeK loopK endK endKB AC ACB absLex absLexG Yld YldG
set_option maxRecDepth 100000 in
theorem rel_one {P : Program} {s : Sg} {w : World} {v : V} {us : Array Value} (h : relL P s w [v] us.toList) : ∃ u, us = #[u] ∧ rel P s w v u := by
  cases hl : us.toList with
  | nil => rw [hl] at h; simp [relL] at h
  | cons x xs =>
    rw [hl, relL] at h
    cases xs with
    | nil => exact ⟨x, by apply Array.ext'; simpa using hl, h.1⟩
    | cons y ys => simp [relL] at h
set_option maxRecDepth 100000 in
theorem rel_two {P : Program} {s : Sg} {w : World} {v v2 : V} {us : Array Value} (h : relL P s w [v, v2] us.toList) : ∃ u u2, us = #[u, u2] ∧ rel P s w v u ∧ rel P s w v2 u2 := by
  cases hl : us.toList with
  | nil => rw [hl] at h; simp [relL] at h
  | cons x xs =>
    rw [hl, relL] at h
    cases xs with
    | nil => simp [relL] at h
    | cons y ys =>
      rw [relL] at h
      cases ys with
      | nil => exact ⟨x, y, by apply Array.ext'; simpa using hl, h.1, h.2.1⟩
      | cons z zs => simp [relL] at h
set_option maxRecDepth 100000 in
theorem rel_str {P : Program} {s : Sg} {w : World} {b : ByteArray} (h : b.size ≤ maxLen) : rel P s w (.c (.string b)) (.string b) := by rw [rel]; exact ⟨rfl, h⟩
set_option maxRecDepth 100000 in
theorem str_arg {s : Sg} {w : World} {b : ByteArray} {us : Array Value} (h : relL Tryd.prog s w [.c (.string b)] us.toList) : us = #[.string b] ∧ b.size ≤ maxLen := by
  obtain ⟨u, rfl, hu⟩ := rel_one h
  rw [rel] at hu
  exact ⟨by rw [hu.1], hu.2⟩
set_option maxRecDepth 100000 in
theorem int_arg1 {s : Sg} {w : World} {n : Int} {us : Array Value} (h : relL Tryd.prog s w [.c (.int .i64 n)] us.toList) : us = #[.int .i64 n] ∧ R64 n := by
  obtain ⟨u, rfl, hu⟩ := rel_one h
  rw [rel] at hu
  obtain ⟨rfl, h2⟩ := hu
  refine ⟨rfl, ?_⟩
  have h3 : (Lit.int .i64 n).wf = true := h2
  rw [wf_int] at h3
  exact h3
/-- where a byte stands, or less than nothing -/
def ixU (l : List UInt8) (n : Int) : Int := Lib.indexByte l n.toNat.toUInt8
set_option maxRecDepth 100000 in
theorem ix_range (l : List UInt8) (c : UInt8) : -1 ≤ Lib.indexByte l c ∧ Lib.indexByte l c < l.length := by
  refine ⟨Lib.indexByte_ge l c, ?_⟩
  induction l with
  | nil => show (-1 : Int) < 0; decide
  | cons b l ih =>
    unfold Lib.indexByte
    simp only [List.length_cons]
    split
    · omega
    · split
      · omega
      · omega
set_option maxRecDepth 100000 in
theorem ix_neg (l : List UInt8) (c : UInt8) : Lib.indexByte l c < 0 ↔ l.contains c = false := by
  constructor
  · intro h
    have h1 := Lib.indexByte_ge l c
    have h2 := Lib.indexByte_none (show Lib.indexByte l c = -1 by omega)
    cases hc : l.contains c with
    | false => rfl
    | true =>
      obtain ⟨k, hk⟩ := List.getElem?_of_mem (by simpa using hc : c ∈ l)
      exact (h2 k hk).elim
  · intro h
    rcases Int.lt_or_le (Lib.indexByte l c) 0 with h1 | h1
    · exact h1
    · obtain ⟨o, ho⟩ := Int.eq_ofNat_of_zero_le h1
      have := (Lib.indexByte_some ho).1
      have hm : c ∈ l := List.mem_of_getElem? this
      have : l.contains c = true := by simpa using hm
      rw [this] at h; cases h
set_option maxRecDepth 100000 in
theorem indexByte_ac (s : ByteArray) (n : Int) (hs : s.size ≤ 1000000000) : AC EN5 Tryd.prog 62 [.c (.string s), .c (.int .u8 n)] (.c (.int .i64 (ixU s.data.toList n))) := by
  refine ac_of5 (u := .int .i64 (ixU s.data.toList n)) fun σ w us hus he => ?_
  obtain ⟨u, u2, rfl, h1, h2⟩ := rel_two hus
  rw [rel] at h1 h2
  obtain ⟨rfl, -⟩ := h1
  obtain ⟨rfl, -⟩ := h2
  have hr := ix_range s.data.toList n.toNat.toUInt8
  have hl : s.data.toList.length = s.size := rfl
  refine ⟨fun s' w' => rel_i64 (by unfold R64 ixU; omega), (Tryd.strings_IndexByte s n w).mono ?_⟩
  rintro e w' ⟨rfl, rfl⟩
  exact ⟨rfl, Below.refl _ _⟩
set_option maxRecDepth 100000 in
theorem quoteP_ac (s : ByteArray) (hs : s.size ≤ 1048576) : AC EN5 Tryd.prog 58 [.c (.string s)] (.c (.string (bs (quoteU s.data.toList)))) := by
  refine ac_of5 (u := .string (bs (quoteU s.data.toList))) fun σ w us hus he => ?_
  obtain ⟨rfl, -⟩ := str_arg hus
  exact ⟨fun s' w' => rel_str (by have := quote_size s; unfold maxLen; omega), quoteP s w hs⟩
set_option maxRecDepth 100000 in
theorem decimalP_ac (n : Int) : AC EN5 Tryd.prog 50 [.c (.int .i64 n)] (.c (.string (bs (Lib.itoa n)))) := by
  refine ac_of5 (u := .string (bs (Lib.itoa n))) fun σ w us hus he => ?_
  obtain ⟨rfl, h0, h1⟩ := int_arg1 hus
  exact ⟨fun s' w' => rel_str (by have := itoa_size n h0 h1; unfold maxLen; omega), decimalP n h0 h1 w he⟩
set_option maxRecDepth 100000 in
theorem numU_range {l : List UInt8} : R64 (numE (numU l)).1 := by
  cases h : numU l with
  | ok n => exact (itoa_num h).2
  | range => exact R64.zero
  | _ => exact R64.zero
set_option maxRecDepth 100000 in
theorem numE_range {r : Lib.NumEnd Int} : R64 (numE r).2 := by
  rcases numE_ne r with h | h | h <;> rw [h] <;> unfold R64 <;> omega
set_option maxRecDepth 100000 in
theorem numT_E (r : Lib.NumEnd Int) : numT r = .tuple #[.int .i64 (numE r).1, .int .i64 (numE r).2] := by
  cases r <;> rfl
set_option maxRecDepth 100000 in
theorem rel_tup2 {P : Program} {s : Sg} {w : World} {v v2 : V} {u u2 : Value} (h : rel P s w v u) (h2 : rel P s w v2 u2) : rel P s w (.tup [v, v2]) (.tuple #[u, u2]) := by
  rw [rel]; exact ⟨_, rfl, by simp only [relL]; exact ⟨h, h2, trivial⟩⟩
def numVV (l : List UInt8) : V := .tup [.c (.int .i64 (numE (numU l)).1), .c (.int .i64 (numE (numU l)).2)]
set_option maxRecDepth 100000 in
theorem numberP_ac (s : ByteArray) (hs : s.size ≤ 281474976710656) : AC EN5 Tryd.prog 49 [.c (.string s)] (numVV s.data.toList) := by
  refine ac_of5 (u := numT (numU s.data.toList)) fun σ w us hus he => ?_
  obtain ⟨rfl, -⟩ := str_arg hus
  exact ⟨fun s' w' => by rw [numT_E]; exact rel_tup2 (rel_i64 numU_range) (rel_i64 numE_range), numberP s w he hs⟩
def uqE : Option (List UInt8) → Int
  | some _ => 0
  | none => 3
def uqVV (l : List UInt8) : V := .tup [.c (.string (bs ((unquoteU l).getD []))), .c (.int .i64 (uqE (unquoteU l)))]
set_option maxRecDepth 100000 in
theorem uqV_E (r : Option (List UInt8)) : uqV r = .tuple #[.string (bs (r.getD [])), .int .i64 (uqE r)] := by
  cases r <;> rfl
set_option maxRecDepth 100000 in
theorem unq_len (l : List UInt8) : ((unquoteU l).getD []).length ≤ l.length := by
  have key : ∀ (k : Nat) (l : List UInt8), ((unqF k l).getD []).length ≤ l.length := by
    intro k
    induction k with
    | zero => intro l; cases l <;> simp [unqF]
    | succ k ih =>
      intro l
      cases l with
      | nil => simp [unqF]
      | cons c r =>
        show ((stpU (unqF k) c r).getD []).length ≤ _
        have hm : ∀ (q : List UInt8) (x : UInt8), q.length ≤ r.length → (((unqF k q).map (x :: ·)).getD []).length ≤ (c :: r).length := fun q x hq => by
          have := ih q
          cases hx : unqF k q with
          | none => simp
          | some u => rw [hx] at this; simp at this ⊢; omega
        unfold stpU
        by_cases h1 : c.toNat < 32 ∨ 126 < c.toNat ∨ c = 34
        · rw [if_pos h1]; simp
        rw [if_neg h1]
        by_cases h2 : c ≠ 92
        · rw [if_pos h2]; exact hm r c (Nat.le_refl _)
        rw [if_neg h2]
        cases r with
        | nil => simp
        | cons d q =>
          dsimp only
          cases simU d with
          | some x => exact hm q x (by simp)
          | none =>
            dsimp only
            by_cases h3 : d ≠ 117 ∨ q.length < 4
            · rw [if_pos h3]; simp
            rw [if_neg h3]
            cases codeFrom 0 (q.take 4) with
            | none => simp
            | some n =>
              dsimp only
              by_cases h4 : n ≤ 255
              · rw [if_pos h4]; exact hm (q.drop 4) _ (by simp; omega)
              · rw [if_neg h4]; simp
  unfold unquoteU
  split
  · have := key ((l.drop 1).take (l.length - 2)).length ((l.drop 1).take (l.length - 2))
    have h2 : ((l.drop 1).take (l.length - 2)).length ≤ l.length := by rw [List.length_take, List.length_drop]; omega
    exact Nat.le_trans this h2
  · simp
set_option maxRecDepth 100000 in
theorem unq_ok {s : ByteArray} (hs : s.size ≤ 100000) {σ : Sg} {w : World} : rel Tryd.prog σ w (uqVV s.data.toList) (uqV (unquoteU s.data.toList)) := by
  rw [uqV_E]
  refine rel_tup2 (rel_str ?_) (rel_i64 ?_)
  · have := unq_len s.data.toList
    have hl : s.data.toList.length = s.size := rfl
    rw [bs_size]; unfold maxLen; omega
  · unfold R64
    cases unquoteU s.data.toList
    · show -9223372036854775808 ≤ (3 : Int) ∧ (3 : Int) ≤ _; decide
    · show -9223372036854775808 ≤ (0 : Int) ∧ (0 : Int) ≤ _; decide
set_option maxRecDepth 100000 in
theorem unquoteP_ac (s : ByteArray) (hs : s.size ≤ 100000) : AC EN5 Tryd.prog 93 [.c (.string s)] (uqVV s.data.toList) := by
  refine ac_of5 (u := uqV (unquoteU s.data.toList)) fun σ w us hus he => ?_
  obtain ⟨rfl, -⟩ := str_arg hus
  exact ⟨fun s' w' => unq_ok hs, unquoteP s w hs⟩
section
variable {X : Cx} {nn : Nat} {st : Vst nn} {o : Oper} {ops : Array Oper} {l : List Oper} {d : Option Tmp} {KK : Vst nn → Prop} {Q : Vst nn → Prop} {rd wr : Nat → List Nat} {k : Nat}
set_option maxRecDepth 100000 in
theorem s_meth {tR : TypeId} {f : FuncId} {m : Nat} {vs az : List V} {x x' : JS} {r : V} {cs : List V} (cl : JS → List V) (hren : ∀ φ x, renL φ (cl x) = cl x) (hg : o.guard = none) (hd : o.dst = d) (h : act1 X.P st.rs (ev st) o.op = .call f vs) (hv : vs = .bx m 0 :: az)
    (hr : st.rs m = some (.box tR cs)) (hx : cs = cl x) (hc : ACB X.e X.P f (.bx (pn 0) 0 :: az) [.box tR (cl x)] r [.box tR (cl x')]) (has : ∀ φ, renL φ az = az) (hrr : ∀ φ, renV φ r = r)
    (hK : AWo X ops l ((st.res m (.box tR (cl x'))).put d r) KK) : AWo X ops (o :: l) st KK := by
  subst hv
  subst hx
  refine s_callB [m] hg hd h hc (by simp) (by simp only [renL, renV, φin_one, has]) (by simp [hr, renR, hren]) ?_
  have e : ([Res.box tR (cl x')].map (renR (φout [m]))) = [Res.box tR (cl x')] := by simp [renR, hren]
  rw [e, resN_one, hrr]
  exact hK
set_option maxRecDepth 100000 in
theorem g_meth {tR : TypeId} {f : FuncId} {m : Nat} {vs az : List V} {x x' : JS} {r : V} {cs : List V} (cl : JS → List V) (hren : ∀ φ x, renL φ (cl x) = cl x) (hg : o.guard = none) (hd : o.dst = d) (h : act1 X.P st.rs (ev st) o.op = .call f vs) (hv : vs = .bx m 0 :: az)
    (hr : st.rs m = some (.box tR cs)) (hx : cs = cl x) (hc : ACB X.e X.P f (.bx (pn 0) 0 :: az) [.box tR (cl x)] r [.box tR (cl x')]) (has : ∀ φ, renL φ az = az) (hrr : ∀ φ, renV φ r = r) (hl : [m].all (fun n => (wr k).contains n) = true)
    (hK : absLexG X ops rd wr Q (k + 1) l ((st.res m (.box tR (cl x'))).put d r)) : absLexG X ops rd wr Q k (o :: l) st := by
  subst hv
  subst hx
  refine g_callB [m] hg hd h hc (by simp) (by simp only [renL, renV, φin_one, has]) (by simp [hr, renR, hren]) rfl hl ?_
  have e : ([Res.box tR (cl x')].map (renR (φout [m]))) = [Res.box tR (cl x')] := by simp [renR, hren]
  rw [e, resN_one, hrr]
  exact hK
set_option maxRecDepth 100000 in
theorem aw_drawGn (n : Nat) (r w : List (Nat × List Nat)) {id : Nat} {l : List Oper} {K : Exit → Vst nn → Prop} (hn : l.length = n) (hm : X.P.follows .mixedOrders = true) (hB : Region.lexB .any l.toArray = true) (hN : namesB l.toArray (nmf r) (nmf w) = true) (h : absLexG X l.toArray (nmf r) (nmf w) (K .normal) 0 l st) : AW X (.region id l.toArray true) st K :=
  aw_drawG r w hm hB hN h
set_option maxRecDepth 100000 in
/-- a nil slice in a box becomes one under way, named q -/
theorem Sub.ownF {m q i : Nat} {t e : TypeId} {vs : List V} (hq : Nat.ble q 999999 = true) (hmq : m ≠ q) (hr : st.rs m = some (.box t vs)) (hv : vs[i]? = some (.c (.slice none 0 0))) (hf : freeL q vs = true) :
    Sub X st (((st.kill q).res q (.tok e 0)).res m (.box t (vs.set i (.own q e [])))) := fun s w a hI => by
  have hI' := hI.kill q
  let s' : Sg := { s with tb := fun p => if p = q then none else s.tb p, tk := fun p => if p = q then (.slice none 0 0, 0) else s.tk p }
  have hx : Ext (fun p => p = q) s w s' w := ⟨Keeps.refl, fun _ _ => rfl, fun p hp => .inl (by show (if p = q then _ else s.tk p) = _; rw [if_neg hp])⟩
  have hbk : ∀ p ρ, p ≠ q → s'.bk p ρ = s.bk p ρ := fun p ρ hp => by
    funext x; cases ρ <;> simp [Sg.bk, s', hp]
  have hkm : (st.kill q).rs m = some (.box t vs) := by
    simp only [Vst.kill]
    rw [if_neg hmq, hr]
    simp [Res.free, hf]
  have hget : ∀ p ρ, (((st.kill q).res q (.tok e 0)).res m (.box t (vs.set i (.own q e [])))).rs p = some ρ → (p = m ∧ ρ = .box t (vs.set i (.own q e []))) ∨ (p = q ∧ ρ = .tok e 0) ∨ (p ≠ m ∧ p ≠ q ∧ (st.kill q).rs p = some ρ) := fun p ρ hp => by
    simp only [Vst.res, updR] at hp
    split at hp
    · rename_i h1; cases hp; exact .inl ⟨h1, rfl⟩
    · rename_i h1
      split at hp
      · rename_i h2; cases hp; exact .inr (.inl ⟨h2, rfl⟩)
      · rename_i h2; exact .inr (.inr ⟨h1, h2, hp⟩)
  have hbm : ∀ b, s'.bk m (.box t (vs.set i (.own q e []))) b → s.bk m (.box t vs) b := fun b h => h
  refine ⟨s', hI.sz, fun j hj => ?_, hI.df, hI.fr, hI.kp, hI.nf, ?_, hI.pe.ext hx fun p hp => by subst hp; exact Nat.le_of_ble_eq_true hq⟩
  · exact rel.ext hx _ _ (killV_rel (hI.tm j hj)).1 fun n hn => by subst hn; exact (killV_rel (hI.tm j hj)).2
  · refine ⟨hI.mem.fx, fun p ρ hp => ?_, fun p ρ b hp hb => ?_, fun p r ρ ρ' b hp hr' hpb hrb => ?_⟩
    · rcases hget p ρ hp with ⟨rfl, rfl⟩ | ⟨rfl, rfl⟩ | ⟨h1, h2, h3⟩
      · obtain ⟨b, cs, q1, q2, q3, q4⟩ := (hI'.mem.ho p _ hkm).keep hx hmq (by simp [s', hmq]) (by simp [s', hmq]) (fun n hn => by subst hn; exact hf) (fun _ _ => rfl) (fun _ _ _ h => h)
        refine ⟨b, cs, q1, q2, ?_, q4⟩
        have hlt : i < vs.length := (List.getElem?_eq_some_iff.1 hv).1
        have hlt2 : i < cs.toList.length := by rw [← q3.length]; exact hlt
        have hu := q3.get i _ _ hv (List.getElem?_eq_getElem hlt2)
        rw [rel] at hu
        have hset : cs.toList.set i (.slice none 0 0) = cs.toList := by
          rw [← hu.1]; exact List.set_getElem_self hlt2
        have h5 := q3.set i (v := .own q e []) (u := .slice none 0 0) (by
          rw [rel]
          refine ⟨⟨0, none, 0, rfl, Nat.le_refl _, by decide, fun _ => rfl, fun h => by simp at h⟩, ?_, ?_⟩
          · simp [s']
          · intro _; simp [s'])
        rw [hset] at h5
        exact h5
      · exact ⟨by simp [s'], .inl ⟨by simp [s'], by simp [s'], rfl⟩⟩
      · exact (hI'.mem.ho p ρ h3).keep hx h2 (by simp [s', h2]) (by simp [s', h2]) (fun n hn => by subst hn; exact kill_free st n p h3) (fun _ _ => rfl) (fun _ _ _ h => h)
    · rcases hget p ρ hp with ⟨rfl, rfl⟩ | ⟨rfl, rfl⟩ | ⟨h1, h2, h3⟩
      · exact hI'.mem.bs p _ b hkm hb
      · simp [Sg.bk, s'] at hb
      · rw [hbk p ρ h2] at hb; exact hI'.mem.bs p ρ b h3 hb
    · rcases hget p ρ hp with ⟨rfl, rfl⟩ | ⟨rfl, rfl⟩ | ⟨h1, h2, h3⟩ <;> rcases hget r ρ' hr' with ⟨rfl, rfl⟩ | ⟨rfl, rfl⟩ | ⟨g1, g2, g3⟩
      · rfl
      · simp [Sg.bk, s'] at hrb
      · rw [hbk r ρ' g2] at hrb; exact hI'.mem.dj p r _ _ b hkm g3 hpb hrb
      · simp [Sg.bk, s'] at hpb
      · rfl
      · simp [Sg.bk, s'] at hpb
      · rw [hbk p ρ h2] at hpb; exact hI'.mem.dj p r _ _ b h3 hkm hpb hrb
      · simp [Sg.bk, s'] at hrb
      · rw [hbk p ρ h2] at hpb; rw [hbk r ρ' g2] at hrb; exact hI'.mem.dj p r _ _ b h3 g3 hpb hrb
end
end Go.Proofs.YtjhjleanihgopaaDoor
namespace Go.Proofs.YtjhjleanihgopaaDoor
open Go.RowKit
attribute [local irreducible] wpList Calls Code.wp AW AWo OpOk seqK blockK scopeK loopK endK endKB AC ACB absLex absLexG Yld YldG Sub
/-- the reader's cells -/
def cellsP (s : ByteArray) (x : JS) : List V := [.c (.string s), .c (.int .i64 (x.p : Int)), .c (.int .i64 (x.m : Int)), .c (.int .i64 x.bad), .c (.int .i64 x.e)]
def boxP (s : ByteArray) (x : JS) : Res := .box 84 (cellsP s x)
set_option maxRecDepth 100000 in
theorem eta0 (s : ByteArray) (x : JS) : cellsP s x = cellsP s x := rfl
set_option maxRecDepth 100000 in
theorem eta1 (s : ByteArray) (x : JS) : [V.c (.string s), .c (.int .i64 (x.p : Int)), .c (.int .i64 (x.m : Int)), .c (.int .i64 x.bad), .c (.int .i64 x.e)] = cellsP s x := rfl
set_option maxRecDepth 100000 in
theorem eta2 (s : ByteArray) (x : JS) : [V.c (.string s), .c (.int .i64 ((x.p : Int) + 1)), .c (.int .i64 (x.m : Int)), .c (.int .i64 x.bad), .c (.int .i64 x.e)] = cellsP s (goS x) := rfl
set_option maxRecDepth 100000 in
theorem eta3 (s : ByteArray) (x : JS) : [V.c (.string s), .c (.int .i64 (x.p : Int)), .c (.int .i64 ((x.m : Int) + 1)), .c (.int .i64 x.bad), .c (.int .i64 x.e)] = cellsP s ⟨x.p, x.m + 1, x.bad, x.e⟩ := rfl
set_option maxRecDepth 100000 in
theorem failP_acb (s : ByteArray) (x : JS) (q : Nat) (c : Int) : ACB EN5 Tryd.prog 40 [.bx (pn 0) 0, .c (.int .i64 (q : Int)), .c (.int .i64 c)] [boxP s x] (.tup []) [boxP s (failS x q c)] := by
  refine acb_enter (fn := Tryd.f40) 19 Tryd.func40 rfl rfl ?_
  intro pas w0 w he hp
  repeat' (first
    | refine aw_seq ?_
    | refine aw_region ?_
    | refine awo_nil ?_
    | refine k_seq ?_
    | refine k_block ?_
    | refine k_scope ?_
    | refine aw_block ?_
    | refine aw_skip ?_
    | refine aw_label ?_
    | refine aw_scope ?_
    | (apply s_val rfl
       · conv => lhs; whnf
       · conv => lhs; whnf; arg 2; whnf)
    | (apply s_store rfl rfl rfl
       · conv => lhs; whnf
       · conv => lhs; whnf; arg 1; whnf
       · conv => lhs; whnf; arg 1; whnf
       · exact ⟨by kernel_rfl, by kernel_rfl⟩
       · rfl)
    | (apply aw_cond_t
       · conv => lhs; whnf; arg 1; arg 1; whnf)
    | (apply aw_cond_f
       · conv => lhs; whnf; arg 1; arg 1; whnf)
    | (refine aw_cond (by conv => lhs; whnf) ?_ ?_ <;> intro hb)
    | refine aw_ret ?_
    | refine aw_exit ?_
    | refine k_seq_exit ?_
    | refine k_seq_ret ?_
    | refine k_block_ret ?_
    | refine k_block_hit rfl ?_
    | refine k_block_miss rfl ?_
    | refine k_scope_exit ?_
    | refine k_scope_ret ?_
    | refine k_loop_exit ?_
    | refine k_loop_ret ?_
    | refine k_endB ⟨?_, ?_⟩
    | refine k_endB_ret ⟨?_, ?_⟩
    | exact (rfl : _ = V.tup [])
    | (refine ⟨_, by conv => lhs; whnf; arg 2; whnf, ?_⟩; conv => rhs; whnf)
    | exact trivial
    | intro hg)
  · have h : x.e = 0 := by have h : (x.e == 0) = true := by assumption
                           simpa using h
    refine ⟨?_, trivial⟩
    unfold failS; rw [if_pos h]; rfl
  · have h : ¬ x.e = 0 := by have h : (x.e == 0) = false := by assumption
                             simpa using h
    refine ⟨?_, trivial⟩
    unfold failS; rw [if_neg h]; rfl
set_option maxRecDepth 100000 in
theorem peekP_acb (s : ByteArray) (x : JS) (hs : s.size ≤ 1000000000) : ACB EN5 Tryd.prog 63 [.bx (pn 0) 0] [boxP s x] (.c (.int .u8 ((atS s.data.toList x).toNat : Int))) [boxP s x] := by
  refine acb_enter (fn := Tryd.f63) 22 Tryd.func63 rfl rfl ?_
  intro pas w0 w he hp
  repeat' (first
    | refine aw_seq ?_
    | refine aw_region ?_
    | refine awo_nil ?_
    | refine k_seq ?_
    | refine k_block ?_
    | refine k_scope ?_
    | refine aw_block ?_
    | refine aw_skip ?_
    | refine aw_label ?_
    | refine aw_scope ?_
    | (apply s_val rfl
       · conv => lhs; whnf
       · conv => lhs; whnf; arg 2; whnf)
    | (apply aw_draw (by kernel_rfl) (by kernel_rfl))
    | apply y_nil
    | (apply y_val rfl
       · conv => lhs; whnf
       · conv => lhs; whnf; arg 2; whnf)
    | exact apartB_none
    | exact apartB_nil
    | exact all_nil
    | (show List.all _ _ = true; rfl)
    | (show apartB _ _ = true; rfl)
    | exact ([] : List Nat)
    | exact (1000000 : Nat)
    | (apply aw_cond_t
       · conv => lhs; whnf; arg 1; arg 1; whnf)
    | (apply aw_cond_f
       · conv => lhs; whnf; arg 1; arg 1; whnf)
    | (refine aw_cond (by conv => lhs; whnf) ?_ ?_ <;> intro hb)
    | refine aw_ret ?_
    | refine aw_exit ?_
    | refine k_seq_exit ?_
    | refine k_seq_ret ?_
    | refine k_block_ret ?_
    | refine k_block_hit rfl ?_
    | refine k_block_miss rfl ?_
    | refine k_scope_exit ?_
    | refine k_scope_ret ?_
    | refine k_loop_exit ?_
    | refine k_loop_ret ?_
    | refine k_endB ⟨?_, ?_⟩
    | refine k_endB_ret ⟨?_, ?_⟩
    | exact (rfl : _ = V.tup [])
    | (refine ⟨_, by conv => lhs; whnf; arg 2; whnf, ?_⟩; conv => rhs; whnf)
    | exact trivial
    | intro hg)
  · rfl
  · exact ⟨rfl, trivial⟩
  · refine ⟨by kernel_rfl, by omega, ?_⟩
    have h : decide ((x.p : Int) < (s.size : Int)) = true := by assumption
    simpa using h
  · have h : decide ((x.p : Int) < (s.size : Int)) = false := by assumption
    have h2 : s.size ≤ x.p := by simpa using h
    have e : atS s.data.toList x = 0 := by
      unfold atS
      rw [List.getD_eq_getElem?_getD, List.getElem?_eq_none (by show s.size ≤ _; exact h2)]; rfl
    rw [e]; rfl
  · exact ⟨rfl, trivial⟩
  · show Tryd.prog.underlying 9 = _
    kernel_rfl
noncomputable def HsP (s : ByteArray) (x : JS) (p : Nat) : Vst 32 :=
  stS 32 [(0, .bx (pn 0) 0)] [(pn 0, boxP s ⟨p, x.m, x.bad, x.e⟩)]
set_option maxRecDepth 100000 in
theorem sp_ix (c : UInt8) : (0 ≤ Lib.indexByte [32, 9, 10, 13] c) ↔ isSp c = true := by
  have h1 := ix_neg [32, 9, 10, 13] c
  have h2 : [32, 9, 10, 13].contains c = isSp c := all256 (p := fun c => [32, 9, 10, 13].contains c = isSp c) (by decide +kernel) c
  rw [h2] at h1
  constructor
  · intro h
    cases hc : isSp c with
    | true => rfl
    | false => have := h1.2 hc; omega
  · intro h
    rcases Int.lt_or_le (Lib.indexByte [32, 9, 10, 13] c) 0 with h3 | h3
    · rw [h1.1 h3] at h; cases h
    · exact h3
set_option maxRecDepth 100000 in
theorem drop_at2 {s : ByteArray} {p : Nat} (h : p < s.size) : s.data.toList.drop p = s.data.toList.getD p 0 :: s.data.toList.drop (p + 1) := by
  have hl : p < s.data.toList.length := h
  rw [List.drop_eq_getElem_cons hl, List.getD_eq_getElem?_getD, List.getElem?_eq_getElem hl]; rfl
set_option maxRecDepth 100000 in
theorem spc_step {s : ByteArray} {p : Nat} (h : p < s.size) (h2 : isSp (s.data.toList.getD p 0) = true) : spc (s.data.toList.drop p) = spc (s.data.toList.drop (p + 1)) := by
  rw [drop_at2 h]
  unfold spc
  rw [List.dropWhile_cons, if_pos h2]
set_option maxRecDepth 100000 in
theorem spc_stop {s : ByteArray} {p : Nat} (hp : p ≤ s.size) (h : p < s.size → isSp (s.data.toList.getD p 0) = false) : s.data.toList.length - (spc (s.data.toList.drop p)).length = p := by
  have hl : s.data.toList.length = s.size := rfl
  rcases Nat.lt_or_ge p s.size with h1 | h1
  · rw [drop_at2 h1, spc_no (h h1), ← drop_at2 h1, List.length_drop]; omega
  · rw [List.drop_eq_nil_of_le (by omega)]
    show s.data.toList.length - 0 = p
    omega
set_option maxRecDepth 100000 in
theorem byteAt_nat (s : ByteArray) (p : Nat) : byteAt s ((p : Int)).toNat = ((s.data.toList.getD p 0).toNat : Int) := rfl
set_option maxRecDepth 100000 in
theorem u8_back (c : UInt8) : ((c.toNat : Int)).toNat.toUInt8 = c := by simp
set_option maxRecDepth 100000 in
theorem i64_in2 {n : Int} (h : -9223372036854775808 ≤ n ∧ n ≤ 9223372036854775807) : IntKind.i64.min ≤ n ∧ n ≤ IntKind.i64.max := h
set_option maxRecDepth 100000 in
theorem spaceP_acb (s : ByteArray) (x : JS) (hs : s.size ≤ 1000000000) (hp : x.p ≤ s.size) : ACB EN5 Tryd.prog 39 [.bx (pn 0) 0] [boxP s x] (.tup []) [boxP s (spaceS s.data.toList x)] := by
  have hix := fun n => indexByte_ac ⟨#[32, 9, 10, 13]⟩ n (by decide)
  refine acb_enter (fn := Tryd.f39) 32 Tryd.func39 rfl rfl ?_
  intro pas w0 w he hpp
  repeat' (first
    | refine aw_seq ?_
    | refine aw_region ?_
    | refine awo_nil ?_
    | refine k_seq ?_
    | refine k_block ?_
    | refine k_scope ?_
    | refine aw_block ?_
    | refine aw_skip ?_
    | refine aw_label ?_
    | refine aw_scope ?_
    | (apply s_pick_t rfl rfl
       · conv => lhs; whnf
       · conv => lhs; whnf
       · first | exact bT1 (by assumption) | exact bT2 (by assumption))
    | (apply s_pick_f rfl rfl
       · conv => lhs; whnf
       · conv => lhs; whnf
       · first | exact bF1 (by assumption) | exact bF2 (by assumption))
    | (apply s_val rfl
       · conv => lhs; whnf
       · conv => lhs; whnf; arg 2; whnf)
    | (apply s_call rfl
       · conv => lhs; whnf
       · conv => lhs; whnf
       · first | fail)
    | (apply s_store rfl rfl rfl
       · conv => lhs; whnf
       · conv => lhs; whnf; arg 1; whnf
       · conv => lhs; whnf; arg 1; whnf
       · exact ⟨by kernel_rfl, by kernel_rfl⟩
       · rfl)
    | (apply s_wanted_val rfl
       · conv => lhs; whnf
       · conv => lhs; whnf
       · first | rfl | assumption
       · conv => lhs; whnf; arg 2; whnf)
    | (apply s_wanted_call rfl
       · conv => lhs; whnf
       · conv => lhs; whnf
       · first | rfl | assumption
       · conv => lhs; whnf
       · first | fail)
    | (apply s_skip rfl
       · conv => lhs; whnf
       · conv => lhs; whnf
       · first | rfl | assumption)
    | (apply s_guard_val rfl
       · conv => lhs; whnf
       · conv => lhs; whnf
       · conv => lhs; whnf; arg 2; whnf)
    | (apply s_guard_call rfl
       · conv => lhs; whnf
       · conv => lhs; whnf
       · conv => lhs; whnf
       · first | fail)
    | (apply aw_draw (by kernel_rfl) (by kernel_rfl))
    | apply y_nil
    | (apply y_pick_t rfl rfl
       · conv => lhs; whnf
       · conv => lhs; whnf
       · first | exact bT1 (by assumption) | exact bT2 (by assumption))
    | (apply y_pick_f rfl rfl
       · conv => lhs; whnf
       · conv => lhs; whnf
       · first | exact bF1 (by assumption) | exact bF2 (by assumption))
    | (apply y_val rfl
       · conv => lhs; whnf
       · conv => lhs; whnf; arg 2; whnf)
    | (apply y_call rfl
       · conv => lhs; whnf
       · conv => lhs; whnf
       · first | fail)
    | (apply y_store rfl rfl rfl
       · conv => lhs; whnf
       · rfl
       · rfl
       · conv => lhs; whnf; arg 1; whnf
       · conv => lhs; whnf; arg 1; whnf
       · exact ⟨by kernel_rfl, by kernel_rfl⟩
       · rfl)
    | (apply y_wanted_val rfl
       · conv => lhs; whnf
       · conv => lhs; whnf
       · first | rfl | assumption
       · conv => lhs; whnf; arg 2; whnf)
    | (apply y_wanted_call rfl
       · conv => lhs; whnf
       · conv => lhs; whnf
       · first | rfl | assumption
       · conv => lhs; whnf
       · first | fail)
    | (apply y_skip rfl
       · conv => lhs; whnf
       · conv => lhs; whnf
       · first | rfl | assumption)
    | (apply y_guard_val rfl
       · conv => lhs; whnf
       · conv => lhs; whnf
       · conv => lhs; whnf; arg 2; whnf)
    | (apply y_guard_call rfl
       · conv => lhs; whnf
       · conv => lhs; whnf
       · conv => lhs; whnf
       · first | fail)
    | exact apartB_none
    | exact apartB_nil
    | exact all_nil
    | (show List.all _ _ = true; rfl)
    | (show apartB _ _ = true; rfl)
    | exact ([] : List Nat)
    | exact (1000000 : Nat)
    | (apply aw_cond_t
       · conv => lhs; whnf; arg 1; arg 1; whnf)
    | (apply aw_cond_f
       · conv => lhs; whnf; arg 1; arg 1; whnf)
    | (refine aw_cond (by conv => lhs; whnf) ?_ ?_ <;> intro hb)
    | refine aw_ret ?_
    | refine aw_exit ?_
    | refine k_seq_exit ?_
    | refine k_seq_ret ?_
    | refine k_block_ret ?_
    | refine k_block_hit rfl ?_
    | refine k_block_miss rfl ?_
    | refine k_scope_exit ?_
    | refine k_scope_ret ?_
    | refine k_loop_exit ?_
    | refine k_loop_ret ?_
    | refine k_endB ⟨?_, ?_⟩
    | refine k_endB_ret ⟨?_, ?_⟩
    | exact (rfl : _ = V.tup [])
    | (refine ⟨_, by conv => lhs; whnf; arg 2; whnf, ?_⟩; conv => rhs; whnf)
    | exact trivial
    | intro hg)
  refine aw_loop (fun j st => ∃ p, p + j = s.size ∧ spc (s.data.toList.drop p) = spc (s.data.toList.drop x.p) ∧ Sub ⟨Tryd.prog, pas, w0, w, EN5, he, hpp⟩ st (HsP s x p)) (s.size - x.p) ⟨x.p, by omega, rfl, ?_⟩ ?_
  · exact Sub.live ⟨rfl, trivial⟩ ⟨rfl, trivial⟩
  · rintro j st ⟨p, hij, hsp, hs2⟩
    refine aw_sub hs2 ?_
    clear hs2
    repeat' (first
    | refine aw_seq ?_
    | refine aw_region ?_
    | refine awo_nil ?_
    | refine k_seq ?_
    | refine k_block ?_
    | refine k_scope ?_
    | refine aw_block ?_
    | refine aw_skip ?_
    | refine aw_label ?_
    | refine aw_scope ?_
    | (apply s_pick_t rfl rfl
       · conv => lhs; whnf
       · conv => lhs; whnf
       · first | exact bT1 (by assumption) | exact bT2 (by assumption))
    | (apply s_pick_f rfl rfl
       · conv => lhs; whnf
       · conv => lhs; whnf
       · first | exact bF1 (by assumption) | exact bF2 (by assumption))
    | (apply s_val rfl
       · conv => lhs; whnf
       · conv => lhs; whnf; arg 2; whnf)
    | (apply s_call rfl
       · conv => lhs; whnf
       · conv => lhs; whnf
       · first | exact hix _)
    | (apply s_store rfl rfl rfl
       · conv => lhs; whnf
       · conv => lhs; whnf; arg 1; whnf
       · conv => lhs; whnf; arg 1; whnf
       · exact ⟨by kernel_rfl, by kernel_rfl⟩
       · rfl)
    | (apply s_wanted_val rfl
       · conv => lhs; whnf
       · conv => lhs; whnf
       · first | rfl | assumption
       · conv => lhs; whnf; arg 2; whnf)
    | (apply s_wanted_call rfl
       · conv => lhs; whnf
       · conv => lhs; whnf
       · first | rfl | assumption
       · conv => lhs; whnf
       · first | exact hix _)
    | (apply s_skip rfl
       · conv => lhs; whnf
       · conv => lhs; whnf
       · first | rfl | assumption)
    | (apply s_guard_val rfl
       · conv => lhs; whnf
       · conv => lhs; whnf
       · conv => lhs; whnf; arg 2; whnf)
    | (apply s_guard_call rfl
       · conv => lhs; whnf
       · conv => lhs; whnf
       · conv => lhs; whnf
       · first | exact hix _)
    | (apply aw_draw (by kernel_rfl) (by kernel_rfl))
    | apply y_nil
    | (apply y_pick_t rfl rfl
       · conv => lhs; whnf
       · conv => lhs; whnf
       · first | exact bT1 (by assumption) | exact bT2 (by assumption))
    | (apply y_pick_f rfl rfl
       · conv => lhs; whnf
       · conv => lhs; whnf
       · first | exact bF1 (by assumption) | exact bF2 (by assumption))
    | (apply y_val rfl
       · conv => lhs; whnf
       · conv => lhs; whnf; arg 2; whnf)
    | (apply y_call rfl
       · conv => lhs; whnf
       · conv => lhs; whnf
       · first | exact hix _)
    | (apply y_store rfl rfl rfl
       · conv => lhs; whnf
       · rfl
       · rfl
       · conv => lhs; whnf; arg 1; whnf
       · conv => lhs; whnf; arg 1; whnf
       · exact ⟨by kernel_rfl, by kernel_rfl⟩
       · rfl)
    | (apply y_wanted_val rfl
       · conv => lhs; whnf
       · conv => lhs; whnf
       · first | rfl | assumption
       · conv => lhs; whnf; arg 2; whnf)
    | (apply y_wanted_call rfl
       · conv => lhs; whnf
       · conv => lhs; whnf
       · first | rfl | assumption
       · conv => lhs; whnf
       · first | exact hix _)
    | (apply y_skip rfl
       · conv => lhs; whnf
       · conv => lhs; whnf
       · first | rfl | assumption)
    | (apply y_guard_val rfl
       · conv => lhs; whnf
       · conv => lhs; whnf
       · conv => lhs; whnf; arg 2; whnf)
    | (apply y_guard_call rfl
       · conv => lhs; whnf
       · conv => lhs; whnf
       · conv => lhs; whnf
       · first | exact hix _)
    | exact apartB_none
    | exact apartB_nil
    | exact all_nil
    | (show List.all _ _ = true; rfl)
    | (show apartB _ _ = true; rfl)
    | exact ([] : List Nat)
    | exact (1000000 : Nat)
    | (apply aw_cond_t
       · conv => lhs; whnf; arg 1; arg 1; whnf)
    | (apply aw_cond_f
       · conv => lhs; whnf; arg 1; arg 1; whnf)
    | (refine aw_cond (by conv => lhs; whnf) ?_ ?_ <;> intro hb)
    | refine aw_ret ?_
    | refine aw_exit ?_
    | refine k_seq_exit ?_
    | refine k_seq_ret ?_
    | refine k_block_ret ?_
    | refine k_block_hit rfl ?_
    | refine k_block_miss rfl ?_
    | refine k_scope_exit ?_
    | refine k_scope_ret ?_
    | refine k_loop_exit ?_
    | refine k_loop_ret ?_
    | refine k_endB ⟨?_, ?_⟩
    | refine k_endB_ret ⟨?_, ?_⟩
    | exact (rfl : _ = V.tup [])
    | (refine ⟨_, by conv => lhs; whnf; arg 2; whnf, ?_⟩; conv => rhs; whnf)
    | exact trivial
    | intro hg)
    · have h1 : (decide ((p : Int) < (s.size : Int)) == true) = true := by assumption
      have hlt : p < s.size := by simpa using h1
      have h2 : decide (ixU [32, 9, 10, 13] (byteAt s (p : Int).toNat) ≥ 0) = true := by assumption
      have h3 : isSp (s.data.toList.getD p 0) = true := by
        rw [byteAt_nat] at h2
        unfold ixU at h2
        rw [u8_back] at h2
        exact (sp_ix _).1 (by simpa using h2)
      exact k_loop_next (j' := j - 1) (by omega) ⟨p + 1, by omega, by rw [← hsp]; exact (spc_step hlt h3).symm, Sub.live ⟨rfl, trivial⟩ ⟨rfl, trivial⟩⟩
    · have h1 : (decide ((p : Int) < (s.size : Int)) == true) = true := by assumption
      have hlt : p < s.size := by simpa using h1
      exact i64_in2 (by dsimp only; omega)
    · have h1 : (decide ((p : Int) < (s.size : Int)) == true) = true := by assumption
      have hlt : p < s.size := by simpa using h1
      have h2 : decide (ixU [32, 9, 10, 13] (byteAt s (p : Int).toNat) ≥ 0) = false := by assumption
      have h3 : isSp (s.data.toList.getD p 0) = false := by
        rw [byteAt_nat] at h2
        unfold ixU at h2
        rw [u8_back] at h2
        cases hc : isSp (s.data.toList.getD p 0) with
        | false => rfl
        | true =>
          have h5 := (sp_ix _).2 hc
          have h6 : ¬ (Lib.indexByte [32, 9, 10, 13] (s.data.toList.getD p 0) ≥ 0) := of_decide_eq_false h2
          omega
      have e : spaceS s.data.toList x = ⟨p, x.m, x.bad, x.e⟩ := by
        unfold spaceS; rw [← hsp, spc_stop (by omega) fun _ => h3]
      rw [e]
      exact ⟨rfl, trivial⟩
    · have h1 : (decide ((p : Int) < (s.size : Int)) == true) = true := by assumption
      have hlt : p < s.size := by simpa using h1
      exact ⟨by kernel_rfl, by dsimp only; omega, by dsimp only; omega⟩
    · have h1 : (decide ((p : Int) < (s.size : Int)) == true) = false := by assumption
      have hle : s.size ≤ p := by simpa using h1
      have e : spaceS s.data.toList x = ⟨p, x.m, x.bad, x.e⟩ := by
        unfold spaceS; rw [← hsp, spc_stop (by omega) fun h => by omega]
      rw [e]
      exact ⟨rfl, trivial⟩
    · show Tryd.prog.underlying 9 = _
      kernel_rfl
set_option maxRecDepth 100000 in
theorem take_not {S q : List UInt8} {x : JS} (h : ¬ (x.e = 0 ∧ x.p < S.length ∧ q.contains (atS S x) = true)) : takeS S q x = (0, failS x x.p 3) := by
  unfold takeS; rw [if_neg h]
set_option maxRecDepth 100000 in
theorem take_is {S q : List UInt8} {x : JS} (h : x.e = 0 ∧ x.p < S.length ∧ q.contains (atS S x) = true) : takeS S q x = (atS S x, goS x) := by
  unfold takeS; rw [if_pos h]
set_option maxRecDepth 100000 in
theorem ix_at (l s : ByteArray) (x : JS) : ixU l.data.toList (byteAt s (x.p : Int).toNat) < 0 ↔ l.data.toList.contains (atS s.data.toList x) = false := by
  rw [byteAt_nat]; unfold ixU; rw [u8_back]; exact ix_neg _ _
set_option maxRecDepth 100000 in
theorem ne_of_g {n : Int} (h : ((n != 0) == false) = true) : n = 0 := by simpa using h
set_option maxRecDepth 100000 in
theorem ne_of_g2 {n : Int} (h : ((n != 0) == false) = false) : n ≠ 0 := by simpa using h
set_option maxRecDepth 100000 in
theorem ne_of_p {p q : Nat} (h : (((p : Int) == (q : Int)) == false) = true) : p ≠ q := by
  intro e; subst e; simp at h
set_option maxRecDepth 100000 in
theorem ne_of_p2 {p q : Nat} (h : (((p : Int) == (q : Int)) == false) = false) : p = q := by
  simp at h; omega
set_option maxRecDepth 100000 in
theorem takeP_acb (s : ByteArray) (x : JS) (l : ByteArray) (hs : s.size ≤ 1000000000) (hl : l.size ≤ 1000000000) (hp : x.p ≤ s.size) : ACB EN5 Tryd.prog 92 [.bx (pn 0) 0, .c (.string l)] [boxP s x] (.c (.int .u8 ((takeS s.data.toList l.data.toList x).1.toNat : Int))) [boxP s (takeS s.data.toList l.data.toList x).2] := by
  have hix := fun n => indexByte_ac l n hl
  have hlen : s.data.toList.length = s.size := rfl
  refine acb_enter (fn := Tryd.f92) 59 Tryd.func92 rfl rfl ?_
  intro pas w0 w he hpp
  repeat' (first
    | (apply s_meth (cellsP s) (fun _ _ => rfl) rfl
       · conv => lhs; whnf
       · conv => lhs; whnf
       · rfl
       · conv => lhs; whnf; arg 1; whnf
       · first | exact eta0 _ _ | exact eta1 _ _ | exact eta2 _ _ | exact eta3 _ _ | exact eta6 _ | exact etaQ0 _ _ | exact etaQ1 _ _ | exact etaQ2 _ _ | exact etaQ3 _ _ | exact etaQ6 _
       · first | exact failP_acb _ _ _ _
       · exact fun _ => rfl
       · exact fun _ => rfl)
    | (apply s_wanted_meth (cellsP s) (fun _ _ => rfl) rfl
       · conv => lhs; whnf
       · conv => lhs; whnf
       · first | rfl | assumption
       · conv => lhs; whnf
       · rfl
       · conv => lhs; whnf; arg 1; whnf
       · first | exact eta0 _ _ | exact eta1 _ _ | exact eta2 _ _ | exact eta3 _ _ | exact eta6 _ | exact etaQ0 _ _ | exact etaQ1 _ _ | exact etaQ2 _ _ | exact etaQ3 _ _ | exact etaQ6 _
       · first | exact failP_acb _ _ _ _
       · exact fun _ => rfl
       · exact fun _ => rfl)
    | (apply s_skip rfl
       · conv => lhs; whnf
       · conv => lhs; whnf
       · first | rfl | assumption)
    | (apply s_guard_meth (cellsP s) (fun _ _ => rfl) rfl
       · conv => lhs; whnf
       · conv => lhs; whnf
       · conv => lhs; whnf
       · rfl
       · conv => lhs; whnf; arg 1; whnf
       · first | exact eta0 _ _ | exact eta1 _ _ | exact eta2 _ _ | exact eta3 _ _ | exact eta6 _ | exact etaQ0 _ _ | exact etaQ1 _ _ | exact etaQ2 _ _ | exact etaQ3 _ _ | exact etaQ6 _
       · first | exact failP_acb _ _ _ _
       · exact fun _ => rfl
       · exact fun _ => rfl)
    | refine aw_seq ?_
    | refine aw_region ?_
    | refine awo_nil ?_
    | refine k_seq ?_
    | refine k_block ?_
    | refine k_scope ?_
    | refine aw_block ?_
    | refine aw_skip ?_
    | refine aw_label ?_
    | refine aw_scope ?_
    | (apply s_pick_t rfl rfl
       · conv => lhs; whnf
       · conv => lhs; whnf
       · first | exact bT1 (by assumption) | exact bT2 (by assumption))
    | (apply s_pick_f rfl rfl
       · conv => lhs; whnf
       · conv => lhs; whnf
       · first | exact bF1 (by assumption) | exact bF2 (by assumption))
    | (apply s_val rfl
       · conv => lhs; whnf
       · conv => lhs; whnf; arg 2; whnf)
    | (apply s_call rfl
       · conv => lhs; whnf
       · conv => lhs; whnf
       · first | exact hix _)
    | (apply s_store rfl rfl rfl
       · conv => lhs; whnf
       · conv => lhs; whnf; arg 1; whnf
       · conv => lhs; whnf; arg 1; whnf
       · exact ⟨by kernel_rfl, by kernel_rfl⟩
       · rfl)
    | (apply s_wanted_val rfl
       · conv => lhs; whnf
       · conv => lhs; whnf
       · first | rfl | assumption
       · conv => lhs; whnf; arg 2; whnf)
    | (apply s_wanted_call rfl
       · conv => lhs; whnf
       · conv => lhs; whnf
       · first | rfl | assumption
       · conv => lhs; whnf
       · first | exact hix _)
    | (apply s_skip rfl
       · conv => lhs; whnf
       · conv => lhs; whnf
       · first | rfl | assumption)
    | (apply s_guard_val rfl
       · conv => lhs; whnf
       · conv => lhs; whnf
       · conv => lhs; whnf; arg 2; whnf)
    | (apply s_guard_call rfl
       · conv => lhs; whnf
       · conv => lhs; whnf
       · conv => lhs; whnf
       · first | exact hix _)
    | (apply aw_draw (by kernel_rfl) (by kernel_rfl))
    | apply y_nil
    | (apply y_pick_t rfl rfl
       · conv => lhs; whnf
       · conv => lhs; whnf
       · first | exact bT1 (by assumption) | exact bT2 (by assumption))
    | (apply y_pick_f rfl rfl
       · conv => lhs; whnf
       · conv => lhs; whnf
       · first | exact bF1 (by assumption) | exact bF2 (by assumption))
    | (apply y_val rfl
       · conv => lhs; whnf
       · conv => lhs; whnf; arg 2; whnf)
    | (apply y_call rfl
       · conv => lhs; whnf
       · conv => lhs; whnf
       · first | exact hix _)
    | (apply y_store rfl rfl rfl
       · conv => lhs; whnf
       · rfl
       · rfl
       · conv => lhs; whnf; arg 1; whnf
       · conv => lhs; whnf; arg 1; whnf
       · exact ⟨by kernel_rfl, by kernel_rfl⟩
       · rfl)
    | (apply y_wanted_val rfl
       · conv => lhs; whnf
       · conv => lhs; whnf
       · first | rfl | assumption
       · conv => lhs; whnf; arg 2; whnf)
    | (apply y_wanted_call rfl
       · conv => lhs; whnf
       · conv => lhs; whnf
       · first | rfl | assumption
       · conv => lhs; whnf
       · first | exact hix _)
    | (apply y_skip rfl
       · conv => lhs; whnf
       · conv => lhs; whnf
       · first | rfl | assumption)
    | (apply y_guard_val rfl
       · conv => lhs; whnf
       · conv => lhs; whnf
       · conv => lhs; whnf; arg 2; whnf)
    | (apply y_guard_call rfl
       · conv => lhs; whnf
       · conv => lhs; whnf
       · conv => lhs; whnf
       · first | exact hix _)
    | exact apartB_none
    | exact apartB_nil
    | exact all_nil
    | (show List.all _ _ = true; rfl)
    | (show apartB _ _ = true; rfl)
    | exact ([] : List Nat)
    | exact (1000000 : Nat)
    | (apply aw_cond_t
       · conv => lhs; whnf; arg 1; arg 1; whnf)
    | (apply aw_cond_f
       · conv => lhs; whnf; arg 1; arg 1; whnf)
    | (refine aw_cond (by conv => lhs; whnf) ?_ ?_ <;> intro hb)
    | refine aw_ret ?_
    | refine aw_exit ?_
    | refine k_seq_exit ?_
    | refine k_seq_ret ?_
    | refine k_block_ret ?_
    | refine k_block_hit rfl ?_
    | refine k_block_miss rfl ?_
    | refine k_scope_exit ?_
    | refine k_scope_ret ?_
    | refine k_loop_exit ?_
    | refine k_loop_ret ?_
    | refine k_endB ⟨?_, ?_⟩
    | refine k_endB_ret ⟨?_, ?_⟩
    | exact (rfl : _ = V.tup [])
    | (refine ⟨_, by conv => lhs; whnf; arg 2; whnf, ?_⟩; conv => rhs; whnf)
    | exact trivial
    | intro hg)
  all_goals try (show Tryd.prog.underlying 9 = _; kernel_rfl)
  all_goals
    first
      | (have g := ne_of_g2 (n := x.e) (by assumption)
         rw [take_not fun h => g h.1]
         first
           | rfl
           | exact ⟨rfl, trivial⟩)
      | (have g0 := ne_of_g (n := x.e) (by assumption)
         first
           | (have g := ne_of_p2 (p := x.p) (q := s.size) (by assumption)
              rw [take_not fun h => by omega]
              first
                | rfl
                | exact ⟨rfl, trivial⟩)
           | (have g := ne_of_p (p := x.p) (q := s.size) (by assumption)
              first
                | exact ⟨by kernel_rfl, by omega, by omega⟩
                | exact i64_in2 (by omega)
                | (have h1 : decide (ixU l.data.toList (byteAt s (x.p : Int).toNat) < 0) = true := by assumption
                   have h2 := (ix_at l s x).1 (of_decide_eq_true h1)
                   rw [take_not fun h => by rw [h2] at h; cases h.2.2]
                   first
                     | rfl
                     | exact ⟨rfl, trivial⟩)
                | (have h1 : decide (ixU l.data.toList (byteAt s (x.p : Int).toNat) < 0) = false := by assumption
                   have h2 : l.data.toList.contains (atS s.data.toList x) = true := by
                     cases hc : l.data.toList.contains (atS s.data.toList x) with
                     | true => rfl
                     | false => exact (of_decide_eq_false h1 ((ix_at l s x).2 hc)).elim
                   rw [take_is ⟨g0, by omega, h2⟩]
                   first
                     | exact ⟨rfl, trivial⟩
                     | (show V.c (.int .u8 _) = V.c (.int .u8 (byteAt s ((x.p : Int) + 1 - 1).toNat))
                        rw [show (x.p : Int) + 1 - 1 = (x.p : Int) by omega]; rfl))))
end Go.Proofs.YtjhjleanihgopaaDoor
namespace Go.Proofs.YtjhjleanihgopaaDoor
def sumN (g : Nat → Nat) (n : Nat) : Nat := ((List.range n).map g).sum
theorem sumN_succ (g : Nat → Nat) (n : Nat) : sumN g (n + 1) = sumN g n + g n := by
  unfold sumN; rw [List.range_succ, List.map_append, List.sum_append]; simp
def maxN (g : Nat → Nat) (n : Nat) : Nat := (List.range n).foldl (fun m i => max m (g i)) 0
theorem maxN_succ (g : Nat → Nat) (n : Nat) : maxN g (n + 1) = max (maxN g n) (g n) := by
  unfold maxN; rw [List.range_succ, List.foldl_append]; rfl
theorem maxN_ge {g : Nat → Nat} {n i : Nat} (h : i < n) : g i ≤ maxN g n := by
  induction n with
  | zero => omega
  | succ n ih =>
    rw [maxN_succ]
    by_cases e : i = n
    · subst e; exact Nat.le_max_right _ _
    · exact Nat.le_trans (ih (by omega)) (Nat.le_max_left _ _)
def sizeJ : Nat → D → Nat
  | 0, _ => 1
  | k + 1, d => 1 + sumN (fun i => sizeJ k (gD (d.f 3).l i)) (d.f 3).l.length
def depthJ : Nat → D → Nat
  | 0, _ => 1
  | k + 1, d => maxN (fun i => depthJ k (gD (d.f 3).l i)) (d.f 3).l.length + 1
def strsL (d : D) : List (List UInt8) := (d.f 4).l.map fun x => x.s.data.toList
/-- a node of a plain value is valid -/
def nodeB (d : D) : Bool :=
  ((d.f 0).n == 1 || (d.f 0).n == 2 || (d.f 1).n == 0) && ((d.f 0).n == 3 || (d.f 0).n == 4 || (d.f 2).s.data.toList == []) &&
  ((d.f 0).n == 6 || (d.f 4).l.length == 0) && ((d.f 0).n == 6 || (d.f 0).n == 5 || (d.f 3).l.length == 0) &&
  decide (0 ≤ (d.f 0).n ∧ (d.f 0).n ≤ 6) && (!((d.f 0).n == 1) || (d.f 1).n == 0 || (d.f 1).n == 1) &&
  (!((d.f 0).n == 4) || enumB (d.f 2).s) && (!((d.f 0).n == 6) || ((d.f 4).l.length == (d.f 3).l.length && decide (strsL d).Nodup))
where enumB (s : ByteArray) : Bool := nameB s && !(s.data.toList == [116, 114, 117, 101]) && !(s.data.toList == [102, 97, 108, 115, 101]) && !(s.data.toList == [110, 117, 108, 108])
def everyB : Nat → D → Bool
  | 0, _ => false
  | k + 1, d => nodeB d && (List.range (d.f 3).l.length).all fun i => everyB k (gD (d.f 3).l i)
/-- strings in the place of enumeration values -/
def strsJ : Nat → D → D
  | 0, d => d
  | k + 1, d => vD (if (d.f 0).n = 4 then 3 else (d.f 0).n) (d.f 1).n (d.f 2).s.data.toList ((List.range (d.f 3).l.length).map fun i => strsJ k (gD (d.f 3).l i)) (keysD (strsL d))
/-- its integers are ints -/
def intsJ : Nat → D → Prop
  | 0, _ => True
  | k + 1, d => (-9223372036854775808 ≤ (d.f 1).n ∧ (d.f 1).n ≤ 9223372036854775807) ∧ ∀ i, i < (d.f 3).l.length → intsJ k (gD (d.f 3).l i)
structure NodeOk (d : D) : Prop where
  num : (d.f 0).n ≠ 1 → (d.f 0).n ≠ 2 → (d.f 1).n = 0
  word : (d.f 0).n ≠ 3 → (d.f 0).n ≠ 4 → (d.f 2).s.data.toList = []
  keys : (d.f 0).n ≠ 6 → (d.f 4).l = []
  items : (d.f 0).n ≠ 6 → (d.f 0).n ≠ 5 → (d.f 3).l = []
  kind : 0 ≤ (d.f 0).n ∧ (d.f 0).n ≤ 6
  bool : (d.f 0).n = 1 → (d.f 1).n = 0 ∨ (d.f 1).n = 1
  obj : (d.f 0).n = 6 → (d.f 4).l.length = (d.f 3).l.length ∧ (strsL d).Nodup
theorem nodeB_ok {d : D} (h : nodeB d = true) : NodeOk d := by
  unfold nodeB at h
  simp only [Bool.and_eq_true, Bool.or_eq_true, beq_iff_eq, decide_eq_true_eq, Bool.not_eq_true', beq_eq_false_iff_ne] at h
  obtain ⟨⟨⟨⟨⟨⟨⟨h1, h2⟩, h3⟩, h4⟩, h5⟩, h6⟩, h7⟩, h8⟩ := h
  refine ⟨fun a b => ?_, fun a b => ?_, fun a => ?_, fun a b => ?_, h5, fun a => ?_, fun a => ?_⟩
  · rcases h1 with (h1 | h1) | h1
    · exact (a h1).elim
    · exact (b h1).elim
    · exact h1
  · rcases h2 with (h1 | h1) | h1
    · exact (a h1).elim
    · exact (b h1).elim
    · exact h1
  · rcases h3 with h1 | h1
    · exact (a h1).elim
    · exact List.length_eq_zero_iff.1 h1
  · rcases h4 with (h1 | h1) | h1
    · exact (a h1).elim
    · exact (b h1).elim
    · exact List.length_eq_zero_iff.1 h1
  · rcases h6 with (h1 | h1) | h1
    · exact (h1 a).elim
    · exact .inl h1
    · exact .inr h1
  · rcases h8 with h1 | h1
    · exact (h1 a).elim
    · exact h1
/-- the texts from element i on -/
def dropU (g : Nat → List UInt8) (n i : Nat) : List UInt8 := (List.range' i (n - i)).flatMap g
theorem dropU_end (g : Nat → List UInt8) {n i : Nat} (h : n ≤ i) : dropU g n i = [] := by
  unfold dropU; rw [show n - i = 0 by omega]; rfl
theorem dropU_at (g : Nat → List UInt8) {n i : Nat} (h : i < n) : dropU g n i = g i ++ dropU g n (i + 1) := by
  unfold dropU
  rw [show n - i = (n - (i + 1)) + 1 by omega, List.range'_succ]; rfl
theorem catU_drop (g : Nat → List UInt8) (n : Nat) : catU g n = dropU g n 0 := by
  unfold catU dropU; rw [List.range_eq_range']; rfl
theorem dropU_len {g : Nat → List UInt8} {n : Nat} (hg : ∀ i, i < n → 0 < (g i).length) : ∀ j i, n - i = j → n - i ≤ (dropU g n i).length
  | 0, i, h => by omega
  | j + 1, i, h => by
    rw [dropU_at g (by omega), List.length_append]
    have := dropU_len hg j (i + 1) (by omega)
    have := hg i (by omega)
    omega
def sumF (g : Nat → Nat) (n i : Nat) : Nat := ((List.range' i (n - i)).map g).sum
theorem sumF_end (g : Nat → Nat) {n i : Nat} (h : n ≤ i) : sumF g n i = 0 := by
  unfold sumF; rw [show n - i = 0 by omega]; rfl
theorem sumF_at (g : Nat → Nat) {n i : Nat} (h : i < n) : sumF g n i = g i + sumF g n (i + 1) := by
  unfold sumF
  rw [show n - i = (n - (i + 1)) + 1 by omega, List.range'_succ]; simp
theorem sumF_all (g : Nat → Nat) (n : Nat) : sumN g n = sumF g n 0 := by
  unfold sumN sumF; rw [List.range_eq_range']; rfl
def mapF {α : Type} (g : Nat → α) (n i : Nat) : List α := (List.range' i (n - i)).map g
theorem mapF_end {α : Type} (g : Nat → α) {n i : Nat} (h : n ≤ i) : mapF g n i = [] := by
  unfold mapF; rw [show n - i = 0 by omega]; rfl
theorem mapF_at {α : Type} (g : Nat → α) {n i : Nat} (h : i < n) : mapF g n i = g i :: mapF g n (i + 1) := by
  unfold mapF
  rw [show n - i = (n - (i + 1)) + 1 by omega, List.range'_succ]; rfl
theorem mapF_all {α : Type} (g : Nat → α) (n : Nat) : (List.range n).map g = mapF g n 0 := by
  unfold mapF; rw [List.range_eq_range']; rfl
section
variable {f : Nat → List UInt8 → Except JE (D × Nat × List UInt8)} {n : Nat} {tx : Nat → List UInt8} {sz : Nat → Nat} {vl : Nat → D}
/-- the items of a list, written and read -/
theorem items_write (r : List UInt8) (hf : ∀ (i m : Nat) (q : List UInt8), i < n → m + sz i ≤ 4096 → numStop q → f m (tx i ++ q) = .ok (vl i, m + sz i, q)) : ∀ (c i j m : Nat) (l : List D), n - i = c + 1 → n - i ≤ j → m + sumF sz n i ≤ 4096 →
    itemsJ f j m (tx i ++ dropU (fun i => (if 0 < i then [44] else []) ++ tx i) n (i + 1) ++ 93 :: r) l = .ok (l ++ mapF vl n i, m + sumF sz n i, r)
  | c, i, 0, m, l, h, hj, hm => by omega
  | c, i, j + 1, m, l, h, hj, hm => by
    rw [sumF_at sz (by omega)] at hm ⊢
    unfold itemsJ
    rw [List.append_assoc]
    by_cases hl : i + 1 < n
    · have e : dropU (fun i => (if 0 < i then [44] else []) ++ tx i) n (i + 1) ++ 93 :: r = 44 :: (tx (i + 1) ++ dropU (fun i => (if 0 < i then [44] else []) ++ tx i) n (i + 1 + 1) ++ 93 :: r) := by
        rw [dropU_at _ hl, if_pos (Nat.succ_pos i)]; simp
      rw [e, hf i m _ (by omega) (by omega) (fun c q hq => by cases hq; decide)]
      show (match spc (44 :: _) with
        | [] => Except.error (0, (3 : Int))
        | c :: q => if c = 44 then itemsJ f j (m + sz i) q (l ++ [vl i]) else if c = 93 then .ok (l ++ [vl i], m + sz i, q) else .error (q.length + 1, 3)) = _
      rw [spc_no (by decide)]
      dsimp only
      rw [if_pos rfl]
      cases c with
      | zero => omega
      | succ c =>
        rw [items_write r hf c (i + 1) j (m + sz i) (l ++ [vl i]) (by omega) (by omega) (by omega), mapF_at vl (show i < n by omega)]
        simp [Nat.add_assoc]
    · have e : dropU (fun i => (if 0 < i then [44] else []) ++ tx i) n (i + 1) = [] := dropU_end _ (by omega)
      rw [e, List.nil_append, hf i m _ (by omega) (by omega) (fun c q hq => by cases hq; decide)]
      show (match spc (93 :: r) with
        | [] => Except.error (0, (3 : Int))
        | c :: q => if c = 44 then itemsJ f j (m + sz i) q (l ++ [vl i]) else if c = 93 then .ok (l ++ [vl i], m + sz i, q) else .error (q.length + 1, 3)) = _
      rw [spc_no (by decide)]
      dsimp only
      rw [if_neg (by decide), if_pos rfl, mapF_at vl (show i < n by omega), mapF_end vl (show n ≤ i + 1 by omega), sumF_end sz (show n ≤ i + 1 by omega)]
      rfl
/-- the fields of an object -/
theorem fields_write (r : List UInt8) (ky : Nat → List UInt8) (hf : ∀ (i m : Nat) (q : List UInt8), i < n → m + sz i ≤ 4096 → numStop q → f m (tx i ++ q) = .ok (vl i, m + sz i, q)) (hk : ∀ i j, i < j → j < n → ky i ≠ ky j) : ∀ (c i j m : Nat) (l : List D), n - i = c + 1 → n - i ≤ j → m + sumF sz n i ≤ 4096 →
    fieldsJ f j m (quoteU (ky i) ++ 58 :: (tx i ++ dropU (fun i => (if 0 < i then [44] else []) ++ (quoteU (ky i) ++ 58 :: tx i)) n (i + 1) ++ 125 :: r)) ((List.range i).map ky) l = .ok ((List.range n).map ky, l ++ mapF vl n i, m + sumF sz n i, r)
  | c, i, 0, m, l, h, hj, hm => by omega
  | c, i, j + 1, m, l, h, hj, hm => by
    rw [sumF_at sz (by omega)] at hm ⊢
    unfold fieldsJ
    have hsp : spc (quoteU (ky i) ++ 58 :: (tx i ++ dropU (fun i => (if 0 < i then [44] else []) ++ (quoteU (ky i) ++ 58 :: tx i)) n (i + 1) ++ 125 :: r)) = quoteU (ky i) ++ 58 :: (tx i ++ dropU (fun i => (if 0 < i then [44] else []) ++ (quoteU (ky i) ++ 58 :: tx i)) n (i + 1) ++ 125 :: r) := by
      show spc (34 :: _) = _
      rw [spc_no (by decide)]; rfl
    rw [hsp, str_write]
    have hnk : ¬ ky i ∈ (List.range i).map ky := fun hh => by
      obtain ⟨a, ha, hb⟩ := List.mem_map.1 hh
      exact hk a i (List.mem_range.1 ha) (by omega) hb
    have hks : (List.range i).map ky ++ [ky i] = (List.range (i + 1)).map ky := by rw [List.range_succ]; simp
    show (if ky i ∈ (List.range i).map ky then Except.error _ else _) = _
    rw [if_neg hnk, spc_no (by decide), takeJ, if_pos (by decide)]
    show ((f m (tx i ++ dropU _ n (i + 1) ++ 125 :: r)).bind _) = _
    rw [List.append_assoc]
    by_cases hl : i + 1 < n
    · have e : dropU (fun i => (if 0 < i then [44] else []) ++ (quoteU (ky i) ++ 58 :: tx i)) n (i + 1) ++ 125 :: r = 44 :: (quoteU (ky (i + 1)) ++ 58 :: (tx (i + 1) ++ dropU (fun i => (if 0 < i then [44] else []) ++ (quoteU (ky i) ++ 58 :: tx i)) n (i + 1 + 1) ++ 125 :: r)) := by
        rw [dropU_at _ hl, if_pos (Nat.succ_pos i)]; simp
      rw [e, hf i m _ (by omega) (by omega) (fun c q hq => by cases hq; decide)]
      show (match spc (44 :: _) with
        | [] => Except.error (0, (3 : Int))
        | c :: q => if c = 44 then fieldsJ f j (m + sz i) q ((List.range i).map ky ++ [ky i]) (l ++ [vl i]) else if c = 125 then .ok ((List.range i).map ky ++ [ky i], l ++ [vl i], m + sz i, q) else .error (q.length + 1, 3)) = _
      rw [spc_no (by decide)]
      dsimp only
      rw [if_pos rfl, hks]
      cases c with
      | zero => omega
      | succ c =>
        rw [fields_write r ky hf hk c (i + 1) j (m + sz i) (l ++ [vl i]) (by omega) (by omega) (by omega), mapF_at vl (show i < n by omega)]
        simp [Nat.add_assoc]
    · have e : dropU (fun i => (if 0 < i then [44] else []) ++ (quoteU (ky i) ++ 58 :: tx i)) n (i + 1) = [] := dropU_end _ (by omega)
      have hn : n = i + 1 := by omega
      rw [e, List.nil_append, hf i m _ (by omega) (by omega) (fun c q hq => by cases hq; decide)]
      show (match spc (125 :: r) with
        | [] => Except.error (0, (3 : Int))
        | c :: q => if c = 44 then fieldsJ f j (m + sz i) q ((List.range i).map ky ++ [ky i]) (l ++ [vl i]) else if c = 125 then .ok ((List.range i).map ky ++ [ky i], l ++ [vl i], m + sz i, q) else .error (q.length + 1, 3)) = _
      rw [spc_no (by decide)]
      dsimp only
      rw [if_neg (by decide), if_pos rfl, mapF_at vl (show i < n by omega), mapF_end vl (show n ≤ i + 1 by omega), sumF_end sz (show n ≤ i + 1 by omega), hks, hn]
      rfl
end
end Go.Proofs.YtjhjleanihgopaaDoor
namespace Go.Proofs.YtjhjleanihgopaaDoor
theorem beg_sp {c : UInt8} : beginsJ c = true → isSp c = false := all256 (p := fun c => beginsJ c = true → isSp c = false) (by decide +kernel) c
theorem beg_end {c : UInt8} : beginsJ c = true → c ≠ 93 ∧ c ≠ 125 := all256 (p := fun c => beginsJ c = true → c ≠ 93 ∧ c ≠ 125) (by decide +kernel) c
theorem dig_beg {c : UInt8} (h : digU c = true) : beginsJ c = true := by unfold beginsJ; rw [h]; rfl
theorem dig_ns {c : UInt8} : digU c = true → c ≠ 110 ∧ c ≠ 116 ∧ c ≠ 102 ∧ c ≠ 34 ∧ c ≠ 91 ∧ c ≠ 123 := all256 (p := fun c => digU c = true → c ≠ 110 ∧ c ≠ 116 ∧ c ≠ 102 ∧ c ≠ 34 ∧ c ≠ 91 ∧ c ≠ 123) (by decide +kernel) c
theorem itoa_head (n : Int) : ∃ c q, Lib.itoa n = c :: q ∧ (c = 45 ∨ digU c = true) := by
  unfold Lib.itoa
  by_cases h : n < 0
  · rw [if_pos h]; exact ⟨45, _, rfl, .inl rfl⟩
  · rw [if_neg h]
    obtain ⟨c, ds, e, h1, _⟩ := dec_split n.toNat
    exact ⟨c, ds, e, .inr h1⟩
/-- how a text begins -/
theorem leaf_head {d : D} (hk : 0 ≤ (d.f 0).n ∧ (d.f 0).n ≤ 4) : ∃ c q, leafU d = c :: q ∧ beginsJ c = true := by
  unfold leafU
  split
  · exact ⟨110, _, rfl, by decide⟩
  split
  · split
    · exact ⟨102, _, rfl, by decide⟩
    · exact ⟨116, _, rfl, by decide⟩
  split
  · obtain ⟨c, q, e, h⟩ := itoa_head (d.f 1).n
    refine ⟨c, q, e, ?_⟩
    rcases h with rfl | h
    · decide
    · exact dig_beg h
  · exact ⟨34, _, rfl, by decide⟩
theorem wr_head {k : Nat} {d : D} (hk : 0 ≤ (d.f 0).n) : ∃ c q, wrJ (k + 1) d = c :: q ∧ beginsJ c = true := by
  unfold wrJ
  by_cases h4 : (d.f 0).n ≤ 4
  · rw [if_pos h4]; exact leaf_head ⟨hk, h4⟩
  · rw [if_neg h4]
    by_cases h6 : (d.f 0).n = 6
    · rw [if_pos h6]; exact ⟨123, _, rfl, by decide⟩
    · rw [if_neg h6]; exact ⟨91, _, rfl, by decide⟩
theorem every_head : ∀ {k : Nat} {d : D}, everyB k d = true → ∃ c q, wrJ k d = c :: q ∧ beginsJ c = true
  | 0, _, h => by cases h
  | k + 1, d, h => by
    unfold everyB at h
    rw [Bool.and_eq_true] at h
    exact wr_head (nodeB_ok h.1).kind.1
/-- the first step of a value -/
def atJ (k m : Nat) (c : UInt8) (r : List UInt8) : Except JE (D × Nat × List UInt8) :=
  if c = 110 then (wordJ [110, 117, 108, 108] (c :: r)).bind fun q => .ok (vD 0 0 [] [] [], m + 1, q)
  else if c = 116 then (wordJ [116, 114, 117, 101] (c :: r)).bind fun q => .ok (vD 1 1 [] [] [], m + 1, q)
  else if c = 102 then (wordJ [102, 97, 108, 115, 101] (c :: r)).bind fun q => .ok (vD 1 0 [] [] [], m + 1, q)
  else if c = 34 then (strJ (c :: r)).bind fun y => .ok (vD 3 0 y.1 [] [], m + 1, y.2)
  else if c = 91 then
    if (spc r).head? = some 93 then .ok (vD 5 0 [] [] [], m + 1, (spc r).tail)
    else (itemsJ (valueJ k) (r.length + 1) (m + 1) (spc r) []).bind fun y => .ok (vD 5 0 [] y.1 [], y.2.1, y.2.2)
  else if c = 123 then
    if (spc r).head? = some 125 then .ok (vD 6 0 [] [] [], m + 1, (spc r).tail)
    else (fieldsJ (valueJ k) (r.length + 1) (m + 1) (spc r) [] []).bind fun y => .ok (vD 6 0 [] y.2.1 (y.1.map fun s => D.str ⟨s.toArray⟩), y.2.2.1, y.2.2.2)
  else (numJ (c :: r)).bind fun y => .ok (vD 2 y.1 [] [] [], m + 1, y.2)
theorem value_at {k m : Nat} {c : UInt8} {r : List UInt8} (hb : beginsJ c = true) (hm : m + 1 ≤ 4096) : valueJ (k + 1) m (c :: r) = atJ k m c r := by
  unfold valueJ
  rw [spc_no (beg_sp hb)]
  dsimp only
  rw [if_neg (by rw [hb]; decide), if_neg (by omega)]
  rfl
theorem leaf_write {k m : Nat} {d : D} {r : List UInt8} (hn : NodeOk d) (h4 : (d.f 0).n ≤ 4) (hi : -9223372036854775808 ≤ (d.f 1).n ∧ (d.f 1).n ≤ 9223372036854775807) (hm : m + 1 ≤ 4096) (hr : numStop r) :
    valueJ (k + 1) m (leafU d ++ r) = .ok (vD (if (d.f 0).n = 4 then 3 else (d.f 0).n) (d.f 1).n (d.f 2).s.data.toList [] [], m + 1, r) := by
  have hk := hn.kind
  have e4 : (d.f 0).n ≠ 4 → (if (d.f 0).n = 4 then (3 : Int) else (d.f 0).n) = (d.f 0).n := fun h => if_neg h
  unfold leafU
  by_cases h0 : (d.f 0).n = 0
  · rw [if_pos h0, e4 (by omega), h0, hn.num (by omega) (by omega), hn.word (by omega) (by omega)]
    show valueJ (k + 1) m (110 :: ([117, 108, 108] ++ r)) = _
    rw [value_at (by decide) hm, atJ, if_pos rfl]
    have := word_write [110, 117, 108, 108] r
    rw [show (110 : UInt8) :: ([117, 108, 108] ++ r) = [110, 117, 108, 108] ++ r from rfl, this]; rfl
  rw [if_neg h0]
  by_cases h1 : (d.f 0).n = 1
  · rw [if_pos h1, e4 (by omega), h1, hn.word (by omega) (by omega)]
    rcases hn.bool h1 with hb | hb
    · rw [if_pos hb, hb]
      show valueJ (k + 1) m (102 :: ([97, 108, 115, 101] ++ r)) = _
      rw [value_at (by decide) hm, atJ, if_neg (by decide), if_neg (by decide), if_pos rfl]
      have := word_write [102, 97, 108, 115, 101] r
      rw [show (102 : UInt8) :: ([97, 108, 115, 101] ++ r) = [102, 97, 108, 115, 101] ++ r from rfl, this]; rfl
    · rw [if_neg (by omega), hb]
      show valueJ (k + 1) m (116 :: ([114, 117, 101] ++ r)) = _
      rw [value_at (by decide) hm, atJ, if_neg (by decide), if_pos rfl]
      have := word_write [116, 114, 117, 101] r
      rw [show (116 : UInt8) :: ([114, 117, 101] ++ r) = [116, 114, 117, 101] ++ r from rfl, this]; rfl
  rw [if_neg h1]
  by_cases h2 : (d.f 0).n = 2
  · rw [if_pos h2, e4 (by omega), h2, hn.word (by omega) (by omega)]
    obtain ⟨c, q, e, hc⟩ := itoa_head (d.f 1).n
    have hw := num_write (r := r) hi.1 hi.2 hr
    rw [e] at hw ⊢
    have hcs : c ≠ 110 ∧ c ≠ 116 ∧ c ≠ 102 ∧ c ≠ 34 ∧ c ≠ 91 ∧ c ≠ 123 := by
      rcases hc with rfl | hc
      · decide
      · exact dig_ns hc
    have hb : beginsJ c = true := by
      rcases hc with rfl | hc
      · decide
      · exact dig_beg hc
    rw [List.cons_append] at hw ⊢
    rw [value_at hb hm, atJ, if_neg hcs.1, if_neg hcs.2.1, if_neg hcs.2.2.1, if_neg hcs.2.2.2.1, if_neg hcs.2.2.2.2.1, if_neg hcs.2.2.2.2.2, hw]
    rfl
  rw [if_neg h2, hn.num (by omega) (by omega)]
  have e34 : (if (d.f 0).n = 4 then (3 : Int) else (d.f 0).n) = 3 := by split <;> omega
  rw [e34]
  have hw := str_write (d.f 2).s.data.toList r
  have e : quoteU (d.f 2).s.data.toList ++ r = 34 :: (escL (d.f 2).s.data.toList ++ 34 :: r) := by simp [quoteU]
  rw [e] at hw ⊢
  rw [value_at (by decide) hm, atJ, if_neg (by decide), if_neg (by decide), if_neg (by decide), if_pos rfl, hw]
  rfl
theorem keyU_at {d : D} {i : Nat} (h : i < (d.f 4).l.length) : (strsL d)[i]'(by unfold strsL; simpa using h) = keyU d i := by
  unfold strsL keyU
  rw [List.getElem_map, gD_get h]
theorem strs_range (d : D) : strsL d = (List.range (d.f 4).l.length).map (keyU d) := by
  apply List.ext_getElem
  · simp [strsL]
  · intro i h1 h2
    have : i < (d.f 4).l.length := by simpa [strsL] using h1
    rw [keyU_at this]; simp
theorem value_write : ∀ (k : Nat) (d : D) (m : Nat) (r : List UInt8), everyB k d = true → intsJ k d → m + sizeJ k d ≤ 4096 → numStop r → valueJ k m (wrJ k d ++ r) = .ok (strsJ k d, m + sizeJ k d, r)
  | 0, d, m, r, h, _, _, _ => by cases h
  | k + 1, d, m, r, h, hi, hm, hr => by
    unfold everyB at h
    rw [Bool.and_eq_true] at h
    have hn := nodeB_ok h.1
    have hit : ∀ i, i < (d.f 3).l.length → everyB k (gD (d.f 3).l i) = true := fun i hi => by
      have := h.2
      rw [List.all_eq_true] at this
      exact this i (List.mem_range.2 hi)
    have hk := hn.kind
    have hs : sizeJ (k + 1) d = 1 + sumN (fun i => sizeJ k (gD (d.f 3).l i)) (d.f 3).l.length := rfl
    by_cases h4 : (d.f 0).n ≤ 4
    · have i0 : (d.f 3).l = [] := hn.items (by omega) (by omega)
      have k0 : (d.f 4).l = [] := hn.keys (by omega)
      have hs1 : sizeJ (k + 1) d = 1 := by rw [hs, i0]; rfl
      have hv : strsJ (k + 1) d = vD (if (d.f 0).n = 4 then 3 else (d.f 0).n) (d.f 1).n (d.f 2).s.data.toList [] [] := by
        unfold strsJ strsL; rw [i0, k0]; rfl
      have hw : wrJ (k + 1) d = leafU d := by unfold wrJ; rw [if_pos h4]
      rw [hs1] at hm
      rw [hs1, hv, hw]
      exact leaf_write hn h4 hi.1 hm hr
    have hw : wrJ (k + 1) d = (if (d.f 0).n = 6 then [123] else [91]) ++ catU (fun i => sepU d i ++ wrJ k (gD (d.f 3).l i)) (d.f 3).l.length ++ (if (d.f 0).n = 6 then [125] else [93]) := by
      show (if (d.f 0).n ≤ 4 then _ else _) = _
      rw [if_neg h4]
    have hv : strsJ (k + 1) d = vD (d.f 0).n 0 [] ((List.range (d.f 3).l.length).map fun i => strsJ k (gD (d.f 3).l i)) (keysD (strsL d)) := by
      show vD (if (d.f 0).n = 4 then 3 else (d.f 0).n) (d.f 1).n (d.f 2).s.data.toList _ _ = _
      rw [if_neg (by omega), hn.num (by omega) (by omega), hn.word (by omega) (by omega)]
    rw [hs] at hm ⊢
    rw [hw, hv]
    have hrec : ∀ (i m : Nat) (q : List UInt8), i < (d.f 3).l.length → m + sizeJ k (gD (d.f 3).l i) ≤ 4096 → numStop q → valueJ k m (wrJ k (gD (d.f 3).l i) ++ q) = .ok (strsJ k (gD (d.f 3).l i), m + sizeJ k (gD (d.f 3).l i), q) := fun i m q hil hm2 hq =>
      value_write k _ m q (hit i hil) (hi.2 i hil) hm2 hq
    have hhd : ∀ i, i < (d.f 3).l.length → ∃ c q, wrJ k (gD (d.f 3).l i) = c :: q ∧ beginsJ c = true := fun i hil => every_head (hit i hil)
    by_cases h6 : (d.f 0).n = 6
    · rw [if_pos h6, if_pos h6, h6]
      obtain ⟨hl, hnd⟩ := hn.obj h6
      have e0 : ([123] ++ catU (fun i => sepU d i ++ wrJ k (gD (d.f 3).l i)) (d.f 3).l.length ++ [125]) ++ r = 123 :: (catU (fun i => sepU d i ++ wrJ k (gD (d.f 3).l i)) (d.f 3).l.length ++ 125 :: r) := by simp
      rw [e0, value_at (by decide) (by omega), atJ, if_neg (by decide), if_neg (by decide), if_neg (by decide), if_neg (by decide), if_neg (by decide), if_pos rfl]
      generalize hN : (d.f 3).l.length = n at *
      have ef : (fun i => sepU d i ++ wrJ k (gD (d.f 3).l i)) = fun i => (if 0 < i then [44] else []) ++ (quoteU (keyU d i) ++ 58 :: wrJ k (gD (d.f 3).l i)) := by
        funext i
        unfold sepU
        rw [if_pos h6]; simp
      rw [ef]
      by_cases hz : n = 0
      · subst hz
        rw [show catU _ 0 ++ 125 :: r = 125 :: r from rfl, spc_no (by decide), if_pos (show (125 :: r).head? = some 125 from rfl)]
        have : strsL d = [] := by unfold strsL; rw [List.length_eq_zero_iff.1 hl]; rfl
        rw [this]
        rfl
      · rw [catU_drop, dropU_at _ (by omega), if_neg (Nat.lt_irrefl 0)]
        have e1 : ([] ++ (quoteU (keyU d 0) ++ 58 :: wrJ k (gD (d.f 3).l 0))) ++ dropU (fun i => (if 0 < i then [44] else []) ++ (quoteU (keyU d i) ++ 58 :: wrJ k (gD (d.f 3).l i))) n (0 + 1) ++ 125 :: r = quoteU (keyU d 0) ++ 58 :: (wrJ k (gD (d.f 3).l 0) ++ dropU (fun i => (if 0 < i then [44] else []) ++ (quoteU (keyU d i) ++ 58 :: wrJ k (gD (d.f 3).l i))) n (0 + 1) ++ 125 :: r) := by simp
        rw [e1]
        have hsp : ∀ z : List UInt8, spc (quoteU (keyU d 0) ++ z) = quoteU (keyU d 0) ++ z := fun z => by
          show spc (34 :: _) = _
          rw [spc_no (by decide)]; rfl
        have hh : ∀ z : List UInt8, (quoteU (keyU d 0) ++ z).head? = some 34 := fun z => rfl
        rw [hsp, hh, if_neg (by decide)]
        have hkd : ∀ i j, i < j → j < n → keyU d i ≠ keyU d j := fun i j hij hj e => by
          have hl' : (strsL d).length = n := by unfold strsL; rw [List.length_map]; exact hl
          rw [← keyU_at (by omega), ← keyU_at (by omega)] at e
          exact List.pairwise_iff_getElem.1 hnd i j (by omega) (by omega) hij e
        have hlen : n ≤ (dropU (fun i => (if 0 < i then [44] else []) ++ (quoteU (keyU d i) ++ 58 :: wrJ k (gD (d.f 3).l i))) n 0).length := by
          have := dropU_len (g := fun i => (if 0 < i then [44] else []) ++ (quoteU (keyU d i) ++ 58 :: wrJ k (gD (d.f 3).l i))) (n := n) (fun i _ => by simp only [List.length_append, List.length_cons]; omega) n 0 (by omega)
          omega
        rw [dropU_at _ (show 0 < n by omega)] at hlen
        have hJ : n ≤ (quoteU (keyU d 0) ++ 58 :: (wrJ k (gD (d.f 3).l 0) ++ dropU (fun i => (if 0 < i then [44] else []) ++ (quoteU (keyU d i) ++ 58 :: wrJ k (gD (d.f 3).l i))) n (0 + 1) ++ 125 :: r)).length + 1 := by
          simp only [List.length_append, List.length_cons, if_neg (Nat.lt_irrefl 0), List.length_nil] at hlen ⊢
          omega
        have := fields_write (f := valueJ k) (n := n) (tx := fun i => wrJ k (gD (d.f 3).l i)) (sz := fun i => sizeJ k (gD (d.f 3).l i)) (vl := fun i => strsJ k (gD (d.f 3).l i)) r (keyU d) hrec hkd (n - 1) 0 _ (m + 1) [] (by omega) (by omega) (by rw [← sumF_all]; omega)
        rw [show (List.range 0).map (keyU d) = [] from rfl] at this
        rw [this]
        show Except.ok (vD 6 0 [] ([] ++ mapF _ n 0) (keysD ((List.range n).map (keyU d))), m + 1 + sumF _ n 0, r) = _
        rw [← mapF_all, ← sumF_all, List.nil_append, strs_range, hl, Nat.add_assoc]
    · have h5 : (d.f 0).n = 5 := by omega
      rw [if_neg h6, if_neg h6, h5]
      have k0 : (d.f 4).l = [] := hn.keys h6
      have e0 : ([91] ++ catU (fun i => sepU d i ++ wrJ k (gD (d.f 3).l i)) (d.f 3).l.length ++ [93]) ++ r = 91 :: (catU (fun i => sepU d i ++ wrJ k (gD (d.f 3).l i)) (d.f 3).l.length ++ 93 :: r) := by simp
      have ks : strsL d = [] := by unfold strsL; rw [k0]; rfl
      rw [e0, ks, value_at (by decide) (by omega), atJ, if_neg (by decide), if_neg (by decide), if_neg (by decide), if_neg (by decide), if_pos rfl]
      generalize hN : (d.f 3).l.length = n at *
      have ef : (fun i => sepU d i ++ wrJ k (gD (d.f 3).l i)) = fun i => (if 0 < i then [44] else []) ++ wrJ k (gD (d.f 3).l i) := by
        funext i
        unfold sepU
        rw [if_neg h6]; simp
      rw [ef]
      by_cases hz : n = 0
      · subst hz
        rw [show catU _ 0 ++ 93 :: r = 93 :: r from rfl, spc_no (by decide), if_pos (show (93 :: r).head? = some 93 from rfl)]
        rfl
      · rw [catU_drop, dropU_at _ (by omega), if_neg (Nat.lt_irrefl 0)]
        have e1 : ([] ++ wrJ k (gD (d.f 3).l 0)) ++ dropU (fun i => (if 0 < i then [44] else []) ++ wrJ k (gD (d.f 3).l i)) n (0 + 1) ++ 93 :: r = wrJ k (gD (d.f 3).l 0) ++ dropU (fun i => (if 0 < i then [44] else []) ++ wrJ k (gD (d.f 3).l i)) n (0 + 1) ++ 93 :: r := by simp
        rw [e1]
        obtain ⟨c, q, ec, hc⟩ := hhd 0 (by omega)
        have hsp : ∀ z : List UInt8, spc (wrJ k (gD (d.f 3).l 0) ++ z) = wrJ k (gD (d.f 3).l 0) ++ z := fun z => by
          rw [ec, List.cons_append, spc_no (beg_sp hc)]
        have hh : ∀ z : List UInt8, (wrJ k (gD (d.f 3).l 0) ++ z).head? = some c := fun z => by rw [ec]; rfl
        rw [List.append_assoc, hsp, hh, if_neg (by simpa using (beg_end hc).1), ← List.append_assoc]
        have hlen : n ≤ (dropU (fun i => (if 0 < i then [44] else []) ++ wrJ k (gD (d.f 3).l i)) n 0).length := by
          have := dropU_len (g := fun i => (if 0 < i then [44] else []) ++ wrJ k (gD (d.f 3).l i)) (n := n) (fun i hil => by
            obtain ⟨c, q, ec, _⟩ := hhd i hil
            rw [ec]; simp only [List.length_append, List.length_cons]; omega) n 0 (by omega)
          omega
        rw [dropU_at _ (show 0 < n by omega)] at hlen
        have hJ : n ≤ (wrJ k (gD (d.f 3).l 0) ++ dropU (fun i => (if 0 < i then [44] else []) ++ wrJ k (gD (d.f 3).l i)) n (0 + 1) ++ 93 :: r).length + 1 := by
          simp only [List.length_append, List.length_cons, if_neg (Nat.lt_irrefl 0), List.length_nil] at hlen ⊢
          omega
        have := items_write (f := valueJ k) (n := n) (tx := fun i => wrJ k (gD (d.f 3).l i)) (sz := fun i => sizeJ k (gD (d.f 3).l i)) (vl := fun i => strsJ k (gD (d.f 3).l i)) r hrec (n - 1) 0 _ (m + 1) [] (by omega) hJ (by rw [← sumF_all]; omega)
        rw [this]
        show Except.ok (vD 5 0 [] ([] ++ mapF _ n 0) [], m + 1 + sumF _ n 0, r) = _
        rw [← mapF_all, ← sumF_all, List.nil_append, Nat.add_assoc]
        rfl
end Go.Proofs.YtjhjleanihgopaaDoor
namespace Go.Proofs.YtjhjleanihgopaaDoor
/-- what is read of a text, and of the text with spaces behind it -/
def Ex {α β : Type} (h : α → β → Prop) : Except JE α → Except JE β → Prop
  | .ok a, .ok b => h a b
  | .error (l, e), .error (l', e') => e' = e ∧ (l' = l + 2 ∨ (l = 0 ∧ l' = 0))
  | _, _ => False
theorem Ex.bind {α β γ δ : Type} {h : α → β → Prop} {g : γ → δ → Prop} {x : Except JE α} {y : Except JE β} {f : α → Except JE γ} {f' : β → Except JE δ} (hx : Ex h x y) (hf : ∀ a b, h a b → x = .ok a → Ex g (f a) (f' b)) : Ex g (x.bind f) (y.bind f') := by
  cases x with
  | error e =>
    cases y with
    | error e' => exact hx
    | ok b => obtain ⟨_, _⟩ := e; exact hx.elim
  | ok a =>
    cases y with
    | error e' => exact hx.elim
    | ok b => exact hf a b hx rfl
end Go.Proofs.YtjhjleanihgopaaDoor
namespace Go.Proofs.YtjhjleanihgopaaDoor
def wtJ : Nat → D → Nat
  | 0, _ => 0
  | k + 1, d => 1 + (d.f 2).s.size + ((d.f 4).l.map fun x => 1 + x.s.size).sum + ((d.f 3).l.map fun x => wtJ k x).sum
structure Gd (k : Nat) (d : D) : Prop where
  every : everyB k d = true
  strs : strsJ k d = d
  ints : intsJ k d
theorem range_gD (g : D → Nat) (l : List D) : (List.range l.length).map (fun i => g (gD l i)) = l.map g := by
  apply List.ext_getElem
  · simp
  · intro i h1 h2
    have : i < l.length := by simpa using h2
    simp [gD_get this]
theorem sum_gD (g : D → Nat) (l : List D) : sumN (fun i => g (gD l i)) l.length = (l.map g).sum := by
  unfold sumN; rw [range_gD]
theorem r_zero : -9223372036854775808 ≤ (0 : Int) ∧ (0 : Int) ≤ 9223372036854775807 := by decide
theorem every_ok : ∀ {k : Nat} {d : D}, everyB k d = true → okJ k d = true
  | 0, _, h => by cases h
  | k + 1, d, h => by
    unfold everyB at h
    rw [Bool.and_eq_true] at h
    have hn := nodeB_ok h.1
    unfold okJ
    rw [decide_eq_true (show 0 ≤ (d.f 0).n ∧ (d.f 0).n ≤ 6 ∧ ((d.f 0).n = 6 → (d.f 4).l.length = (d.f 3).l.length) from ⟨hn.kind.1, hn.kind.2, fun h6 => (hn.obj h6).1⟩), Bool.true_and, Bool.or_eq_true]
    right
    have h2 := h.2
    rw [List.all_eq_true] at h2 ⊢
    exact fun i hi => every_ok (h2 i hi)
def Er {α : Type} (n : Nat) : Except JE α → Prop
  | .ok _ => True
  | .error (l, e) => l ≤ n ∧ e ≠ 0
theorem Er.bind {α β : Type} {n : Nat} {x : Except JE α} {f : α → Except JE β} (h : Er n x) (hf : ∀ a, x = .ok a → Er n (f a)) : Er n (x.bind f) := by
  cases x with
  | error e => exact h
  | ok a => exact hf a rfl
theorem Er.mono {α : Type} {n n' : Nat} {x : Except JE α} (h : Er n x) (hn : n ≤ n') : Er n' x := by
  cases x with
  | error e => exact ⟨Nat.le_trans h.1 hn, h.2⟩
  | ok a => trivial
end Go.Proofs.YtjhjleanihgopaaDoor
namespace Go.Proofs.YtjhjleanihgopaaDoor
theorem word_pref : ∀ (w p q : List UInt8), w = p ++ q → q ≠ [] → wordJ w p = .error (0, 3)
  | [], p, q, h, hq => by
    have := (List.append_eq_nil_iff.1 h.symm).2
    exact (hq this).elim
  | c :: w, [], q, h, hq => rfl
  | c :: w, b :: p, q, h, hq => by
    obtain ⟨rfl, h2⟩ := List.cons.inj h
    show (takeJ (· == c) (c :: p)).bind (wordJ w) = _
    rw [takeJ, if_pos (by simp)]
    exact word_pref w p q h2 hq
def escBad (l : List UInt8) : Bool := match escJ l with | .error (0, 3) => true | _ => false
theorem escBad_ok {l : List UInt8} (h : escBad l = true) : escJ l = .error (0, 3) := by
  unfold escBad at h
  split at h
  · assumption
  · cases h
theorem esc_part (c : UInt8) : ∀ i, i < 5 → i + 1 < (escU c).length → ((escU c).take (i + 1)).head? = some 92 ∧ escBad ((escU c).take (i + 1)).tail = true :=
  all256 (p := fun c => ∀ i, i < 5 → i + 1 < (escU c).length → ((escU c).take (i + 1)).head? = some 92 ∧ escBad ((escU c).take (i + 1)).tail = true) (by decide +kernel) c
theorem body_nil (n : Nat) : bodyJ n [] = .error (0, 3) := by cases n <;> rfl
theorem esc_pref {c : UInt8} {p q : List UInt8} {n : Nat} (h : escU c = p ++ q) (hq : q ≠ []) : bodyJ (n + 1) p = .error (0, 3) := by
  cases p with
  | nil => rfl
  | cons a p =>
    have hl := congrArg List.length h
    simp only [List.length_append, List.length_cons] at hl
    have hq1 : 0 < q.length := List.length_pos_iff.2 hq
    have h6 := escU_length c
    have ht : (escU c).take (p.length + 1) = a :: p := by rw [h]; simp
    obtain ⟨h1, h2⟩ := esc_part c p.length (by omega) (by omega)
    rw [ht] at h1 h2
    have h1 : a = 92 := by simpa using h1
    subst h1
    have h2 : escBad p = true := h2
    show (if (92 : UInt8).toNat < 32 ∨ 126 < (92 : UInt8).toNat then Except.error (p.length + 1, (3 : Int)) else if (92 : UInt8) = 34 then .ok p else if (92 : UInt8) = 92 then (escJ p).bind (bodyJ n) else bodyJ n p) = _
    rw [if_neg (by decide), if_neg (by decide), if_pos rfl, escBad_ok h2]
    rfl
theorem body_pref : ∀ (l p q : List UInt8) (n : Nat), escL l ++ [34] = p ++ q → q ≠ [] → p.length < n → bodyJ n p = .error (0, 3)
  | _, p, q, 0, h, hq, hn => by omega
  | [], p, q, n + 1, h, hq, hn => by
    cases p with
    | nil => rfl
    | cons a p =>
      have hl := congrArg List.length h
      simp only [escL, List.flatMap_nil, List.nil_append, List.length_append, List.length_cons, List.length_nil] at hl
      have hq1 : 0 < q.length := List.length_pos_iff.2 hq
      omega
  | c :: l, p, q, n + 1, h, hq, hn => by
    rw [escL_cons, List.append_assoc] at h
    rcases List.append_eq_append_iff.1 h with ⟨a, ha, hb⟩ | ⟨a, ha, hb⟩
    · rw [ha, body_esc]
      rw [ha] at hn
      have := escU_pos c
      simp only [List.length_append] at hn
      exact body_pref l a q n hb hq (by omega)
    · cases a with
      | nil =>
        rw [List.append_nil] at ha
        have := body_esc c [] n
        rw [List.append_nil] at this
        rw [← ha, this, body_nil]
      | cons x a => exact esc_pref ha (by simp)
theorem quote_cons (s : List UInt8) : quoteU s = 34 :: (escL s ++ [34]) := by simp [quoteU]
theorem str_pref {s p q : List UInt8} (h : quoteU s = p ++ q) (hq : q ≠ []) : strJ p = .error (0, 3) := by
  cases p with
  | nil => rfl
  | cons a p =>
    rw [quote_cons] at h
    have h : 34 :: (escL s ++ [34]) = a :: (p ++ q) := h
    obtain ⟨rfl, h2⟩ := List.cons.inj h
    unfold strJ
    rw [takeJ, if_pos (by decide)]
    show ((bodyJ (p.length + 1) p).bind _) = _
    rw [body_pref s p q _ h2 hq (Nat.lt_succ_self _)]
    rfl
theorem dec_pref : ∀ (n u : Nat) (p q : List UInt8), u < n → Lib.decDigits u = p ++ q → p ≠ [] → ∃ v, v ≤ u ∧ (1 ≤ u → 1 ≤ v) ∧ p = Lib.decDigits v
  | 0, u, p, q, h, _, _ => by omega
  | n + 1, u, p, q, hu, h, hp => by
    by_cases hq : q = []
    · subst hq; rw [List.append_nil] at h; exact ⟨u, Nat.le_refl _, fun h => h, h.symm⟩
    have hq1 : 0 < q.length := List.length_pos_iff.2 hq
    have hp1 : 0 < p.length := List.length_pos_iff.2 hp
    by_cases h10 : u < 10
    · rw [dec_small h10] at h
      have := congrArg List.length h
      simp only [List.length_append, List.length_cons, List.length_nil] at this
      omega
    · rw [dec_big h10] at h
      obtain ⟨q', y, rfl⟩ : ∃ q' y, q = q' ++ [y] := ⟨q.dropLast, q.getLast hq, (List.dropLast_concat_getLast hq).symm⟩
      rw [← List.append_assoc] at h
      have h2 := (List.append_inj' h rfl).1
      obtain ⟨v, h3, h4, h5⟩ := dec_pref n (u / 10) p q' (by omega) h2 hp
      exact ⟨v, by omega, fun _ => h4 (by omega), h5⟩
theorem itoa_pref {n : Int} {p q : List UInt8} (h0 : -9223372036854775808 ≤ n) (h1 : n ≤ 9223372036854775807) (h : Lib.itoa n = p ++ q) (hp : p ≠ []) : numJ p = .error (0, 3) ∨ ∃ v, numJ p = .ok (v, []) := by
  have hw : ∀ v : Int, -9223372036854775808 ≤ v → v ≤ 9223372036854775807 → p = Lib.itoa v → numJ p = .ok (v, []) := fun v a b e => by
    have := num_write (n := v) (r := []) a b (fun c q e => by cases e)
    rw [List.append_nil] at this
    rw [e, this]
  by_cases hn : n < 0
  · unfold Lib.itoa at h
    rw [if_pos hn] at h
    cases p with
    | nil => exact (hp rfl).elim
    | cons a p =>
      obtain ⟨rfl, h2⟩ := List.cons.inj h
      by_cases hp2 : p = []
      · subst hp2; left; rfl
      · obtain ⟨v, h3, h4, h5⟩ := dec_pref _ n.natAbs p q (Nat.lt_succ_self _) h2 hp2
        have h4 := h4 (by omega)
        refine .inr ⟨-(v : Int), hw _ (by omega) (by omega) ?_⟩
        unfold Lib.itoa
        rw [if_pos (by omega), h5]
        simp
  · unfold Lib.itoa at h
    rw [if_neg hn] at h
    obtain ⟨v, h3, h4, h5⟩ := dec_pref _ n.toNat p q (Nat.lt_succ_self _) h hp
    refine .inr ⟨(v : Int), hw _ (by omega) (by omega) ?_⟩
    unfold Lib.itoa
    rw [if_neg (by omega), h5]
    simp
/-- it ends too early, or is read to its end -/
def Sh (x : Except JE (D × Nat × List UInt8)) : Prop := x = .error (0, 3) ∨ ∃ d m, x = .ok (d, m, [])
theorem value_nil (k m : Nat) : valueJ k m [] = .error (0, 3) := by cases k <;> rfl
theorem items_pref {f : Nat → List UInt8 → Except JE (D × Nat × List UInt8)} {n : Nat} {tx : Nat → List UInt8} {sz : Nat → Nat} {vl : Nat → D}
    (hf : ∀ (i m : Nat) (q : List UInt8), i < n → m + sz i ≤ 4096 → numStop q → f m (tx i ++ q) = .ok (vl i, m + sz i, q))
    (hs : ∀ (i m : Nat) (p q : List UInt8), i < n → m + sz i ≤ 4096 → tx i = p ++ q → q ≠ [] → Sh (f m p)) : ∀ (c i j m : Nat) (l : List D) (p q : List UInt8), n - i = c + 1 → p.length < j → m + sumF sz n i ≤ 4096 →
    tx i ++ (dropU (fun i => (if 0 < i then [44] else []) ++ tx i) n (i + 1) ++ [93]) = p ++ q → q ≠ [] → itemsJ f j m p l = .error (0, 3)
  | c, i, 0, m, l, p, q, h, hj, hm, he, hq => by omega
  | c, i, j + 1, m, l, p, q, h, hj, hm, he, hq => by
    rw [sumF_at sz (by omega)] at hm
    unfold itemsJ
    rcases List.append_eq_append_iff.1 he with ⟨a, ha, hb⟩ | ⟨a, ha, hb⟩
    · rw [ha]
      cases a with
      | nil =>
        rw [hf i m [] (by omega) (by omega) (fun c q e => by cases e)]
        rfl
      | cons x a =>
        by_cases hl : i + 1 < n
        · have e : dropU (fun i => (if 0 < i then [44] else []) ++ tx i) n (i + 1) ++ [93] = 44 :: (tx (i + 1) ++ (dropU (fun i => (if 0 < i then [44] else []) ++ tx i) n (i + 1 + 1) ++ [93])) := by
            rw [dropU_at _ hl, if_pos (Nat.succ_pos i)]; simp
          rw [e] at hb
          obtain ⟨rfl, hb2⟩ := List.cons.inj hb
          rw [hf i m _ (by omega) (by omega) (fun c q hq => by cases hq; decide)]
          show (match spc (44 :: a) with
            | [] => Except.error (0, (3 : Int))
            | c :: q => if c = 44 then itemsJ f j (m + sz i) q (l ++ [vl i]) else if c = 93 then .ok (l ++ [vl i], m + sz i, q) else .error (q.length + 1, 3)) = _
          rw [spc_no (by decide)]
          dsimp only
          rw [if_pos rfl]
          cases c with
          | zero => omega
          | succ c => exact items_pref hf hs c (i + 1) j (m + sz i) (l ++ [vl i]) a q (by omega) (by rw [ha] at hj; simp only [List.length_append, List.length_cons] at hj; omega) (by omega) hb2 hq
        · have e : dropU (fun i => (if 0 < i then [44] else []) ++ tx i) n (i + 1) = [] := dropU_end _ (by omega)
          rw [e] at hb
          have := congrArg List.length hb
          simp only [List.nil_append, List.length_append, List.length_cons, List.length_nil] at this
          have hq1 : 0 < q.length := List.length_pos_iff.2 hq
          omega
    · cases a with
      | nil =>
        rw [List.append_nil] at ha
        have := hf i m [] (by omega) (by omega) (fun c q e => by cases e)
        rw [List.append_nil] at this
        rw [← ha, this]
        rfl
      | cons x a =>
        rcases hs i m p (x :: a) (by omega) (by omega) ha (by simp) with h2 | ⟨d, m2, h2⟩
        · rw [h2]; rfl
        · rw [h2]; rfl
theorem fields_pref {f : Nat → List UInt8 → Except JE (D × Nat × List UInt8)} {n : Nat} {tx : Nat → List UInt8} {sz : Nat → Nat} {vl : Nat → D}
    (hf : ∀ (i m : Nat) (q : List UInt8), i < n → m + sz i ≤ 4096 → numStop q → f m (tx i ++ q) = .ok (vl i, m + sz i, q))
    (hs : ∀ (i m : Nat) (p q : List UInt8), i < n → m + sz i ≤ 4096 → tx i = p ++ q → q ≠ [] → Sh (f m p)) (ky : Nat → List UInt8) (hk : ∀ i j, i < j → j < n → ky i ≠ ky j) : ∀ (c i j m : Nat) (l : List D) (p q : List UInt8), n - i = c + 1 → p.length < j → m + sumF sz n i ≤ 4096 →
    quoteU (ky i) ++ 58 :: (tx i ++ (dropU (fun i => (if 0 < i then [44] else []) ++ (quoteU (ky i) ++ 58 :: tx i)) n (i + 1) ++ [125])) = p ++ q → q ≠ [] → fieldsJ f j m p ((List.range i).map ky) l = .error (0, 3)
  | c, i, 0, m, l, p, q, h, hj, hm, he, hq => by omega
  | c, i, j + 1, m, l, p, q, h, hj, hm, he, hq => by
    rw [sumF_at sz (by omega)] at hm
    unfold fieldsJ
    have hnk : ¬ ky i ∈ (List.range i).map ky := fun hh => by
      obtain ⟨a, ha, hb⟩ := List.mem_map.1 hh
      exact hk a i (List.mem_range.1 ha) (by omega) hb
    have hks : (List.range i).map ky ++ [ky i] = (List.range (i + 1)).map ky := by rw [List.range_succ]; simp
    have hsp : ∀ z : List UInt8, spc (quoteU (ky i) ++ z) = quoteU (ky i) ++ z := fun z => by
      show spc (34 :: _) = _
      rw [spc_no (by decide)]; rfl
    have hkey : ∀ a : List UInt8, p = quoteU (ky i) ++ a → 58 :: (tx i ++ (dropU (fun i => (if 0 < i then [44] else []) ++ (quoteU (ky i) ++ 58 :: tx i)) n (i + 1) ++ [125])) = a ++ q → ((strJ (spc p)).bind fun y =>
      if y.1 ∈ (List.range i).map ky then .error ((spc p).length, 7) else
      (takeJ (· == 58) (spc y.2)).bind fun r2 => (f m r2).bind fun x =>
      match spc x.2.2 with
      | [] => .error (0, 3)
      | c :: q => if c = 44 then fieldsJ f j x.2.1 q ((List.range i).map ky ++ [y.1]) (l ++ [x.1]) else if c = 125 then .ok ((List.range i).map ky ++ [y.1], l ++ [x.1], x.2.1, q) else .error (q.length + 1, 3)) = .error (0, 3) := by
      intro a ha hb
      rw [ha, hsp, str_write]
      show (if ky i ∈ (List.range i).map ky then Except.error _ else _) = _
      rw [if_neg hnk]
      cases a with
      | nil => rfl
      | cons x a =>
        obtain ⟨rfl, hb0⟩ := List.cons.inj hb
        dsimp only
        rw [spc_no (by decide), takeJ, if_pos (by decide)]
        show ((f m a).bind _) = _
        rcases List.append_eq_append_iff.1 hb0 with ⟨b, hb1, hb2⟩ | ⟨b, hb1, hb2⟩
        · rw [hb1]
          cases b with
          | nil =>
            rw [hf i m [] (by omega) (by omega) (fun c q e => by cases e)]
            rfl
          | cons x b =>
            by_cases hl : i + 1 < n
            · have e : dropU (fun i => (if 0 < i then [44] else []) ++ (quoteU (ky i) ++ 58 :: tx i)) n (i + 1) ++ [125] = 44 :: (quoteU (ky (i + 1)) ++ 58 :: (tx (i + 1) ++ (dropU (fun i => (if 0 < i then [44] else []) ++ (quoteU (ky i) ++ 58 :: tx i)) n (i + 1 + 1) ++ [125]))) := by
                rw [dropU_at _ hl, if_pos (Nat.succ_pos i)]; simp
              rw [e] at hb2
              obtain ⟨rfl, hb3⟩ := List.cons.inj hb2
              rw [hf i m _ (by omega) (by omega) (fun c q hq => by cases hq; decide)]
              show (match spc (44 :: b) with
                | [] => Except.error (0, (3 : Int))
                | c :: q => if c = 44 then fieldsJ f j (m + sz i) q ((List.range i).map ky ++ [ky i]) (l ++ [vl i]) else if c = 125 then .ok ((List.range i).map ky ++ [ky i], l ++ [vl i], m + sz i, q) else .error (q.length + 1, 3)) = _
              rw [spc_no (by decide)]
              dsimp only
              rw [if_pos rfl, hks]
              cases c with
              | zero => omega
              | succ c => exact fields_pref hf hs ky hk c (i + 1) j (m + sz i) (l ++ [vl i]) b q (by omega) (by rw [ha, hb1] at hj; simp only [List.length_append, List.length_cons] at hj; omega) (by omega) hb3 hq
            · have e : dropU (fun i => (if 0 < i then [44] else []) ++ (quoteU (ky i) ++ 58 :: tx i)) n (i + 1) = [] := dropU_end _ (by omega)
              rw [e] at hb2
              have := congrArg List.length hb2
              simp only [List.nil_append, List.length_append, List.length_cons, List.length_nil] at this
              have hq1 : 0 < q.length := List.length_pos_iff.2 hq
              omega
        · cases b with
          | nil =>
            rw [List.append_nil] at hb1
            have := hf i m [] (by omega) (by omega) (fun c q e => by cases e)
            rw [List.append_nil] at this
            rw [← hb1, this]
            rfl
          | cons x b =>
            rcases hs i m a (x :: b) (by omega) (by omega) hb1 (by simp) with h2 | ⟨d, m2, h2⟩
            · rw [h2]; rfl
            · rw [h2]; rfl
    rcases List.append_eq_append_iff.1 he with ⟨a, ha, hb⟩ | ⟨a, ha, hb⟩
    · exact hkey a ha hb
    · cases a with
      | nil =>
        rw [List.append_nil] at ha
        exact hkey [] (by rw [List.append_nil, ha]) (by simpa using hb.symm)
      | cons x a =>
        have hspp : spc p = p := by
          cases p with
          | nil => rfl
          | cons y p =>
            have : (34 : UInt8) = y := by
              have h3 : 34 :: (escL (ky i) ++ [34]) = y :: (p ++ x :: a) := by rw [← quote_cons]; exact ha
              exact (List.cons.inj h3).1
            subst this
            exact spc_no (by decide)
        rw [hspp, str_pref ha (by simp)]
        rfl
theorem value_pref : ∀ (k : Nat) (d : D) (m : Nat) (p q : List UInt8), everyB k d = true → intsJ k d → m + sizeJ k d ≤ 4096 → wrJ k d = p ++ q → q ≠ [] → Sh (valueJ k m p) ∧ ((d.f 0).n = 3 ∨ (d.f 0).n = 5 ∨ (d.f 0).n = 6 → valueJ k m p = .error (0, 3))
  | 0, d, m, p, q, h, _, _, _, _ => by cases h
  | k + 1, d, m, [], q, h, hi, hm, he, hq => by rw [value_nil]; exact ⟨.inl rfl, fun _ => rfl⟩
  | k + 1, d, m, x :: p, q, h, hi, hm, he, hq => by
    unfold everyB at h
    rw [Bool.and_eq_true] at h
    have hn := nodeB_ok h.1
    have hit : ∀ i, i < (d.f 3).l.length → everyB k (gD (d.f 3).l i) = true := fun i hi => by
      have := h.2
      rw [List.all_eq_true] at this
      exact this i (List.mem_range.2 hi)
    have hk := hn.kind
    have hs : sizeJ (k + 1) d = 1 + sumN (fun i => sizeJ k (gD (d.f 3).l i)) (d.f 3).l.length := rfl
    have hm1 : m + 1 ≤ 4096 := by omega
    by_cases h4 : (d.f 0).n ≤ 4
    · have hw : wrJ (k + 1) d = leafU d := by
        show (if (d.f 0).n ≤ 4 then _ else _) = _
        rw [if_pos h4]
      rw [hw] at he
      unfold leafU at he
      by_cases h0 : (d.f 0).n = 0
      · rw [if_pos h0] at he
        have hx := (List.cons.inj he).1
        subst hx
        have : valueJ (k + 1) m (110 :: p) = .error (0, 3) := by
          rw [value_at (by decide) hm1, atJ, if_pos rfl, word_pref _ _ q he hq]; rfl
        exact ⟨.inl this, fun _ => this⟩
      rw [if_neg h0] at he
      by_cases h1 : (d.f 0).n = 1
      · rw [if_pos h1] at he
        by_cases hb : (d.f 1).n = 0
        · rw [if_pos hb] at he
          have hx := (List.cons.inj he).1
          subst hx
          have : valueJ (k + 1) m (102 :: p) = .error (0, 3) := by
            rw [value_at (by decide) hm1, atJ, if_neg (by decide), if_neg (by decide), if_pos rfl, word_pref _ _ q he hq]; rfl
          exact ⟨.inl this, fun _ => this⟩
        · rw [if_neg hb] at he
          have hx := (List.cons.inj he).1
          subst hx
          have : valueJ (k + 1) m (116 :: p) = .error (0, 3) := by
            rw [value_at (by decide) hm1, atJ, if_neg (by decide), if_pos rfl, word_pref _ _ q he hq]; rfl
          exact ⟨.inl this, fun _ => this⟩
      rw [if_neg h1] at he
      by_cases h2 : (d.f 0).n = 2
      · rw [if_pos h2] at he
        obtain ⟨c, z, e, hc⟩ := itoa_head (d.f 1).n
        have hx : c = x := by rw [e] at he; exact (List.cons.inj he).1
        subst hx
        have hcs : c ≠ 110 ∧ c ≠ 116 ∧ c ≠ 102 ∧ c ≠ 34 ∧ c ≠ 91 ∧ c ≠ 123 := by
          rcases hc with rfl | hc
          · decide
          · exact dig_ns hc
        have hb : beginsJ c = true := by
          rcases hc with rfl | hc
          · decide
          · exact dig_beg hc
        refine ⟨?_, fun hh => by omega⟩
        rw [value_at hb hm1, atJ, if_neg hcs.1, if_neg hcs.2.1, if_neg hcs.2.2.1, if_neg hcs.2.2.2.1, if_neg hcs.2.2.2.2.1, if_neg hcs.2.2.2.2.2]
        rcases itoa_pref hi.1.1 hi.1.2 he (by simp) with h3 | ⟨v, h3⟩
        · rw [h3]; exact .inl rfl
        · rw [h3]; exact .inr ⟨_, _, rfl⟩
      rw [if_neg h2] at he
      have hx : (34 : UInt8) = x := by
        have h3 : 34 :: (escL (d.f 2).s.data.toList ++ [34]) = x :: (p ++ q) := by rw [← quote_cons]; exact he
        exact (List.cons.inj h3).1
      subst hx
      have : valueJ (k + 1) m (34 :: p) = .error (0, 3) := by
        rw [value_at (by decide) hm1, atJ, if_neg (by decide), if_neg (by decide), if_neg (by decide), if_pos rfl, str_pref he hq]; rfl
      exact ⟨.inl this, fun _ => this⟩
    have hw : wrJ (k + 1) d = (if (d.f 0).n = 6 then [123] else [91]) ++ catU (fun i => sepU d i ++ wrJ k (gD (d.f 3).l i)) (d.f 3).l.length ++ (if (d.f 0).n = 6 then [125] else [93]) := by
      show (if (d.f 0).n ≤ 4 then _ else _) = _
      rw [if_neg h4]
    rw [hs] at hm
    rw [hw] at he
    have hrec : ∀ (i m : Nat) (q : List UInt8), i < (d.f 3).l.length → m + sizeJ k (gD (d.f 3).l i) ≤ 4096 → numStop q → valueJ k m (wrJ k (gD (d.f 3).l i) ++ q) = .ok (strsJ k (gD (d.f 3).l i), m + sizeJ k (gD (d.f 3).l i), q) := fun i m q hil hm2 hq =>
      value_write k _ m q (hit i hil) (hi.2 i hil) hm2 hq
    have hpre : ∀ (i m : Nat) (p q : List UInt8), i < (d.f 3).l.length → m + sizeJ k (gD (d.f 3).l i) ≤ 4096 → wrJ k (gD (d.f 3).l i) = p ++ q → q ≠ [] → Sh (valueJ k m p) := fun i m p q hil hm2 he hq =>
      (value_pref k _ m p q (hit i hil) (hi.2 i hil) hm2 he hq).1
    have hhd : ∀ i, i < (d.f 3).l.length → ∃ c q, wrJ k (gD (d.f 3).l i) = c :: q ∧ beginsJ c = true := fun i hil => every_head (hit i hil)
    have hq1 : 0 < q.length := List.length_pos_iff.2 hq
    suffices hS : valueJ (k + 1) m (x :: p) = .error (0, 3) from ⟨.inl hS, fun _ => hS⟩
    by_cases h6 : (d.f 0).n = 6
    · rw [if_pos h6, if_pos h6] at he
      obtain ⟨hl, hnd⟩ := hn.obj h6
      have hE : 123 :: (catU (fun i => sepU d i ++ wrJ k (gD (d.f 3).l i)) (d.f 3).l.length ++ [125]) = x :: (p ++ q) := he
      have hx := (List.cons.inj hE).1
      replace he := (List.cons.inj hE).2
      clear hE
      subst hx
      rw [value_at (by decide) hm1, atJ, if_neg (by decide), if_neg (by decide), if_neg (by decide), if_neg (by decide), if_neg (by decide), if_pos rfl]
      generalize hN : (d.f 3).l.length = n at *
      have hp0 : p = [] → (if (spc p).head? = some 125 then Except.ok (vD 6 0 [] [] [], m + 1, (spc p).tail) else (fieldsJ (valueJ k) (p.length + 1) (m + 1) (spc p) [] []).bind fun y => .ok (vD 6 0 [] y.2.1 (y.1.map fun s => D.str ⟨s.toArray⟩), y.2.2.1, y.2.2.2)) = Except.error (0, (3 : Int)) := fun e => by
        subst e
        rw [if_neg (by decide)]
        rfl
      by_cases hz : n = 0
      · subst hz
        have := congrArg List.length he
        simp only [catU, List.range_zero, List.flatMap_nil, List.nil_append, List.length_append, List.length_cons, List.length_nil] at this
        exact hp0 (List.length_eq_zero_iff.1 (by omega))
      by_cases hpn : p = []
      · exact hp0 hpn
      obtain ⟨y, p', hpp⟩ : ∃ y p', p = y :: p' := by
        cases p with
        | nil => exact (hpn rfl).elim
        | cons y p' => exact ⟨y, p', rfl⟩
      have ef : (fun i => sepU d i ++ wrJ k (gD (d.f 3).l i)) = fun i => (if 0 < i then [44] else []) ++ (quoteU (keyU d i) ++ 58 :: wrJ k (gD (d.f 3).l i)) := by
        funext i
        unfold sepU
        rw [if_pos h6]; simp
      rw [ef, catU_drop, dropU_at _ (by omega), if_neg (Nat.lt_irrefl 0)] at he
      have e1 : ([] ++ (quoteU (keyU d 0) ++ 58 :: wrJ k (gD (d.f 3).l 0))) ++ dropU (fun i => (if 0 < i then [44] else []) ++ (quoteU (keyU d i) ++ 58 :: wrJ k (gD (d.f 3).l i))) n (0 + 1) ++ [125] = quoteU (keyU d 0) ++ 58 :: (wrJ k (gD (d.f 3).l 0) ++ (dropU (fun i => (if 0 < i then [44] else []) ++ (quoteU (keyU d i) ++ 58 :: wrJ k (gD (d.f 3).l i))) n (0 + 1) ++ [125])) := by simp
      rw [e1] at he
      have hy : (34 : UInt8) = y := by
        rw [hpp] at he
        have h3 : 34 :: _ = y :: (p' ++ q) := he
        exact (List.cons.inj h3).1
      have hsp : spc p = p := by rw [hpp, ← hy]; exact spc_no (by decide)
      have hhd2 : p.head? = some 34 := by rw [hpp, ← hy]; rfl
      rw [hsp, hhd2, if_neg (by decide)]
      have hkd : ∀ i j, i < j → j < n → keyU d i ≠ keyU d j := fun i j hij hj e => by
        have hl' : (strsL d).length = n := by unfold strsL; rw [List.length_map]; exact hl
        rw [← keyU_at (by omega), ← keyU_at (by omega)] at e
        exact List.pairwise_iff_getElem.1 hnd i j (by omega) (by omega) hij e
      have := fields_pref (f := valueJ k) (n := n) (tx := fun i => wrJ k (gD (d.f 3).l i)) (sz := fun i => sizeJ k (gD (d.f 3).l i)) (vl := fun i => strsJ k (gD (d.f 3).l i)) hrec hpre (keyU d) hkd (n - 1) 0 (p.length + 1) (m + 1) [] p q (by omega) (Nat.lt_succ_self _) (by rw [← sumF_all]; omega) he hq
      rw [show (List.range 0).map (keyU d) = [] from rfl] at this
      rw [this]
      rfl
    · have h5 : (d.f 0).n = 5 := by omega
      rw [if_neg h6, if_neg h6] at he
      have hE : 91 :: (catU (fun i => sepU d i ++ wrJ k (gD (d.f 3).l i)) (d.f 3).l.length ++ [93]) = x :: (p ++ q) := he
      have hx := (List.cons.inj hE).1
      replace he := (List.cons.inj hE).2
      clear hE
      subst hx
      rw [value_at (by decide) hm1, atJ, if_neg (by decide), if_neg (by decide), if_neg (by decide), if_neg (by decide), if_pos rfl]
      generalize hN : (d.f 3).l.length = n at *
      have hp0 : p = [] → (if (spc p).head? = some 93 then Except.ok (vD 5 0 [] [] [], m + 1, (spc p).tail) else (itemsJ (valueJ k) (p.length + 1) (m + 1) (spc p) []).bind fun y => .ok (vD 5 0 [] y.1 [], y.2.1, y.2.2)) = Except.error (0, (3 : Int)) := fun e => by
        subst e
        rw [if_neg (by decide)]
        show ((valueJ k (m + 1) []).bind _).bind _ = _
        rw [value_nil]
        rfl
      by_cases hz : n = 0
      · subst hz
        have := congrArg List.length he
        simp only [catU, List.range_zero, List.flatMap_nil, List.nil_append, List.length_append, List.length_cons, List.length_nil] at this
        exact hp0 (List.length_eq_zero_iff.1 (by omega))
      by_cases hpn : p = []
      · exact hp0 hpn
      obtain ⟨y, p', hpp⟩ : ∃ y p', p = y :: p' := by
        cases p with
        | nil => exact (hpn rfl).elim
        | cons y p' => exact ⟨y, p', rfl⟩
      have ef : (fun i => sepU d i ++ wrJ k (gD (d.f 3).l i)) = fun i => (if 0 < i then [44] else []) ++ wrJ k (gD (d.f 3).l i) := by
        funext i
        unfold sepU
        rw [if_neg h6]; simp
      rw [ef, catU_drop, dropU_at _ (by omega), if_neg (Nat.lt_irrefl 0), List.nil_append, List.append_assoc] at he
      obtain ⟨c, z, ec, hc⟩ := hhd 0 (by omega)
      have hy : c = y := by
        rw [hpp, ec] at he
        exact (List.cons.inj he).1
      have hsp : spc p = p := by rw [hpp, ← hy]; exact spc_no (beg_sp hc)
      have hhd2 : p.head? = some c := by rw [hpp, ← hy]; rfl
      rw [hsp, hhd2, if_neg (by simpa using (beg_end hc).1)]
      have := items_pref (f := valueJ k) (n := n) (tx := fun i => wrJ k (gD (d.f 3).l i)) (sz := fun i => sizeJ k (gD (d.f 3).l i)) (vl := fun i => strsJ k (gD (d.f 3).l i)) hrec hpre (n - 1) 0 (p.length + 1) (m + 1) [] p q (by omega) (Nat.lt_succ_self _) (by rw [← sumF_all]; omega) he hq
      rw [this]
      rfl
theorem parse_pref {d : D} {p q : List UInt8} (h : everyB 24 d = true) (hi : intsJ 24 d) (hs : sizeJ 24 d ≤ 4096) (hk : (d.f 0).n = 3 ∨ (d.f 0).n = 5 ∨ (d.f 0).n = 6) (he : wrJ 24 d = p ++ q) (hq : q ≠ []) : parseJ p = .error (0, 3) := by
  have := (value_pref 24 d 0 p q h hi (by omega) he hq).2 hk
  unfold parseJ
  rw [this]
  rfl
end Go.Proofs.YtjhjleanihgopaaDoor
