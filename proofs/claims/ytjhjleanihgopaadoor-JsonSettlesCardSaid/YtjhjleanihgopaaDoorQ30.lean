/- Parts of a proof, merged by a program (shake.py). -/
import Derived.Lib.IndexLaws
import Derived.Test.YtjhjleanihgopaaDoorQ29
namespace Go.Proofs.YtjhjleanihgopaaDoor
open Go.RowKit
attribute [local irreducible] wpList Calls Code.wp AW AWo OpOk seqK blockK scopeK loopK endK endKB AC ACB absLex absLexG Yld YldG
set_option maxRecDepth 100000 in
theorem rel_one {P : Program} {s : Sg} {w : World} {v : V} {us : Array Value} (h : relL P s w [v] us.toList) : ∃ u, us = #[u] ∧ rel P s w v u := by
  cases hl : us.toList with
  | nil => rw [hl] at h; simp [relL] at h
  | cons x xs =>
    rw [hl, relL] at h
    cases xs with
    | nil => exact ⟨x, by apply Array.ext'; simpa using hl, h.1⟩
    | cons y ys => simp [relL] at h
set_option maxRecDepth 100000 in
theorem rel_two {P : Program} {s : Sg} {w : World} {v v2 : V} {us : Array Value} (h : relL P s w [v, v2] us.toList) : ∃ u u2, us = #[u, u2] ∧ rel P s w v u ∧ rel P s w v2 u2 := by
  cases hl : us.toList with
  | nil => rw [hl] at h; simp [relL] at h
  | cons x xs =>
    rw [hl, relL] at h
    cases xs with
    | nil => simp [relL] at h
    | cons y ys =>
      rw [relL] at h
      cases ys with
      | nil => exact ⟨x, y, by apply Array.ext'; simpa using hl, h.1, h.2.1⟩
      | cons z zs => simp [relL] at h
set_option maxRecDepth 100000 in
theorem rel_str {P : Program} {s : Sg} {w : World} {b : ByteArray} (h : b.size ≤ maxLen) : rel P s w (.c (.string b)) (.string b) := by rw [rel]; exact ⟨rfl, h⟩
set_option maxRecDepth 100000 in
theorem str_arg {s : Sg} {w : World} {b : ByteArray} {us : Array Value} (h : relL Tryd.prog s w [.c (.string b)] us.toList) : us = #[.string b] ∧ b.size ≤ maxLen := by
  obtain ⟨u, rfl, hu⟩ := rel_one h
  rw [rel] at hu
  exact ⟨by rw [hu.1], hu.2⟩
set_option maxRecDepth 100000 in
theorem int_arg1 {s : Sg} {w : World} {n : Int} {us : Array Value} (h : relL Tryd.prog s w [.c (.int .i64 n)] us.toList) : us = #[.int .i64 n] ∧ R64 n := by
  obtain ⟨u, rfl, hu⟩ := rel_one h
  rw [rel] at hu
  obtain ⟨rfl, h2⟩ := hu
  refine ⟨rfl, ?_⟩
  have h3 : (Lit.int .i64 n).wf = true := h2
  rw [wf_int] at h3
  exact h3
/-- where a byte stands, or less than nothing -/
def ixU (l : List UInt8) (n : Int) : Int := Lib.indexByte l n.toNat.toUInt8
set_option maxRecDepth 100000 in
theorem ix_range (l : List UInt8) (c : UInt8) : -1 ≤ Lib.indexByte l c ∧ Lib.indexByte l c < l.length := by
  refine ⟨Lib.indexByte_ge l c, ?_⟩
  induction l with
  | nil => show (-1 : Int) < 0; decide
  | cons b l ih =>
    unfold Lib.indexByte
    simp only [List.length_cons]
    split
    · omega
    · split
      · omega
      · omega
set_option maxRecDepth 100000 in
theorem ix_neg (l : List UInt8) (c : UInt8) : Lib.indexByte l c < 0 ↔ l.contains c = false := by
  constructor
  · intro h
    have h1 := Lib.indexByte_ge l c
    have h2 := Lib.indexByte_none (show Lib.indexByte l c = -1 by omega)
    cases hc : l.contains c with
    | false => rfl
    | true =>
      obtain ⟨k, hk⟩ := List.getElem?_of_mem (by simpa using hc : c ∈ l)
      exact (h2 k hk).elim
  · intro h
    rcases Int.lt_or_le (Lib.indexByte l c) 0 with h1 | h1
    · exact h1
    · obtain ⟨o, ho⟩ := Int.eq_ofNat_of_zero_le h1
      have := (Lib.indexByte_some ho).1
      have hm : c ∈ l := List.mem_of_getElem? this
      have : l.contains c = true := by simpa using hm
      rw [this] at h; cases h
set_option maxRecDepth 100000 in
theorem indexByte_ac (s : ByteArray) (n : Int) (hs : s.size ≤ 1000000000) : AC EN5 Tryd.prog 62 [.c (.string s), .c (.int .u8 n)] (.c (.int .i64 (ixU s.data.toList n))) := by
  refine ac_of5 (u := .int .i64 (ixU s.data.toList n)) fun σ w us hus he => ?_
  obtain ⟨u, u2, rfl, h1, h2⟩ := rel_two hus
  rw [rel] at h1 h2
  obtain ⟨rfl, -⟩ := h1
  obtain ⟨rfl, -⟩ := h2
  have hr := ix_range s.data.toList n.toNat.toUInt8
  have hl : s.data.toList.length = s.size := rfl
  refine ⟨fun s' w' => rel_i64 (by unfold R64 ixU; omega), (Tryd.strings_IndexByte s n w).mono ?_⟩
  rintro e w' ⟨rfl, rfl⟩
  exact ⟨rfl, Below.refl _ _⟩
set_option maxRecDepth 100000 in
theorem quoteP_ac (s : ByteArray) (hs : s.size ≤ 1048576) : AC EN5 Tryd.prog 58 [.c (.string s)] (.c (.string (bs (quoteU s.data.toList)))) := by
  refine ac_of5 (u := .string (bs (quoteU s.data.toList))) fun σ w us hus he => ?_
  obtain ⟨rfl, -⟩ := str_arg hus
  exact ⟨fun s' w' => rel_str (by have := quote_size s; unfold maxLen; omega), quoteP s w hs⟩
set_option maxRecDepth 100000 in
theorem decimalP_ac (n : Int) : AC EN5 Tryd.prog 50 [.c (.int .i64 n)] (.c (.string (bs (Lib.itoa n)))) := by
  refine ac_of5 (u := .string (bs (Lib.itoa n))) fun σ w us hus he => ?_
  obtain ⟨rfl, h0, h1⟩ := int_arg1 hus
  exact ⟨fun s' w' => rel_str (by have := itoa_size n h0 h1; unfold maxLen; omega), decimalP n h0 h1 w he⟩
set_option maxRecDepth 100000 in
theorem numU_range {l : List UInt8} : R64 (numE (numU l)).1 := by
  cases h : numU l with
  | ok n => exact (itoa_num h).2
  | range => exact R64.zero
  | _ => exact R64.zero
set_option maxRecDepth 100000 in
theorem numE_range {r : Lib.NumEnd Int} : R64 (numE r).2 := by
  rcases numE_ne r with h | h | h <;> rw [h] <;> unfold R64 <;> omega
set_option maxRecDepth 100000 in
theorem numT_E (r : Lib.NumEnd Int) : numT r = .tuple #[.int .i64 (numE r).1, .int .i64 (numE r).2] := by
  cases r <;> rfl
set_option maxRecDepth 100000 in
theorem rel_tup2 {P : Program} {s : Sg} {w : World} {v v2 : V} {u u2 : Value} (h : rel P s w v u) (h2 : rel P s w v2 u2) : rel P s w (.tup [v, v2]) (.tuple #[u, u2]) := by
  rw [rel]; exact ⟨_, rfl, by simp only [relL]; exact ⟨h, h2, trivial⟩⟩
def numVV (l : List UInt8) : V := .tup [.c (.int .i64 (numE (numU l)).1), .c (.int .i64 (numE (numU l)).2)]
set_option maxRecDepth 100000 in
theorem numberP_ac (s : ByteArray) (hs : s.size ≤ 281474976710656) : AC EN5 Tryd.prog 49 [.c (.string s)] (numVV s.data.toList) := by
  refine ac_of5 (u := numT (numU s.data.toList)) fun σ w us hus he => ?_
  obtain ⟨rfl, -⟩ := str_arg hus
  exact ⟨fun s' w' => by rw [numT_E]; exact rel_tup2 (rel_i64 numU_range) (rel_i64 numE_range), numberP s w he hs⟩
def uqE : Option (List UInt8) → Int
  | some _ => 0
  | none => 3
def uqVV (l : List UInt8) : V := .tup [.c (.string (bs ((unquoteU l).getD []))), .c (.int .i64 (uqE (unquoteU l)))]
set_option maxRecDepth 100000 in
theorem uqV_E (r : Option (List UInt8)) : uqV r = .tuple #[.string (bs (r.getD [])), .int .i64 (uqE r)] := by
  cases r <;> rfl
set_option maxRecDepth 100000 in
theorem unq_len (l : List UInt8) : ((unquoteU l).getD []).length ≤ l.length := by
  have key : ∀ (k : Nat) (l : List UInt8), ((unqF k l).getD []).length ≤ l.length := by
    intro k
    induction k with
    | zero => intro l; cases l <;> simp [unqF]
    | succ k ih =>
      intro l
      cases l with
      | nil => simp [unqF]
      | cons c r =>
        show ((stpU (unqF k) c r).getD []).length ≤ _
        have hm : ∀ (q : List UInt8) (x : UInt8), q.length ≤ r.length → (((unqF k q).map (x :: ·)).getD []).length ≤ (c :: r).length := fun q x hq => by
          have := ih q
          cases hx : unqF k q with
          | none => simp
          | some u => rw [hx] at this; simp at this ⊢; omega
        unfold stpU
        by_cases h1 : c.toNat < 32 ∨ 126 < c.toNat ∨ c = 34
        · rw [if_pos h1]; simp
        rw [if_neg h1]
        by_cases h2 : c ≠ 92
        · rw [if_pos h2]; exact hm r c (Nat.le_refl _)
        rw [if_neg h2]
        cases r with
        | nil => simp
        | cons d q =>
          dsimp only
          cases simU d with
          | some x => exact hm q x (by simp)
          | none =>
            dsimp only
            by_cases h3 : d ≠ 117 ∨ q.length < 4
            · rw [if_pos h3]; simp
            rw [if_neg h3]
            cases codeFrom 0 (q.take 4) with
            | none => simp
            | some n =>
              dsimp only
              by_cases h4 : n ≤ 255
              · rw [if_pos h4]; exact hm (q.drop 4) _ (by simp; omega)
              · rw [if_neg h4]; simp
  unfold unquoteU
  split
  · have := key ((l.drop 1).take (l.length - 2)).length ((l.drop 1).take (l.length - 2))
    have h2 : ((l.drop 1).take (l.length - 2)).length ≤ l.length := by rw [List.length_take, List.length_drop]; omega
    exact Nat.le_trans this h2
  · simp
set_option maxRecDepth 100000 in
theorem unq_ok {s : ByteArray} (hs : s.size ≤ 100000) {σ : Sg} {w : World} : rel Tryd.prog σ w (uqVV s.data.toList) (uqV (unquoteU s.data.toList)) := by
  rw [uqV_E]
  refine rel_tup2 (rel_str ?_) (rel_i64 ?_)
  · have := unq_len s.data.toList
    have hl : s.data.toList.length = s.size := rfl
    rw [bs_size]; unfold maxLen; omega
  · unfold R64
    cases unquoteU s.data.toList
    · show -9223372036854775808 ≤ (3 : Int) ∧ (3 : Int) ≤ _; decide
    · show -9223372036854775808 ≤ (0 : Int) ∧ (0 : Int) ≤ _; decide
set_option maxRecDepth 100000 in
theorem unquoteP_ac (s : ByteArray) (hs : s.size ≤ 100000) : AC EN5 Tryd.prog 93 [.c (.string s)] (uqVV s.data.toList) := by
  refine ac_of5 (u := uqV (unquoteU s.data.toList)) fun σ w us hus he => ?_
  obtain ⟨rfl, -⟩ := str_arg hus
  exact ⟨fun s' w' => unq_ok hs, unquoteP s w hs⟩
section
variable {X : Cx} {nn : Nat} {st : Vst nn} {o : Oper} {ops : Array Oper} {l : List Oper} {d : Option Tmp} {KK : Vst nn → Prop} {Q : Vst nn → Prop} {rd wr : Nat → List Nat} {k : Nat}
set_option maxRecDepth 100000 in
theorem s_meth {tR : TypeId} {f : FuncId} {m : Nat} {vs az : List V} {x x' : JS} {r : V} {cs : List V} (cl : JS → List V) (hren : ∀ φ x, renL φ (cl x) = cl x) (hg : o.guard = none) (hd : o.dst = d) (h : act1 X.P st.rs (ev st) o.op = .call f vs) (hv : vs = .bx m 0 :: az)
    (hr : st.rs m = some (.box tR cs)) (hx : cs = cl x) (hc : ACB X.e X.P f (.bx (pn 0) 0 :: az) [.box tR (cl x)] r [.box tR (cl x')]) (has : ∀ φ, renL φ az = az) (hrr : ∀ φ, renV φ r = r)
    (hK : AWo X ops l ((st.res m (.box tR (cl x'))).put d r) KK) : AWo X ops (o :: l) st KK := by
  subst hv
  subst hx
  refine s_callB [m] hg hd h hc (by simp) (by simp only [renL, renV, φin_one, has]) (by simp [hr, renR, hren]) ?_
  have e : ([Res.box tR (cl x')].map (renR (φout [m]))) = [Res.box tR (cl x')] := by simp [renR, hren]
  rw [e, resN_one, hrr]
  exact hK
set_option maxRecDepth 100000 in
theorem g_meth {tR : TypeId} {f : FuncId} {m : Nat} {vs az : List V} {x x' : JS} {r : V} {cs : List V} (cl : JS → List V) (hren : ∀ φ x, renL φ (cl x) = cl x) (hg : o.guard = none) (hd : o.dst = d) (h : act1 X.P st.rs (ev st) o.op = .call f vs) (hv : vs = .bx m 0 :: az)
    (hr : st.rs m = some (.box tR cs)) (hx : cs = cl x) (hc : ACB X.e X.P f (.bx (pn 0) 0 :: az) [.box tR (cl x)] r [.box tR (cl x')]) (has : ∀ φ, renL φ az = az) (hrr : ∀ φ, renV φ r = r) (hl : [m].all (fun n => (wr k).contains n) = true)
    (hK : absLexG X ops rd wr Q (k + 1) l ((st.res m (.box tR (cl x'))).put d r)) : absLexG X ops rd wr Q k (o :: l) st := by
  subst hv
  subst hx
  refine g_callB [m] hg hd h hc (by simp) (by simp only [renL, renV, φin_one, has]) (by simp [hr, renR, hren]) rfl hl ?_
  have e : ([Res.box tR (cl x')].map (renR (φout [m]))) = [Res.box tR (cl x')] := by simp [renR, hren]
  rw [e, resN_one, hrr]
  exact hK
set_option maxRecDepth 100000 in
theorem aw_drawGn (n : Nat) (r w : List (Nat × List Nat)) {id : Nat} {l : List Oper} {K : Exit → Vst nn → Prop} (hn : l.length = n) (hm : X.P.follows .mixedOrders = true) (hB : Region.lexB .any l.toArray = true) (hN : namesB l.toArray (nmf r) (nmf w) = true) (h : absLexG X l.toArray (nmf r) (nmf w) (K .normal) 0 l st) : AW X (.region id l.toArray true) st K :=
  aw_drawG r w hm hB hN h
set_option maxRecDepth 100000 in
/-- a nil slice in a box becomes one under way, named q -/
theorem Sub.ownF {m q i : Nat} {t e : TypeId} {vs : List V} (hq : Nat.ble q 999999 = true) (hmq : m ≠ q) (hr : st.rs m = some (.box t vs)) (hv : vs[i]? = some (.c (.slice none 0 0))) (hf : freeL q vs = true) :
    Sub X st (((st.kill q).res q (.tok e 0)).res m (.box t (vs.set i (.own q e [])))) := fun s w a hI => by
  have hI' := hI.kill q
  let s' : Sg := { s with tb := fun p => if p = q then none else s.tb p, tk := fun p => if p = q then (.slice none 0 0, 0) else s.tk p }
  have hx : Ext (fun p => p = q) s w s' w := ⟨Keeps.refl, fun _ _ => rfl, fun p hp => .inl (by show (if p = q then _ else s.tk p) = _; rw [if_neg hp])⟩
  have hbk : ∀ p ρ, p ≠ q → s'.bk p ρ = s.bk p ρ := fun p ρ hp => by
    funext x; cases ρ <;> simp [Sg.bk, s', hp]
  have hkm : (st.kill q).rs m = some (.box t vs) := by
    simp only [Vst.kill]
    rw [if_neg hmq, hr]
    simp [Res.free, hf]
  have hget : ∀ p ρ, (((st.kill q).res q (.tok e 0)).res m (.box t (vs.set i (.own q e [])))).rs p = some ρ → (p = m ∧ ρ = .box t (vs.set i (.own q e []))) ∨ (p = q ∧ ρ = .tok e 0) ∨ (p ≠ m ∧ p ≠ q ∧ (st.kill q).rs p = some ρ) := fun p ρ hp => by
    simp only [Vst.res, updR] at hp
    split at hp
    · rename_i h1; cases hp; exact .inl ⟨h1, rfl⟩
    · rename_i h1
      split at hp
      · rename_i h2; cases hp; exact .inr (.inl ⟨h2, rfl⟩)
      · rename_i h2; exact .inr (.inr ⟨h1, h2, hp⟩)
  have hbm : ∀ b, s'.bk m (.box t (vs.set i (.own q e []))) b → s.bk m (.box t vs) b := fun b h => h
  refine ⟨s', hI.sz, fun j hj => ?_, hI.df, hI.fr, hI.kp, hI.nf, ?_, hI.pe.ext hx fun p hp => by subst hp; exact Nat.le_of_ble_eq_true hq⟩
  · exact rel.ext hx _ _ (killV_rel (hI.tm j hj)).1 fun n hn => by subst hn; exact (killV_rel (hI.tm j hj)).2
  · refine ⟨hI.mem.fx, fun p ρ hp => ?_, fun p ρ b hp hb => ?_, fun p r ρ ρ' b hp hr' hpb hrb => ?_⟩
    · rcases hget p ρ hp with ⟨rfl, rfl⟩ | ⟨rfl, rfl⟩ | ⟨h1, h2, h3⟩
      · obtain ⟨b, cs, q1, q2, q3, q4⟩ := (hI'.mem.ho p _ hkm).keep hx hmq (by simp [s', hmq]) (by simp [s', hmq]) (fun n hn => by subst hn; exact hf) (fun _ _ => rfl) (fun _ _ _ h => h)
        refine ⟨b, cs, q1, q2, ?_, q4⟩
        have hlt : i < vs.length := (List.getElem?_eq_some_iff.1 hv).1
        have hlt2 : i < cs.toList.length := by rw [← q3.length]; exact hlt
        have hu := q3.get i _ _ hv (List.getElem?_eq_getElem hlt2)
        rw [rel] at hu
        have hset : cs.toList.set i (.slice none 0 0) = cs.toList := by
          rw [← hu.1]; exact List.set_getElem_self hlt2
        have h5 := q3.set i (v := .own q e []) (u := .slice none 0 0) (by
          rw [rel]
          refine ⟨⟨0, none, 0, rfl, Nat.le_refl _, by decide, fun _ => rfl, fun h => by simp at h⟩, ?_, ?_⟩
          · simp [s']
          · intro _; simp [s'])
        rw [hset] at h5
        exact h5
      · exact ⟨by simp [s'], .inl ⟨by simp [s'], by simp [s'], rfl⟩⟩
      · exact (hI'.mem.ho p ρ h3).keep hx h2 (by simp [s', h2]) (by simp [s', h2]) (fun n hn => by subst hn; exact kill_free st n p h3) (fun _ _ => rfl) (fun _ _ _ h => h)
    · rcases hget p ρ hp with ⟨rfl, rfl⟩ | ⟨rfl, rfl⟩ | ⟨h1, h2, h3⟩
      · exact hI'.mem.bs p _ b hkm hb
      · simp [Sg.bk, s'] at hb
      · rw [hbk p ρ h2] at hb; exact hI'.mem.bs p ρ b h3 hb
    · rcases hget p ρ hp with ⟨rfl, rfl⟩ | ⟨rfl, rfl⟩ | ⟨h1, h2, h3⟩ <;> rcases hget r ρ' hr' with ⟨rfl, rfl⟩ | ⟨rfl, rfl⟩ | ⟨g1, g2, g3⟩
      · rfl
      · simp [Sg.bk, s'] at hrb
      · rw [hbk r ρ' g2] at hrb; exact hI'.mem.dj p r _ _ b hkm g3 hpb hrb
      · simp [Sg.bk, s'] at hpb
      · rfl
      · simp [Sg.bk, s'] at hpb
      · rw [hbk p ρ h2] at hpb; exact hI'.mem.dj p r _ _ b h3 hkm hpb hrb
      · simp [Sg.bk, s'] at hrb
      · rw [hbk p ρ h2] at hpb; rw [hbk r ρ' g2] at hrb; exact hI'.mem.dj p r _ _ b h3 g3 hpb hrb
end
end Go.Proofs.YtjhjleanihgopaaDoor
namespace Go.Proofs.YtjhjleanihgopaaDoor
open Go.RowKit
attribute [local irreducible] wpList Calls Code.wp AW AWo OpOk seqK blockK scopeK loopK endK endKB AC ACB absLex absLexG Yld YldG Sub
/-- the reader's cells -/
def cellsP (s : ByteArray) (x : JS) : List V := [.c (.string s), .c (.int .i64 (x.p : Int)), .c (.int .i64 (x.m : Int)), .c (.int .i64 x.bad), .c (.int .i64 x.e)]
def boxP (s : ByteArray) (x : JS) : Res := .box 84 (cellsP s x)
set_option maxRecDepth 100000 in
theorem eta0 (s : ByteArray) (x : JS) : cellsP s x = cellsP s x := rfl
set_option maxRecDepth 100000 in
theorem eta1 (s : ByteArray) (x : JS) : [V.c (.string s), .c (.int .i64 (x.p : Int)), .c (.int .i64 (x.m : Int)), .c (.int .i64 x.bad), .c (.int .i64 x.e)] = cellsP s x := rfl
set_option maxRecDepth 100000 in
theorem eta2 (s : ByteArray) (x : JS) : [V.c (.string s), .c (.int .i64 ((x.p : Int) + 1)), .c (.int .i64 (x.m : Int)), .c (.int .i64 x.bad), .c (.int .i64 x.e)] = cellsP s (goS x) := rfl
set_option maxRecDepth 100000 in
theorem eta3 (s : ByteArray) (x : JS) : [V.c (.string s), .c (.int .i64 (x.p : Int)), .c (.int .i64 ((x.m : Int) + 1)), .c (.int .i64 x.bad), .c (.int .i64 x.e)] = cellsP s ⟨x.p, x.m + 1, x.bad, x.e⟩ := rfl
set_option maxRecDepth 100000 in
theorem failP_acb (s : ByteArray) (x : JS) (q : Nat) (c : Int) : ACB EN5 Tryd.prog 40 [.bx (pn 0) 0, .c (.int .i64 (q : Int)), .c (.int .i64 c)] [boxP s x] (.tup []) [boxP s (failS x q c)] := by
  refine acb_enter (fn := Tryd.f40) 19 Tryd.func40 rfl rfl ?_
  intro pas w0 w he hp
  repeat' (first
    | refine aw_seq ?_
    | refine aw_region ?_
    | refine awo_nil ?_
    | refine k_seq ?_
    | refine k_block ?_
    | refine k_scope ?_
    | refine aw_block ?_
    | refine aw_skip ?_
    | refine aw_label ?_
    | refine aw_scope ?_
    | (apply s_val rfl
       · conv => lhs; whnf
       · conv => lhs; whnf; arg 2; whnf)
    | (apply s_store rfl rfl rfl
       · conv => lhs; whnf
       · conv => lhs; whnf; arg 1; whnf
       · conv => lhs; whnf; arg 1; whnf
       · exact ⟨by kernel_rfl, by kernel_rfl⟩
       · rfl)
    | (apply aw_cond_t
       · conv => lhs; whnf; arg 1; arg 1; whnf)
    | (apply aw_cond_f
       · conv => lhs; whnf; arg 1; arg 1; whnf)
    | (refine aw_cond (by conv => lhs; whnf) ?_ ?_ <;> intro hb)
    | refine aw_ret ?_
    | refine aw_exit ?_
    | refine k_seq_exit ?_
    | refine k_seq_ret ?_
    | refine k_block_ret ?_
    | refine k_block_hit rfl ?_
    | refine k_block_miss rfl ?_
    | refine k_scope_exit ?_
    | refine k_scope_ret ?_
    | refine k_loop_exit ?_
    | refine k_loop_ret ?_
    | refine k_endB ⟨?_, ?_⟩
    | refine k_endB_ret ⟨?_, ?_⟩
    | exact (rfl : _ = V.tup [])
    | (refine ⟨_, by conv => lhs; whnf; arg 2; whnf, ?_⟩; conv => rhs; whnf)
    | exact trivial
    | intro hg)
  · have h : x.e = 0 := by have h : (x.e == 0) = true := by assumption
                           simpa using h
    refine ⟨?_, trivial⟩
    unfold failS; rw [if_pos h]; rfl
  · have h : ¬ x.e = 0 := by have h : (x.e == 0) = false := by assumption
                             simpa using h
    refine ⟨?_, trivial⟩
    unfold failS; rw [if_neg h]; rfl
set_option maxRecDepth 100000 in
theorem peekP_acb (s : ByteArray) (x : JS) (hs : s.size ≤ 1000000000) : ACB EN5 Tryd.prog 63 [.bx (pn 0) 0] [boxP s x] (.c (.int .u8 ((atS s.data.toList x).toNat : Int))) [boxP s x] := by
  refine acb_enter (fn := Tryd.f63) 22 Tryd.func63 rfl rfl ?_
  intro pas w0 w he hp
  repeat' (first
    | refine aw_seq ?_
    | refine aw_region ?_
    | refine awo_nil ?_
    | refine k_seq ?_
    | refine k_block ?_
    | refine k_scope ?_
    | refine aw_block ?_
    | refine aw_skip ?_
    | refine aw_label ?_
    | refine aw_scope ?_
    | (apply s_val rfl
       · conv => lhs; whnf
       · conv => lhs; whnf; arg 2; whnf)
    | (apply aw_draw (by kernel_rfl) (by kernel_rfl))
    | apply y_nil
    | (apply y_val rfl
       · conv => lhs; whnf
       · conv => lhs; whnf; arg 2; whnf)
    | exact apartB_none
    | exact apartB_nil
    | exact all_nil
    | (show List.all _ _ = true; rfl)
    | (show apartB _ _ = true; rfl)
    | exact ([] : List Nat)
    | exact (1000000 : Nat)
    | (apply aw_cond_t
       · conv => lhs; whnf; arg 1; arg 1; whnf)
    | (apply aw_cond_f
       · conv => lhs; whnf; arg 1; arg 1; whnf)
    | (refine aw_cond (by conv => lhs; whnf) ?_ ?_ <;> intro hb)
    | refine aw_ret ?_
    | refine aw_exit ?_
    | refine k_seq_exit ?_
    | refine k_seq_ret ?_
    | refine k_block_ret ?_
    | refine k_block_hit rfl ?_
    | refine k_block_miss rfl ?_
    | refine k_scope_exit ?_
    | refine k_scope_ret ?_
    | refine k_loop_exit ?_
    | refine k_loop_ret ?_
    | refine k_endB ⟨?_, ?_⟩
    | refine k_endB_ret ⟨?_, ?_⟩
    | exact (rfl : _ = V.tup [])
    | (refine ⟨_, by conv => lhs; whnf; arg 2; whnf, ?_⟩; conv => rhs; whnf)
    | exact trivial
    | intro hg)
  · rfl
  · exact ⟨rfl, trivial⟩
  · refine ⟨by kernel_rfl, by omega, ?_⟩
    have h : decide ((x.p : Int) < (s.size : Int)) = true := by assumption
    simpa using h
  · have h : decide ((x.p : Int) < (s.size : Int)) = false := by assumption
    have h2 : s.size ≤ x.p := by simpa using h
    have e : atS s.data.toList x = 0 := by
      unfold atS
      rw [List.getD_eq_getElem?_getD, List.getElem?_eq_none (by show s.size ≤ _; exact h2)]; rfl
    rw [e]; rfl
  · exact ⟨rfl, trivial⟩
  · show Tryd.prog.underlying 9 = _
    kernel_rfl
noncomputable def HsP (s : ByteArray) (x : JS) (p : Nat) : Vst 32 :=
  stS 32 [(0, .bx (pn 0) 0)] [(pn 0, boxP s ⟨p, x.m, x.bad, x.e⟩)]
set_option maxRecDepth 100000 in
theorem sp_ix (c : UInt8) : (0 ≤ Lib.indexByte [32, 9, 10, 13] c) ↔ isSp c = true := by
  have h1 := ix_neg [32, 9, 10, 13] c
  have h2 : [32, 9, 10, 13].contains c = isSp c := all256 (p := fun c => [32, 9, 10, 13].contains c = isSp c) (by decide +kernel) c
  rw [h2] at h1
  constructor
  · intro h
    cases hc : isSp c with
    | true => rfl
    | false => have := h1.2 hc; omega
  · intro h
    rcases Int.lt_or_le (Lib.indexByte [32, 9, 10, 13] c) 0 with h3 | h3
    · rw [h1.1 h3] at h; cases h
    · exact h3
set_option maxRecDepth 100000 in
theorem drop_at2 {s : ByteArray} {p : Nat} (h : p < s.size) : s.data.toList.drop p = s.data.toList.getD p 0 :: s.data.toList.drop (p + 1) := by
  have hl : p < s.data.toList.length := h
  rw [List.drop_eq_getElem_cons hl, List.getD_eq_getElem?_getD, List.getElem?_eq_getElem hl]; rfl
set_option maxRecDepth 100000 in
theorem spc_step {s : ByteArray} {p : Nat} (h : p < s.size) (h2 : isSp (s.data.toList.getD p 0) = true) : spc (s.data.toList.drop p) = spc (s.data.toList.drop (p + 1)) := by
  rw [drop_at2 h]
  unfold spc
  rw [List.dropWhile_cons, if_pos h2]
set_option maxRecDepth 100000 in
theorem spc_stop {s : ByteArray} {p : Nat} (hp : p ≤ s.size) (h : p < s.size → isSp (s.data.toList.getD p 0) = false) : s.data.toList.length - (spc (s.data.toList.drop p)).length = p := by
  have hl : s.data.toList.length = s.size := rfl
  rcases Nat.lt_or_ge p s.size with h1 | h1
  · rw [drop_at2 h1, spc_no (h h1), ← drop_at2 h1, List.length_drop]; omega
  · rw [List.drop_eq_nil_of_le (by omega)]
    show s.data.toList.length - 0 = p
    omega
set_option maxRecDepth 100000 in
theorem byteAt_nat (s : ByteArray) (p : Nat) : byteAt s ((p : Int)).toNat = ((s.data.toList.getD p 0).toNat : Int) := rfl
set_option maxRecDepth 100000 in
theorem u8_back (c : UInt8) : ((c.toNat : Int)).toNat.toUInt8 = c := by simp
set_option maxRecDepth 100000 in
theorem i64_in2 {n : Int} (h : -9223372036854775808 ≤ n ∧ n ≤ 9223372036854775807) : IntKind.i64.min ≤ n ∧ n ≤ IntKind.i64.max := h
set_option maxRecDepth 100000 in
theorem spaceP_acb (s : ByteArray) (x : JS) (hs : s.size ≤ 1000000000) (hp : x.p ≤ s.size) : ACB EN5 Tryd.prog 39 [.bx (pn 0) 0] [boxP s x] (.tup []) [boxP s (spaceS s.data.toList x)] := by
  have hix := fun n => indexByte_ac ⟨#[32, 9, 10, 13]⟩ n (by decide)
  refine acb_enter (fn := Tryd.f39) 32 Tryd.func39 rfl rfl ?_
  intro pas w0 w he hpp
  repeat' (first
    | refine aw_seq ?_
    | refine aw_region ?_
    | refine awo_nil ?_
    | refine k_seq ?_
    | refine k_block ?_
    | refine k_scope ?_
    | refine aw_block ?_
    | refine aw_skip ?_
    | refine aw_label ?_
    | refine aw_scope ?_
    | (apply s_pick_t rfl rfl
       · conv => lhs; whnf
       · conv => lhs; whnf
       · first | exact bT1 (by assumption) | exact bT2 (by assumption))
    | (apply s_pick_f rfl rfl
       · conv => lhs; whnf
       · conv => lhs; whnf
       · first | exact bF1 (by assumption) | exact bF2 (by assumption))
    | (apply s_val rfl
       · conv => lhs; whnf
       · conv => lhs; whnf; arg 2; whnf)
    | (apply s_call rfl
       · conv => lhs; whnf
       · conv => lhs; whnf
       · first | fail)
    | (apply s_store rfl rfl rfl
       · conv => lhs; whnf
       · conv => lhs; whnf; arg 1; whnf
       · conv => lhs; whnf; arg 1; whnf
       · exact ⟨by kernel_rfl, by kernel_rfl⟩
       · rfl)
    | (apply s_wanted_val rfl
       · conv => lhs; whnf
       · conv => lhs; whnf
       · first | rfl | assumption
       · conv => lhs; whnf; arg 2; whnf)
    | (apply s_wanted_call rfl
       · conv => lhs; whnf
       · conv => lhs; whnf
       · first | rfl | assumption
       · conv => lhs; whnf
       · first | fail)
    | (apply s_skip rfl
       · conv => lhs; whnf
       · conv => lhs; whnf
       · first | rfl | assumption)
    | (apply s_guard_val rfl
       · conv => lhs; whnf
       · conv => lhs; whnf
       · conv => lhs; whnf; arg 2; whnf)
    | (apply s_guard_call rfl
       · conv => lhs; whnf
       · conv => lhs; whnf
       · conv => lhs; whnf
       · first | fail)
    | (apply aw_draw (by kernel_rfl) (by kernel_rfl))
    | apply y_nil
    | (apply y_pick_t rfl rfl
       · conv => lhs; whnf
       · conv => lhs; whnf
       · first | exact bT1 (by assumption) | exact bT2 (by assumption))
    | (apply y_pick_f rfl rfl
       · conv => lhs; whnf
       · conv => lhs; whnf
       · first | exact bF1 (by assumption) | exact bF2 (by assumption))
    | (apply y_val rfl
       · conv => lhs; whnf
       · conv => lhs; whnf; arg 2; whnf)
    | (apply y_call rfl
       · conv => lhs; whnf
       · conv => lhs; whnf
       · first | fail)
    | (apply y_store rfl rfl rfl
       · conv => lhs; whnf
       · rfl
       · rfl
       · conv => lhs; whnf; arg 1; whnf
       · conv => lhs; whnf; arg 1; whnf
       · exact ⟨by kernel_rfl, by kernel_rfl⟩
       · rfl)
    | (apply y_wanted_val rfl
       · conv => lhs; whnf
       · conv => lhs; whnf
       · first | rfl | assumption
       · conv => lhs; whnf; arg 2; whnf)
    | (apply y_wanted_call rfl
       · conv => lhs; whnf
       · conv => lhs; whnf
       · first | rfl | assumption
       · conv => lhs; whnf
       · first | fail)
    | (apply y_skip rfl
       · conv => lhs; whnf
       · conv => lhs; whnf
       · first | rfl | assumption)
    | (apply y_guard_val rfl
       · conv => lhs; whnf
       · conv => lhs; whnf
       · conv => lhs; whnf; arg 2; whnf)
    | (apply y_guard_call rfl
       · conv => lhs; whnf
       · conv => lhs; whnf
       · conv => lhs; whnf
       · first | fail)
    | exact apartB_none
    | exact apartB_nil
    | exact all_nil
    | (show List.all _ _ = true; rfl)
    | (show apartB _ _ = true; rfl)
    | exact ([] : List Nat)
    | exact (1000000 : Nat)
    | (apply aw_cond_t
       · conv => lhs; whnf; arg 1; arg 1; whnf)
    | (apply aw_cond_f
       · conv => lhs; whnf; arg 1; arg 1; whnf)
    | (refine aw_cond (by conv => lhs; whnf) ?_ ?_ <;> intro hb)
    | refine aw_ret ?_
    | refine aw_exit ?_
    | refine k_seq_exit ?_
    | refine k_seq_ret ?_
    | refine k_block_ret ?_
    | refine k_block_hit rfl ?_
    | refine k_block_miss rfl ?_
    | refine k_scope_exit ?_
    | refine k_scope_ret ?_
    | refine k_loop_exit ?_
    | refine k_loop_ret ?_
    | refine k_endB ⟨?_, ?_⟩
    | refine k_endB_ret ⟨?_, ?_⟩
    | exact (rfl : _ = V.tup [])
    | (refine ⟨_, by conv => lhs; whnf; arg 2; whnf, ?_⟩; conv => rhs; whnf)
    | exact trivial
    | intro hg)
  refine aw_loop (fun j st => ∃ p, p + j = s.size ∧ spc (s.data.toList.drop p) = spc (s.data.toList.drop x.p) ∧ Sub ⟨Tryd.prog, pas, w0, w, EN5, he, hpp⟩ st (HsP s x p)) (s.size - x.p) ⟨x.p, by omega, rfl, ?_⟩ ?_
  · exact Sub.live ⟨rfl, trivial⟩ ⟨rfl, trivial⟩
  · rintro j st ⟨p, hij, hsp, hs2⟩
    refine aw_sub hs2 ?_
    clear hs2
    repeat' (first
    | refine aw_seq ?_
    | refine aw_region ?_
    | refine awo_nil ?_
    | refine k_seq ?_
    | refine k_block ?_
    | refine k_scope ?_
    | refine aw_block ?_
    | refine aw_skip ?_
    | refine aw_label ?_
    | refine aw_scope ?_
    | (apply s_pick_t rfl rfl
       · conv => lhs; whnf
       · conv => lhs; whnf
       · first | exact bT1 (by assumption) | exact bT2 (by assumption))
    | (apply s_pick_f rfl rfl
       · conv => lhs; whnf
       · conv => lhs; whnf
       · first | exact bF1 (by assumption) | exact bF2 (by assumption))
    | (apply s_val rfl
       · conv => lhs; whnf
       · conv => lhs; whnf; arg 2; whnf)
    | (apply s_call rfl
       · conv => lhs; whnf
       · conv => lhs; whnf
       · first | exact hix _)
    | (apply s_store rfl rfl rfl
       · conv => lhs; whnf
       · conv => lhs; whnf; arg 1; whnf
       · conv => lhs; whnf; arg 1; whnf
       · exact ⟨by kernel_rfl, by kernel_rfl⟩
       · rfl)
    | (apply s_wanted_val rfl
       · conv => lhs; whnf
       · conv => lhs; whnf
       · first | rfl | assumption
       · conv => lhs; whnf; arg 2; whnf)
    | (apply s_wanted_call rfl
       · conv => lhs; whnf
       · conv => lhs; whnf
       · first | rfl | assumption
       · conv => lhs; whnf
       · first | exact hix _)
    | (apply s_skip rfl
       · conv => lhs; whnf
       · conv => lhs; whnf
       · first | rfl | assumption)
    | (apply s_guard_val rfl
       · conv => lhs; whnf
       · conv => lhs; whnf
       · conv => lhs; whnf; arg 2; whnf)
    | (apply s_guard_call rfl
       · conv => lhs; whnf
       · conv => lhs; whnf
       · conv => lhs; whnf
       · first | exact hix _)
    | (apply aw_draw (by kernel_rfl) (by kernel_rfl))
    | apply y_nil
    | (apply y_pick_t rfl rfl
       · conv => lhs; whnf
       · conv => lhs; whnf
       · first | exact bT1 (by assumption) | exact bT2 (by assumption))
    | (apply y_pick_f rfl rfl
       · conv => lhs; whnf
       · conv => lhs; whnf
       · first | exact bF1 (by assumption) | exact bF2 (by assumption))
    | (apply y_val rfl
       · conv => lhs; whnf
       · conv => lhs; whnf; arg 2; whnf)
    | (apply y_call rfl
       · conv => lhs; whnf
       · conv => lhs; whnf
       · first | exact hix _)
    | (apply y_store rfl rfl rfl
       · conv => lhs; whnf
       · rfl
       · rfl
       · conv => lhs; whnf; arg 1; whnf
       · conv => lhs; whnf; arg 1; whnf
       · exact ⟨by kernel_rfl, by kernel_rfl⟩
       · rfl)
    | (apply y_wanted_val rfl
       · conv => lhs; whnf
       · conv => lhs; whnf
       · first | rfl | assumption
       · conv => lhs; whnf; arg 2; whnf)
    | (apply y_wanted_call rfl
       · conv => lhs; whnf
       · conv => lhs; whnf
       · first | rfl | assumption
       · conv => lhs; whnf
       · first | exact hix _)
    | (apply y_skip rfl
       · conv => lhs; whnf
       · conv => lhs; whnf
       · first | rfl | assumption)
    | (apply y_guard_val rfl
       · conv => lhs; whnf
       · conv => lhs; whnf
       · conv => lhs; whnf; arg 2; whnf)
    | (apply y_guard_call rfl
       · conv => lhs; whnf
       · conv => lhs; whnf
       · conv => lhs; whnf
       · first | exact hix _)
    | exact apartB_none
    | exact apartB_nil
    | exact all_nil
    | (show List.all _ _ = true; rfl)
    | (show apartB _ _ = true; rfl)
    | exact ([] : List Nat)
    | exact (1000000 : Nat)
    | (apply aw_cond_t
       · conv => lhs; whnf; arg 1; arg 1; whnf)
    | (apply aw_cond_f
       · conv => lhs; whnf; arg 1; arg 1; whnf)
    | (refine aw_cond (by conv => lhs; whnf) ?_ ?_ <;> intro hb)
    | refine aw_ret ?_
    | refine aw_exit ?_
    | refine k_seq_exit ?_
    | refine k_seq_ret ?_
    | refine k_block_ret ?_
    | refine k_block_hit rfl ?_
    | refine k_block_miss rfl ?_
    | refine k_scope_exit ?_
    | refine k_scope_ret ?_
    | refine k_loop_exit ?_
    | refine k_loop_ret ?_
    | refine k_endB ⟨?_, ?_⟩
    | refine k_endB_ret ⟨?_, ?_⟩
    | exact (rfl : _ = V.tup [])
    | (refine ⟨_, by conv => lhs; whnf; arg 2; whnf, ?_⟩; conv => rhs; whnf)
    | exact trivial
    | intro hg)
    · have h1 : (decide ((p : Int) < (s.size : Int)) == true) = true := by assumption
      have hlt : p < s.size := by simpa using h1
      have h2 : decide (ixU [32, 9, 10, 13] (byteAt s (p : Int).toNat) ≥ 0) = true := by assumption
      have h3 : isSp (s.data.toList.getD p 0) = true := by
        rw [byteAt_nat] at h2
        unfold ixU at h2
        rw [u8_back] at h2
        exact (sp_ix _).1 (by simpa using h2)
      exact k_loop_next (j' := j - 1) (by omega) ⟨p + 1, by omega, by rw [← hsp]; exact (spc_step hlt h3).symm, Sub.live ⟨rfl, trivial⟩ ⟨rfl, trivial⟩⟩
    · have h1 : (decide ((p : Int) < (s.size : Int)) == true) = true := by assumption
      have hlt : p < s.size := by simpa using h1
      exact i64_in2 (by dsimp only; omega)
    · have h1 : (decide ((p : Int) < (s.size : Int)) == true) = true := by assumption
      have hlt : p < s.size := by simpa using h1
      have h2 : decide (ixU [32, 9, 10, 13] (byteAt s (p : Int).toNat) ≥ 0) = false := by assumption
      have h3 : isSp (s.data.toList.getD p 0) = false := by
        rw [byteAt_nat] at h2
        unfold ixU at h2
        rw [u8_back] at h2
        cases hc : isSp (s.data.toList.getD p 0) with
        | false => rfl
        | true =>
          have h5 := (sp_ix _).2 hc
          have h6 : ¬ (Lib.indexByte [32, 9, 10, 13] (s.data.toList.getD p 0) ≥ 0) := of_decide_eq_false h2
          omega
      have e : spaceS s.data.toList x = ⟨p, x.m, x.bad, x.e⟩ := by
        unfold spaceS; rw [← hsp, spc_stop (by omega) fun _ => h3]
      rw [e]
      exact ⟨rfl, trivial⟩
    · have h1 : (decide ((p : Int) < (s.size : Int)) == true) = true := by assumption
      have hlt : p < s.size := by simpa using h1
      exact ⟨by kernel_rfl, by dsimp only; omega, by dsimp only; omega⟩
    · have h1 : (decide ((p : Int) < (s.size : Int)) == true) = false := by assumption
      have hle : s.size ≤ p := by simpa using h1
      have e : spaceS s.data.toList x = ⟨p, x.m, x.bad, x.e⟩ := by
        unfold spaceS; rw [← hsp, spc_stop (by omega) fun h => by omega]
      rw [e]
      exact ⟨rfl, trivial⟩
    · show Tryd.prog.underlying 9 = _
      kernel_rfl
set_option maxRecDepth 100000 in
theorem take_not {S q : List UInt8} {x : JS} (h : ¬ (x.e = 0 ∧ x.p < S.length ∧ q.contains (atS S x) = true)) : takeS S q x = (0, failS x x.p 3) := by
  unfold takeS; rw [if_neg h]
set_option maxRecDepth 100000 in
theorem take_is {S q : List UInt8} {x : JS} (h : x.e = 0 ∧ x.p < S.length ∧ q.contains (atS S x) = true) : takeS S q x = (atS S x, goS x) := by
  unfold takeS; rw [if_pos h]
set_option maxRecDepth 100000 in
theorem ix_at (l s : ByteArray) (x : JS) : ixU l.data.toList (byteAt s (x.p : Int).toNat) < 0 ↔ l.data.toList.contains (atS s.data.toList x) = false := by
  rw [byteAt_nat]; unfold ixU; rw [u8_back]; exact ix_neg _ _
set_option maxRecDepth 100000 in
theorem ne_of_g {n : Int} (h : ((n != 0) == false) = true) : n = 0 := by simpa using h
set_option maxRecDepth 100000 in
theorem ne_of_g2 {n : Int} (h : ((n != 0) == false) = false) : n ≠ 0 := by simpa using h
set_option maxRecDepth 100000 in
theorem ne_of_p {p q : Nat} (h : (((p : Int) == (q : Int)) == false) = true) : p ≠ q := by
  intro e; subst e; simp at h
set_option maxRecDepth 100000 in
theorem ne_of_p2 {p q : Nat} (h : (((p : Int) == (q : Int)) == false) = false) : p = q := by
  simp at h; omega
set_option maxRecDepth 100000 in
theorem takeP_acb (s : ByteArray) (x : JS) (l : ByteArray) (hs : s.size ≤ 1000000000) (hl : l.size ≤ 1000000000) (hp : x.p ≤ s.size) : ACB EN5 Tryd.prog 92 [.bx (pn 0) 0, .c (.string l)] [boxP s x] (.c (.int .u8 ((takeS s.data.toList l.data.toList x).1.toNat : Int))) [boxP s (takeS s.data.toList l.data.toList x).2] := by
  have hix := fun n => indexByte_ac l n hl
  have hlen : s.data.toList.length = s.size := rfl
  refine acb_enter (fn := Tryd.f92) 59 Tryd.func92 rfl rfl ?_
  intro pas w0 w he hpp
  repeat' (first
    | (apply s_meth (cellsP s) (fun _ _ => rfl) rfl
       · conv => lhs; whnf
       · conv => lhs; whnf
       · rfl
       · conv => lhs; whnf; arg 1; whnf
       · first | exact eta0 _ _ | exact eta1 _ _ | exact eta2 _ _ | exact eta3 _ _ | exact eta6 _ | exact etaQ0 _ _ | exact etaQ1 _ _ | exact etaQ2 _ _ | exact etaQ3 _ _ | exact etaQ6 _
       · first | exact failP_acb _ _ _ _
       · exact fun _ => rfl
       · exact fun _ => rfl)
    | (apply s_wanted_meth (cellsP s) (fun _ _ => rfl) rfl
       · conv => lhs; whnf
       · conv => lhs; whnf
       · first | rfl | assumption
       · conv => lhs; whnf
       · rfl
       · conv => lhs; whnf; arg 1; whnf
       · first | exact eta0 _ _ | exact eta1 _ _ | exact eta2 _ _ | exact eta3 _ _ | exact eta6 _ | exact etaQ0 _ _ | exact etaQ1 _ _ | exact etaQ2 _ _ | exact etaQ3 _ _ | exact etaQ6 _
       · first | exact failP_acb _ _ _ _
       · exact fun _ => rfl
       · exact fun _ => rfl)
    | (apply s_skip rfl
       · conv => lhs; whnf
       · conv => lhs; whnf
       · first | rfl | assumption)
    | (apply s_guard_meth (cellsP s) (fun _ _ => rfl) rfl
       · conv => lhs; whnf
       · conv => lhs; whnf
       · conv => lhs; whnf
       · rfl
       · conv => lhs; whnf; arg 1; whnf
       · first | exact eta0 _ _ | exact eta1 _ _ | exact eta2 _ _ | exact eta3 _ _ | exact eta6 _ | exact etaQ0 _ _ | exact etaQ1 _ _ | exact etaQ2 _ _ | exact etaQ3 _ _ | exact etaQ6 _
       · first | exact failP_acb _ _ _ _
       · exact fun _ => rfl
       · exact fun _ => rfl)
    | refine aw_seq ?_
    | refine aw_region ?_
    | refine awo_nil ?_
    | refine k_seq ?_
    | refine k_block ?_
    | refine k_scope ?_
    | refine aw_block ?_
    | refine aw_skip ?_
    | refine aw_label ?_
    | refine aw_scope ?_
    | (apply s_pick_t rfl rfl
       · conv => lhs; whnf
       · conv => lhs; whnf
       · first | exact bT1 (by assumption) | exact bT2 (by assumption))
    | (apply s_pick_f rfl rfl
       · conv => lhs; whnf
       · conv => lhs; whnf
       · first | exact bF1 (by assumption) | exact bF2 (by assumption))
    | (apply s_val rfl
       · conv => lhs; whnf
       · conv => lhs; whnf; arg 2; whnf)
    | (apply s_call rfl
       · conv => lhs; whnf
       · conv => lhs; whnf
       · first | exact hix _)
    | (apply s_store rfl rfl rfl
       · conv => lhs; whnf
       · conv => lhs; whnf; arg 1; whnf
       · conv => lhs; whnf; arg 1; whnf
       · exact ⟨by kernel_rfl, by kernel_rfl⟩
       · rfl)
    | (apply s_wanted_val rfl
       · conv => lhs; whnf
       · conv => lhs; whnf
       · first | rfl | assumption
       · conv => lhs; whnf; arg 2; whnf)
    | (apply s_wanted_call rfl
       · conv => lhs; whnf
       · conv => lhs; whnf
       · first | rfl | assumption
       · conv => lhs; whnf
       · first | exact hix _)
    | (apply s_skip rfl
       · conv => lhs; whnf
       · conv => lhs; whnf
       · first | rfl | assumption)
    | (apply s_guard_val rfl
       · conv => lhs; whnf
       · conv => lhs; whnf
       · conv => lhs; whnf; arg 2; whnf)
    | (apply s_guard_call rfl
       · conv => lhs; whnf
       · conv => lhs; whnf
       · conv => lhs; whnf
       · first | exact hix _)
    | (apply aw_draw (by kernel_rfl) (by kernel_rfl))
    | apply y_nil
    | (apply y_pick_t rfl rfl
       · conv => lhs; whnf
       · conv => lhs; whnf
       · first | exact bT1 (by assumption) | exact bT2 (by assumption))
    | (apply y_pick_f rfl rfl
       · conv => lhs; whnf
       · conv => lhs; whnf
       · first | exact bF1 (by assumption) | exact bF2 (by assumption))
    | (apply y_val rfl
       · conv => lhs; whnf
       · conv => lhs; whnf; arg 2; whnf)
    | (apply y_call rfl
       · conv => lhs; whnf
       · conv => lhs; whnf
       · first | exact hix _)
    | (apply y_store rfl rfl rfl
       · conv => lhs; whnf
       · rfl
       · rfl
       · conv => lhs; whnf; arg 1; whnf
       · conv => lhs; whnf; arg 1; whnf
       · exact ⟨by kernel_rfl, by kernel_rfl⟩
       · rfl)
    | (apply y_wanted_val rfl
       · conv => lhs; whnf
       · conv => lhs; whnf
       · first | rfl | assumption
       · conv => lhs; whnf; arg 2; whnf)
    | (apply y_wanted_call rfl
       · conv => lhs; whnf
       · conv => lhs; whnf
       · first | rfl | assumption
       · conv => lhs; whnf
       · first | exact hix _)
    | (apply y_skip rfl
       · conv => lhs; whnf
       · conv => lhs; whnf
       · first | rfl | assumption)
    | (apply y_guard_val rfl
       · conv => lhs; whnf
       · conv => lhs; whnf
       · conv => lhs; whnf; arg 2; whnf)
    | (apply y_guard_call rfl
       · conv => lhs; whnf
       · conv => lhs; whnf
       · conv => lhs; whnf
       · first | exact hix _)
    | exact apartB_none
    | exact apartB_nil
    | exact all_nil
    | (show List.all _ _ = true; rfl)
    | (show apartB _ _ = true; rfl)
    | exact ([] : List Nat)
    | exact (1000000 : Nat)
    | (apply aw_cond_t
       · conv => lhs; whnf; arg 1; arg 1; whnf)
    | (apply aw_cond_f
       · conv => lhs; whnf; arg 1; arg 1; whnf)
    | (refine aw_cond (by conv => lhs; whnf) ?_ ?_ <;> intro hb)
    | refine aw_ret ?_
    | refine aw_exit ?_
    | refine k_seq_exit ?_
    | refine k_seq_ret ?_
    | refine k_block_ret ?_
    | refine k_block_hit rfl ?_
    | refine k_block_miss rfl ?_
    | refine k_scope_exit ?_
    | refine k_scope_ret ?_
    | refine k_loop_exit ?_
    | refine k_loop_ret ?_
    | refine k_endB ⟨?_, ?_⟩
    | refine k_endB_ret ⟨?_, ?_⟩
    | exact (rfl : _ = V.tup [])
    | (refine ⟨_, by conv => lhs; whnf; arg 2; whnf, ?_⟩; conv => rhs; whnf)
    | exact trivial
    | intro hg)
  all_goals try (show Tryd.prog.underlying 9 = _; kernel_rfl)
  all_goals
    first
      | (have g := ne_of_g2 (n := x.e) (by assumption)
         rw [take_not fun h => g h.1]
         first
           | rfl
           | exact ⟨rfl, trivial⟩)
      | (have g0 := ne_of_g (n := x.e) (by assumption)
         first
           | (have g := ne_of_p2 (p := x.p) (q := s.size) (by assumption)
              rw [take_not fun h => by omega]
              first
                | rfl
                | exact ⟨rfl, trivial⟩)
           | (have g := ne_of_p (p := x.p) (q := s.size) (by assumption)
              first
                | exact ⟨by kernel_rfl, by omega, by omega⟩
                | exact i64_in2 (by omega)
                | (have h1 : decide (ixU l.data.toList (byteAt s (x.p : Int).toNat) < 0) = true := by assumption
                   have h2 := (ix_at l s x).1 (of_decide_eq_true h1)
                   rw [take_not fun h => by rw [h2] at h; cases h.2.2]
                   first
                     | rfl
                     | exact ⟨rfl, trivial⟩)
                | (have h1 : decide (ixU l.data.toList (byteAt s (x.p : Int).toNat) < 0) = false := by assumption
                   have h2 : l.data.toList.contains (atS s.data.toList x) = true := by
                     cases hc : l.data.toList.contains (atS s.data.toList x) with
                     | true => rfl
                     | false => exact (of_decide_eq_false h1 ((ix_at l s x).2 hc)).elim
                   rw [take_is ⟨g0, by omega, h2⟩]
                   first
                     | exact ⟨rfl, trivial⟩
                     | (show V.c (.int .u8 _) = V.c (.int .u8 (byteAt s ((x.p : Int) + 1 - 1).toNat))
                        rw [show (x.p : Int) + 1 - 1 = (x.p : Int) by omega]; rfl))))
end Go.Proofs.YtjhjleanihgopaaDoor
namespace Go.Proofs.YtjhjleanihgopaaDoor
def sumN (g : Nat → Nat) (n : Nat) : Nat := ((List.range n).map g).sum
theorem sumN_succ (g : Nat → Nat) (n : Nat) : sumN g (n + 1) = sumN g n + g n := by
  unfold sumN; rw [List.range_succ, List.map_append, List.sum_append]; simp
def maxN (g : Nat → Nat) (n : Nat) : Nat := (List.range n).foldl (fun m i => max m (g i)) 0
theorem maxN_succ (g : Nat → Nat) (n : Nat) : maxN g (n + 1) = max (maxN g n) (g n) := by
  unfold maxN; rw [List.range_succ, List.foldl_append]; rfl
def sizeJ : Nat → D → Nat
  | 0, _ => 1
  | k + 1, d => 1 + sumN (fun i => sizeJ k (gD (d.f 3).l i)) (d.f 3).l.length
def depthJ : Nat → D → Nat
  | 0, _ => 1
  | k + 1, d => maxN (fun i => depthJ k (gD (d.f 3).l i)) (d.f 3).l.length + 1
def strsL (d : D) : List (List UInt8) := (d.f 4).l.map fun x => x.s.data.toList
/-- a node of a plain value is valid -/
def nodeB (d : D) : Bool :=
  ((d.f 0).n == 1 || (d.f 0).n == 2 || (d.f 1).n == 0) && ((d.f 0).n == 3 || (d.f 0).n == 4 || (d.f 2).s.data.toList == []) &&
  ((d.f 0).n == 6 || (d.f 4).l.length == 0) && ((d.f 0).n == 6 || (d.f 0).n == 5 || (d.f 3).l.length == 0) &&
  decide (0 ≤ (d.f 0).n ∧ (d.f 0).n ≤ 6) && (!((d.f 0).n == 1) || (d.f 1).n == 0 || (d.f 1).n == 1) &&
  (!((d.f 0).n == 4) || enumB (d.f 2).s) && (!((d.f 0).n == 6) || ((d.f 4).l.length == (d.f 3).l.length && decide (strsL d).Nodup))
where enumB (s : ByteArray) : Bool := nameB s && !(s.data.toList == [116, 114, 117, 101]) && !(s.data.toList == [102, 97, 108, 115, 101]) && !(s.data.toList == [110, 117, 108, 108])
def everyB : Nat → D → Bool
  | 0, _ => false
  | k + 1, d => nodeB d && (List.range (d.f 3).l.length).all fun i => everyB k (gD (d.f 3).l i)
/-- strings in the place of enumeration values -/
def strsJ : Nat → D → D
  | 0, d => d
  | k + 1, d => vD (if (d.f 0).n = 4 then 3 else (d.f 0).n) (d.f 1).n (d.f 2).s.data.toList ((List.range (d.f 3).l.length).map fun i => strsJ k (gD (d.f 3).l i)) (keysD (strsL d))
/-- its integers are ints -/
def intsJ : Nat → D → Prop
  | 0, _ => True
  | k + 1, d => (-9223372036854775808 ≤ (d.f 1).n ∧ (d.f 1).n ≤ 9223372036854775807) ∧ ∀ i, i < (d.f 3).l.length → intsJ k (gD (d.f 3).l i)
structure NodeOk (d : D) : Prop where
  num : (d.f 0).n ≠ 1 → (d.f 0).n ≠ 2 → (d.f 1).n = 0
  word : (d.f 0).n ≠ 3 → (d.f 0).n ≠ 4 → (d.f 2).s.data.toList = []
  keys : (d.f 0).n ≠ 6 → (d.f 4).l = []
  items : (d.f 0).n ≠ 6 → (d.f 0).n ≠ 5 → (d.f 3).l = []
  kind : 0 ≤ (d.f 0).n ∧ (d.f 0).n ≤ 6
  bool : (d.f 0).n = 1 → (d.f 1).n = 0 ∨ (d.f 1).n = 1
  obj : (d.f 0).n = 6 → (d.f 4).l.length = (d.f 3).l.length ∧ (strsL d).Nodup
theorem nodeB_ok {d : D} (h : nodeB d = true) : NodeOk d := by
  unfold nodeB at h
  simp only [Bool.and_eq_true, Bool.or_eq_true, beq_iff_eq, decide_eq_true_eq, Bool.not_eq_true', beq_eq_false_iff_ne] at h
  obtain ⟨⟨⟨⟨⟨⟨⟨h1, h2⟩, h3⟩, h4⟩, h5⟩, h6⟩, h7⟩, h8⟩ := h
  refine ⟨fun a b => ?_, fun a b => ?_, fun a => ?_, fun a b => ?_, h5, fun a => ?_, fun a => ?_⟩
  · rcases h1 with (h1 | h1) | h1
    · exact (a h1).elim
    · exact (b h1).elim
    · exact h1
  · rcases h2 with (h1 | h1) | h1
    · exact (a h1).elim
    · exact (b h1).elim
    · exact h1
  · rcases h3 with h1 | h1
    · exact (a h1).elim
    · exact List.length_eq_zero_iff.1 h1
  · rcases h4 with (h1 | h1) | h1
    · exact (a h1).elim
    · exact (b h1).elim
    · exact List.length_eq_zero_iff.1 h1
  · rcases h6 with (h1 | h1) | h1
    · exact (h1 a).elim
    · exact .inl h1
    · exact .inr h1
  · rcases h8 with h1 | h1
    · exact (h1 a).elim
    · exact h1
/-- the texts from element i on -/
def dropU (g : Nat → List UInt8) (n i : Nat) : List UInt8 := (List.range' i (n - i)).flatMap g
theorem dropU_end (g : Nat → List UInt8) {n i : Nat} (h : n ≤ i) : dropU g n i = [] := by
  unfold dropU; rw [show n - i = 0 by omega]; rfl
theorem dropU_at (g : Nat → List UInt8) {n i : Nat} (h : i < n) : dropU g n i = g i ++ dropU g n (i + 1) := by
  unfold dropU
  rw [show n - i = (n - (i + 1)) + 1 by omega, List.range'_succ]; rfl
theorem catU_drop (g : Nat → List UInt8) (n : Nat) : catU g n = dropU g n 0 := by
  unfold catU dropU; rw [List.range_eq_range']; rfl
theorem dropU_len {g : Nat → List UInt8} {n : Nat} (hg : ∀ i, i < n → 0 < (g i).length) : ∀ j i, n - i = j → n - i ≤ (dropU g n i).length
  | 0, i, h => by omega
  | j + 1, i, h => by
    rw [dropU_at g (by omega), List.length_append]
    have := dropU_len hg j (i + 1) (by omega)
    have := hg i (by omega)
    omega
def sumF (g : Nat → Nat) (n i : Nat) : Nat := ((List.range' i (n - i)).map g).sum
theorem sumF_end (g : Nat → Nat) {n i : Nat} (h : n ≤ i) : sumF g n i = 0 := by
  unfold sumF; rw [show n - i = 0 by omega]; rfl
theorem sumF_at (g : Nat → Nat) {n i : Nat} (h : i < n) : sumF g n i = g i + sumF g n (i + 1) := by
  unfold sumF
  rw [show n - i = (n - (i + 1)) + 1 by omega, List.range'_succ]; simp
theorem sumF_all (g : Nat → Nat) (n : Nat) : sumN g n = sumF g n 0 := by
  unfold sumN sumF; rw [List.range_eq_range']; rfl
def mapF {α : Type} (g : Nat → α) (n i : Nat) : List α := (List.range' i (n - i)).map g
theorem mapF_end {α : Type} (g : Nat → α) {n i : Nat} (h : n ≤ i) : mapF g n i = [] := by
  unfold mapF; rw [show n - i = 0 by omega]; rfl
theorem mapF_at {α : Type} (g : Nat → α) {n i : Nat} (h : i < n) : mapF g n i = g i :: mapF g n (i + 1) := by
  unfold mapF
  rw [show n - i = (n - (i + 1)) + 1 by omega, List.range'_succ]; rfl
theorem mapF_all {α : Type} (g : Nat → α) (n : Nat) : (List.range n).map g = mapF g n 0 := by
  unfold mapF; rw [List.range_eq_range']; rfl
section
variable {f : Nat → List UInt8 → Except JE (D × Nat × List UInt8)} {n : Nat} {tx : Nat → List UInt8} {sz : Nat → Nat} {vl : Nat → D}
/-- the items of a list, written and read -/
theorem items_write (r : List UInt8) (hf : ∀ (i m : Nat) (q : List UInt8), i < n → m + sz i ≤ 4096 → numStop q → f m (tx i ++ q) = .ok (vl i, m + sz i, q)) : ∀ (c i j m : Nat) (l : List D), n - i = c + 1 → n - i ≤ j → m + sumF sz n i ≤ 4096 →
    itemsJ f j m (tx i ++ dropU (fun i => (if 0 < i then [44] else []) ++ tx i) n (i + 1) ++ 93 :: r) l = .ok (l ++ mapF vl n i, m + sumF sz n i, r)
  | c, i, 0, m, l, h, hj, hm => by omega
  | c, i, j + 1, m, l, h, hj, hm => by
    rw [sumF_at sz (by omega)] at hm ⊢
    unfold itemsJ
    rw [List.append_assoc]
    by_cases hl : i + 1 < n
    · have e : dropU (fun i => (if 0 < i then [44] else []) ++ tx i) n (i + 1) ++ 93 :: r = 44 :: (tx (i + 1) ++ dropU (fun i => (if 0 < i then [44] else []) ++ tx i) n (i + 1 + 1) ++ 93 :: r) := by
        rw [dropU_at _ hl, if_pos (Nat.succ_pos i)]; simp
      rw [e, hf i m _ (by omega) (by omega) (fun c q hq => by cases hq; decide)]
      show (match spc (44 :: _) with
        | [] => Except.error (0, (3 : Int))
        | c :: q => if c = 44 then itemsJ f j (m + sz i) q (l ++ [vl i]) else if c = 93 then .ok (l ++ [vl i], m + sz i, q) else .error (q.length + 1, 3)) = _
      rw [spc_no (by decide)]
      dsimp only
      rw [if_pos rfl]
      cases c with
      | zero => omega
      | succ c =>
        rw [items_write r hf c (i + 1) j (m + sz i) (l ++ [vl i]) (by omega) (by omega) (by omega), mapF_at vl (show i < n by omega)]
        simp [Nat.add_assoc]
    · have e : dropU (fun i => (if 0 < i then [44] else []) ++ tx i) n (i + 1) = [] := dropU_end _ (by omega)
      rw [e, List.nil_append, hf i m _ (by omega) (by omega) (fun c q hq => by cases hq; decide)]
      show (match spc (93 :: r) with
        | [] => Except.error (0, (3 : Int))
        | c :: q => if c = 44 then itemsJ f j (m + sz i) q (l ++ [vl i]) else if c = 93 then .ok (l ++ [vl i], m + sz i, q) else .error (q.length + 1, 3)) = _
      rw [spc_no (by decide)]
      dsimp only
      rw [if_neg (by decide), if_pos rfl, mapF_at vl (show i < n by omega), mapF_end vl (show n ≤ i + 1 by omega), sumF_end sz (show n ≤ i + 1 by omega)]
      rfl
/-- the fields of an object -/
theorem fields_write (r : List UInt8) (ky : Nat → List UInt8) (hf : ∀ (i m : Nat) (q : List UInt8), i < n → m + sz i ≤ 4096 → numStop q → f m (tx i ++ q) = .ok (vl i, m + sz i, q)) (hk : ∀ i j, i < j → j < n → ky i ≠ ky j) : ∀ (c i j m : Nat) (l : List D), n - i = c + 1 → n - i ≤ j → m + sumF sz n i ≤ 4096 →
    fieldsJ f j m (quoteU (ky i) ++ 58 :: (tx i ++ dropU (fun i => (if 0 < i then [44] else []) ++ (quoteU (ky i) ++ 58 :: tx i)) n (i + 1) ++ 125 :: r)) ((List.range i).map ky) l = .ok ((List.range n).map ky, l ++ mapF vl n i, m + sumF sz n i, r)
  | c, i, 0, m, l, h, hj, hm => by omega
  | c, i, j + 1, m, l, h, hj, hm => by
    rw [sumF_at sz (by omega)] at hm ⊢
    unfold fieldsJ
    have hsp : spc (quoteU (ky i) ++ 58 :: (tx i ++ dropU (fun i => (if 0 < i then [44] else []) ++ (quoteU (ky i) ++ 58 :: tx i)) n (i + 1) ++ 125 :: r)) = quoteU (ky i) ++ 58 :: (tx i ++ dropU (fun i => (if 0 < i then [44] else []) ++ (quoteU (ky i) ++ 58 :: tx i)) n (i + 1) ++ 125 :: r) := by
      show spc (34 :: _) = _
      rw [spc_no (by decide)]; rfl
    rw [hsp, str_write]
    have hnk : ¬ ky i ∈ (List.range i).map ky := fun hh => by
      obtain ⟨a, ha, hb⟩ := List.mem_map.1 hh
      exact hk a i (List.mem_range.1 ha) (by omega) hb
    have hks : (List.range i).map ky ++ [ky i] = (List.range (i + 1)).map ky := by rw [List.range_succ]; simp
    show (if ky i ∈ (List.range i).map ky then Except.error _ else _) = _
    rw [if_neg hnk, spc_no (by decide), takeJ, if_pos (by decide)]
    show ((f m (tx i ++ dropU _ n (i + 1) ++ 125 :: r)).bind _) = _
    rw [List.append_assoc]
    by_cases hl : i + 1 < n
    · have e : dropU (fun i => (if 0 < i then [44] else []) ++ (quoteU (ky i) ++ 58 :: tx i)) n (i + 1) ++ 125 :: r = 44 :: (quoteU (ky (i + 1)) ++ 58 :: (tx (i + 1) ++ dropU (fun i => (if 0 < i then [44] else []) ++ (quoteU (ky i) ++ 58 :: tx i)) n (i + 1 + 1) ++ 125 :: r)) := by
        rw [dropU_at _ hl, if_pos (Nat.succ_pos i)]; simp
      rw [e, hf i m _ (by omega) (by omega) (fun c q hq => by cases hq; decide)]
      show (match spc (44 :: _) with
        | [] => Except.error (0, (3 : Int))
        | c :: q => if c = 44 then fieldsJ f j (m + sz i) q ((List.range i).map ky ++ [ky i]) (l ++ [vl i]) else if c = 125 then .ok ((List.range i).map ky ++ [ky i], l ++ [vl i], m + sz i, q) else .error (q.length + 1, 3)) = _
      rw [spc_no (by decide)]
      dsimp only
      rw [if_pos rfl, hks]
      cases c with
      | zero => omega
      | succ c =>
        rw [fields_write r ky hf hk c (i + 1) j (m + sz i) (l ++ [vl i]) (by omega) (by omega) (by omega), mapF_at vl (show i < n by omega)]
        simp [Nat.add_assoc]
    · have e : dropU (fun i => (if 0 < i then [44] else []) ++ (quoteU (ky i) ++ 58 :: tx i)) n (i + 1) = [] := dropU_end _ (by omega)
      have hn : n = i + 1 := by omega
      rw [e, List.nil_append, hf i m _ (by omega) (by omega) (fun c q hq => by cases hq; decide)]
      show (match spc (125 :: r) with
        | [] => Except.error (0, (3 : Int))
        | c :: q => if c = 44 then fieldsJ f j (m + sz i) q ((List.range i).map ky ++ [ky i]) (l ++ [vl i]) else if c = 125 then .ok ((List.range i).map ky ++ [ky i], l ++ [vl i], m + sz i, q) else .error (q.length + 1, 3)) = _
      rw [spc_no (by decide)]
      dsimp only
      rw [if_neg (by decide), if_pos rfl, mapF_at vl (show i < n by omega), mapF_end vl (show n ≤ i + 1 by omega), sumF_end sz (show n ≤ i + 1 by omega), hks, hn]
      rfl
end
end Go.Proofs.YtjhjleanihgopaaDoor
namespace Go.Proofs.YtjhjleanihgopaaDoor
theorem beg_sp {c : UInt8} : beginsJ c = true → isSp c = false := all256 (p := fun c => beginsJ c = true → isSp c = false) (by decide +kernel) c
theorem beg_end {c : UInt8} : beginsJ c = true → c ≠ 93 ∧ c ≠ 125 := all256 (p := fun c => beginsJ c = true → c ≠ 93 ∧ c ≠ 125) (by decide +kernel) c
theorem dig_beg {c : UInt8} (h : digU c = true) : beginsJ c = true := by unfold beginsJ; rw [h]; rfl
theorem dig_ns {c : UInt8} : digU c = true → c ≠ 110 ∧ c ≠ 116 ∧ c ≠ 102 ∧ c ≠ 34 ∧ c ≠ 91 ∧ c ≠ 123 := all256 (p := fun c => digU c = true → c ≠ 110 ∧ c ≠ 116 ∧ c ≠ 102 ∧ c ≠ 34 ∧ c ≠ 91 ∧ c ≠ 123) (by decide +kernel) c
theorem itoa_head (n : Int) : ∃ c q, Lib.itoa n = c :: q ∧ (c = 45 ∨ digU c = true) := by
  unfold Lib.itoa
  by_cases h : n < 0
  · rw [if_pos h]; exact ⟨45, _, rfl, .inl rfl⟩
  · rw [if_neg h]
    obtain ⟨c, ds, e, h1, _⟩ := dec_split n.toNat
    exact ⟨c, ds, e, .inr h1⟩
/-- how a text begins -/
theorem leaf_head {d : D} (hk : 0 ≤ (d.f 0).n ∧ (d.f 0).n ≤ 4) : ∃ c q, leafU d = c :: q ∧ beginsJ c = true := by
  unfold leafU
  split
  · exact ⟨110, _, rfl, by decide⟩
  split
  · split
    · exact ⟨102, _, rfl, by decide⟩
    · exact ⟨116, _, rfl, by decide⟩
  split
  · obtain ⟨c, q, e, h⟩ := itoa_head (d.f 1).n
    refine ⟨c, q, e, ?_⟩
    rcases h with rfl | h
    · decide
    · exact dig_beg h
  · exact ⟨34, _, rfl, by decide⟩
theorem wr_head {k : Nat} {d : D} (hk : 0 ≤ (d.f 0).n) : ∃ c q, wrJ (k + 1) d = c :: q ∧ beginsJ c = true := by
  unfold wrJ
  by_cases h4 : (d.f 0).n ≤ 4
  · rw [if_pos h4]; exact leaf_head ⟨hk, h4⟩
  · rw [if_neg h4]
    by_cases h6 : (d.f 0).n = 6
    · rw [if_pos h6]; exact ⟨123, _, rfl, by decide⟩
    · rw [if_neg h6]; exact ⟨91, _, rfl, by decide⟩
theorem every_head : ∀ {k : Nat} {d : D}, everyB k d = true → ∃ c q, wrJ k d = c :: q ∧ beginsJ c = true
  | 0, _, h => by cases h
  | k + 1, d, h => by
    unfold everyB at h
    rw [Bool.and_eq_true] at h
    exact wr_head (nodeB_ok h.1).kind.1
/-- the first step of a value -/
def atJ (k m : Nat) (c : UInt8) (r : List UInt8) : Except JE (D × Nat × List UInt8) :=
  if c = 110 then (wordJ [110, 117, 108, 108] (c :: r)).bind fun q => .ok (vD 0 0 [] [] [], m + 1, q)
  else if c = 116 then (wordJ [116, 114, 117, 101] (c :: r)).bind fun q => .ok (vD 1 1 [] [] [], m + 1, q)
  else if c = 102 then (wordJ [102, 97, 108, 115, 101] (c :: r)).bind fun q => .ok (vD 1 0 [] [] [], m + 1, q)
  else if c = 34 then (strJ (c :: r)).bind fun y => .ok (vD 3 0 y.1 [] [], m + 1, y.2)
  else if c = 91 then
    if (spc r).head? = some 93 then .ok (vD 5 0 [] [] [], m + 1, (spc r).tail)
    else (itemsJ (valueJ k) (r.length + 1) (m + 1) (spc r) []).bind fun y => .ok (vD 5 0 [] y.1 [], y.2.1, y.2.2)
  else if c = 123 then
    if (spc r).head? = some 125 then .ok (vD 6 0 [] [] [], m + 1, (spc r).tail)
    else (fieldsJ (valueJ k) (r.length + 1) (m + 1) (spc r) [] []).bind fun y => .ok (vD 6 0 [] y.2.1 (y.1.map fun s => D.str ⟨s.toArray⟩), y.2.2.1, y.2.2.2)
  else (numJ (c :: r)).bind fun y => .ok (vD 2 y.1 [] [] [], m + 1, y.2)
theorem value_at {k m : Nat} {c : UInt8} {r : List UInt8} (hb : beginsJ c = true) (hm : m + 1 ≤ 4096) : valueJ (k + 1) m (c :: r) = atJ k m c r := by
  unfold valueJ
  rw [spc_no (beg_sp hb)]
  dsimp only
  rw [if_neg (by rw [hb]; decide), if_neg (by omega)]
  rfl
theorem leaf_write {k m : Nat} {d : D} {r : List UInt8} (hn : NodeOk d) (h4 : (d.f 0).n ≤ 4) (hi : -9223372036854775808 ≤ (d.f 1).n ∧ (d.f 1).n ≤ 9223372036854775807) (hm : m + 1 ≤ 4096) (hr : numStop r) :
    valueJ (k + 1) m (leafU d ++ r) = .ok (vD (if (d.f 0).n = 4 then 3 else (d.f 0).n) (d.f 1).n (d.f 2).s.data.toList [] [], m + 1, r) := by
  have hk := hn.kind
  have e4 : (d.f 0).n ≠ 4 → (if (d.f 0).n = 4 then (3 : Int) else (d.f 0).n) = (d.f 0).n := fun h => if_neg h
  unfold leafU
  by_cases h0 : (d.f 0).n = 0
  · rw [if_pos h0, e4 (by omega), h0, hn.num (by omega) (by omega), hn.word (by omega) (by omega)]
    show valueJ (k + 1) m (110 :: ([117, 108, 108] ++ r)) = _
    rw [value_at (by decide) hm, atJ, if_pos rfl]
    have := word_write [110, 117, 108, 108] r
    rw [show (110 : UInt8) :: ([117, 108, 108] ++ r) = [110, 117, 108, 108] ++ r from rfl, this]; rfl
  rw [if_neg h0]
  by_cases h1 : (d.f 0).n = 1
  · rw [if_pos h1, e4 (by omega), h1, hn.word (by omega) (by omega)]
    rcases hn.bool h1 with hb | hb
    · rw [if_pos hb, hb]
      show valueJ (k + 1) m (102 :: ([97, 108, 115, 101] ++ r)) = _
      rw [value_at (by decide) hm, atJ, if_neg (by decide), if_neg (by decide), if_pos rfl]
      have := word_write [102, 97, 108, 115, 101] r
      rw [show (102 : UInt8) :: ([97, 108, 115, 101] ++ r) = [102, 97, 108, 115, 101] ++ r from rfl, this]; rfl
    · rw [if_neg (by omega), hb]
      show valueJ (k + 1) m (116 :: ([114, 117, 101] ++ r)) = _
      rw [value_at (by decide) hm, atJ, if_neg (by decide), if_pos rfl]
      have := word_write [116, 114, 117, 101] r
      rw [show (116 : UInt8) :: ([114, 117, 101] ++ r) = [116, 114, 117, 101] ++ r from rfl, this]; rfl
  rw [if_neg h1]
  by_cases h2 : (d.f 0).n = 2
  · rw [if_pos h2, e4 (by omega), h2, hn.word (by omega) (by omega)]
    obtain ⟨c, q, e, hc⟩ := itoa_head (d.f 1).n
    have hw := num_write (r := r) hi.1 hi.2 hr
    rw [e] at hw ⊢
    have hcs : c ≠ 110 ∧ c ≠ 116 ∧ c ≠ 102 ∧ c ≠ 34 ∧ c ≠ 91 ∧ c ≠ 123 := by
      rcases hc with rfl | hc
      · decide
      · exact dig_ns hc
    have hb : beginsJ c = true := by
      rcases hc with rfl | hc
      · decide
      · exact dig_beg hc
    rw [List.cons_append] at hw ⊢
    rw [value_at hb hm, atJ, if_neg hcs.1, if_neg hcs.2.1, if_neg hcs.2.2.1, if_neg hcs.2.2.2.1, if_neg hcs.2.2.2.2.1, if_neg hcs.2.2.2.2.2, hw]
    rfl
  rw [if_neg h2, hn.num (by omega) (by omega)]
  have e34 : (if (d.f 0).n = 4 then (3 : Int) else (d.f 0).n) = 3 := by split <;> omega
  rw [e34]
  have hw := str_write (d.f 2).s.data.toList r
  have e : quoteU (d.f 2).s.data.toList ++ r = 34 :: (escL (d.f 2).s.data.toList ++ 34 :: r) := by simp [quoteU]
  rw [e] at hw ⊢
  rw [value_at (by decide) hm, atJ, if_neg (by decide), if_neg (by decide), if_neg (by decide), if_pos rfl, hw]
  rfl
theorem keyU_at {d : D} {i : Nat} (h : i < (d.f 4).l.length) : (strsL d)[i]'(by unfold strsL; simpa using h) = keyU d i := by
  unfold strsL keyU
  rw [List.getElem_map, gD_get h]
theorem strs_range (d : D) : strsL d = (List.range (d.f 4).l.length).map (keyU d) := by
  apply List.ext_getElem
  · simp [strsL]
  · intro i h1 h2
    have : i < (d.f 4).l.length := by simpa [strsL] using h1
    rw [keyU_at this]; simp
theorem value_write : ∀ (k : Nat) (d : D) (m : Nat) (r : List UInt8), everyB k d = true → intsJ k d → m + sizeJ k d ≤ 4096 → numStop r → valueJ k m (wrJ k d ++ r) = .ok (strsJ k d, m + sizeJ k d, r)
  | 0, d, m, r, h, _, _, _ => by cases h
  | k + 1, d, m, r, h, hi, hm, hr => by
    unfold everyB at h
    rw [Bool.and_eq_true] at h
    have hn := nodeB_ok h.1
    have hit : ∀ i, i < (d.f 3).l.length → everyB k (gD (d.f 3).l i) = true := fun i hi => by
      have := h.2
      rw [List.all_eq_true] at this
      exact this i (List.mem_range.2 hi)
    have hk := hn.kind
    have hs : sizeJ (k + 1) d = 1 + sumN (fun i => sizeJ k (gD (d.f 3).l i)) (d.f 3).l.length := rfl
    by_cases h4 : (d.f 0).n ≤ 4
    · have i0 : (d.f 3).l = [] := hn.items (by omega) (by omega)
      have k0 : (d.f 4).l = [] := hn.keys (by omega)
      have hs1 : sizeJ (k + 1) d = 1 := by rw [hs, i0]; rfl
      have hv : strsJ (k + 1) d = vD (if (d.f 0).n = 4 then 3 else (d.f 0).n) (d.f 1).n (d.f 2).s.data.toList [] [] := by
        unfold strsJ strsL; rw [i0, k0]; rfl
      have hw : wrJ (k + 1) d = leafU d := by unfold wrJ; rw [if_pos h4]
      rw [hs1] at hm
      rw [hs1, hv, hw]
      exact leaf_write hn h4 hi.1 hm hr
    have hw : wrJ (k + 1) d = (if (d.f 0).n = 6 then [123] else [91]) ++ catU (fun i => sepU d i ++ wrJ k (gD (d.f 3).l i)) (d.f 3).l.length ++ (if (d.f 0).n = 6 then [125] else [93]) := by
      show (if (d.f 0).n ≤ 4 then _ else _) = _
      rw [if_neg h4]
    have hv : strsJ (k + 1) d = vD (d.f 0).n 0 [] ((List.range (d.f 3).l.length).map fun i => strsJ k (gD (d.f 3).l i)) (keysD (strsL d)) := by
      show vD (if (d.f 0).n = 4 then 3 else (d.f 0).n) (d.f 1).n (d.f 2).s.data.toList _ _ = _
      rw [if_neg (by omega), hn.num (by omega) (by omega), hn.word (by omega) (by omega)]
    rw [hs] at hm ⊢
    rw [hw, hv]
    have hrec : ∀ (i m : Nat) (q : List UInt8), i < (d.f 3).l.length → m + sizeJ k (gD (d.f 3).l i) ≤ 4096 → numStop q → valueJ k m (wrJ k (gD (d.f 3).l i) ++ q) = .ok (strsJ k (gD (d.f 3).l i), m + sizeJ k (gD (d.f 3).l i), q) := fun i m q hil hm2 hq =>
      value_write k _ m q (hit i hil) (hi.2 i hil) hm2 hq
    have hhd : ∀ i, i < (d.f 3).l.length → ∃ c q, wrJ k (gD (d.f 3).l i) = c :: q ∧ beginsJ c = true := fun i hil => every_head (hit i hil)
    by_cases h6 : (d.f 0).n = 6
    · rw [if_pos h6, if_pos h6, h6]
      obtain ⟨hl, hnd⟩ := hn.obj h6
      have e0 : ([123] ++ catU (fun i => sepU d i ++ wrJ k (gD (d.f 3).l i)) (d.f 3).l.length ++ [125]) ++ r = 123 :: (catU (fun i => sepU d i ++ wrJ k (gD (d.f 3).l i)) (d.f 3).l.length ++ 125 :: r) := by simp
      rw [e0, value_at (by decide) (by omega), atJ, if_neg (by decide), if_neg (by decide), if_neg (by decide), if_neg (by decide), if_neg (by decide), if_pos rfl]
      generalize hN : (d.f 3).l.length = n at *
      have ef : (fun i => sepU d i ++ wrJ k (gD (d.f 3).l i)) = fun i => (if 0 < i then [44] else []) ++ (quoteU (keyU d i) ++ 58 :: wrJ k (gD (d.f 3).l i)) := by
        funext i
        unfold sepU
        rw [if_pos h6]; simp
      rw [ef]
      by_cases hz : n = 0
      · subst hz
        rw [show catU _ 0 ++ 125 :: r = 125 :: r from rfl, spc_no (by decide), if_pos (show (125 :: r).head? = some 125 from rfl)]
        have : strsL d = [] := by unfold strsL; rw [List.length_eq_zero_iff.1 hl]; rfl
        rw [this]
        rfl
      · rw [catU_drop, dropU_at _ (by omega), if_neg (Nat.lt_irrefl 0)]
        have e1 : ([] ++ (quoteU (keyU d 0) ++ 58 :: wrJ k (gD (d.f 3).l 0))) ++ dropU (fun i => (if 0 < i then [44] else []) ++ (quoteU (keyU d i) ++ 58 :: wrJ k (gD (d.f 3).l i))) n (0 + 1) ++ 125 :: r = quoteU (keyU d 0) ++ 58 :: (wrJ k (gD (d.f 3).l 0) ++ dropU (fun i => (if 0 < i then [44] else []) ++ (quoteU (keyU d i) ++ 58 :: wrJ k (gD (d.f 3).l i))) n (0 + 1) ++ 125 :: r) := by simp
        rw [e1]
        have hsp : ∀ z : List UInt8, spc (quoteU (keyU d 0) ++ z) = quoteU (keyU d 0) ++ z := fun z => by
          show spc (34 :: _) = _
          rw [spc_no (by decide)]; rfl
        have hh : ∀ z : List UInt8, (quoteU (keyU d 0) ++ z).head? = some 34 := fun z => rfl
        rw [hsp, hh, if_neg (by decide)]
        have hkd : ∀ i j, i < j → j < n → keyU d i ≠ keyU d j := fun i j hij hj e => by
          have hl' : (strsL d).length = n := by unfold strsL; rw [List.length_map]; exact hl
          rw [← keyU_at (by omega), ← keyU_at (by omega)] at e
          exact List.pairwise_iff_getElem.1 hnd i j (by omega) (by omega) hij e
        have hlen : n ≤ (dropU (fun i => (if 0 < i then [44] else []) ++ (quoteU (keyU d i) ++ 58 :: wrJ k (gD (d.f 3).l i))) n 0).length := by
          have := dropU_len (g := fun i => (if 0 < i then [44] else []) ++ (quoteU (keyU d i) ++ 58 :: wrJ k (gD (d.f 3).l i))) (n := n) (fun i _ => by simp only [List.length_append, List.length_cons]; omega) n 0 (by omega)
          omega
        rw [dropU_at _ (show 0 < n by omega)] at hlen
        have hJ : n ≤ (quoteU (keyU d 0) ++ 58 :: (wrJ k (gD (d.f 3).l 0) ++ dropU (fun i => (if 0 < i then [44] else []) ++ (quoteU (keyU d i) ++ 58 :: wrJ k (gD (d.f 3).l i))) n (0 + 1) ++ 125 :: r)).length + 1 := by
          simp only [List.length_append, List.length_cons, if_neg (Nat.lt_irrefl 0), List.length_nil] at hlen ⊢
          omega
        have := fields_write (f := valueJ k) (n := n) (tx := fun i => wrJ k (gD (d.f 3).l i)) (sz := fun i => sizeJ k (gD (d.f 3).l i)) (vl := fun i => strsJ k (gD (d.f 3).l i)) r (keyU d) hrec hkd (n - 1) 0 _ (m + 1) [] (by omega) (by omega) (by rw [← sumF_all]; omega)
        rw [show (List.range 0).map (keyU d) = [] from rfl] at this
        rw [this]
        show Except.ok (vD 6 0 [] ([] ++ mapF _ n 0) (keysD ((List.range n).map (keyU d))), m + 1 + sumF _ n 0, r) = _
        rw [← mapF_all, ← sumF_all, List.nil_append, strs_range, hl, Nat.add_assoc]
    · have h5 : (d.f 0).n = 5 := by omega
      rw [if_neg h6, if_neg h6, h5]
      have k0 : (d.f 4).l = [] := hn.keys h6
      have e0 : ([91] ++ catU (fun i => sepU d i ++ wrJ k (gD (d.f 3).l i)) (d.f 3).l.length ++ [93]) ++ r = 91 :: (catU (fun i => sepU d i ++ wrJ k (gD (d.f 3).l i)) (d.f 3).l.length ++ 93 :: r) := by simp
      have ks : strsL d = [] := by unfold strsL; rw [k0]; rfl
      rw [e0, ks, value_at (by decide) (by omega), atJ, if_neg (by decide), if_neg (by decide), if_neg (by decide), if_neg (by decide), if_pos rfl]
      generalize hN : (d.f 3).l.length = n at *
      have ef : (fun i => sepU d i ++ wrJ k (gD (d.f 3).l i)) = fun i => (if 0 < i then [44] else []) ++ wrJ k (gD (d.f 3).l i) := by
        funext i
        unfold sepU
        rw [if_neg h6]; simp
      rw [ef]
      by_cases hz : n = 0
      · subst hz
        rw [show catU _ 0 ++ 93 :: r = 93 :: r from rfl, spc_no (by decide), if_pos (show (93 :: r).head? = some 93 from rfl)]
        rfl
      · rw [catU_drop, dropU_at _ (by omega), if_neg (Nat.lt_irrefl 0)]
        have e1 : ([] ++ wrJ k (gD (d.f 3).l 0)) ++ dropU (fun i => (if 0 < i then [44] else []) ++ wrJ k (gD (d.f 3).l i)) n (0 + 1) ++ 93 :: r = wrJ k (gD (d.f 3).l 0) ++ dropU (fun i => (if 0 < i then [44] else []) ++ wrJ k (gD (d.f 3).l i)) n (0 + 1) ++ 93 :: r := by simp
        rw [e1]
        obtain ⟨c, q, ec, hc⟩ := hhd 0 (by omega)
        have hsp : ∀ z : List UInt8, spc (wrJ k (gD (d.f 3).l 0) ++ z) = wrJ k (gD (d.f 3).l 0) ++ z := fun z => by
          rw [ec, List.cons_append, spc_no (beg_sp hc)]
        have hh : ∀ z : List UInt8, (wrJ k (gD (d.f 3).l 0) ++ z).head? = some c := fun z => by rw [ec]; rfl
        rw [List.append_assoc, hsp, hh, if_neg (by simpa using (beg_end hc).1), ← List.append_assoc]
        have hlen : n ≤ (dropU (fun i => (if 0 < i then [44] else []) ++ wrJ k (gD (d.f 3).l i)) n 0).length := by
          have := dropU_len (g := fun i => (if 0 < i then [44] else []) ++ wrJ k (gD (d.f 3).l i)) (n := n) (fun i hil => by
            obtain ⟨c, q, ec, _⟩ := hhd i hil
            rw [ec]; simp only [List.length_append, List.length_cons]; omega) n 0 (by omega)
          omega
        rw [dropU_at _ (show 0 < n by omega)] at hlen
        have hJ : n ≤ (wrJ k (gD (d.f 3).l 0) ++ dropU (fun i => (if 0 < i then [44] else []) ++ wrJ k (gD (d.f 3).l i)) n (0 + 1) ++ 93 :: r).length + 1 := by
          simp only [List.length_append, List.length_cons, if_neg (Nat.lt_irrefl 0), List.length_nil] at hlen ⊢
          omega
        have := items_write (f := valueJ k) (n := n) (tx := fun i => wrJ k (gD (d.f 3).l i)) (sz := fun i => sizeJ k (gD (d.f 3).l i)) (vl := fun i => strsJ k (gD (d.f 3).l i)) r hrec (n - 1) 0 _ (m + 1) [] (by omega) hJ (by rw [← sumF_all]; omega)
        rw [this]
        show Except.ok (vD 5 0 [] ([] ++ mapF _ n 0) [], m + 1 + sumF _ n 0, r) = _
        rw [← mapF_all, ← sumF_all, List.nil_append, Nat.add_assoc]
        rfl
/-- the text of a right value is read as the value, with strings for enumeration values -/
theorem parse_write {d : D} (h : everyB 24 d = true) (hi : intsJ 24 d) (hs : sizeJ 24 d ≤ 4096) : parseJ (wrJ 24 d) = .ok (strsJ 24 d) := by
  have := value_write 24 d 0 [] h hi (by omega) (fun c q e => by cases e)
  rw [List.append_nil] at this
  unfold parseJ
  rw [this]
  rfl
end Go.Proofs.YtjhjleanihgopaaDoor
namespace Go.Proofs.YtjhjleanihgopaaDoor
def zz : List UInt8 := [13, 10]
/-- what is read of a text, and of the text with spaces behind it -/
def Ex {α β : Type} (h : α → β → Prop) : Except JE α → Except JE β → Prop
  | .ok a, .ok b => h a b
  | .error (l, e), .error (l', e') => e' = e ∧ (l' = l + 2 ∨ (l = 0 ∧ l' = 0))
  | _, _ => False
theorem Ex.bind {α β γ δ : Type} {h : α → β → Prop} {g : γ → δ → Prop} {x : Except JE α} {y : Except JE β} {f : α → Except JE γ} {f' : β → Except JE δ} (hx : Ex h x y) (hf : ∀ a b, h a b → x = .ok a → Ex g (f a) (f' b)) : Ex g (x.bind f) (y.bind f') := by
  cases x with
  | error e =>
    cases y with
    | error e' => exact hx
    | ok b => obtain ⟨_, _⟩ := e; exact hx.elim
  | ok a =>
    cases y with
    | error e' => exact hx.elim
    | ok b => exact hf a b hx rfl
def Bk (q q' : List UInt8) : Prop := q' = q ++ zz
theorem Ex.err {α β : Type} {h : α → β → Prop} (l : Nat) (e : Int) : Ex h (.error (l, e) : Except JE α) (.error (l + 2, e) : Except JE β) := ⟨rfl, .inl rfl⟩
theorem Ex.fin {α β : Type} {h : α → β → Prop} (e : Int) : Ex h (.error (0, e) : Except JE α) (.error (0, e) : Except JE β) := ⟨rfl, .inr ⟨rfl, rfl⟩⟩
theorem take_ex {p : UInt8 → Bool} (hp : p 13 = false) (r : List UInt8) : Ex Bk (takeJ p r) (takeJ p (r ++ zz)) := by
  cases r with
  | nil =>
    show Ex Bk (.error (0, 3)) (takeJ p [13, 10])
    rw [takeJ, if_neg (by rw [hp]; decide)]
    exact Ex.err 0 3
  | cons c r =>
    show Ex Bk (if p c then .ok r else .error (r.length + 1, 3)) (if p c then .ok (r ++ zz) else .error ((r ++ zz).length + 1, 3))
    by_cases h : p c = true
    · rw [if_pos h, if_pos h]; exact rfl
    · rw [if_neg h, if_neg h, show (r ++ zz).length + 1 = (r.length + 1) + 2 by simp [zz]]; exact Ex.err _ _
theorem word_ex : ∀ (w r : List UInt8), w.all (fun c => !(c == 13)) = true → Ex Bk (wordJ w r) (wordJ w (r ++ zz))
  | [], r, _ => rfl
  | c :: w, r, h => by
    rw [List.all_cons, Bool.and_eq_true] at h
    refine (take_ex (p := (· == c)) (by
      have := h.1
      by_cases e : c = 13
      · subst e; simp at this
      · simpa using fun h2 : (13 : UInt8) = c => e h2.symm) r).bind ?_
    intro a b hab _
    rw [hab]
    exact word_ex w a h.2
theorem esc_ex (r : List UInt8) : Ex Bk (escJ r) (escJ (r ++ zz)) := by
  cases r with
  | nil => exact Ex.err 0 3
  | cons d r =>
    show Ex Bk (if simJ d then .ok r else if d == 117 then _ else .error (r.length + 1, 3)) (if simJ d then .ok (r ++ zz) else if d == 117 then _ else .error ((r ++ zz).length + 1, 3))
    by_cases h : simJ d = true
    · rw [if_pos h, if_pos h]; exact rfl
    rw [if_neg h, if_neg h]
    by_cases h2 : (d == 117) = true
    · rw [if_pos h2, if_pos h2]
      refine (take_ex (by decide) r).bind ?_
      intro a b hab _; rw [hab]
      refine (take_ex (by decide) a).bind ?_
      intro a b hab _; rw [hab]
      refine (take_ex (by decide) a).bind ?_
      intro a b hab _; rw [hab]
      exact take_ex (by decide) a
    · rw [if_neg h2, if_neg h2, show (r ++ zz).length + 1 = (r.length + 1) + 2 by simp [zz]]; exact Ex.err _ _
theorem body_ex : ∀ (n n' : Nat) (r : List UInt8), r.length < n → (r ++ zz).length < n' → Ex Bk (bodyJ n r) (bodyJ n' (r ++ zz))
  | 0, _, r, h, _ => by omega
  | _, 0, r, _, h => by omega
  | n + 1, n' + 1, [], _, _ => Ex.err 0 3
  | n + 1, n' + 1, c :: r, h, h' => by
    show Ex Bk (if c.toNat < 32 ∨ 126 < c.toNat then .error (r.length + 1, 3) else if c = 34 then .ok r else if c = 92 then (escJ r).bind (bodyJ n) else bodyJ n r) (if c.toNat < 32 ∨ 126 < c.toNat then .error ((r ++ zz).length + 1, 3) else if c = 34 then .ok (r ++ zz) else if c = 92 then (escJ (r ++ zz)).bind (bodyJ n') else bodyJ n' (r ++ zz))
    have hl : r.length < n := by simpa using h
    have hl' : (r ++ zz).length < n' := by simpa using h'
    by_cases h1 : c.toNat < 32 ∨ 126 < c.toNat
    · rw [if_pos h1, if_pos h1, show (r ++ zz).length + 1 = (r.length + 1) + 2 by simp [zz]]; exact Ex.err _ _
    rw [if_neg h1, if_neg h1]
    by_cases h2 : c = 34
    · rw [if_pos h2, if_pos h2]; exact rfl
    rw [if_neg h2, if_neg h2]
    by_cases h3 : c = 92
    · rw [if_pos h3, if_pos h3]
      refine (esc_ex r).bind ?_
      intro a b hab ha
      have := (escJ_suffix ha).2
      rw [hab]
      exact body_ex n n' a (by omega) (by simp [zz] at hl' ⊢; omega)
    · rw [if_neg h3, if_neg h3]; exact body_ex n n' r hl hl'
theorem readJ_zz {r q : List UInt8} (h : q.length ≤ r.length) : readJ (r ++ zz) (q ++ zz) = readJ r q := by
  unfold readJ
  rw [List.length_append, List.length_append, Nat.add_sub_add_right, List.take_append_of_le_length (by omega)]
/-- what is read beside what is left -/
def Rk {α : Type} (x y : α × List UInt8) : Prop := y = (x.1, x.2 ++ zz)
theorem str_ex (r : List UInt8) : Ex Rk (strJ r) (strJ (r ++ zz)) := by
  unfold strJ
  refine (take_ex (by decide) r).bind ?_
  intro a b hab ha
  rw [hab]
  have h1 := (takeJ_suffix ha).2
  refine (body_ex _ _ a (Nat.lt_succ_self _) (Nat.lt_succ_self _)).bind ?_
  intro c d hcd hc
  have h2 := (bodyJ_suffix hc).2
  show _ = _
  rw [hcd, readJ_zz (by omega)]
theorem dw_zz : ∀ (r : List UInt8), (r ++ zz).dropWhile digU = r.dropWhile digU ++ zz
  | [] => rfl
  | c :: r => by
    rw [List.cons_append, List.dropWhile_cons, List.dropWhile_cons]
    by_cases h : digU c = true
    · rw [if_pos h, if_pos h]; exact dw_zz r
    · rw [if_neg h, if_neg h]; rfl
theorem num_ex (r : List UInt8) (hr : r ≠ []) : Ex Rk (numJ r) (numJ (r ++ zz)) := by
  cases r with
  | nil => exact (hr rfl).elim
  | cons c r =>
    unfold numJ
    have e1 : (if (c :: r ++ zz).head? = some 45 then (c :: r ++ zz).tail else c :: r ++ zz) = (if (c :: r).head? = some 45 then (c :: r).tail else c :: r) ++ zz := by
      show (if some c = some 45 then r ++ zz else c :: r ++ zz) = (if some c = some 45 then r else c :: r) ++ zz
      split <;> rfl
    rw [e1]
    generalize hr1 : (if (c :: r).head? = some 45 then (c :: r).tail else c :: r) = r1
    have hle : r1.length ≤ (c :: r).length := by
      rw [← hr1]; split <;> simp
    dsimp only
    rw [show (c :: r ++ zz).head? = (c :: r).head? from rfl]
    refine (take_ex (by
      show (digU 13 && _) = false
      rw [show digU 13 = false by decide]; rfl) r1).bind ?_
    intro a b hab ha
    obtain ⟨c1, hc1, _⟩ := takeJ_ok ha
    have hh : (r1 ++ zz).head? = r1.head? := by rw [hc1]; rfl
    rw [hab, hh, dw_zz]
    have e2 : (if r1.head? = some 48 then a ++ zz else a.dropWhile digU ++ zz) = (if r1.head? = some 48 then a else a.dropWhile digU) ++ zz := by split <;> rfl
    rw [e2]
    generalize hq : (if r1.head? = some 48 then a else a.dropWhile digU) = q
    have hql : q.length ≤ (c :: r).length := by
      have h1 : a.length ≤ r1.length := by rw [hc1]; simp
      rw [← hq]
      split
      · omega
      · have := (List.dropWhile_suffix digU (l := a)).length_le; omega
    rw [readJ_zz hql]
    cases numOk (numU (readJ (c :: r) q)) with
    | some n => exact rfl
    | none =>
      show Ex Rk (.error ((c :: r).length, 4)) (.error ((c :: r ++ zz).length, 4))
      rw [show (c :: r ++ zz).length = (c :: r).length + 2 by simp [zz]]
      exact Ex.err _ _
theorem spc_all {r : List UInt8} (h : spc r = []) : spc (r ++ zz) = [] := by
  induction r with
  | nil => decide
  | cons c r ih =>
    unfold spc at h ih ⊢
    rw [List.dropWhile_cons] at h
    rw [List.cons_append, List.dropWhile_cons]
    by_cases hs : isSp c = true
    · rw [if_pos hs] at h ⊢; exact ih h
    · rw [if_neg hs] at h; cases h
theorem spc_some {r q : List UInt8} {c : UInt8} (h : spc r = c :: q) : spc (r ++ zz) = c :: (q ++ zz) := by
  induction r with
  | nil => cases h
  | cons d r ih =>
    unfold spc at h ih ⊢
    rw [List.dropWhile_cons] at h
    rw [List.cons_append, List.dropWhile_cons]
    by_cases hs : isSp d = true
    · rw [if_pos hs] at h ⊢; exact ih h
    · rw [if_neg hs] at h ⊢; cases h; rfl
/-- a text with spaces behind it, or nothing -/
def Zz (r r' : List UInt8) : Prop := r' = r ++ zz ∨ (r = [] ∧ r' = [])
theorem zz_spc {r r' : List UInt8} (h : Zz r r') : Zz (spc r) (spc r') := by
  rcases h with rfl | ⟨rfl, rfl⟩
  · cases hs : spc r with
    | nil => exact .inr ⟨rfl, spc_all hs⟩
    | cons c q => rw [spc_some hs]; exact .inl rfl
  · exact .inr ⟨rfl, rfl⟩
theorem zz_cases {r r' : List UInt8} (h : Zz r r') : (spc r = [] ∧ spc r' = []) ∨ ∃ c q, spc r = c :: q ∧ spc r' = c :: (q ++ zz) := by
  rcases h with rfl | ⟨rfl, rfl⟩
  · cases hs : spc r with
    | nil => exact .inl ⟨rfl, spc_all hs⟩
    | cons c q => exact .inr ⟨c, q, rfl, spc_some hs⟩
  · exact .inl ⟨rfl, rfl⟩
theorem take_zz {p : UInt8 → Bool} (hp : p 13 = false) {r r' : List UInt8} (h : Zz r r') : Ex Bk (takeJ p r) (takeJ p r') := by
  rcases h with rfl | ⟨rfl, rfl⟩
  · exact take_ex hp r
  · exact Ex.fin 3
theorem str_zz {r r' : List UInt8} (h : Zz r r') : Ex Rk (strJ r) (strJ r') := by
  rcases h with rfl | ⟨rfl, rfl⟩
  · exact str_ex r
  · exact Ex.fin 3
def Vk (x y : D × Nat × List UInt8) : Prop := y = (x.1, x.2.1, x.2.2 ++ zz)
theorem items_ex {f : Nat → List UInt8 → Except JE (D × Nat × List UInt8)} (hp : PartJ f) (hf : ∀ m r r', Zz r r' → Ex Vk (f m r) (f m r')) : ∀ (j j' m : Nat) (r r' : List UInt8) (l : List D), Zz r r' → r.length < j → r'.length < j' → Ex (fun x y => y = (x.1, x.2.1, x.2.2 ++ zz)) (itemsJ f j m r l) (itemsJ f j' m r' l)
  | 0, _, m, r, r', l, _, h, _ => by omega
  | _, 0, m, r, r', l, _, _, h => by omega
  | j + 1, j' + 1, m, r, r', l, hz, h, h' => by
    unfold itemsJ
    refine (hf m r r' hz).bind ?_
    intro a b hab ha
    have hpa := hp m r a ha
    have hle : a.2.2.length < r.length := hpa.2.1
    rw [show b = (a.1, a.2.1, a.2.2 ++ zz) from hab]
    dsimp only
    have hr' : r' = r ++ zz := by
      rcases hz with hz | ⟨h1, _⟩
      · exact hz
      · rw [h1] at hle; cases hle
    have hlr : r'.length = r.length + 2 := by rw [hr']; simp [zz]
    rcases zz_cases (r := a.2.2) (r' := a.2.2 ++ zz) (.inl rfl) with ⟨e1, e2⟩ | ⟨c, q, e1, e2⟩
    · rw [e1, e2]; exact Ex.fin 3
    · rw [e1, e2]
      dsimp only
      have hq : q.length < a.2.2.length := by
        have := (spc_suffix a.2.2).length_le
        rw [e1] at this; simp at this; omega
      by_cases c1 : c = 44
      · rw [if_pos c1, if_pos c1]
        exact items_ex hp hf j j' a.2.1 q (q ++ zz) (l ++ [a.1]) (.inl rfl) (by omega) (by simp [zz]; omega)
      rw [if_neg c1, if_neg c1]
      by_cases c2 : c = 93
      · rw [if_pos c2, if_pos c2]; exact rfl
      · rw [if_neg c2, if_neg c2, show (q ++ zz).length + 1 = (q.length + 1) + 2 by simp [zz]]; exact Ex.err _ _
theorem fields_ex {f : Nat → List UInt8 → Except JE (D × Nat × List UInt8)} (hp : PartJ f) (hf : ∀ m r r', Zz r r' → Ex Vk (f m r) (f m r')) : ∀ (j j' m : Nat) (r r' : List UInt8) (ks : List (List UInt8)) (l : List D), Zz r r' → r.length < j → r'.length < j' → Ex (fun x y => y = (x.1, x.2.1, x.2.2.1, x.2.2.2 ++ zz)) (fieldsJ f j m r ks l) (fieldsJ f j' m r' ks l)
  | 0, _, m, r, r', ks, l, _, h, _ => by omega
  | _, 0, m, r, r', ks, l, _, _, h => by omega
  | j + 1, j' + 1, m, r, r', ks, l, hz, h, h' => by
    unfold fieldsJ
    refine (str_zz (zz_spc hz)).bind ?_
    intro a b hab ha
    have hsa := (strJ_suffix ha).2
    have hsr : (spc r).length ≤ r.length := (spc_suffix r).length_le
    rw [show b = (a.1, a.2 ++ zz) from hab]
    dsimp only
    have hr' : r' = r ++ zz := by
      rcases hz with hz | ⟨h1, _⟩
      · exact hz
      · subst h1; exact absurd hsa (Nat.not_lt_zero _)
    have hlr : r'.length = r.length + 2 := by rw [hr']; simp [zz]
    by_cases hk : a.1 ∈ ks
    · rw [if_pos hk, if_pos hk]
      rcases zz_cases hz with ⟨e1, e2⟩ | ⟨c, q, e1, e2⟩
      · rw [e1, e2]; exact Ex.fin 7
      · rw [e1, e2, show (c :: (q ++ zz)).length = (c :: q).length + 2 by simp [zz]]; exact Ex.err _ _
    rw [if_neg hk, if_neg hk]
    refine (take_zz (by decide) (zz_spc (.inl rfl))).bind ?_
    intro a2 b2 hab2 ha2
    rw [show b2 = a2 ++ zz from hab2]
    have h2 := (takeJ_suffix ha2).2
    have h2s : (spc a.2).length ≤ a.2.length := (spc_suffix a.2).length_le
    refine (hf m a2 (a2 ++ zz) (.inl rfl)).bind ?_
    intro a3 b3 hab3 ha3
    have hle : a3.2.2.length < a2.length := (hp m a2 a3 ha3).2.1
    rw [show b3 = (a3.1, a3.2.1, a3.2.2 ++ zz) from hab3]
    dsimp only
    rcases zz_cases (r := a3.2.2) (r' := a3.2.2 ++ zz) (.inl rfl) with ⟨e1, e2⟩ | ⟨c, q, e1, e2⟩
    · rw [e1, e2]; exact Ex.fin 3
    · rw [e1, e2]
      dsimp only
      have hq : q.length < a3.2.2.length := by
        have := (spc_suffix a3.2.2).length_le
        rw [e1] at this; simp at this; omega
      by_cases c1 : c = 44
      · rw [if_pos c1, if_pos c1]
        exact fields_ex hp hf j j' a3.2.1 q (q ++ zz) (ks ++ [a.1]) (l ++ [a3.1]) (.inl rfl) (by omega) (by simp [zz]; omega)
      rw [if_neg c1, if_neg c1]
      by_cases c2 : c = 125
      · rw [if_pos c2, if_pos c2]; exact rfl
      · rw [if_neg c2, if_neg c2, show (q ++ zz).length + 1 = (q.length + 1) + 2 by simp [zz]]; exact Ex.err _ _
theorem value_ex : ∀ (k m : Nat) (r r' : List UInt8), Zz r r' → Ex Vk (valueJ k m r) (valueJ k m r')
  | 0, m, r, r', hz => by
    unfold valueJ
    rcases zz_cases hz with ⟨e1, e2⟩ | ⟨c, q, e1, e2⟩
    · rw [e1, e2]; exact Ex.fin 3
    · rw [e1, e2]
      dsimp only
      rw [show (q ++ zz).length + 1 = (q.length + 1) + 2 by simp [zz]]
      split
      · exact Ex.err _ _
      · exact Ex.err _ _
  | k + 1, m, r, r', hz => by
    unfold valueJ
    rcases zz_cases hz with ⟨e1, e2⟩ | ⟨c, q, e1, e2⟩
    · rw [e1, e2]; exact Ex.fin 3
    · rw [e1, e2]
      dsimp only
      rw [show (q ++ zz).length + 1 = (q.length + 1) + 2 by simp [zz]]
      by_cases h1 : beginsJ c = false
      · rw [if_pos h1, if_pos h1]; exact Ex.err _ _
      rw [if_neg h1, if_neg h1]
      by_cases h2 : 4096 < m + 1
      · rw [if_pos h2, if_pos h2]; exact Ex.err _ _
      rw [if_neg h2, if_neg h2]
      have hcc : c :: (q ++ zz) = (c :: q) ++ zz := rfl
      by_cases h3 : c = 110
      · rw [if_pos h3, if_pos h3, hcc]
        refine (word_ex _ _ (by decide)).bind ?_
        intro a b hab _; rw [hab]; exact rfl
      rw [if_neg h3, if_neg h3]
      by_cases h4 : c = 116
      · rw [if_pos h4, if_pos h4, hcc]
        refine (word_ex _ _ (by decide)).bind ?_
        intro a b hab _; rw [hab]; exact rfl
      rw [if_neg h4, if_neg h4]
      by_cases h5 : c = 102
      · rw [if_pos h5, if_pos h5, hcc]
        refine (word_ex _ _ (by decide)).bind ?_
        intro a b hab _; rw [hab]; exact rfl
      rw [if_neg h5, if_neg h5]
      by_cases h6 : c = 34
      · rw [if_pos h6, if_pos h6, hcc]
        refine (str_ex _).bind ?_
        intro a b hab _; rw [show b = (a.1, a.2 ++ zz) from hab]; exact rfl
      rw [if_neg h6, if_neg h6]
      have hhead : ∀ b : UInt8, (spc (q ++ zz)).head? = some b ↔ (spc q).head? = some b := fun b => by
        rcases zz_cases (r := q) (r' := q ++ zz) (.inl rfl) with ⟨e1, e2⟩ | ⟨c, q, e1, e2⟩ <;> rw [e1, e2]
        rfl
      have htail : ∀ b : UInt8, (spc q).head? = some b → (spc (q ++ zz)).tail = (spc q).tail ++ zz := fun b hb => by
        rcases zz_cases (r := q) (r' := q ++ zz) (.inl rfl) with ⟨e1, e2⟩ | ⟨c, q, e1, e2⟩
        · rw [e1] at hb; cases hb
        · rw [e1, e2]; rfl
      have hsq : (spc q).length ≤ q.length := (spc_suffix q).length_le
      have hsq2 : (spc (q ++ zz)).length ≤ q.length + 2 := by
        have := (spc_suffix (q ++ zz)).length_le
        simpa [zz] using this
      by_cases h7 : c = 91
      · rw [if_pos h7, if_pos h7]
        by_cases hh : (spc q).head? = some 93
        · rw [if_pos hh, if_pos ((hhead 93).2 hh), htail 93 hh]; exact rfl
        · rw [if_neg hh, if_neg (fun x => hh ((hhead 93).1 x))]
          refine (items_ex (value_part k) (value_ex k) _ _ (m + 1) _ _ [] (zz_spc (.inl rfl)) (by omega) (by omega)).bind ?_
          intro a b hab _; rw [show b = (a.1, a.2.1, a.2.2 ++ zz) from hab]; exact rfl
      rw [if_neg h7, if_neg h7]
      by_cases h8 : c = 123
      · rw [if_pos h8, if_pos h8]
        by_cases hh : (spc q).head? = some 125
        · rw [if_pos hh, if_pos ((hhead 125).2 hh), htail 125 hh]; exact rfl
        · rw [if_neg hh, if_neg (fun x => hh ((hhead 125).1 x))]
          refine (fields_ex (value_part k) (value_ex k) _ _ (m + 1) _ _ [] [] (zz_spc (.inl rfl)) (by omega) (by omega)).bind ?_
          intro a b hab _; rw [show b = (a.1, a.2.1, a.2.2.1, a.2.2.2 ++ zz) from hab]; exact rfl
      rw [if_neg h8, if_neg h8, hcc]
      refine (num_ex _ (by simp)).bind ?_
      intro a b hab _; rw [show b = (a.1, a.2 ++ zz) from hab]; exact rfl
theorem parse_ex (s : List UInt8) : Ex (fun x y => y = x) (parseJ s) (parseJ (s ++ zz)) := by
  unfold parseJ
  refine (value_ex 24 0 s (s ++ zz) (.inl rfl)).bind ?_
  intro a b hab _
  rw [show b = (a.1, a.2.1, a.2.2 ++ zz) from hab]
  dsimp only
  rcases zz_cases (r := a.2.2) (r' := a.2.2 ++ zz) (.inl rfl) with ⟨e1, e2⟩ | ⟨c, q, e1, e2⟩
  · rw [e1, e2]; exact rfl
  · rw [e1, e2]
    dsimp only
    rw [show (q ++ zz).length + 1 = (q.length + 1) + 2 by simp [zz]]; exact Ex.err _ _
theorem value_lead {k m : Nat} {r r' : List UInt8} (h : spc r = spc r') : valueJ k m r = valueJ k m r' := by
  cases k with
  | zero => unfold valueJ; rw [h]
  | succ k => unfold valueJ; rw [h]
theorem parse_lead (s : List UInt8) : parseJ (32 :: 9 :: s) = parseJ s := by
  unfold parseJ
  rw [value_lead (r := 32 :: 9 :: s) (r' := s) rfl]
end Go.Proofs.YtjhjleanihgopaaDoor
