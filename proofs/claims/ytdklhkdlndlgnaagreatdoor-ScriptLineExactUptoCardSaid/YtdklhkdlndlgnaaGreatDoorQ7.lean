/- Parts of a proof, merged by a program (shake.py). -/
import Derived.Laws.Tables
import Derived.Test.YtdklhkdlndlgnaaGreatDoorQ6
set_option linter.unusedVariables false
set_option linter.unusedSimpArgs false
namespace Go.Proofs.YtdklhkdlndlgnaaGreatDoor
open Go.RowKit
section
variable {P : Program} {s s' : Sg} {w w' : World} {rs : Nat → Option Res}
theorem sliceOf_some {t : TypeId} (h : (sliceOf P t).isSome = true) : ∃ e, P.underlying t = some (.slice e) := by
  obtain ⟨e, he⟩ := Option.isSome_iff_exists.1 h
  exact ⟨e, sliceOf_u he⟩
theorem len_wf {n : Nat} (h : n ≤ maxLen) : (Lit.int .i64 n).wf = true := by
  rw [wf_int]; simp only [maxLen, IntKind.min, IntKind.max, IntKind.signed, IntKind.bits] at *; simp; omega
theorem len1_ok {t : TypeId} {vx : V} {ux : Value} {p : Prop} {v : V} (ty : TypeId) (h : len1 P t vx = .val p v) (hp : p) (hx : rel P s w vx ux) : ∃ u, (Builtin.len_ #[t] ty #[ux]).run P w = .ok u w ∧ rel P s w v u := by
  unfold len1 at h
  split at h
  · simp only [A1.val.injEq] at h; obtain ⟨rfl, rfl⟩ := h
    rw [rel] at hx; obtain ⟨rfl, hok⟩ := hx
    refine ⟨_, by simp [Builtin.len_, run_underlying hp]; rfl, ?_⟩
    rw [rel]
    refine ⟨rfl, ?_⟩
    simp only [okV, wf_int, IntKind.min, IntKind.max, IntKind.signed, IntKind.bits, maxLen] at *
    simp; omega
  all_goals first
    | (cases h; done)
    | (split at h <;> simp only [A1.val.injEq, reduceCtorEq] at h <;> obtain ⟨rfl, rfl⟩ := h)
  · rename_i hs
    obtain ⟨e, he⟩ := sliceOf_some hs
    rw [rel] at hx
    obtain ⟨k, A, c, rfl, h2, h3, -, -⟩ := hx
    exact ⟨_, by simp [Builtin.len_, run_underlying he]; rfl, by rw [rel]; exact ⟨rfl, len_wf (by omega)⟩⟩
  · rename_i hs
    obtain ⟨e, he⟩ := sliceOf_some hs
    rw [rel] at hx
    obtain ⟨rfl, -⟩ := hx
    exact ⟨_, by simp [Builtin.len_, run_underlying he]; rfl, by rw [rel]; exact ⟨rfl, len_wf hp⟩⟩
theorem sub_rel {x : ByteArray} {l h : Nat} (hx : okV (.string x)) : rel P s w (.c (.string (x.extract l h))) (.string (x.extract l h)) := by
  rw [rel]
  refine ⟨rfl, ?_⟩
  simp only [okV] at *
  rw [ByteArray.size_extract]; omega
theorem relL.map {ea : Operand → V} {ρ : Operand → Value} (he : ∀ x, rel P s w (ea x) (ρ x)) : ∀ (l : List Operand), relL P s w (l.map ea) (l.map ρ)
  | [] => by simp [relL]
  | x :: l => by rw [List.map_cons, List.map_cons, relL]; exact ⟨he x, relL.map he l⟩
theorem leaf_one {P : Program} {v : V} {u : Value} (h : v.leaf = true) (hr : rel P s w v u) : u.oneCell' = true := by
  cases v with
  | any => cases h
  | agg _ => cases h
  | tup _ => cases h
  | c x => rw [rel] at hr; obtain ⟨rfl, hk⟩ := hr; cases u <;> first | rfl | exact hk.elim
  | sl e l => rw [rel] at hr; obtain ⟨k, A, c, rfl, _⟩ := hr; rfl
  | lit e l => rw [rel] at hr; obtain ⟨⟨k, A, c, rfl, _⟩, _⟩ := hr; rfl
  | «at» t d o => rw [rel] at hr; obtain ⟨b, o', k, cs, rfl, _⟩ := hr; rfl
  | bx n o => rw [rel] at hr; obtain ⟨b, _, rfl⟩ := hr; rfl
  | own k e l => rw [rel] at hr; obtain ⟨⟨k, A, c, rfl, _⟩, _⟩ := hr; rfl
  | clo f vs => rw [rel] at hr; obtain ⟨cs, rfl, _⟩ := hr; rfl
  | mp n => rw [rel] at hr; obtain ⟨b, _, rfl⟩ := hr; rfl
theorem leaf_cells {P : Program} {v : V} {u : Value} (h : v.leaf = true) (hr : rel P s w v u) : u.cells = #[u] := by
  have := leaf_one h hr
  cases u <;> first | rfl | (simp [Value.oneCell'] at this)
theorem relL.ones {P : Program} : ∀ {vs : List V} {us : List Value}, relL P s w vs us → vs.all V.leaf = true → ∀ u ∈ us, u.oneCell' = true
  | [], [], _, _, u, hu => by simp at hu
  | [], _ :: _, h, _, _, _ => by simp [relL] at h
  | _ :: _, [], h, _, _, _ => by simp [relL] at h
  | v :: vs, x :: us, h, ha, u, hu => by
    rw [relL] at h
    rw [List.all_cons, Bool.and_eq_true] at ha
    rcases List.mem_cons.1 hu with rfl | hu
    · exact leaf_one ha.1 h.1
    · exact relL.ones h.2 ha.2 u hu
theorem cellsOf_ok {P : Program} {v : V} {u : Value} {vs : List V} (h : cellsOf v = some vs) (hr : rel P s w v u) : relL P s w vs u.cells.toList ∧ vs.all V.leaf = true ∧ ∀ x ∈ u.cells.toList, x.oneCell' = true := by
  unfold cellsOf at h
  split at h
  · split at h
    · rename_i ha; cases h
      rw [rel] at hr
      obtain ⟨cs, rfl, hr⟩ := hr
      exact ⟨hr, ha, hr.ones ha⟩
    · cases h
  · split at h
    · rename_i hl; cases h
      rw [leaf_cells hl hr]
      refine ⟨by simp [relL, hr], by simp [hl], fun x hx => ?_⟩
      simp at hx; subst hx; exact leaf_one hl hr
    · cases h
theorem zeroV_ok {P : Program} {t : TypeId} {vs : List V} (h : zeroV P t = some vs) : ∃ z, (∀ w, (zeroValue t).run P w = .ok z w) ∧ ∀ s w, relL P s w vs z.cells.toList := by
  unfold zeroV at h
  split at h
  · rename_i z hz
    split at h
    · rename_i ha
      cases h
      obtain ⟨i, hi, hiz⟩ := Option.bind_eq_some_iff.1 hz
      refine ⟨z, fun w => by simp [zeroValue, typeInfo, hi, hiz], fun s w => ?_⟩
      generalize z.cells.toList = l at *
      induction l with
      | nil => simp [relL]
      | cons x l ih =>
        rw [List.all_cons, Bool.and_eq_true] at ha
        rw [List.map_cons, relL]
        exact ⟨by rw [rel]; exact ⟨rfl, okB_ok ha.1⟩, ih ha.2⟩
    · cases h
  · cases h
theorem set_take_drop {α : Type} (l : List α) (n : Nat) (x : α) (h : n < l.length) : (l.set n x).take (n + 1) = l.take n ++ [x] ∧ ∀ m, n < m → (l.set n x).drop m = l.drop m := by
  constructor
  · apply List.ext_getElem?
    intro i
    simp [List.getElem?_take, List.getElem?_append, List.getElem?_set]
    by_cases h1 : i < n
    · have h2 : ¬ n = i := by omega
      have h3 : i < n + 1 := by omega
      have h4 : i < min n l.length := by omega
      simp [h1, h2, h3]
      omega
    · by_cases h2 : i = n
      · subst h2
        simp [h]
        have : ¬ i < min i l.length := by omega
        simp [show min i l.length = i by omega]
      · have h3 : ¬ i < n + 1 := by omega
        simp [h3]
        have h4 : min n l.length = n := by omega
        rw [h4]
        have h5 : ¬ i < n := h1
        simp [h5, show i - n ≠ 0 by omega]
  · intro m hm
    apply List.ext_getElem?
    intro i
    simp [List.getElem?_drop, List.getElem?_set]
    intro h; omega
theorem fold_set : ∀ (l : List Value) (k off : Nat) (cells : Array Value), off + k + l.length ≤ cells.size →
    ((l.zipIdx k).foldl (fun cs (p : Value × Nat) => cs.setIfInBounds (off + p.2) p.1) cells).toList = cells.toList.take (off + k) ++ l ++ cells.toList.drop (off + k + l.length)
  | [], k, off, cells, h => by simp
  | x :: l, k, off, cells, h => by
    rw [List.zipIdx_cons, List.foldl_cons]
    rw [fold_set l (k + 1) off _ (by simp at h ⊢; omega)]
    have hk : off + k < cells.toList.length := by simp at h ⊢; omega
    obtain ⟨h1, h2⟩ := set_take_drop cells.toList (off + k) x hk
    simp only [Array.toList_setIfInBounds]
    rw [show off + (k + 1) = off + k + 1 by omega, h1, h2 _ (by omega)]
    simp only [List.append_assoc, List.cons_append, List.nil_append, List.length_cons]
    rw [show off + k + 1 + l.length = off + k + (l.length + 1) by omega]
theorem fold_arr (c cells : Array Value) (off : Nat) (h : off + c.size ≤ cells.size) :
    (c.zipIdx.foldl (fun cs (p : Value × Nat) => cs.setIfInBounds (off + p.2) p.1) cells).toList = cells.toList.take off ++ c.toList ++ cells.toList.drop (off + c.size) := by
  have := fold_set c.toList 0 off cells (by simpa using h)
  rw [← Array.foldl_toList]
  simpa using this
theorem fold_size (c cells : Array Value) (off : Nat) : (c.zipIdx.foldl (fun cs (p : Value × Nat) => cs.setIfInBounds (off + p.2) p.1) cells).size = cells.size := by
  rw [← Array.foldl_toList]
  generalize c.zipIdx.toList = l
  induction l generalizing cells with
  | nil => rfl
  | cons x l ih => rw [List.foldl_cons, ih]; simp
theorem places_all {P : Program} : ∀ (fs : List Field), fs.all (fun f => (P.info? f.type).isSome) = true → fs.mapM (fun f => (P.info? f.type).map fun i => (f.offset, i.size)) = some (fs.map fun f => (f.offset, P.cellsOf f.type))
  | [], _ => by simp
  | f :: fs, h => by
    rw [List.all_cons, Bool.and_eq_true] at h
    obtain ⟨i, hi⟩ := Option.isSome_iff_exists.1 h.1
    rw [List.mapM_cons, places_all fs h.2]
    simp [hi, Program.cellsOf]
theorem fillV_ok {P : Program} {fs : Array Field} {ea : Operand → V} {ρ : Operand → Value} (he : ∀ x, rel P s w (ea x) (ρ x)) : ∀ (ps : List (Nat × Operand)) (z vs : List V) (zc : Array Value),
    fillV P fs z (ps.map fun p => (p.1, ea p.2)) = some vs → relL P s w z zc.toList → ∃ arr, Instr.fill ((fs.toList.map fun f => (f.offset, P.cellsOf f.type)).toArray[·]?) zc (ps.map fun p => (p.1, ρ p.2)) = some arr ∧ relL P s w vs arr.toList
  | [], z, vs, zc, h, hr => by
    simp only [List.map_nil, fillV, Option.some.injEq] at h
    subst h
    exact ⟨zc, by simp [Instr.fill], hr⟩
  | (i, x) :: ps, z, vs, zc, h, hr => by
    simp only [List.map_cons, fillV] at h
    split at h
    · rename_i f xs hf hx
      split at h
      · rename_i hc
        obtain ⟨h1, h2, h3⟩ := cellsOf_ok hx (he x)
        have hl := h1.length
        have hz := hr.length
        have hl2 : (ρ x).cells.toList.length = (ρ x).cells.size := by simp
        have hz2 : zc.toList.length = zc.size := by simp
        have hfo := fold_arr (ρ x).cells zc f.offset (by omega)
        obtain ⟨arr, ha, hb⟩ := fillV_ok he ps _ vs ((ρ x).cells.zipIdx.foldl (fun cs (p : Value × Nat) => cs.setIfInBounds (f.offset + p.2) p.1) zc) h (by
          rw [hfo]
          unfold splice
          have := ((hr.take f.offset).append h1).append (hr.drop (f.offset + xs.length))
          rw [hl, hl2] at this
          rw [hl, hl2]
          exact this)
        refine ⟨arr, ?_, hb⟩
        rw [List.map_cons, Instr.fill]
        have hpl : (fs.toList.map fun f => (f.offset, P.cellsOf f.type)).toArray[i]? = some (f.offset, P.cellsOf f.type) := by simp [hf]
        have hn : ¬ ((ρ x).cells.size ≠ P.cellsOf f.type || f.offset + (ρ x).cells.size > zc.size) = true := by simp; omega
        simp only [hpl]
        rw [if_neg hn]
        exact ha
      · cases h
    · cases h
theorem build1_ok {P : Program} {t : TypeId} {ps : Array (Nat × Operand)} {ea : Operand → V} {ρ : Operand → Value} {p : Prop} {v : V} (h : build1 P t (ps.toList.map fun p => (p.1, ea p.2)) = .val p v) (he : ∀ x, rel P s w (ea x) (ρ x)) :
    ∃ u, (Instr.build t (ps.map fun p => (p.1, ρ p.2))).run P w = .ok u w ∧ rel P s w v u := by
  unfold build1 at h
  split at h
  · rename_i fs z hu hz
    split at h
    · rename_i ha
      unfold ofPart at h
      split at h
      · rename_i v' hv
        cases h
        obtain ⟨vs, hvs, rfl⟩ := Option.map_eq_some_iff.1 hv
        unfold zeroV at hz
        split at hz
        · rename_i z' hz'
          obtain ⟨it, hit, hiz⟩ := Option.bind_eq_some_iff.1 hz'
          have hzz := hz
          split at hz
          · rename_i hall
            cases hz
            have hrel : relL P s w (z'.cells.toList.map .c) z'.cells.toList := by
              obtain ⟨z2, hz2, hz3⟩ := zeroV_ok (P := P) (t := t) (vs := z'.cells.toList.map .c) (by unfold zeroV; rw [hz']; simp only [if_pos hall])
              have := hz2 w
              simp [zeroValue, typeInfo, hit, hiz] at this
              subst this
              exact hz3 s w
            obtain ⟨arr, h1, h2⟩ := fillV_ok he ps.toList _ vs z'.cells hvs hrel
            refine ⟨.agg arr, run_build w t _ arr ?_, by rw [rel]; exact ⟨arr, rfl, h2⟩⟩
            unfold Program.built
            simp only [hit, hu, hiz, places_all fs.toList ha]
            rw [Array.toList_map]
            exact h1
          · cases hz
        · cases hz
      · cases h
    · cases h
  · cases h
/-- a part of a slice -/
theorem sub_sl {e : TypeId} {l : List D} {A : Option Addr} {c k a b : Nat} (h1 : l.length ≤ c) (h2 : c ≤ maxLen) (h3 : A = none → c = 0) (h4 : SlF P w s.F k e A l) (hab : a ≤ b) (hb : b ≤ l.length) :
    SlV P w s.F e ((l.take b).drop a) (.slice (if c = a then A else A.map (·.add (a * P.cellsOf e))) (b - a) (c - a)) := by
  have hlen : ((l.take b).drop a).length = b - a := by rw [List.length_drop, List.length_take]; omega
  refine ⟨k, _, c - a, by rw [hlen], by omega, by omega, fun hn => ?_, fun hl hz => ?_⟩
  · split at hn
    · omega
    · cases A with
      | none => have := h3 rfl; omega
      | some _ => cases hn
  · rw [hlen] at hl
    obtain ⟨bb, off, rfl, hat⟩ := h4 (by omega) hz
    refine ⟨bb, off + a * P.cellsOf e, ?_, fun i hi => ?_⟩
    · rw [if_neg (by omega)]
      simp [Addr.add_none]
    · rw [hlen] at hi
      obtain ⟨ys, y1, y2, y3⟩ := hat (a + i) (by omega)
      have e1 : off + a * P.cellsOf e + i * P.cellsOf e = off + (a + i) * P.cellsOf e := by rw [Nat.add_mul]; omega
      rw [e1]
      refine ⟨ys, y1, y2, ?_⟩
      have : gD ((l.take b).drop a) i = gD l (a + i) := by
        unfold gD
        rw [List.getD_eq_getElem?_getD, List.getD_eq_getElem?_getD, List.getElem?_drop, List.getElem?_take, if_pos (by omega)]
      rw [this]; exact y3
theorem slice1_ok {t : TypeId} {vx : V} {ux : Value} {lo hi : Option V} {ulo uhi : Option Value} {p : Prop} {v : V} (h : slice1 P t vx lo hi = .val p v) (hp : p) (hx : rel P s w vx ux)
    (hlo : ∀ a, lo = some a → ∃ b, ulo = some b ∧ rel P s w a b) (hlo0 : lo = none → ulo = none) (hhi : ∀ a, hi = some a → ∃ b, uhi = some b ∧ rel P s w a b) (hhi0 : hi = none → uhi = none) :
    ∃ u, (Instr.sliceAt t ux ulo uhi none).run P w = .ok u w ∧ rel P s w v u := by
  unfold slice1 at h
  split at h
  · rename_i x
    rw [rel] at hx; obtain ⟨rfl, hok⟩ := hx
    split at h <;> simp only [A1.val.injEq, reduceCtorEq] at h <;> obtain ⟨rfl, rfl⟩ := h
    · rw [hlo0 rfl, hhi0 rfl]
      exact ⟨_, by simp [Instr.sliceAt, Instr.slice, Instr.sliceBounds, run_underlying hp], sub_rel hok⟩
    · obtain ⟨b, rfl, hb⟩ := hlo _ rfl
      rw [rel] at hb; obtain ⟨rfl, -⟩ := hb
      rw [hhi0 rfl]
      obtain ⟨hu, h1, h2⟩ := hp
      exact ⟨_, by simp [Instr.sliceAt, Instr.slice, Instr.sliceBounds, Instr.sliceBound, asIntOf, run_underlying hu, h1, h2], sub_rel hok⟩
    · obtain ⟨b, rfl, hb⟩ := hhi _ rfl
      rw [rel] at hb; obtain ⟨rfl, -⟩ := hb
      rw [hlo0 rfl]
      obtain ⟨hu, h1, h2⟩ := hp
      exact ⟨_, by simp [Instr.sliceAt, Instr.slice, Instr.sliceBounds, Instr.sliceBound, asIntOf, run_underlying hu, h1, h2], sub_rel hok⟩
    · obtain ⟨b, rfl, hb⟩ := hlo _ rfl
      rw [rel] at hb; obtain ⟨rfl, -⟩ := hb
      obtain ⟨b, rfl, hb⟩ := hhi _ rfl
      rw [rel] at hb; obtain ⟨rfl, -⟩ := hb
      obtain ⟨hu, h1, h2, h3⟩ := hp
      rename_i kl l kh h
      have h4 : l ≤ (h.toNat : Int) := by omega
      have h5 : 0 ≤ h := by omega
      have h6 : max h 0 = h := by omega
      exact ⟨_, by simp [Instr.sliceAt, Instr.slice, Instr.sliceBounds, Instr.sliceBound, asIntOf, run_underlying hu, h1, h2, h3, h4, h5, h6], sub_rel hok⟩
  · rename_i e l
    split at h
    · rename_i hc
      have hu := sliceOf_u hc.1
      rw [rel] at hx
      obtain ⟨k, A, c, rfl, g1, g2, g3, g4⟩ := hx
      obtain ⟨ie, hie⟩ := Option.isSome_iff_exists.1 hc.2
      have hz : P.cellsOf e = ie.size := by simp [Program.cellsOf, hie]
      have hsz : (sizeOf e).run P w = .ok (P.cellsOf e) w := by simp [sizeOf, typeInfo, hie, hz]
      split at h <;> simp only [A1.val.injEq, reduceCtorEq] at h <;> obtain ⟨rfl, rfl⟩ := h
      · obtain ⟨b, rfl, hb⟩ := hlo _ rfl
        rw [rel] at hb; obtain ⟨rfl, -⟩ := hb
        rw [hhi0 rfl]
        rename_i ka a
        have hs := sub_sl (a := a.toNat) (b := l.length) g1 g2 g3 g4 (by omega) (Nat.le_refl _)
        rw [List.take_length] at hs
        exact ⟨_, by simp [Instr.sliceAt, Instr.slice, Instr.sliceBounds, Instr.sliceBound, asIntOf, run_underlying hu, hsz, hp.1, hp.2]; rfl, by rw [rel]; exact hs⟩
      · obtain ⟨b, rfl, hb⟩ := hhi _ rfl
        rw [rel] at hb; obtain ⟨rfl, -⟩ := hb
        rw [hlo0 rfl]
        rename_i ka a
        have hs := sub_sl (a := 0) (b := a.toNat) g1 g2 g3 g4 (by omega) (by omega)
        rw [List.drop_zero] at hs
        have h2 : a ≤ (c : Int) := by omega
        exact ⟨_, by simp [Instr.sliceAt, Instr.slice, Instr.sliceBounds, Instr.sliceBound, asIntOf, run_underlying hu, hsz, hp.1, h2]; rfl, by rw [rel]; simpa using hs⟩
      · obtain ⟨b, rfl, hb⟩ := hlo _ rfl
        rw [rel] at hb; obtain ⟨rfl, -⟩ := hb
        obtain ⟨b, rfl, hb⟩ := hhi _ rfl
        rw [rel] at hb; obtain ⟨rfl, -⟩ := hb
        rename_i ka a kb b
        have hs := sub_sl (a := a.toNat) (b := b.toNat) g1 g2 g3 g4 (by omega) (by omega)
        have q1 : b ≤ (c : Int) := by omega
        have q2 : 0 ≤ b := by omega
        have q3 : a ≤ (b.toNat : Int) := by omega
        have q4 : max b 0 = b := by omega
        exact ⟨_, by simp [Instr.sliceAt, Instr.slice, Instr.sliceBounds, Instr.sliceBound, asIntOf, run_underlying hu, hsz, hp.1, hp.2.1, q1, q2, q3, q4]; rfl, by rw [rel]; exact hs⟩
    · cases h
  · cases h
theorem allC_ok : ∀ {vs : List V} {cs us : List Value}, allC vs = some cs → relL P s w vs us → us = cs
  | [], cs, [], h, _ => by simp [allC] at h; exact h.symm ▸ rfl
  | [], _, _ :: _, _, h => by simp [relL] at h
  | v :: vs, cs, [], _, h => by simp [relL] at h
  | v :: vs, cs, u :: us, h, hr => by
    rw [relL] at hr
    cases v <;> simp [allC] at h
    rename_i x
    obtain ⟨r, h1, rfl⟩ := h
    have h2 := hr.1
    rw [rel] at h2
    rw [h2.1, allC_ok h1 hr.2]
/-- an operation that writes nothing yields its value -/
theorem act1_ok {o : Oper} {ea : Operand → V} {ρ : Operand → Value} {p : Prop} {v : V} (h : act1 P rs ea o.op = .val p v) (hp : p) (hb : Boxes P rs s w) (he : ∀ x, rel P s w (ea x) (ρ x)) :
    ∃ u, (execOp ρ o).run P w = .ok (.value u) w ∧ rel P s w v u := by
  unfold act1 at h
  split at h <;> rename_i ho
  · simp only [A1.val.injEq] at h; obtain ⟨rfl, rfl⟩ := h
    exact ⟨_, by simp [execOp, ho], he _⟩
  · simp only [A1.val.injEq] at h; obtain ⟨rfl, rfl⟩ := h
    exact ⟨_, by simp [execOp, ho], he _⟩
  · obtain ⟨b, hb1, hb2⟩ := pick1_ok h (he _) (he _) (he _)
    refine ⟨_, ?_, hb2⟩
    simp only [execOp, ho]; rw [hb1]; simp [asBool]
  · obtain ⟨u, h1, h2⟩ := load1_ok h hb (he _)
    exact ⟨u, by simp [execOp, ho, h1], h2⟩
  · obtain ⟨u, h1, h2⟩ := fieldAddr1_ok h (he _)
    exact ⟨u, by simp [execOp, ho, h1], h2⟩
  · obtain ⟨u, h1, h2⟩ := field1_ok h (he _)
    exact ⟨u, by simp [execOp, ho, h1], h2⟩
  · obtain ⟨u, h1, h2⟩ := indexAddr1_ok h hp (rel.out _ _ (he _)) (he _)
    exact ⟨u, by simp [execOp, ho, h1], h2⟩
  · obtain ⟨u, h1, h2⟩ := index1_ok h hp (he _) (he _)
    exact ⟨u, by simp [execOp, ho, h1], h2⟩
  · rename_i op t x y yt
    obtain ⟨u, h1, h2⟩ := bin2_ok (x := x) (y := y) h hp (he _) (he _)
    refine ⟨u, ?_, h2⟩
    simp only [execOp, ho]
    rw [Sem.run_bind, h1]; rfl
  · obtain ⟨u, h1, h2⟩ := un1_ok h hp (he _)
    exact ⟨u, by simp [execOp, ho, h1], h2⟩
  · obtain ⟨u, h1, h2⟩ := conv1_ok h hp (he _)
    exact ⟨u, by simp [execOp, ho, h1], h2⟩
  · obtain ⟨u, h1, h2⟩ := extract1_ok h (he _)
    exact ⟨u, by simp [execOp, ho, h1], h2⟩
  · rename_i t x lo hi
    obtain ⟨u, h1, h2⟩ := slice1_ok (ulo := lo.map ρ) (uhi := hi.map ρ) h hp (rel.out _ _ (he _)) (fun a ha => by
      cases lo with
      | none => cases ha
      | some y => cases ha; exact ⟨_, rfl, he _⟩) (fun h0 => by cases lo with | none => rfl | some y => cases h0) (fun a ha => by
      cases hi with
      | none => cases ha
      | some y => cases ha; exact ⟨_, rfl, he _⟩) (fun h0 => by cases hi with | none => rfl | some y => cases h0)
    exact ⟨u, by simp [execOp, ho, h1], h2⟩
  · rename_i fn fs cs
    split at h
    · rename_i hf
      rw [Array.isEmpty_iff] at hf
      subst hf
      split at h
      · rename_i hc
        simp only [A1.val.injEq] at h; obtain ⟨rfl, rfl⟩ := h
        rw [Array.isEmpty_iff] at hc
        subst hc
        exact ⟨_, by simp [execOp, ho, Instr.makeFunc]; rfl, by simp [rel, okV]⟩
      · split at h
        · simp only [A1.val.injEq] at h; obtain ⟨rfl, rfl⟩ := h
          exact ⟨_, by simp [execOp, ho, Instr.makeFunc]; rfl, by rw [rel]; exact ⟨_, rfl, by simpa using relL.map he cs.toList⟩⟩
        · cases h
    · cases h
  · rename_i c
    unfold call1 at h
    split at h
    · split at h <;> cases h
    · split at h <;> (try split at h) <;> cases h
    · rename_i hc
      split at h
      · rename_i x t ha ht
        obtain ⟨u, h1, h2⟩ := len1_ok o.type h hp (rel.out _ _ (he _))
        have e1 : c.args = #[x] := by apply Array.ext'; simpa using ha
        have e2 : c.argTypes = #[t] := by apply Array.ext'; simpa using ht
        refine ⟨u, ?_, h2⟩
        simp [execOp, ho, resolve, hc, invoke, builtin, e1, e2, h1]
      · cases h
    · rename_i hc
      split at h
      · rename_i x y ha
        split at h
        · rename_i k a k' b hx hy
          split at h
          · rename_i e; subst e
            simp only [A1.val.injEq] at h; obtain ⟨rfl, rfl⟩ := h
            have e1 : c.args = #[x, y] := by apply Array.ext'; simpa using ha
            have r1 := he x; rw [hx, rel] at r1
            have r2 := he y; rw [hy, rel] at r2
            refine ⟨.int k (if b < a then b else a), ?_, ?_⟩
            · simp [execOp, ho, resolve, hc, invoke, builtin, e1, Builtin.min_, Builtin.min2, r1.1, r2.1]
            · rw [rel]; refine ⟨rfl, ?_⟩
              split
              · exact r2.2
              · exact r1.2
          · cases h
        · cases h
      · cases h
    · cases h
  · obtain ⟨u, h1, h2⟩ := build1_ok h he
    exact ⟨u, by simp [execOp, ho, h1], h2⟩
  · rename_i x
    have hr := he x
    unfold nil1 at h
    split at h <;> simp only [A1.val.injEq, reduceCtorEq] at h <;> obtain ⟨rfl, rfl⟩ := h
    · rename_i hx
      rw [hx] at hr
      have hr2 := hr
      rw [rel] at hr2
      obtain ⟨b, o', k, cs, e1, -⟩ := hr2
      exact ⟨_, by simp only [execOp, ho]; rw [e1]; rfl, by rw [← e1]; exact hr⟩
    · rename_i hx
      rw [hx] at hr
      have hr2 := hr
      rw [rel] at hr2
      obtain ⟨b, -, e1⟩ := hr2
      exact ⟨_, by simp only [execOp, ho]; rw [e1]; rfl, by rw [← e1]; exact hr⟩
  · rename_i t x
    have hr := he x
    unfold iface1 at h
    split at h
    · rename_i vs hx
      split at h
      · rename_i cs fs hcs hu
        simp only [A1.val.injEq] at h
        obtain ⟨rfl, rfl⟩ := h
        rw [hx, rel] at hr
        obtain ⟨as', e1, e2⟩ := hr
        have e3 : as' = cs.toArray := by apply Array.ext'; rw [allC_ok hcs e2]
        refine ⟨.iface t (.agg cs.toArray), ?_, by rw [rel]; exact ⟨rfl, trivial⟩⟩
        simp only [execOp, ho]
        rw [e1, e3]
        simp [Instr.makeInterface, run_underlying hu]
      · cases h
    · cases h
  · cases h
theorem run_enter {f : FuncId} (h : entered P f = true) (us : Array Value) : (callFunc f us).run P w = .ok (.enter f us) w := by
  unfold entered at h
  split at h
  · rename_i fn hf
    simp only [Bool.and_eq_true, bne_iff_ne, ne_eq] at h
    have hb : fn.body.isNone = false := by cases hq : fn.body <;> simp_all
    have hb2 : ¬ fn.body = none := by intro e; simp [e] at hb
    simp [callFunc, hf, h.1, hb2]
  · cases h
theorem bin2_call {op : BinOp} {t : TypeId} {x y : V} {f : FuncId} {args : List V} (h : bin2 P op t x y = .call f args) : False := by
  unfold bin2 at h
  split at h
  · split at h <;> cases h
  · unfold bin1 at h
    repeat' (split at h)
    all_goals (cases h; done)
/-- a call enters its function -/
theorem call1_ok {o : Oper} {ea : Operand → V} {ρ : Operand → Value} {f : FuncId} {args : List V} (h : act1 P rs ea o.op = .call f args) (he : ∀ x, rel P s w (ea x) (ρ x)) (hfn : ∀ g, ρ (.func g) = .func (.func g) #[] #[]) :
    ∃ us, (execOp ρ o).run P w = .ok (.enter f us) w ∧ relL P s w args us.toList := by
  have nob : ∀ {x : Option V}, ofPart x = .call f args → False := fun {x} h => by unfold ofPart at h; split at h <;> cases h
  have hcall : ∀ c : Call, o.op = .call c → call1 P ea c = .call f args → ∃ us, (execOp ρ o).run P w = .ok (.enter f us) w ∧ relL P s w args us.toList := by
    intro c ho h
    unfold call1 at h
    split at h
    · rename_i g hc
      split at h
      · rename_i hg
        simp only [A1.call.injEq] at h; obtain ⟨rfl, rfl⟩ := h
        refine ⟨c.args.map ρ, ?_, by simpa using relL.map he c.args.toList⟩
        simp [execOp, ho, resolve, hc, Deferred.ofValue, hfn, invoke, run_enter hg]
      · cases h
    · rename_i x hx hc
      split at h
      · rename_i g fs cs hv
        split at h
        · rename_i hg
          simp only [A1.call.injEq] at h; obtain ⟨rfl, rfl⟩ := h
          simp only [Bool.and_eq_true, Array.isEmpty_iff] at hg
          obtain ⟨⟨hg, rfl⟩, rfl⟩ := hg
          have hr := he x
          rw [hv, rel] at hr
          refine ⟨c.args.map ρ, ?_, by simpa using relL.map he c.args.toList⟩
          simp [execOp, ho, resolve, hc, Deferred.ofValue, hr.1, invoke, run_enter hg]
        · cases h
      · rename_i g vs hv
        split at h
        · rename_i hg
          simp only [A1.call.injEq] at h; obtain ⟨rfl, rfl⟩ := h
          have hr := he x
          rw [hv, rel] at hr
          obtain ⟨cs, hr1, hr2⟩ := hr
          refine ⟨c.args.map ρ ++ cs, ?_, by rw [Array.toList_append]; exact relL.append (by simpa using relL.map he c.args.toList) hr2⟩
          simp [execOp, ho, resolve, hc, Deferred.ofValue, hr1, invoke, run_enter hg]
        · cases h
      · cases h
    · split at h
      · unfold len1 at h; split at h <;> (try split at h) <;> cases h
      · cases h
    · split at h
      · split at h
        · split at h <;> cases h
        · cases h
      · cases h
    · cases h
  generalize ho : o.op = op at h
  cases op
  case call c => exact hcall c ho h
  case slice t x lo hi mx =>
    exfalso
    cases mx with
    | none =>
      simp only [act1] at h
      unfold slice1 at h
      repeat' (split at h)
      all_goals (cases h; done)
    | some m => simp [act1] at h
  case binOp op t x y k =>
    exfalso
    exact bin2_call h
  all_goals
    exfalso
    simp only [act1, pick1, load1, fieldAddr1, field1, indexAddr1, index1, bin1, un1, conv1, extract1, build1, ofPart, nil1, iface1] at h
    first
      | (cases h; done)
      | (repeat' (split at h)
         all_goals (cases h; done))
end
end Go.Proofs.YtdklhkdlndlgnaaGreatDoor
