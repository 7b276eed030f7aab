/- Parts of a proof, merged by a program (shake.py). -/
import Derived.Test.YtdklhkdlndlgnaaGreatDoorQ18
set_option linter.unusedVariables false
set_option linter.unusedSimpArgs false
namespace Go.Proofs.YtdklhkdlndlgnaaGreatDoor
open Go.RowKit
attribute [local irreducible] wpList Calls Code.wp
/-- the builder at block b holds the bytes l -/
def BldAt (b : Nat) (l : List UInt8) (v p : Value) (w : World) : Prop :=
  w.heap[b]? = some (.cells #[p, v] 64 (0, 0)) ∧ (p = .pointer none ∨ p = .pointer (some ⟨b, 0, none⟩)) ∧ w.ownsRowF 0 5 1 v l.length (Lib.byteCells l) ∧ v.ownBlock ≠ some b
def BPost (b : Nat) (v : Value) (l : List UInt8) (w w' : World) : Prop :=
  ∃ v' p', BldAt b l v' p' w' ∧ Frm (fun k => k = b ∨ v.ownBlock = some k) w w' ∧ ∀ g, v'.ownBlock = some g → v.ownBlock = some g ∨ w.heap.size ≤ g
theorem relL_consts {P : Program} {s : Sg} {w : World} : ∀ {cs us : List Value}, relL P s w (cs.map .c) us → us = cs
  | [], [], _ => rfl
  | [], _ :: _, h => by simp [relL] at h
  | _ :: _, [], h => by simp [relL] at h
  | c :: cs, u :: us, h => by
    rw [List.map_cons, relL, rel] at h
    rw [h.1.1, relL_consts h.2]
/-- what is said of blocks, said of values -/
theorem bld_acbV {e : Ge} {f : FuncId} {cargs : List Value} {l l' : List UInt8} {r : Value} (rv : V) (hr : ∀ s w, rel Tryz.prog s w rv r) (h : ∀ b v p w, BldAt b l v p w → Calls Tryz.prog f (Value.pointer (some ⟨b, 0, none⟩) :: cargs).toArray w fun e w' => e = .returned r ∧ BPost b v l' w w') :
    ACB e Tryz.prog f (.bx (pn 0) 0 :: cargs.map .c) [.bld 64 5 l] rv [.bld 64 5 l'] := by
  intro pas s w us hus hmem _ _
  obtain ⟨b, v, p, h1, h2, h3, h4, h5, h6, h7, h8⟩ := hmem.ho (pn 0) _ (rsOf_pn _ 0)
  have hus2 : us = (Value.pointer (some ⟨b, 0, none⟩) :: cargs).toArray := by
    apply Array.ext'
    simp only [List.toList_toArray]
    cases hl : us.toList with
    | nil => rw [hl] at hus; simp [relL] at hus
    | cons x xs =>
      rw [hl, relL, rel] at hus
      obtain ⟨⟨b', hb', rfl⟩, hxs⟩ := hus
      rw [h1] at hb'; cases hb'
      rw [relL_consts hxs]
  rw [hus2]
  refine (h b v p w ⟨h2, h3, h4, h5⟩).mono ?_
  rintro e w' ⟨rfl, v', p', ⟨q1, q2, q3, q4⟩, hfr, hg⟩
  have hbl : b < w.heap.size := (Array.getElem?_eq_some_iff.1 h2).1
  have hpb : pas b := by
    rcases hmem.bs (pn 0) _ b (rsOf_pn _ 0) (.inl h1) with h9 | h9
    · omega
    · exact h9
  have hpg : ∀ g, v.ownBlock = some g → pas g := fun g hg' => by
    have := (h4.lt g hg').2
    rcases hmem.bs (pn 0) _ g (rsOf_pn _ 0) (.inr (h6.trans hg')) with h9 | h9
    · omega
    · exact h9
  have hfr2 : Frm pas w w' := ⟨hfr.os, hfr.tape, hfr.output, hfr.size, fun k hk hp => hfr.block k hk fun hh => hp (hh.elim (fun e => by rw [e]; exact hpb) (hpg k))⟩
  have hcell : ∀ k o, s.F k o → w'.cell? ⟨k, o, none⟩ = w.cell? ⟨k, o, none⟩ := fun k o hF => by
    obtain ⟨x, hx⟩ := Option.isSome_iff_exists.1 (hmem.fx k o hF)
    exact World.cell?_of_block (w := w) (hfr.block k (block_lt_of_cell hx) fun hh => hh.elim (fun e => by rw [e] at hF; exact h7 o hF) (fun e => h8 k o e hF))
  let s' : Sg := { s with tb := fun q => if q = pn 0 then v'.ownBlock else s.tb q }
  have htb : s'.tb (pn 0) = v'.ownBlock := by show (if pn 0 = pn 0 then v'.ownBlock else s.tb (pn 0)) = _; rw [if_pos rfl]
  refine ⟨r, s', rfl, hfr2, fun k o hF => ⟨hcell k o hF, hF⟩, fun _ _ _ _ h => h, ⟨fun k o hF => by rw [hcell k o hF]; exact hmem.fx k o hF, fun n ρ hn => ?_, fun n ρ k hn hk => ?_, fun n m ρ ρ' k hn hm _ _ => ?_⟩, PE.refl _, hr _ _⟩
  · obtain ⟨i, rfl, hi⟩ := rsOf_some hn
    cases i with
    | zero =>
      simp at hi; subst hi
      refine ⟨b, v', p', h1, q1, q2, q3, q4, htb, h7, fun g o hg' hF => ?_⟩
      rcases hg g hg' with h9 | h9
      · exact h8 g o h9 hF
      · obtain ⟨x, hx⟩ := Option.isSome_iff_exists.1 (hmem.fx g o hF)
        have := block_lt_of_cell hx
        simp at this; omega
    | succ i => simp at hi
  · obtain ⟨i, rfl, hi⟩ := rsOf_some hn
    cases i with
    | zero =>
      simp at hi; subst hi
      rcases hk with hk | hk
      · rw [show s'.bx (pn 0) = s.bx (pn 0) from rfl, h1] at hk; cases hk; exact .inr hpb
      · rw [htb] at hk
        rcases hg k hk with h9 | h9
        · exact .inr (hpg k h9)
        · exact .inl h9
    | succ i => simp at hi
  · obtain ⟨i, rfl, hi⟩ := rsOf_some hn
    obtain ⟨j, rfl, hj⟩ := rsOf_some hm
    cases i with
    | zero => cases j with
      | zero => rfl
      | succ j => simp at hj
    | succ i => simp at hi
theorem bld_acb {e : Ge} {f : FuncId} {cargs : List Value} {l l' : List UInt8} {r : Value} (hr : okV r) (h : ∀ b v p w, BldAt b l v p w → Calls Tryz.prog f (Value.pointer (some ⟨b, 0, none⟩) :: cargs).toArray w fun e w' => e = .returned r ∧ BPost b v l' w w') :
    ACB e Tryz.prog f (.bx (pn 0) 0 :: cargs.map .c) [.bld 64 5 l] (.c r) [.bld 64 5 l'] :=
  bld_acbV (.c r) (fun s w => by rw [rel]; exact ⟨rfl, hr⟩) h
theorem run_append_ownG {P : Program} (w : World) (t ty e : TypeId) (i : TypeInfo) (z : Value) (ht : P.underlying t = some (.slice e)) (hi : P.info? e = some i) (hz : i.zero = some z) (hsize : i.size = 1) (hby : i.bytes = 1) (hzs : z.cells.size = 1)
    (v : Value) (n : Nat) (xs : List Value) (hown : w.ownsRowF 0 e 1 v n xs) (a : Addr) (c : Nat) (x : Value) (hnews : w.cell? a = some x) (h1 : x.oneCell' = true) (h63 : n + 1 ≤ maxLen) (hby2 : n + 1 ≤ 140737488355328) :
    ∃ v' w', (Builtin.append_ #[t, t] ty #[v, .slice (some a) 1 c]).run P w = .ok v' w' ∧ w'.ownsRowF 0 e 1 v' (n + 1) (xs ++ [x]) ∧ w.grownBy w' v.ownBlock ∧ ∀ g, v'.ownBlock = some g → v.ownBlock = some g ∨ w.heap.size ≤ g := by
  have hnw : ∀ j u, [x][j]? = some u → w.cell? (a.add j) = some u := fun j u hj => by
    match j, hj with
    | 0, hj => simp at hj; subst hj; simpa [Addr.add] using hnews
  have h1' : ∀ u ∈ [x], u.oneCell' = true := fun u hu => by simp at hu; subst hu; exact h1
  rcases hown.2 with ⟨rfl, rfl⟩ | ⟨g, cap, cur, fz, rfl, hbg, hg, hfz, hnc, hcm, hcs, htake⟩
  · obtain ⟨v', w', r1, r2, r3, _⟩ := run_append_own (P := P) w w.heap.size t ty e i z 1 1 ht hi hz hsize hby hzs (by omega) (.slice none 0 0) 0 xs ⟨hown.1, .inl ⟨rfl, rfl⟩⟩ a 1 c [x] (by simp) hnw h1' h63 (by omega) (Nat.le_refl _)
    refine ⟨v', w', r1, ?_, r3, fun g hg => .inr (r2.lt g hg).1⟩
    obtain ⟨q1, q2⟩ := World.ownsRowF_of r2
    exact ⟨q1, q2.elim .inl fun ⟨g, cap, cur, fz, a1, a2, a3⟩ => .inr ⟨g, cap, cur, fz, a1, Nat.zero_le _, a3⟩⟩
  · by_cases hroom : n + 1 ≤ cap
    · have hr := run_append_roomF (P := P) w t ty e i ht hi g n cap cur fz hg (by rw [hsize]; exact hfz) a 1 c [x] (by simp [hsize]) hnw h1' hroom (by simp [hsize]; omega)
      rw [hsize] at hr
      refine ⟨_, _, hr, ⟨by simp [hown.1], .inr ⟨g, cap, _, fz, rfl, hbg, setRow_heap w g cur _ e _ hg, by omega, hroom, hcm, ?_, ?_⟩⟩, ⟨rfl, rfl, rfl, by simp, fun k _ hk => setRow_other w g k _ (fun e => hk (by simp [Value.ownBlock, e]))⟩, fun g' hg' => .inl hg'⟩
      · simp only [List.size_toArray, List.length_append, List.length_take, List.length_drop, Array.length_toList, List.length_singleton]
        omega
      · rw [htake]
        have : (xs ++ [x]).length = (n + 1) * 1 := by simp [hown.1]
        rw [← this]; exact List.take_left
    · have holds : ∀ j u, xs[j]? = some u → w.cell? ((⟨g, 0, none⟩ : Addr).add j) = some u := hown.cells (g := g) rfl
      have hr := run_append_grow (P := P) w t ty e i z ht hi hz ⟨g, 0, none⟩ n cap xs (by rw [hsize]; exact hown.1) holds a 1 c [x] (by simp [hsize]) hnw (by omega) (by simp only [maxLen] at h63; omega) (growslice_fits (by omega) (by rw [hby]; omega))
      have hge := grownCap_ge w (n + 1) cap e
      have hcm2 := grownCap_le_maxLen w (n + 1) cap e h63
      refine ⟨_, _, hr, ⟨by simp [hown.1], .inr ⟨w.heap.size, _, _, (0, 0), rfl, Nat.zero_le _, heap_alloc_new w.drew _, Nat.zero_le _, hge, hcm2, ?_, ?_⟩⟩, (by have := World.grownBy_alloc w.drew (.cells (xs.toArray ++ [x].toArray ++ Builtin.zeroCells z.cells (grownCap w (n + 1) cap e - (n + 1))) e) (some g); exact ⟨this.os, this.tape, this.output, this.size, this.block⟩), fun g' hg' => by simp [Value.ownBlock] at hg'; omega⟩
      · simp only [Array.size_append, List.size_toArray, size_zeroCells, hzs, hown.1, List.length_singleton]
        omega
      · simp only [Array.toList_append, List.append_assoc]
        rw [← List.append_assoc]
        have : (xs ++ [x]).length = (n + 1) * 1 := by simp [hown.1]
        rw [← this]; exact List.take_left
theorem run_append_ownS {P : Program} (w : World) (t u ty e : TypeId) (i : TypeInfo) (ht : P.underlying t = some (.slice e)) (hu : P.underlying u = some .string) (hi : P.info? e = some i) (hz : i.zero = some (.int .u8 0)) (hsize : i.size = 1) (hby : i.bytes = 1)
    (v : Value) (n : Nat) (xs : List Value) (hown : w.ownsRowF 0 e 1 v n xs) (s : ByteArray) (h63 : n + s.size ≤ maxLen) (hbytes : n + s.size ≤ 140737488355328) :
    ∃ v' w', (Builtin.append_ #[t, u] ty #[v, .string s]).run P w = .ok v' w' ∧ w'.ownsRowF 0 e 1 v' (n + s.size) (xs ++ Lib.strCells s) ∧ w.grownBy w' v.ownBlock ∧ ∀ g, v'.ownBlock = some g → v.ownBlock = some g ∨ w.heap.size ≤ g := by
  rcases hown.2 with ⟨rfl, rfl⟩ | ⟨g, cap, cur, fz, rfl, hbg, hg, hfz, hnc, hcm, hcs, htake⟩
  · obtain ⟨v', w', r1, r2, r3, _⟩ := Lib.run_append_own_string (P := P) w w.heap.size t u ty e i ht hu hi hz hsize hby (.slice none 0 0) 0 xs ⟨hown.1, .inl ⟨rfl, rfl⟩⟩ s h63 hbytes (Nat.le_refl _)
    refine ⟨v', w', r1, ?_, r3, fun g hg => .inr (r2.lt g hg).1⟩
    obtain ⟨q1, q2⟩ := World.ownsRowF_of r2
    exact ⟨q1, q2.elim .inl fun ⟨g, cap, cur, fz, a1, a2, a3⟩ => .inr ⟨g, cap, cur, fz, a1, Nat.zero_le _, a3⟩⟩
  · have hxl : xs.length = n := by simpa using hown.1
    have hlen : (xs ++ Lib.strCells s).length = (n + s.size) * 1 := by rw [List.length_append, hxl, Lib.strCells_length, Nat.mul_one]
    by_cases hroom : n + s.size ≤ cap
    · have hcs' : cur.size = cap := by simpa using hcs
      have hr := Lib.run_append_room_stringF (P := P) w t u ty e i ht hu hi hsize g n cap cur fz hg (by simpa using hfz) s hroom (by omega)
      refine ⟨_, _, hr, ⟨hlen, .inr ⟨g, cap, _, fz, rfl, hbg, setRow_heap w g cur _ e _ hg, by omega, hroom, hcm, ?_, ?_⟩⟩, ⟨rfl, rfl, rfl, by simp, fun k _ hk => setRow_other w g k _ (fun e => hk (by simp [Value.ownBlock, e]))⟩, fun g' hg' => .inl hg'⟩
      · simp only [List.size_toArray, List.length_append, List.length_take, List.length_drop, Array.length_toList, Lib.strCells_length]
        omega
      · have ht' : cur.toList.take n = xs := by simpa using htake
        rw [ht', ← hlen]
        exact List.take_left
    · have holds : ∀ j u, xs[j]? = some u → w.cell? ((⟨g, 0, none⟩ : Addr).add j) = some u := hown.cells (g := g) rfl
      have hr := Lib.run_append_grow_string (P := P) w t u ty e i (.int .u8 0) ht hu hi hz ⟨g, 0, none⟩ n cap xs (by rw [hsize]; simpa using hxl) holds s (by omega) (by simp only [maxLen] at h63; omega) (by rw [hby]; exact growslice_fits (by omega) (by omega))
      have hge := grownCap_ge w (n + s.size) cap e
      have hcm2 := grownCap_le_maxLen w (n + s.size) cap e h63
      refine ⟨_, _, hr, ⟨hlen, .inr ⟨w.heap.size, _, _, (0, 0), rfl, Nat.zero_le _, heap_alloc_new w.drew _, Nat.zero_le _, hge, hcm2, ?_, ?_⟩⟩, (by have := World.grownBy_alloc w.drew (.cells (xs.toArray ++ (Lib.strCells s).toArray ++ Builtin.zeroCells (Value.int IntKind.u8 0).cells (grownCap w (n + s.size) cap e - (n + s.size))) e) (some g); exact ⟨this.os, this.tape, this.output, this.size, this.block⟩), fun g' hg' => by simp [Value.ownBlock] at hg'; omega⟩
      · have hz1 : (Value.int IntKind.u8 0).cells.size = 1 := rfl
        simp only [Array.size_append, List.size_toArray, size_zeroCells, hz1, hxl, Lib.strCells_length]
        omega
      · simp only [Array.toList_append, List.append_assoc]
        rw [← List.append_assoc, ← hlen]
        exact List.take_left
theorem ownsRowF_other {w w' : World} {B : Nat} {e : TypeId} {v : Value} {n : Nat} {xs : List Value} (h : w.ownsRowF B e 1 v n xs) (hs : ∀ g, v.ownBlock = some g → w'.heap[g]? = w.heap[g]?) : w'.ownsRowF B e 1 v n xs := by
  refine ⟨h.1, ?_⟩
  rcases h.2 with h | ⟨g, cap, cur, fz, rfl, q1, q2, q3⟩
  · exact .inl h
  · exact .inr ⟨g, cap, cur, fz, rfl, q1, (hs g rfl).trans q2, q3⟩
/-- copyCheck: behind it the builder knows its own address -/
theorem check_b (b : Nat) (l : List UInt8) (v p : Value) (w : World) (h : BldAt b l v p w) :
    Calls Tryz.prog 53 #[.pointer (some ⟨b, 0, none⟩)] w fun e w' => e = .returned (.tuple #[]) ∧ BldAt b l v (.pointer (some ⟨b, 0, none⟩)) w' ∧ Frm (fun k => k = b) w w' ∧ w'.heap.size = w.heap.size := by
  obtain ⟨q1, q2, q3, q4⟩ := h
  have c0 : w.cell? ⟨b, 0, none⟩ = some p := by rw [Lib.cell_of_heap q1]; rfl
  rcases q2 with rfl | rfl
  · refine (check_fresh b w c0 (by simp [World.shape?, q1]) (Lib.frozen_of_heap q1 0)).mono ?_
    rintro e w' ⟨rfl, rfl⟩
    have hb : (w.setCell ⟨b, 0, none⟩ (.pointer (some ⟨b, 0, none⟩))).heap[b]? = some (.cells #[.pointer (some ⟨b, 0, none⟩), v] 64 (0, 0)) := by
      simp [World.setCell, Array.getElem?_modify, q1]
    refine ⟨rfl, ⟨hb, .inr rfl, ownsRowF_other q3 fun g hg => Below.heap_setCell _ _ _ _ fun e => q4 (by rw [hg, e]), q4⟩, ⟨rfl, rfl, rfl, by simp [World.setCell], fun k _ hk => Below.heap_setCell _ _ _ _ hk⟩, by simp [World.setCell]⟩
  · refine (check_used b w c0).mono ?_
    rintro e w' ⟨rfl, rfl⟩
    exact ⟨rfl, ⟨q1, .inr rfl, q3, q4⟩, Frm.refl _ _, rfl⟩
theorem append_g {P : Program} {w : World} {ops : Array Oper} {rest : List Oper} {o : Oper} {a : Act} {Q : Exit → Act → World → Prop} (hgd : o.guard = none) (s x : Operand) (t e : TypeId) (z : Value)
    (ho : o.op = .call { callee := .builtin .append, args := #[s, x], argTypes := #[t, t] }) (ht : P.underlying t = some (.slice e)) (hinfo : (P.info? e).map (fun i => (i.zero, i.size, i.bytes)) = some (some z, 1, 1)) (hzs : z.cells.size = 1)
    (v : Value) (n : Nat) (xs : List Value) (hs : a.eval s = v) (hown : w.ownsRowF 0 e 1 v n xs) (ad : Addr) (c : Nat) (y : Value) (hx : a.eval x = .slice (some ad) 1 c) (hnews : w.cell? ad = some y) (h1 : y.oneCell' = true) (h63 : n + 1 ≤ maxLen) (hby2 : n + 1 ≤ 140737488355328)
    (h : ∀ v' w', w'.ownsRowF 0 e 1 v' (n + 1) (xs ++ [y]) → w.grownBy w' v.ownBlock → (∀ g, v'.ownBlock = some g → v.ownBlock = some g ∨ w.heap.size ≤ g) → wpList P ops Q rest (a.put o.dst v') w') : wpList P ops Q (o :: rest) a w := by
  obtain ⟨i, hi, hz, h4, h5⟩ := info3 hinfo
  obtain ⟨v', w', hr, r1, r2, r3⟩ := run_append_ownG (P := P) w t o.type e i z ht hi hz h4 h5 hzs v n xs hown ad c y hnews h1 h63 hby2
  refine wpList_plain hgd fun K hK => ?_
  unfold Oper.wp execOp
  simp only [ho, resolve, invoke, builtin, Sem.run_bind, Sem.run_pure, Result.andThen_ok, List.map_toArray, List.map_cons, List.map_nil, hs, hx, hr]
  exact hK _ _ (h v' w' r1 r2 r3)
theorem append_s {P : Program} {w : World} {ops : Array Oper} {rest : List Oper} {o : Oper} {a : Act} {Q : Exit → Act → World → Prop} (hgd : o.guard = none) (sl x : Operand) (t u e : TypeId)
    (ho : o.op = .call { callee := .builtin .append, args := #[sl, x], argTypes := #[t, u] }) (ht : P.underlying t = some (.slice e)) (hu : P.underlying u = some .string) (hinfo : (P.info? e).map (fun i => (i.zero, i.size, i.bytes)) = some (some (.int .u8 0), 1, 1))
    (v : Value) (n : Nat) (xs : List Value) (hs : a.eval sl = v) (hown : w.ownsRowF 0 e 1 v n xs) (s : ByteArray) (hx : a.eval x = .string s) (h63 : n + s.size ≤ maxLen) (hby2 : n + s.size ≤ 140737488355328)
    (h : ∀ v' w', w'.ownsRowF 0 e 1 v' (n + s.size) (xs ++ Lib.strCells s) → w.grownBy w' v.ownBlock → (∀ g, v'.ownBlock = some g → v.ownBlock = some g ∨ w.heap.size ≤ g) → wpList P ops Q rest (a.put o.dst v') w') : wpList P ops Q (o :: rest) a w := by
  obtain ⟨i, hi, hz, h4, h5⟩ := info3 hinfo
  obtain ⟨v', w', hr, r1, r2, r3⟩ := run_append_ownS (P := P) w t u o.type e i ht hu hi hz h4 h5 v n xs hown s h63 hby2
  refine wpList_plain hgd fun K hK => ?_
  unfold Oper.wp execOp
  simp only [ho, resolve, invoke, builtin, Sem.run_bind, Sem.run_pure, Result.andThen_ok, List.map_toArray, List.map_cons, List.map_nil, hs, hx, hr]
  exact hK _ _ (h v' w' r1 r2 r3)
/-- behind an append and the store of its result in the builder -/
theorem post_b {w0 w1 w2 : World} {b : Nat} {v v' p : Value} {l l' : List UInt8} (hb : b < w1.heap.size) (hs : w0.heap.size ≤ w1.heap.size) (h1 : Frm (fun k => k = b) w0 w1) (hb1 : w1.heap[b]? = some (.cells #[.pointer (some ⟨b, 0, none⟩), v] 64 (0, 0))) (hne : v.ownBlock ≠ some b)
    (hown : w2.ownsRowF 0 5 1 v' l'.length (Lib.byteCells l')) (hg : w1.grownBy w2 v.ownBlock) (hl : ∀ g, v'.ownBlock = some g → v.ownBlock = some g ∨ w1.heap.size ≤ g) :
    w2.heap[b]? = some (.cells #[.pointer (some ⟨b, 0, none⟩), v] 64 (0, 0)) ∧ BPost b v l' w0 (w2.setCell ⟨b, 1, none⟩ v') := by
  have hb2 : w2.heap[b]? = some (.cells #[.pointer (some ⟨b, 0, none⟩), v] 64 (0, 0)) := by rw [hg.block b hb (fun e => hne e.symm)]; exact hb1
  have hne' : v'.ownBlock ≠ some b := fun e => by
    rcases hl b e with h | h
    · exact hne h
    · omega
  have hb3 : (w2.setCell ⟨b, 1, none⟩ v').heap[b]? = some (.cells #[.pointer (some ⟨b, 0, none⟩), v'] 64 (0, 0)) := by simp [World.setCell, Array.getElem?_modify, hb2]
  refine ⟨hb2, v', _, ⟨hb3, .inr rfl, ownsRowF_other hown fun g hg' => Below.heap_setCell _ _ _ _ fun e => hne' (by rw [hg', e]), hne'⟩, ⟨hg.os.trans h1.os, hg.tape.trans h1.tape, hg.output.trans h1.output, Nat.le_trans hs (Nat.le_trans hg.size (by simp [World.setCell])), fun k hk hnk => ?_⟩, fun g hg' => (hl g hg').imp id fun h => Nat.le_trans hs h⟩
  rw [Below.heap_setCell _ _ _ _ (fun e => hnk (.inl e)), hg.block k (by omega) (fun e => hnk (.inr e.symm)), h1.block k hk fun e => hnk (.inl e)]
set_option maxHeartbeats 2000000 in
set_option maxRecDepth 100000 in
theorem writeByte_b (b : Nat) (l : List UInt8) (v p : Value) (w : World) (h : BldAt b l v p w) (c : UInt8) (hlen : l.length + 1 ≤ 140737488355328) :
    Calls Tryz.prog 43 #[.pointer (some ⟨b, 0, none⟩), .int .u8 c.toNat] w fun e w' => e = .returned .nilIface ∧ BPost b v (l ++ [c]) w w' := by
  have H := Lib.hid (check_b b l v p w h)
  clear h
  go_enter Tryz.func43, Tryz.ntmps43
  go_wp2_with fail
  refine H.out.mono ?_
  rintro e w1 ⟨rfl, ⟨q1, -, q3, q4⟩, hf, hsz⟩
  have Hsz := Lib.hid (show w.heap.size ≤ w1.heap.size by omega); clear hsz
  have hlt : b < w1.heap.size := (Array.getElem?_eq_some_iff.1 q1).1
  have c1 : w1.cell? ⟨b, 1, none⟩ = some v := by rw [Lib.cell_of_heap q1]; rfl
  go_wp2_with (at_builtin; refine append_g rfl _ _ 62 5 (.int .u8 0) rfl Tryz.underlying62 u8info rfl v l.length (Lib.byteCells l) rfl (ownsRowF_other q3 fun g hg => Below.heap_alloc _ _ _ (q3.lt g hg).2) ⟨w1.heap.size, 0, none⟩ 1 (.int .u8 c.toNat) rfl (cell_new (w := w1) (cs := #[.int .u8 c.toNat]) (t := 5) (i := 0) rfl) rfl (by unfold maxLen; omega) hlen ?_)
  intro v' w2 hown' hgrow hl
  have hl' : ∀ g, v'.ownBlock = some g → v.ownBlock = some g ∨ w1.heap.size ≤ g := fun g hg => (hl g hg).imp id fun h => by first | omega | (simp at h; omega)
  have hgrow' : w1.grownBy w2 v.ownBlock := ⟨hgrow.os, hgrow.tape, hgrow.output, Nat.le_trans (by simp) hgrow.size, fun k hk hne => (hgrow.block k (by simp; omega) hne).trans (Below.heap_alloc _ _ _ hk)⟩
  have hcell : Lib.byteCells (l ++ [c]) = Lib.byteCells l ++ [.int .u8 c.toNat] := by simp [Lib.byteCells]
  rw [← hcell] at hown'
  obtain ⟨hb2, hpost⟩ := post_b (l' := l ++ [c]) (l := l) (p := p) hlt Hsz.out hf q1 q4 (by simpa using hown') hgrow' hl'
  have d1 : w2.cell? ⟨b, 1, none⟩ = some v := by rw [Lib.cell_of_heap hb2]; rfl
  have f1 : w2.frozen? ⟨b, 1, none⟩ = false := Lib.frozen_of_heap hb2 1
  obtain ⟨g, cap, rfl⟩ : ∃ g cap, v' = .slice (some ⟨g, 0, none⟩) (l.length + 1) cap := by
    rcases hown'.2 with ⟨_, h0⟩ | ⟨g, cap, cur, fz, hv, _⟩
    · omega
    · exact ⟨g, cap, hv⟩
  have Hp := Lib.hid hpost
  clear hpost hown' hgrow hgrow' hl hl' q3
  go_wp2
  go_ret
  exact ⟨rfl, Hp.out⟩
set_option maxHeartbeats 2000000 in
set_option maxRecDepth 100000 in
theorem writeString_b (b : Nat) (l : List UInt8) (v p : Value) (w : World) (h : BldAt b l v p w) (s : ByteArray) (hlen : l.length + s.size ≤ 140737488355328) :
    Calls Tryz.prog 41 #[.pointer (some ⟨b, 0, none⟩), .string s] w fun e w' => e = .returned (.tuple #[.int .i64 s.size, .nilIface]) ∧ BPost b v (l ++ s.data.toList) w w' := by
  have H := Lib.hid (check_b b l v p w h)
  clear h
  go_enter Tryz.func41, Tryz.ntmps41
  go_wp2_with fail
  refine H.out.mono ?_
  rintro e w1 ⟨rfl, ⟨q1, -, q3, q4⟩, hf, hsz⟩
  have Hsz := Lib.hid (show w.heap.size ≤ w1.heap.size by omega); clear hsz
  have hlt : b < w1.heap.size := (Array.getElem?_eq_some_iff.1 q1).1
  have c1 : w1.cell? ⟨b, 1, none⟩ = some v := by rw [Lib.cell_of_heap q1]; rfl
  go_wp2_with (at_builtin; refine append_s rfl _ _ 62 9 5 rfl Tryz.underlying62 Tryz.underlying9 u8info v l.length (Lib.byteCells l) rfl q3 s rfl (by unfold maxLen; omega) hlen ?_)
  intro v' w2 hown' hgrow hl
  have hcell : Lib.byteCells (l ++ s.data.toList) = Lib.byteCells l ++ Lib.strCells s := by rw [Lib.byteCells_append, Lib.strCells_eq]
  have hll : l.length + s.size = (l ++ s.data.toList).length := by rw [List.length_append]; rfl
  rw [← hcell, hll] at hown'
  obtain ⟨hb2, hpost⟩ := post_b (l' := l ++ s.data.toList) (l := l) (p := p) hlt Hsz.out hf q1 q4 hown' hgrow hl
  have d1 : w2.cell? ⟨b, 1, none⟩ = some v := by rw [Lib.cell_of_heap hb2]; rfl
  have f1 : w2.frozen? ⟨b, 1, none⟩ = false := Lib.frozen_of_heap hb2 1
  obtain ⟨ao, n', cap, rfl⟩ : ∃ ao n' cap, v' = .slice ao n' cap := by
    rcases hown'.2 with ⟨hv, _⟩ | ⟨g, cap, cur, fz, hv, _⟩
    · exact ⟨_, _, _, hv⟩
    · exact ⟨_, _, _, hv⟩
  have Hp := Lib.hid hpost
  clear hpost hown' hgrow hl q3 hll hcell
  go_wp2
  go_ret2
  exact ⟨rfl, Hp.out⟩
/-- behind a look at the builder -/
theorem post_s {w w' : World} {b : Nat} {v p : Value} {l : List UInt8} (h : BldAt b l v p w) (hf : Frm (fun k => k = b ∨ v.ownBlock = some k) w w') (hb : w'.heap[b]? = w.heap[b]?) (hg : w'.ownsRowF 0 5 1 v l.length (Lib.byteCells l)) : BPost b v l w w' :=
  ⟨v, p, ⟨hb.trans h.1, h.2.1, hg, h.2.2.2⟩, hf, fun _ hg => .inl hg⟩
theorem freeze_other {w : World} {g n k : Nat} (h : k ≠ g) : (w.freeze ⟨g, 0, none⟩ n).heap[k]? = w.heap[k]? := by
  unfold World.freeze
  split
  · rfl
  · simp only [Array.getElem?_modify]
    rw [if_neg (fun e => h e.symm)]
theorem freeze_size {w : World} {g n : Nat} : (w.freeze ⟨g, 0, none⟩ n).heap.size = w.heap.size := by
  unfold World.freeze
  split <;> simp
theorem freeze_rest {w : World} {g n : Nat} : (w.freeze ⟨g, 0, none⟩ n).os = w.os ∧ (w.freeze ⟨g, 0, none⟩ n).tape = w.tape ∧ (w.freeze ⟨g, 0, none⟩ n).output = w.output := by
  unfold World.freeze
  split <;> exact ⟨rfl, rfl, rfl⟩
set_option maxHeartbeats 4000000 in
set_option maxRecDepth 100000 in
theorem string_b (b : Nat) (l : List UInt8) (v p : Value) (w : World) (h : BldAt b l v p w) :
    Calls Tryz.prog 27 #[.pointer (some ⟨b, 0, none⟩)] w fun e w' => e = .returned (.string ⟨l.toArray⟩) ∧ BPost b v l w w' := by
  have h' := h
  obtain ⟨q1, q2, q3, q4⟩ := h
  have hUS0 : ∀ (W : World) (q : Option Addr), (Builtin.unsafeString_ #[83, 3] 9 #[.pointer q, .int .i64 0]).run Tryz.prog W = .ok (.string ByteArray.empty) W := Any.unsafeString_none Tryz.lays169 Tryz.Builder_Extra_169
  have mixed : Tryz.prog.follows .mixedOrders = true := by kernel_rfl
  have hbl : b < w.heap.size := (Array.getElem?_eq_some_iff.1 q1).1
  rcases q3.2 with ⟨rfl, h0⟩ | ⟨g, cap, cur, fz, rfl, hbg, hg, hfz, hnc, hcm, hcs, htake⟩
  · have hl : l = [] := List.eq_nil_of_length_eq_zero h0
    subst hl
    have c1 : w.drew.cell? ⟨b, 1, none⟩ = some (.slice none 0 0) := by
      have : w.drew.heap[b]? = some (.cells #[p, .slice none 0 0] 64 (0, 0)) := q1
      rw [Lib.cell_of_heap this]; rfl
    have hSD : (Builtin.unsafeSliceData_ #[62] 83 #[.slice none 0 0]).run Tryz.prog w.drew = .ok (.pointer none) w.drew := rfl
    have HP := Lib.hid (post_s (w' := w.drew) h' ⟨rfl, rfl, rfl, Nat.le_refl _, fun _ _ _ => rfl⟩ rfl q3)
    clear h' q3 q4 q1 h0
    go_enter Tryz.func27, Tryz.ntmps27
    go_wp2
    go_region_o
    all_goals (go_wp2; go_ret; exact ⟨rfl, HP.out⟩)
  · have hbg' : b ≠ g := fun e => q4 (by rw [e]; rfl)
    by_cases hl0 : l = []
    · subst hl0
      by_cases hc0 : cap = 0
      · subst hc0
        have c1 : w.drew.cell? ⟨b, 1, none⟩ = some (.slice (some ⟨g, 0, none⟩) 0 0) := by
          have : w.drew.heap[b]? = some (.cells #[p, .slice (some ⟨g, 0, none⟩) 0 0] 64 (0, 0)) := q1
          rw [Lib.cell_of_heap this]; rfl
        have hSD : (Builtin.unsafeSliceData_ #[62] 83 #[.slice (some ⟨g, 0, none⟩) 0 0]).run Tryz.prog w.drew = .ok (.pointer (some ⟨w.drew.heap.size, 0, none⟩)) (w.drew.alloc (.view ⟨g, 0, none⟩ 5)) :=
          Lib.run_unsafeSliceData_zero w.drew _ _ 5 Tryz.underlying83 ⟨g, 0, none⟩ 0 (5, cur.size) (by have hg' : w.drew.heap[g]? = some (.cells cur 5 fz) := hg; simp [World.shape?, hg'])
        have c2 : (w.drew.alloc (.view ⟨g, 0, none⟩ 5)).cell? ⟨b, 1, none⟩ = some (.slice (some ⟨g, 0, none⟩) 0 0) := by
          have : (w.drew.alloc (.view ⟨g, 0, none⟩ 5)).heap[b]? = _ := (Lib.alloc_old w.drew _ b hbl).trans q1
          rw [Lib.cell_of_heap this]; rfl
        have c3 : (w.alloc (.view ⟨g, 0, none⟩ 5)).drew.cell? ⟨b, 1, none⟩ = some (.slice (some ⟨g, 0, none⟩) 0 0) := c2
        have c0 : w.cell? ⟨b, 1, none⟩ = some (.slice (some ⟨g, 0, none⟩) 0 0) := c1
        have HP := Lib.hid (post_s (w' := w.drew.alloc (.view ⟨g, 0, none⟩ 5)) h' (frm_grow w _ _) (Below.heap_alloc w.drew _ b hbl) (ownsRowF_other q3 fun k hk => Below.heap_alloc w.drew _ k (q3.lt k hk).2))
        clear h' q3 q4 q1 hg htake hcs hbg hbg' hnc hcm hfz
        go_enter Tryz.func27, Tryz.ntmps27
        go_wp2
        go_region_o
        all_goals (go_wp2; go_ret; exact ⟨rfl, HP.out⟩)
      · have c1 : w.drew.cell? ⟨b, 1, none⟩ = some (.slice (some ⟨g, 0, none⟩) 0 cap) := by
          have : w.drew.heap[b]? = some (.cells #[p, .slice (some ⟨g, 0, none⟩) 0 cap] 64 (0, 0)) := q1
          rw [Lib.cell_of_heap this]; rfl
        have hSD : (Builtin.unsafeSliceData_ #[62] 83 #[.slice (some ⟨g, 0, none⟩) 0 cap]).run Tryz.prog w.drew = .ok (.pointer (some ⟨g, 0, none⟩)) w.drew :=
          Lib.run_unsafeSliceData_row _ _ _ _ _ _ hc0
        have HP := Lib.hid (post_s (w' := w.drew) h' ⟨rfl, rfl, rfl, Nat.le_refl _, fun _ _ _ => rfl⟩ rfl q3)
        clear h' q3 q4 q1 hg htake hcs hbg hbg' hnc hcm hfz hc0
        go_enter Tryz.func27, Tryz.ntmps27
        go_wp2
        go_region_o
        all_goals (go_wp2; go_ret; exact ⟨rfl, HP.out⟩)
    · have hln : l.length ≠ 0 := by simpa using hl0
      have c1 : w.drew.cell? ⟨b, 1, none⟩ = some (.slice (some ⟨g, 0, none⟩) l.length cap) := by
        have : w.drew.heap[b]? = some (.cells #[p, .slice (some ⟨g, 0, none⟩) l.length cap] 64 (0, 0)) := q1
        rw [Lib.cell_of_heap this]; rfl
      have hSD : (Builtin.unsafeSliceData_ #[62] 83 #[.slice (some ⟨g, 0, none⟩) l.length cap]).run Tryz.prog w.drew = .ok (.pointer (some ⟨g, 0, none⟩)) w.drew :=
        Lib.run_unsafeSliceData_row _ _ _ _ _ _ (by omega)
      have hUS : (Builtin.unsafeString_ #[83, 3] 9 #[.pointer (some ⟨g, 0, none⟩), .int .i64 l.length]).run Tryz.prog w.drew = .ok (.string ⟨l.toArray⟩) (w.drew.freeze ⟨g, 0, none⟩ l.length) := by
        refine Lib.run_unsafeString_row w.drew 83 3 9 5 Tryz.underlying83 Tryz.Builder_Extra_169.cellsByte g cur.size (by have hg' : w.drew.heap[g]? = some (.cells cur 5 fz) := hg; simp [World.shape?, hg']) l hl0 (by omega) (by unfold maxLen at hcm; omega) ?_
        intro j x hx
        exact q3.cells (g := g) rfl j (.int .u8 x.toNat) (by simp [Lib.byteCells, hx])
      have hfro : (w.drew.freeze ⟨g, 0, none⟩ l.length).ownsRowF 0 5 1 (.slice (some ⟨g, 0, none⟩) l.length cap) l.length (Lib.byteCells l) := by
        obtain ⟨lo, hi⟩ := fz
        have hg' : w.drew.heap[g]? = some (.cells cur 5 (lo, hi)) := hg
        have hf2 : (w.drew.freeze ⟨g, 0, none⟩ l.length).heap[g]? = some (.cells cur 5 (if lo == hi then (0, 0 + l.length) else (min lo 0, max hi (0 + l.length)))) := by
          unfold World.freeze
          rw [if_neg hln]
          simp only [Array.getElem?_modify, if_true, hg']
          rfl
        refine ⟨q3.1, .inr ⟨g, cap, cur, _, rfl, Nat.zero_le _, hf2, ?_, hnc, hcm, hcs, htake⟩⟩
        simp only at hfz
        split <;> simp <;> omega
      have HP := Lib.hid (post_s (w' := w.drew.freeze ⟨g, 0, none⟩ l.length) h' ⟨freeze_rest.1, freeze_rest.2.1, freeze_rest.2.2, by rw [freeze_size]; exact Nat.le_refl _, fun k _ hk => freeze_other fun e => hk (.inr (by rw [e]; rfl))⟩ (freeze_other hbg') hfro)
      clear h' q3 q4 q1 hg htake hcs hbg hbg' hnc hcm hfz hfro
      go_enter Tryz.func27, Tryz.ntmps27
      go_wp2
      go_region_o
      all_goals (go_wp2; go_ret; exact ⟨rfl, HP.out⟩)
end Go.Proofs.YtdklhkdlndlgnaaGreatDoor
