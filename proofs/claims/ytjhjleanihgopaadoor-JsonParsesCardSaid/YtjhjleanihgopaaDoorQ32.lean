/- Parts of a proof, merged by a program (shake.py). -/
import Derived.Maps.OwnOps
import Derived.Maps.Views
import Derived.Test.YtjhjleanihgopaaDoorQ31
set_option linter.unusedVariables false
set_option linter.unusedSimpArgs false
namespace Go.Proofs.YtjhjleanihgopaaDoor
open Go.RowKit Go.WideMaps Go.Maps
attribute [local irreducible] wpList Calls Code.wp
theorem klawS : Keyed Tryd.prog 9 := string_keyed Tryd.underlying9
theorem zeroB (w : World) : (zeroValue 4).run Tryd.prog w = .ok (.bool false) w := by kernel_rfl
theorem plainElem_bool_inv {H : Type} {P : Program} {e : TypeId} (he : P.underlying e = some .bool) {v : Value} {z : DataW H × List MemPlace} (h : plainElem P e v = some z) : ∃ b, v = .bool b ∧ z = (.lit (.bool b), []) := by
  unfold plainElem at h
  rw [he] at h
  cases v <;> simp at h
  exact ⟨_, rfl, h.symm⟩
/-- a map that holds the strings of a list -/
def SetIs (M : DataW Unit) (l : List (List UInt8)) : Prop := IsMap M ∧ ∀ u : List UInt8, M.atKey (.string u) (.lit (.bool false)) = .lit (.bool (decide (u ∈ l)))
theorem setIs_nil : SetIs (.map []) [] := ⟨isMap_empty, fun u => by
  rw [decide_eq_false (by simp)]; rfl⟩
theorem setIs_put {M : DataW Unit} {l : List (List UInt8)} (h : SetIs M l) (u : List UInt8) : SetIs (M.put (.string u) (.lit (.bool true))) (l ++ [u]) :=
  ⟨h.1.put _ _, fun v => by
    by_cases e : v = u
    · subst e
      rw [atKey_put_same h.1 (show WideAt.IsKeyLit (.string v) from trivial), decide_eq_true (by simp)]
    · rw [atKey_put_other (fun hh => e (by injection hh)), h.2 v]
      congr 2
      simp [e]⟩
theorem wpList_lookup_own_bool {P : Program} (w : World) {ops : Array Oper} {rest : List Oper} {o : Oper} {a : Act} {Q : Exit → Act → World → Prop}
    (hg : o.guard = none) (m x : Operand) (t : TypeId) (hop : o.op = Op.lookup t m x false)
    (k e : TypeId) (K : Keyed P k) (ht : P.underlying t = some (.map k e)) (he : P.underlying e = some .bool) (hz : (zeroValue e).run P w = .ok (.bool false) w) (b n : Nat) (M : DataW Unit) (l : List (List UInt8)) (hD : SetIs M l)
    (hm : a.eval m = .map (some b)) (hown : w.ownsMap P k (plainElem P e) b n M) (u : ByteArray) (hx : a.eval x = .string u) (hkey : keyOf P k (.string u) = some (.string u.data.toList))
    (hK : wpList P ops Q rest (a.put o.dst (.bool (decide (u.data.toList ∈ l)))) w) :
    wpList P ops Q (o :: rest) a w := by
  refine wpList_plain hg fun K' hK' => ?_
  obtain ⟨v, ps, hrun, hv⟩ := hown.lookup K ht hz (plainElem_bool he false) hkey
  obtain ⟨c, rfl, hc⟩ := plainElem_bool_inv he hv
  simp only [Prod.mk.injEq] at hc
  have hat := hD.2 u.data.toList
  rw [hc.1] at hat
  have hcc : c = decide (u.data.toList ∈ l) := by injection hat with h1; injection h1
  subst hcc
  unfold Oper.wp
  simp [execOp, hop, hm, hx, hrun, Result.andThen]
  exact hK' _ _ (by simpa using hK)
def su (d : D) : List UInt8 := d.s.data.toList
/-- whether a string occurs twice -/
def twiceB : List (List UInt8) → List D → Bool
  | _, [] => false
  | seen, x :: r => decide (su x ∈ seen) || twiceB (seen ++ [su x]) r
theorem str_at {w : World} {A : Option Addr} {l : List D} (h : Rs w 9 A l) (hp : 0 < l.length) : ∃ b off, A = some ⟨b, off, none⟩ ∧ b < w.heap.size ∧ ∀ i, i < l.length → w.cell? ⟨b, off + i, none⟩ = some (.string (gD l i).s) ∧ (gD l i).s.size ≤ maxLen := by
  obtain ⟨k, h⟩ := h
  obtain ⟨b, off, hA, hb, hi⟩ := h hp (by rw [cells9]; omega)
  refine ⟨b, off, hA, hb, fun i hil => ?_⟩
  obtain ⟨ys, y1, y2, y3⟩ := hi i hil
  rw [cells9] at y2
  obtain ⟨rfl, hs⟩ := y3.str Tryd.underlying9
  have := y2 0 _ rfl
  rw [Nat.mul_one, Nat.add_zero] at this
  exact ⟨this, hs⟩
theorem seen_at (l : List D) (m : Nat) (h : m < l.length) : (l.map su).take (m + 1) = (l.map su).take m ++ [su (gD l m)] := by
  rw [List.take_succ_eq_append_getElem (by simpa using h), List.getElem_map, gD_get h]
theorem twice_go {l : List D} {m : Nat} (h : m < l.length) : twiceB ((l.map su).take m) (l.drop m) = (decide (su (gD l m) ∈ (l.map su).take m) || twiceB ((l.map su).take (m + 1)) (l.drop (m + 1))) := by
  have e : l.drop m = gD l m :: l.drop (m + 1) := by rw [List.drop_eq_getElem_cons h, gD_get h]
  rw [e, twiceB, seen_at l m h]
set_option maxRecDepth 100000 in
set_option maxHeartbeats 4000000 in
theorem twiceP (A : Option Addr) (l : List D) (c : Nat) (w0 w : World) (h0 : Below w0.heap.size w0 w) (h : Rs w0 9 A l) (hl : l.length ≤ 1000000000) :
    Calls Tryd.prog 103 #[.slice A l.length c] w fun e w' => e = .returned (.bool (twiceB [] l)) ∧ Below w.heap.size w w' := by
  have H := Lib.hid h; have H0 := Lib.hid h0
  clear h h0
  have hmm := @run_makeMap Tryd.prog
  go_enter Tryd.func103, Tryd.ntmps103
  go_wp2
  go_loopg [9] l.length (fun j i wr => ∃ m : Nat, m + j = l.length ∧ i = .int .i64 m ∧ (∃ M, SetIs M ((l.map su).take m) ∧ wr.ownsMap Tryd.prog 9 (plainElem Tryd.prog 4) w.heap.size m M) ∧ twiceB ((l.map su).take m) (l.drop m) = twiceB [] l ∧ Below w.heap.size w wr)
  case atStart => exact ⟨0, by omega, rfl, ⟨_, setIs_nil, World.ownsMap_made _ _ _ _⟩, rfl, (Below.refl _ _).alloc (Nat.le_refl _) _⟩
  case round =>
    obtain ⟨m, hmj, rfl, ⟨M, hset, hown⟩, htw, hb⟩ := hrel
    have Hb := Lib.hid hb
    have Hmj := Lib.hid hmj; have hmn : m ≤ l.length := by omega
    have Htw := Lib.hid htw
    clear hmj hb htw
    by_cases hlt : m < l.length
    · obtain ⟨b, off, rfl, hI, hat⟩ := str_at H.out (by omega)
      obtain ⟨e0, hsz⟩ := hat m hlt
      replace e0 := ((H0.out.trans (Hb.out.mono H0.out.size)).cell (p := ⟨b, _, none⟩) hI).trans e0
      have hkey : keyOf Tryd.prog 9 (.string (gD l m).s) = some (.string (su (gD l m))) := keyOf_string_mk Tryd.underlying9 hsz
      have z1 : (m : Int) < (l.length : Int) := by omega
      have hgo := Lib.hid (twice_go hlt)
      cases hq : decide (su (gD l m) ∈ (l.map su).take m)
      · go_wp2_with (first
          | (at_lookup; refine wpList_lookup_own_bool _ rfl _ _ 146 rfl 9 4 klawS Tryd.underlying146 Tryd.underlying4 (zeroB _) w.heap.size m _ _ hset rfl hown _ rfl hkey ?_; rw [show decide ((gD l m).s.data.toList ∈ (l.map su).take m) = false from hq])
          | (at_mapUpdate; refine wpList_mapUpdate_own _ rfl _ _ _ 146 rfl 9 4 klawS Tryd.underlying146 _ w.heap.size m _ rfl hown (by unfold maxLen; omega) _ _ _ rfl rfl hkey _ [] (plainElem_bool Tryd.underlying4 true) ?_)
          | go_in)
        intro w1 hown1 hgrow1
        have R1 : ∃ M, SetIs M ((l.map su).take (m + 1)) ∧ w1.ownsMap Tryd.prog 9 (plainElem Tryd.prog 4) w.heap.size (m + 1) M := ⟨_, by rw [seen_at l m hlt]; exact setIs_put hset _, hown1⟩
        have R2 := Hb.out.grown hgrow1 Hb.out.size (fun j hj => by cases hj; exact Nat.le_refl _)
        have R3 : twiceB ((l.map su).take (m + 1)) (l.drop (m + 1)) = twiceB [] l := by
          have := hgo.out
          rw [hq, Bool.false_or, Htw.out] at this
          exact this.symm
        have R1 := Lib.hid R1; have R3 := Lib.hid R3
        clear hown1 hgrow1 hown hset hq hkey hat e0
        go_wp2
        go_roundg (l.length - m - 1)
        case measure => have := Hmj.out; omega
        case rel => exact ⟨m + 1, by have := Hmj.out; omega, by go_num, R1.out, R3.out, R2⟩
      · go_wp2_with (first
          | (at_lookup; refine wpList_lookup_own_bool _ rfl _ _ 146 rfl 9 4 klawS Tryd.underlying146 Tryd.underlying4 (zeroB _) w.heap.size m _ _ hset rfl hown _ rfl hkey ?_; rw [show decide ((gD l m).s.data.toList ∈ (l.map su).take m) = true from hq])
          | go_in)
        go_ret
        have := hgo.out
        rw [hq, Bool.true_or, Htw.out] at this
        exact ⟨by rw [this]; rfl, Hb.out⟩
    · go_wp2
      go_ret
      refine ⟨?_, Hb.out⟩
      have := Htw.out
      rw [List.drop_eq_nil_of_le (by omega)] at this
      rw [← this]; rfl
theorem twice_nodup : ∀ (l : List D) (seen : List (List UInt8)), seen.Nodup → twiceB seen l = !decide (seen ++ l.map su).Nodup
  | [], seen, h => by simp [twiceB, h]
  | x :: r, seen, h => by
    rw [twiceB]
    by_cases e : su x ∈ seen
    · have : ¬ (seen ++ (x :: r).map su).Nodup := fun hh => by
        rw [List.nodup_append] at hh
        exact hh.2.2 _ e (su x) (by simp) rfl
      rw [decide_eq_true e, decide_eq_false this]; rfl
    · rw [decide_eq_false e, Bool.false_or, twice_nodup r (seen ++ [su x]) (by
        rw [List.nodup_append]
        refine ⟨h, by simp, ?_⟩
        intro a ha b hb he
        rw [List.mem_singleton.1 hb] at he
        exact e (he ▸ ha))]
      simp
theorem twice_strs (d : D) : twiceB [] (d.f 4).l = !decide (strsL d).Nodup := by
  rw [twice_nodup _ [] List.nodup_nil]; rfl
end Go.Proofs.YtjhjleanihgopaaDoor
namespace Go.Proofs.YtjhjleanihgopaaDoor
open Go.RowKit
attribute [local irreducible] wpList Calls Code.wp AW AWo OpOk seqK blockK scopeK loopK endK endKB AC ACB absLex absLexG Yld YldG Sub
noncomputable def HwP (s wd : ByteArray) (x : JS) (i : Nat) : Vst 18 :=
  stS 18 [(0, .bx (pn 0) 0), (1, .c (.string wd)), (6, .c (.int .i64 wd.size)), (7, .c (.int .i64 i))] [(pn 0, boxP s (wordS s.data.toList (wd.data.toList.take i) x))]
set_option maxRecDepth 100000 in
theorem ext_one {s : ByteArray} {i : Nat} (h : i < s.size) : (s.extract i (i + 1)).data.toList = [s.data.toList.getD i 0] := by
  have hl : i < s.data.toList.length := h
  have e : (s.extract i (i + 1)).data.toList = (s.data.toList.drop i).take 1 := by
    simp [ByteArray.data_extract, Array.toList_extract, List.extract_eq_take_drop]
  rw [e, drop_at2 h]; rfl
set_option maxRecDepth 100000 in
theorem word_snoc (S w : List UInt8) (c : UInt8) (x : JS) : wordS S (w ++ [c]) x = (takeS S [c] (wordS S w x)).2 := by
  unfold wordS; rw [List.foldl_append]; rfl
set_option maxRecDepth 100000 in
theorem take_snoc_at {s : ByteArray} {i : Nat} (h : i < s.size) : s.data.toList.take (i + 1) = s.data.toList.take i ++ [s.data.toList.getD i 0] := by
  have hl : i < s.data.toList.length := h
  rw [List.take_succ_eq_append_getElem hl, List.getD_eq_getElem?_getD, List.getElem?_eq_getElem hl]; rfl
set_option maxRecDepth 100000 in
theorem wordP_acb (s : ByteArray) (x : JS) (wd : ByteArray) (hs : s.size ≤ 1000000000) (hl : wd.size ≤ 1000000000) (hp : x.p ≤ s.size) : ACB EN5 Tryd.prog 64 [.bx (pn 0) 0, .c (.string wd)] [boxP s x] (.tup []) [boxP s (wordS s.data.toList wd.data.toList x)] := by
  refine acb_enter (fn := Tryd.f64) 18 Tryd.func64 rfl rfl ?_
  intro pas w0 w he hpp
  repeat' (first
    | refine aw_seq ?_
    | refine aw_region ?_
    | refine awo_nil ?_
    | refine k_seq ?_
    | refine k_block ?_
    | refine k_scope ?_
    | refine aw_block ?_
    | refine aw_skip ?_
    | refine aw_label ?_
    | refine aw_scope ?_
    | (apply s_val rfl
       · conv => lhs; whnf
       · conv => lhs; whnf; arg 2; whnf)
    | (apply s_call rfl
       · conv => lhs; whnf
       · conv => lhs; whnf
       · first | fail)
    | (apply aw_cond_t
       · conv => lhs; whnf; arg 1; arg 1; whnf)
    | (apply aw_cond_f
       · conv => lhs; whnf; arg 1; arg 1; whnf)
    | (refine aw_cond (by conv => lhs; whnf) ?_ ?_ <;> intro hb)
    | refine aw_ret ?_
    | refine aw_exit ?_
    | refine k_seq_exit ?_
    | refine k_seq_ret ?_
    | refine k_block_ret ?_
    | refine k_block_hit rfl ?_
    | refine k_block_miss rfl ?_
    | refine k_scope_exit ?_
    | refine k_scope_ret ?_
    | refine k_loop_exit ?_
    | refine k_loop_ret ?_
    | refine k_endB ⟨?_, ?_⟩
    | refine k_endB_ret ⟨?_, ?_⟩
    | exact (rfl : _ = V.tup [])
    | (refine ⟨_, by conv => lhs; whnf; arg 2; whnf, ?_⟩; conv => rhs; whnf)
    | exact trivial
    | intro hg)
  · refine aw_loop (fun j st => ∃ i, i + j = wd.size ∧ Sub ⟨Tryd.prog, pas, w0, w, EN5, he, hpp⟩ st (HwP s wd x i)) wd.size ⟨0, by omega, ?_⟩ ?_
    · exact Sub.live ⟨rfl, rfl, rfl, rfl, trivial⟩ ⟨rfl, trivial⟩
    · rintro j st ⟨i, hij, hs2⟩
      refine aw_sub hs2 ?_
      clear hs2
      have htk : decide ((i : Int) < (wd.size : Int)) = true → ACB EN5 Tryd.prog 92 [.bx (pn 0) 0, .c (.string (wd.extract i (i + 1)))] [boxP s (wordS s.data.toList (wd.data.toList.take i) x)] _ [boxP s (wordS s.data.toList (wd.data.toList.take (i + 1)) x)] := fun h => by
        have hlt : i < wd.size := by simpa using h
        have := takeP_acb s (wordS s.data.toList (wd.data.toList.take i) x) (wd.extract i (i + 1)) hs (by rw [ByteArray.size_extract]; omega) (mv_word _ hp).hi
        rw [ext_one hlt] at this
        rw [take_snoc_at hlt, word_snoc]
        exact this
      repeat' (first
    | (apply s_meth (cellsP s) (fun _ _ => rfl) rfl
       · conv => lhs; whnf
       · conv => lhs; whnf
       · rfl
       · conv => lhs; whnf; arg 1; whnf
       · first | exact eta0 _ _ | exact eta1 _ _ | exact eta2 _ _ | exact eta3 _ _ | exact eta6 _ | exact etaQ0 _ _ | exact etaQ1 _ _ | exact etaQ2 _ _ | exact etaQ3 _ _ | exact etaQ6 _
       · first | exact htk (by assumption)
       · exact fun _ => rfl
       · exact fun _ => rfl)
    | refine aw_seq ?_
    | refine aw_region ?_
    | refine awo_nil ?_
    | refine k_seq ?_
    | refine k_block ?_
    | refine k_scope ?_
    | refine aw_block ?_
    | refine aw_skip ?_
    | refine aw_label ?_
    | refine aw_scope ?_
    | (apply s_val rfl
       · conv => lhs; whnf
       · conv => lhs; whnf; arg 2; whnf)
    | (apply s_call rfl
       · conv => lhs; whnf
       · conv => lhs; whnf
       · first | fail)
    | (apply aw_cond_t
       · conv => lhs; whnf; arg 1; arg 1; whnf)
    | (apply aw_cond_f
       · conv => lhs; whnf; arg 1; arg 1; whnf)
    | (refine aw_cond (by conv => lhs; whnf) ?_ ?_ <;> intro hb)
    | refine aw_ret ?_
    | refine aw_exit ?_
    | refine k_seq_exit ?_
    | refine k_seq_ret ?_
    | refine k_block_ret ?_
    | refine k_block_hit rfl ?_
    | refine k_block_miss rfl ?_
    | refine k_scope_exit ?_
    | refine k_scope_ret ?_
    | refine k_loop_exit ?_
    | refine k_loop_ret ?_
    | refine k_endB ⟨?_, ?_⟩
    | refine k_endB_ret ⟨?_, ?_⟩
    | exact (rfl : _ = V.tup [])
    | (refine ⟨_, by conv => lhs; whnf; arg 2; whnf, ?_⟩; conv => rhs; whnf)
    | exact trivial
    | intro hg)
      all_goals
        first
          | exact i64_in2 (by omega)
          | (have hlt : decide ((i : Int) < (wd.size : Int)) = true := by assumption
             have hlt : i < wd.size := by simpa using hlt
             first
               | exact k_loop_next (j' := j - 1) (by omega) ⟨i + 1, by omega, Sub.live ⟨rfl, rfl, rfl, rfl, trivial⟩ ⟨rfl, trivial⟩⟩
               | exact ⟨by kernel_rfl, by omega, by omega, by omega⟩)
          | (have hge : decide ((i : Int) < (wd.size : Int)) = false := by assumption
             have hge : ¬ (i : Int) < (wd.size : Int) := of_decide_eq_false hge
             have e2 : wd.data.toList.take i = wd.data.toList := List.take_of_length_le (by show wd.size ≤ i; omega)
             unfold HwP
             rw [e2]
             exact ⟨rfl, trivial⟩)
  · show Tryd.prog.underlying 9 = _
    kernel_rfl
def numEnd (S : List UInt8) (a : Nat) (y : JS) : D × JS :=
  if y.e ≠ 0 then (vD 0 0 [] [] [], y) else
  let v := numE (numU (midS S a y.p))
  (vD 2 v.1 [] [] [], if v.2 ≠ 0 then failS y a v.2 else y)
noncomputable def HnP (s : ByteArray) (x y : JS) (p : Nat) : Vst 102 :=
  stS 102 [(0, .bx (pn 0) 0), (2, .bx 2 0), (3, .c (.int .i64 x.p))] [(pn 0, boxP s ⟨p, y.m, y.bad, y.e⟩), (2, .box 39 [.c (.int .i64 0), .c (.int .i64 0), .c (.string { data := #[] }), .c (.slice none 0 0), .c (.slice none 0 0)])]
set_option maxRecDepth 100000 in
theorem ext_mid (s : ByteArray) (a b : Nat) : (s.extract a b).data.toList = midS s.data.toList a b := by
  unfold midS
  rw [List.drop_take]
  simp [ByteArray.data_extract, Array.toList_extract, List.extract_eq_take_drop]
set_option maxRecDepth 100000 in
theorem dw_step {s : ByteArray} {p : Nat} (h : p < s.size) (h2 : digU (s.data.toList.getD p 0) = true) : (s.data.toList.drop p).dropWhile digU = (s.data.toList.drop (p + 1)).dropWhile digU := by
  rw [drop_at2 h, List.dropWhile_cons, if_pos h2]
set_option maxRecDepth 100000 in
theorem dw_stop {s : ByteArray} {p : Nat} (hp : p ≤ s.size) (h : p < s.size → digU (s.data.toList.getD p 0) = false) : s.data.toList.length - ((s.data.toList.drop p).dropWhile digU).length = p := by
  have hl : s.data.toList.length = s.size := rfl
  rcases Nat.lt_or_ge p s.size with h1 | h1
  · rw [drop_at2 h1, List.dropWhile_cons, if_neg (by rw [h h1]; decide), ← drop_at2 h1, List.length_drop]; omega
  · rw [List.drop_eq_nil_of_le (by omega)]
    show s.data.toList.length - 0 = p
    omega
/-- a value without lists, as it is built -/
def leafV (d : D) : List V := [.c (.int .i64 (d.f 0).n), .c (.int .i64 (d.f 1).n), .c (.string (d.f 2).s), .c (.slice none 0 0), .c (.slice none 0 0)]
set_option maxRecDepth 100000 in
theorem leafV_le (k n : Int) (u : List UInt8) : VLe (.agg (leafV (vD k n u [] []))) (.agg (cellsV Tryd.prog 12 39 (vD k n u [] []))) :=
  .agg (.cons (.refl _) (.cons (.refl _) (.cons (.refl _) (.cons (.nil _) (.cons (.nil _) .nil)))))
def nV (S : List UInt8) (a b : Nat) : Int × Int := numE (numU (midS S a b))
set_option maxRecDepth 100000 in
theorem numEnd_bad {S : List UInt8} {a : Nat} {y : JS} (h : y.e ≠ 0) : numEnd S a y = (vD 0 0 [] [] [], y) := by unfold numEnd; rw [if_pos h]
set_option maxRecDepth 100000 in
theorem numEnd_fail {S : List UInt8} {a : Nat} {y : JS} (h : y.e = 0) (hv : (nV S a y.p).2 ≠ 0) : numEnd S a y = (vD 2 (nV S a y.p).1 [] [] [], failS y a (nV S a y.p).2) := by
  unfold numEnd; rw [if_neg (fun hh => hh h)]; unfold nV at hv ⊢; dsimp only; rw [if_pos hv]
set_option maxRecDepth 100000 in
theorem numEnd_good {S : List UInt8} {a : Nat} {y : JS} (h : y.e = 0) (hv : ¬ (nV S a y.p).2 ≠ 0) : numEnd S a y = (vD 2 (nV S a y.p).1 [] [] [], y) := by
  unfold numEnd; rw [if_neg (fun hh => hh h)]; unfold nV at hv ⊢; dsimp only; rw [if_neg hv]
set_option maxRecDepth 100000 in
theorem nV_ac (s : ByteArray) (a b : Nat) (hs : s.size ≤ 1000000000) : AC EN5 Tryd.prog 49 [.c (.string (s.extract a b))] (.tup [.c (.int .i64 (nV s.data.toList a b).1), .c (.int .i64 (nV s.data.toList a b).2)]) := by
  have := numberP_ac (s.extract a b) (by rw [ByteArray.size_extract]; omega)
  unfold numVV at this
  rw [ext_mid] at this
  exact this
set_option maxRecDepth 100000 in
theorem ne_b {n : Int} (h : (n != 0) = true) : n ≠ 0 := by simpa using h
set_option maxRecDepth 100000 in
theorem eq_b {n : Int} (h : (n != 0) = false) : n = 0 := by simpa using h
set_option maxRecDepth 100000 in
theorem u8_eq {c : UInt8} {n : Nat} (h : (((c.toNat : Int)) == (n : Int)) = true) (hn : n < 256) : c = UInt8.ofNat n := by
  have : (c.toNat : Int) = (n : Int) := by simpa using h
  have : c.toNat = n := by omega
  rw [← this]; simp
set_option maxRecDepth 100000 in
theorem u8_ne2 {c : UInt8} {n : Nat} (h : (((c.toNat : Int)) == (n : Int)) = false) (hn : n < 256) : c ≠ UInt8.ofNat n := by
  intro e
  subst e
  simp at h
  omega
set_option maxRecDepth 100000 in
theorem numS_neg {S : List UInt8} {x : JS} (h : atS S x = 45) : numberS S x = numEnd S x.p (if (takeS S d9 (goS x)).1 = 48 then (takeS S d9 (goS x)).2 else digsS S (takeS S d9 (goS x)).2) := by
  unfold numberS numEnd; rw [if_pos h, if_pos h]
set_option maxRecDepth 100000 in
theorem numS_pos {S : List UInt8} {x : JS} (h : ¬ atS S x = 45) : numberS S x = numEnd S x.p (if (takeS S d10 x).1 = 48 then (takeS S d10 x).2 else digsS S (takeS S d10 x).2) := by
  unfold numberS numEnd; rw [if_neg h, if_neg h]
set_option maxRecDepth 100000 in
theorem numEnd_leaf (S : List UInt8) (a : Nat) (y : JS) : ∃ k n, (numEnd S a y).1 = vD k n [] [] [] := by
  unfold numEnd
  by_cases h : y.e ≠ 0
  · rw [if_pos h]; exact ⟨0, 0, rfl⟩
  · rw [if_neg h]; exact ⟨2, _, rfl⟩
set_option maxRecDepth 100000 in
theorem number_leaf (S : List UInt8) (x : JS) : ∃ k n, (numberS S x).1 = vD k n [] [] [] := by
  by_cases h : atS S x = 45
  · rw [numS_neg h]; exact numEnd_leaf _ _ _
  · rw [numS_pos h]; exact numEnd_leaf _ _ _
def zeroCv : List V := [.c (.int .i64 0), .c (.int .i64 0), .c (.string { data := #[] }), .c (.slice none 0 0), .c (.slice none 0 0)]
def dig10 : ByteArray := ⟨#[48, 49, 50, 51, 52, 53, 54, 55, 56, 57]⟩
set_option maxRecDepth 100000 in
/-- what comes before the digits: how they must begin, and where the reader is -/
theorem num_pre (s : ByteArray) (x : JS) (hp : x.p ≤ s.size) : ∃ (L : ByteArray) (x1 : JS), L.size ≤ 1000000000 ∧ Mv s.data.toList x x1 ∧
    numberS s.data.toList x = numEnd s.data.toList x.p (if (takeS s.data.toList L.data.toList x1).1 = 48 then (takeS s.data.toList L.data.toList x1).2 else digsS s.data.toList (takeS s.data.toList L.data.toList x1).2) ∧
    ((((atS s.data.toList x).toNat : Int) == 45) = true → dig10.extract 1 10 = L ∧ goS x = x1) ∧ ((((atS s.data.toList x).toNat : Int) == 45) = false → dig10 = L ∧ x = x1) := by
  cases hneg : (((atS s.data.toList x).toNat : Int) == 45)
  · exact ⟨dig10, x, by decide, Mv.refl hp, numS_pos (u8_ne2 (n := 45) hneg (by decide)), ⟨fun h => (by cases h), fun _ => ⟨rfl, rfl⟩⟩⟩
  · have h := u8_eq (n := 45) hneg (by decide)
    exact ⟨dig10.extract 1 10, goS x, by decide, mv_go (at_lt (S := s.data.toList) (b := 45) (by decide) h), numS_neg h, ⟨fun _ => ⟨rfl, rfl⟩, fun h => (by cases h)⟩⟩
set_option maxRecDepth 100000 in
theorem bq_f {b : Bool} (h : (b == true) = false) : b = false := by simpa using h
set_option maxRecDepth 100000 in
theorem bq_t {b : Bool} (h : (b == true) = true) : b = true := by simpa using h
set_option maxRecDepth 100000 in
theorem dig_range {c : UInt8} : digU c = true ↔ ((c.toNat : Int) ≥ 48 ∧ (c.toNat : Int) ≤ 57) := by
  rw [digU_iff]; omega
set_option maxHeartbeats 4000000 in
set_option maxRecDepth 100000 in
theorem numberP_acb (s : ByteArray) (x : JS) (hs : s.size ≤ 1000000000) (hp : x.p ≤ s.size) : ACB EN5 Tryd.prog 68 [.bx (pn 0) 0] [boxP s x] (.agg (leafV (numberS s.data.toList x).1)) [boxP s (numberS s.data.toList x).2] := by
  have hpk := peekP_acb s x hs
  obtain ⟨L, x1, hL, hmv1, hE, hneg, hpos⟩ := num_pre s x hp
  have htk := takeP_acb s x1 L hs hL hmv1.hi
  have hmv := hmv1.trans (mv_take hmv1.hi L.data.toList)
  generalize takeS s.data.toList L.data.toList x1 = T at htk hmv hE
  have hY : Mv s.data.toList x (if T.1 = 48 then T.2 else digsS s.data.toList T.2) := by
    split
    · exact hmv
    · exact hmv.trans (mv_digs hmv.hi)
  have hT := hmv.hi
  have hT1 : T.2.p ≤ s.size := hT
  generalize hYe : (if T.1 = 48 then T.2 else digsS s.data.toList T.2) = Y at hE hY
  have hYlo := hY.lo
  have hYhi : Y.p ≤ s.size := hY.hi
  have hnm := nV_ac s x.p Y.p hs
  refine acb_enter (fn := Tryd.f68) 102 Tryd.func68 rfl rfl ?_
  intro pas w0 w he hpp
  repeat' (first
    | (apply s_meth (cellsP s) (fun _ _ => rfl) rfl
       · conv => lhs; whnf
       · conv => lhs; whnf
       · rfl
       · conv => lhs; whnf; arg 1; whnf
       · first | exact eta0 _ _ | exact eta1 _ _ | exact eta2 _ _ | exact eta3 _ _ | exact eta6 _ | exact etaQ0 _ _ | exact etaQ1 _ _ | exact etaQ2 _ _ | exact etaQ3 _ _ | exact etaQ6 _
       · first | exact hpk | exact htk | exact failP_acb _ _ _ _
       · exact fun _ => rfl
       · exact fun _ => rfl)
    | (apply s_wanted_meth (cellsP s) (fun _ _ => rfl) rfl
       · conv => lhs; whnf
       · conv => lhs; whnf
       · first | rfl | assumption
       · conv => lhs; whnf
       · rfl
       · conv => lhs; whnf; arg 1; whnf
       · first | exact eta0 _ _ | exact eta1 _ _ | exact eta2 _ _ | exact eta3 _ _ | exact eta6 _ | exact etaQ0 _ _ | exact etaQ1 _ _ | exact etaQ2 _ _ | exact etaQ3 _ _ | exact etaQ6 _
       · first | exact hpk | exact htk | exact failP_acb _ _ _ _
       · exact fun _ => rfl
       · exact fun _ => rfl)
    | (apply s_skip rfl
       · conv => lhs; whnf
       · conv => lhs; whnf
       · first | rfl | assumption)
    | (apply s_guard_meth (cellsP s) (fun _ _ => rfl) rfl
       · conv => lhs; whnf
       · conv => lhs; whnf
       · conv => lhs; whnf
       · rfl
       · conv => lhs; whnf; arg 1; whnf
       · first | exact eta0 _ _ | exact eta1 _ _ | exact eta2 _ _ | exact eta3 _ _ | exact eta6 _ | exact etaQ0 _ _ | exact etaQ1 _ _ | exact etaQ2 _ _ | exact etaQ3 _ _ | exact etaQ6 _
       · first | exact hpk | exact htk | exact failP_acb _ _ _ _
       · exact fun _ => rfl
       · exact fun _ => rfl)
    | apply aw_cutAt 6 (stS 102 [(0, .bx (pn 0) 0), (2, .bx 2 0), (3, .c (.int .i64 x.p)), (4, .c (.string L))] [(pn 0, boxP s x1), (2, .box 39 zeroCv)]) rfl
    | apply aw_cutAt 9 (stS 102 [(0, .bx (pn 0) 0), (2, .bx 2 0), (3, .c (.int .i64 x.p))] [(pn 0, boxP s Y), (2, .box 39 zeroCv)]) rfl
    | refine k_cut_ret ?_
    | refine k_cut_exit ?_
    | refine k_cut ?_
    | refine aw_seq ?_
    | refine aw_region ?_
    | refine awo_nil ?_
    | refine k_seq ?_
    | refine k_block ?_
    | refine k_scope ?_
    | refine aw_block ?_
    | refine aw_skip ?_
    | refine aw_label ?_
    | refine aw_scope ?_
    | (apply s_pick_t rfl rfl
       · conv => lhs; whnf
       · conv => lhs; whnf
       · first | exact bT1 (by assumption) | exact bT2 (by assumption))
    | (apply s_pick_f rfl rfl
       · conv => lhs; whnf
       · conv => lhs; whnf
       · first | exact bF1 (by assumption) | exact bF2 (by assumption))
    | (apply s_val rfl
       · conv => lhs; whnf
       · conv => lhs; whnf; arg 2; whnf)
    | (apply s_call rfl
       · conv => lhs; whnf
       · conv => lhs; whnf
       · first | exact hnm)
    | (apply s_alloc rfl rfl rfl rfl
       · conv => lhs; whnf; arg 1; whnf
       · rfl)
    | (apply s_store rfl rfl rfl
       · conv => lhs; whnf
       · conv => lhs; whnf; arg 1; whnf
       · conv => lhs; whnf; arg 1; whnf
       · exact ⟨by kernel_rfl, by kernel_rfl⟩
       · rfl)
    | (apply s_wanted_val rfl
       · conv => lhs; whnf
       · conv => lhs; whnf
       · first | rfl | assumption
       · conv => lhs; whnf; arg 2; whnf)
    | (apply s_wanted_call rfl
       · conv => lhs; whnf
       · conv => lhs; whnf
       · first | rfl | assumption
       · conv => lhs; whnf
       · first | exact hnm)
    | (apply s_skip rfl
       · conv => lhs; whnf
       · conv => lhs; whnf
       · first | rfl | assumption)
    | (apply s_guard_val rfl
       · conv => lhs; whnf
       · conv => lhs; whnf
       · conv => lhs; whnf; arg 2; whnf)
    | (apply s_guard_call rfl
       · conv => lhs; whnf
       · conv => lhs; whnf
       · conv => lhs; whnf
       · first | exact hnm)
    | (apply aw_draw (by kernel_rfl) (by kernel_rfl))
    | apply y_nil
    | (apply y_pick_t rfl rfl
       · conv => lhs; whnf
       · conv => lhs; whnf
       · first | exact bT1 (by assumption) | exact bT2 (by assumption))
    | (apply y_pick_f rfl rfl
       · conv => lhs; whnf
       · conv => lhs; whnf
       · first | exact bF1 (by assumption) | exact bF2 (by assumption))
    | (apply y_val rfl
       · conv => lhs; whnf
       · conv => lhs; whnf; arg 2; whnf)
    | (apply y_call rfl
       · conv => lhs; whnf
       · conv => lhs; whnf
       · first | exact hnm)
    | (apply y_store rfl rfl rfl
       · conv => lhs; whnf
       · rfl
       · rfl
       · conv => lhs; whnf; arg 1; whnf
       · conv => lhs; whnf; arg 1; whnf
       · exact ⟨by kernel_rfl, by kernel_rfl⟩
       · rfl)
    | (apply y_wanted_val rfl
       · conv => lhs; whnf
       · conv => lhs; whnf
       · first | rfl | assumption
       · conv => lhs; whnf; arg 2; whnf)
    | (apply y_wanted_call rfl
       · conv => lhs; whnf
       · conv => lhs; whnf
       · first | rfl | assumption
       · conv => lhs; whnf
       · first | exact hnm)
    | (apply y_skip rfl
       · conv => lhs; whnf
       · conv => lhs; whnf
       · first | rfl | assumption)
    | (apply y_guard_val rfl
       · conv => lhs; whnf
       · conv => lhs; whnf
       · conv => lhs; whnf; arg 2; whnf)
    | (apply y_guard_call rfl
       · conv => lhs; whnf
       · conv => lhs; whnf
       · conv => lhs; whnf
       · first | exact hnm)
    | exact apartB_none
    | exact apartB_nil
    | exact all_nil
    | (show List.all _ _ = true; rfl)
    | (show apartB _ _ = true; rfl)
    | exact ([] : List Nat)
    | exact (1000000 : Nat)
    | (apply aw_cond_t
       · conv => lhs; whnf; arg 1; arg 1; whnf)
    | (apply aw_cond_f
       · conv => lhs; whnf; arg 1; arg 1; whnf)
    | (refine aw_cond (by conv => lhs; whnf) ?_ ?_ <;> intro hb)
    | refine aw_ret ?_
    | refine aw_exit ?_
    | refine k_seq_exit ?_
    | refine k_seq_ret ?_
    | refine k_block_ret ?_
    | refine k_block_hit rfl ?_
    | refine k_block_miss rfl ?_
    | refine k_scope_exit ?_
    | refine k_scope_ret ?_
    | refine k_loop_exit ?_
    | refine k_loop_ret ?_
    | refine k_endB ⟨?_, ?_⟩
    | refine k_endB_ret ⟨?_, ?_⟩
    | exact (rfl : _ = V.tup [])
    | (refine ⟨_, by conv => lhs; whnf; arg 2; whnf, ?_⟩; conv => rhs; whnf)
    | exact trivial
    | intro hg)
  all_goals try
    first
      | exact i64_in2 (by omega)
      | exact ⟨by kernel_rfl, by omega, by omega, by omega⟩
      | exact ⟨by kernel_rfl, by decide, by decide⟩
      | (have g := ne_b (n := Y.e) (by assumption)
         rw [hE, numEnd_bad g]
         first
           | rfl
           | exact ⟨rfl, trivial⟩)
      | (have g := eq_b (n := Y.e) (by assumption)
         first
           | (have g2 := ne_b (n := (nV s.data.toList x.p Y.p).2) (by assumption)
              rw [hE, numEnd_fail g g2]
              first
                | rfl
                | exact ⟨rfl, trivial⟩)
           | (have g2 := eq_b (n := (nV s.data.toList x.p Y.p).2) (by assumption)
              rw [hE, numEnd_good g (fun hh => hh g2)]
              first
                | rfl
                | exact ⟨rfl, trivial⟩))
      | (have g : (((atS s.data.toList x).toNat : Int) == 45) = true := by assumption
         obtain ⟨e1, e2⟩ := hneg g
         subst e1
         subst e2
         exact Sub.live ⟨rfl, rfl, rfl, rfl, trivial⟩ ⟨rfl, rfl, trivial⟩)
      | (have g : (((atS s.data.toList x).toNat : Int) == 45) = false := by assumption
         obtain ⟨e1, e2⟩ := hpos g
         subst e1
         subst e2
         exact Sub.live ⟨rfl, rfl, rfl, rfl, trivial⟩ ⟨rfl, rfl, trivial⟩)
      | (have g : (((T.1.toNat : Int)) != 48) = false := by assumption
         have g48 : T.1 = 48 := u8_eq (n := 48) (by simpa using g) (by decide)
         rw [if_pos g48] at hYe
         subst hYe
         exact Sub.live ⟨rfl, rfl, rfl, trivial⟩ ⟨rfl, rfl, trivial⟩)
  · have h48 : ¬ T.1 = 48 := fun e => by
      have h : (((T.1.toNat : Int)) != 48) = true := by assumption
      rw [e] at h; exact absurd h (by decide)
    rw [if_neg h48] at hYe
    refine aw_loop (fun j st => ∃ p, p + j = s.size ∧ T.2.p ≤ p ∧ (s.data.toList.drop p).dropWhile digU = (s.data.toList.drop T.2.p).dropWhile digU ∧ (T.2.e ≠ 0 → p = T.2.p) ∧ Sub ⟨Tryd.prog, pas, w0, w, EN5, he, hpp⟩ st (HnP s x T.2 p)) (s.size - T.2.p) ⟨T.2.p, by omega, Nat.le_refl _, rfl, fun _ => rfl, ?_⟩ ?_
    · exact Sub.live ⟨rfl, rfl, rfl, trivial⟩ ⟨rfl, rfl, trivial⟩
    · rintro j st ⟨p, hij, hlp, hdw, hfix, hs2⟩
      refine aw_sub hs2 ?_
      clear hs2
      have stop : T.2.e = 0 → (p < s.size → digU (s.data.toList.getD p 0) = false) → Y = ⟨p, T.2.m, T.2.bad, T.2.e⟩ := fun h h2 => by
        rw [← hYe]
        unfold digsS; rw [if_pos h, ← hdw, dw_stop (by omega) h2]
      repeat' (first
    | refine k_cut_ret ?_
    | refine k_cut_exit ?_
    | refine k_cut ?_
    | refine aw_seq ?_
    | refine aw_region ?_
    | refine awo_nil ?_
    | refine k_seq ?_
    | refine k_block ?_
    | refine k_scope ?_
    | refine aw_block ?_
    | refine aw_skip ?_
    | refine aw_label ?_
    | refine aw_scope ?_
    | (apply s_pick_t rfl rfl
       · conv => lhs; whnf
       · conv => lhs; whnf
       · first | exact bT1 (by assumption) | exact bT2 (by assumption))
    | (apply s_pick_f rfl rfl
       · conv => lhs; whnf
       · conv => lhs; whnf
       · first | exact bF1 (by assumption) | exact bF2 (by assumption))
    | (apply s_val rfl
       · conv => lhs; whnf
       · conv => lhs; whnf; arg 2; whnf)
    | (apply s_call rfl
       · conv => lhs; whnf
       · conv => lhs; whnf
       · first | fail)
    | (apply s_alloc rfl rfl rfl rfl
       · conv => lhs; whnf; arg 1; whnf
       · rfl)
    | (apply s_store rfl rfl rfl
       · conv => lhs; whnf
       · conv => lhs; whnf; arg 1; whnf
       · conv => lhs; whnf; arg 1; whnf
       · exact ⟨by kernel_rfl, by kernel_rfl⟩
       · rfl)
    | (apply s_wanted_val rfl
       · conv => lhs; whnf
       · conv => lhs; whnf
       · first | rfl | assumption
       · conv => lhs; whnf; arg 2; whnf)
    | (apply s_wanted_call rfl
       · conv => lhs; whnf
       · conv => lhs; whnf
       · first | rfl | assumption
       · conv => lhs; whnf
       · first | fail)
    | (apply s_skip rfl
       · conv => lhs; whnf
       · conv => lhs; whnf
       · first | rfl | assumption)
    | (apply s_guard_val rfl
       · conv => lhs; whnf
       · conv => lhs; whnf
       · conv => lhs; whnf; arg 2; whnf)
    | (apply s_guard_call rfl
       · conv => lhs; whnf
       · conv => lhs; whnf
       · conv => lhs; whnf
       · first | fail)
    | (apply aw_draw (by kernel_rfl) (by kernel_rfl))
    | apply y_nil
    | (apply y_pick_t rfl rfl
       · conv => lhs; whnf
       · conv => lhs; whnf
       · first | exact bT1 (by assumption) | exact bT2 (by assumption))
    | (apply y_pick_f rfl rfl
       · conv => lhs; whnf
       · conv => lhs; whnf
       · first | exact bF1 (by assumption) | exact bF2 (by assumption))
    | (apply y_val rfl
       · conv => lhs; whnf
       · conv => lhs; whnf; arg 2; whnf)
    | (apply y_call rfl
       · conv => lhs; whnf
       · conv => lhs; whnf
       · first | fail)
    | (apply y_store rfl rfl rfl
       · conv => lhs; whnf
       · rfl
       · rfl
       · conv => lhs; whnf; arg 1; whnf
       · conv => lhs; whnf; arg 1; whnf
       · exact ⟨by kernel_rfl, by kernel_rfl⟩
       · rfl)
    | (apply y_wanted_val rfl
       · conv => lhs; whnf
       · conv => lhs; whnf
       · first | rfl | assumption
       · conv => lhs; whnf; arg 2; whnf)
    | (apply y_wanted_call rfl
       · conv => lhs; whnf
       · conv => lhs; whnf
       · first | rfl | assumption
       · conv => lhs; whnf
       · first | fail)
    | (apply y_skip rfl
       · conv => lhs; whnf
       · conv => lhs; whnf
       · first | rfl | assumption)
    | (apply y_guard_val rfl
       · conv => lhs; whnf
       · conv => lhs; whnf
       · conv => lhs; whnf; arg 2; whnf)
    | (apply y_guard_call rfl
       · conv => lhs; whnf
       · conv => lhs; whnf
       · conv => lhs; whnf
       · first | fail)
    | exact apartB_none
    | exact apartB_nil
    | exact all_nil
    | (show List.all _ _ = true; rfl)
    | (show apartB _ _ = true; rfl)
    | exact ([] : List Nat)
    | exact (1000000 : Nat)
    | (apply aw_cond_t
       · conv => lhs; whnf; arg 1; arg 1; whnf)
    | (apply aw_cond_f
       · conv => lhs; whnf; arg 1; arg 1; whnf)
    | (refine aw_cond (by conv => lhs; whnf) ?_ ?_ <;> intro hb)
    | refine aw_ret ?_
    | refine aw_exit ?_
    | refine k_seq_exit ?_
    | refine k_seq_ret ?_
    | refine k_block_ret ?_
    | refine k_block_hit rfl ?_
    | refine k_block_miss rfl ?_
    | refine k_scope_exit ?_
    | refine k_scope_ret ?_
    | refine k_loop_exit ?_
    | refine k_loop_ret ?_
    | refine k_endB ⟨?_, ?_⟩
    | refine k_endB_ret ⟨?_, ?_⟩
    | exact (rfl : _ = V.tup [])
    | (refine ⟨_, by conv => lhs; whnf; arg 2; whnf, ?_⟩; conv => rhs; whnf)
    | exact trivial
    | intro hg)
      all_goals try (show Tryd.prog.underlying 9 = _; kernel_rfl)
      all_goals
        first
          | (have g0 : ((T.2.e == 0) == true) = false := by assumption
             have g0 : T.2.e ≠ 0 := by simpa using g0
             have eY : Y = T.2 := by rw [← hYe]; unfold digsS; rw [if_neg (fun h => g0 h)]
             have ep : p = T.2.p := hfix g0
             rw [eY, ep]
             exact Sub.live ⟨rfl, rfl, rfl, trivial⟩ ⟨rfl, rfl, trivial⟩)
          | (have g0 : ((T.2.e == 0) == true) = true := by assumption
             have g0 : T.2.e = 0 := by simpa using g0
             first
               | (have g1 : (decide ((p : Int) < (s.size : Int)) == true) = false := by assumption
                  have g1 : ¬ (p : Int) < (s.size : Int) := by simpa using g1
                  rw [stop g0 fun h => by omega]
                  exact Sub.live ⟨rfl, rfl, rfl, trivial⟩ ⟨rfl, rfl, trivial⟩)
               | (have g1 : (decide ((p : Int) < (s.size : Int)) == true) = true := by assumption
                  have g1 : p < s.size := by simpa using g1
                  have hd := dig_range (c := s.data.toList.getD p 0)
                  first
                    | exact i64_in2 (by dsimp only; omega)
                    | exact ⟨by kernel_rfl, by dsimp only; omega, by dsimp only; omega⟩
                    | (have g2 : (decide (byteAt s (p : Int).toNat ≥ 48) == true) = false := by assumption
                       rw [stop g0 fun _ => by
                         cases hq : digU (s.data.toList.getD p 0) with
                         | false => rfl
                         | true => exact (of_decide_eq_false (bq_f g2) (hd.1 hq).1).elim]
                       exact Sub.live ⟨rfl, rfl, rfl, trivial⟩ ⟨rfl, rfl, trivial⟩)
                    | (have g2 : (decide (byteAt s (p : Int).toNat ≥ 48) == true) = true := by assumption
                       have g3 : decide (byteAt s (p : Int).toNat ≤ 57) = false := by assumption
                       rw [stop g0 fun _ => by
                         cases hq : digU (s.data.toList.getD p 0) with
                         | false => rfl
                         | true => exact (of_decide_eq_false g3 (hd.1 hq).2).elim]
                       exact Sub.live ⟨rfl, rfl, rfl, trivial⟩ ⟨rfl, rfl, trivial⟩)
                    | (have g2 : (decide (byteAt s (p : Int).toNat ≥ 48) == true) = true := by assumption
                       have g3 : decide (byteAt s (p : Int).toNat ≤ 57) = true := by assumption
                       rw [byteAt_nat] at g2 g3
                       have g4 : digU (s.data.toList.getD p 0) = true := hd.2 ⟨of_decide_eq_true (bq_t g2), of_decide_eq_true g3⟩
                       exact k_loop_next (j' := j - 1) (by omega) ⟨p + 1, by omega, by omega, by rw [← hdw]; exact (dw_step g1 g4).symm, fun h => (h g0).elim, Sub.live ⟨rfl, rfl, rfl, trivial⟩ ⟨rfl, rfl, trivial⟩⟩)))
end Go.Proofs.YtjhjleanihgopaaDoor
namespace Go.Proofs.YtjhjleanihgopaaDoor
open Go.RowKit
attribute [local irreducible] wpList Calls Code.wp AW AWo OpOk seqK blockK scopeK loopK endK endKB AC ACB absLex absLexG Yld YldG Sub
set_option maxRecDepth 100000 in
theorem bodyS_e {S : List UInt8} {a n : Nat} {x : JS} (h : x.e ≠ 0) : bodyS S a n x = ([], x) := by
  cases n with
  | zero => rfl
  | succ n => unfold bodyS; rw [if_pos h]
set_option maxRecDepth 100000 in
theorem uq_ac (s : ByteArray) (a b : Nat) (hs : s.size ≤ 100000) : AC EN5 Tryd.prog 93 [.c (.string (s.extract a b))] (.tup [.c (.string (bs ((unquoteU (midS s.data.toList a b)).getD []))), .c (.int .i64 (uqE (unquoteU (midS s.data.toList a b))))]) := by
  have := unquoteP_ac (s.extract a b) (by rw [ByteArray.size_extract]; omega)
  unfold uqVV at this
  rw [ext_mid] at this
  exact this
set_option maxRecDepth 100000 in
theorem body_bad {S : List UInt8} {a j : Nat} {x : JS} (h0 : x.e = 0) (h : x.p = S.length ∨ (atS S x).toNat < 32 ∨ 126 < (atS S x).toNat) : bodyS S a (j + 1) x = bodyS S a j (failS x x.p 3) := by
  rw [bodyS, if_neg (fun hh => hh h0), if_pos h]
set_option maxRecDepth 100000 in
theorem body_end {S : List UInt8} {a j : Nat} {x : JS} (h0 : x.e = 0) (h : ¬ (x.p = S.length ∨ (atS S x).toNat < 32 ∨ 126 < (atS S x).toNat)) (h34 : atS S x = 34) : bodyS S a (j + 1) x = ((unquoteU (midS S a (x.p + 1))).getD [], goS x) := by
  rw [bodyS, if_neg (fun hh => hh h0), if_neg h, if_pos h34]
set_option maxRecDepth 100000 in
theorem body_back {S : List UInt8} {a j : Nat} {x : JS} (h0 : x.e = 0) (h : ¬ (x.p = S.length ∨ (atS S x).toNat < 32 ∨ 126 < (atS S x).toNat)) (h34 : ¬ atS S x = 34) (h92 : atS S x = 92) : bodyS S a (j + 1) x = bodyS S a j (escS S (goS x)) := by
  rw [bodyS, if_neg (fun hh => hh h0), if_neg h, if_neg h34, if_pos h92]
set_option maxRecDepth 100000 in
theorem body_go {S : List UInt8} {a j : Nat} {x : JS} (h0 : x.e = 0) (h : ¬ (x.p = S.length ∨ (atS S x).toNat < 32 ∨ 126 < (atS S x).toNat)) (h34 : ¬ atS S x = 34) (h92 : ¬ atS S x = 92) : bodyS S a (j + 1) x = bodyS S a j (goS x) := by
  rw [bodyS, if_neg (fun hh => hh h0), if_neg h, if_neg h34, if_neg h92]
noncomputable def HbP (s : ByteArray) (a : Nat) (y : JS) : Vst 98 :=
  stS 98 [(0, .bx (pn 0) 0), (3, .c (.int .i64 a))] [(pn 0, boxP s y)]
set_option maxRecDepth 100000 in
theorem takeP_q (s : ByteArray) (x : JS) (l : ByteArray) (q : List UInt8) (hq : l.data.toList = q) (hs : s.size ≤ 1000000000) (hl : l.size ≤ 1000000000) (hp : x.p ≤ s.size) : ACB EN5 Tryd.prog 92 [.bx (pn 0) 0, .c (.string l)] [boxP s x] (.c (.int .u8 ((takeS s.data.toList q x).1.toNat : Int))) [boxP s (takeS s.data.toList q x).2] := by
  subst hq; exact takeP_acb s x l hs hl hp
def dHexB : ByteArray := ⟨#[48, 49, 50, 51, 52, 53, 54, 55, 56, 57, 97, 98, 99, 100, 101, 102, 65, 66, 67, 68, 69, 70]⟩
set_option maxHeartbeats 4000000 in
set_option maxRecDepth 100000 in
theorem strP_acb (s : ByteArray) (x : JS) (hs : s.size ≤ 100000) (hp : x.p ≤ s.size) : ACB EN5 Tryd.prog 65 [.bx (pn 0) 0] [boxP s x] (.c (.string (bs (strS s.data.toList x).1))) [boxP s (strS s.data.toList x).2] := by
  have hpk := fun x => peekP_acb s x (by omega)
  have htk := takeP_q s x ⟨#[34]⟩ [34] rfl (by omega) (by decide) hp
  have hm0 := mv_take (S := s.data.toList) hp [34]
  refine acb_enter (fn := Tryd.f65) 98 Tryd.func65 rfl rfl ?_
  intro pas w0 w he hpp
  repeat' (first
    | (apply s_meth (cellsP s) (fun _ _ => rfl) rfl
       · conv => lhs; whnf
       · conv => lhs; whnf
       · rfl
       · conv => lhs; whnf; arg 1; whnf
       · first | exact eta0 _ _ | exact eta1 _ _ | exact eta2 _ _ | exact eta3 _ _ | exact eta6 _ | exact etaQ0 _ _ | exact etaQ1 _ _ | exact etaQ2 _ _ | exact etaQ3 _ _ | exact etaQ6 _
       · first | exact htk
       · exact fun _ => rfl
       · exact fun _ => rfl)
    | (apply s_wanted_meth (cellsP s) (fun _ _ => rfl) rfl
       · conv => lhs; whnf
       · conv => lhs; whnf
       · first | rfl | assumption
       · conv => lhs; whnf
       · rfl
       · conv => lhs; whnf; arg 1; whnf
       · first | exact eta0 _ _ | exact eta1 _ _ | exact eta2 _ _ | exact eta3 _ _ | exact eta6 _ | exact etaQ0 _ _ | exact etaQ1 _ _ | exact etaQ2 _ _ | exact etaQ3 _ _ | exact etaQ6 _
       · first | exact htk
       · exact fun _ => rfl
       · exact fun _ => rfl)
    | (apply s_skip rfl
       · conv => lhs; whnf
       · conv => lhs; whnf
       · first | rfl | assumption)
    | (apply s_guard_meth (cellsP s) (fun _ _ => rfl) rfl
       · conv => lhs; whnf
       · conv => lhs; whnf
       · conv => lhs; whnf
       · rfl
       · conv => lhs; whnf; arg 1; whnf
       · first | exact eta0 _ _ | exact eta1 _ _ | exact eta2 _ _ | exact eta3 _ _ | exact eta6 _ | exact etaQ0 _ _ | exact etaQ1 _ _ | exact etaQ2 _ _ | exact etaQ3 _ _ | exact etaQ6 _
       · first | exact htk
       · exact fun _ => rfl
       · exact fun _ => rfl)
    | refine aw_seq ?_
    | refine aw_region ?_
    | refine awo_nil ?_
    | refine k_seq ?_
    | refine k_block ?_
    | refine k_scope ?_
    | refine aw_block ?_
    | refine aw_skip ?_
    | refine aw_label ?_
    | refine aw_scope ?_
    | (apply s_pick_t rfl rfl
       · conv => lhs; whnf
       · conv => lhs; whnf
       · first | exact bT1 (by assumption) | exact bT2 (by assumption))
    | (apply s_pick_f rfl rfl
       · conv => lhs; whnf
       · conv => lhs; whnf
       · first | exact bF1 (by assumption) | exact bF2 (by assumption))
    | (apply s_val rfl
       · conv => lhs; whnf
       · conv => lhs; whnf; arg 2; whnf)
    | (apply s_call rfl
       · conv => lhs; whnf
       · conv => lhs; whnf
       · first | fail)
    | (apply s_store rfl rfl rfl
       · conv => lhs; whnf
       · conv => lhs; whnf; arg 1; whnf
       · conv => lhs; whnf; arg 1; whnf
       · exact ⟨by kernel_rfl, by kernel_rfl⟩
       · rfl)
    | (apply s_wanted_val rfl
       · conv => lhs; whnf
       · conv => lhs; whnf
       · first | rfl | assumption
       · conv => lhs; whnf; arg 2; whnf)
    | (apply s_wanted_call rfl
       · conv => lhs; whnf
       · conv => lhs; whnf
       · first | rfl | assumption
       · conv => lhs; whnf
       · first | fail)
    | (apply s_skip rfl
       · conv => lhs; whnf
       · conv => lhs; whnf
       · first | rfl | assumption)
    | (apply s_guard_val rfl
       · conv => lhs; whnf
       · conv => lhs; whnf
       · conv => lhs; whnf; arg 2; whnf)
    | (apply s_guard_call rfl
       · conv => lhs; whnf
       · conv => lhs; whnf
       · conv => lhs; whnf
       · first | fail)
    | (apply aw_draw (by kernel_rfl) (by kernel_rfl))
    | apply y_nil
    | (apply y_pick_t rfl rfl
       · conv => lhs; whnf
       · conv => lhs; whnf
       · first | exact bT1 (by assumption) | exact bT2 (by assumption))
    | (apply y_pick_f rfl rfl
       · conv => lhs; whnf
       · conv => lhs; whnf
       · first | exact bF1 (by assumption) | exact bF2 (by assumption))
    | (apply y_val rfl
       · conv => lhs; whnf
       · conv => lhs; whnf; arg 2; whnf)
    | (apply y_call rfl
       · conv => lhs; whnf
       · conv => lhs; whnf
       · first | fail)
    | (apply y_store rfl rfl rfl
       · conv => lhs; whnf
       · rfl
       · rfl
       · conv => lhs; whnf; arg 1; whnf
       · conv => lhs; whnf; arg 1; whnf
       · exact ⟨by kernel_rfl, by kernel_rfl⟩
       · rfl)
    | (apply y_wanted_val rfl
       · conv => lhs; whnf
       · conv => lhs; whnf
       · first | rfl | assumption
       · conv => lhs; whnf; arg 2; whnf)
    | (apply y_wanted_call rfl
       · conv => lhs; whnf
       · conv => lhs; whnf
       · first | rfl | assumption
       · conv => lhs; whnf
       · first | fail)
    | (apply y_skip rfl
       · conv => lhs; whnf
       · conv => lhs; whnf
       · first | rfl | assumption)
    | (apply y_guard_val rfl
       · conv => lhs; whnf
       · conv => lhs; whnf
       · conv => lhs; whnf; arg 2; whnf)
    | (apply y_guard_call rfl
       · conv => lhs; whnf
       · conv => lhs; whnf
       · conv => lhs; whnf
       · first | fail)
    | exact apartB_none
    | exact apartB_nil
    | exact all_nil
    | (show List.all _ _ = true; rfl)
    | (show apartB _ _ = true; rfl)
    | exact ([] : List Nat)
    | exact (1000000 : Nat)
    | (apply aw_cond_t
       · conv => lhs; whnf; arg 1; arg 1; whnf)
    | (apply aw_cond_f
       · conv => lhs; whnf; arg 1; arg 1; whnf)
    | (refine aw_cond (by conv => lhs; whnf) ?_ ?_ <;> intro hb)
    | refine aw_ret ?_
    | refine aw_exit ?_
    | refine k_seq_exit ?_
    | refine k_seq_ret ?_
    | refine k_block_ret ?_
    | refine k_block_hit rfl ?_
    | refine k_block_miss rfl ?_
    | refine k_scope_exit ?_
    | refine k_scope_ret ?_
    | refine k_loop_exit ?_
    | refine k_loop_ret ?_
    | refine k_endB ⟨?_, ?_⟩
    | refine k_endB_ret ⟨?_, ?_⟩
    | exact (rfl : _ = V.tup [])
    | (refine ⟨_, by conv => lhs; whnf; arg 2; whnf, ?_⟩; conv => rhs; whnf)
    | exact trivial
    | intro hg)
  refine aw_loop (fun j st => ∃ y, bodyS s.data.toList x.p j y = strS s.data.toList x ∧ (y.e = 0 → s.size - y.p + 1 ≤ j) ∧ x.p ≤ y.p ∧ y.p ≤ s.size ∧ Sub ⟨Tryd.prog, pas, w0, w, EN5, he, hpp⟩ st (HbP s x.p y)) (s.data.toList.length + 3) ⟨(takeS s.data.toList [34] x).2, rfl, fun _ => by show s.size - _ + 1 ≤ s.size + 3; omega, hm0.lo, hm0.hi, ?_⟩ ?_
  · exact Sub.live ⟨rfl, rfl, trivial⟩ ⟨rfl, trivial⟩
  · rintro j st ⟨y, hR, hj, hlo, hhi, hs2⟩
    refine aw_sub hs2 ?_
    clear hs2
    have hlen : s.data.toList.length = s.size := rfl
    have h92 : (((atS s.data.toList y).toNat : Int) == 92) = true → atS s.data.toList y = 92 := fun h => u8_eq (n := 92) h (by decide)
    have g1 := fun h => mv_go (at_lt (S := s.data.toList) (b := 92) (by decide) (h92 h))
    have g2 := fun h => (g1 h).trans (mv_take (g1 h).hi dEsc)
    have g3 := fun h => (g2 h).trans (mv_take (g2 h).hi [48])
    have g4 := fun h => (g3 h).trans (mv_take (g3 h).hi [48])
    have g5 := fun h => (g4 h).trans (mv_take (g4 h).hi dHex)
    have t1 := fun h => takeP_q s _ ⟨#[34, 92, 47, 98, 102, 110, 114, 116, 117]⟩ dEsc rfl (by omega) (by decide) (g1 h).hi
    have t2 := fun h => takeP_q s _ ⟨#[48]⟩ [48] rfl (by omega) (by decide) (g2 h).hi
    have t3 := fun h => takeP_q s _ ⟨#[48]⟩ [48] rfl (by omega) (by decide) (g3 h).hi
    have t4 := fun h => takeP_q s _ dHexB dHex rfl (by omega) (by decide) (g4 h).hi
    have t5 := fun h => takeP_q s _ dHexB dHex rfl (by omega) (by decide) (g5 h).hi
    have huq := uq_ac s x.p (y.p + 1) hs
    have hy := hpk y
    repeat' (first
    | (apply s_meth (cellsP s) (fun _ _ => rfl) rfl
       · conv => lhs; whnf
       · conv => lhs; whnf
       · rfl
       · conv => lhs; whnf; arg 1; whnf
       · first | exact eta0 _ _ | exact eta1 _ _ | exact eta2 _ _ | exact eta3 _ _ | exact eta6 _ | exact etaQ0 _ _ | exact etaQ1 _ _ | exact etaQ2 _ _ | exact etaQ3 _ _ | exact etaQ6 _
       · first | exact hy | exact failP_acb _ _ _ _ | exact t1 (by assumption) | exact t2 (by assumption) | exact t3 (by assumption) | exact t4 (by assumption) | exact t5 (by assumption)
       · exact fun _ => rfl
       · exact fun _ => rfl)
    | (apply s_wanted_meth (cellsP s) (fun _ _ => rfl) rfl
       · conv => lhs; whnf
       · conv => lhs; whnf
       · first | rfl | assumption
       · conv => lhs; whnf
       · rfl
       · conv => lhs; whnf; arg 1; whnf
       · first | exact eta0 _ _ | exact eta1 _ _ | exact eta2 _ _ | exact eta3 _ _ | exact eta6 _ | exact etaQ0 _ _ | exact etaQ1 _ _ | exact etaQ2 _ _ | exact etaQ3 _ _ | exact etaQ6 _
       · first | exact hy | exact failP_acb _ _ _ _ | exact t1 (by assumption) | exact t2 (by assumption) | exact t3 (by assumption) | exact t4 (by assumption) | exact t5 (by assumption)
       · exact fun _ => rfl
       · exact fun _ => rfl)
    | (apply s_skip rfl
       · conv => lhs; whnf
       · conv => lhs; whnf
       · first | rfl | assumption)
    | (apply s_guard_meth (cellsP s) (fun _ _ => rfl) rfl
       · conv => lhs; whnf
       · conv => lhs; whnf
       · conv => lhs; whnf
       · rfl
       · conv => lhs; whnf; arg 1; whnf
       · first | exact eta0 _ _ | exact eta1 _ _ | exact eta2 _ _ | exact eta3 _ _ | exact eta6 _ | exact etaQ0 _ _ | exact etaQ1 _ _ | exact etaQ2 _ _ | exact etaQ3 _ _ | exact etaQ6 _
       · first | exact hy | exact failP_acb _ _ _ _ | exact t1 (by assumption) | exact t2 (by assumption) | exact t3 (by assumption) | exact t4 (by assumption) | exact t5 (by assumption)
       · exact fun _ => rfl
       · exact fun _ => rfl)
    | refine aw_seq ?_
    | refine aw_region ?_
    | refine awo_nil ?_
    | refine k_seq ?_
    | refine k_block ?_
    | refine k_scope ?_
    | refine aw_block ?_
    | refine aw_skip ?_
    | refine aw_label ?_
    | refine aw_scope ?_
    | (apply s_pick_t rfl rfl
       · conv => lhs; whnf
       · conv => lhs; whnf
       · first | exact bT1 (by assumption) | exact bT2 (by assumption))
    | (apply s_pick_f rfl rfl
       · conv => lhs; whnf
       · conv => lhs; whnf
       · first | exact bF1 (by assumption) | exact bF2 (by assumption))
    | (apply s_val rfl
       · conv => lhs; whnf
       · conv => lhs; whnf; arg 2; whnf)
    | (apply s_call rfl
       · conv => lhs; whnf
       · conv => lhs; whnf
       · first | exact huq)
    | (apply s_store rfl rfl rfl
       · conv => lhs; whnf
       · conv => lhs; whnf; arg 1; whnf
       · conv => lhs; whnf; arg 1; whnf
       · exact ⟨by kernel_rfl, by kernel_rfl⟩
       · rfl)
    | (apply s_wanted_val rfl
       · conv => lhs; whnf
       · conv => lhs; whnf
       · first | rfl | assumption
       · conv => lhs; whnf; arg 2; whnf)
    | (apply s_wanted_call rfl
       · conv => lhs; whnf
       · conv => lhs; whnf
       · first | rfl | assumption
       · conv => lhs; whnf
       · first | exact huq)
    | (apply s_skip rfl
       · conv => lhs; whnf
       · conv => lhs; whnf
       · first | rfl | assumption)
    | (apply s_guard_val rfl
       · conv => lhs; whnf
       · conv => lhs; whnf
       · conv => lhs; whnf; arg 2; whnf)
    | (apply s_guard_call rfl
       · conv => lhs; whnf
       · conv => lhs; whnf
       · conv => lhs; whnf
       · first | exact huq)
    | (apply aw_draw (by kernel_rfl) (by kernel_rfl))
    | apply y_nil
    | (apply y_pick_t rfl rfl
       · conv => lhs; whnf
       · conv => lhs; whnf
       · first | exact bT1 (by assumption) | exact bT2 (by assumption))
    | (apply y_pick_f rfl rfl
       · conv => lhs; whnf
       · conv => lhs; whnf
       · first | exact bF1 (by assumption) | exact bF2 (by assumption))
    | (apply y_val rfl
       · conv => lhs; whnf
       · conv => lhs; whnf; arg 2; whnf)
    | (apply y_call rfl
       · conv => lhs; whnf
       · conv => lhs; whnf
       · first | exact huq)
    | (apply y_store rfl rfl rfl
       · conv => lhs; whnf
       · rfl
       · rfl
       · conv => lhs; whnf; arg 1; whnf
       · conv => lhs; whnf; arg 1; whnf
       · exact ⟨by kernel_rfl, by kernel_rfl⟩
       · rfl)
    | (apply y_wanted_val rfl
       · conv => lhs; whnf
       · conv => lhs; whnf
       · first | rfl | assumption
       · conv => lhs; whnf; arg 2; whnf)
    | (apply y_wanted_call rfl
       · conv => lhs; whnf
       · conv => lhs; whnf
       · first | rfl | assumption
       · conv => lhs; whnf
       · first | exact huq)
    | (apply y_skip rfl
       · conv => lhs; whnf
       · conv => lhs; whnf
       · first | rfl | assumption)
    | (apply y_guard_val rfl
       · conv => lhs; whnf
       · conv => lhs; whnf
       · conv => lhs; whnf; arg 2; whnf)
    | (apply y_guard_call rfl
       · conv => lhs; whnf
       · conv => lhs; whnf
       · conv => lhs; whnf
       · first | exact huq)
    | exact apartB_none
    | exact apartB_nil
    | exact all_nil
    | (show List.all _ _ = true; rfl)
    | (show apartB _ _ = true; rfl)
    | exact ([] : List Nat)
    | exact (1000000 : Nat)
    | (apply aw_cond_t
       · conv => lhs; whnf; arg 1; arg 1; whnf)
    | (apply aw_cond_f
       · conv => lhs; whnf; arg 1; arg 1; whnf)
    | (refine aw_cond (by conv => lhs; whnf) ?_ ?_ <;> intro hb)
    | refine aw_ret ?_
    | refine aw_exit ?_
    | refine k_seq_exit ?_
    | refine k_seq_ret ?_
    | refine k_block_ret ?_
    | refine k_block_hit rfl ?_
    | refine k_block_miss rfl ?_
    | refine k_scope_exit ?_
    | refine k_scope_ret ?_
    | refine k_loop_exit ?_
    | refine k_loop_ret ?_
    | refine k_endB ⟨?_, ?_⟩
    | refine k_endB_ret ⟨?_, ?_⟩
    | exact (rfl : _ = V.tup [])
    | (refine ⟨_, by conv => lhs; whnf; arg 2; whnf, ?_⟩; conv => rhs; whnf)
    | exact trivial
    | intro hg)
    all_goals try (show Tryd.prog.underlying 9 = _; kernel_rfl)
    all_goals
      first
        | (have g0 : (y.e == 0) = false := by assumption
           have g0 : y.e ≠ 0 := by simpa using g0
           rw [← hR, bodyS_e g0] <;> first | rfl | exact ⟨rfl, trivial⟩)
        | (have g0 : (y.e == 0) = true := by assumption
           have g0 : y.e = 0 := by simpa using g0
           have hj1 := hj g0
           obtain ⟨j, rfl⟩ : ∃ i, j = i + 1 := ⟨j - 1, by omega⟩
           have bad : (y.p = s.data.toList.length ∨ (atS s.data.toList y).toNat < 32 ∨ 126 < (atS s.data.toList y).toNat) → bodyS s.data.toList x.p j (failS y y.p 3) = strS s.data.toList x ∧ ((failS y y.p 3).e = 0 → s.size - (failS y y.p 3).p + 1 ≤ j) ∧ x.p ≤ (failS y y.p 3).p ∧ (failS y y.p 3).p ≤ s.size := fun hb => by
             have hf := mv_fail (S := s.data.toList) hhi y.p (c := 3) (by decide)
             refine ⟨by rw [← body_bad g0 hb]; exact hR, fun h => ?_, Nat.le_trans hlo hf.lo, hf.hi⟩
             unfold failS at h
             rw [if_pos g0] at h
             exact absurd h (show ¬ (3 : Int) = 0 by decide)
           have go : ∀ z : JS, Mv s.data.toList (goS y) z → bodyS s.data.toList x.p j z = strS s.data.toList x → bodyS s.data.toList x.p j z = strS s.data.toList x ∧ (z.e = 0 → s.size - z.p + 1 ≤ j) ∧ x.p ≤ z.p ∧ z.p ≤ s.size := fun z hz e => by
             have h1 : y.p + 1 ≤ z.p := hz.lo
             have h2 : z.p ≤ s.size := hz.hi
             exact ⟨e, fun _ => by omega, by omega, h2⟩
           first
             | (have g1 := ne_of_p2 (p := y.p) (q := s.size) (by assumption)
                obtain ⟨b1, b2, b3, b4⟩ := bad (.inl g1)
                exact k_loop_next (Nat.lt_succ_self j) ⟨_, b1, b2, b3, b4, Sub.live ⟨rfl, rfl, trivial⟩ ⟨rfl, trivial⟩⟩)
             | (have g1 := ne_of_p (p := y.p) (q := s.size) (by assumption)
                first
                  | (have g2 : (decide (((atS s.data.toList y).toNat : Int) < 32) == false) = false := by assumption
                     have g2 : ((atS s.data.toList y).toNat : Int) < 32 := by simpa using g2
                     obtain ⟨b1, b2, b3, b4⟩ := bad (.inr (.inl (by omega)))
                     exact k_loop_next (Nat.lt_succ_self j) ⟨_, b1, b2, b3, b4, Sub.live ⟨rfl, rfl, trivial⟩ ⟨rfl, trivial⟩⟩)
                  | (have g2 : (decide (((atS s.data.toList y).toNat : Int) < 32) == false) = true := by assumption
                     have g2 : ¬ ((atS s.data.toList y).toNat : Int) < 32 := by simpa using g2
                     first
                       | (have g3 : decide (((atS s.data.toList y).toNat : Int) > 126) = true := by assumption
                          have g3 := of_decide_eq_true g3
                          obtain ⟨b1, b2, b3, b4⟩ := bad (.inr (.inr (by omega)))
                          exact k_loop_next (Nat.lt_succ_self j) ⟨_, b1, b2, b3, b4, Sub.live ⟨rfl, rfl, trivial⟩ ⟨rfl, trivial⟩⟩)
                       | (have g3 : decide (((atS s.data.toList y).toNat : Int) > 126) = false := by assumption
                          have g3 := of_decide_eq_false g3
                          have nb : ¬ (y.p = s.data.toList.length ∨ (atS s.data.toList y).toNat < 32 ∨ 126 < (atS s.data.toList y).toNat) := fun hh => by
                            rcases hh with hh | hh | hh
                            · exact g1 hh
                            · omega
                            · omega
                          first
                            | exact i64_in2 (by omega)
                            | exact ⟨by kernel_rfl, by omega, by omega, by omega⟩
                            | (have g4 : (((atS s.data.toList y).toNat : Int) == 34) = true := by assumption
                               have g4 := u8_eq (n := 34) g4 (by decide)
                               rw [← hR, body_end g0 nb g4] <;> first | rfl | exact ⟨rfl, trivial⟩)
                            | (have g4 : (((atS s.data.toList y).toNat : Int) == 34) = false := by assumption
                               have g4 := u8_ne2 (n := 34) g4 (by decide)
                               have hg : Mv s.data.toList y (goS y) := mv_go (by show y.p < s.size; omega)
                               first
                                 | (have g5 : (((atS s.data.toList y).toNat : Int) == 92) = false := by assumption
                                    have g5 := u8_ne2 (n := 92) g5 (by decide)
                                    obtain ⟨b1, b2, b3, b4⟩ := go (goS y) (Mv.refl hg.hi) (by rw [← body_go g0 nb g4 g5]; exact hR)
                                    exact k_loop_next (Nat.lt_succ_self j) ⟨_, b1, b2, b3, b4, Sub.live ⟨rfl, rfl, trivial⟩ ⟨rfl, trivial⟩⟩)
                                 | (have g5 : (((atS s.data.toList y).toNat : Int) == 92) = true := by assumption
                                    have g5 := u8_eq (n := 92) g5 (by decide)
                                    obtain ⟨b1, b2, b3, b4⟩ := go (escS s.data.toList (goS y)) (mv_esc hg.hi) (by rw [← body_back g0 nb g4 g5]; exact hR)
                                    first
                                      | (have g6 : (((takeS s.data.toList dEsc (goS y)).1.toNat : Int) == 117) = true := by assumption
                                         have g6 : (takeS s.data.toList dEsc (goS y)).1 = 117 := u8_eq (n := 117) g6 (by decide)
                                         have e : escS s.data.toList (goS y) = (takeS s.data.toList dHex (takeS s.data.toList dHex (takeS s.data.toList [48] (takeS s.data.toList [48] (takeS s.data.toList dEsc (goS y)).2).2).2).2).2 := by
                                           unfold escS; dsimp only; rw [if_pos g6]
                                         rw [e] at b1 b2 b3 b4
                                         exact k_loop_next (Nat.lt_succ_self j) ⟨_, b1, b2, b3, b4, Sub.live ⟨rfl, rfl, trivial⟩ ⟨rfl, trivial⟩⟩)
                                      | (have g6 : (((takeS s.data.toList dEsc (goS y)).1.toNat : Int) == 117) = false := by assumption
                                         have g6 : ¬ (takeS s.data.toList dEsc (goS y)).1 = 117 := u8_ne2 (n := 117) g6 (by decide)
                                         have e : escS s.data.toList (goS y) = (takeS s.data.toList dEsc (goS y)).2 := by
                                           unfold escS; dsimp only; rw [if_neg g6]
                                         rw [e] at b1 b2 b3 b4
                                         exact k_loop_next (Nat.lt_succ_self j) ⟨_, b1, b2, b3, b4, Sub.live ⟨rfl, rfl, trivial⟩ ⟨rfl, trivial⟩⟩)))))))
end Go.Proofs.YtjhjleanihgopaaDoor
namespace Go.Proofs.YtjhjleanihgopaaDoor
open Go.RowKit
attribute [local irreducible] wpList Calls Code.wp AW AWo OpOk seqK blockK scopeK loopK endK endKB AC ACB absLex absLexG Yld YldG Sub
set_option maxRecDepth 100000 in
theorem itemsS_e {S : List UInt8} {f : JS → D × JS} {j : Nat} {x : JS} {l : List D} (h : x.e ≠ 0) : itemsS S f j x l = (l, x) := by
  cases j with
  | zero => rfl
  | succ j => unfold itemsS; rw [if_pos h]
set_option maxRecDepth 100000 in
theorem items_end {S : List UInt8} {f : JS → D × JS} {j : Nat} {x : JS} {l : List D} (h : x.e = 0) (h2 : (takeS S [44, 93] (spaceS S (f x).2)).1 = 93) : itemsS S f (j + 1) x l = (l ++ [(f x).1], (takeS S [44, 93] (spaceS S (f x).2)).2) := by
  rw [itemsS, if_neg (fun hh => hh h)]; dsimp only; rw [if_pos h2]
set_option maxRecDepth 100000 in
theorem items_go {S : List UInt8} {f : JS → D × JS} {j : Nat} {x : JS} {l : List D} (h : x.e = 0) (h2 : ¬ (takeS S [44, 93] (spaceS S (f x).2)).1 = 93) : itemsS S f (j + 1) x l = itemsS S f j (takeS S [44, 93] (spaceS S (f x).2)).2 (l ++ [(f x).1]) := by
  rw [itemsS, if_neg (fun hh => hh h)]; dsimp only; rw [if_neg h2]
def nilV : V := .c (.slice none 0 0)
noncomputable def HlP (s : ByteArray) (lv : Nat) (y : JS) (l : List D) : Vst 47 :=
  stS 47 [(0, .bx (pn 0) 0), (1, .c (.int .i64 lv)), (4, .bx 4 0), (5, .bx 5 0)]
    [(pn 0, boxP s y), (4, .box 39 zeroCv), (5, .box 39 [.c (.int .i64 5), .c (.int .i64 0), .c (.string { data := #[] }), .own 39 39 l, nilV]), (39, .tok 39 l.length)]
/-- a list as it is built -/
def listV (S : List UInt8) (f : JS → D × JS) (x : JS) : V :=
  if atS S (spaceS S (goS x)) = 93 then .agg (leafV (vD 5 0 [] [] [])) else .agg [.c (.int .i64 5), .c (.int .i64 0), .c (.string { data := #[] }), .sl 39 (itemsS S f (S.length + 2) (spaceS S (goS x)) []).1, nilV]
set_option maxRecDepth 100000 in
theorem listV_le (S : List UInt8) (f : JS → D × JS) (x : JS) : VLe (listV S f x) (.agg (cellsV Tryd.prog 12 39 (listS S f x).1)) := by
  unfold listV listS
  dsimp only
  split
  · exact leafV_le 5 0 []
  · exact .agg (.cons (.refl _) (.cons (.refl _) (.cons (.refl _) (.cons (.refl _) (.cons (.nil _) .nil)))))
set_option maxHeartbeats 4000000 in
set_option maxRecDepth 100000 in
theorem listP_raw (s : ByteArray) (f : JS → D × JS) (lv : Nat) (x : JS) (hlv : lv ≤ 1000) (hs : s.size ≤ 100000) (hp : x.p < s.size) (hm : x.m ≤ 4096) (hf : FOk s.data.toList f)
    (hc : ∀ y, y.p ≤ s.size → y.m ≤ 4096 → ACB EN5 Tryd.prog 38 [.bx (pn 0) 0, .c (.int .i64 ((lv : Int) + 1))] [boxP s y] (.agg (cellsV Tryd.prog 12 39 (f y).1)) [boxP s (f y).2]) :
    ACB EN5 Tryd.prog 66 [.bx (pn 0) 0, .c (.int .i64 (lv : Int))] [boxP s x] (listV s.data.toList f x) [boxP s (listS s.data.toList f x).2] := by
  have hlen : s.data.toList.length = s.size := rfl
  have g1 := mv_go (S := s.data.toList) hp
  have g2 := g1.trans (mv_space g1.hi)
  have h1 := spaceP_acb s (goS x) (by omega) g1.hi
  have hpk := peekP_acb s (spaceS s.data.toList (goS x)) (by omega)
  have hO := (g2.mc hm).oc
  have hx3 := g2.lo
  have hlt : atS s.data.toList (spaceS s.data.toList (goS x)) = 93 → (spaceS s.data.toList (goS x)).p < s.size := fun h => at_lt (S := s.data.toList) (by decide) h
  unfold listV listS
  dsimp only
  have hin : (goS x).p ≤ (spaceS s.data.toList (goS x)).p := (mv_space g1.hi).lo
  generalize spaceS s.data.toList (goS x) = y0 at h1 hpk hO hlt
  refine acb_enter (fn := Tryd.f66) 47 Tryd.func66 rfl rfl ?_
  intro pas w0 w he hpp
  repeat' (first
    | (apply s_meth (cellsP s) (fun _ _ => rfl) rfl
       · conv => lhs; whnf
       · conv => lhs; whnf
       · rfl
       · conv => lhs; whnf; arg 1; whnf
       · first | exact eta0 _ _ | exact eta1 _ _ | exact eta2 _ _ | exact eta3 _ _ | exact eta6 _ | exact etaQ0 _ _ | exact etaQ1 _ _ | exact etaQ2 _ _ | exact etaQ3 _ _ | exact etaQ6 _
       · first | exact h1 | exact hpk
       · exact fun _ => rfl
       · exact fun _ => rfl)
    | refine aw_seq ?_
    | refine aw_region ?_
    | refine awo_nil ?_
    | refine k_seq ?_
    | refine k_block ?_
    | refine k_scope ?_
    | refine aw_block ?_
    | refine aw_skip ?_
    | refine aw_label ?_
    | refine aw_scope ?_
    | (apply s_val rfl
       · conv => lhs; whnf
       · conv => lhs; whnf; arg 2; whnf)
    | (apply s_call rfl
       · conv => lhs; whnf
       · conv => lhs; whnf
       · first | fail)
    | (apply s_alloc rfl rfl rfl rfl
       · conv => lhs; whnf; arg 1; whnf
       · rfl)
    | (apply s_store rfl rfl rfl
       · conv => lhs; whnf
       · conv => lhs; whnf; arg 1; whnf
       · conv => lhs; whnf; arg 1; whnf
       · exact ⟨by kernel_rfl, by kernel_rfl⟩
       · rfl)
    | (apply s_app rfl rfl
       · conv => lhs; whnf
       · first | (conv => lhs; whnf; arg 1; whnf)
       · first | exact fun _ => rfl | (intro _; kernel_rfl)
       · conv => lhs; whnf
       · conv => lhs; whnf; arg 1; whnf
       · conv => lhs; whnf)
    | (apply s_app_nil rfl rfl rfl rfl
       · first | (conv => lhs; whnf; arg 1; whnf)
       · first | exact fun _ => rfl | (intro _; kernel_rfl)
       · conv => lhs; whnf
       · conv => lhs; whnf)
    | (apply s_lit0 rfl rfl
       · conv => lhs; whnf
       · first | (conv => lhs; whnf; arg 1; whnf))
    | (apply s_lit1 rfl rfl
       · conv => lhs; whnf
       · first | (conv => lhs; whnf; arg 1; whnf)
       · conv => lhs; whnf; arg 1; whnf
       · rfl
       · rfl)
    | (apply s_onlit rfl rfl
       · conv => lhs; whnf
       · first | (conv => lhs; whnf; arg 1; whnf)
       · first | exact fun _ => rfl | (intro _; kernel_rfl)
       · conv => lhs; whnf
       · conv => lhs; whnf)
    | (apply aw_draw (by kernel_rfl) (by kernel_rfl))
    | apply y_nil
    | (apply y_val rfl
       · conv => lhs; whnf
       · conv => lhs; whnf; arg 2; whnf)
    | (apply y_call rfl
       · conv => lhs; whnf
       · conv => lhs; whnf
       · first | fail)
    | (apply y_store rfl rfl rfl
       · conv => lhs; whnf
       · rfl
       · rfl
       · conv => lhs; whnf; arg 1; whnf
       · conv => lhs; whnf; arg 1; whnf
       · exact ⟨by kernel_rfl, by kernel_rfl⟩
       · rfl)
    | (apply y_app rfl rfl
       · conv => lhs; whnf
       · first | (conv => lhs; whnf; arg 1; whnf)
       · first | exact fun _ => rfl | (intro _; kernel_rfl)
       · conv => lhs; whnf
       · rfl
       · rfl
       · conv => lhs; whnf; arg 1; whnf
       · conv => lhs; whnf)
    | (apply y_lit0 rfl rfl
       · conv => lhs; whnf
       · first | (conv => lhs; whnf; arg 1; whnf))
    | (apply y_lit1 rfl rfl
       · conv => lhs; whnf
       · first | (conv => lhs; whnf; arg 1; whnf)
       · conv => lhs; whnf; arg 1; whnf
       · rfl
       · rfl)
    | (apply y_onlit rfl rfl
       · conv => lhs; whnf
       · first | (conv => lhs; whnf; arg 1; whnf)
       · first | exact fun _ => rfl | (intro _; kernel_rfl)
       · conv => lhs; whnf
       · conv => lhs; whnf)
    | exact apartB_none
    | exact apartB_nil
    | exact all_nil
    | (show List.all _ _ = true; rfl)
    | (show apartB _ _ = true; rfl)
    | exact ([] : List Nat)
    | exact (1000000 : Nat)
    | (apply aw_cond_t
       · conv => lhs; whnf; arg 1; arg 1; whnf)
    | (apply aw_cond_f
       · conv => lhs; whnf; arg 1; arg 1; whnf)
    | (refine aw_cond (by conv => lhs; whnf) ?_ ?_ <;> intro hb)
    | refine aw_ret ?_
    | refine aw_exit ?_
    | refine k_seq_exit ?_
    | refine k_seq_ret ?_
    | refine k_block_ret ?_
    | refine k_block_hit rfl ?_
    | refine k_block_miss rfl ?_
    | refine k_scope_exit ?_
    | refine k_scope_ret ?_
    | refine k_loop_exit ?_
    | refine k_loop_ret ?_
    | refine k_endB ⟨?_, ?_⟩
    | refine k_endB_ret ⟨?_, ?_⟩
    | exact (rfl : _ = V.tup [])
    | (refine ⟨_, by conv => lhs; whnf; arg 2; whnf, ?_⟩; conv => rhs; whnf)
    | exact trivial
    | intro hg)
  · have h : atS s.data.toList y0 = 93 := u8_eq (n := 93) (by assumption) (by decide)
    rw [if_pos h]; rfl
  · have h : atS s.data.toList y0 = 93 := u8_eq (n := 93) (by assumption) (by decide)
    rw [if_pos h]; exact ⟨rfl, trivial⟩
  · have h : atS s.data.toList y0 = 93 := u8_eq (n := 93) (by assumption) (by decide)
    have := hlt h
    exact i64_in2 (by omega)
  · have hn : ¬ atS s.data.toList y0 = 93 := u8_ne2 (n := 93) (by assumption) (by decide)
    rw [if_neg hn, if_neg hn]
    have hR0 : itemsS s.data.toList f (s.data.toList.length + 2) y0 [] = itemsS s.data.toList f (s.data.toList.length + 2) y0 [] := rfl
    generalize hR : itemsS s.data.toList f (s.data.toList.length + 2) y0 [] = R at hR0 ⊢
    clear hR0
    refine aw_sub (Sub.ownF (m := 5) (q := 39) (i := 3) (e := 39) rfl (by decide) rfl rfl rfl) ?_
    refine aw_loop (fun j st => ∃ y l, itemsS s.data.toList f j y l = R ∧ Oc s.data.toList y ∧ (y.e = 0 → s.size - y.p + 1 ≤ j) ∧ l.length + j ≤ s.size + 2 ∧ Sub ⟨Tryd.prog, pas, w0, w, EN5, he, hpp⟩ st (HlP s lv y l)) (s.data.toList.length + 2) ⟨y0, [], hR, hO, fun _ => by omega, by simp [hlen], ?_⟩ ?_
    · exact Sub.live ⟨rfl, rfl, rfl, rfl, trivial⟩ ⟨rfl, rfl, rfl, rfl, trivial⟩
    · rintro j st ⟨y, l, hR, hO, hj, hl, hs2⟩
      refine aw_sub hs2 ?_
      clear hs2
      have hfy := fun (h : (y.e == 0) = true) => hc y hO.hi (hO.e (by simpa using h))
      have hm1 := fun (h : (y.e == 0) = true) => hf y hO.hi (hO.e (by simpa using h))
      have hm2 := fun h => (hm1 h).mv (mv_space (hm1 h).hi)
      have hm3 := fun h => (hm2 h).mv (mv_take (hm2 h).hi [44, 93])
      have hsp := fun h => spaceP_acb s (f y).2 (by omega) (hm1 h).hi
      have htk := fun h => takeP_q s (spaceS s.data.toList (f y).2) ⟨#[44, 93]⟩ [44, 93] rfl (by omega) (by decide) (hm2 h).hi
      repeat' (first
    | (apply s_meth (cellsP s) (fun _ _ => rfl) rfl
       · conv => lhs; whnf
       · conv => lhs; whnf
       · rfl
       · conv => lhs; whnf; arg 1; whnf
       · first | exact eta0 _ _ | exact eta1 _ _ | exact eta2 _ _ | exact eta3 _ _ | exact eta6 _ | exact etaQ0 _ _ | exact etaQ1 _ _ | exact etaQ2 _ _ | exact etaQ3 _ _ | exact etaQ6 _
       · first | exact hfy (by assumption) | exact hsp (by assumption) | exact htk (by assumption)
       · exact fun _ => rfl
       · exact fun _ => rfl)
    | (apply g_meth (cellsP s) (fun _ _ => rfl) rfl
       · conv => lhs; whnf
       · conv => lhs; whnf
       · rfl
       · conv => lhs; whnf; arg 1; whnf
       · first | exact eta0 _ _ | exact eta1 _ _ | exact eta2 _ _ | exact eta3 _ _ | exact eta6 _ | exact etaQ0 _ _ | exact etaQ1 _ _ | exact etaQ2 _ _ | exact etaQ3 _ _ | exact etaQ6 _
       · first | exact hfy (by assumption) | exact hsp (by assumption) | exact htk (by assumption)
       · exact fun _ => rfl
       · exact fun _ => rfl
       · rfl)
    | (apply aw_drawGn 10 ([(1, [5])]) ([(5, [1000000]), (7, [39]), (9, [5])]) rfl (by kernel_rfl) (by kernel_rfl) (by kernel_rfl))
    | apply g_nil
    | (apply g_val rfl
       · conv => lhs; whnf
       · conv => lhs; whnf; arg 2; whnf)
    | (apply g_call rfl
       · conv => lhs; whnf
       · conv => lhs; whnf
       · first | fail)
    | (apply g_app rfl rfl
       · conv => lhs; whnf
       · first | (conv => lhs; whnf; arg 1; whnf)
       · first | exact fun _ => rfl | (intro _; kernel_rfl)
       · conv => lhs; whnf
       · rfl
       · conv => lhs; whnf; arg 1; whnf
       · conv => lhs; whnf)
    | (apply g_store rfl rfl rfl
       · conv => lhs; whnf
       · rfl
       · conv => lhs; whnf; arg 1; whnf
       · conv => lhs; whnf; arg 1; whnf
       · exact ⟨by kernel_rfl, by kernel_rfl⟩
       · rfl)
    | (show inO _ _ = true; rfl)
    | (apply g_lit [(f y).1] rfl rfl
       · conv => lhs; whnf
       · first | (conv => lhs; whnf; arg 1; whnf)
       · rfl
       · rfl
       · repeat' (first | exact trivial | apply And.intro | rfl))
    | refine aw_seq ?_
    | refine aw_region ?_
    | refine awo_nil ?_
    | refine k_seq ?_
    | refine k_block ?_
    | refine k_scope ?_
    | refine aw_block ?_
    | refine aw_skip ?_
    | refine aw_label ?_
    | refine aw_scope ?_
    | (apply s_val rfl
       · conv => lhs; whnf
       · conv => lhs; whnf; arg 2; whnf)
    | (apply s_call rfl
       · conv => lhs; whnf
       · conv => lhs; whnf
       · first | fail)
    | (apply s_alloc rfl rfl rfl rfl
       · conv => lhs; whnf; arg 1; whnf
       · rfl)
    | (apply s_store rfl rfl rfl
       · conv => lhs; whnf
       · conv => lhs; whnf; arg 1; whnf
       · conv => lhs; whnf; arg 1; whnf
       · exact ⟨by kernel_rfl, by kernel_rfl⟩
       · rfl)
    | (apply s_app rfl rfl
       · conv => lhs; whnf
       · first | (conv => lhs; whnf; arg 1; whnf)
       · first | exact fun _ => rfl | (intro _; kernel_rfl)
       · conv => lhs; whnf
       · conv => lhs; whnf; arg 1; whnf
       · conv => lhs; whnf)
    | (apply s_app_nil rfl rfl rfl rfl
       · first | (conv => lhs; whnf; arg 1; whnf)
       · first | exact fun _ => rfl | (intro _; kernel_rfl)
       · conv => lhs; whnf
       · conv => lhs; whnf)
    | (apply s_lit0 rfl rfl
       · conv => lhs; whnf
       · first | (conv => lhs; whnf; arg 1; whnf))
    | (apply s_lit1 rfl rfl
       · conv => lhs; whnf
       · first | (conv => lhs; whnf; arg 1; whnf)
       · conv => lhs; whnf; arg 1; whnf
       · rfl
       · rfl)
    | (apply s_onlit rfl rfl
       · conv => lhs; whnf
       · first | (conv => lhs; whnf; arg 1; whnf)
       · first | exact fun _ => rfl | (intro _; kernel_rfl)
       · conv => lhs; whnf
       · conv => lhs; whnf)
    | (apply aw_draw (by kernel_rfl) (by kernel_rfl))
    | apply y_nil
    | (apply y_val rfl
       · conv => lhs; whnf
       · conv => lhs; whnf; arg 2; whnf)
    | (apply y_call rfl
       · conv => lhs; whnf
       · conv => lhs; whnf
       · first | fail)
    | (apply y_store rfl rfl rfl
       · conv => lhs; whnf
       · rfl
       · rfl
       · conv => lhs; whnf; arg 1; whnf
       · conv => lhs; whnf; arg 1; whnf
       · exact ⟨by kernel_rfl, by kernel_rfl⟩
       · rfl)
    | (apply y_app rfl rfl
       · conv => lhs; whnf
       · first | (conv => lhs; whnf; arg 1; whnf)
       · first | exact fun _ => rfl | (intro _; kernel_rfl)
       · conv => lhs; whnf
       · rfl
       · rfl
       · conv => lhs; whnf; arg 1; whnf
       · conv => lhs; whnf)
    | (apply y_lit0 rfl rfl
       · conv => lhs; whnf
       · first | (conv => lhs; whnf; arg 1; whnf))
    | (apply y_lit1 rfl rfl
       · conv => lhs; whnf
       · first | (conv => lhs; whnf; arg 1; whnf)
       · conv => lhs; whnf; arg 1; whnf
       · rfl
       · rfl)
    | (apply y_onlit rfl rfl
       · conv => lhs; whnf
       · first | (conv => lhs; whnf; arg 1; whnf)
       · first | exact fun _ => rfl | (intro _; kernel_rfl)
       · conv => lhs; whnf
       · conv => lhs; whnf)
    | exact apartB_none
    | exact apartB_nil
    | exact all_nil
    | (show List.all _ _ = true; rfl)
    | (show apartB _ _ = true; rfl)
    | exact ([] : List Nat)
    | exact (1000000 : Nat)
    | (apply aw_cond_t
       · conv => lhs; whnf; arg 1; arg 1; whnf)
    | (apply aw_cond_f
       · conv => lhs; whnf; arg 1; arg 1; whnf)
    | (refine aw_cond (by conv => lhs; whnf) ?_ ?_ <;> intro hb)
    | refine aw_ret ?_
    | refine aw_exit ?_
    | refine k_seq_exit ?_
    | refine k_seq_ret ?_
    | refine k_block_ret ?_
    | refine k_block_hit rfl ?_
    | refine k_block_miss rfl ?_
    | refine k_scope_exit ?_
    | refine k_scope_ret ?_
    | refine k_loop_exit ?_
    | refine k_loop_ret ?_
    | refine k_endB ⟨?_, ?_⟩
    | refine k_endB_ret ⟨?_, ?_⟩
    | exact (rfl : _ = V.tup [])
    | (refine ⟨_, by conv => lhs; whnf; arg 2; whnf, ?_⟩; conv => rhs; whnf)
    | exact trivial
    | intro hg)
      all_goals
        first
          | exact i64_in2 (by omega)
          | (have g0 : (y.e == 0) = false := by assumption
             have g0 : y.e ≠ 0 := by simpa using g0
             rw [← hR, itemsS_e g0] <;> first | rfl | exact ⟨rfl, trivial⟩)
          | (have g0 : (y.e == 0) = true := by assumption
             have hm3 := hm3 g0
             have hlo3 := hm3.lo
             have hhi3 : (takeS s.data.toList [44, 93] (spaceS s.data.toList (f y).2)).2.p ≤ s.size := hm3.hi
             have hsp3 := (hm2 g0).lo
             have g0 : y.e = 0 := by simpa using g0
             have hj1 := hj g0
             obtain ⟨j, rfl⟩ : ∃ i, j = i + 1 := ⟨j - 1, by omega⟩
             first
               | (have g1 : (((takeS s.data.toList [44, 93] (spaceS s.data.toList (f y).2)).1.toNat : Int) == 93) = true := by assumption
                  have g1 := u8_eq (n := 93) g1 (by decide)
                  rw [← hR, items_end g0 g1] <;> first | rfl | exact ⟨rfl, trivial⟩)
               | (have g1 : (((takeS s.data.toList [44, 93] (spaceS s.data.toList (f y).2)).1.toNat : Int) == 93) = false := by assumption
                  have g1 := u8_ne2 (n := 93) g1 (by decide)
                  refine k_loop_next (Nat.lt_succ_self j) ⟨_, l ++ [(f y).1], by rw [← items_go g0 g1]; exact hR, hm3.oc, fun h => ?_, by rw [List.length_append]; simp only [List.length_cons, List.length_nil]; omega, Sub.live ⟨rfl, rfl, rfl, rfl, trivial⟩ ⟨rfl, rfl, rfl, ?_, trivial⟩⟩
                  · have := take_go (S := s.data.toList) [44, 93] h
                    omega
                  · rw [List.length_append]; rfl)
               | (refine ⟨by simp, by simp only [List.length_cons, List.length_nil, maxLen]; omega, ?_⟩
                  show (l.length + 1) * 80 ≤ 140737488355328
                  omega))
  · exact i64_in2 (by omega)
set_option maxRecDepth 100000 in
theorem listP_acb (s : ByteArray) (f : JS → D × JS) (lv : Nat) (x : JS) (hlv : lv ≤ 1000) (hs : s.size ≤ 100000) (hp : x.p < s.size) (hm : x.m ≤ 4096) (hf : FOk s.data.toList f)
    (hc : ∀ y, y.p ≤ s.size → y.m ≤ 4096 → ACB EN5 Tryd.prog 38 [.bx (pn 0) 0, .c (.int .i64 ((lv : Int) + 1))] [boxP s y] (.agg (cellsV Tryd.prog 12 39 (f y).1)) [boxP s (f y).2]) :
    ACB EN5 Tryd.prog 66 [.bx (pn 0) 0, .c (.int .i64 (lv : Int))] [boxP s x] (.agg (cellsV Tryd.prog 12 39 (listS s.data.toList f x).1)) [boxP s (listS s.data.toList f x).2] :=
  (listP_raw s f lv x hlv hs hp hm hf hc).res (listV_le _ _ _)
end Go.Proofs.YtjhjleanihgopaaDoor
namespace Go.Proofs.YtjhjleanihgopaaDoor
open Go.RowKit
attribute [local irreducible] wpList Calls Code.wp AW AWo OpOk seqK blockK scopeK loopK endK endKB AC ACB absLex absLexG Yld YldG Sub
def eqS (k : ByteArray) (d : D) : Bool := k.toList == d.s.toList
def idxL (l : List D) (k : ByteArray) : Int := match l.findIdx? (eqS k) with | some i => (i : Int) | none => -1
def hasL (l : List D) (k : ByteArray) : Bool := l.any (eqS k)
set_option maxRecDepth 100000 in
theorem idxL_at {l : List D} {k : ByteArray} {i : Nat} (hi : i < l.length) (h : ∀ m, m < i → eqS k (gD l m) = false) (he : eqS k (gD l i) = true) : idxL l k = i := by
  unfold idxL
  have : l.findIdx? (eqS k) = some i := by
    rw [List.findIdx?_eq_some_iff_getElem]
    refine ⟨hi, by rw [← gD_get hi]; exact he, fun j hj => ?_⟩
    have hj2 : j < l.length := by omega
    have := h j hj
    rw [gD_get hj2] at this
    simp [this]
  rw [this]
set_option maxRecDepth 100000 in
theorem idxL_no {l : List D} {k : ByteArray} (h : ∀ m, m < l.length → eqS k (gD l m) = false) : idxL l k = -1 := by
  unfold idxL
  have : l.findIdx? (eqS k) = none := by
    rw [List.findIdx?_eq_none_iff]
    intro x hx
    obtain ⟨i, hi, rfl⟩ := List.getElem_of_mem hx
    rw [← gD_get hi]; exact h i hi
  rw [this]
set_option maxRecDepth 100000 in
theorem idxL_has (l : List D) (k : ByteArray) : decide (idxL l k ≥ 0) = hasL l k := by
  unfold idxL hasL
  cases hx : l.findIdx? (eqS k) with
  | none =>
    rw [List.findIdx?_eq_none_iff] at hx
    have : l.any (eqS k) = false := by rw [List.any_eq_false]; exact fun x hm => by rw [hx x hm]; decide
    rw [this]; rfl
  | some i =>
    rw [List.findIdx?_eq_some_iff_getElem] at hx
    obtain ⟨h1, h2, -⟩ := hx
    have : l.any (eqS k) = true := List.any_eq_true.2 ⟨_, List.getElem_mem h1, h2⟩
    rw [this]
    exact decide_eq_true (Int.natCast_nonneg i)
noncomputable def HiS (l : List D) (k : ByteArray) (i : Nat) : Vst 19 :=
  stS 19 [(0, .sl 9 l), (1, .c (.string k)), (7, .c (.int .i64 l.length)), (8, .c (.int .i64 i))] []
set_option maxRecDepth 100000 in
theorem indexS_ac (l : List D) (k : ByteArray) (hn : l.length ≤ 1000000000) : AC EN5 Tryd.prog 119 [.sl 9 l, .c (.string k)] (.c (.int .i64 (idxL l k))) := by
  refine ac_enter 19 Tryd.func119 rfl rfl rfl rfl ?_
  intro s w he
  repeat' (first
    | refine aw_seq ?_
    | refine aw_region ?_
    | refine awo_nil ?_
    | refine k_seq ?_
    | refine k_block ?_
    | refine k_scope ?_
    | refine aw_block ?_
    | refine aw_skip ?_
    | refine aw_label ?_
    | refine aw_scope ?_
    | (apply s_val rfl
       · conv => lhs; whnf
       · conv => lhs; whnf; arg 2; whnf)
    | (apply aw_cond_t
       · conv => lhs; whnf; arg 1; arg 1; whnf)
    | (apply aw_cond_f
       · conv => lhs; whnf; arg 1; arg 1; whnf)
    | (refine aw_cond (by conv => lhs; whnf) ?_ ?_ <;> intro hb)
    | refine aw_ret ?_
    | refine aw_exit ?_
    | refine k_seq_exit ?_
    | refine k_seq_ret ?_
    | refine k_block_ret ?_
    | refine k_block_hit rfl ?_
    | refine k_block_miss rfl ?_
    | refine k_scope_exit ?_
    | refine k_scope_ret ?_
    | refine k_loop_exit ?_
    | refine k_loop_ret ?_
    | refine k_end ?_
    | refine k_end_ret ?_
    | (refine ⟨_, by conv => lhs; whnf; arg 2; whnf, ?_⟩; conv => rhs; whnf)
    | exact trivial
    | intro hg)
  refine aw_loop (fun j st => ∃ i, i + j = l.length ∧ (∀ m, m < i → eqS k (gD l m) = false) ∧ Sub (cx EN5 Tryd.prog s w he) st (HiS l k i)) l.length ⟨0, by omega, fun m hm => absurd hm (Nat.not_lt_zero m), ?_⟩ ?_
  · exact Sub.live ⟨rfl, rfl, rfl, rfl, trivial⟩ trivial
  · rintro j st ⟨i, hij, hno, hs2⟩
    refine aw_sub hs2 ?_
    clear hs2
    repeat' (first
    | refine aw_seq ?_
    | refine aw_region ?_
    | refine awo_nil ?_
    | refine k_seq ?_
    | refine k_block ?_
    | refine k_scope ?_
    | refine aw_block ?_
    | refine aw_skip ?_
    | refine aw_label ?_
    | refine aw_scope ?_
    | (apply s_val rfl
       · conv => lhs; whnf
       · conv => lhs; whnf; arg 2; whnf)
    | (apply aw_cond_t
       · conv => lhs; whnf; arg 1; arg 1; whnf)
    | (apply aw_cond_f
       · conv => lhs; whnf; arg 1; arg 1; whnf)
    | (refine aw_cond (by conv => lhs; whnf) ?_ ?_ <;> intro hb)
    | refine aw_ret ?_
    | refine aw_exit ?_
    | refine k_seq_exit ?_
    | refine k_seq_ret ?_
    | refine k_block_ret ?_
    | refine k_block_hit rfl ?_
    | refine k_block_miss rfl ?_
    | refine k_scope_exit ?_
    | refine k_scope_ret ?_
    | refine k_loop_exit ?_
    | refine k_loop_ret ?_
    | refine k_end ?_
    | refine k_end_ret ?_
    | (refine ⟨_, by conv => lhs; whnf; arg 2; whnf, ?_⟩; conv => rhs; whnf)
    | exact trivial
    | intro hg)
    all_goals
      first
        | exact i64_in2 (by omega)
        | (have g0 : decide ((i : Int) < (l.length : Int)) = true := by assumption
           have g0 : i < l.length := by simpa using g0
           first
             | exact (⟨by omega, by omega⟩ : 0 ≤ (i : Int) ∧ (i : Int) < (l.length : Int))
             | (have g1 : eqS k (gD l i) = true := by assumption
                rw [idxL_at g0 hno g1])
             | (have g1 : eqS k (gD l i) = false := by assumption
                refine k_loop_next (j' := j - 1) (by omega) ⟨i + 1, by omega, fun m hm => ?_, Sub.live ⟨rfl, rfl, rfl, rfl, trivial⟩ trivial⟩
                by_cases e : m = i
                · subst e; exact g1
                · exact hno m (by omega)))
        | (have g0 : decide ((i : Int) < (l.length : Int)) = false := by assumption
           have g0 : ¬ (i : Int) < (l.length : Int) := of_decide_eq_false g0
           rw [idxL_no fun m hm => hno m (by omega)])
set_option maxRecDepth 100000 in
theorem containsS_ac (l : List D) (k : ByteArray) (hn : l.length ≤ 1000000000) : AC EN5 Tryd.prog 94 [.sl 9 l, .c (.string k)] (.c (.bool (hasL l k))) := by
  have h1 := indexS_ac l k hn
  rw [← idxL_has]
  refine ac_enter 9 Tryd.func94 rfl rfl rfl rfl ?_
  intro s w he
  repeat' (first
    | refine aw_seq ?_
    | refine aw_region ?_
    | refine awo_nil ?_
    | refine k_seq ?_
    | refine k_block ?_
    | refine k_scope ?_
    | refine aw_block ?_
    | refine aw_skip ?_
    | refine aw_label ?_
    | refine aw_scope ?_
    | (apply s_val rfl
       · conv => lhs; whnf
       · conv => lhs; whnf; arg 2; whnf)
    | (apply s_call rfl
       · conv => lhs; whnf
       · conv => lhs; whnf
       · first | exact h1)
    | (apply aw_cond_t
       · conv => lhs; whnf; arg 1; arg 1; whnf)
    | (apply aw_cond_f
       · conv => lhs; whnf; arg 1; arg 1; whnf)
    | (refine aw_cond (by conv => lhs; whnf) ?_ ?_ <;> intro hb)
    | refine aw_ret ?_
    | refine aw_exit ?_
    | refine k_seq_exit ?_
    | refine k_seq_ret ?_
    | refine k_block_ret ?_
    | refine k_block_hit rfl ?_
    | refine k_block_miss rfl ?_
    | refine k_scope_exit ?_
    | refine k_scope_ret ?_
    | refine k_loop_exit ?_
    | refine k_loop_ret ?_
    | refine k_end ?_
    | refine k_end_ret ?_
    | (refine ⟨_, by conv => lhs; whnf; arg 2; whnf, ?_⟩; conv => rhs; whnf)
    | exact trivial
    | intro hg)
  all_goals rfl
set_option maxRecDepth 100000 in
theorem hasL_keys (ks : List (List UInt8)) (u : List UInt8) : hasL (keysD ks) (bs u) = true ↔ u ∈ ks := by
  unfold hasL keysD
  rw [List.any_map, List.any_eq_true]
  constructor
  · rintro ⟨x, hx, h⟩
    have h : ((bs u).toList == (bs x).toList) = true := h
    rw [Lib.toList_data, Lib.toList_data] at h
    have : u = x := by simpa [bs] using h
    rw [this]; exact hx
  · intro h
    exact ⟨u, h, by show ((bs u).toList == (bs u).toList) = true; simp⟩
end Go.Proofs.YtjhjleanihgopaaDoor
