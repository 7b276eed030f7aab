/- Parts of a proof, merged by a program (shake.py). -/
import Derived.Maps.OwnOps
import Derived.Maps.Views
import Derived.Test.YthjiclhfhjdjpaaGreatDoorQ34
set_option linter.unusedVariables false
set_option linter.unusedSimpArgs false
namespace Go.Proofs.YthjiclhfhjdjpaaGreatDoor
open Go.RowKit Go.WideMaps Go.Maps
attribute [local irreducible] wpList Calls Code.wp
def Rs (w : World) (e : TypeId) (A : Option Addr) (l : List D) : Prop := ∃ k, Sl Tryz.prog w (fun b => b < w.heap.size) k e A l
theorem klawS : Keyed Tryz.prog 9 := string_keyed Tryz.underlying9
theorem zeroB (w : World) : (zeroValue 4).run Tryz.prog w = .ok (.bool false) w := by kernel_rfl
theorem plainElem_bool_inv {H : Type} {P : Program} {e : TypeId} (he : P.underlying e = some .bool) {v : Value} {z : DataW H × List MemPlace} (h : plainElem P e v = some z) : ∃ b, v = .bool b ∧ z = (.lit (.bool b), []) := by
  unfold plainElem at h
  rw [he] at h
  cases v <;> simp at h
  exact ⟨_, rfl, h.symm⟩
/-- a map that holds the strings of a list -/
def SetIs (M : DataW Unit) (l : List (List UInt8)) : Prop := IsMap M ∧ ∀ u : List UInt8, M.atKey (.string u) (.lit (.bool false)) = .lit (.bool (decide (u ∈ l)))
theorem setIs_nil : SetIs (.map []) [] := ⟨isMap_empty, fun u => by
  rw [decide_eq_false (by simp)]; rfl⟩
theorem setIs_put {M : DataW Unit} {l : List (List UInt8)} (h : SetIs M l) (u : List UInt8) : SetIs (M.put (.string u) (.lit (.bool true))) (l ++ [u]) :=
  ⟨h.1.put _ _, fun v => by
    by_cases e : v = u
    · subst e
      rw [atKey_put_same h.1 (show WideAt.IsKeyLit (.string v) from trivial), decide_eq_true (by simp)]
    · rw [atKey_put_other (fun hh => e (by injection hh)), h.2 v]
      congr 2
      simp [e]⟩
theorem wpList_lookup_own_bool {P : Program} (w : World) {ops : Array Oper} {rest : List Oper} {o : Oper} {a : Act} {Q : Exit → Act → World → Prop}
    (hg : o.guard = none) (m x : Operand) (t : TypeId) (hop : o.op = Op.lookup t m x false)
    (k e : TypeId) (K : Keyed P k) (ht : P.underlying t = some (.map k e)) (he : P.underlying e = some .bool) (hz : (zeroValue e).run P w = .ok (.bool false) w) (b n : Nat) (M : DataW Unit) (l : List (List UInt8)) (hD : SetIs M l)
    (hm : a.eval m = .map (some b)) (hown : w.ownsMap P k (plainElem P e) b n M) (u : ByteArray) (hx : a.eval x = .string u) (hkey : keyOf P k (.string u) = some (.string u.data.toList))
    (hK : wpList P ops Q rest (a.put o.dst (.bool (decide (u.data.toList ∈ l)))) w) :
    wpList P ops Q (o :: rest) a w := by
  refine wpList_plain hg fun K' hK' => ?_
  obtain ⟨v, ps, hrun, hv⟩ := hown.lookup K ht hz (plainElem_bool he false) hkey
  obtain ⟨c, rfl, hc⟩ := plainElem_bool_inv he hv
  simp only [Prod.mk.injEq] at hc
  have hat := hD.2 u.data.toList
  rw [hc.1] at hat
  have hcc : c = decide (u.data.toList ∈ l) := by injection hat with h1; injection h1
  subst hcc
  unfold Oper.wp
  simp [execOp, hop, hm, hx, hrun, Result.andThen]
  exact hK' _ _ (by simpa using hK)
def su (d : D) : List UInt8 := d.s.data.toList
/-- whether a string occurs twice -/
def twiceB : List (List UInt8) → List D → Bool
  | _, [] => false
  | seen, x :: r => decide (su x ∈ seen) || twiceB (seen ++ [su x]) r
theorem str_at {w : World} {A : Option Addr} {l : List D} (h : Rs w 9 A l) (hp : 0 < l.length) : ∃ b off, A = some ⟨b, off, none⟩ ∧ b < w.heap.size ∧ ∀ i, i < l.length → w.cell? ⟨b, off + i, none⟩ = some (.string (gD l i).s) ∧ (gD l i).s.size ≤ maxLen := by
  obtain ⟨k, h⟩ := h
  obtain ⟨b, off, hA, hb, hi⟩ := h hp (by rw [show Tryz.prog.cellsOf 9 = 1 by kernel_rfl]; omega)
  refine ⟨b, off, hA, hb, fun i hil => ?_⟩
  obtain ⟨ys, y1, y2, y3⟩ := hi i hil
  rw [show Tryz.prog.cellsOf 9 = 1 by kernel_rfl] at y2
  obtain ⟨rfl, hs⟩ := y3.str Tryz.underlying9
  have := y2 0 _ rfl
  rw [Nat.mul_one, Nat.add_zero] at this
  exact ⟨this, hs⟩
theorem seen_at (l : List D) (m : Nat) (h : m < l.length) : (l.map su).take (m + 1) = (l.map su).take m ++ [su (gD l m)] := by
  rw [List.take_succ_eq_append_getElem (by simpa using h), List.getElem_map, gD_get h]
theorem twice_go {l : List D} {m : Nat} (h : m < l.length) : twiceB ((l.map su).take m) (l.drop m) = (decide (su (gD l m) ∈ (l.map su).take m) || twiceB ((l.map su).take (m + 1)) (l.drop (m + 1))) := by
  have e : l.drop m = gD l m :: l.drop (m + 1) := by rw [List.drop_eq_getElem_cons h, gD_get h]
  rw [e, twiceB, seen_at l m h]
set_option maxRecDepth 100000 in
set_option maxHeartbeats 4000000 in
theorem twiceP (A : Option Addr) (l : List D) (c : Nat) (w0 w : World) (h0 : Below w0.heap.size w0 w) (h : Rs w0 9 A l) (hl : l.length ≤ 1000000000) :
    Calls Tryz.prog 338 #[.slice A l.length c] w fun e w' => e = .returned (.bool (twiceB [] l)) ∧ Below w.heap.size w w' := by
  have H := Lib.hid h; have H0 := Lib.hid h0
  clear h h0
  have hmm := @run_makeMap Tryz.prog
  go_enter Tryz.func338, Tryz.ntmps338
  go_wp2
  go_loopg [9] l.length (fun j i wr => ∃ m : Nat, m + j = l.length ∧ i = .int .i64 m ∧ (∃ M, SetIs M ((l.map su).take m) ∧ wr.ownsMap Tryz.prog 9 (plainElem Tryz.prog 4) w.heap.size m M) ∧ twiceB ((l.map su).take m) (l.drop m) = twiceB [] l ∧ Below w.heap.size w wr)
  case atStart => exact ⟨0, by omega, rfl, ⟨_, setIs_nil, World.ownsMap_made _ _ _ _⟩, rfl, (Below.refl _ _).alloc (Nat.le_refl _) _⟩
  case round =>
    obtain ⟨m, hmj, rfl, ⟨M, hset, hown⟩, htw, hb⟩ := hrel
    have Hb := Lib.hid hb
    have Hmj := Lib.hid hmj; have hmn : m ≤ l.length := by omega
    have Htw := Lib.hid htw
    clear hmj hb htw
    by_cases hlt : m < l.length
    · obtain ⟨b, off, rfl, hI, hat⟩ := str_at H.out (by omega)
      obtain ⟨e0, hsz⟩ := hat m hlt
      replace e0 := ((H0.out.trans (Hb.out.mono H0.out.size)).cell (p := ⟨b, _, none⟩) hI).trans e0
      have hkey : keyOf Tryz.prog 9 (.string (gD l m).s) = some (.string (su (gD l m))) := keyOf_string_mk Tryz.underlying9 hsz
      have z1 : (m : Int) < (l.length : Int) := by omega
      have hgo := Lib.hid (twice_go hlt)
      cases hq : decide (su (gD l m) ∈ (l.map su).take m)
      · go_wp2_with (first
          | (at_lookup; refine wpList_lookup_own_bool _ rfl _ _ 333 rfl 9 4 klawS Tryz.underlying333 Tryz.underlying4 (zeroB _) w.heap.size m _ _ hset rfl hown _ rfl hkey ?_; rw [show decide ((gD l m).s.data.toList ∈ (l.map su).take m) = false from hq])
          | (at_mapUpdate; refine wpList_mapUpdate_own _ rfl _ _ _ 333 rfl 9 4 klawS Tryz.underlying333 _ w.heap.size m _ rfl hown (by unfold maxLen; omega) _ _ _ rfl rfl hkey _ [] (plainElem_bool Tryz.underlying4 true) ?_)
          | go_in)
        intro w1 hown1 hgrow1
        have R1 : ∃ M, SetIs M ((l.map su).take (m + 1)) ∧ w1.ownsMap Tryz.prog 9 (plainElem Tryz.prog 4) w.heap.size (m + 1) M := ⟨_, by rw [seen_at l m hlt]; exact setIs_put hset _, hown1⟩
        have R2 := Hb.out.grown hgrow1 Hb.out.size (fun j hj => by cases hj; exact Nat.le_refl _)
        have R3 : twiceB ((l.map su).take (m + 1)) (l.drop (m + 1)) = twiceB [] l := by
          have := hgo.out
          rw [hq, Bool.false_or, Htw.out] at this
          exact this.symm
        have R1 := Lib.hid R1; have R3 := Lib.hid R3
        clear hown1 hgrow1 hown hset hq hkey hat e0
        go_wp2
        go_roundg (l.length - m - 1)
        case measure => have := Hmj.out; omega
        case rel => exact ⟨m + 1, by have := Hmj.out; omega, by go_num, R1.out, R3.out, R2⟩
      · go_wp2_with (first
          | (at_lookup; refine wpList_lookup_own_bool _ rfl _ _ 333 rfl 9 4 klawS Tryz.underlying333 Tryz.underlying4 (zeroB _) w.heap.size m _ _ hset rfl hown _ rfl hkey ?_; rw [show decide ((gD l m).s.data.toList ∈ (l.map su).take m) = true from hq])
          | go_in)
        go_ret
        have := hgo.out
        rw [hq, Bool.true_or, Htw.out] at this
        exact ⟨by rw [this]; rfl, Hb.out⟩
    · go_wp2
      go_ret
      refine ⟨?_, Hb.out⟩
      have := Htw.out
      rw [List.drop_eq_nil_of_le (by omega)] at this
      rw [← this]; rfl
theorem twice_nodup : ∀ (l : List D) (seen : List (List UInt8)), seen.Nodup → twiceB seen l = !decide (seen ++ l.map su).Nodup
  | [], seen, h => by simp [twiceB, h]
  | x :: r, seen, h => by
    rw [twiceB]
    by_cases e : su x ∈ seen
    · have : ¬ (seen ++ (x :: r).map su).Nodup := fun hh => by
        rw [List.nodup_append] at hh
        exact hh.2.2 _ e (su x) (by simp) rfl
      rw [decide_eq_true e, decide_eq_false this]; rfl
    · rw [decide_eq_false e, Bool.false_or, twice_nodup r (seen ++ [su x]) (by
        rw [List.nodup_append]
        refine ⟨h, by simp, ?_⟩
        intro a ha b hb he
        rw [List.mem_singleton.1 hb] at he
        exact e (he ▸ ha))]
      simp
theorem twice_strs (d : D) : twiceB [] (d.f 4).l = !decide (strsR d).Nodup := by
  rw [twice_nodup _ [] List.nodup_nil]; rfl
end Go.Proofs.YthjiclhfhjdjpaaGreatDoor
namespace Go.Proofs.YthjiclhfhjdjpaaGreatDoor
open Go.RowKit
set_option linter.unusedSectionVars false
section
variable {X : Cx} {nn : Nat} {st : Vst nn} {o : Oper} {ops : Array Oper} {l : List Oper} {dst : Option Tmp} {KK : Vst nn → Prop}
set_option maxHeartbeats 8000000 in
set_option maxRecDepth 100000 in
theorem s_max {k : IntKind} {a b : Int} {x y : Operand} {ts : Array TypeId} (hg : o.guard = none) (ho : o.op = .call { callee := .builtin .max, args := #[x, y], argTypes := ts }) (hd : o.dst = dst) (hx : ev st x = .c (.int k a)) (hy : ev st y = .c (.int k b)) (hK : AWo X ops l (st.put dst (.c (.int k (if a < b then b else a)))) KK) : AWo X ops (o :: l) st KK := by
  refine awo_cons hg ?_
  intro s w a' hI N Q hP hN
  have r1 := hI.ev x
  have r2 := hI.ev y
  rw [hx, rel] at r1
  rw [hy, rel] at r2
  have h1 : (execOp a'.eval o).run X.P w = .ok (.value (.int k (if a < b then b else a))) w := by
    simp [execOp, ho, resolve, invoke, builtin, Builtin.max_, Builtin.max2, r1.1, r2.1]
  unfold Oper.wp
  rw [h1, Oper.upon_value]
  refine hN _ _ _ _ (hI.put o.dst ?_) (by rw [hd]; exact hK)
  rw [rel]
  refine ⟨rfl, ?_⟩
  split
  · exact r2.2
  · exact r1.2
end
attribute [local irreducible] wpList Calls Code.wp AW AWo OpOk seqK blockK scopeK loopK endK AC absLex Yld Sub
attribute [local irreducible] ACB ACX ACE absLexG YldG
set_option maxHeartbeats 8000000 in
set_option maxRecDepth 100000 in
theorem name_ac (s : ByteArray) (hs : s.size ≤ 1000000000) : AC EN5 Tryz.prog 76 [.c (.string s)] (.c (.bool (nameB s))) := by
  refine ac_of5 (u := .bool (nameB s)) fun σ w us hus he => ?_
  obtain ⟨rfl, -⟩ := str_arg hus
  refine ⟨fun s' w' => rel_b, (nameP s w (by omega)).mono ?_⟩
  rintro e w' ⟨rfl, rfl⟩
  exact ⟨rfl, Below.refl _ _⟩
set_option maxHeartbeats 8000000 in
set_option maxRecDepth 100000 in
theorem twice_ac (l : List D) (hl : l.length ≤ 1000000000) : AC EN5 Tryz.prog 338 [.sl 9 l] (.c (.bool (twiceB [] l))) := by
  refine ac_of5 (u := .bool (twiceB [] l)) fun σ w us hus he => ?_
  obtain ⟨u, rfl, h⟩ := rel_one hus
  rw [rel] at h
  obtain ⟨k, A, c, rfl, h1, h2, h3, h4⟩ := h
  exact ⟨fun s' w' => rel_b, twiceP A l c w w (Below.refl _ _) ⟨k, h4.sl⟩ hl⟩
/-- bounds that a datum's bulk gives -/
structure BkIn (d : D) (B : Nat) : Prop where
  text : (d.f 2).s.size ≤ B
  keys : (d.f 4).l.length ≤ B
  items : (d.f 3).l.length ≤ B
  at_ : ∀ i, i < (d.f 3).l.length → bulkD (gD (d.f 3).l i) < bulkD d
  key : ∀ i, i < (d.f 4).l.length → (gD (d.f 4).l i).s.size ≤ B
set_option maxHeartbeats 8000000 in
set_option maxRecDepth 100000 in
theorem bulkL_len : ∀ l : List D, l.length ≤ bulkL l
  | [] => Nat.le_refl _
  | x :: r => by
    have := bulkL_len r
    have := bulkD_pos x
    simp only [bulkL, List.length_cons]; omega
set_option maxHeartbeats 8000000 in
set_option maxRecDepth 100000 in
theorem bk_in {d : D} {B : Nat} (h : bulkD d ≤ B) : BkIn d B := by
  have h0 := bulkD_wD d
  have h2 := wD_str (d.f 2)
  have h2' := wD_f d 2
  have h3 := wD_list (d.f 3)
  have h3' := wD_f d 3
  have h4 := wD_list (d.f 4)
  have h4' := wD_f d 4
  have l3 := bulkL_len (d.f 3).l
  have l4 := bulkL_len (d.f 4).l
  refine ⟨by omega, by omega, by omega, fun i hi => by have := bulk_item hi; omega, fun i hi => ?_⟩
  have := bulk_item hi
  have := wD_str (gD (d.f 4).l i)
  have := bulkD_wD (gD (d.f 4).l i)
  omega
set_option maxHeartbeats 8000000 in
set_option maxRecDepth 100000 in
theorem sizeR_le : ∀ (k : Nat) (d : D), sizeR k d ≤ bulkD d
  | 0, d => bulkD_pos d
  | k + 1, d => by
    have h := sumN_le (f := fun i => sizeR k (gD (d.f 3).l i)) (g := fun i => bulkD (gD (d.f 3).l i)) (n := (d.f 3).l.length) fun i _ => sizeR_le k _
    rw [← bulkL_sum] at h
    have h3 := wD_list (d.f 3)
    have h3' := wD_f d 3
    have h0 := bulkD_wD d
    show 1 + sumN (fun i => sizeR k (gD (d.f 3).l i)) (d.f 3).l.length ≤ _
    omega
set_option maxHeartbeats 8000000 in
set_option maxRecDepth 100000 in
theorem maxN_le {g : Nat → Nat} {B : Nat} : ∀ {n : Nat}, (∀ i, i < n → g i ≤ B) → maxN g n ≤ B
  | 0, _ => Nat.zero_le _
  | n + 1, h => Nat.max_le.2 ⟨maxN_le fun i hi => h i (by omega), h n (by omega)⟩
set_option maxHeartbeats 8000000 in
set_option maxRecDepth 100000 in
theorem depthR_le : ∀ (k : Nat) (d : D), depthR k d ≤ bulkD d
  | 0, d => bulkD_pos d
  | k + 1, d => by
    have h : maxN (fun i => depthR k (gD (d.f 3).l i)) (d.f 3).l.length ≤ bulkL (d.f 3).l := maxN_le fun i hi => Nat.le_trans (depthR_le k _) (bulkL_get hi)
    have h3 := wD_list (d.f 3)
    have h3' := wD_f d 3
    have h0 := bulkD_wD d
    show maxN (fun i => depthR k (gD (d.f 3).l i)) (d.f 3).l.length + 1 ≤ _
    omega
noncomputable def HSz (l : List D) (n i : Nat) : Vst 19 := stS 19 [(3, .c (.int .i64 (n : Int))), (7, .sl 84 l), (8, .c (.int .i64 (l.length : Nat))), (9, .c (.int .i64 (i : Int)))] []
set_option maxHeartbeats 8000000 in
set_option maxRecDepth 100000 in
theorem size_ac : ∀ (k : Nat) (d : D), Dp k d → bulkD d ≤ 1000000000 → AC EN5 Tryz.prog 230 [.agg (cellsV Tryz.prog 12 84 d)] (.c (.int .i64 (sizeR k d : Int)))
  | 0, _, h, _ => h.elim
  | k + 1, d, h, hw => by
    have hin := bk_in hw
    have hl := hin.items
    have ih := fun i (hi : i < (d.f 3).l.length) => size_ac k (gD (d.f 3).l i) (h i hi) (by have := hin.at_ i hi; omega)
    have hsw := sizeR_le (k + 1) d
    have hs : sizeR (k + 1) d = 1 + sumN (fun i => sizeR k (gD (d.f 3).l i)) (d.f 3).l.length := rfl
    refine ac_enter 19 Tryz.func230 rfl rfl rfl rfl ?_
    intro s w he
    repeat' (first
 | refine aw_seq ?_
 | refine aw_region ?_
 | refine awo_nil ?_
 | refine k_seq ?_
 | refine aw_block ?_
 | (apply s_val rfl
    · conv => lhs; whnf
    · conv => lhs; whnf; arg 2; whnf)
 | (apply s_box rfl rfl rfl rfl
    · conv => lhs; whnf; arg 1; whnf
    · rfl)
 | exact trivial)
    refine aw_loop (fun j st => ∃ i, i + j = (d.f 3).l.length ∧ Sub (cx EN5 Tryz.prog s w he) st (HSz (d.f 3).l (1 + sumN (fun i => sizeR k (gD (d.f 3).l i)) i) i)) (d.f 3).l.length ⟨0, by omega, Sub.live ⟨rfl, rfl, rfl, rfl, trivial⟩ trivial⟩ ?_
    rintro j st ⟨i, hij, hs2⟩
    refine aw_sub hs2 ?_
    clear hs2
    by_cases hi : i < (d.f 3).l.length
    · have f0 : decide ((i : Int) < ((d.f 3).l.length : Nat)) = true := decide_eq_true (by omega)
      have ih2 := ih i hi
      have hle := sumN_mono (fun i => sizeR k (gD (d.f 3).l i)) (show i + 1 ≤ (d.f 3).l.length from hi)
      have hss : sumN (fun i => sizeR k (gD (d.f 3).l i)) (i + 1) = sumN (fun i => sizeR k (gD (d.f 3).l i)) i + sizeR k (gD (d.f 3).l i) := rfl
      repeat' (first
 | (apply aw_cond_kt
    · conv => lhs; whnf
    · assumption)
 | refine aw_seq ?_
 | refine aw_region ?_
 | refine awo_nil ?_
 | refine k_seq ?_
 | refine k_block ?_
 | refine aw_block ?_
 | refine aw_skip ?_
 | (apply s_val rfl
    · conv => lhs; whnf
    · conv => lhs; whnf; arg 2; whnf)
 | (apply s_call rfl
    · conv => lhs; whnf
    · conv => lhs; whnf
    · first | exact ih2)
 | (apply s_alloc rfl rfl rfl rfl
    · conv => lhs; whnf; arg 1; whnf
    · rfl)
 | (apply s_store rfl rfl rfl
    · conv => lhs; whnf
    · conv => lhs; whnf; arg 1; whnf
    · conv => lhs; whnf; arg 1; whnf
    · exact ⟨by kernel_rfl, by kernel_rfl⟩
    · rfl)
 | exact trivial)
      · refine k_loop_next (j' := j - 1) (by omega) ⟨i + 1, by omega, Sub.live ⟨?_, rfl, rfl, rfl, trivial⟩ trivial⟩
        refine congrArg (fun n => V.c (.int .i64 n)) (?_ : ((1 + sumN (fun i => sizeR k (gD (d.f 3).l i)) i : Nat) : Int) + (sizeR k (gD (d.f 3).l i) : Int) = ((1 + sumN (fun i => sizeR k (gD (d.f 3).l i)) (i + 1) : Nat) : Int))
        rw [hss]; omega
      all_goals first
        | exact i64_ok (by omega)
        | exact ⟨by omega, by omega⟩
    · have f0 : decide ((i : Int) < ((d.f 3).l.length : Nat)) = false := decide_eq_false (by omega)
      repeat' (first
 | (apply aw_cond_kf
    · conv => lhs; whnf
    · assumption)
 | refine aw_seq ?_
 | refine aw_region ?_
 | refine awo_nil ?_
 | refine k_seq ?_
 | (apply s_val rfl
    · conv => lhs; whnf
    · conv => lhs; whnf; arg 2; whnf)
 | refine aw_ret ?_
 | refine aw_exit ?_
 | refine k_seq_exit ?_
 | refine k_block_hit rfl ?_
 | refine k_loop_exit ?_
 | refine k_end_ret ?_
 | (refine ⟨_, by conv => lhs; whnf; arg 2; whnf, ?_⟩; conv => rhs; whnf)
 | exact trivial)
      rw [hs, show i = (d.f 3).l.length by omega]
set_option maxHeartbeats 8000000 in
set_option maxRecDepth 100000 in
theorem max_i (a b : Nat) : (if (a : Int) < (b : Int) then (b : Int) else (a : Int)) = ((max a b : Nat) : Int) := by
  split <;> omega
noncomputable def HDp (l : List D) (n i : Nat) : Vst 20 := stS 20 [(3, .c (.int .i64 (n : Int))), (7, .sl 84 l), (8, .c (.int .i64 (l.length : Nat))), (9, .c (.int .i64 (i : Int)))] []
set_option maxHeartbeats 8000000 in
set_option maxRecDepth 100000 in
theorem depth_ac : ∀ (k : Nat) (d : D), Dp k d → bulkD d ≤ 1000000000 → AC EN5 Tryz.prog 231 [.agg (cellsV Tryz.prog 12 84 d)] (.c (.int .i64 (depthR k d : Int)))
  | 0, _, h, _ => h.elim
  | k + 1, d, h, hw => by
    have hin := bk_in hw
    have hl := hin.items
    have ih := fun i (hi : i < (d.f 3).l.length) => depth_ac k (gD (d.f 3).l i) (h i hi) (by have := hin.at_ i hi; omega)
    have hsw := depthR_le (k + 1) d
    have hs : depthR (k + 1) d = maxN (fun i => depthR k (gD (d.f 3).l i)) (d.f 3).l.length + 1 := rfl
    refine ac_enter 20 Tryz.func231 rfl rfl rfl rfl ?_
    intro s w he
    repeat' (first
 | refine aw_seq ?_
 | refine aw_region ?_
 | refine awo_nil ?_
 | refine k_seq ?_
 | refine aw_block ?_
 | (apply s_val rfl
    · conv => lhs; whnf
    · conv => lhs; whnf; arg 2; whnf)
 | (apply s_box rfl rfl rfl rfl
    · conv => lhs; whnf; arg 1; whnf
    · rfl)
 | exact trivial)
    refine aw_loop (fun j st => ∃ i, i + j = (d.f 3).l.length ∧ Sub (cx EN5 Tryz.prog s w he) st (HDp (d.f 3).l (maxN (fun i => depthR k (gD (d.f 3).l i)) i) i)) (d.f 3).l.length ⟨0, by omega, Sub.live ⟨rfl, rfl, rfl, rfl, trivial⟩ trivial⟩ ?_
    rintro j st ⟨i, hij, hs2⟩
    refine aw_sub hs2 ?_
    clear hs2
    by_cases hi : i < (d.f 3).l.length
    · have f0 : decide ((i : Int) < ((d.f 3).l.length : Nat)) = true := decide_eq_true (by omega)
      have ih2 := ih i hi
      repeat' (first
 | (apply s_max rfl rfl rfl
    · conv => lhs; whnf; arg 1; whnf
    · conv => lhs; whnf; arg 1; whnf)
 | (apply aw_cond_kt
    · conv => lhs; whnf
    · assumption)
 | refine aw_seq ?_
 | refine aw_region ?_
 | refine awo_nil ?_
 | refine k_seq ?_
 | refine k_block ?_
 | refine aw_block ?_
 | refine aw_skip ?_
 | (apply s_val rfl
    · conv => lhs; whnf
    · conv => lhs; whnf; arg 2; whnf)
 | (apply s_call rfl
    · conv => lhs; whnf
    · conv => lhs; whnf
    · first | exact ih2)
 | (apply s_alloc rfl rfl rfl rfl
    · conv => lhs; whnf; arg 1; whnf
    · rfl)
 | (apply s_store rfl rfl rfl
    · conv => lhs; whnf
    · conv => lhs; whnf; arg 1; whnf
    · conv => lhs; whnf; arg 1; whnf
    · exact ⟨by kernel_rfl, by kernel_rfl⟩
    · rfl)
 | exact trivial)
      all_goals first
        | exact i64_ok (by omega)
        | exact ⟨by omega, by omega⟩
        | (refine k_loop_next (j' := j - 1) (by omega) ⟨i + 1, by omega, Sub.live ⟨?_, rfl, rfl, rfl, trivial⟩ trivial⟩
           refine congrArg (fun n => V.c (.int .i64 n)) (?_ : (if ((maxN (fun i => depthR k (gD (d.f 3).l i)) i : Nat) : Int) < (depthR k (gD (d.f 3).l i) : Int) then (depthR k (gD (d.f 3).l i) : Int) else ((maxN (fun i => depthR k (gD (d.f 3).l i)) i : Nat) : Int)) = ((maxN (fun i => depthR k (gD (d.f 3).l i)) (i + 1) : Nat) : Int))
           rw [max_i]; rfl)
    · have f0 : decide ((i : Int) < ((d.f 3).l.length : Nat)) = false := decide_eq_false (by omega)
      have e : i = (d.f 3).l.length := by omega
      subst e
      repeat' (first
 | (apply aw_cond_kf
    · conv => lhs; whnf
    · assumption)
 | refine aw_seq ?_
 | refine aw_region ?_
 | refine awo_nil ?_
 | refine k_seq ?_
 | (apply s_val rfl
    · conv => lhs; whnf
    · conv => lhs; whnf; arg 2; whnf)
 | refine aw_ret ?_
 | refine aw_exit ?_
 | refine k_seq_exit ?_
 | refine k_block_hit rfl ?_
 | refine k_loop_exit ?_
 | refine k_end_ret ?_
 | (refine ⟨_, by conv => lhs; whnf; arg 2; whnf, ?_⟩; conv => rhs; whnf)
 | exact trivial)
      · rfl
      · exact i64_ok (by omega)
end Go.Proofs.YthjiclhfhjdjpaaGreatDoor
namespace Go.Proofs.YthjiclhfhjdjpaaGreatDoor
open Go.RowKit
set_option linter.unusedSectionVars false
attribute [local irreducible] wpList Calls Code.wp AW AWo OpOk seqK blockK scopeK loopK endK AC absLex Yld Sub
attribute [local irreducible] ACB ACX ACE absLexG YldG
set_option maxHeartbeats 8000000 in
set_option maxRecDepth 100000 in
theorem twice_R (d : D) : twiceB [] (d.f 4).l = !decide (strsR d).Nodup := twice_strs d
set_option maxHeartbeats 8000000 in
set_option maxRecDepth 100000 in
theorem key1_ac (x : D) (hs : x.s.size ≤ 1000000000) : AC EN5 Tryz.prog 337 [.c (.string x.s)] (.c (.bool (!nameB x.s))) := by
  have h := name_ac x.s hs
  refine ac_enter 6 Tryz.func337 rfl rfl rfl rfl ?_
  intro s w he
  repeat' (first
 | refine aw_seq ?_
 | refine aw_region ?_
 | refine awo_nil ?_
 | refine k_seq ?_
 | (apply s_val rfl
    · conv => lhs; whnf
    · conv => lhs; whnf; arg 2; whnf)
 | (apply s_call rfl
    · conv => lhs; whnf
    · conv => lhs; whnf
    · first | exact h)
 | refine aw_ret ?_
 | refine k_end_ret ?_
 | (refine ⟨_, by conv => lhs; whnf; arg 2; whnf, ?_⟩; conv => rhs; whnf)
 | exact trivial)
set_option maxHeartbeats 8000000 in
set_option maxRecDepth 100000 in
theorem str_is (s : ByteArray) (l : List UInt8) : (s.toList == (⟨l.toArray⟩ : ByteArray).toList) = (s.data.toList == l) := by
  rw [Lib.toList_data, Lib.toList_data]
end Go.Proofs.YthjiclhfhjdjpaaGreatDoor
namespace Go.Proofs.YthjiclhfhjdjpaaGreatDoor
open Go.RowKit
set_option linter.unusedSectionVars false
attribute [local irreducible] wpList Calls Code.wp AW AWo OpOk seqK blockK scopeK loopK endK AC absLex Yld Sub
attribute [local irreducible] ACB ACX ACE absLexG YldG
section
variable (d : D) (hk : (d.f 4).l.length ≤ 1000000000) (hs : (d.f 2).s.size ≤ 1000000000) (hkey : ∀ i, i < (d.f 4).l.length → (gD (d.f 4).l i).s.size ≤ 1000000000)
include hk hs hkey
set_option maxHeartbeats 8000000 in
set_option maxRecDepth 100000 in
theorem node_ac0 (hn : (d.f 0).n = 0) : AC EN5 Tryz.prog 296 [.agg (cellsV Tryz.prog 12 84 d), .c (.bool true)] (.c (.bool (nodeL d))) := by
  have h1 := name_ac (d.f 2).s hs
  have h2 := twice_ac (d.f 4).l hk
  rw [twice_R] at h2
  have h3 := containsKey_ac (d.f 4).l (fun x => !nameB x.s) hk fun i hi => key1_ac _ (hkey i hi)
  have e : cellsV Tryz.prog 12 84 d = [.c (.int .i64 (d.f 0).n), .c (.int .i64 (d.f 1).n), .c (.string (d.f 2).s), .sl 84 (d.f 3).l, .sl 9 (d.f 4).l] := rfl
  unfold nodeL
  rw [e, hn]
  refine ac_enter 137 Tryz.func296 rfl rfl rfl rfl ?_
  intro s w he
  repeat' (first
 | (apply s_wpick_t rfl rfl rfl
    · conv => lhs; whnf
    · first | rfl | assumption
    · conv => lhs; whnf
    · first | exact bT1 (by assumption) | exact bT2 (by assumption) | rfl)
 | refine aw_seq ?_
 | refine aw_region ?_
 | refine awo_nil ?_
 | refine k_seq ?_
 | refine aw_block ?_
 | refine aw_skip ?_
 | (apply s_pick_t rfl rfl
    · conv => lhs; whnf
    · conv => lhs; whnf
    · first | exact bT1 (by assumption) | exact bT2 (by assumption))
 | (apply s_pick_f rfl rfl
    · conv => lhs; whnf
    · conv => lhs; whnf
    · first | exact bF1 (by assumption) | exact bF2 (by assumption))
 | (apply s_val rfl
    · conv => lhs; whnf
    · conv => lhs; whnf; arg 2; whnf)
 | (apply s_box rfl rfl rfl rfl
    · conv => lhs; whnf; arg 1; whnf
    · rfl)
 | (apply s_wanted_val rfl
    · conv => lhs; whnf
    · conv => lhs; whnf
    · first | rfl | assumption
    · conv => lhs; whnf; arg 2; whnf)
 | (apply s_skipU rfl
    · conv => lhs; whnf
    · conv => lhs; whnf
    · first | rfl | assumption)
 | (apply s_dead rfl
    · conv => lhs; whnf
    · rfl
    · rfl)
 | (apply s_guard_valU rfl
    · conv => lhs; whnf
    · conv => lhs; whnf
    · conv => lhs; whnf; arg 2; whnf)
 | (apply aw_cond_t
    · conv => lhs; whnf; arg 1; arg 1; whnf)
 | (refine aw_cond (by conv => lhs; whnf) ?_ ?_ <;> intro hb)
 | refine aw_ret ?_
 | refine k_seq_ret ?_
 | refine k_block_ret ?_
 | refine k_end_ret ?_
 | (refine ⟨_, by conv => lhs; whnf; arg 2; whnf, ?_⟩; conv => rhs; whnf)
 | exact trivial
 | intro hg)
  all_goals
    clear h1 h2 h3 he e hk hs hkey
    have hT : ((d.f 2).s.toList == ({ data := #[] } : ByteArray).toList) = ((d.f 2).s.data.toList == []) := str_is _ []
    have hT1 : ((d.f 2).s.toList == ({ data := #[116, 114, 117, 101] } : ByteArray).toList) = ((d.f 2).s.data.toList == [116, 114, 117, 101]) := str_is _ _
    have hT2 : ((d.f 2).s.toList == ({ data := #[102, 97, 108, 115, 101] } : ByteArray).toList) = ((d.f 2).s.data.toList == [102, 97, 108, 115, 101]) := str_is _ _
    have hT3 : ((d.f 2).s.toList == ({ data := #[110, 117, 108, 108] } : ByteArray).toList) = ((d.f 2).s.data.toList == [110, 117, 108, 108]) := str_is _ _
    simp only [hT, hT1, hT2, hT3] at *
    clear hT hT1 hT2 hT3
    unfold enumR
    generalize ((d.f 2).s.data.toList == []) = t at *
    generalize ((d.f 2).s.data.toList == [116, 114, 117, 101]) = t1 at *
    generalize ((d.f 2).s.data.toList == [102, 97, 108, 115, 101]) = t2 at *
    generalize ((d.f 2).s.data.toList == [110, 117, 108, 108]) = t3 at *
    generalize nameB (d.f 2).s = v at *
    generalize ((d.f 4).l.any fun x => !nameB x.s) = ks at *
    generalize decide (strsR d).Nodup = y at *
    generalize (d.f 4).l.length = a at *
    generalize (d.f 3).l.length = b at *
    generalize (d.f 1).n = i at *
    refine congrArg (fun b => V.c (.bool b)) ?_
    unfold nodeK
    simp_all
  all_goals try (intros; omega)
end
end Go.Proofs.YthjiclhfhjdjpaaGreatDoor
namespace Go.Proofs.YthjiclhfhjdjpaaGreatDoor
open Go.RowKit
set_option linter.unusedSectionVars false
attribute [local irreducible] wpList Calls Code.wp AW AWo OpOk seqK blockK scopeK loopK endK AC absLex Yld Sub
attribute [local irreducible] ACB ACX ACE absLexG YldG
section
variable (d : D) (hk : (d.f 4).l.length ≤ 1000000000) (hs : (d.f 2).s.size ≤ 1000000000) (hkey : ∀ i, i < (d.f 4).l.length → (gD (d.f 4).l i).s.size ≤ 1000000000)
include hk hs hkey
set_option maxHeartbeats 8000000 in
set_option maxRecDepth 100000 in
theorem node_ac1 (hn : (d.f 0).n = 1) : AC EN5 Tryz.prog 296 [.agg (cellsV Tryz.prog 12 84 d), .c (.bool true)] (.c (.bool (nodeL d))) := by
  have h1 := name_ac (d.f 2).s hs
  have h2 := twice_ac (d.f 4).l hk
  rw [twice_R] at h2
  have h3 := containsKey_ac (d.f 4).l (fun x => !nameB x.s) hk fun i hi => key1_ac _ (hkey i hi)
  have e : cellsV Tryz.prog 12 84 d = [.c (.int .i64 (d.f 0).n), .c (.int .i64 (d.f 1).n), .c (.string (d.f 2).s), .sl 84 (d.f 3).l, .sl 9 (d.f 4).l] := rfl
  unfold nodeL
  rw [e, hn]
  refine ac_enter 137 Tryz.func296 rfl rfl rfl rfl ?_
  intro s w he
  repeat' (first
 | (apply s_wpick_t rfl rfl rfl
    · conv => lhs; whnf
    · first | rfl | assumption
    · conv => lhs; whnf
    · first | exact bT1 (by assumption) | exact bT2 (by assumption) | rfl)
 | refine aw_seq ?_
 | refine aw_region ?_
 | refine awo_nil ?_
 | refine k_seq ?_
 | refine aw_block ?_
 | refine aw_skip ?_
 | (apply s_pick_t rfl rfl
    · conv => lhs; whnf
    · conv => lhs; whnf
    · first | exact bT1 (by assumption) | exact bT2 (by assumption))
 | (apply s_pick_f rfl rfl
    · conv => lhs; whnf
    · conv => lhs; whnf
    · first | exact bF1 (by assumption) | exact bF2 (by assumption))
 | (apply s_val rfl
    · conv => lhs; whnf
    · conv => lhs; whnf; arg 2; whnf)
 | (apply s_box rfl rfl rfl rfl
    · conv => lhs; whnf; arg 1; whnf
    · rfl)
 | (apply s_wanted_val rfl
    · conv => lhs; whnf
    · conv => lhs; whnf
    · first | rfl | assumption
    · conv => lhs; whnf; arg 2; whnf)
 | (apply s_skipU rfl
    · conv => lhs; whnf
    · conv => lhs; whnf
    · first | rfl | assumption)
 | (apply s_dead rfl
    · conv => lhs; whnf
    · rfl
    · rfl)
 | (apply s_guard_valU rfl
    · conv => lhs; whnf
    · conv => lhs; whnf
    · conv => lhs; whnf; arg 2; whnf)
 | (apply aw_cond_t
    · conv => lhs; whnf; arg 1; arg 1; whnf)
 | (apply aw_cond_f
    · conv => lhs; whnf; arg 1; arg 1; whnf)
 | (refine aw_cond (by conv => lhs; whnf) ?_ ?_ <;> intro hb)
 | refine aw_ret ?_
 | refine k_seq_ret ?_
 | refine k_block_ret ?_
 | refine k_end_ret ?_
 | (refine ⟨_, by conv => lhs; whnf; arg 2; whnf, ?_⟩; conv => rhs; whnf)
 | exact trivial
 | intro hg)
  all_goals
    clear h1 h2 h3 he e hk hs hkey
    have hT : ((d.f 2).s.toList == ({ data := #[] } : ByteArray).toList) = ((d.f 2).s.data.toList == []) := str_is _ []
    have hT1 : ((d.f 2).s.toList == ({ data := #[116, 114, 117, 101] } : ByteArray).toList) = ((d.f 2).s.data.toList == [116, 114, 117, 101]) := str_is _ _
    have hT2 : ((d.f 2).s.toList == ({ data := #[102, 97, 108, 115, 101] } : ByteArray).toList) = ((d.f 2).s.data.toList == [102, 97, 108, 115, 101]) := str_is _ _
    have hT3 : ((d.f 2).s.toList == ({ data := #[110, 117, 108, 108] } : ByteArray).toList) = ((d.f 2).s.data.toList == [110, 117, 108, 108]) := str_is _ _
    simp only [hT, hT1, hT2, hT3] at *
    clear hT hT1 hT2 hT3
    unfold enumR
    generalize ((d.f 2).s.data.toList == []) = t at *
    generalize ((d.f 2).s.data.toList == [116, 114, 117, 101]) = t1 at *
    generalize ((d.f 2).s.data.toList == [102, 97, 108, 115, 101]) = t2 at *
    generalize ((d.f 2).s.data.toList == [110, 117, 108, 108]) = t3 at *
    generalize nameB (d.f 2).s = v at *
    generalize ((d.f 4).l.any fun x => !nameB x.s) = ks at *
    generalize decide (strsR d).Nodup = y at *
    generalize (d.f 4).l.length = a at *
    generalize (d.f 3).l.length = b at *
    generalize (d.f 1).n = i at *
    refine congrArg (fun b => V.c (.bool b)) ?_
    unfold nodeK
    simp_all
  all_goals try (intros; omega)
end
end Go.Proofs.YthjiclhfhjdjpaaGreatDoor
namespace Go.Proofs.YthjiclhfhjdjpaaGreatDoor
open Go.RowKit
set_option linter.unusedSectionVars false
attribute [local irreducible] wpList Calls Code.wp AW AWo OpOk seqK blockK scopeK loopK endK AC absLex Yld Sub
attribute [local irreducible] ACB ACX ACE absLexG YldG
section
variable (d : D) (hk : (d.f 4).l.length ≤ 1000000000) (hs : (d.f 2).s.size ≤ 1000000000) (hkey : ∀ i, i < (d.f 4).l.length → (gD (d.f 4).l i).s.size ≤ 1000000000)
include hk hs hkey
set_option maxHeartbeats 8000000 in
set_option maxRecDepth 100000 in
theorem node_ac2 (hn : (d.f 0).n = 2) : AC EN5 Tryz.prog 296 [.agg (cellsV Tryz.prog 12 84 d), .c (.bool true)] (.c (.bool (nodeL d))) := by
  have h1 := name_ac (d.f 2).s hs
  have h2 := twice_ac (d.f 4).l hk
  rw [twice_R] at h2
  have h3 := containsKey_ac (d.f 4).l (fun x => !nameB x.s) hk fun i hi => key1_ac _ (hkey i hi)
  have e : cellsV Tryz.prog 12 84 d = [.c (.int .i64 (d.f 0).n), .c (.int .i64 (d.f 1).n), .c (.string (d.f 2).s), .sl 84 (d.f 3).l, .sl 9 (d.f 4).l] := rfl
  unfold nodeL
  rw [e, hn]
  refine ac_enter 137 Tryz.func296 rfl rfl rfl rfl ?_
  intro s w he
  repeat' (first
 | (apply s_wpick_t rfl rfl rfl
    · conv => lhs; whnf
    · first | rfl | assumption
    · conv => lhs; whnf
    · first | exact bT1 (by assumption) | exact bT2 (by assumption) | rfl)
 | refine aw_seq ?_
 | refine aw_region ?_
 | refine awo_nil ?_
 | refine k_seq ?_
 | refine aw_block ?_
 | refine aw_skip ?_
 | (apply s_pick_t rfl rfl
    · conv => lhs; whnf
    · conv => lhs; whnf
    · first | exact bT1 (by assumption) | exact bT2 (by assumption))
 | (apply s_pick_f rfl rfl
    · conv => lhs; whnf
    · conv => lhs; whnf
    · first | exact bF1 (by assumption) | exact bF2 (by assumption))
 | (apply s_val rfl
    · conv => lhs; whnf
    · conv => lhs; whnf; arg 2; whnf)
 | (apply s_box rfl rfl rfl rfl
    · conv => lhs; whnf; arg 1; whnf
    · rfl)
 | (apply s_wanted_val rfl
    · conv => lhs; whnf
    · conv => lhs; whnf
    · first | rfl | assumption
    · conv => lhs; whnf; arg 2; whnf)
 | (apply s_skipU rfl
    · conv => lhs; whnf
    · conv => lhs; whnf
    · first | rfl | assumption)
 | (apply s_dead rfl
    · conv => lhs; whnf
    · rfl
    · rfl)
 | (apply s_guard_valU rfl
    · conv => lhs; whnf
    · conv => lhs; whnf
    · conv => lhs; whnf; arg 2; whnf)
 | (apply aw_cond_t
    · conv => lhs; whnf; arg 1; arg 1; whnf)
 | (apply aw_cond_f
    · conv => lhs; whnf; arg 1; arg 1; whnf)
 | (refine aw_cond (by conv => lhs; whnf) ?_ ?_ <;> intro hb)
 | refine aw_ret ?_
 | refine k_seq_ret ?_
 | refine k_block_ret ?_
 | refine k_end_ret ?_
 | (refine ⟨_, by conv => lhs; whnf; arg 2; whnf, ?_⟩; conv => rhs; whnf)
 | exact trivial
 | intro hg)
  all_goals
    clear h1 h2 h3 he e hk hs hkey
    have hT : ((d.f 2).s.toList == ({ data := #[] } : ByteArray).toList) = ((d.f 2).s.data.toList == []) := str_is _ []
    have hT1 : ((d.f 2).s.toList == ({ data := #[116, 114, 117, 101] } : ByteArray).toList) = ((d.f 2).s.data.toList == [116, 114, 117, 101]) := str_is _ _
    have hT2 : ((d.f 2).s.toList == ({ data := #[102, 97, 108, 115, 101] } : ByteArray).toList) = ((d.f 2).s.data.toList == [102, 97, 108, 115, 101]) := str_is _ _
    have hT3 : ((d.f 2).s.toList == ({ data := #[110, 117, 108, 108] } : ByteArray).toList) = ((d.f 2).s.data.toList == [110, 117, 108, 108]) := str_is _ _
    simp only [hT, hT1, hT2, hT3] at *
    clear hT hT1 hT2 hT3
    unfold enumR
    generalize ((d.f 2).s.data.toList == []) = t at *
    generalize ((d.f 2).s.data.toList == [116, 114, 117, 101]) = t1 at *
    generalize ((d.f 2).s.data.toList == [102, 97, 108, 115, 101]) = t2 at *
    generalize ((d.f 2).s.data.toList == [110, 117, 108, 108]) = t3 at *
    generalize nameB (d.f 2).s = v at *
    generalize ((d.f 4).l.any fun x => !nameB x.s) = ks at *
    generalize decide (strsR d).Nodup = y at *
    generalize (d.f 4).l.length = a at *
    generalize (d.f 3).l.length = b at *
    generalize (d.f 1).n = i at *
    refine congrArg (fun b => V.c (.bool b)) ?_
    unfold nodeK
    simp_all
  all_goals try (intros; omega)
end
end Go.Proofs.YthjiclhfhjdjpaaGreatDoor
namespace Go.Proofs.YthjiclhfhjdjpaaGreatDoor
open Go.RowKit
set_option linter.unusedSectionVars false
attribute [local irreducible] wpList Calls Code.wp AW AWo OpOk seqK blockK scopeK loopK endK AC absLex Yld Sub
attribute [local irreducible] ACB ACX ACE absLexG YldG
section
variable (d : D) (hk : (d.f 4).l.length ≤ 1000000000) (hs : (d.f 2).s.size ≤ 1000000000) (hkey : ∀ i, i < (d.f 4).l.length → (gD (d.f 4).l i).s.size ≤ 1000000000)
include hk hs hkey
set_option maxHeartbeats 8000000 in
set_option maxRecDepth 100000 in
theorem node_ac3 (hn : (d.f 0).n = 3) : AC EN5 Tryz.prog 296 [.agg (cellsV Tryz.prog 12 84 d), .c (.bool true)] (.c (.bool (nodeL d))) := by
  have h1 := name_ac (d.f 2).s hs
  have h2 := twice_ac (d.f 4).l hk
  rw [twice_R] at h2
  have h3 := containsKey_ac (d.f 4).l (fun x => !nameB x.s) hk fun i hi => key1_ac _ (hkey i hi)
  have e : cellsV Tryz.prog 12 84 d = [.c (.int .i64 (d.f 0).n), .c (.int .i64 (d.f 1).n), .c (.string (d.f 2).s), .sl 84 (d.f 3).l, .sl 9 (d.f 4).l] := rfl
  unfold nodeL
  rw [e, hn]
  refine ac_enter 137 Tryz.func296 rfl rfl rfl rfl ?_
  intro s w he
  repeat' (first
 | (apply s_wpick_t rfl rfl rfl
    · conv => lhs; whnf
    · first | rfl | assumption
    · conv => lhs; whnf
    · first | exact bT1 (by assumption) | exact bT2 (by assumption) | rfl)
 | (apply s_wpick_f rfl rfl rfl
    · conv => lhs; whnf
    · first | rfl | assumption
    · conv => lhs; whnf
    · first | exact bF1 (by assumption) | exact bF2 (by assumption) | rfl)
 | refine aw_seq ?_
 | refine aw_region ?_
 | refine awo_nil ?_
 | refine k_seq ?_
 | refine aw_block ?_
 | refine aw_skip ?_
 | (apply s_pick_t rfl rfl
    · conv => lhs; whnf
    · conv => lhs; whnf
    · first | exact bT1 (by assumption) | exact bT2 (by assumption))
 | (apply s_pick_f rfl rfl
    · conv => lhs; whnf
    · conv => lhs; whnf
    · first | exact bF1 (by assumption) | exact bF2 (by assumption))
 | (apply s_val rfl
    · conv => lhs; whnf
    · conv => lhs; whnf; arg 2; whnf)
 | (apply s_box rfl rfl rfl rfl
    · conv => lhs; whnf; arg 1; whnf
    · rfl)
 | (apply s_wanted_val rfl
    · conv => lhs; whnf
    · conv => lhs; whnf
    · first | rfl | assumption
    · conv => lhs; whnf; arg 2; whnf)
 | (apply s_skipU rfl
    · conv => lhs; whnf
    · conv => lhs; whnf
    · first | rfl | assumption)
 | (apply s_dead rfl
    · conv => lhs; whnf
    · rfl
    · rfl)
 | (apply s_guard_valU rfl
    · conv => lhs; whnf
    · conv => lhs; whnf
    · conv => lhs; whnf; arg 2; whnf)
 | (apply aw_cond_t
    · conv => lhs; whnf; arg 1; arg 1; whnf)
 | (apply aw_cond_f
    · conv => lhs; whnf; arg 1; arg 1; whnf)
 | (refine aw_cond (by conv => lhs; whnf) ?_ ?_ <;> intro hb)
 | refine aw_ret ?_
 | refine k_seq_ret ?_
 | refine k_block_ret ?_
 | refine k_end_ret ?_
 | (refine ⟨_, by conv => lhs; whnf; arg 2; whnf, ?_⟩; conv => rhs; whnf)
 | exact trivial
 | intro hg)
  all_goals
    clear h1 h2 h3 he e hk hs hkey
    have hT : ((d.f 2).s.toList == ({ data := #[] } : ByteArray).toList) = ((d.f 2).s.data.toList == []) := str_is _ []
    have hT1 : ((d.f 2).s.toList == ({ data := #[116, 114, 117, 101] } : ByteArray).toList) = ((d.f 2).s.data.toList == [116, 114, 117, 101]) := str_is _ _
    have hT2 : ((d.f 2).s.toList == ({ data := #[102, 97, 108, 115, 101] } : ByteArray).toList) = ((d.f 2).s.data.toList == [102, 97, 108, 115, 101]) := str_is _ _
    have hT3 : ((d.f 2).s.toList == ({ data := #[110, 117, 108, 108] } : ByteArray).toList) = ((d.f 2).s.data.toList == [110, 117, 108, 108]) := str_is _ _
    simp only [hT, hT1, hT2, hT3] at *
    clear hT hT1 hT2 hT3
    unfold enumR
    generalize ((d.f 2).s.data.toList == []) = t at *
    generalize ((d.f 2).s.data.toList == [116, 114, 117, 101]) = t1 at *
    generalize ((d.f 2).s.data.toList == [102, 97, 108, 115, 101]) = t2 at *
    generalize ((d.f 2).s.data.toList == [110, 117, 108, 108]) = t3 at *
    generalize nameB (d.f 2).s = v at *
    generalize ((d.f 4).l.any fun x => !nameB x.s) = ks at *
    generalize decide (strsR d).Nodup = y at *
    generalize (d.f 4).l.length = a at *
    generalize (d.f 3).l.length = b at *
    generalize (d.f 1).n = i at *
    refine congrArg (fun b => V.c (.bool b)) ?_
    unfold nodeK
    simp_all
  all_goals try (intros; omega)
end
end Go.Proofs.YthjiclhfhjdjpaaGreatDoor
namespace Go.Proofs.YthjiclhfhjdjpaaGreatDoor
open Go.RowKit
set_option linter.unusedSectionVars false
attribute [local irreducible] wpList Calls Code.wp AW AWo OpOk seqK blockK scopeK loopK endK AC absLex Yld Sub
attribute [local irreducible] ACB ACX ACE absLexG YldG
section
variable (d : D) (hk : (d.f 4).l.length ≤ 1000000000) (hs : (d.f 2).s.size ≤ 1000000000) (hkey : ∀ i, i < (d.f 4).l.length → (gD (d.f 4).l i).s.size ≤ 1000000000)
include hk hs hkey
set_option maxHeartbeats 8000000 in
set_option maxRecDepth 100000 in
theorem node_ac4 (hn : (d.f 0).n = 4) : AC EN5 Tryz.prog 296 [.agg (cellsV Tryz.prog 12 84 d), .c (.bool true)] (.c (.bool (nodeL d))) := by
  have h1 := name_ac (d.f 2).s hs
  have h2 := twice_ac (d.f 4).l hk
  rw [twice_R] at h2
  have h3 := containsKey_ac (d.f 4).l (fun x => !nameB x.s) hk fun i hi => key1_ac _ (hkey i hi)
  have e : cellsV Tryz.prog 12 84 d = [.c (.int .i64 (d.f 0).n), .c (.int .i64 (d.f 1).n), .c (.string (d.f 2).s), .sl 84 (d.f 3).l, .sl 9 (d.f 4).l] := rfl
  unfold nodeL
  rw [e, hn]
  refine ac_enter 137 Tryz.func296 rfl rfl rfl rfl ?_
  intro s w he
  repeat' (first
 | (apply s_wpick_t rfl rfl rfl
    · conv => lhs; whnf
    · first | rfl | assumption
    · conv => lhs; whnf
    · first | exact bT1 (by assumption) | exact bT2 (by assumption) | rfl)
 | (apply s_wpick_f rfl rfl rfl
    · conv => lhs; whnf
    · first | rfl | assumption
    · conv => lhs; whnf
    · first | exact bF1 (by assumption) | exact bF2 (by assumption) | rfl)
 | refine aw_seq ?_
 | refine aw_region ?_
 | refine awo_nil ?_
 | refine k_seq ?_
 | refine aw_block ?_
 | refine aw_skip ?_
 | (apply s_pick_t rfl rfl
    · conv => lhs; whnf
    · conv => lhs; whnf
    · first | exact bT1 (by assumption) | exact bT2 (by assumption))
 | (apply s_pick_f rfl rfl
    · conv => lhs; whnf
    · conv => lhs; whnf
    · first | exact bF1 (by assumption) | exact bF2 (by assumption))
 | (apply s_val rfl
    · conv => lhs; whnf
    · conv => lhs; whnf; arg 2; whnf)
 | (apply s_call rfl
    · conv => lhs; whnf
    · conv => lhs; whnf
    · first | exact h1 | exact h2 | exact h3)
 | (apply s_box rfl rfl rfl rfl
    · conv => lhs; whnf; arg 1; whnf
    · rfl)
 | (apply s_wanted_val rfl
    · conv => lhs; whnf
    · conv => lhs; whnf
    · first | rfl | assumption
    · conv => lhs; whnf; arg 2; whnf)
 | (apply s_skipU rfl
    · conv => lhs; whnf
    · conv => lhs; whnf
    · first | rfl | assumption)
 | (apply s_dead rfl
    · conv => lhs; whnf
    · rfl
    · rfl)
 | (apply s_guard_valU rfl
    · conv => lhs; whnf
    · conv => lhs; whnf
    · conv => lhs; whnf; arg 2; whnf)
 | (apply aw_cond_t
    · conv => lhs; whnf; arg 1; arg 1; whnf)
 | (apply aw_cond_f
    · conv => lhs; whnf; arg 1; arg 1; whnf)
 | (refine aw_cond (by conv => lhs; whnf) ?_ ?_ <;> intro hb)
 | refine aw_ret ?_
 | refine k_seq_ret ?_
 | refine k_block_ret ?_
 | refine k_end_ret ?_
 | (refine ⟨_, by conv => lhs; whnf; arg 2; whnf, ?_⟩; conv => rhs; whnf)
 | exact trivial
 | intro hg)
  all_goals
    clear h1 h2 h3 he e hk hs hkey
    have hT : ((d.f 2).s.toList == ({ data := #[] } : ByteArray).toList) = ((d.f 2).s.data.toList == []) := str_is _ []
    have hT1 : ((d.f 2).s.toList == ({ data := #[116, 114, 117, 101] } : ByteArray).toList) = ((d.f 2).s.data.toList == [116, 114, 117, 101]) := str_is _ _
    have hT2 : ((d.f 2).s.toList == ({ data := #[102, 97, 108, 115, 101] } : ByteArray).toList) = ((d.f 2).s.data.toList == [102, 97, 108, 115, 101]) := str_is _ _
    have hT3 : ((d.f 2).s.toList == ({ data := #[110, 117, 108, 108] } : ByteArray).toList) = ((d.f 2).s.data.toList == [110, 117, 108, 108]) := str_is _ _
    simp only [hT, hT1, hT2, hT3] at *
    clear hT hT1 hT2 hT3
    unfold enumR
    generalize ((d.f 2).s.data.toList == []) = t at *
    generalize ((d.f 2).s.data.toList == [116, 114, 117, 101]) = t1 at *
    generalize ((d.f 2).s.data.toList == [102, 97, 108, 115, 101]) = t2 at *
    generalize ((d.f 2).s.data.toList == [110, 117, 108, 108]) = t3 at *
    generalize nameB (d.f 2).s = v at *
    generalize ((d.f 4).l.any fun x => !nameB x.s) = ks at *
    generalize decide (strsR d).Nodup = y at *
    generalize (d.f 4).l.length = a at *
    generalize (d.f 3).l.length = b at *
    generalize (d.f 1).n = i at *
    refine congrArg (fun b => V.c (.bool b)) ?_
    unfold nodeK
    simp_all
  all_goals try (intros; omega)
end
end Go.Proofs.YthjiclhfhjdjpaaGreatDoor
namespace Go.Proofs.YthjiclhfhjdjpaaGreatDoor
open Go.RowKit
set_option linter.unusedSectionVars false
attribute [local irreducible] wpList Calls Code.wp AW AWo OpOk seqK blockK scopeK loopK endK AC absLex Yld Sub
attribute [local irreducible] ACB ACX ACE absLexG YldG
section
variable (d : D) (hk : (d.f 4).l.length ≤ 1000000000) (hs : (d.f 2).s.size ≤ 1000000000) (hkey : ∀ i, i < (d.f 4).l.length → (gD (d.f 4).l i).s.size ≤ 1000000000)
include hk hs hkey
set_option maxHeartbeats 8000000 in
set_option maxRecDepth 100000 in
theorem node_ac5 (hn : (d.f 0).n = 5) : AC EN5 Tryz.prog 296 [.agg (cellsV Tryz.prog 12 84 d), .c (.bool true)] (.c (.bool (nodeL d))) := by
  have h1 := name_ac (d.f 2).s hs
  have h2 := twice_ac (d.f 4).l hk
  rw [twice_R] at h2
  have h3 := containsKey_ac (d.f 4).l (fun x => !nameB x.s) hk fun i hi => key1_ac _ (hkey i hi)
  have e : cellsV Tryz.prog 12 84 d = [.c (.int .i64 (d.f 0).n), .c (.int .i64 (d.f 1).n), .c (.string (d.f 2).s), .sl 84 (d.f 3).l, .sl 9 (d.f 4).l] := rfl
  unfold nodeL
  rw [e, hn]
  refine ac_enter 137 Tryz.func296 rfl rfl rfl rfl ?_
  intro s w he
  repeat' (first
 | (apply s_wpick_t rfl rfl rfl
    · conv => lhs; whnf
    · first | rfl | assumption
    · conv => lhs; whnf
    · first | exact bT1 (by assumption) | exact bT2 (by assumption) | rfl)
 | (apply s_wpick_f rfl rfl rfl
    · conv => lhs; whnf
    · first | rfl | assumption
    · conv => lhs; whnf
    · first | exact bF1 (by assumption) | exact bF2 (by assumption) | rfl)
 | refine aw_seq ?_
 | refine aw_region ?_
 | refine awo_nil ?_
 | refine k_seq ?_
 | refine aw_block ?_
 | refine aw_skip ?_
 | (apply s_pick_t rfl rfl
    · conv => lhs; whnf
    · conv => lhs; whnf
    · first | exact bT1 (by assumption) | exact bT2 (by assumption))
 | (apply s_pick_f rfl rfl
    · conv => lhs; whnf
    · conv => lhs; whnf
    · first | exact bF1 (by assumption) | exact bF2 (by assumption))
 | (apply s_val rfl
    · conv => lhs; whnf
    · conv => lhs; whnf; arg 2; whnf)
 | (apply s_box rfl rfl rfl rfl
    · conv => lhs; whnf; arg 1; whnf
    · rfl)
 | (apply s_wanted_val rfl
    · conv => lhs; whnf
    · conv => lhs; whnf
    · first | rfl | assumption
    · conv => lhs; whnf; arg 2; whnf)
 | (apply s_skipU rfl
    · conv => lhs; whnf
    · conv => lhs; whnf
    · first | rfl | assumption)
 | (apply s_dead rfl
    · conv => lhs; whnf
    · rfl
    · rfl)
 | (apply s_guard_valU rfl
    · conv => lhs; whnf
    · conv => lhs; whnf
    · conv => lhs; whnf; arg 2; whnf)
 | (apply aw_cond_t
    · conv => lhs; whnf; arg 1; arg 1; whnf)
 | (apply aw_cond_f
    · conv => lhs; whnf; arg 1; arg 1; whnf)
 | refine aw_ret ?_
 | refine k_seq_ret ?_
 | refine k_block_ret ?_
 | refine k_end_ret ?_
 | (refine ⟨_, by conv => lhs; whnf; arg 2; whnf, ?_⟩; conv => rhs; whnf)
 | exact trivial
 | intro hg)
  all_goals
    clear h1 h2 h3 he e hk hs hkey
    have hT : ((d.f 2).s.toList == ({ data := #[] } : ByteArray).toList) = ((d.f 2).s.data.toList == []) := str_is _ []
    have hT1 : ((d.f 2).s.toList == ({ data := #[116, 114, 117, 101] } : ByteArray).toList) = ((d.f 2).s.data.toList == [116, 114, 117, 101]) := str_is _ _
    have hT2 : ((d.f 2).s.toList == ({ data := #[102, 97, 108, 115, 101] } : ByteArray).toList) = ((d.f 2).s.data.toList == [102, 97, 108, 115, 101]) := str_is _ _
    have hT3 : ((d.f 2).s.toList == ({ data := #[110, 117, 108, 108] } : ByteArray).toList) = ((d.f 2).s.data.toList == [110, 117, 108, 108]) := str_is _ _
    simp only [hT, hT1, hT2, hT3] at *
    clear hT hT1 hT2 hT3
    unfold enumR
    generalize ((d.f 2).s.data.toList == []) = t at *
    generalize ((d.f 2).s.data.toList == [116, 114, 117, 101]) = t1 at *
    generalize ((d.f 2).s.data.toList == [102, 97, 108, 115, 101]) = t2 at *
    generalize ((d.f 2).s.data.toList == [110, 117, 108, 108]) = t3 at *
    generalize nameB (d.f 2).s = v at *
    generalize ((d.f 4).l.any fun x => !nameB x.s) = ks at *
    generalize decide (strsR d).Nodup = y at *
    generalize (d.f 4).l.length = a at *
    generalize (d.f 3).l.length = b at *
    generalize (d.f 1).n = i at *
    refine congrArg (fun b => V.c (.bool b)) ?_
    unfold nodeK
    simp_all
  all_goals try (intros; omega)
end
end Go.Proofs.YthjiclhfhjdjpaaGreatDoor
namespace Go.Proofs.YthjiclhfhjdjpaaGreatDoor
open Go.RowKit
set_option linter.unusedSectionVars false
attribute [local irreducible] wpList Calls Code.wp AW AWo OpOk seqK blockK scopeK loopK endK AC absLex Yld Sub
attribute [local irreducible] ACB ACX ACE absLexG YldG
section
variable (d : D) (hk : (d.f 4).l.length ≤ 1000000000) (hs : (d.f 2).s.size ≤ 1000000000) (hkey : ∀ i, i < (d.f 4).l.length → (gD (d.f 4).l i).s.size ≤ 1000000000)
include hk hs hkey
set_option maxHeartbeats 8000000 in
set_option maxRecDepth 100000 in
theorem node_ac6 (hn : (d.f 0).n = 6) : AC EN5 Tryz.prog 296 [.agg (cellsV Tryz.prog 12 84 d), .c (.bool true)] (.c (.bool (nodeL d))) := by
  have h1 := name_ac (d.f 2).s hs
  have h2 := twice_ac (d.f 4).l hk
  rw [twice_R] at h2
  have h3 := containsKey_ac (d.f 4).l (fun x => !nameB x.s) hk fun i hi => key1_ac _ (hkey i hi)
  have e : cellsV Tryz.prog 12 84 d = [.c (.int .i64 (d.f 0).n), .c (.int .i64 (d.f 1).n), .c (.string (d.f 2).s), .sl 84 (d.f 3).l, .sl 9 (d.f 4).l] := rfl
  unfold nodeL
  rw [e, hn]
  refine ac_enter 137 Tryz.func296 rfl rfl rfl rfl ?_
  intro s w he
  repeat' (first
 | (apply s_wpick_t rfl rfl rfl
    · conv => lhs; whnf
    · first | rfl | assumption
    · conv => lhs; whnf
    · first | exact bT1 (by assumption) | exact bT2 (by assumption) | rfl)
 | (apply s_wpick_f rfl rfl rfl
    · conv => lhs; whnf
    · first | rfl | assumption
    · conv => lhs; whnf
    · first | exact bF1 (by assumption) | exact bF2 (by assumption) | rfl)
 | refine aw_seq ?_
 | refine aw_region ?_
 | refine awo_nil ?_
 | refine k_seq ?_
 | refine aw_block ?_
 | refine aw_skip ?_
 | (apply s_pick_t rfl rfl
    · conv => lhs; whnf
    · conv => lhs; whnf
    · first | exact bT1 (by assumption) | exact bT2 (by assumption))
 | (apply s_pick_f rfl rfl
    · conv => lhs; whnf
    · conv => lhs; whnf
    · first | exact bF1 (by assumption) | exact bF2 (by assumption))
 | (apply s_val rfl
    · conv => lhs; whnf
    · conv => lhs; whnf; arg 2; whnf)
 | (apply s_box rfl rfl rfl rfl
    · conv => lhs; whnf; arg 1; whnf
    · rfl)
 | (apply s_wanted_val rfl
    · conv => lhs; whnf
    · conv => lhs; whnf
    · first | rfl | assumption
    · conv => lhs; whnf; arg 2; whnf)
 | (apply s_wanted_call rfl
    · conv => lhs; whnf
    · conv => lhs; whnf
    · first | rfl | assumption
    · conv => lhs; whnf
    · first | exact h1 | exact h2 | exact h3)
 | (apply s_skipU rfl
    · conv => lhs; whnf
    · conv => lhs; whnf
    · first | rfl | assumption)
 | (apply s_dead rfl
    · conv => lhs; whnf
    · rfl
    · rfl)
 | (apply s_guard_valU rfl
    · conv => lhs; whnf
    · conv => lhs; whnf
    · conv => lhs; whnf; arg 2; whnf)
 | (apply aw_cond_t
    · conv => lhs; whnf; arg 1; arg 1; whnf)
 | (apply aw_cond_f
    · conv => lhs; whnf; arg 1; arg 1; whnf)
 | (refine aw_cond (by conv => lhs; whnf) ?_ ?_ <;> intro hb)
 | refine aw_ret ?_
 | refine k_seq_ret ?_
 | refine k_block_ret ?_
 | refine k_end_ret ?_
 | (refine ⟨_, by conv => lhs; whnf; arg 2; whnf, ?_⟩; conv => rhs; whnf)
 | exact trivial
 | intro hg)
  all_goals
    clear h1 h2 h3 he e hk hs hkey
    have hT : ((d.f 2).s.toList == ({ data := #[] } : ByteArray).toList) = ((d.f 2).s.data.toList == []) := str_is _ []
    have hT1 : ((d.f 2).s.toList == ({ data := #[116, 114, 117, 101] } : ByteArray).toList) = ((d.f 2).s.data.toList == [116, 114, 117, 101]) := str_is _ _
    have hT2 : ((d.f 2).s.toList == ({ data := #[102, 97, 108, 115, 101] } : ByteArray).toList) = ((d.f 2).s.data.toList == [102, 97, 108, 115, 101]) := str_is _ _
    have hT3 : ((d.f 2).s.toList == ({ data := #[110, 117, 108, 108] } : ByteArray).toList) = ((d.f 2).s.data.toList == [110, 117, 108, 108]) := str_is _ _
    simp only [hT, hT1, hT2, hT3] at *
    clear hT hT1 hT2 hT3
    unfold enumR
    generalize ((d.f 2).s.data.toList == []) = t at *
    generalize ((d.f 2).s.data.toList == [116, 114, 117, 101]) = t1 at *
    generalize ((d.f 2).s.data.toList == [102, 97, 108, 115, 101]) = t2 at *
    generalize ((d.f 2).s.data.toList == [110, 117, 108, 108]) = t3 at *
    generalize nameB (d.f 2).s = v at *
    generalize ((d.f 4).l.any fun x => !nameB x.s) = ks at *
    generalize decide (strsR d).Nodup = y at *
    generalize (d.f 4).l.length = a at *
    generalize (d.f 3).l.length = b at *
    generalize (d.f 1).n = i at *
    refine congrArg (fun b => V.c (.bool b)) ?_
    unfold nodeK
    simp_all
  all_goals try (intros; omega)
end
end Go.Proofs.YthjiclhfhjdjpaaGreatDoor
namespace Go.Proofs.YthjiclhfhjdjpaaGreatDoor
open Go.RowKit
set_option linter.unusedSectionVars false
attribute [local irreducible] wpList Calls Code.wp AW AWo OpOk seqK blockK scopeK loopK endK AC absLex Yld Sub
attribute [local irreducible] ACB ACX ACE absLexG YldG
section
variable (d : D) (hk : (d.f 4).l.length ≤ 1000000000) (hs : (d.f 2).s.size ≤ 1000000000) (hkey : ∀ i, i < (d.f 4).l.length → (gD (d.f 4).l i).s.size ≤ 1000000000)
include hk hs hkey
set_option maxHeartbeats 8000000 in
set_option maxRecDepth 100000 in
theorem node_ac7 (hn : (d.f 0).n = 7) : AC EN5 Tryz.prog 296 [.agg (cellsV Tryz.prog 12 84 d), .c (.bool true)] (.c (.bool (nodeL d))) := by
  have h1 := name_ac (d.f 2).s hs
  have h2 := twice_ac (d.f 4).l hk
  rw [twice_R] at h2
  have h3 := containsKey_ac (d.f 4).l (fun x => !nameB x.s) hk fun i hi => key1_ac _ (hkey i hi)
  have e : cellsV Tryz.prog 12 84 d = [.c (.int .i64 (d.f 0).n), .c (.int .i64 (d.f 1).n), .c (.string (d.f 2).s), .sl 84 (d.f 3).l, .sl 9 (d.f 4).l] := rfl
  unfold nodeL
  rw [e, hn]
  refine ac_enter 137 Tryz.func296 rfl rfl rfl rfl ?_
  intro s w he
  repeat' (first
 | (apply s_wpick_t rfl rfl rfl
    · conv => lhs; whnf
    · first | rfl | assumption
    · conv => lhs; whnf
    · first | exact bT1 (by assumption) | exact bT2 (by assumption) | rfl)
 | (apply s_wpick_f rfl rfl rfl
    · conv => lhs; whnf
    · first | rfl | assumption
    · conv => lhs; whnf
    · first | exact bF1 (by assumption) | exact bF2 (by assumption) | rfl)
 | refine aw_seq ?_
 | refine aw_region ?_
 | refine awo_nil ?_
 | refine k_seq ?_
 | refine aw_block ?_
 | refine aw_skip ?_
 | (apply s_pick_t rfl rfl
    · conv => lhs; whnf
    · conv => lhs; whnf
    · first | exact bT1 (by assumption) | exact bT2 (by assumption))
 | (apply s_pick_f rfl rfl
    · conv => lhs; whnf
    · conv => lhs; whnf
    · first | exact bF1 (by assumption) | exact bF2 (by assumption))
 | (apply s_val rfl
    · conv => lhs; whnf
    · conv => lhs; whnf; arg 2; whnf)
 | (apply s_box rfl rfl rfl rfl
    · conv => lhs; whnf; arg 1; whnf
    · rfl)
 | (apply s_wanted_val rfl
    · conv => lhs; whnf
    · conv => lhs; whnf
    · first | rfl | assumption
    · conv => lhs; whnf; arg 2; whnf)
 | (apply s_wanted_call rfl
    · conv => lhs; whnf
    · conv => lhs; whnf
    · first | rfl | assumption
    · conv => lhs; whnf
    · first | exact h1 | exact h2 | exact h3)
 | (apply s_skipU rfl
    · conv => lhs; whnf
    · conv => lhs; whnf
    · first | rfl | assumption)
 | (apply s_dead rfl
    · conv => lhs; whnf
    · rfl
    · rfl)
 | (apply s_guard_valU rfl
    · conv => lhs; whnf
    · conv => lhs; whnf
    · conv => lhs; whnf; arg 2; whnf)
 | (apply aw_cond_t
    · conv => lhs; whnf; arg 1; arg 1; whnf)
 | (apply aw_cond_f
    · conv => lhs; whnf; arg 1; arg 1; whnf)
 | (refine aw_cond (by conv => lhs; whnf) ?_ ?_ <;> intro hb)
 | refine aw_ret ?_
 | refine k_seq_ret ?_
 | refine k_block_ret ?_
 | refine k_end_ret ?_
 | (refine ⟨_, by conv => lhs; whnf; arg 2; whnf, ?_⟩; conv => rhs; whnf)
 | exact trivial
 | intro hg)
  all_goals
    clear h1 h2 h3 he e hk hs hkey
    have hT : ((d.f 2).s.toList == ({ data := #[] } : ByteArray).toList) = ((d.f 2).s.data.toList == []) := str_is _ []
    have hT1 : ((d.f 2).s.toList == ({ data := #[116, 114, 117, 101] } : ByteArray).toList) = ((d.f 2).s.data.toList == [116, 114, 117, 101]) := str_is _ _
    have hT2 : ((d.f 2).s.toList == ({ data := #[102, 97, 108, 115, 101] } : ByteArray).toList) = ((d.f 2).s.data.toList == [102, 97, 108, 115, 101]) := str_is _ _
    have hT3 : ((d.f 2).s.toList == ({ data := #[110, 117, 108, 108] } : ByteArray).toList) = ((d.f 2).s.data.toList == [110, 117, 108, 108]) := str_is _ _
    simp only [hT, hT1, hT2, hT3] at *
    clear hT hT1 hT2 hT3
    unfold enumR
    generalize ((d.f 2).s.data.toList == []) = t at *
    generalize ((d.f 2).s.data.toList == [116, 114, 117, 101]) = t1 at *
    generalize ((d.f 2).s.data.toList == [102, 97, 108, 115, 101]) = t2 at *
    generalize ((d.f 2).s.data.toList == [110, 117, 108, 108]) = t3 at *
    generalize nameB (d.f 2).s = v at *
    generalize ((d.f 4).l.any fun x => !nameB x.s) = ks at *
    generalize decide (strsR d).Nodup = y at *
    generalize (d.f 4).l.length = a at *
    generalize (d.f 3).l.length = b at *
    generalize (d.f 1).n = i at *
    refine congrArg (fun b => V.c (.bool b)) ?_
    unfold nodeK
    simp_all
  all_goals try (intros; omega)
end
end Go.Proofs.YthjiclhfhjdjpaaGreatDoor
namespace Go.Proofs.YthjiclhfhjdjpaaGreatDoor
open Go.RowKit
set_option linter.unusedSectionVars false
attribute [local irreducible] wpList Calls Code.wp AW AWo OpOk seqK blockK scopeK loopK endK AC absLex Yld Sub
attribute [local irreducible] ACB ACX ACE absLexG YldG
section
variable (d : D) (hk : (d.f 4).l.length ≤ 1000000000) (hs : (d.f 2).s.size ≤ 1000000000) (hkey : ∀ i, i < (d.f 4).l.length → (gD (d.f 4).l i).s.size ≤ 1000000000)
include hk hs hkey
set_option maxHeartbeats 8000000 in
set_option maxRecDepth 100000 in
theorem node_acX (h0 : (d.f 0).n ≠ 0) (h1 : (d.f 0).n ≠ 1) (h2 : (d.f 0).n ≠ 2) (h3 : (d.f 0).n ≠ 3) (h4 : (d.f 0).n ≠ 4) (h5 : (d.f 0).n ≠ 5) (h6 : (d.f 0).n ≠ 6) (h7 : (d.f 0).n ≠ 7) : AC EN5 Tryz.prog 296 [.agg (cellsV Tryz.prog 12 84 d), .c (.bool true)] (.c (.bool (nodeL d))) := by
  have c1 := name_ac (d.f 2).s hs
  have c2 := twice_ac (d.f 4).l hk
  rw [twice_R] at c2
  have c3 := containsKey_ac (d.f 4).l (fun x => !nameB x.s) hk fun i hi => key1_ac _ (hkey i hi)
  have e : cellsV Tryz.prog 12 84 d = [.c (.int .i64 (d.f 0).n), .c (.int .i64 (d.f 1).n), .c (.string (d.f 2).s), .sl 84 (d.f 3).l, .sl 9 (d.f 4).l] := rfl
  unfold nodeL
  rw [e]
  have q0 : ((d.f 0).n == 0) = false := by simpa using h0
  have q1 : ((d.f 0).n == 1) = false := by simpa using h1
  have q2 : ((d.f 0).n == 2) = false := by simpa using h2
  have q3 : ((d.f 0).n == 3) = false := by simpa using h3
  have q4 : ((d.f 0).n == 4) = false := by simpa using h4
  have q5 : ((d.f 0).n == 5) = false := by simpa using h5
  have q6 : ((d.f 0).n == 6) = false := by simpa using h6
  have q7 : ((d.f 0).n == 7) = false := by simpa using h7
  have g1 : (((d.f 0).n == 1) == false) = true := by rw [q1]; rfl
  have g2 : (((d.f 0).n == 2) == false) = true := by rw [q2]; rfl
  have g3 : (((d.f 0).n == 3) == false) = true := by rw [q3]; rfl
  have g4 : (((d.f 0).n == 4) == false) = true := by rw [q4]; rfl
  have g7 : (((d.f 0).n == 7) == false) = true := by rw [q7]; rfl
  have m5 : ((d.f 0).n != 5) = true := by simpa using h5
  have n5 : (((d.f 0).n != 5) == true) = true := by rw [m5]; rfl
  have m6 : ((d.f 0).n != 6) = true := by simpa using h6
  have n6 : (((d.f 0).n != 6) == true) = true := by rw [m6]; rfl
  refine ac_enter 137 Tryz.func296 rfl rfl rfl rfl ?_
  intro s w he
  repeat' (first
 | (apply s_wpick_t rfl rfl rfl
    · conv => lhs; whnf
    · first | rfl | assumption
    · conv => lhs; whnf
    · first | exact bT1 (by assumption) | exact bT2 (by assumption) | rfl)
 | (apply s_wpick_f rfl rfl rfl
    · conv => lhs; whnf
    · first | rfl | assumption
    · conv => lhs; whnf
    · first | exact bF1 (by assumption) | exact bF2 (by assumption) | rfl)
 | (apply aw_cond_kf
    · conv => lhs; whnf
    · assumption)
 | refine aw_seq ?_
 | refine aw_region ?_
 | refine awo_nil ?_
 | refine k_seq ?_
 | refine k_block ?_
 | refine aw_block ?_
 | refine aw_skip ?_
 | (apply s_pick_t rfl rfl
    · conv => lhs; whnf
    · conv => lhs; whnf
    · first | exact bT1 (by assumption) | exact bT2 (by assumption))
 | (apply s_pick_f rfl rfl
    · conv => lhs; whnf
    · conv => lhs; whnf
    · first | exact bF1 (by assumption) | exact bF2 (by assumption))
 | (apply s_val rfl
    · conv => lhs; whnf
    · conv => lhs; whnf; arg 2; whnf)
 | (apply s_box rfl rfl rfl rfl
    · conv => lhs; whnf; arg 1; whnf
    · rfl)
 | (apply s_wanted_val rfl
    · conv => lhs; whnf
    · conv => lhs; whnf
    · first | rfl | assumption
    · conv => lhs; whnf; arg 2; whnf)
 | (apply s_skipU rfl
    · conv => lhs; whnf
    · conv => lhs; whnf
    · first | rfl | assumption)
 | (apply s_dead rfl
    · conv => lhs; whnf
    · rfl
    · rfl)
 | (apply s_guard_valU rfl
    · conv => lhs; whnf
    · conv => lhs; whnf
    · conv => lhs; whnf; arg 2; whnf)
 | (apply aw_cond_t
    · conv => lhs; whnf; arg 1; arg 1; whnf)
 | (refine aw_cond (by conv => lhs; whnf) ?_ ?_ <;> intro hb)
 | refine aw_ret ?_
 | refine k_seq_ret ?_
 | refine k_end_ret ?_
 | (refine ⟨_, by conv => lhs; whnf; arg 2; whnf, ?_⟩; conv => rhs; whnf)
 | exact trivial
 | intro hg)
  all_goals
    clear c1 c2 c3 he e hk hs hkey
    have hT : ((d.f 2).s.toList == ({ data := #[] } : ByteArray).toList) = ((d.f 2).s.data.toList == []) := str_is _ []
    have hT1 : ((d.f 2).s.toList == ({ data := #[116, 114, 117, 101] } : ByteArray).toList) = ((d.f 2).s.data.toList == [116, 114, 117, 101]) := str_is _ _
    have hT2 : ((d.f 2).s.toList == ({ data := #[102, 97, 108, 115, 101] } : ByteArray).toList) = ((d.f 2).s.data.toList == [102, 97, 108, 115, 101]) := str_is _ _
    have hT3 : ((d.f 2).s.toList == ({ data := #[110, 117, 108, 108] } : ByteArray).toList) = ((d.f 2).s.data.toList == [110, 117, 108, 108]) := str_is _ _
    simp only [hT, hT1, hT2, hT3] at *
    clear hT hT1 hT2 hT3
    unfold enumR
    generalize ((d.f 2).s.data.toList == []) = t at *
    generalize ((d.f 2).s.data.toList == [116, 114, 117, 101]) = t1 at *
    generalize ((d.f 2).s.data.toList == [102, 97, 108, 115, 101]) = t2 at *
    generalize ((d.f 2).s.data.toList == [110, 117, 108, 108]) = t3 at *
    generalize nameB (d.f 2).s = v at *
    generalize ((d.f 4).l.any fun x => !nameB x.s) = ks at *
    generalize decide (strsR d).Nodup = y at *
    generalize (d.f 4).l.length = a at *
    generalize (d.f 3).l.length = b at *
    generalize (d.f 1).n = i at *
    generalize (d.f 0).n = n at *
    refine congrArg (fun b => V.c (.bool b)) ?_
    unfold nodeK
    simp_all
  all_goals try (intros; omega)
end
end Go.Proofs.YthjiclhfhjdjpaaGreatDoor
namespace Go.Proofs.YthjiclhfhjdjpaaGreatDoor
open Go.RowKit
set_option linter.unusedSectionVars false
attribute [local irreducible] wpList Calls Code.wp AW AWo OpOk seqK blockK scopeK loopK endK AC absLex Yld Sub
attribute [local irreducible] ACB ACX ACE absLexG YldG
section
variable (d : D) (hk : (d.f 4).l.length ≤ 1000000000) (hs : (d.f 2).s.size ≤ 1000000000) (hkey : ∀ i, i < (d.f 4).l.length → (gD (d.f 4).l i).s.size ≤ 1000000000)
include hk hs hkey
set_option maxHeartbeats 8000000 in
set_option maxRecDepth 100000 in
theorem node_ac : AC EN5 Tryz.prog 296 [.agg (cellsV Tryz.prog 12 84 d), .c (.bool true)] (.c (.bool (nodeL d))) := by
  by_cases h0 : (d.f 0).n = 0
  · exact node_ac0 d hk hs hkey h0
  by_cases h1 : (d.f 0).n = 1
  · exact node_ac1 d hk hs hkey h1
  by_cases h2 : (d.f 0).n = 2
  · exact node_ac2 d hk hs hkey h2
  by_cases h3 : (d.f 0).n = 3
  · exact node_ac3 d hk hs hkey h3
  by_cases h4 : (d.f 0).n = 4
  · exact node_ac4 d hk hs hkey h4
  by_cases h5 : (d.f 0).n = 5
  · exact node_ac5 d hk hs hkey h5
  by_cases h6 : (d.f 0).n = 6
  · exact node_ac6 d hk hs hkey h6
  by_cases h7 : (d.f 0).n = 7
  · exact node_ac7 d hk hs hkey h7
  exact node_acX d hk hs hkey h0 h1 h2 h3 h4 h5 h6 h7
end
end Go.Proofs.YthjiclhfhjdjpaaGreatDoor
namespace Go.Proofs.YthjiclhfhjdjpaaGreatDoor
open Go.RowKit
set_option linter.unusedSectionVars false
attribute [local irreducible] wpList Calls Code.wp AW AWo OpOk seqK blockK scopeK loopK endK AC absLex Yld Sub
attribute [local irreducible] ACB ACX ACE absLexG YldG
set_option maxHeartbeats 8000000 in
set_option maxRecDepth 100000 in
theorem every1_acb (x : D) (b : Bool) (h : AC EN5 Tryz.prog 232 [.agg (cellsV Tryz.prog 12 84 x), .c (.bool true)] (.c (.bool b))) :
    ACB EN5 Tryz.prog 297 [.agg (cellsV Tryz.prog 12 84 x), .bx (pn 0) 0] [.box 4 [.c (.bool true)]] (.c (.bool (!b))) [.box 4 [.c (.bool true)]] := by
  refine acb_enter (fn := Tryz.f297) 8 Tryz.func297 rfl rfl ?_
  intro pas w0 w he hpp
  repeat' (first
 | refine aw_seq ?_
 | refine aw_region ?_
 | refine awo_nil ?_
 | refine k_seq ?_
 | (apply s_val rfl
    · conv => lhs; whnf
    · conv => lhs; whnf; arg 2; whnf)
 | (apply s_call rfl
    · conv => lhs; whnf
    · conv => lhs; whnf
    · first | exact h)
 | (apply s_box rfl rfl rfl rfl
    · conv => lhs; whnf; arg 1; whnf
    · rfl)
 | refine aw_ret ?_
 | refine k_endB ⟨?_, ?_⟩
 | (refine ⟨_, by conv => lhs; whnf; arg 2; whnf, ?_⟩; conv => rhs; whnf)
 | exact trivial)
  exact ⟨rfl, trivial⟩
set_option maxHeartbeats 8000000 in
set_option maxRecDepth 100000 in
theorem every_ac : ∀ (k : Nat) (d : D), Dp k d → bulkD d ≤ 1000000000 → AC EN5 Tryz.prog 232 [.agg (cellsV Tryz.prog 12 84 d), .c (.bool true)] (.c (.bool (everyL k d)))
  | 0, _, h, _ => h.elim
  | k + 1, d, h, hw => by
    have hin := bk_in hw
    have hnode := node_ac d hin.keys hin.text hin.key
    have hc := containsEvery_acb true (d.f 3).l (fun x => !everyL k x) hin.items fun i hi => every1_acb _ _ (every_ac k _ (h i hi) (by have := hin.at_ i hi; omega))
    have e : everyL (k + 1) d = (nodeL d && !((d.f 3).l.any fun x => !everyL k x)) := rfl
    rw [e]
    refine ac_enter 15 Tryz.func232 rfl rfl rfl rfl ?_
    intro s w he
    repeat' (first
 | (apply s_guard_boxw (m := 3) rfl
    · conv => lhs; whnf
    · conv => lhs; whnf
    · conv => lhs; whnf
    · rfl
    · conv => lhs; whnf; arg 1; whnf
    · exact fun _ => rfl
    · first | exact hc
    · exact fun _ => rfl
    · exact fun _ => rfl
    · exact fun _ => rfl)
 | refine aw_seq ?_
 | refine aw_region ?_
 | refine awo_nil ?_
 | refine k_seq ?_
 | (apply s_pick_t rfl rfl
    · conv => lhs; whnf
    · conv => lhs; whnf
    · first | exact bT1 (by assumption) | exact bT2 (by assumption))
 | (apply s_pick_f rfl rfl
    · conv => lhs; whnf
    · conv => lhs; whnf
    · first | exact bF1 (by assumption) | exact bF2 (by assumption))
 | (apply s_val rfl
    · conv => lhs; whnf
    · conv => lhs; whnf; arg 2; whnf)
 | (apply s_call rfl
    · conv => lhs; whnf
    · conv => lhs; whnf
    · first | exact hnode)
 | (apply s_box rfl rfl rfl rfl
    · conv => lhs; whnf; arg 1; whnf
    · rfl)
 | (apply s_wanted_val rfl
    · conv => lhs; whnf
    · conv => lhs; whnf
    · first | rfl | assumption
    · conv => lhs; whnf; arg 2; whnf)
 | (apply s_skipU rfl
    · conv => lhs; whnf
    · conv => lhs; whnf
    · first | rfl | assumption)
 | (apply s_guard_valU rfl
    · conv => lhs; whnf
    · conv => lhs; whnf
    · conv => lhs; whnf; arg 2; whnf)
 | refine aw_ret ?_
 | refine k_end_ret ?_
 | (refine ⟨_, by conv => lhs; whnf; arg 2; whnf, ?_⟩; conv => rhs; whnf)
 | exact trivial
 | intro hg)
    all_goals
      clear hnode hc he e
      generalize nodeL d = b at *
      generalize ((d.f 3).l.any fun x => !everyL k x) = c at *
      cases b
      · first
          | rfl
          | (exfalso; simp at *)
      · first
          | rfl
          | (exfalso; simp at *)
set_option maxHeartbeats 8000000 in
set_option maxRecDepth 100000 in
theorem lit_ac (d : D) (hw : bulkD d ≤ 1000000000) : AC EN5 Tryz.prog 155 [.agg (cellsV Tryz.prog 12 84 d)] (.c (.bool (litR d))) := by
  have h := dp_bulk (bulkD d) d (Nat.le_refl _)
  have h1 := size_ac _ d h hw
  have h2 := depth_ac _ d h hw
  have h3 := every_ac _ d h hw
  unfold litR
  refine ac_enter 15 Tryz.func155 rfl rfl rfl rfl ?_
  intro s w he
  repeat' (first
 | refine aw_seq ?_
 | refine aw_region ?_
 | refine awo_nil ?_
 | refine k_seq ?_
 | (apply s_pick_t rfl rfl
    · conv => lhs; whnf
    · conv => lhs; whnf
    · first | exact bT1 (by assumption) | exact bT2 (by assumption))
 | (apply s_pick_f rfl rfl
    · conv => lhs; whnf
    · conv => lhs; whnf
    · first | exact bF1 (by assumption) | exact bF2 (by assumption))
 | (apply s_val rfl
    · conv => lhs; whnf
    · conv => lhs; whnf; arg 2; whnf)
 | (apply s_call rfl
    · conv => lhs; whnf
    · conv => lhs; whnf
    · first | exact h1 | exact h2 | exact h3)
 | (apply s_box rfl rfl rfl rfl
    · conv => lhs; whnf; arg 1; whnf
    · rfl)
 | (apply s_wanted_val rfl
    · conv => lhs; whnf
    · conv => lhs; whnf
    · first | rfl | assumption
    · conv => lhs; whnf; arg 2; whnf)
 | (apply s_wanted_call rfl
    · conv => lhs; whnf
    · conv => lhs; whnf
    · first | rfl | assumption
    · conv => lhs; whnf
    · first | exact h1 | exact h2 | exact h3)
 | (apply s_skipU rfl
    · conv => lhs; whnf
    · conv => lhs; whnf
    · first | rfl | assumption)
 | (apply s_guard_valU rfl
    · conv => lhs; whnf
    · conv => lhs; whnf
    · conv => lhs; whnf; arg 2; whnf)
 | refine aw_ret ?_
 | refine k_end_ret ?_
 | (refine ⟨_, by conv => lhs; whnf; arg 2; whnf, ?_⟩; conv => rhs; whnf)
 | exact trivial
 | intro hg)
  all_goals
    clear h1 h2 h3 he
    refine congrArg (fun b => V.c (.bool b)) ?_
    have e1 : decide ((sizeR (bulkD d) d : Int) ≤ 4096) = decide (sizeR (bulkD d) d ≤ 4096) := decide_eq_decide.2 (by omega)
    have e2 : decide ((depthR (bulkD d) d : Int) ≤ 24) = decide (depthR (bulkD d) d ≤ 24) := decide_eq_decide.2 (by omega)
    simp only [e1, e2] at *
    simp_all
    try (intros; omega)
set_option maxHeartbeats 8000000 in
set_option maxRecDepth 100000 in
theorem bare1_ac (x : D) (b : Bool) (h : AC EN5 Tryz.prog 156 [.agg (cellsV Tryz.prog 12 84 x)] (.c (.bool b))) : AC EN5 Tryz.prog 234 [.agg (cellsV Tryz.prog 12 84 x)] (.c (.bool (!b))) := by
  refine ac_enter 6 Tryz.func234 rfl rfl rfl rfl ?_
  intro s w he
  repeat' (first
 | refine aw_seq ?_
 | refine aw_region ?_
 | refine awo_nil ?_
 | refine k_seq ?_
 | (apply s_val rfl
    · conv => lhs; whnf
    · conv => lhs; whnf; arg 2; whnf)
 | (apply s_call rfl
    · conv => lhs; whnf
    · conv => lhs; whnf
    · first | exact h)
 | (apply s_box rfl rfl rfl rfl
    · conv => lhs; whnf; arg 1; whnf
    · rfl)
 | refine aw_ret ?_
 | refine k_end_ret ?_
 | (refine ⟨_, by conv => lhs; whnf; arg 2; whnf, ?_⟩; conv => rhs; whnf)
 | exact trivial)
set_option maxHeartbeats 8000000 in
set_option maxRecDepth 100000 in
theorem bare_ac : ∀ (k : Nat) (d : D), Dp k d → bulkD d ≤ 1000000000 → AC EN5 Tryz.prog 156 [.agg (cellsV Tryz.prog 12 84 d)] (.c (.bool (bareR k d)))
  | 0, _, h, _ => h.elim
  | k + 1, d, h, hw => by
    have hin := bk_in hw
    have hc := containsBare_ac (d.f 3).l (fun x => !bareR k x) hin.items fun i hi => bare1_ac _ _ (bare_ac k _ (h i hi) (by have := hin.at_ i hi; omega))
    have e : bareR (k + 1) d = (!((d.f 0).n == 7) && !((d.f 3).l.any fun x => !bareR k x)) := rfl
    rw [e]
    refine ac_enter 12 Tryz.func156 rfl rfl rfl rfl ?_
    intro s w he
    repeat' (first
 | refine aw_seq ?_
 | refine aw_region ?_
 | refine awo_nil ?_
 | refine k_seq ?_
 | (apply s_pick_t rfl rfl
    · conv => lhs; whnf
    · conv => lhs; whnf
    · first | exact bT1 (by assumption) | exact bT2 (by assumption))
 | (apply s_pick_f rfl rfl
    · conv => lhs; whnf
    · conv => lhs; whnf
    · first | exact bF1 (by assumption) | exact bF2 (by assumption))
 | (apply s_val rfl
    · conv => lhs; whnf
    · conv => lhs; whnf; arg 2; whnf)
 | (apply s_box rfl rfl rfl rfl
    · conv => lhs; whnf; arg 1; whnf
    · rfl)
 | (apply s_wanted_val rfl
    · conv => lhs; whnf
    · conv => lhs; whnf
    · first | rfl | assumption
    · conv => lhs; whnf; arg 2; whnf)
 | (apply s_wanted_call rfl
    · conv => lhs; whnf
    · conv => lhs; whnf
    · first | rfl | assumption
    · conv => lhs; whnf
    · first | exact hc)
 | (apply s_skipU rfl
    · conv => lhs; whnf
    · conv => lhs; whnf
    · first | rfl | assumption)
 | (apply s_guard_valU rfl
    · conv => lhs; whnf
    · conv => lhs; whnf
    · conv => lhs; whnf; arg 2; whnf)
 | refine aw_ret ?_
 | refine k_end_ret ?_
 | (refine ⟨_, by conv => lhs; whnf; arg 2; whnf, ?_⟩; conv => rhs; whnf)
 | exact trivial
 | intro hg)
    all_goals
      clear hc he e
      refine congrArg (fun b => V.c (.bool b)) ?_
      simp_all
set_option maxHeartbeats 8000000 in
set_option maxRecDepth 100000 in
theorem arg1_ac (x : D) (hw : bulkD x ≤ 1000000000) : AC EN5 Tryz.prog 300 [.agg (cellsV Tryz.prog 12 86 x)] (.c (.bool (!argR x))) := by
  have b0 := bulkD_wD x
  have b1 := wD_f x 0
  have b2 := wD_str (x.f 0)
  have b3 := wD_f x 1
  have b4 := bulkD_wD (x.f 1)
  have hn := name_ac (x.f 0).s (by omega)
  have hl := lit_ac (x.f 1) (by omega)
  unfold argR
  refine ac_enter 13 Tryz.func300 rfl rfl rfl rfl ?_
  intro s w he
  repeat' (first
 | refine aw_seq ?_
 | refine aw_region ?_
 | refine awo_nil ?_
 | refine k_seq ?_
 | (apply s_pick_t rfl rfl
    · conv => lhs; whnf
    · conv => lhs; whnf
    · first | exact bT1 (by assumption) | exact bT2 (by assumption))
 | (apply s_pick_f rfl rfl
    · conv => lhs; whnf
    · conv => lhs; whnf
    · first | exact bF1 (by assumption) | exact bF2 (by assumption))
 | (apply s_val rfl
    · conv => lhs; whnf
    · conv => lhs; whnf; arg 2; whnf)
 | (apply s_call rfl
    · conv => lhs; whnf
    · conv => lhs; whnf
    · first | exact hn | exact hl)
 | (apply s_box rfl rfl rfl rfl
    · conv => lhs; whnf; arg 1; whnf
    · rfl)
 | (apply s_wanted_val rfl
    · conv => lhs; whnf
    · conv => lhs; whnf
    · first | rfl | assumption
    · conv => lhs; whnf; arg 2; whnf)
 | (apply s_wanted_call rfl
    · conv => lhs; whnf
    · conv => lhs; whnf
    · first | rfl | assumption
    · conv => lhs; whnf
    · first | exact hn | exact hl)
 | (apply s_skipU rfl
    · conv => lhs; whnf
    · conv => lhs; whnf
    · first | rfl | assumption)
 | (apply s_guard_valU rfl
    · conv => lhs; whnf
    · conv => lhs; whnf
    · conv => lhs; whnf; arg 2; whnf)
 | refine aw_ret ?_
 | refine k_end_ret ?_
 | (refine ⟨_, by conv => lhs; whnf; arg 2; whnf, ?_⟩; conv => rhs; whnf)
 | exact trivial
 | intro hg)
  all_goals
    clear hn hl he
    refine congrArg (fun b => V.c (.bool b)) ?_
    simp_all
set_option maxHeartbeats 8000000 in
set_option maxRecDepth 100000 in
theorem args_ac (l : List D) (hw : bulkL l ≤ 1000000000) : AC EN5 Tryz.prog 236 [.sl 86 l] (.c (.bool (argsR l))) := by
  have hl := bulkL_len l
  have hc := containsArg_ac l (fun x => !argR x) (by omega) fun i hi => arg1_ac _ (by have := bulkL_get hi; omega)
  have e : decide ((l.length : Int) ≤ 16) = decide (l.length ≤ 16) := decide_eq_decide.2 (by omega)
  unfold argsR
  refine ac_enter 11 Tryz.func236 rfl rfl rfl rfl ?_
  intro s w he
  repeat' (first
 | refine aw_seq ?_
 | refine aw_region ?_
 | refine awo_nil ?_
 | refine k_seq ?_
 | (apply s_pick_t rfl rfl
    · conv => lhs; whnf
    · conv => lhs; whnf
    · first | exact bT1 (by assumption) | exact bT2 (by assumption))
 | (apply s_pick_f rfl rfl
    · conv => lhs; whnf
    · conv => lhs; whnf
    · first | exact bF1 (by assumption) | exact bF2 (by assumption))
 | (apply s_val rfl
    · conv => lhs; whnf
    · conv => lhs; whnf; arg 2; whnf)
 | (apply s_wanted_val rfl
    · conv => lhs; whnf
    · conv => lhs; whnf
    · first | rfl | assumption
    · conv => lhs; whnf; arg 2; whnf)
 | (apply s_wanted_call rfl
    · conv => lhs; whnf
    · conv => lhs; whnf
    · first | rfl | assumption
    · conv => lhs; whnf
    · first | exact hc)
 | (apply s_skipU rfl
    · conv => lhs; whnf
    · conv => lhs; whnf
    · first | rfl | assumption)
 | (apply s_guard_valU rfl
    · conv => lhs; whnf
    · conv => lhs; whnf
    · conv => lhs; whnf; arg 2; whnf)
 | refine aw_ret ?_
 | refine k_end_ret ?_
 | (refine ⟨_, by conv => lhs; whnf; arg 2; whnf, ?_⟩; conv => rhs; whnf)
 | exact trivial
 | intro hg)
  all_goals
    clear hc he
    refine congrArg (fun b => V.c (.bool b)) ?_
    simp only [e] at *
    simp_all
    try (intros; omega)
set_option maxHeartbeats 8000000 in
set_option maxRecDepth 100000 in
theorem dir1_ac (x : D) (hw : bulkD x ≤ 1000000000) : AC EN5 Tryz.prog 302 [.agg (cellsV Tryz.prog 12 150 x)] (.c (.bool (!dirR x))) := by
  have b0 := bulkD_wD x
  have b1 := wD_f x 0
  have b2 := wD_str (x.f 0)
  have b3 := wD_f x 1
  have b4 := wD_list (x.f 1)
  have hn := name_ac (x.f 0).s (by omega)
  have hl := args_ac (x.f 1).l (by omega)
  unfold dirR
  refine ac_enter 13 Tryz.func302 rfl rfl rfl rfl ?_
  intro s w he
  repeat' (first
 | refine aw_seq ?_
 | refine aw_region ?_
 | refine awo_nil ?_
 | refine k_seq ?_
 | (apply s_pick_t rfl rfl
    · conv => lhs; whnf
    · conv => lhs; whnf
    · first | exact bT1 (by assumption) | exact bT2 (by assumption))
 | (apply s_pick_f rfl rfl
    · conv => lhs; whnf
    · conv => lhs; whnf
    · first | exact bF1 (by assumption) | exact bF2 (by assumption))
 | (apply s_val rfl
    · conv => lhs; whnf
    · conv => lhs; whnf; arg 2; whnf)
 | (apply s_call rfl
    · conv => lhs; whnf
    · conv => lhs; whnf
    · first | exact hn | exact hl)
 | (apply s_box rfl rfl rfl rfl
    · conv => lhs; whnf; arg 1; whnf
    · rfl)
 | (apply s_wanted_val rfl
    · conv => lhs; whnf
    · conv => lhs; whnf
    · first | rfl | assumption
    · conv => lhs; whnf; arg 2; whnf)
 | (apply s_wanted_call rfl
    · conv => lhs; whnf
    · conv => lhs; whnf
    · first | rfl | assumption
    · conv => lhs; whnf
    · first | exact hn | exact hl)
 | (apply s_skipU rfl
    · conv => lhs; whnf
    · conv => lhs; whnf
    · first | rfl | assumption)
 | (apply s_guard_valU rfl
    · conv => lhs; whnf
    · conv => lhs; whnf
    · conv => lhs; whnf; arg 2; whnf)
 | refine aw_ret ?_
 | refine k_end_ret ?_
 | (refine ⟨_, by conv => lhs; whnf; arg 2; whnf, ?_⟩; conv => rhs; whnf)
 | exact trivial
 | intro hg)
  all_goals
    clear hn hl he
    refine congrArg (fun b => V.c (.bool b)) ?_
    simp_all
set_option maxHeartbeats 8000000 in
set_option maxRecDepth 100000 in
theorem dirs_ac (l : List D) (hw : bulkL l ≤ 1000000000) : AC EN5 Tryz.prog 237 [.sl 150 l] (.c (.bool (dirsR l))) := by
  have hl := bulkL_len l
  have hc := containsDir_ac l (fun x => !dirR x) (by omega) fun i hi => dir1_ac _ (by have := bulkL_get hi; omega)
  have e : decide ((l.length : Int) ≤ 16) = decide (l.length ≤ 16) := decide_eq_decide.2 (by omega)
  unfold dirsR
  refine ac_enter 11 Tryz.func237 rfl rfl rfl rfl ?_
  intro s w he
  repeat' (first
 | refine aw_seq ?_
 | refine aw_region ?_
 | refine awo_nil ?_
 | refine k_seq ?_
 | (apply s_pick_t rfl rfl
    · conv => lhs; whnf
    · conv => lhs; whnf
    · first | exact bT1 (by assumption) | exact bT2 (by assumption))
 | (apply s_pick_f rfl rfl
    · conv => lhs; whnf
    · conv => lhs; whnf
    · first | exact bF1 (by assumption) | exact bF2 (by assumption))
 | (apply s_val rfl
    · conv => lhs; whnf
    · conv => lhs; whnf; arg 2; whnf)
 | (apply s_wanted_val rfl
    · conv => lhs; whnf
    · conv => lhs; whnf
    · first | rfl | assumption
    · conv => lhs; whnf; arg 2; whnf)
 | (apply s_wanted_call rfl
    · conv => lhs; whnf
    · conv => lhs; whnf
    · first | rfl | assumption
    · conv => lhs; whnf
    · first | exact hc)
 | (apply s_skipU rfl
    · conv => lhs; whnf
    · conv => lhs; whnf
    · first | rfl | assumption)
 | (apply s_guard_valU rfl
    · conv => lhs; whnf
    · conv => lhs; whnf
    · conv => lhs; whnf; arg 2; whnf)
 | refine aw_ret ?_
 | refine k_end_ret ?_
 | (refine ⟨_, by conv => lhs; whnf; arg 2; whnf, ?_⟩; conv => rhs; whnf)
 | exact trivial
 | intro hg)
  all_goals
    clear hc he
    refine congrArg (fun b => V.c (.bool b)) ?_
    simp only [e] at *
    simp_all
    try (intros; omega)
set_option maxHeartbeats 8000000 in
set_option maxRecDepth 100000 in
theorem title_ac (x : ByteArray) (hs : x.size ≤ 1000000000) : AC EN5 Tryz.prog 83 [.c (.string x)] (.c (.bool (titleR x))) := by
  have hn := name_ac x hs
  have hT : (x.toList == ({ data := #[111, 110] } : ByteArray).toList) = (x.data.toList == [111, 110]) := str_is _ _
  unfold titleR
  refine ac_enter 9 Tryz.func83 rfl rfl rfl rfl ?_
  intro s w he
  repeat' (first
 | refine aw_seq ?_
 | refine aw_region ?_
 | refine awo_nil ?_
 | refine k_seq ?_
 | (apply s_pick_t rfl rfl
    · conv => lhs; whnf
    · conv => lhs; whnf
    · first | exact bT1 (by assumption) | exact bT2 (by assumption))
 | (apply s_pick_f rfl rfl
    · conv => lhs; whnf
    · conv => lhs; whnf
    · first | exact bF1 (by assumption) | exact bF2 (by assumption))
 | (apply s_val rfl
    · conv => lhs; whnf
    · conv => lhs; whnf; arg 2; whnf)
 | (apply s_call rfl
    · conv => lhs; whnf
    · conv => lhs; whnf
    · first | exact hn)
 | (apply s_wanted_val rfl
    · conv => lhs; whnf
    · conv => lhs; whnf
    · first | rfl | assumption
    · conv => lhs; whnf; arg 2; whnf)
 | (apply s_skipU rfl
    · conv => lhs; whnf
    · conv => lhs; whnf
    · first | rfl | assumption)
 | (apply s_guard_valU rfl
    · conv => lhs; whnf
    · conv => lhs; whnf
    · conv => lhs; whnf; arg 2; whnf)
 | refine aw_ret ?_
 | refine k_end_ret ?_
 | (refine ⟨_, by conv => lhs; whnf; arg 2; whnf, ?_⟩; conv => rhs; whnf)
 | exact trivial
 | intro hg)
  all_goals
    clear hn he
    refine congrArg (fun b => V.c (.bool b)) ?_
    simp only [hT] at *
    simp_all
end Go.Proofs.YthjiclhfhjdjpaaGreatDoor
