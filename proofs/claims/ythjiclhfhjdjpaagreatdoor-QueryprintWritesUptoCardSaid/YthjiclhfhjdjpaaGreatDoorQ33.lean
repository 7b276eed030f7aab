/- Parts of a proof, merged by a program (shake.py). -/
import Derived.Test.YthjiclhfhjdjpaaGreatDoorQ32
set_option linter.unusedVariables false
set_option linter.unusedSimpArgs false
namespace Go.Proofs.YthjiclhfhjdjpaaGreatDoor
open Go.RowKit
attribute [local irreducible] wpList Calls Code.wp AW AWo OpOk seqK blockK scopeK loopK endK AC absLex Yld Sub
attribute [local irreducible] ACB absLexG YldG
set_option maxHeartbeats 8000000 in
set_option maxRecDepth 100000 in
theorem writeString_acbW {e : Ge} {T : TypeId} (hT : LiesB T) (l : List UInt8) (s : ByteArray) (hlen : l.length + s.size ≤ 140737488355328) : ACB e Tryz.prog 46 [.bx (pn 0) 0, .c (.string s)] [.bld T 5 l] .any [.bld T 5 (l ++ tx s)] :=
  bld_acbVW (cargs := [.string s]) .any (fun _ _ => by simp [rel]) fun b v p w h => writeString_bW hT b l v p w h s hlen
set_option maxHeartbeats 8000000 in
set_option maxRecDepth 100000 in
theorem string_acbW {e : Ge} {T : TypeId} (l : List UInt8) (hlen : l.length ≤ maxLen) : ACB e Tryz.prog 49 [.bx (pn 0) 0] [.bld T 5 l] (.c (.string (bs l))) [.bld T 5 l] :=
  bld_acbW (cargs := []) (show l.toArray.size ≤ maxLen by simpa using hlen) fun b v p w h => string_bW b l v p w h
section
variable {X : Cx} {nn : Nat} {st : Vst nn} {o : Oper} {ops : Array Oper} {l : List Oper} {d : Option Tmp} {KK : Vst nn → Prop} {Q : Vst nn → Prop} {rd wr : Nat → List Nat} {k : Nat}
set_option maxHeartbeats 8000000 in
set_option maxRecDepth 100000 in
/-- a call that writes to a builder -/
theorem s_bcall {f : FuncId} {m : Nat} {vs az : List V} {tb tu : TypeId} {bl bl' : List UInt8} {r : V} (hg : o.guard = none) (hd : o.dst = d) (h : act1 X.P st.rs (ev st) o.op = .call f vs) (hv : vs = .bx m 0 :: az) (hr : st.rs m = some (.bld tb tu bl))
    (hc : ACB X.e X.P f (.bx (pn 0) 0 :: az) [.bld tb tu bl] r [.bld tb tu bl']) (haz : ∀ φ, renL φ az = az) (hrr : ∀ φ, renV φ r = r)
    (hK : AWo X ops l ((st.res m (.bld tb tu bl')).put d r) KK) : AWo X ops (o :: l) st KK := by
  subst hv
  refine s_callB [m] hg hd h hc (by simp) (by simp only [renL, renV, φin_one, haz]) (by simp [hr, renR]) ?_
  have e : ([Res.bld tb tu bl'].map (renR (φout [m]))) = [Res.bld tb tu bl'] := rfl
  rw [e, resN_one, hrr]
  exact hK
set_option maxHeartbeats 8000000 in
set_option maxRecDepth 100000 in
theorem g_bcall {f : FuncId} {m : Nat} {vs az : List V} {tb tu : TypeId} {bl bl' : List UInt8} {r : V} (hg : o.guard = none) (hd : o.dst = d) (h : act1 X.P st.rs (ev st) o.op = .call f vs) (hv : vs = .bx m 0 :: az) (hr : st.rs m = some (.bld tb tu bl))
    (hc : ACB X.e X.P f (.bx (pn 0) 0 :: az) [.bld tb tu bl] r [.bld tb tu bl']) (haz : ∀ φ, renL φ az = az) (hrr : ∀ φ, renV φ r = r) (hl : [m].all (fun n => (wr k).contains n) = true)
    (hK : absLexG X ops rd wr Q (k + 1) l ((st.res m (.bld tb tu bl')).put d r)) : absLexG X ops rd wr Q k (o :: l) st := by
  subst hv
  refine g_callB [m] hg hd h hc (by simp) (by simp only [renL, renV, φin_one, haz]) (by simp [hr, renR]) rfl hl ?_
  have e : ([Res.bld tb tu bl'].map (renR (φout [m]))) = [Res.bld tb tu bl'] := rfl
  rw [e, resN_one, hrr]
  exact hK
set_option maxHeartbeats 8000000 in
set_option maxRecDepth 100000 in
theorem res_res {m : Nat} {a b : Res} : (st.res m a).res m b = st.res m b := by
  unfold Vst.res
  congr 1
  funext q
  unfold updR
  by_cases h : q = m <;> simp [h]
set_option maxHeartbeats 8000000 in
set_option maxRecDepth 100000 in
/-- the first call that writes to a builder -/
theorem s_bcall0 {f : FuncId} {m : Nat} {vs az : List V} {tb tu : TypeId} {bl' : List UInt8} {r : V} (hg : o.guard = none) (hd : o.dst = d) (h0 : act1 X.P st.rs (ev st) o.op = .call f vs) (hv : vs = .bx m 0 :: az) (hr : st.rs m = some (.box tb [.c (.pointer none), .c (.slice none 0 0)]))
    (hc : ACB X.e X.P f (.bx (pn 0) 0 :: az) [.bld tb tu []] r [.bld tb tu bl']) (h : act1 X.P (st.res m (.bld tb tu [])).rs (ev (st.res m (.bld tb tu []))) o.op = .call f vs) (haz : ∀ φ, renL φ az = az) (hrr : ∀ φ, renV φ r = r)
    (hK : AWo X ops l ((st.res m (.bld tb tu bl')).put d r) KK) : AWo X ops (o :: l) st KK := by
  refine awo_sub (Sub.bld (e := tu) hr) ?_
  refine s_bcall hg hd h hv (by simp [Vst.res, updR]) hc haz hrr ?_
  rw [res_res]
  exact hK
set_option maxHeartbeats 8000000 in
set_option maxRecDepth 100000 in
/-- what a builder holds -/
theorem s_bs {m : Nat} {vs : List V} {tb tu : TypeId} {bl : List UInt8} (hg : o.guard = none) (hd : o.dst = d) (h : act1 X.P st.rs (ev st) o.op = .call 49 vs) (hv : vs = [.bx m 0]) (hr : st.rs m = some (.bld tb tu bl)) (ht : tb = tb ∧ tu = 5) (hP : X.P = Tryz.prog)
    (hK : AWo X ops l (st.put d (.c (.string (bs bl)))) KK) (hlen : bl.length ≤ maxLen) : AWo X ops (o :: l) st KK := by
  obtain ⟨-, rfl⟩ := ht
  have hc := string_acbW (e := X.e) (T := tb) bl hlen
  rw [← hP] at hc
  refine s_bcall hg hd h hv hr hc (fun _ => rfl) (fun _ => rfl) ?_
  rw [res_same hr]
  exact hK
end
set_option maxHeartbeats 8000000 in
set_option maxRecDepth 100000 in
theorem arr_size (l : List UInt8) : (⟨l.toArray⟩ : ByteArray).size = l.length := bs_size l
def opens : List D → List UInt8
  | [] => []
  | d :: ds => if d.n == 1 then opens ds else opens ds ++ [91]
def closes : List D → List UInt8
  | [] => []
  | d :: ds => if d.n == 1 then closes ds ++ [33] else closes ds ++ [93]
set_option maxHeartbeats 8000000 in
set_option maxRecDepth 100000 in
theorem opens_comm : ∀ l, [91] ++ opens l = opens l ++ [91]
  | [] => rfl
  | d :: ds => by
    have := opens_comm ds
    unfold opens
    split
    · exact this
    · rw [← List.append_assoc, this]
set_option maxHeartbeats 8000000 in
set_option maxRecDepth 100000 in
theorem refB_eq (n : List UInt8) : ∀ l, refB n l = opens l ++ n ++ closes l
  | [] => by simp [refB, opens, closes]
  | d :: ds => by
    unfold refB opens closes
    rw [refB_eq n ds]
    split
    · simp
    · rw [← opens_comm]; simp
set_option maxHeartbeats 8000000 in
set_option maxRecDepth 100000 in
theorem opens_length : ∀ l, (opens l).length ≤ l.length
  | [] => Nat.le_refl _
  | d :: ds => by
    have := opens_length ds
    unfold opens
    split <;> simp <;> omega
set_option maxHeartbeats 8000000 in
set_option maxRecDepth 100000 in
theorem closes_length : ∀ l, (closes l).length = l.length
  | [] => rfl
  | d :: ds => by
    have := closes_length ds
    unfold closes
    split <;> simp <;> omega
def H150 (n : List UInt8) (l : List D) (j : Nat) : Vst 29 :=
  stS 29 [(1, .bx 1 0), (3, .bx 3 0), (4, .bx 4 0), (5, .c (.int .i64 ((j : Int) - 1)))] [(1, .box 71 [.c (.string (bs n)), .sl 3 l]), (3, .bld 92 5 (opens (l.drop j))), (4, .bld 92 5 (closes (l.drop j)))]
set_option maxHeartbeats 8000000 in
set_option maxRecDepth 100000 in
theorem refP_ac (n : List UInt8) (l : List D) (hn : n.length ≤ 2000000) (hl : l.length ≤ 2000000) : AC EN Tryz.prog 121 [.agg [.c (.string (bs n)), .sl 3 l]] (.c (.string (bs (refB n l)))) := by
  have ho := opens_length
  have hc := closes_length
  refine ac_enter 29 Tryz.func121 rfl rfl rfl rfl ?_
  intro s w he
  repeat' (first
 | refine aw_region ?_
 | refine awo_nil ?_
 | refine k_seq ?_
 | (apply aw_1
    conv => whnf
    refine ⟨?_, trivial⟩)
 | (apply s_1
    conv => whnf; arg 1; arg 4; arg 3; whnf
    refine ⟨?_, ?_⟩)
 | (apply s_box rfl rfl rfl rfl
    · conv => lhs; whnf; arg 1; whnf
    · rfl)
 | exact trivial)
  · refine aw_sub ((Sub.bld (m := 3) (e := 5) rfl).trans (Sub.bld (m := 4) (e := 5) rfl)) ?_
    refine aw_loop (fun j st => j ≤ l.length ∧ Sub (cx EN Tryz.prog s w he) st (H150 n l j)) l.length ⟨Nat.le_refl _, ?_⟩ ?_
    · refine Sub.live ⟨rfl, rfl, rfl, rfl, trivial⟩ ⟨rfl, ?_, ?_, trivial⟩
      · rw [List.drop_length]; rfl
      · rw [List.drop_length]; rfl
    · rintro j st ⟨hj, hs⟩
      refine aw_sub hs ?_
      have h1 := ho (l.drop j)
      have h2 := hc (l.drop j)
      rw [List.length_drop] at h1 h2
      have hdrop : 0 < j → l.drop (j - 1) = gD l (j - 1) :: l.drop j := fun h => by
        have hlt : j - 1 < l.length := by omega
        rw [List.drop_eq_getElem_cons hlt, show j - 1 + 1 = j by omega]
        congr 1
        unfold gD; rw [List.getD_eq_getElem?_getD, List.getElem?_eq_getElem hlt]; rfl
      have hnat : ((j : Int) - 1).toNat = j - 1 := by omega
      repeat' (first
 | (apply s_wb rfl
    · conv => lhs; whnf
    · conv => lhs; whnf
    · rfl
    · conv => lhs; whnf; arg 1; whnf
    · rfl
    · rfl)
 | (apply y_bs rfl
    · conv => lhs; whnf
    · conv => lhs; whnf
    · rfl
    · conv => lhs; whnf; arg 1; whnf
    · rfl)
 | refine aw_region ?_
 | refine awo_nil ?_
 | refine k_seq ?_
 | refine k_block ?_
 | (apply aw_1
    conv => whnf
    refine ⟨?_, trivial⟩)
 | (apply s_1
    conv => whnf; arg 1; arg 4; arg 3; whnf
    refine ⟨?_, ?_⟩)
 | (apply aw_draw (by kernel_rfl) (by kernel_rfl))
 | apply y_nil
 | (apply y_val rfl
    · conv => lhs; whnf
    · conv => lhs; whnf; arg 2; whnf)
 | exact apartB_none
 | exact apartB_nil
 | exact all_nil
 | exact (1000000 : Nat)
 | (refine aw_cond (by conv => lhs; whnf) ?_ ?_ <;> intro hb)
 | refine k_seq_exit ?_
 | refine k_block_hit rfl ?_
 | refine k_loop_exit ?_
 | refine k_end_ret ?_
 | (refine ⟨_, by conv => lhs; whnf; arg 2; whnf, ?_⟩; conv => rhs; whnf)
 | exact trivial)
      · rename_i hb0
        have hj0 : 0 < j := by simp at hb0; omega
        refine k_loop_next (j' := j - 1) (by omega) ⟨by omega, Sub.live ⟨rfl, rfl, rfl, ?_, trivial⟩ ⟨rfl, ?_, ?_, trivial⟩⟩
        · show V.c (.int .i64 ((j : Int) - 1 - 1)) = _
          rw [show ((j - 1 : Nat) : Int) - 1 = (j : Int) - 1 - 1 by omega]
        · show some (Res.bld _ _ (opens (l.drop j))) = _
          rw [hdrop hj0, opens]
          rw [hnat] at hb
          rw [if_pos hb]
        · show some (Res.bld _ _ (closes (l.drop j) ++ [33])) = _
          rw [hdrop hj0, closes]
          rw [hnat] at hb
          rw [if_pos hb]
      · exact i64_ok (by omega)
      · omega
      · rename_i hb0
        have hj0 : 0 < j := by simp at hb0; omega
        refine k_loop_next (j' := j - 1) (by omega) ⟨by omega, Sub.live ⟨rfl, rfl, rfl, ?_, trivial⟩ ⟨rfl, ?_, ?_, trivial⟩⟩
        · show V.c (.int .i64 ((j : Int) - 1 - 1)) = _
          rw [show ((j - 1 : Nat) : Int) - 1 = (j : Int) - 1 - 1 by omega]
        · show some (Res.bld _ _ (opens (l.drop j) ++ [91])) = _
          rw [hdrop hj0, opens]
          rw [hnat] at hb
          rw [if_neg (by rw [hb]; simp)]
        · show some (Res.bld _ _ (closes (l.drop j) ++ [93])) = _
          rw [hdrop hj0, closes]
          rw [hnat] at hb
          rw [if_neg (by rw [hb]; simp)]
      · exact i64_ok (by omega)
      · omega
      · omega
      · simp at hb; omega
      · have hj0 : j = 0 := by simp at hb; omega
        subst hj0
        rw [List.drop_zero, refB_eq, ← bs_append, ← bs_append]
        rfl
      all_goals (simp only [ByteArray.size_append, bs_size, arr_size, maxLen]; omega)
  · exact i64_ok (by omega)
set_option maxHeartbeats 8000000 in
set_option maxRecDepth 100000 in
theorem repeat_len (l : List UInt8) : ∀ n, (Lib.repeatL l n).length = l.length * n
  | 0 => by simp [Lib.repeatL]
  | n + 1 => by rw [Lib.repeatL, List.length_append, repeat_len l n, Nat.mul_add]; omega
set_option maxHeartbeats 8000000 in
set_option maxRecDepth 100000 in
theorem repeat_ac (s : ByteArray) (c : Nat) (hc : c ≤ 1000000) (hs : s.size ≤ 1000) : AC EN Tryz.prog 197 [.c (.string s), .c (.int .i64 (c : Int))] (.c (.string (bs (Lib.repeatL (tx s) c)))) :=
  ac_of fun s1 w us hus he => by
    have hm : s.size * c ≤ 1000 * 1000000 := Nat.mul_le_mul hs hc
    refine ⟨bs_ok (by rw [repeat_len, tx_len]; omega), ?_⟩
    obtain ⟨u, u2, rfl, h, h2⟩ := rel_two hus
    rw [rel] at h h2
    obtain ⟨rfl, -⟩ := h
    obtain ⟨rfl, -⟩ := h2
    exact Tryz.strings_Repeat s c w (by omega) (by omega)
set_option maxRecDepth 100000 in
set_option maxHeartbeats 8000000 in
theorem lies_writer : LiesB 110 := by unfold LiesB; kernel_rfl
/-- what is written: levels and a text -/
def lineT (n : Nat) (t : List UInt8) : List UInt8 := Lib.repeatL [32, 32] n ++ t ++ [10]
set_option maxHeartbeats 8000000 in
set_option maxRecDepth 100000 in
theorem lineT_len (n : Nat) (t : List UInt8) : (lineT n t).length = 2 * n + t.length + 1 := by
  simp only [lineT, List.length_append, repeat_len, List.length_cons, List.length_nil]
set_option maxHeartbeats 8000000 in
set_option maxRecDepth 100000 in
theorem line_acb (l : List UInt8) (n : Nat) (t : ByteArray) (hn : n ≤ 1000000) (ht : t.size ≤ 1000000000) (hl : l.length ≤ 10000000000000) :
    ACB EN Tryz.prog 115 [.bx (pn 0) 0, .c (.int .i64 (n : Int)), .c (.string t)] [.bld 110 5 l] (.tup []) [.bld 110 5 (l ++ lineT n (tx t))] := by
  have hr := repeat_ac ⟨#[32, 32]⟩ n hn (by decide)
  have e0 : bs (lineT n (tx t)) = bs (Lib.repeatL [32, 32] n) ++ t ++ ⟨#[10]⟩ := by rw [lineT, ← bs_append, ← bs_append, bs_tx]; rfl
  have hw := writeString_acbW (e := EN) lies_writer l (bs (lineT n (tx t))) (by rw [bs_size, lineT_len, tx_len]; omega)
  rw [tx_bs, e0] at hw
  refine acb_enter 15 Tryz.func115 rfl rfl ?_
  intro pas s w he hp
  have e : (Lib.repeatL (tx ⟨#[32, 32]⟩) n).length = 2 * n := repeat_len _ n
  repeat' (first
 | (apply aw_drawGn 9 ([]) ([(8, [1000000])]) rfl (by kernel_rfl) (by kernel_rfl) (by kernel_rfl))
 | apply g_nil
 | (apply g_val rfl
    · conv => lhs; whnf
    · conv => lhs; whnf; arg 2; whnf)
 | (apply g_call rfl
    · conv => lhs; whnf
    · conv => lhs; whnf
    · first | exact hr)
 | (apply g_bcall rfl
    · conv => lhs; whnf
    · conv => lhs; whnf
    · rfl
    · conv => lhs; whnf; arg 1; whnf
    · first | exact hw
    · exact fun _ => rfl
    · exact fun _ => rfl
    · rfl)
 | (show inO _ _ = true; rfl)
 | refine k_endB ⟨?_, ?_⟩
 | exact (rfl : _ = V.tup [])
 | exact trivial)
  · exact ⟨rfl, trivial⟩
  · rw [ByteArray.size_append, bs_size, e]
    show 2 * n + t.size + 1 ≤ maxLen
    unfold maxLen; omega
  · rw [bs_size, e]
    unfold maxLen; omega
end Go.Proofs.YthjiclhfhjdjpaaGreatDoor
namespace Go.Proofs.YthjiclhfhjdjpaaGreatDoor
/-- the first line of a selection without indentation, brace and line feed -/
def headT (K : Nat) (s : D) : List UInt8 :=
  if (s.f 0).n = 2 then [46, 46, 46] ++ tx (s.f 2).s ++ tailT K (s.f 5).l
  else if (s.f 0).n = 3 then [46, 46, 46] ++ (if tx (s.f 3).s = [] then [] else [32, 111, 110, 32] ++ tx (s.f 3).s) ++ tailT K (s.f 5).l
  else (if tx (s.f 1).s = [] then [] else tx (s.f 1).s ++ [58, 32]) ++ (tx (s.f 2).s ++ parT K (s.f 4).l ++ tailT K (s.f 5).l)
/-- whether a selection has a block -/
def openB (s : D) : Bool := (s.f 0).n == 3 || ((s.f 0).n != 2 && (s.f 6).l.length != 0)
def selT (K : Nat) (inner : List D → List UInt8) (n : Nat) (s : D) : List UInt8 :=
  if openB s = true then lineT n (headT K s ++ [32, 123]) ++ inner (s.f 6).l ++ lineT n [125] else lineT n (headT K s)
def selsT (K : Nat) : Nat → Nat → List D → List UInt8
  | 0, _, _ => []
  | f + 1, n, l => (l.map (selT K (selsT K f (n + 1)) n)).flatten
structure SelOk (K : Nat) (inner : List D → Prop) (s : D) : Prop where
  args : ArgsOk K (s.f 4).l
  dirs : DirsOk K (s.f 5).l
  kind : (s.f 0).n = 1 ∨ ((s.f 0).n = 2 ∧ (s.f 6).l = []) ∨ ((s.f 0).n = 3 ∧ (s.f 6).l ≠ [])
  sub : inner (s.f 6).l
def SelsOk (K : Nat) : Nat → List D → Prop
  | 0, l => l = []
  | f + 1, l => ∀ i, i < l.length → SelOk K (SelsOk K f) (gD l i)
theorem headT_len (K : Nat) (s : D) (h : wideD s) : (headT K s).length + 60 * (wD (s.f 6)) ≤ 60 * wD s + 20 := by
  have hf := wD_fields s 7
  simp only [sumN] at hf
  have h1 := wD_str (s.f 1)
  have h2 := wD_str (s.f 2)
  have h3 := wD_str (s.f 3)
  have h4 := wD_list (s.f 4)
  have h5 := wD_list (s.f 5)
  have t1 := tx_len (s.f 1).s
  have t2 := tx_len (s.f 2).s
  have t3 := tx_len (s.f 3).s
  have p := parT_len K (s.f 4).l fun i => (h.f 4).l i
  have q := tailT_len K (s.f 5).l fun i => (h.f 5).l i
  unfold headT
  split
  · simp only [List.length_append, List.length_cons, List.length_nil]; omega
  split
  · split <;> simp only [List.length_append, List.length_cons, List.length_nil] <;> omega
  · split <;> simp only [List.length_append, List.length_cons, List.length_nil] <;> omega
theorem flat_le (l : List D) (f : D → List UInt8) (c : Nat) (h : ∀ i, i < l.length → (f (gD l i)).length ≤ c * bulkD (gD l i)) : (l.map f).flatten.length ≤ c * bulkL l := by
  induction l with
  | nil => simp
  | cons x r ih =>
    have h0 := h 0 (by simp)
    have h1 := ih fun i hi => h (i + 1) (by simpa using hi)
    simp only [List.map_cons, List.flatten_cons, List.length_append, bulkL, Nat.mul_add]
    have e : gD (x :: r) 0 = x := rfl
    rw [e] at h0
    omega
theorem selsT_len (K : Nat) : ∀ (f n : Nat) (l : List D), (∀ i, wideD (gD l i)) → (selsT K f n l).length ≤ (4 * (n + f) + 70) * bulkL l
  | 0, _, _, _ => by simp [selsT]
  | f + 1, n, l, hw => by
    unfold selsT
    refine flat_le l _ _ fun i hi => ?_
    have h := hw i
    have hh := headT_len K (gD l i) h
    have hb := bulkD_wD (gD l i)
    have h6 := wD_list ((gD l i).f 6)
    have hs := selsT_len K f (n + 1) ((gD l i).f 6).l fun j => (h.f 6).l j
    have hf6 := wD_f (gD l i) 6
    rw [show n + 1 + f = n + (f + 1) by omega] at hs
    generalize hc : 4 * (n + (f + 1)) + 70 = c at hs ⊢
    have hc60 : 60 ≤ c := by omega
    have e1 : c * bulkL ((gD l i).f 6).l ≤ c * wD ((gD l i).f 6) := Nat.mul_le_mul_left c h6
    obtain ⟨q, hq⟩ := Nat.exists_eq_add_of_le hf6
    have e2 : c * bulkD (gD l i) = c * wD ((gD l i).f 6) + c * q + c := by rw [hb, hq, Nat.mul_add, Nat.mul_add, Nat.mul_one]
    have e3 : 60 * q ≤ c * q := Nat.mul_le_mul_right q hc60
    unfold selT
    split
    · simp only [List.length_append, lineT_len, List.length_cons, List.length_nil]; omega
    · simp only [lineT_len]; omega
theorem selsT_take {K f n : Nat} {l : List D} {i : Nat} (h : i < l.length) : ((l.take (i + 1)).map (selT K (selsT K f (n + 1)) n)).flatten = ((l.take i).map (selT K (selsT K f (n + 1)) n)).flatten ++ selT K (selsT K f (n + 1)) n (gD l i) := by
  rw [List.take_succ_eq_append_getElem h, List.map_append, List.flatten_append, gD_get h]
  simp
theorem selsT_take_len {K f n : Nat} {l : List D} (i : Nat) : ((l.take i).map (selT K (selsT K f (n + 1)) n)).flatten.length ≤ (selsT K (f + 1) n l).length := by
  unfold selsT
  conv => rhs; rw [← List.take_append_drop i l, List.map_append, List.flatten_append, List.length_append]
  omega
end Go.Proofs.YthjiclhfhjdjpaaGreatDoor
namespace Go.Proofs.YthjiclhfhjdjpaaGreatDoor
open Go.RowKit
attribute [local irreducible] wpList Calls Code.wp AW AWo OpOk seqK blockK scopeK loopK endK AC absLex Yld Sub
attribute [local irreducible] ACB absLexG YldG
/-- the selections before i -/
def befT (K f n : Nat) (l : List D) (i : Nat) : List UInt8 := ((l.take i).map (selT K (selsT K f (n + 1)) n)).flatten
noncomputable def HsP (K f n : Nat) (l : List D) (bl : List UInt8) (i : Nat) : Vst 85 :=
  stS 85 [(0, .bx 1000000 0), (2, .c (.int .i64 n)), (9, .sl 76 l), (10, .c (.int .i64 l.length)), (11, .c (.int .i64 i))] [(1000000, .bld 110 5 (bl ++ befT K f n l i))]
set_option maxHeartbeats 8000000 in
set_option maxRecDepth 100000 in
theorem sels_step (K f n : Nat) (l : List D) (bl : List UInt8) (h : SelsOk K (f + 1) l) (hw : ∀ i, wideD (gD l i)) (hb : bulkL l ≤ 1048576) (hn : n + f ≤ 300) (hlen : bl.length + (selsT K (f + 1) n l).length ≤ 10000000000 + 1000000000 * n)
    (ih : ∀ i, i < l.length → ((gD l i).f 6).l ≠ [] → ∀ b2 : List UInt8, b2.length + (selsT K f (n + 1) ((gD l i).f 6).l).length ≤ 10000000000 + 1000000000 * (n + 1) → ACB EN Tryz.prog 55 [.bx (pn 0) 0, .sl 76 ((gD l i).f 6).l, .c (.int .i64 ((n : Int) + 1))] [.bld 110 5 b2] (.tup []) [.bld 110 5 (b2 ++ selsT K f (n + 1) ((gD l i).f 6).l)]) :
    ACB EN Tryz.prog 55 [.bx (pn 0) 0, .sl 76 l, .c (.int .i64 (n : Int))] [.bld 110 5 bl] (.tup []) [.bld 110 5 (bl ++ selsT K (f + 1) n l)] := by
  have hll := len_bulk l
  refine acb_enter 85 Tryz.func55 rfl rfl ?_
  intro pas s w he hp
  repeat' (first
 | refine aw_region ?_
 | refine awo_nil ?_
 | refine k_seq ?_
 | (apply aw_1
    conv => whnf
    refine ⟨?_, trivial⟩)
 | (apply s_1
    conv => whnf; arg 1; arg 4; arg 3; whnf
    refine ⟨?_, ?_⟩)
 | exact trivial)
  refine aw_loop (fun j st => ∃ i, i + j = l.length ∧ Sub ⟨Tryz.prog, pas, s, w, EN, he, hp, fun _ _ _ => False, []⟩ st (HsP K f n l bl i)) l.length ⟨0, by omega, ?_⟩ ?_
  · refine Sub.live ⟨rfl, rfl, rfl, rfl, rfl, trivial⟩ ⟨?_, trivial⟩
    show some (Res.bld _ _ bl) = some (Res.bld _ _ (bl ++ []))
    rw [List.append_nil]
  · rintro j st ⟨i, hij, hs2⟩
    refine aw_sub hs2 ?_
    by_cases hi : i < l.length
    · have hok := h i hi
      have hda := tail_ac K ((gD l i).f 5).l hok.dirs
      have haa := argsP_ac K ((gD l i).f 4).l hok.args
      have hbe : (befT K f n l i).length ≤ (selsT K (f + 1) n l).length := selsT_take_len i
      have hbe1 : (befT K f n l (i + 1)).length ≤ (selsT K (f + 1) n l).length := selsT_take_len (i + 1)
      have hnx : befT K f n l (i + 1) = befT K f n l i ++ selT K (selsT K f (n + 1)) n (gD l i) := selsT_take hi
      have hhl := headT_len K (gD l i) (hw i)
      have hbi := bulkL_get hi
      have hbw := bulkD_wD (gD l i)
      have hs1 : ((gD l i).f 1).s.size ≤ 1048576 := by have := wD_str ((gD l i).f 1); have := wD_f (gD l i) 1; omega
      have hs2 : ((gD l i).f 2).s.size ≤ 1048576 := by have := wD_str ((gD l i).f 2); have := wD_f (gD l i) 2; omega
      have hs3 : ((gD l i).f 3).s.size ≤ 1048576 := by have := wD_str ((gD l i).f 3); have := wD_f (gD l i) 3; omega
      have hpa : (parT K ((gD l i).f 4).l).length ≤ 40000000 := by have := parT_len K _ hok.args.wide; have := hok.args.bulk; omega
      have hta : (tailT K ((gD l i).f 5).l).length ≤ 40000000 := by have := tailT_len K _ hok.dirs.wide; have := hok.dirs.bulk; omega
      have ne3 : (((gD l i).f 0).n == 3) = true → ((gD l i).f 6).l ≠ [] := fun hk => by
        have hk : ((gD l i).f 0).n = 3 := by simpa using hk
        rcases hok.kind with h1 | ⟨h1, _⟩ | ⟨_, h2⟩
        · omega
        · omega
        · exact h2
      have neL : ((((gD l i).f 6).l.length : Int) == 0) = false → ((gD l i).f 6).l ≠ [] := fun hk e => by rw [e] at hk; simp at hk
      have hin : openB (gD l i) = true → (befT K f n l i).length + (selsT K f (n + 1) ((gD l i).f 6).l).length ≤ (selsT K (f + 1) n l).length := fun ho => by
        have e := congrArg List.length hnx
        rw [List.length_append, selT, if_pos ho] at e
        simp only [List.length_append] at e
        omega
      have hin3 : (((gD l i).f 0).n == 3) = true → (befT K f n l i).length + (selsT K f (n + 1) ((gD l i).f 6).l).length ≤ (selsT K (f + 1) n l).length := fun hk => hin (by unfold openB; rw [hk]; rfl)
      have op2 : (((gD l i).f 0).n == 2) = false → ((((gD l i).f 6).l.length : Int) == 0) = false → openB (gD l i) = true := fun h2 hk => by
        unfold openB
        have h0 : (((gD l i).f 6).l.length != 0) = true := by
          have : ¬ ((((gD l i).f 6).l.length : Int)) = 0 := by simpa using hk
          simp; exact fun e => this (by rw [e]; rfl)
        rw [h0, show (((gD l i).f 0).n != 2) = true by rw [bne, h2]; rfl]; simp
      have hinL : (((gD l i).f 0).n == 2) = false → ((((gD l i).f 6).l.length : Int) == 0) = false → (befT K f n l i).length + (selsT K f (n + 1) ((gD l i).f 6).l).length ≤ (selsT K (f + 1) n l).length := fun h2 hk => hin (op2 h2 hk)
      repeat' (first
 | (apply aw_drawGn 10 ([(3, [7]), (6, [7])]) ([(9, [1000000])]) rfl (by kernel_rfl) (by kernel_rfl) (by kernel_rfl))
 | apply g_nil
 | (apply g_val rfl
    · conv => lhs; whnf
    · conv => lhs; whnf; arg 2; whnf)
 | (apply g_call rfl
    · conv => lhs; whnf
    · conv => lhs; whnf
    · first | exact hda | exact haa)
 | (apply g_bcall rfl
    · conv => lhs; whnf
    · conv => lhs; whnf
    · rfl
    · conv => lhs; whnf; arg 1; whnf
    · first | exact line_acb _ n _ (by omega) (by simp only [ByteArray.size_append, bs_size, lit_size, List.size_toArray, List.length_append, List.length_cons, List.length_nil, lineT_len, tx_len, Nat.reduceAdd, Int.toNat_natCast]; omega) (by simp only [ByteArray.size_append, bs_size, lit_size, List.size_toArray, List.length_append, List.length_cons, List.length_nil, lineT_len, tx_len, Nat.reduceAdd, Int.toNat_natCast]; omega)
    · exact fun _ => rfl
    · exact fun _ => rfl
    · rfl)
 | (show inO _ _ = true; rfl)
 | (apply s_bcall rfl
    · conv => lhs; whnf
    · conv => lhs; whnf
    · rfl
    · conv => lhs; whnf; arg 1; whnf
    · first | exact line_acb _ n _ (by omega) (by simp only [ByteArray.size_append, bs_size, lit_size, List.size_toArray, List.length_append, List.length_cons, List.length_nil, lineT_len, tx_len, Nat.reduceAdd, Int.toNat_natCast]; omega) (by simp only [ByteArray.size_append, bs_size, lit_size, List.size_toArray, List.length_append, List.length_cons, List.length_nil, lineT_len, tx_len, Nat.reduceAdd, Int.toNat_natCast]; omega) | exact line_acb _ n _ (by omega) (by simp only [ByteArray.size_append, bs_size, lit_size, List.size_toArray, List.length_append, List.length_cons, List.length_nil, lineT_len, tx_len, Nat.reduceAdd, Int.toNat_natCast] ; omega) (by have := hin3 (by assumption) ; simp only [ByteArray.size_append, bs_size, lit_size, List.size_toArray, List.length_append, List.length_cons, List.length_nil, lineT_len, tx_len, Nat.reduceAdd, Int.toNat_natCast] ; omega) | exact line_acb _ n _ (by omega) (by simp only [ByteArray.size_append, bs_size, lit_size, List.size_toArray, List.length_append, List.length_cons, List.length_nil, lineT_len, tx_len, Nat.reduceAdd, Int.toNat_natCast] ; omega) (by have := hinL (by assumption) (by assumption) ; simp only [ByteArray.size_append, bs_size, lit_size, List.size_toArray, List.length_append, List.length_cons, List.length_nil, lineT_len, tx_len, Nat.reduceAdd, Int.toNat_natCast] ; omega) | exact ih i hi (ne3 (by assumption)) _ (by have := hin3 (by assumption) ; simp only [ByteArray.size_append, bs_size, lit_size, List.size_toArray, List.length_append, List.length_cons, List.length_nil, lineT_len, tx_len, Nat.reduceAdd, Int.toNat_natCast] ; omega) | exact ih i hi (neL (by assumption)) _ (by have := hinL (by assumption) (by assumption) ; simp only [ByteArray.size_append, bs_size, lit_size, List.size_toArray, List.length_append, List.length_cons, List.length_nil, lineT_len, tx_len, Nat.reduceAdd, Int.toNat_natCast] ; omega)
    · exact fun _ => rfl
    · exact fun _ => rfl)
 | refine aw_region ?_
 | refine awo_nil ?_
 | refine k_seq ?_
 | refine k_block ?_
 | (apply aw_1
    conv => whnf
    refine ⟨?_, trivial⟩)
 | (apply s_1
    conv => whnf; arg 1; arg 4; arg 3; whnf
    refine ⟨?_, ?_⟩)
 | (apply s_call rfl
    · conv => lhs; whnf
    · conv => lhs; whnf
    · first | exact hda | exact haa)
 | (apply s_store rfl rfl rfl
    · conv => lhs; whnf
    · conv => lhs; whnf; arg 1; whnf
    · conv => lhs; whnf; arg 1; whnf
    · exact ⟨by kernel_rfl, by kernel_rfl⟩
    · rfl)
 | (apply aw_draw (by kernel_rfl) (by kernel_rfl))
 | apply y_nil
 | (apply y_val rfl
    · conv => lhs; whnf
    · conv => lhs; whnf; arg 2; whnf)
 | (apply y_call rfl
    · conv => lhs; whnf
    · conv => lhs; whnf
    · first | exact hda | exact haa)
 | exact apartB_none
 | exact apartB_nil
 | exact (1000000 : Nat)
 | (refine aw_cond (by conv => lhs; whnf) ?_ ?_ <;> intro hb)
 | refine k_seq_exit ?_
 | refine k_block_hit rfl ?_
 | refine k_block_miss rfl ?_
 | refine k_loop_exit ?_
 | refine k_endB ⟨?_, ?_⟩
 | exact (rfl : _ = V.tup [])
 | exact trivial)
      all_goals first
        | exact i64_ok (by omega)
        | ((simp only [ByteArray.size_append, bs_size, lit_size, List.size_toArray, List.length_append, List.length_cons, List.length_nil, maxLen, Nat.reduceAdd, Int.toNat_natCast]; omega); done)
        | exact at_ok hb
        | skip
      · have hk : ((gD l i).f 0).n = 2 := by simpa using hb
        have ho : openB (gD l i) = false := by simp [openB, hk]
        refine k_loop_next (j' := j - 1) (by omega) ⟨i + 1, by omega, Sub.live ⟨rfl, rfl, rfl, rfl, rfl, trivial⟩ ⟨?_, trivial⟩⟩
        show some (Res.bld _ _ (bl ++ befT K f n l i ++ lineT n (tx (⟨#[46, 46, 46]⟩ ++ ((gD l i).f 2).s ++ bs (tailT K ((gD l i).f 5).l))))) = _
        rw [hnx, selT, if_neg (by rw [ho]; decide), headT, if_pos hk, tx_append, tx_append, tx_bs, List.append_assoc]; rfl
      · rename_i h2 h3
        have hk : ((gD l i).f 0).n = 3 := by simpa using h3
        have ho : openB (gD l i) = true := by simp [openB, hk]
        have he : tx ((gD l i).f 3).s ≠ [] := s_ne hb
        refine k_loop_next (j' := j - 1) (by omega) ⟨i + 1, by omega, Sub.live ⟨rfl, rfl, rfl, rfl, rfl, trivial⟩ ⟨?_, trivial⟩⟩
        show some (Res.bld _ _ (bl ++ befT K f n l i ++ lineT n (tx (⟨#[46, 46, 46]⟩ ++ (⟨#[32, 111, 110, 32]⟩ ++ ((gD l i).f 3).s) ++ bs (tailT K ((gD l i).f 5).l) ++ ⟨#[32, 123]⟩)) ++ selsT K f (n + 1) ((gD l i).f 6).l ++ lineT n (tx ⟨#[125]⟩))) = _
        rw [hnx, selT, if_pos ho, headT, if_neg (by omega), if_pos hk, if_neg he]
        simp only [tx_append, tx_bs, List.append_assoc]; rfl
      · rename_i h2 h3
        have hk : ((gD l i).f 0).n = 3 := by simpa using h3
        have ho : openB (gD l i) = true := by simp [openB, hk]
        have he : tx ((gD l i).f 3).s = [] := s_eq hb
        refine k_loop_next (j' := j - 1) (by omega) ⟨i + 1, by omega, Sub.live ⟨rfl, rfl, rfl, rfl, rfl, trivial⟩ ⟨?_, trivial⟩⟩
        show some (Res.bld _ _ (bl ++ befT K f n l i ++ lineT n (tx (⟨#[46, 46, 46]⟩ ++ bs (tailT K ((gD l i).f 5).l) ++ ⟨#[32, 123]⟩)) ++ selsT K f (n + 1) ((gD l i).f 6).l ++ lineT n (tx ⟨#[125]⟩))) = _
        rw [hnx, selT, if_pos ho, headT, if_neg (by omega), if_pos hk, if_pos he]
        simp only [tx_append, tx_bs, List.append_assoc]; rfl
      · rename_i h2 h3 ha
        have hk2 : ¬ ((gD l i).f 0).n = 2 := by simpa using h2
        have hk3 : ¬ ((gD l i).f 0).n = 3 := by simpa using h3
        have hl0 : ((gD l i).f 6).l.length = 0 := by have : ((((gD l i).f 6).l.length : Int)) = 0 := by simpa using hb
                                                     omega
        have ho : openB (gD l i) = false := by simp [openB, hk3, hl0]
        have he : tx ((gD l i).f 1).s ≠ [] := s_ne ha
        refine k_loop_next (j' := j - 1) (by omega) ⟨i + 1, by omega, Sub.live ⟨rfl, rfl, rfl, rfl, rfl, trivial⟩ ⟨?_, trivial⟩⟩
        show some (Res.bld _ _ (bl ++ befT K f n l i ++ lineT n (tx (((gD l i).f 1).s ++ ⟨#[58, 32]⟩ ++ (((gD l i).f 2).s ++ bs (parT K ((gD l i).f 4).l) ++ bs (tailT K ((gD l i).f 5).l)))))) = _
        rw [hnx, selT, if_neg (by rw [ho]; decide), headT, if_neg hk2, if_neg hk3, if_neg he]
        simp only [tx_append, tx_bs, List.append_assoc]; rfl
      · rename_i h2 h3 ha
        have hk2 : ¬ ((gD l i).f 0).n = 2 := by simpa using h2
        have hk3 : ¬ ((gD l i).f 0).n = 3 := by simpa using h3
        have ho : openB (gD l i) = true := op2 h2 hb
        have he : tx ((gD l i).f 1).s ≠ [] := s_ne ha
        refine k_loop_next (j' := j - 1) (by omega) ⟨i + 1, by omega, Sub.live ⟨rfl, rfl, rfl, rfl, rfl, trivial⟩ ⟨?_, trivial⟩⟩
        show some (Res.bld _ _ (bl ++ befT K f n l i ++ lineT n (tx (((gD l i).f 1).s ++ ⟨#[58, 32]⟩ ++ (((gD l i).f 2).s ++ bs (parT K ((gD l i).f 4).l) ++ bs (tailT K ((gD l i).f 5).l)) ++ ⟨#[32, 123]⟩)) ++ selsT K f (n + 1) ((gD l i).f 6).l ++ lineT n (tx ⟨#[125]⟩))) = _
        rw [hnx, selT, if_pos ho, headT, if_neg hk2, if_neg hk3, if_neg he]
        simp only [tx_append, tx_bs, List.append_assoc]; rfl
      · rename_i h2 h3 ha
        have hk2 : ¬ ((gD l i).f 0).n = 2 := by simpa using h2
        have hk3 : ¬ ((gD l i).f 0).n = 3 := by simpa using h3
        have hl0 : ((gD l i).f 6).l.length = 0 := by have : ((((gD l i).f 6).l.length : Int)) = 0 := by simpa using hb
                                                     omega
        have ho : openB (gD l i) = false := by simp [openB, hk3, hl0]
        have he : tx ((gD l i).f 1).s = [] := s_eq ha
        refine k_loop_next (j' := j - 1) (by omega) ⟨i + 1, by omega, Sub.live ⟨rfl, rfl, rfl, rfl, rfl, trivial⟩ ⟨?_, trivial⟩⟩
        show some (Res.bld _ _ (bl ++ befT K f n l i ++ lineT n (tx (⟨#[]⟩ ++ (((gD l i).f 2).s ++ bs (parT K ((gD l i).f 4).l) ++ bs (tailT K ((gD l i).f 5).l)))))) = _
        rw [hnx, selT, if_neg (by rw [ho]; decide), headT, if_neg hk2, if_neg hk3, if_pos he]
        simp only [tx_append, tx_bs, List.append_assoc]; rfl
      · rename_i h2 h3 ha
        have hk2 : ¬ ((gD l i).f 0).n = 2 := by simpa using h2
        have hk3 : ¬ ((gD l i).f 0).n = 3 := by simpa using h3
        have ho : openB (gD l i) = true := op2 h2 hb
        have he : tx ((gD l i).f 1).s = [] := s_eq ha
        refine k_loop_next (j' := j - 1) (by omega) ⟨i + 1, by omega, Sub.live ⟨rfl, rfl, rfl, rfl, rfl, trivial⟩ ⟨?_, trivial⟩⟩
        show some (Res.bld _ _ (bl ++ befT K f n l i ++ lineT n (tx (⟨#[]⟩ ++ (((gD l i).f 2).s ++ bs (parT K ((gD l i).f 4).l) ++ bs (tailT K ((gD l i).f 5).l)) ++ ⟨#[32, 123]⟩)) ++ selsT K f (n + 1) ((gD l i).f 6).l ++ lineT n (tx ⟨#[125]⟩))) = _
        rw [hnx, selT, if_pos ho, headT, if_neg hk2, if_neg hk3, if_pos he]
        simp only [tx_append, tx_bs, List.append_assoc]; rfl
      · have : l.length ≤ i := at_ge hb
        omega
    · have hno : decide ((i : Int) < (l.length : Int)) = true → False := fun h => hi (at_lt h)
      repeat' (first
 | exact (hno (by assumption)).elim
 | refine aw_region ?_
 | refine awo_nil ?_
 | refine k_seq ?_
 | (apply aw_1
    conv => whnf
    refine ⟨?_, trivial⟩)
 | (apply s_1
    conv => whnf; arg 1; arg 4; arg 3; whnf
    refine ⟨?_, ?_⟩)
 | (refine aw_cond (by conv => lhs; whnf) ?_ ?_ <;> intro hb)
 | refine k_seq_exit ?_
 | refine k_block_hit rfl ?_
 | refine k_loop_exit ?_
 | refine k_endB ⟨?_, ?_⟩
 | exact (rfl : _ = V.tup [])
 | exact trivial)
      refine ⟨?_, trivial⟩
      show some (Res.bld _ _ (bl ++ befT K f n l i)) = _
      have e : i = l.length := by omega
      rw [e, befT, List.take_length]; rfl
set_option maxHeartbeats 8000000 in
set_option maxRecDepth 100000 in
theorem sels_acb (K : Nat) : ∀ (f n : Nat) (l : List D) (bl : List UInt8), SelsOk K (f + 1) l → (∀ i, wideD (gD l i)) → bulkL l ≤ 1048576 → n + f ≤ 300 → bl.length + (selsT K (f + 1) n l).length ≤ 10000000000 + 1000000000 * n →
    ACB EN Tryz.prog 55 [.bx (pn 0) 0, .sl 76 l, .c (.int .i64 (n : Int))] [.bld 110 5 bl] (.tup []) [.bld 110 5 (bl ++ selsT K (f + 1) n l)] := by
  intro f
  induction f with
  | zero =>
    intro n l bl h hw hb hn hlen
    exact sels_step K 0 n l bl h hw hb hn hlen fun i hi hne => absurd (h i hi).sub hne
  | succ f ih =>
    intro n l bl h hw hb hn hlen
    refine sels_step K (f + 1) n l bl h hw hb hn hlen fun i hi hne b2 hb2 => ?_
    have hbi := bulkL_get hi
    have h6 := wD_list ((gD l i).f 6)
    have hf6 := wD_f (gD l i) 6
    have hbw := bulkD_wD (gD l i)
    exact ih (n + 1) ((gD l i).f 6).l b2 (h i hi).sub (fun j => ((hw i).f 6).l j) (by omega) (by omega) hb2
end Go.Proofs.YthjiclhfhjdjpaaGreatDoor
namespace Go.Proofs.YthjiclhfhjdjpaaGreatDoor
open Go.RowKit
attribute [local irreducible] wpList Calls Code.wp AW AWo OpOk seqK blockK scopeK loopK endK AC absLex Yld Sub
set_option maxHeartbeats 8000000 in
set_option maxRecDepth 100000 in
theorem str_eq {l : List UInt8} {e : ByteArray} (h : tx e = l) : V.c (.string (bs l)) = V.c (.string e) := by rw [← h, bs_tx]
set_option maxHeartbeats 8000000 in
set_option maxRecDepth 100000 in
theorem rep_succ (l : List UInt8) : ∀ n, Lib.repeatL l (n + 1) = Lib.repeatL l n ++ l
  | 0 => by simp [Lib.repeatL]
  | n + 1 => by
    show l ++ Lib.repeatL l (n + 1) = (l ++ Lib.repeatL l n) ++ l
    rw [rep_succ l n, List.append_assoc]
noncomputable def HiR (n i : Nat) : Vst 13 := stS 13 [(0, .c (.int .i64 n)), (3, .c (.string (bs (Lib.repeatL [32, 32] i)))), (4, .c (.int .i64 i))] []
set_option maxHeartbeats 8000000 in
set_option maxRecDepth 100000 in
theorem indentR_ac (n : Nat) (hn : n ≤ 1000000) : AC EN Tryz.prog 118 [.c (.int .i64 (n : Int))] (.c (.string (bs (Lib.repeatL [32, 32] n)))) := by
  refine ac_enter 13 Tryz.func118 rfl rfl rfl rfl ?_
  intro s w he
  repeat' (first
 | refine aw_region ?_
 | refine awo_nil ?_
 | refine k_seq ?_
 | (apply aw_1
    conv => whnf
    refine ⟨?_, trivial⟩)
 | (apply s_1
    conv => whnf; arg 1; arg 4; arg 3; whnf
    refine ⟨?_, ?_⟩)
 | exact trivial)
  refine aw_loop (fun j st => ∃ i, i + j = n ∧ Sub (cx EN Tryz.prog s w he) st (HiR n i)) n ⟨0, by omega, ?_⟩ ?_
  · exact Sub.live ⟨rfl, rfl, rfl, trivial⟩ trivial
  · rintro j st ⟨i, hij, hs2⟩
    refine aw_sub hs2 ?_
    have e : (Lib.repeatL [32, 32] i).length = 2 * i := repeat_len _ i
    repeat' (first
 | refine aw_region ?_
 | refine awo_nil ?_
 | refine k_seq ?_
 | refine k_block ?_
 | (apply aw_1
    conv => whnf
    refine ⟨?_, trivial⟩)
 | (apply s_1
    conv => whnf; arg 1; arg 4; arg 3; whnf
    refine ⟨?_, ?_⟩)
 | (refine aw_cond (by conv => lhs; whnf) ?_ ?_ <;> intro hb)
 | refine k_seq_exit ?_
 | refine k_block_hit rfl ?_
 | refine k_loop_exit ?_
 | refine k_end_ret ?_
 | (refine ⟨_, by conv => lhs; whnf; arg 2; whnf, ?_⟩; conv => rhs; whnf)
 | exact trivial)
    · have hi := at_lt hb
      refine k_loop_next (j' := j - 1) (by omega) ⟨i + 1, by omega, Sub.live ⟨rfl, ?_, rfl, trivial⟩ trivial⟩
      show V.c (.string (bs (Lib.repeatL [32, 32] i) ++ ⟨#[32, 32]⟩)) = _
      rw [rep_succ, ← bs_append]; rfl
    · exact i64_ok (by omega)
    · rw [bs_size, e]
      show 2 * i + 2 ≤ maxLen
      unfold maxLen; omega
    · have e2 : i = n := by have := at_ge hb; omega
      rw [e2]
set_option maxHeartbeats 8000000 in
set_option maxRecDepth 100000 in
theorem tailT_if (K : Nat) (l : List D) : tailT K l = if 0 < l.length then [32] ++ dirsT K l else [] := by
  unfold tailT
  by_cases h : l.length = 0
  · rw [if_pos h, if_neg (by omega)]
  · rw [if_neg h, if_pos (by omega)]
set_option maxHeartbeats 8000000 in
set_option maxRecDepth 100000 in
theorem lineR_ac (K : Nat) (s : D) {Q : List D → Prop} (h : SelOk K Q s) (hs1 : (s.f 1).s.size ≤ 1048576) (hs2 : (s.f 2).s.size ≤ 1048576) (hs3 : (s.f 3).s.size ≤ 1048576) :
    AC EN Tryz.prog 119 [.agg (cellsV Tryz.prog 12 76 s)] (.c (.string (bs (headT K s)))) := by
  have hda := dirsR_ac K (s.f 5).l h.dirs
  have haa := argsR_ac K (s.f 4).l h.args
  have hpa : (parT K (s.f 4).l).length ≤ 40000000 := by have := parT_len K _ h.args.wide; have := h.args.bulk; omega
  have hta : (dirsT K (s.f 5).l).length ≤ 40000000 := by have := dirsT_len K _ h.dirs.wide; have := h.dirs.bulk; omega
  have hkd := h.kind
  have hlt : decide (((s.f 5).l.length : Int) > 0) = true → 0 < (s.f 5).l.length := fun h => by have := of_decide_eq_true h; omega
  have hle : decide (((s.f 5).l.length : Int) > 0) = false → ¬ 0 < (s.f 5).l.length := fun h => by have := of_decide_eq_false h; omega
  refine ac_enter 48 Tryz.func119 rfl rfl rfl rfl ?_
  intro s0 w he
  repeat' (first
 | refine aw_region ?_
 | refine awo_nil ?_
 | refine k_seq ?_
 | refine k_block ?_
 | (apply aw_1
    conv => whnf
    refine ⟨?_, trivial⟩)
 | (apply s_1
    conv => whnf; arg 1; arg 4; arg 3; whnf
    refine ⟨?_, ?_⟩)
 | (apply s_call rfl
    · conv => lhs; whnf
    · conv => lhs; whnf
    · first | exact hda | exact haa)
 | (apply s_box rfl rfl rfl rfl
    · conv => lhs; whnf; arg 1; whnf
    · rfl)
 | (apply aw_draw (by kernel_rfl) (by kernel_rfl))
 | apply y_nil
 | (apply y_val rfl
    · conv => lhs; whnf
    · conv => lhs; whnf; arg 2; whnf)
 | (apply y_call rfl
    · conv => lhs; whnf
    · conv => lhs; whnf
    · first | exact hda | exact haa)
 | exact apartB_none
 | exact apartB_nil
 | exact (1000000 : Nat)
 | (refine aw_cond (by conv => lhs; whnf) ?_ ?_ <;> intro hb)
 | refine k_end_ret ?_
 | (refine ⟨_, by conv => lhs; whnf; arg 2; whnf, ?_⟩; conv => rhs; whnf)
 | exact trivial)
  all_goals first
    | ((simp only [ByteArray.size_append, bs_size, lit_size, List.size_toArray, List.length_append, List.length_cons, List.length_nil, maxLen, Nat.reduceAdd, Int.toNat_natCast]; omega); done)
    | skip
  · rename_i h1 ha
    have k1 : (s.f 0).n = 1 := by simpa using h1
    have a1 : ¬ tx (s.f 1).s = [] := s_ne ha
    have t1 := hlt hb
    refine str_eq ?_
    rw [headT, if_neg (by omega), if_neg (by omega), if_neg a1, tailT_if, if_pos t1]
    simp only [tx_append, tx_bs, List.append_assoc]; rfl
  · rename_i h1 ha
    have k1 : (s.f 0).n = 1 := by simpa using h1
    have a1 : ¬ tx (s.f 1).s = [] := s_ne ha
    have t1 := hle hb
    refine str_eq ?_
    rw [headT, if_neg (by omega), if_neg (by omega), if_neg a1, tailT_if, if_neg t1]
    simp only [tx_append, tx_bs, List.append_assoc, List.append_nil]; rfl
  · rename_i h1 ha
    have k1 : (s.f 0).n = 1 := by simpa using h1
    have a1 : tx (s.f 1).s = [] := s_eq ha
    have t1 := hlt hb
    refine str_eq ?_
    rw [headT, if_neg (by omega), if_neg (by omega), if_pos a1, tailT_if, if_pos t1]
    simp only [tx_append, tx_bs, List.append_assoc]; rfl
  · rename_i h1 ha
    have k1 : (s.f 0).n = 1 := by simpa using h1
    have a1 : tx (s.f 1).s = [] := s_eq ha
    have t1 := hle hb
    refine str_eq ?_
    rw [headT, if_neg (by omega), if_neg (by omega), if_pos a1, tailT_if, if_neg t1]
    simp only [tx_append, tx_bs, List.append_assoc, List.append_nil]; rfl
  · rename_i h1 h2
    have k2 : (s.f 0).n = 2 := by simpa using h2
    have t1 := hlt hb
    refine str_eq ?_
    rw [headT, if_pos k2, tailT_if, if_pos t1]
    simp only [tx_append, tx_bs, List.append_assoc]; rfl
  · rename_i h1 h2
    have k2 : (s.f 0).n = 2 := by simpa using h2
    have t1 := hle hb
    refine str_eq ?_
    rw [headT, if_pos k2, tailT_if, if_neg t1]
    simp only [tx_append, tx_bs, List.append_assoc, List.append_nil]; rfl
  · rename_i h1 h2 h3 ha
    have k3 : (s.f 0).n = 3 := by simpa using h3
    have a1 : ¬ tx (s.f 3).s = [] := s_ne ha
    have t1 := hlt hb
    refine str_eq ?_
    rw [headT, if_neg (by omega), if_pos k3, if_neg a1, tailT_if, if_pos t1]
    simp only [tx_append, tx_bs, List.append_assoc]; rfl
  · rename_i h1 h2 h3 ha
    have k3 : (s.f 0).n = 3 := by simpa using h3
    have a1 : ¬ tx (s.f 3).s = [] := s_ne ha
    have t1 := hle hb
    refine str_eq ?_
    rw [headT, if_neg (by omega), if_pos k3, if_neg a1, tailT_if, if_neg t1]
    simp only [tx_append, tx_bs, List.append_assoc, List.append_nil]; rfl
  · rename_i h1 h2 h3 ha
    have k3 : (s.f 0).n = 3 := by simpa using h3
    have a1 : tx (s.f 3).s = [] := s_eq ha
    have t1 := hlt hb
    refine str_eq ?_
    rw [headT, if_neg (by omega), if_pos k3, if_pos a1, tailT_if, if_pos t1]
    simp only [tx_append, tx_bs, List.append_assoc]; rfl
  · rename_i h1 h2 h3 ha
    have k3 : (s.f 0).n = 3 := by simpa using h3
    have a1 : tx (s.f 3).s = [] := s_eq ha
    have t1 := hle hb
    refine str_eq ?_
    rw [headT, if_neg (by omega), if_pos k3, if_pos a1, tailT_if, if_neg t1]
    simp only [tx_append, tx_bs, List.append_assoc, List.append_nil]; rfl
  all_goals
    exfalso
    rename_i h1 h2 h3
    have k1 : ¬ (s.f 0).n = 1 := by simpa using h1
    have k2 : ¬ (s.f 0).n = 2 := by simpa using h2
    have k3 : ¬ (s.f 0).n = 3 := by simpa using h3
    omega
set_option maxHeartbeats 8000000 in
set_option maxRecDepth 100000 in
theorem len0 {n : Nat} (h : decide ((n : Int) > 0) = false) : n = 0 := by have := of_decide_eq_false h; omega
noncomputable def HlR (K f n : Nat) (l : List D) (i : Nat) : Vst 48 :=
  stS 48 [(0, .sl 76 l), (1, .c (.int .i64 n)), (5, .c (.string (bs (befT K f n l i)))), (6, .c (.int .i64 i))] []
set_option maxHeartbeats 4000000 in
set_option maxRecDepth 100000 in
theorem lines_step (K f n : Nat) (l : List D) (h : SelsOk K (f + 1) l) (hw : ∀ i, wideD (gD l i)) (hb : bulkL l ≤ 1048576) (hn : n + f ≤ 300)
    (ih : ∀ i, i < l.length → ((gD l i).f 6).l ≠ [] → AC EN Tryz.prog 56 [.sl 76 ((gD l i).f 6).l, .c (.int .i64 ((n : Int) + 1))] (.c (.string (bs (selsT K f (n + 1) ((gD l i).f 6).l))))) :
    AC EN Tryz.prog 56 [.sl 76 l, .c (.int .i64 (n : Int))] (.c (.string (bs (selsT K (f + 1) n l)))) := by
  have hll := len_bulk l
  have hind := indentR_ac n (by omega)
  have hrl : (Lib.repeatL [32, 32] n).length = 2 * n := repeat_len _ n
  have htot : (selsT K (f + 1) n l).length ≤ 2000000000 := by
    have h1 := selsT_len K (f + 1) n l hw
    have h2 : (4 * (n + (f + 1)) + 70) * bulkL l ≤ 1300 * 1048576 := Nat.mul_le_mul (by omega) hb
    omega
  refine ac_enter 48 Tryz.func56 rfl rfl rfl rfl ?_
  intro s w he
  repeat' (first
 | refine aw_region ?_
 | refine awo_nil ?_
 | refine k_seq ?_
 | (apply aw_1
    conv => whnf
    refine ⟨?_, trivial⟩)
 | (apply s_1
    conv => whnf; arg 1; arg 4; arg 3; whnf
    refine ⟨?_, ?_⟩)
 | exact trivial)
  refine aw_loop (fun j st => ∃ i, i + j = l.length ∧ Sub (cx EN Tryz.prog s w he) st (HlR K f n l i)) l.length ⟨0, by omega, ?_⟩ ?_
  · exact Sub.live ⟨rfl, rfl, rfl, rfl, trivial⟩ trivial
  · rintro j st ⟨i, hij, hs2⟩
    refine aw_sub hs2 ?_
    have hbe : (befT K f n l i).length ≤ (selsT K (f + 1) n l).length := selsT_take_len i
    by_cases hi : i < l.length
    · have hok := h i hi
      have hnx : befT K f n l (i + 1) = befT K f n l i ++ selT K (selsT K f (n + 1)) n (gD l i) := selsT_take hi
      have hbe1 : (befT K f n l (i + 1)).length ≤ (selsT K (f + 1) n l).length := selsT_take_len (i + 1)
      have hhl := headT_len K (gD l i) (hw i)
      have hbi := bulkL_get hi
      have hbw := bulkD_wD (gD l i)
      have hs1 : ((gD l i).f 1).s.size ≤ 1048576 := by have := wD_str ((gD l i).f 1); have := wD_f (gD l i) 1; omega
      have hs2 : ((gD l i).f 2).s.size ≤ 1048576 := by have := wD_str ((gD l i).f 2); have := wD_f (gD l i) 2; omega
      have hs3 : ((gD l i).f 3).s.size ≤ 1048576 := by have := wD_str ((gD l i).f 3); have := wD_f (gD l i) 3; omega
      have hline := lineR_ac K (gD l i) hok hs1 hs2 hs3
      have hgt : decide ((((gD l i).f 6).l.length : Int) > 0) = true → ((gD l i).f 6).l ≠ [] := fun h e => by rw [e] at h; simp at h
      have hin : ((gD l i).f 6).l ≠ [] → openB (gD l i) = true := fun hne => by
        have h0 : (((gD l i).f 6).l.length != 0) = true := by simpa using hne
        unfold openB
        rcases hok.kind with h1 | ⟨_, h2⟩ | ⟨h1, _⟩
        · rw [h0, h1]; rfl
        · exact absurd h2 hne
        · rw [h1]; rfl
      have hout : ((gD l i).f 6).l = [] → openB (gD l i) = false := fun hne => by
        unfold openB
        rcases hok.kind with h1 | ⟨h1, _⟩ | ⟨_, h2⟩
        · rw [hne, h1]; rfl
        · rw [h1]; rfl
        · exact absurd hne h2
      have hse : ((gD l i).f 6).l ≠ [] → (selsT K f (n + 1) ((gD l i).f 6).l).length ≤ 2000000000 := fun hne => by
        have e := congrArg List.length hnx
        rw [List.length_append, selT, if_pos (hin hne)] at e
        simp only [List.length_append] at e
        omega
      repeat' (first
 | refine aw_region ?_
 | refine awo_nil ?_
 | refine k_seq ?_
 | refine k_block ?_
 | (apply aw_1
    conv => whnf
    refine ⟨?_, trivial⟩)
 | (apply s_1
    conv => whnf; arg 1; arg 4; arg 3; whnf
    refine ⟨?_, ?_⟩)
 | (apply s_call rfl
    · conv => lhs; whnf
    · conv => lhs; whnf
    · first | exact hind | exact hline | exact ih i hi (hgt (by assumption)))
 | (apply aw_draw (by kernel_rfl) (by kernel_rfl))
 | apply y_nil
 | (apply y_val rfl
    · conv => lhs; whnf
    · conv => lhs; whnf; arg 2; whnf)
 | (apply y_call rfl
    · conv => lhs; whnf
    · conv => lhs; whnf
    · first | exact hind | exact hline | exact ih i hi (hgt (by assumption)))
 | exact apartB_none
 | exact apartB_nil
 | exact (1000000 : Nat)
 | (refine aw_cond (by conv => lhs; whnf) ?_ ?_ <;> intro hb)
 | refine k_seq_exit ?_
 | refine k_block_hit rfl ?_
 | refine k_loop_exit ?_
 | refine k_end_ret ?_
 | (refine ⟨_, by conv => lhs; whnf; arg 2; whnf, ?_⟩; conv => rhs; whnf)
 | exact trivial)
      all_goals first
        | exact i64_ok (by omega)
        | ((simp only [ByteArray.size_append, bs_size, lit_size, List.size_toArray, List.length_append, List.length_cons, List.length_nil, maxLen, Nat.reduceAdd, Int.toNat_natCast]; omega); done)
        | (have := hse (hgt hb); (simp only [ByteArray.size_append, bs_size, lit_size, List.size_toArray, List.length_append, List.length_cons, List.length_nil, maxLen, Nat.reduceAdd, Int.toNat_natCast]; omega); done)
        | exact ⟨by omega, by omega⟩
        | skip
      · have hne := hgt hb
        refine k_loop_next (j' := j - 1) (by omega) ⟨i + 1, by omega, Sub.live ⟨rfl, rfl, ?_, rfl, trivial⟩ trivial⟩
        show V.c (.string (bs (befT K f n l i) ++ bs (Lib.repeatL [32, 32] n) ++ bs (headT K (gD l i)) ++ ⟨#[32, 123, 10]⟩ ++ bs (selsT K f (n + 1) ((gD l i).f 6).l) ++ bs (Lib.repeatL [32, 32] n) ++ ⟨#[125]⟩ ++ ⟨#[10]⟩)) = V.c (.string (bs (befT K f n l (i + 1))))
        refine (str_eq ?_).symm
        rw [hnx, selT, if_pos (hin hne), lineT, lineT]
        simp only [tx_append, tx_bs, List.append_assoc]; rfl
      · have hne : ((gD l i).f 6).l = [] := List.eq_nil_of_length_eq_zero (len0 hb)
        refine k_loop_next (j' := j - 1) (by omega) ⟨i + 1, by omega, Sub.live ⟨rfl, rfl, ?_, rfl, trivial⟩ trivial⟩
        show V.c (.string (bs (befT K f n l i) ++ bs (Lib.repeatL [32, 32] n) ++ bs (headT K (gD l i)) ++ ⟨#[10]⟩)) = V.c (.string (bs (befT K f n l (i + 1))))
        refine (str_eq ?_).symm
        rw [hnx, selT, if_neg (by rw [hout hne]; decide), lineT]
        simp only [tx_append, tx_bs, List.append_assoc]; rfl
      · have : l.length ≤ i := at_ge hb
        omega
    · have hno : decide ((i : Int) < (l.length : Int)) = true → False := fun h => hi (at_lt h)
      repeat' (first
 | exact (hno (by assumption)).elim
 | refine aw_region ?_
 | refine awo_nil ?_
 | refine k_seq ?_
 | (apply aw_1
    conv => whnf
    refine ⟨?_, trivial⟩)
 | (apply s_1
    conv => whnf; arg 1; arg 4; arg 3; whnf
    refine ⟨?_, ?_⟩)
 | (refine aw_cond (by conv => lhs; whnf) ?_ ?_ <;> intro hb)
 | refine k_seq_exit ?_
 | refine k_block_hit rfl ?_
 | refine k_loop_exit ?_
 | refine k_end_ret ?_
 | (refine ⟨_, by conv => lhs; whnf; arg 2; whnf, ?_⟩; conv => rhs; whnf)
 | exact trivial)
      have e : i = l.length := by omega
      rw [e, befT, List.take_length]; rfl
set_option maxHeartbeats 8000000 in
set_option maxRecDepth 100000 in
theorem lines_ac (K : Nat) : ∀ (f n : Nat) (l : List D), SelsOk K (f + 1) l → (∀ i, wideD (gD l i)) → bulkL l ≤ 1048576 → n + f ≤ 300 →
    AC EN Tryz.prog 56 [.sl 76 l, .c (.int .i64 (n : Int))] (.c (.string (bs (selsT K (f + 1) n l)))) := by
  intro f
  induction f with
  | zero =>
    intro n l h hw hb hn
    exact lines_step K 0 n l h hw hb hn fun i hi hne => absurd (h i hi).sub hne
  | succ f ih =>
    intro n l h hw hb hn
    refine lines_step K (f + 1) n l h hw hb hn fun i hi hne => ?_
    have hbi := bulkL_get hi
    have h6 := wD_list ((gD l i).f 6)
    have hf6 := wD_f (gD l i) 6
    have hbw := bulkD_wD (gD l i)
    exact ih (n + 1) ((gD l i).f 6).l (h i hi).sub (fun j => ((hw i).f 6).l j) (by omega) (by omega)
set_option maxHeartbeats 8000000 in
set_option maxRecDepth 100000 in
theorem selsR_ac (K f : Nat) (l : List D) (h : SelsOk K (f + 1) l) (hw : ∀ i, wideD (gD l i)) (hb : bulkL l ≤ 1048576) (hf : f ≤ 299) :
    AC EN Tryz.prog 27 [.sl 76 l] (.c (.string (bs (selsT K (f + 1) 1 l)))) := by
  have hl := lines_ac K f 1 l h hw hb (by omega)
  refine ac_enter 5 Tryz.func27 rfl rfl rfl rfl ?_
  intro s w he
  repeat' (first
 | refine aw_region ?_
 | refine awo_nil ?_
 | refine k_seq ?_
 | (apply aw_1
    conv => whnf
    refine ⟨?_, trivial⟩)
 | (apply s_1
    conv => whnf; arg 1; arg 4; arg 3; whnf
    refine ⟨?_, ?_⟩)
 | (apply s_call rfl
    · conv => lhs; whnf
    · conv => lhs; whnf
    · first | exact hl)
 | refine k_end_ret ?_
 | (refine ⟨_, by conv => lhs; whnf; arg 2; whnf, ?_⟩; conv => rhs; whnf)
 | exact trivial)
end Go.Proofs.YthjiclhfhjdjpaaGreatDoor
namespace Go.Proofs.YthjiclhfhjdjpaaGreatDoor
open Go.RowKit
attribute [local irreducible] wpList Calls Code.wp AW AWo OpOk seqK blockK scopeK loopK endK AC absLex Yld Sub
/-- the keyword of a kind of operations -/
def wordT (k : Int) : List UInt8 := if k = 2 then [109, 117, 116, 97, 116, 105, 111, 110] else if k = 3 then [115, 117, 98, 115, 99, 114, 105, 112, 116, 105, 111, 110] else [113, 117, 101, 114, 121]
def varT (K : Nat) (v : D) : List UInt8 := [36] ++ tx (v.f 0).s ++ [58, 32] ++ refB (tx ((v.f 1).f 0).s) ((v.f 1).f 1).l ++ (if (v.f 2).b = true then [32, 61, 32] ++ valT K (v.f 3) else [])
def varsT (K : Nat) (l : List D) : List UInt8 := Lib.join (l.map (varT K)) commaT
def opT (K : Nat) (o : D) : List UInt8 :=
  if (o.f 0).n = 1 ∧ tx (o.f 1).s = [] ∧ (o.f 2).l.length = 0 then [123]
  else wordT (o.f 0).n ++ (if tx (o.f 1).s = [] then [] else [32] ++ tx (o.f 1).s) ++ (if (o.f 2).l.length = 0 then [] else [40] ++ varsT K (o.f 2).l ++ [41]) ++ [32, 123]
structure VarsOk (K : Nat) (l : List D) : Prop where
  wide : ∀ i, wideD (gD l i)
  bulk : bulkL l ≤ 1048576
  dp : ∀ i, i < l.length → Dp K ((gD l i).f 3)
  good : ∀ i, i < l.length → goodV K ((gD l i).f 3)
set_option maxHeartbeats 8000000 in
set_option maxRecDepth 100000 in
theorem varT_len (K : Nat) (v : D) (h : wideD v) : (varT K v).length + 2 ≤ 40 * bulkD v := by
  have h1 := valT_len K (v.f 3) (h.f 3)
  have h2 := bulkD_wD (v.f 3)
  have h3 := bulkD_wD v
  have h4 := wD_str (v.f 0)
  have h5 := wD_fields v 4
  have h6 := tx_len (v.f 0).s
  have h7 := refB_length (tx ((v.f 1).f 0).s) ((v.f 1).f 1).l
  have h8 := wD_fields (v.f 1) 2
  have h9 := wD_str ((v.f 1).f 0)
  have h10 := tx_len ((v.f 1).f 0).s
  have h11 := Nat.le_trans (len_bulk ((v.f 1).f 1).l) (wD_list ((v.f 1).f 1))
  simp only [sumN] at h5 h8
  unfold varT
  split <;> simp only [List.length_append, List.length_cons, List.length_nil] <;> omega
set_option maxHeartbeats 8000000 in
set_option maxRecDepth 100000 in
theorem varsT_len (K : Nat) (l : List D) (h : ∀ i, wideD (gD l i)) : (varsT K l).length ≤ 40 * bulkL l := join_map_le l _ _ _ fun i _ => varT_len K _ (h i)
set_option maxHeartbeats 8000000 in
set_option maxRecDepth 100000 in
theorem refP_d (x : D) (hn : (x.f 0).s.size ≤ 2000000) (hl : (x.f 1).l.length ≤ 2000000) : AC EN Tryz.prog 121 [.agg (cellsV Tryz.prog 12 71 x)] (.c (.string (bs (refB (tx (x.f 0).s) (x.f 1).l)))) := by
  have := refP_ac (tx (x.f 0).s) (x.f 1).l (by rw [tx_len]; exact hn) hl
  rw [bs_tx] at this
  exact this
set_option maxHeartbeats 8000000 in
set_option maxRecDepth 100000 in
theorem refR_d (x : D) (hn : (x.f 0).s.size ≤ 2000000) (hl : (x.f 1).l.length ≤ 2000000) : AC EN Tryz.prog 124 [.agg (cellsV Tryz.prog 12 71 x)] (.c (.string (bs (refB (tx (x.f 0).s) (x.f 1).l)))) := by
  have := refR_ac (tx (x.f 0).s) (by rw [tx_len]; exact hn) (x.f 1).l hl
  rw [bs_tx] at this
  exact this
structure VarSz (K : Nat) (v : D) : Prop where
  name : (v.f 0).s.size ≤ 1048576
  rname : ((v.f 1).f 0).s.size ≤ 1048576
  wraps : ((v.f 1).f 1).l.length ≤ 1048576
  rtext : (refB (tx ((v.f 1).f 0).s) ((v.f 1).f 1).l).length ≤ 4000000
  dflt : bulkD (v.f 3) ≤ 1048576
  dtext : (valT K (v.f 3)).length ≤ 26000000
set_option maxHeartbeats 8000000 in
set_option maxRecDepth 100000 in
theorem VarsOk.sz {K : Nat} {l : List D} (h : VarsOk K l) {i : Nat} (hi : i < l.length) : VarSz K (gD l i) := by
  have h0 := bulkL_get hi
  have h0' := h.bulk
  have h1 := valT_len K ((gD l i).f 3) ((h.wide i).f 3)
  have h2 := bulkD_wD ((gD l i).f 3)
  have h3 := bulkD_wD (gD l i)
  have h4 := wD_str ((gD l i).f 0)
  have h5 := wD_fields (gD l i) 4
  have h7 := refB_length (tx (((gD l i).f 1).f 0).s) (((gD l i).f 1).f 1).l
  have h8 := wD_fields ((gD l i).f 1) 2
  have h9 := wD_str (((gD l i).f 1).f 0)
  have h10 := tx_len (((gD l i).f 1).f 0).s
  have h11 := Nat.le_trans (len_bulk (((gD l i).f 1).f 1).l) (wD_list (((gD l i).f 1).f 1))
  simp only [sumN] at h5 h8
  refine ⟨?_, ?_, ?_, ?_, ?_, ?_⟩ <;> omega
set_option maxHeartbeats 8000000 in
set_option maxRecDepth 100000 in
theorem word_ac (k : Int) : AC EN Tryz.prog 120 [.c (.int .i64 k)] (.c (.string (bs (wordT k)))) := by
  refine ac_enter 8 Tryz.func120 rfl rfl rfl rfl ?_
  intro s w he
  repeat' (first
 | refine aw_region ?_
 | refine awo_nil ?_
 | refine k_seq ?_
 | refine k_block ?_
 | (apply aw_1
    conv => whnf
    refine ⟨?_, trivial⟩)
 | (apply s_1
    conv => whnf; arg 1; arg 4; arg 3; whnf
    refine ⟨?_, ?_⟩)
 | (refine aw_cond (by conv => lhs; whnf) ?_ ?_ <;> intro hb)
 | refine k_seq_ret ?_
 | refine k_block_ret ?_
 | refine k_end_ret ?_
 | (refine ⟨_, by conv => lhs; whnf; arg 2; whnf, ?_⟩; conv => rhs; whnf)
 | exact trivial)
  · rw [wordT, if_pos (by simpa using hb)]; rfl
  · rename_i h2
    rw [wordT, if_neg (by simpa using h2), if_pos (by simpa using hb)]; rfl
  · rename_i h2
    rw [wordT, if_neg (by simpa using h2), if_neg (by simpa using hb)]; rfl
set_option maxHeartbeats 8000000 in
set_option maxRecDepth 100000 in
theorem wordT_len (k : Int) : (wordT k).length ≤ 12 := by
  unfold wordT
  split
  · simp
  · split <;> simp
def opName (o : D) : List UInt8 := wordT (o.f 0).n ++ (if tx (o.f 1).s = [] then [] else [32] ++ tx (o.f 1).s)
noncomputable def HhA (o : D) : Vst 72 := stS 72 [(1, .bx 1 0)] [(1, .box 57 (cellsV Tryz.prog 12 57 o))]
noncomputable def HhB (o : D) : Vst 72 := stS 72 [(1, .bx 1 0), (3, .c (.string (bs (opName o))))] [(1, .box 57 (cellsV Tryz.prog 12 57 o))]
set_option maxHeartbeats 8000000 in
set_option maxRecDepth 100000 in
theorem leq0 {n : Nat} (h : (((n : Int)) == 0) = true) : n = 0 := by
  have : (n : Int) = 0 := by simpa using h
  omega
noncomputable def HhP (K : Nat) (o : D) (i : Nat) : Vst 72 :=
  stS 72 [(3, .c (.string (bs (opName o)))), (4, .own 4 9 (strsJ (fun i => varT K (gD (o.f 2).l i)) i)), (34, .sl 88 (o.f 2).l), (35, .c (.int .i64 (o.f 2).l.length)), (36, .c (.int .i64 i))] [(4, .tok 9 (strsJ (fun i => varT K (gD (o.f 2).l i)) i).length)]
set_option maxHeartbeats 8000000 in
set_option maxRecDepth 100000 in
theorem opHead_ac (K : Nat) (o : D) (h : VarsOk K (o.f 2).l) (hn : (o.f 1).s.size ≤ 1048576) : AC EN Tryz.prog 58 [.agg (cellsV Tryz.prog 12 57 o)] (.c (.string (bs (opT K o)))) := by
  have hw := word_ac (o.f 0).n
  have hwl := wordT_len (o.f 0).n
  have hll := Nat.le_trans (len_bulk (o.f 2).l) h.bulk
  have hvl : (varsT K (o.f 2).l).length ≤ 50000000 := by have := varsT_len K _ h.wide; have := h.bulk; omega
  have hj := join_ac (strsJ (fun i => varT K (gD (o.f 2).l i)) (o.f 2).l.length) [44, 32] (by rw [strsR_len]; omega) (by rw [map_strsR]; exact Nat.le_trans hvl (by omega))
  rw [map_strsR] at hj
  have hnl : (opName o).length ≤ 1048600 := by
    have := tx_len (o.f 1).s
    unfold opName
    split <;> simp only [List.length_append, List.length_cons, List.length_nil] <;> omega
  by_cases hc : (o.f 0).n = 1 ∧ tx (o.f 1).s = [] ∧ (o.f 2).l.length = 0
  · have k1 : (((o.f 0).n == 1) == true) = false → False := fun h => by rw [hc.1] at h; cases h
    have k2 : (((o.f 1).s.toList == (⟨#[]⟩ : ByteArray).toList) == true) = false → False := fun h => e_ne (bF1 h) hc.2.1
    have k3 : ((((o.f 2).l.length : Int)) == 0) = false → False := fun h => by rw [hc.2.2] at h; cases h
    refine ac_enter 72 Tryz.func58 rfl rfl rfl rfl ?_
    intro s w he
    repeat' (first
 | exact (k1 (by assumption)).elim
 | exact (k2 (by assumption)).elim
 | exact (k3 (by assumption)).elim
 | refine aw_region ?_
 | refine awo_nil ?_
 | refine k_seq ?_
 | (apply aw_1
    conv => whnf
    refine ⟨?_, trivial⟩)
 | (apply s_pick_t rfl rfl
    · conv => lhs; whnf
    · conv => lhs; whnf
    · first | exact bT1 (by assumption) | exact bT2 (by assumption))
 | (apply s_1
    conv => whnf; arg 1; arg 4; arg 3; whnf
    refine ⟨?_, ?_⟩)
 | (apply s_box rfl rfl rfl rfl
    · conv => lhs; whnf; arg 1; whnf
    · rfl)
 | (apply s_wanted_val rfl
    · conv => lhs; whnf
    · conv => lhs; whnf
    · first | rfl | assumption
    · conv => lhs; whnf; arg 2; whnf)
 | (apply s_guard_val rfl
    · conv => lhs; whnf
    · conv => lhs; whnf
    · conv => lhs; whnf; arg 2; whnf)
 | (refine aw_cond (by conv => lhs; whnf) ?_ ?_ <;> intro hb)
 | refine k_seq_ret ?_
 | refine k_end_ret ?_
 | (refine ⟨_, by conv => lhs; whnf; arg 2; whnf, ?_⟩; conv => rhs; whnf)
 | exact trivial
 | intro hg)
    rw [opT, if_pos hc]; rfl
  · have kf : (((o.f 0).n == 1) == true) = true → (((o.f 1).s.toList == (⟨#[]⟩ : ByteArray).toList) == true) = true → ((((o.f 2).l.length : Int)) == 0) = true → False := fun h1 h2 h3 => hc ⟨by simpa using bT1 h1, e_eq (bT1 h2), leq0 h3⟩
    refine ac_enter 72 Tryz.func58 rfl rfl rfl rfl ?_
    intro s w he
    repeat' (first
 | apply aw_cutAt 3 (HhA o) rfl
 | apply aw_cutAt 6 (HhB o) rfl
 | exact (kf (by assumption) (by assumption) (by assumption)).elim
 | refine k_cut ?_
 | refine aw_region ?_
 | refine awo_nil ?_
 | refine k_seq ?_
 | (apply aw_1
    conv => whnf
    refine ⟨?_, trivial⟩)
 | (apply s_pick_t rfl rfl
    · conv => lhs; whnf
    · conv => lhs; whnf
    · first | exact bT1 (by assumption) | exact bT2 (by assumption))
 | (apply s_pick_f rfl rfl
    · conv => lhs; whnf
    · conv => lhs; whnf
    · first | exact bF1 (by assumption) | exact bF2 (by assumption))
 | (apply s_1
    conv => whnf; arg 1; arg 4; arg 3; whnf
    refine ⟨?_, ?_⟩)
 | (apply s_call rfl
    · conv => lhs; whnf
    · conv => lhs; whnf
    · first | exact hw)
 | (apply s_box rfl rfl rfl rfl
    · conv => lhs; whnf; arg 1; whnf
    · rfl)
 | (apply s_wanted_val rfl
    · conv => lhs; whnf
    · conv => lhs; whnf
    · first | rfl | assumption
    · conv => lhs; whnf; arg 2; whnf)
 | (apply s_skip rfl
    · conv => lhs; whnf
    · conv => lhs; whnf
    · first | rfl | assumption)
 | (apply s_guard_val rfl
    · conv => lhs; whnf
    · conv => lhs; whnf
    · conv => lhs; whnf; arg 2; whnf)
 | (refine aw_cond (by conv => lhs; whnf) ?_ ?_ <;> intro hb)
 | exact trivial
 | intro hg)
    all_goals first
      | exact Sub.live ⟨rfl, trivial⟩ ⟨rfl, trivial⟩
      | ((simp only [ByteArray.size_append, bs_size, lit_size, List.size_toArray, List.length_append, List.length_cons, List.length_nil, maxLen, Nat.reduceAdd, Int.toNat_natCast]; omega); done)
      | skip
    · have hne : ¬ tx (o.f 1).s = [] := s_ne hb
      refine Sub.live ⟨rfl, ?_, trivial⟩ ⟨rfl, trivial⟩
      show V.c (.string (bs (wordT (o.f 0).n) ++ (⟨#[32]⟩ ++ (o.f 1).s))) = V.c (.string (bs (opName o)))
      refine (str_eq ?_).symm
      rw [opName, if_neg hne]
      simp only [tx_append, tx_bs]; rfl
    · have hne : tx (o.f 1).s = [] := s_eq hb
      refine Sub.live ⟨rfl, ?_, trivial⟩ ⟨rfl, trivial⟩
      show V.c (.string (bs (wordT (o.f 0).n))) = V.c (.string (bs (opName o)))
      rw [opName, if_pos hne, List.append_nil]
    · refine aw_sub (Sub.own (t := 4) (e := 9) rfl rfl) ?_
      refine aw_loop (fun j st => ∃ i, i + j = (o.f 2).l.length ∧ Sub (cx EN Tryz.prog s w he) st (HhP K o i)) (o.f 2).l.length ⟨0, by omega, ?_⟩ ?_
      · exact Sub.live ⟨rfl, rfl, rfl, rfl, rfl, trivial⟩ ⟨rfl, trivial⟩
      · rintro j st ⟨i, hij, hs2⟩
        refine aw_sub hs2 ?_
        have htk := strsR_len (fun i => varT K (gD (o.f 2).l i)) i
        have hj2 : decide ((i : Int) < ((o.f 2).l.length : Int)) = false → AC EN Tryz.prog 59 [.sl 9 (strsJ (fun i => varT K (gD (o.f 2).l i)) i), .c (.string (bs [44, 32]))] (.c (.string (bs (varsT K (o.f 2).l)))) := fun hh => by
          have e : i = (o.f 2).l.length := by have := at_ge hh; omega
          rw [e]; exact hj
        have hv : decide ((i : Int) < ((o.f 2).l.length : Int)) = true → AC EN Tryz.prog 122 [.agg (cellsV Tryz.prog 12 84 ((gD (o.f 2).l i).f 3))] (.c (.string (bs (valT K ((gD (o.f 2).l i).f 3))))) := fun hh =>
          valueP_ac K _ (h.dp i (at_lt hh)) ((h.wide i).f 3) (h.good i (at_lt hh)) (h.sz (at_lt hh)).dflt
        have hr : decide ((i : Int) < ((o.f 2).l.length : Int)) = true → AC EN Tryz.prog 121 [.agg (cellsV Tryz.prog 12 71 ((gD (o.f 2).l i).f 1))] (.c (.string (bs (refB (tx (((gD (o.f 2).l i).f 1).f 0).s) (((gD (o.f 2).l i).f 1).f 1).l)))) := fun hh => by
          have z := h.sz (at_lt hh)
          exact refP_d _ (Nat.le_trans z.rname (by omega)) (Nat.le_trans z.wraps (by omega))
        have z : i < (o.f 2).l.length → VarSz K (gD (o.f 2).l i) := fun hh => h.sz hh
        by_cases hi : i < (o.f 2).l.length
        · obtain ⟨z1, z2, z3, z4, z5, z6⟩ := z hi
          repeat' (first
 | refine aw_region ?_
 | refine awo_nil ?_
 | refine k_seq ?_
 | refine k_block ?_
 | (apply aw_1
    conv => whnf
    refine ⟨?_, trivial⟩)
 | (apply s_1
    conv => whnf; arg 1; arg 4; arg 3; whnf
    refine ⟨?_, ?_⟩)
 | (apply s_call rfl
    · conv => lhs; whnf
    · conv => lhs; whnf
    · first | exact hv (by assumption) | exact hr (by assumption) | exact hj2 (by assumption))
 | (apply s_store rfl rfl rfl
    · conv => lhs; whnf
    · conv => lhs; whnf; arg 1; whnf
    · conv => lhs; whnf; arg 1; whnf
    · exact ⟨by kernel_rfl, by kernel_rfl⟩
    · rfl)
 | (apply s_app rfl rfl
    · conv => lhs; whnf
    · first | exact elemStr | (conv => lhs; whnf; arg 1; whnf)
    · first | exact fun _ => rfl | (intro _; kernel_rfl)
    · conv => lhs; whnf
    · conv => lhs; whnf; arg 1; whnf
    · conv => lhs; whnf)
 | (apply s_lit1 rfl rfl
    · conv => lhs; whnf
    · first | exact elemStr | (conv => lhs; whnf; arg 1; whnf)
    · conv => lhs; whnf; arg 1; whnf
    · rfl
    · rfl)
 | (apply aw_draw (by kernel_rfl) (by kernel_rfl))
 | apply y_nil
 | (apply y_val rfl
    · conv => lhs; whnf
    · conv => lhs; whnf; arg 2; whnf)
 | (apply y_call rfl
    · conv => lhs; whnf
    · conv => lhs; whnf
    · first | exact hv (by assumption) | exact hr (by assumption) | exact hj2 (by assumption))
 | exact apartB_none
 | exact apartB_nil
 | exact (1000000 : Nat)
 | (refine aw_cond (by conv => lhs; whnf) ?_ ?_ <;> intro hb)
 | refine k_seq_exit ?_
 | refine k_block_hit rfl ?_
 | refine k_loop_exit ?_
 | refine k_end_ret ?_
 | (refine ⟨_, by conv => lhs; whnf; arg 2; whnf, ?_⟩; conv => rhs; whnf)
 | exact trivial)
          all_goals first
            | exact i64_ok (by omega)
            | exact app_ok (by omega) (by omega)
            | ((simp only [ByteArray.size_append, bs_size, lit_size, List.size_toArray, List.length_append, List.length_cons, List.length_nil, maxLen, Nat.reduceAdd, Int.toNat_natCast]; omega); done)
            | exact at_ok hb
            | skip
          · have hhas : ((gD (o.f 2).l i).f 2).b = true := hb
            refine k_loop_next (j' := j - 1) (by omega) ⟨i + 1, by omega, Sub.live ⟨rfl, ?_, rfl, rfl, rfl, trivial⟩ ⟨?_, trivial⟩⟩
            · show V.own 4 _ (strsJ _ i ++ [.str (⟨#[36]⟩ ++ ((gD (o.f 2).l i).f 0).s ++ ⟨#[58, 32]⟩ ++ bs (refB (tx (((gD (o.f 2).l i).f 1).f 0).s) (((gD (o.f 2).l i).f 1).f 1).l) ++ (⟨#[32, 61, 32]⟩ ++ bs (valT K ((gD (o.f 2).l i).f 3))))]) = _
              rw [strsR_succ, varT, if_pos hhas, ← bs_append, ← bs_append, ← bs_append, ← bs_append, ← bs_append, bs_tx]; rfl
            · show some (Res.tok _ ((strsJ _ i).length + 1)) = _
              rw [strsR_succ, List.length_append]; rfl
          · have hhas : ¬ ((gD (o.f 2).l i).f 2).b = true := by
              have : ((gD (o.f 2).l i).f 2).b = false := hb
              rw [this]; decide
            refine k_loop_next (j' := j - 1) (by omega) ⟨i + 1, by omega, Sub.live ⟨rfl, ?_, rfl, rfl, rfl, trivial⟩ ⟨?_, trivial⟩⟩
            · show V.own 4 _ (strsJ _ i ++ [.str (⟨#[36]⟩ ++ ((gD (o.f 2).l i).f 0).s ++ ⟨#[58, 32]⟩ ++ bs (refB (tx (((gD (o.f 2).l i).f 1).f 0).s) (((gD (o.f 2).l i).f 1).f 1).l))]) = _
              rw [strsR_succ, varT, if_neg hhas, List.append_nil, ← bs_append, ← bs_append, ← bs_append, bs_tx]; rfl
            · show some (Res.tok _ ((strsJ _ i).length + 1)) = _
              rw [strsR_succ, List.length_append]; rfl
          all_goals
            rename_i h0
            have := at_ge h0
            omega
        · have hno : decide ((i : Int) < ((o.f 2).l.length : Int)) = true → False := fun h => hi (at_lt h)
          have e : i = (o.f 2).l.length := by omega
          repeat' (first
 | exact (hno (by assumption)).elim
 | refine aw_region ?_
 | refine awo_nil ?_
 | refine k_seq ?_
 | (apply aw_1
    conv => whnf
    refine ⟨?_, trivial⟩)
 | (apply s_1
    conv => whnf; arg 1; arg 4; arg 3; whnf
    refine ⟨?_, ?_⟩)
 | (apply s_call rfl
    · conv => lhs; whnf
    · conv => lhs; whnf
    · first | exact hv (by assumption) | exact hr (by assumption) | exact hj2 (by assumption))
 | (refine aw_cond (by conv => lhs; whnf) ?_ ?_ <;> intro hb)
 | refine k_seq_exit ?_
 | refine k_block_hit rfl ?_
 | refine k_loop_exit ?_
 | refine k_end_ret ?_
 | (refine ⟨_, by conv => lhs; whnf; arg 2; whnf, ?_⟩; conv => rhs; whnf)
 | exact trivial)
          all_goals first
            | ((simp only [ByteArray.size_append, bs_size, lit_size, List.size_toArray, List.length_append, List.length_cons, List.length_nil, maxLen, Nat.reduceAdd, Int.toNat_natCast]; omega); done)
            | skip
          · have hp : ¬ (o.f 2).l.length = 0 := by rw [htk] at hb; have := of_decide_eq_true hb; omega
            refine str_eq ?_
            rw [opT, if_neg hc, if_neg hp, ← opName]
            simp only [tx_append, tx_bs, List.append_assoc]; rfl
          · have hp : (o.f 2).l.length = 0 := by rw [htk] at hb; have := of_decide_eq_false hb; omega
            refine str_eq ?_
            rw [opT, if_neg hc, if_pos hp, ← opName, List.append_nil]
            simp only [tx_append, tx_bs, List.append_assoc]; rfl
end Go.Proofs.YthjiclhfhjdjpaaGreatDoor
namespace Go.Proofs.YthjiclhfhjdjpaaGreatDoor
open Go.RowKit
attribute [local irreducible] wpList Calls Code.wp AW AWo OpOk seqK blockK scopeK loopK endK AC absLex Yld Sub
def outR (K : Nat) (o : D) (i : Nat) : List UInt8 := opName o ++ (if i = 0 then [] else [40] ++ Lib.join (((o.f 2).l.map (varT K)).take i) commaT)
set_option maxHeartbeats 8000000 in
set_option maxRecDepth 100000 in
theorem outR_succ {K : Nat} {o : D} {i : Nat} (h : i < (o.f 2).l.length) : outR K o (i + 1) = (outR K o i ++ if i = 0 then [40] else [44, 32]) ++ varT K (gD (o.f 2).l i) := by
  unfold outR
  rw [if_neg (by omega), map_take_succ _ h]
  by_cases h0 : i = 0
  · subst h0
    rw [if_pos rfl, if_pos rfl, List.take_zero, List.nil_append, Lib.join_one]
    simp
  · rw [if_neg h0, if_neg h0, joinSnoc _ _ _ (fun e => by have h2 := congrArg List.length e; rw [List.length_take, List.length_map] at h2; simp only [List.length_nil] at h2; omega)]
    simp [commaT]
noncomputable def HrA (o : D) : Vst 78 := stS 78 [(1, .bx 1 0)] [(1, .box 57 (cellsV Tryz.prog 12 57 o))]
noncomputable def HrM (o : D) : Vst 78 := stS 78 [(1, .bx 1 0), (3, .c (.string (bs (if (o.f 0).n = 2 then [109, 117, 116, 97, 116, 105, 111, 110] else [113, 117, 101, 114, 121]))))] [(1, .box 57 (cellsV Tryz.prog 12 57 o))]
noncomputable def HrW (o : D) : Vst 78 := stS 78 [(1, .bx 1 0), (3, .c (.string (bs (wordT (o.f 0).n))))] [(1, .box 57 (cellsV Tryz.prog 12 57 o))]
noncomputable def HrB (K : Nat) (o : D) (i : Nat) : Vst 78 := stS 78 [(1, .bx 1 0), (3, .c (.string (bs (outR K o i)))), (4, .c (.int .i64 i))] [(1, .box 57 (cellsV Tryz.prog 12 57 o))]
noncomputable def HrC (o : D) : Vst 78 := stS 78 [(1, .bx 1 0), (3, .c (.string (bs (opName o))))] [(1, .box 57 (cellsV Tryz.prog 12 57 o))]
set_option maxHeartbeats 8000000 in
set_option maxRecDepth 100000 in
theorem opHeadR_ac (K : Nat) (o : D) (h : VarsOk K (o.f 2).l) (hn : (o.f 1).s.size ≤ 1048576) : AC EN Tryz.prog 60 [.agg (cellsV Tryz.prog 12 57 o)] (.c (.string (bs (opT K o)))) := by
  have hwl := wordT_len (o.f 0).n
  have hll := Nat.le_trans (len_bulk (o.f 2).l) h.bulk
  have hnl : (opName o).length ≤ 1048600 := by
    have := tx_len (o.f 1).s
    unfold opName
    split <;> simp only [List.length_append, List.length_cons, List.length_nil] <;> omega
  have hol : ∀ i, (outR K o i).length ≤ 60000000 := fun i => by
    have h1 := varsT_len K _ h.wide
    have h2 := h.bulk
    have h3 := joinMono ((o.f 2).l.map (varT K)) commaT i
    unfold varsT at h1
    unfold outR
    split <;> simp only [List.length_append, List.length_cons, List.length_nil] <;> omega
  by_cases hc : (o.f 0).n = 1 ∧ tx (o.f 1).s = [] ∧ (o.f 2).l.length = 0
  · have k1 : (((o.f 0).n == 1) == true) = false → False := fun h => by rw [hc.1] at h; cases h
    have k2 : (((o.f 1).s.toList == (⟨#[]⟩ : ByteArray).toList) == true) = false → False := fun h => e_ne (bF1 h) hc.2.1
    have k3 : ((((o.f 2).l.length : Int)) == 0) = false → False := fun h => by rw [hc.2.2] at h; cases h
    refine ac_enter 78 Tryz.func60 rfl rfl rfl rfl ?_
    intro s w he
    repeat' (first
 | exact (k1 (by assumption)).elim
 | exact (k2 (by assumption)).elim
 | exact (k3 (by assumption)).elim
 | refine aw_region ?_
 | refine awo_nil ?_
 | refine k_seq ?_
 | (apply aw_1
    conv => whnf
    refine ⟨?_, trivial⟩)
 | (apply s_pick_t rfl rfl
    · conv => lhs; whnf
    · conv => lhs; whnf
    · first | exact bT1 (by assumption) | exact bT2 (by assumption))
 | (apply s_1
    conv => whnf; arg 1; arg 4; arg 3; whnf
    refine ⟨?_, ?_⟩)
 | (apply s_box rfl rfl rfl rfl
    · conv => lhs; whnf; arg 1; whnf
    · rfl)
 | (apply s_wanted_val rfl
    · conv => lhs; whnf
    · conv => lhs; whnf
    · first | rfl | assumption
    · conv => lhs; whnf; arg 2; whnf)
 | (apply s_guard_val rfl
    · conv => lhs; whnf
    · conv => lhs; whnf
    · conv => lhs; whnf; arg 2; whnf)
 | (refine aw_cond (by conv => lhs; whnf) ?_ ?_ <;> intro hb)
 | refine k_seq_ret ?_
 | refine k_end_ret ?_
 | (refine ⟨_, by conv => lhs; whnf; arg 2; whnf, ?_⟩; conv => rhs; whnf)
 | exact trivial
 | intro hg)
    rw [opT, if_pos hc]; rfl
  · have kf : (((o.f 0).n == 1) == true) = true → (((o.f 1).s.toList == (⟨#[]⟩ : ByteArray).toList) == true) = true → ((((o.f 2).l.length : Int)) == 0) = true → False := fun h1 h2 h3 => hc ⟨by simpa using bT1 h1, e_eq (bT1 h2), leq0 h3⟩
    refine ac_enter 78 Tryz.func60 rfl rfl rfl rfl ?_
    intro s w he
    repeat' (first
 | apply aw_cutAt 3 (HrA o) rfl
 | apply aw_cutAt 6 (HrM o) rfl
 | apply aw_cutAt 8 (HrW o) rfl
 | apply aw_cutAt 10 (HrC o) rfl
 | exact (kf (by assumption) (by assumption) (by assumption)).elim
 | refine k_cut ?_
 | refine aw_region ?_
 | refine awo_nil ?_
 | refine k_seq ?_
 | (apply aw_1
    conv => whnf
    refine ⟨?_, trivial⟩)
 | (apply s_pick_t rfl rfl
    · conv => lhs; whnf
    · conv => lhs; whnf
    · first | exact bT1 (by assumption) | exact bT2 (by assumption))
 | (apply s_pick_f rfl rfl
    · conv => lhs; whnf
    · conv => lhs; whnf
    · first | exact bF1 (by assumption) | exact bF2 (by assumption))
 | (apply s_1
    conv => whnf; arg 1; arg 4; arg 3; whnf
    refine ⟨?_, ?_⟩)
 | (apply s_box rfl rfl rfl rfl
    · conv => lhs; whnf; arg 1; whnf
    · rfl)
 | (apply s_wanted_val rfl
    · conv => lhs; whnf
    · conv => lhs; whnf
    · first | rfl | assumption
    · conv => lhs; whnf; arg 2; whnf)
 | (apply s_skip rfl
    · conv => lhs; whnf
    · conv => lhs; whnf
    · first | rfl | assumption)
 | (apply s_guard_val rfl
    · conv => lhs; whnf
    · conv => lhs; whnf
    · conv => lhs; whnf; arg 2; whnf)
 | (refine aw_cond (by conv => lhs; whnf) ?_ ?_ <;> intro hb)
 | exact trivial
 | intro hg)
    all_goals first
      | exact Sub.live ⟨rfl, trivial⟩ ⟨rfl, trivial⟩
      | ((simp only [ByteArray.size_append, bs_size, lit_size, List.size_toArray, List.length_append, List.length_cons, List.length_nil, maxLen, Nat.reduceAdd, Int.toNat_natCast]; omega); done)
      | skip
    · have e : (o.f 0).n = 2 := by simpa using hb
      refine Sub.live ⟨rfl, ?_, trivial⟩ ⟨rfl, trivial⟩
      show V.c (.string ⟨#[109, 117, 116, 97, 116, 105, 111, 110]⟩) = V.c (.string (bs _))
      rw [if_pos e]; rfl
    · have e : ¬ (o.f 0).n = 2 := by simpa using hb
      refine Sub.live ⟨rfl, ?_, trivial⟩ ⟨rfl, trivial⟩
      show V.c (.string ⟨#[113, 117, 101, 114, 121]⟩) = V.c (.string (bs _))
      rw [if_neg e]; rfl
    · have e : (o.f 0).n = 3 := by simpa using hb
      refine Sub.live ⟨rfl, ?_, trivial⟩ ⟨rfl, trivial⟩
      show V.c (.string ⟨#[115, 117, 98, 115, 99, 114, 105, 112, 116, 105, 111, 110]⟩) = V.c (.string (bs (wordT (o.f 0).n)))
      rw [wordT, if_neg (by omega), if_pos e]; rfl
    · have e : ¬ (o.f 0).n = 3 := by simpa using hb
      refine Sub.live ⟨rfl, ?_, trivial⟩ ⟨rfl, trivial⟩
      show V.c (.string (bs (if (o.f 0).n = 2 then [109, 117, 116, 97, 116, 105, 111, 110] else [113, 117, 101, 114, 121]))) = V.c (.string (bs (wordT (o.f 0).n)))
      rw [wordT, if_neg e]
    · have hne : ¬ tx (o.f 1).s = [] := s_ne hb
      refine Sub.live ⟨rfl, ?_, trivial⟩ ⟨rfl, trivial⟩
      show V.c (.string (bs (wordT (o.f 0).n) ++ ⟨#[32]⟩ ++ (o.f 1).s)) = V.c (.string (bs (opName o)))
      refine (str_eq ?_).symm
      rw [opName, if_neg hne]
      simp only [tx_append, tx_bs, List.append_assoc]; rfl
    · have hne : tx (o.f 1).s = [] := s_eq hb
      refine Sub.live ⟨rfl, ?_, trivial⟩ ⟨rfl, trivial⟩
      show V.c (.string (bs (wordT (o.f 0).n))) = V.c (.string (bs (opName o)))
      rw [opName, if_pos hne, List.append_nil]
    · refine aw_loop (fun j st => ∃ i, i + j = (o.f 2).l.length ∧ Sub (cx EN Tryz.prog s w he) st (HrB K o i)) (o.f 2).l.length ⟨0, by omega, ?_⟩ ?_
      · refine Sub.live ⟨rfl, ?_, rfl, trivial⟩ ⟨rfl, trivial⟩
        show V.c (.string (bs (opName o))) = V.c (.string (bs (outR K o 0)))
        rw [outR, if_pos rfl, List.append_nil]
      · rintro j st ⟨i, hij, hs2⟩
        refine aw_sub hs2 ?_
        have ho := hol i
        by_cases hi : i < (o.f 2).l.length
        · obtain ⟨z1, z2, z3, z4, z5, z6⟩ := h.sz hi
          have hv := valueR_ac K ((gD (o.f 2).l i).f 3) (h.dp i hi) ((h.wide i).f 3) z5
          have hr := refR_d ((gD (o.f 2).l i).f 1) (Nat.le_trans z2 (by omega)) (Nat.le_trans z3 (by omega))
          have hge : decide ((i : Int) < ((o.f 2).l.length : Int)) = false → False := fun h => by have := at_ge h; omega
          repeat' (first
 | exact (hge (by assumption)).elim
 | refine aw_region ?_
 | refine awo_nil ?_
 | refine k_seq ?_
 | refine k_block ?_
 | (apply aw_1
    conv => whnf
    refine ⟨?_, trivial⟩)
 | (apply s_1
    conv => whnf; arg 1; arg 4; arg 3; whnf
    refine ⟨?_, ?_⟩)
 | (apply s_call rfl
    · conv => lhs; whnf
    · conv => lhs; whnf
    · first | exact hv | exact hr)
 | (apply s_store rfl rfl rfl
    · conv => lhs; whnf
    · conv => lhs; whnf; arg 1; whnf
    · conv => lhs; whnf; arg 1; whnf
    · exact ⟨by kernel_rfl, by kernel_rfl⟩
    · rfl)
 | (apply aw_draw (by kernel_rfl) (by kernel_rfl))
 | apply y_nil
 | (apply y_val rfl
    · conv => lhs; whnf
    · conv => lhs; whnf; arg 2; whnf)
 | (apply y_call rfl
    · conv => lhs; whnf
    · conv => lhs; whnf
    · first | exact hv | exact hr)
 | exact apartB_none
 | exact apartB_nil
 | exact (1000000 : Nat)
 | (refine aw_cond (by conv => lhs; whnf) ?_ ?_ <;> intro hb)
 | exact trivial)
          all_goals first
            | exact i64_ok (by omega)
            | ((simp only [ByteArray.size_append, bs_size, lit_size, List.size_toArray, List.length_append, List.length_cons, List.length_nil, maxLen, Nat.reduceAdd, Int.toNat_natCast]; omega); done)
            | exact ⟨by omega, by omega⟩
            | skip
          · rename_i h1 h0
            have e0 : i = 0 := leq0 h0
            have hhas : ((gD (o.f 2).l i).f 2).b = true := hb
            refine k_loop_next (j' := j - 1) (by omega) ⟨i + 1, by omega, Sub.live ⟨rfl, ?_, rfl, trivial⟩ ⟨rfl, trivial⟩⟩
            show V.c (.string (bs (outR K o i) ++ ⟨#[40]⟩ ++ ⟨#[36]⟩ ++ ((gD (o.f 2).l i).f 0).s ++ ⟨#[58, 32]⟩ ++ bs (refB (tx (((gD (o.f 2).l i).f 1).f 0).s) (((gD (o.f 2).l i).f 1).f 1).l) ++ ⟨#[32, 61, 32]⟩ ++ bs (valT K ((gD (o.f 2).l i).f 3)))) = V.c (.string (bs (outR K o (i + 1))))
            refine (str_eq ?_).symm
            rw [outR_succ hi, if_pos e0, varT, hhas, if_pos rfl]
            simp only [tx_append, tx_bs, List.append_assoc]; rfl
          · rename_i h1 h0
            have e0 : i = 0 := leq0 h0
            have hhas : ((gD (o.f 2).l i).f 2).b = false := hb
            refine k_loop_next (j' := j - 1) (by omega) ⟨i + 1, by omega, Sub.live ⟨rfl, ?_, rfl, trivial⟩ ⟨rfl, trivial⟩⟩
            show V.c (.string (bs (outR K o i) ++ ⟨#[40]⟩ ++ ⟨#[36]⟩ ++ ((gD (o.f 2).l i).f 0).s ++ ⟨#[58, 32]⟩ ++ bs (refB (tx (((gD (o.f 2).l i).f 1).f 0).s) (((gD (o.f 2).l i).f 1).f 1).l))) = V.c (.string (bs (outR K o (i + 1))))
            refine (str_eq ?_).symm
            rw [outR_succ hi, if_pos e0, varT, hhas, if_neg (by decide), List.append_nil]
            simp only [tx_append, tx_bs, List.append_assoc]; rfl
          · rename_i h1 h0
            have e0 : ¬ i = 0 := fun e => by rw [e] at h0; cases h0
            have hhas : ((gD (o.f 2).l i).f 2).b = true := hb
            refine k_loop_next (j' := j - 1) (by omega) ⟨i + 1, by omega, Sub.live ⟨rfl, ?_, rfl, trivial⟩ ⟨rfl, trivial⟩⟩
            show V.c (.string (bs (outR K o i) ++ ⟨#[44, 32]⟩ ++ ⟨#[36]⟩ ++ ((gD (o.f 2).l i).f 0).s ++ ⟨#[58, 32]⟩ ++ bs (refB (tx (((gD (o.f 2).l i).f 1).f 0).s) (((gD (o.f 2).l i).f 1).f 1).l) ++ ⟨#[32, 61, 32]⟩ ++ bs (valT K ((gD (o.f 2).l i).f 3)))) = V.c (.string (bs (outR K o (i + 1))))
            refine (str_eq ?_).symm
            rw [outR_succ hi, if_neg e0, varT, hhas, if_pos rfl]
            simp only [tx_append, tx_bs, List.append_assoc]; rfl
          · rename_i h1 h0
            have e0 : ¬ i = 0 := fun e => by rw [e] at h0; cases h0
            have hhas : ((gD (o.f 2).l i).f 2).b = false := hb
            refine k_loop_next (j' := j - 1) (by omega) ⟨i + 1, by omega, Sub.live ⟨rfl, ?_, rfl, trivial⟩ ⟨rfl, trivial⟩⟩
            show V.c (.string (bs (outR K o i) ++ ⟨#[44, 32]⟩ ++ ⟨#[36]⟩ ++ ((gD (o.f 2).l i).f 0).s ++ ⟨#[58, 32]⟩ ++ bs (refB (tx (((gD (o.f 2).l i).f 1).f 0).s) (((gD (o.f 2).l i).f 1).f 1).l))) = V.c (.string (bs (outR K o (i + 1))))
            refine (str_eq ?_).symm
            rw [outR_succ hi, if_neg e0, varT, hhas, if_neg (by decide), List.append_nil]
            simp only [tx_append, tx_bs, List.append_assoc]; rfl
        · have hno : decide ((i : Int) < ((o.f 2).l.length : Int)) = true → False := fun h => hi (at_lt h)
          have e : i = (o.f 2).l.length := by omega
          repeat' (first
 | exact (hno (by assumption)).elim
 | refine aw_region ?_
 | refine awo_nil ?_
 | refine k_seq ?_
 | (apply aw_1
    conv => whnf
    refine ⟨?_, trivial⟩)
 | (apply s_1
    conv => whnf; arg 1; arg 4; arg 3; whnf
    refine ⟨?_, ?_⟩)
 | (refine aw_cond (by conv => lhs; whnf) ?_ ?_ <;> intro hb)
 | refine k_seq_exit ?_
 | refine k_block_hit rfl ?_
 | refine k_loop_exit ?_
 | refine k_end_ret ?_
 | (refine ⟨_, by conv => lhs; whnf; arg 2; whnf, ?_⟩; conv => rhs; whnf)
 | exact trivial)
          all_goals first
            | ((simp only [ByteArray.size_append, bs_size, lit_size, List.size_toArray, List.length_append, List.length_cons, List.length_nil, maxLen, Nat.reduceAdd, Int.toNat_natCast]; omega); done)
            | skip
          · have hp : ¬ (o.f 2).l.length = 0 := by have : ((o.f 2).l.length : Int) > 0 := of_decide_eq_true hb
                                                   omega
            refine str_eq ?_
            rw [opT, if_neg hc, if_neg hp, ← opName, e, outR, if_neg hp, show (o.f 2).l.length = ((o.f 2).l.map (varT K)).length by simp, List.take_length]
            simp only [tx_append, tx_bs, List.append_assoc]; rfl
          · have hp : (o.f 2).l.length = 0 := len0 hb
            refine str_eq ?_
            rw [opT, if_neg hc, if_pos hp, ← opName, e, outR, if_pos hp, List.append_nil]
            simp only [tx_append, tx_bs, List.append_assoc]; rfl
end Go.Proofs.YthjiclhfhjdjpaaGreatDoor
namespace Go.Proofs.YthjiclhfhjdjpaaGreatDoor
open Go.RowKit
attribute [local irreducible] wpList Calls Code.wp AW AWo OpOk seqK blockK scopeK loopK endK AC absLex Yld Sub
attribute [local irreducible] ACB absLexG YldG
def blockT (K F : Nat) (first : List UInt8) (l : List D) : List UInt8 := lineT 0 first ++ selsT K F 1 l ++ lineT 0 [125]
def opB (K F : Nat) (o : D) : List UInt8 := blockT K F (opT K o) (o.f 3).l
def fragH (fr : D) : List UInt8 := [102, 114, 97, 103, 109, 101, 110, 116, 32] ++ tx (fr.f 0).s ++ [32, 111, 110, 32] ++ tx (fr.f 1).s ++ [32, 123]
def fragB (K F : Nat) (fr : D) : List UInt8 := blockT K F (fragH fr) (fr.f 2).l
/-- the text of a document of operations -/
def docT (K F : Nat) (q : D) : List UInt8 := Lib.join ((q.f 0).l.map (opB K F) ++ (q.f 1).l.map (fragB K F)) [10]
/-- what the printing of a document asks -/
structure DocOk (K f : Nat) (q : D) : Prop where
  wide : wideD q
  bulk : bulkD q ≤ 1048576
  deep : f ≤ 299
  vars : ∀ i, i < (q.f 0).l.length → VarsOk K ((gD (q.f 0).l i).f 2).l
  sels : ∀ i, i < (q.f 0).l.length → SelsOk K (f + 1) ((gD (q.f 0).l i).f 3).l
  frag : ∀ i, i < (q.f 1).l.length → SelsOk K (f + 1) ((gD (q.f 1).l i).f 2).l
set_option maxHeartbeats 8000000 in
set_option maxRecDepth 100000 in
theorem blockT_len (K f : Nat) (first : List UInt8) (l : List D) (hw : ∀ i, wideD (gD l i)) (hf : f ≤ 299) : (blockT K (f + 1) first l).length ≤ first.length + 1274 * bulkL l + 3 := by
  have h := selsT_len K (f + 1) 1 l hw
  have h2 : (4 * (1 + (f + 1)) + 70) * bulkL l ≤ 1274 * bulkL l := Nat.mul_le_mul_right _ (by omega)
  simp only [blockT, List.length_append, lineT_len, List.length_cons, List.length_nil]
  omega
set_option maxHeartbeats 8000000 in
set_option maxRecDepth 100000 in
theorem opT_len (K : Nat) (o : D) (h : wideD o) : (opT K o).length ≤ 18 + (o.f 1).s.size + 40 * bulkL (o.f 2).l := by
  have h1 := wordT_len (o.f 0).n
  have h2 := tx_len (o.f 1).s
  have h3 := varsT_len K (o.f 2).l fun i => (h.f 2).l i
  unfold opT
  split
  · simp; omega
  · split <;> split <;> simp only [List.length_append, List.length_cons, List.length_nil] <;> omega
set_option maxHeartbeats 8000000 in
set_option maxRecDepth 100000 in
theorem opB_len (K f : Nat) (o : D) (h : wideD o) (hf : f ≤ 299) : (opB K (f + 1) o).length + 1 ≤ 1274 * bulkD o := by
  have h1 := opT_len K o h
  have h2 := blockT_len K f (opT K o) (o.f 3).l (fun i => (h.f 3).l i) hf
  have h3 := wD_fields o 4
  have h4 := wD_str (o.f 1)
  have h5 := wD_list (o.f 2)
  have h6 := wD_list (o.f 3)
  have h7 := bulkD_wD o
  simp only [sumN] at h3
  unfold opB
  omega
set_option maxHeartbeats 8000000 in
set_option maxRecDepth 100000 in
theorem fragB_len (K f : Nat) (o : D) (h : wideD o) (hf : f ≤ 299) : (fragB K (f + 1) o).length + 1 ≤ 1274 * bulkD o := by
  have h2 := blockT_len K f (fragH o) (o.f 2).l (fun i => (h.f 2).l i) hf
  have h3 := wD_fields o 3
  have h4 := wD_str (o.f 0)
  have h5 := wD_str (o.f 1)
  have h6 := wD_list (o.f 2)
  have h7 := bulkD_wD o
  have h8 := tx_len (o.f 0).s
  have h9 := tx_len (o.f 1).s
  have h1 : (fragH o).length = 15 + (o.f 0).s.size + (o.f 1).s.size := by simp only [fragH, List.length_append, List.length_cons, List.length_nil]; omega
  simp only [sumN] at h3
  unfold fragB
  omega
set_option maxHeartbeats 8000000 in
set_option maxRecDepth 100000 in
theorem join_app_le (a b : List (List UInt8)) (sep : List UInt8) : (Lib.join (a ++ b) sep).length ≤ (a.map fun l => l.length + sep.length).sum + (b.map fun l => l.length + sep.length).sum := by
  refine Nat.le_trans (join_le sep _) ?_
  rw [List.map_append, List.sum_append]
  exact Nat.le_refl _
set_option maxHeartbeats 8000000 in
set_option maxRecDepth 100000 in
theorem sum_map_le (l : List D) (f : D → List UInt8) (s c : Nat) (h : ∀ i, i < l.length → (f (gD l i)).length + s ≤ c * bulkD (gD l i)) : ((l.map f).map fun t => t.length + s).sum ≤ c * bulkL l := by
  induction l with
  | nil => simp
  | cons x r ih =>
    have h0 := h 0 (by simp)
    have h1 := ih fun i hi => h (i + 1) (by simpa using hi)
    simp only [List.map_cons, List.sum_cons, bulkL, Nat.mul_add]
    have e : gD (x :: r) 0 = x := rfl
    rw [e] at h0
    omega
set_option maxHeartbeats 8000000 in
set_option maxRecDepth 100000 in
theorem docT_len (K f : Nat) (q : D) (h : wideD q) (hf : f ≤ 299) : (docT K (f + 1) q).length ≤ 1274 * bulkD q := by
  have h1 := join_app_le ((q.f 0).l.map (opB K (f + 1))) ((q.f 1).l.map (fragB K (f + 1))) [10]
  have h2 := sum_map_le (q.f 0).l (opB K (f + 1)) 1 1274 fun i _ => opB_len K f _ ((h.f 0).l i) hf
  have h3 := sum_map_le (q.f 1).l (fragB K (f + 1)) 1 1274 fun i _ => fragB_len K f _ ((h.f 1).l i) hf
  have h4 := wD_fields q 2
  have h5 := wD_list (q.f 0)
  have h6 := wD_list (q.f 1)
  have h7 := bulkD_wD q
  simp only [sumN] at h4
  unfold docT
  simp only [List.length_cons, List.length_nil, Nat.zero_add] at h1
  omega
set_option maxHeartbeats 8000000 in
set_option maxRecDepth 100000 in
theorem block_ac (K f : Nat) (first : List UInt8) (l : List D) (h : SelsOk K (f + 1) l) (hw : ∀ i, wideD (gD l i)) (hb : bulkL l ≤ 1048576) (hf : f ≤ 299) (hs : first.length ≤ 100000000) :
    AC EN Tryz.prog 57 [.c (.string (bs first)), .sl 76 l] (.c (.string (bs (blockT K (f + 1) first l)))) := by
  have h1 := selsT_len K (f + 1) 1 l hw
  have h2 : (4 * (1 + (f + 1)) + 70) * bulkL l ≤ 1274 * 1048576 := Nat.mul_le_mul (by omega) hb
  have l0 : ACB EN Tryz.prog 115 [.bx (pn 0) 0, .c (.int .i64 0), .c (.string (bs first))] [.bld 110 5 []] (.tup []) [.bld 110 5 (lineT 0 first)] :=
    line_acb [] 0 (bs first) (by omega) (by rw [bs_size]; omega) (by simp)
  have l1 : ACB EN Tryz.prog 55 [.bx (pn 0) 0, .sl 76 l, .c (.int .i64 1)] [.bld 110 5 (lineT 0 first)] (.tup []) [.bld 110 5 (lineT 0 first ++ selsT K (f + 1) 1 l)] :=
    sels_acb K f 1 l (lineT 0 first) h hw hb (by omega) (by rw [lineT_len]; omega)
  have l2 : ACB EN Tryz.prog 115 [.bx (pn 0) 0, .c (.int .i64 0), .c (.string ⟨#[125]⟩)] [.bld 110 5 (lineT 0 first ++ selsT K (f + 1) 1 l)] (.tup []) [.bld 110 5 (blockT K (f + 1) first l)] :=
    line_acb (lineT 0 first ++ selsT K (f + 1) 1 l) 0 ⟨#[125]⟩ (by omega) (by decide) (by rw [List.length_append, lineT_len]; omega)
  have hl := blockT_len K f first l hw hf
  refine ac_enter 13 Tryz.func57 rfl rfl rfl rfl ?_
  intro s w he
  repeat' (first
    | (apply s_bcall0 rfl
       · conv => lhs; whnf
       · conv => lhs; whnf
       · rfl
       · rfl
       · first | exact l0
       · rfl
       · exact fun _ => rfl
       · exact fun _ => rfl)
    | (apply s_bcall rfl
       · conv => lhs; whnf
       · conv => lhs; whnf
       · rfl
       · conv => lhs; whnf; arg 1; whnf
       · first | exact l1 | exact l2
       · exact fun _ => rfl
       · exact fun _ => rfl)
    | (apply s_bs rfl
       · conv => lhs; whnf
       · conv => lhs; whnf
       · rfl
       · conv => lhs; whnf; arg 1; whnf
       · exact ⟨rfl, rfl⟩
       · rfl)
    | refine aw_region ?_
    | refine awo_nil ?_
    | refine k_seq ?_
    | refine k_block ?_
    | refine k_scope ?_
    | (apply aw_1
       conv => whnf
       refine ⟨?_, trivial⟩)
    | (apply s_1
       conv => whnf; arg 1; arg 4; arg 3; whnf
       refine ⟨?_, ?_⟩)
    | (apply s_val rfl
       · conv => lhs; whnf
       · conv => lhs; whnf; arg 2; whnf)
    | (apply s_call rfl
       · conv => lhs; whnf
       · conv => lhs; whnf
       · first | fail)
    | (apply s_alloc rfl rfl rfl rfl
       · conv => lhs; whnf; arg 1; whnf
       · rfl)
    | (apply aw_cond_t
       · conv => lhs; whnf; arg 1; arg 1; whnf)
    | (apply aw_cond_f
       · conv => lhs; whnf; arg 1; arg 1; whnf)
    | (refine aw_cond (by conv => lhs; whnf) ?_ ?_ <;> intro hb)
    | refine aw_ret ?_
    | refine aw_exit ?_
    | refine k_seq_exit ?_
    | refine k_seq_ret ?_
    | refine k_block_ret ?_
    | refine k_block_hit rfl ?_
    | refine k_block_miss rfl ?_
    | refine k_scope_exit ?_
    | refine k_scope_ret ?_
    | refine k_loop_exit ?_
    | refine k_loop_ret ?_
    | refine k_end ?_
    | refine k_end_ret ?_
    | (refine ⟨_, by conv => lhs; whnf; arg 2; whnf, ?_⟩; conv => rhs; whnf)
    | exact trivial
    | intro hg)
  all_goals (unfold maxLen; omega)
end Go.Proofs.YthjiclhfhjdjpaaGreatDoor
