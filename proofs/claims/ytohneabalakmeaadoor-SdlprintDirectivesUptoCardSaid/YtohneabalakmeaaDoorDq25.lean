/- Parts of a proof, merged by a program (shake.py). -/
import Derived.Test.YtohneabalakmeaaDoorDq24
namespace Go.Proofs.YtohneabalakmeaaDoor
open Go.RowKit
attribute [local irreducible] wpList Calls Code.wp
/-- what the rows of this layer list: the table of powers of ten -/
def EnvT (w : World) : Prop := Lib.TabIs Tryd.prog w "internal/strconv.uint64pow10" .u64 Lib.pow10Tab
theorem EnvT.below {w w' : World} (h : EnvT w) (hb : Below w.heap.size w w') : EnvT w' := var_below h hb
theorem decimalT (n : Int) (h0 : -9223372036854775808 ≤ n) (h1 : n ≤ 9223372036854775807) (w : World) (he : EnvT w) : Calls Tryd.prog 21 #[.int .i64 n] w (St (Lib.itoa n) w) := by
  have H := Lib.hid (Tryd.strconv_Itoa n h0 h1 w he)
  clear he
  go_enter Tryd.func21, Tryd.ntmps21
  go_wp2_with fail
  refine H.out.mono ?_
  rintro e w2 ⟨rfl, k, os, rfl⟩
  have Hb := Lib.hid (below_grow w k os)
  generalize Go.«Sort».grow (w.drewN k) os = w2 at *
  go_wp2
  go_ret
  exact ⟨rfl, Hb.out⟩
/-- append inside a region that draws its order, behind a call -/
theorem wp_new0 {P : Program} {w : World} {o : Oper} {a : Act} {K : Act → World → Prop} {Q : Exit → Act → World → Prop} (hgd : o.guard = none) (s x : Operand) (t : TypeId)
    (ho : o.op = .call { callee := .builtin .append, args := #[s, x], argTypes := #[t, t] })
    (base : Nat) (e : TypeId) (z : Value) (size bytes : Nat) (ht : P.underlying t = some (.slice e)) (hinfo : (P.info? e).map (fun i => (i.zero, i.size, i.bytes)) = some (some z, size, bytes))
    (hzs : z.cells.size = size) (hsz : 0 < size) (v : Value) (n : Nat) (xs : List Value) (hown : w.ownsRow base e size v n xs) (cs : Array Value) (m : Nat) (hm : cs.size = m * size)
    (h1 : cs.toList.all (·.oneCell') = true) (hs : a.eval s = v) (hx : a.eval x = .slice (some ⟨w.heap.size, 0, none⟩) m m)
    (h63 : n + m ≤ maxLen) (hbytes : (n + m) * bytes ≤ 140737488355328) (hbase : base ≤ w.heap.size)
    (h : ∀ v' w', w'.ownsRow base e size v' (n + m) (xs ++ cs.toList) → w.grownBy w' v.ownBlock → w.heap.size < w'.heap.size → (v'.ownBlock = v.ownBlock ∨ ∃ g, v'.ownBlock = some g ∧ w.heap.size ≤ g) →
      (0 < n + m → ∃ g c, v' = .slice (some ⟨g, 0, none⟩) (n + m) c) → K (a.put o.dst v') w') : Oper.wp P o a (w.alloc (.cells cs e)) K Q := by
  obtain ⟨i, hi, hz, h4, h5⟩ := info3 hinfo
  have hnews : ∀ j u, cs.toList[j]? = some u → (w.alloc (.cells cs e)).cell? ((⟨w.heap.size, 0, none⟩ : Addr).add j) = some u := fun j u hu => by
    rw [add_plain, cell_of_row _ w.heap.size _ cs e (0, 0) (heap_alloc_new w _)]
    simpa using hu
  obtain ⟨v', w', hrun, r1, r2, _, r4⟩ := run_append_own_at (P := P) (w := w.alloc (.cells cs e)) base t o.type e i z size bytes ht hi hz h4 h5 hzs hsz v n xs (hown.alloc _) ⟨w.heap.size, 0, none⟩ m m cs.toList (by simpa using hm) hnews
    (fun u hu => List.all_eq_true.1 h1 u hu) h63 hbytes (by show base ≤ (w.alloc (.cells cs e)).heap.size; simp; omega)
  unfold Oper.wp execOp
  simp only [ho, resolve, invoke, builtin, Sem.run_bind, Sem.run_pure, Result.andThen_ok, List.map_toArray, List.map_cons, List.map_nil, hs, hx, hrun]
  have hsz2 : w.heap.size + 1 ≤ w'.heap.size := by have := r2.size; simpa using this
  refine h v' w' r1 ⟨r2.os, r2.tape, r2.output, by omega, fun k hk hne => ?_⟩ (by omega) ?_ ?_
  · rw [r2.block k (by show k < (w.alloc (.cells cs e)).heap.size; simp; omega) hne]
    exact Below.heap_alloc w _ k hk
  · rcases r4 with e' | e'
    · exact .inl e'
    · exact .inr ⟨_, e', by simp⟩
  · intro hpos
    rcases r1.2 with ⟨_, h0⟩ | ⟨g, cap, cur, hv, _⟩
    · omega
    · exact ⟨g, cap, hv⟩
set_option maxRecDepth 100000 in
theorem wide_of : ∀ (k : Nat) (cs : Array Value) (d : D) (w : World), Rep Tryd.prog w (fun b => b < w.heap.size) k 49 cs.toList d → wideF k d
  | 0, _, _, _, h => h.elim
  | k + 1, cs, d, w, h => by
    obtain ⟨A3, c3, A4, c4, rfl, ⟨_, h1, _, _, _⟩, s3, _⟩ := in_val h
    refine ⟨h1, fun i hi => ?_⟩
    obtain ⟨b, off, _, _, hat⟩ := at_val s3 (by omega)
    obtain ⟨_, _, _, _, _, _, _, _, _, r⟩ := hat i hi
    exact wide_of k #[_, _, _, _, _] _ w r
set_option maxRecDepth 100000 in
theorem valF_size {k : Nat} {d : D} (h : Fits Tryd.prog k 49 d) (hw : wideF k d) (hb : bulkD d ≤ 1048576) : (valF k d).length ≤ 8388608 := by
  have := valF_bound k d h hw
  omega
theorem strinfo : (Tryd.prog.info? 9).map (fun i => (i.zero, i.size, i.bytes)) = some (some (.string ⟨#[]⟩), 1, 16) := by kernel_rfl
theorem own_below {w w' : World} {B e s : Nat} {v : Value} {n : Nat} {xs : List Value} (h : w.ownsRow B e s v n xs) (hb : Below w.heap.size w w') : w'.ownsRow B e s v n xs := by
  rcases h.2 with h0 | ⟨g, cap, cur, rfl, hg, hx, r⟩
  · exact ⟨h.1, .inl h0⟩
  · exact ⟨h.1, .inr ⟨g, cap, cur, rfl, hg, (hb.block g (heap_lt hx)).trans hx, r⟩⟩
theorem own_nil (w : World) (B e : Nat) : w.ownsRow B e 1 (.slice none 0 0) 0 [] := ⟨rfl, .inl ⟨rfl, rfl⟩⟩
theorem strs_range (f : Nat → List UInt8) (m : Nat) : strs ((List.range m).map f) ++ [.string (bs (f m))] = strs ((List.range (m + 1)).map f) := by
  rw [List.range_succ, List.map_append, List.map_cons, List.map_nil, strs_snoc]
/-- the text of a list, and of an object -/
def listB (k : Nat) (d : D) : List (List UInt8) := (List.range (d.f 3).l.length).map fun i => valF k (gD (d.f 3).l i)
def pairB (k : Nat) (d : D) (i : Nat) : List UInt8 := (gD (d.f 4).l i).s.data.toList ++ [58, 32] ++ valF k (gD (d.f 3).l i)
def objB (k : Nat) (d : D) : List (List UInt8) := (List.range (min (d.f 4).l.length (d.f 3).l.length)).map (pairB k d)
theorem valF_list {k : Nat} {d : D} (h : (d.f 0).n = 5) : valF (k + 1) d = [91] ++ Lib.join (listB k d) commaB ++ [93] := by
  unfold valF
  rw [if_neg (by omega), if_neg (by omega), if_neg (by omega), if_neg (by omega), if_neg (by omega), if_pos h]; rfl
theorem valF_obj {k : Nat} {d : D} (h : (d.f 0).n = 6) : valF (k + 1) d = [123] ++ Lib.join (objB k d) commaB ++ [125] := by
  unfold valF
  rw [if_neg (by omega), if_neg (by omega), if_neg (by omega), if_neg (by omega), if_neg (by omega), if_neg (by omega), if_pos h]; rfl
theorem valF_bool1 {k : Nat} {d : D} (h : (d.f 0).n = 1) (h1 : (d.f 1).n = 1) : valF (k + 1) d = [116, 114, 117, 101] := by unfold valF; rw [if_pos h, if_pos h1]
theorem valF_bool0 {k : Nat} {d : D} (h : (d.f 0).n = 1) (h1 : (d.f 1).n = 0) : valF (k + 1) d = [102, 97, 108, 115, 101] := by unfold valF; rw [if_pos h, if_neg (by omega)]
theorem valF_int {k : Nat} {d : D} (h : (d.f 0).n = 2) : valF (k + 1) d = Lib.itoa (d.f 1).n := by unfold valF; rw [if_neg (by omega), if_pos h]
theorem valF_text {k : Nat} {d : D} (h : (d.f 0).n = 3) : valF (k + 1) d = quoteU (d.f 2).s.data.toList := by unfold valF; rw [if_neg (by omega), if_neg (by omega), if_pos h]
theorem valF_enum {k : Nat} {d : D} (h : (d.f 0).n = 4) : valF (k + 1) d = (d.f 2).s.data.toList := by unfold valF; rw [if_neg (by omega), if_neg (by omega), if_neg (by omega), if_pos h]
theorem valF_var {k : Nat} {d : D} (h : (d.f 0).n = 7) : valF (k + 1) d = [36] ++ (d.f 2).s.data.toList := by unfold valF; rw [if_neg (by omega), if_neg (by omega), if_neg (by omega), if_neg (by omega), if_pos h]
theorem valF_null {k : Nat} {d : D} (h1 : (d.f 0).n ≠ 1) (h2 : (d.f 0).n ≠ 2) (h3 : (d.f 0).n ≠ 3) (h4 : (d.f 0).n ≠ 4) (h7 : (d.f 0).n ≠ 7) (h5 : (d.f 0).n ≠ 5) (h6 : (d.f 0).n ≠ 6) : valF (k + 1) d = [110, 117, 108, 108] := by
  unfold valF; rw [if_neg h1, if_neg h2, if_neg h3, if_neg h4, if_neg h7, if_neg h5, if_neg h6]
/-- what a value's printing asks -/
structure Vp (k : Nat) (cs : Array Value) (d : D) (w0 : World) : Prop where
  rep : Rep Tryd.prog w0 (fun b => b < w0.heap.size) k 49 cs.toList d
  fits : Fits Tryd.prog k 49 d
  bulk : bulkD d ≤ 1048576
  good : goodF k d
set_option maxRecDepth 100000 in
theorem Vp.text {k : Nat} {cs : Array Value} {d : D} {w0 : World} (h : Vp (k + 1) cs d w0) : (d.f 2).s.size ≤ 1048576 := by
  have hb := h.bulk
  obtain ⟨x0, x1, x2, x3, x4, rfl, h3, h4⟩ := fits49 h.fits
  have hbk : bulkD (D.obj [.int x0, .int x1, .str x2, .list x3, .list x4]) = x2.size + 5 + bulkL x3 + bulkL x4 + 1 := by simp [bulkD, bulkL]; omega
  rw [hbk] at hb
  show x2.size ≤ _
  omega
set_option maxRecDepth 100000 in
theorem Vp.item {k : Nat} {cs : Array Value} {d : D} {w0 : World} (h : Vp (k + 1) cs d w0) : (d.f 3).l.length ≤ 1048576 ∧ (d.f 4).l.length ≤ 1048576 ∧ (∀ i, i < (d.f 4).l.length → (gD (d.f 4).l i).s.size ≤ 1048576) ∧ ∀ i, i < (d.f 3).l.length → ∀ cs', Rep Tryd.prog w0 (fun b => b < w0.heap.size) k 49 cs'.toList (gD (d.f 3).l i) → Vp k cs' (gD (d.f 3).l i) w0 := by
  have hb := h.bulk
  obtain ⟨x0, x1, x2, x3, x4, rfl, h3, h4⟩ := fits49 h.fits
  have hbk : bulkD (D.obj [.int x0, .int x1, .str x2, .list x3, .list x4]) = x2.size + 5 + bulkL x3 + bulkL x4 + 1 := by simp [bulkD, bulkL]; omega
  rw [hbk] at hb
  have e3 : ((D.obj [.int x0, .int x1, .str x2, .list x3, .list x4]).f 3).l = x3 := rfl
  have e4 : ((D.obj [.int x0, .int x1, .str x2, .list x3, .list x4]).f 4).l = x4 := rfl
  rw [e3, e4]
  have hg := h.good.2
  rw [e3] at hg
  have hl : ∀ l : List D, l.length ≤ bulkL l := fun l => by
    rw [bulkL_range]
    have : ∀ n, n ≤ ((List.range n).map fun i => bulkD (gD l i)).sum := fun n => by
      induction n with
      | zero => exact Nat.zero_le _
      | succ n ih =>
        rw [List.range_succ, List.map_append, List.sum_append]
        have : 1 ≤ bulkD (gD l n) := by cases gD l n <;> simp [bulkD]
        simp; omega
    exact this _
  have hl3 := hl x3
  have hl4 := hl x4
  refine ⟨by omega, by omega, fun i hi => ?_, fun i hi cs' hr => ⟨hr, ?_, ?_, hg i hi⟩⟩
  · have := bulk_mem hi
    obtain ⟨s, hs⟩ := fits_str (h4 i hi)
    rw [hs] at this ⊢
    simp only [bulkD] at this
    simp only [D.s]
    omega
  · cases k with
    | zero => exact (h3 i hi).elim
    | succ k => exact (h3 i hi).up
  · have := bulk_mem hi
    omega
set_option maxRecDepth 100000 in
set_option maxHeartbeats 16000000 in
theorem valueP : ∀ (k : Nat) (cs : Array Value) (d : D) (w0 w : World), EnvT w → Below w0.heap.size w0 w → Vp k cs d w0 → Calls Tryd.prog 42 #[.agg cs] w (St (valF k d) w) := by
  intro k
  induction k with
  | zero => intro cs d w0 w _ _ h; exact h.rep.elim
  | succ k ih =>
    intro cs d w0 w he h0 hv
    have hsize := valF_size hv.fits (wide_of _ _ _ _ hv.rep) hv.bulk
    obtain ⟨A3, c3, A4, c4, rfl, ⟨hr0, hr1, -, hlen, hlen4⟩, s3, s4⟩ := in_val hv.rep
    have HB := Lib.hid (fun o => (Below.refl w.heap.size w).alloc (Nat.le_refl _) o)
    have HE := Lib.hid he; have H0 := Lib.hid h0; have S3 := Lib.hid s3; have S4 := Lib.hid s4; have IH := Lib.hid ih
    obtain ⟨i1, i2, i3, i4⟩ := hv.item
    have hts := hv.text
    have HG := Lib.hid hv.good.1
    have I3 := Lib.hid i3; have I4 := Lib.hid i4
    clear he h0 hv s3 s4 ih i3 i4
    by_cases q5 : (d.f 0).n = 5
    · have HX := Lib.hid (valF_list (k := k) q5)
      rw [HX.out] at hsize
      simp only [List.length_append, List.length_cons, List.length_nil] at hsize
      have HS := Lib.hid hsize; clear hsize
      go_enter Tryd.func42, Tryd.ntmps42
      go_wp2_with fail
      clear q5
      go_loopg [3, 38] (d.f 3).l.length (fun j v i wr => ∃ m : Nat, m + j = (d.f 3).l.length ∧ i = .int .i64 m ∧ wr.ownsRow (w.heap.size + 1) 9 1 v m (strs ((List.range m).map fun i => valF k (gD (d.f 3).l i))) ∧ Below w.heap.size w wr ∧ w.heap.size + 1 ≤ wr.heap.size)
      case atStart => exact ⟨0, by omega, rfl, own_nil _ _ _, HB.out _, by simp⟩
      case round =>
        obtain ⟨m, hmj, rfl, hown, hb, hsz⟩ := hrel
        have Hb := Lib.hid hb; have Hown := Lib.hid hown
        have Hmj := Lib.hid hmj; have hmn : m ≤ (d.f 3).l.length := by omega
        clear hmj hb hown
        by_cases hlt : m < (d.f 3).l.length
        · obtain ⟨b, off, rfl, hI, hat⟩ := at_val S3.out (by omega)
          obtain ⟨A3', c3', A4', c4', e0, e1, e2, e3, e4, rv⟩ := hat m hlt
          have Rv' := Lib.hid rv
          clear hat rv
          replace e0 := ((H0.out.trans (Hb.out.mono H0.out.size)).cell (p := ⟨b, _, none⟩) hI).trans e0
          replace e1 := ((H0.out.trans (Hb.out.mono H0.out.size)).cell (p := ⟨b, _, none⟩) hI).trans e1
          replace e2 := ((H0.out.trans (Hb.out.mono H0.out.size)).cell (p := ⟨b, _, none⟩) hI).trans e2
          replace e3 := ((H0.out.trans (Hb.out.mono H0.out.size)).cell (p := ⟨b, _, none⟩) hI).trans e3
          replace e4 := ((H0.out.trans (Hb.out.mono H0.out.size)).cell (p := ⟨b, _, none⟩) hI).trans e4
          have hb3 : Below w.heap.size w (wr.alloc (.cells #[.int .i64 ((gD (d.f 3).l m).f 0).n, .int .i64 ((gD (d.f 3).l m).f 1).n, .string ((gD (d.f 3).l m).f 2).s, .slice A3' ((gD (d.f 3).l m).f 3).l.length c3', .slice A4' ((gD (d.f 3).l m).f 4).l.length c4'] 49)) := Hb.out.alloc Hb.out.size _
          have hb4 : Below wr.heap.size wr (wr.alloc (.cells #[.int .i64 ((gD (d.f 3).l m).f 0).n, .int .i64 ((gD (d.f 3).l m).f 1).n, .string ((gD (d.f 3).l m).f 2).s, .slice A3' ((gD (d.f 3).l m).f 3).l.length c3', .slice A4' ((gD (d.f 3).l m).f 4).l.length c4'] 49)) := (Below.refl _ _).alloc (Nat.le_refl _) _
          have HB3 := Lib.hid hb3; have HB4 := Lib.hid hb4; clear hb3 hb4
          go_wp2_with fail
          refine (IH.out _ (gD (d.f 3).l m) w0 _ (HE.out.below HB3.out) (H0.out.trans (HB3.out.mono H0.out.size)) (I4.out m hlt _ Rv'.out)).mono ?_
          rintro e w2 ⟨rfl, b2⟩
          have Hb2 := Lib.hid (HB3.out.trans (b2.mono HB3.out.size))
          have Hown2 := Lib.hid (own_below (own_below Hown.out HB4.out) b2)
          have hsz2 : w.heap.size + 1 ≤ w2.heap.size := Nat.le_trans hsz (Nat.le_trans HB4.out.size b2.size)
          clear b2 e0 e1 e2 e3 e4
          go_wp2_with (at_builtin; refine append_new (o := ⟨some 46, _, _, _, _, _⟩) rfl (.tmp 42) (.tmp 45) 47 rfl (w.heap.size + 1) 9 _ 1 16 Tryd.underlying47 strinfo rfl (by decide) _ _ _ Hown2.out #[.string (bs (valF k (gD (d.f 3).l m)))] 1 rfl rfl rfl rfl (by simp only [maxLen]; omega) (by omega) hsz2 ?_; intro v' w' hown' hg' hsz' hat' hsh')
          have HO := Lib.hid (show w'.ownsRow (w.heap.size + 1) 9 1 v' (m + 1) (strs ((List.range (m + 1)).map fun i => valF k (gD (d.f 3).l i))) by rw [← strs_range]; exact hown')
          have HBn := Lib.hid (Hb2.out.grown hg' Hb2.out.size (fun y hy => by have := (Hown2.out.lt y hy).1; omega))
          have hsz3 : w.heap.size + 1 ≤ w'.heap.size := by omega
          clear hown' hg' hsz' hat' hsh'
          go_roundg ((d.f 3).l.length - m - 1)
          case measure => have := Hmj.out; omega
          case rel => exact ⟨m + 1, by have := Hmj.out; omega, by go_num, HO.out, HBn.out, hsz3⟩
        · obtain rfl : m = (d.f 3).l.length := by omega
          have HS2 := HS.out
          have HJ := Lib.hid (strJoinP commaB wr Hown.out (by omega) (by show (Lib.join (listB k d) commaB).length ≤ _; omega))
          have HX2 := Lib.hid (show bs (valF (k + 1) d) = bs [91] ++ bs (Lib.join (listB k d) commaB) ++ bs [93] by rw [HX.out, bs_append, bs_append])
          have hz : (bs (Lib.join (listB k d) commaB)).size ≤ 8388608 := by rw [bs_size]; omega
          have HJ : Hid (Calls Tryd.prog 76 #[_, .string ⟨#[44, 32]⟩] wr (fun e w' => e = .returned (.string (bs (Lib.join (listB k d) commaB))) ∧ Below wr.heap.size wr w')) := HJ
          generalize bs (Lib.join (listB k d) commaB) = t at *
          clear HS2
          go_wp2_with fail
          refine HJ.out.mono ?_
          rintro e w2 ⟨rfl, b2⟩
          have Hb2 := Lib.hid (Hb.out.trans (b2.mono Hb.out.size)); clear b2
          go_wp2
          go_ret
          exact ⟨by rw [HX2.out]; rfl, Hb2.out⟩
    by_cases q6 : (d.f 0).n = 6
    · have HX := Lib.hid (valF_obj (k := k) q6)
      rw [HX.out] at hsize
      simp only [List.length_append, List.length_cons, List.length_nil] at hsize
      have HS := Lib.hid hsize; clear hsize
      obtain ⟨nn, hnn⟩ : ∃ nn, nn = min (d.f 4).l.length (d.f 3).l.length := ⟨_, rfl⟩
      have hnn1 : nn ≤ (d.f 4).l.length := by omega
      have hnn2 : nn ≤ (d.f 3).l.length := by omega
      have HNN := Lib.hid hnn
      have hmin : min ((d.f 4).l.length : Int) ((d.f 3).l.length : Int) = (nn : Int) := by omega
      clear hnn
      go_enter Tryd.func42, Tryd.ntmps42
      go_wp2_with fail
      clear q6 hmin
      go_loopg [3, 61] nn (fun j v i wr => ∃ m : Nat, m + j = nn ∧ i = .int .i64 m ∧ wr.ownsRow (w.heap.size + 1) 9 1 v m (strs ((List.range m).map (pairB k d))) ∧ Below w.heap.size w wr ∧ w.heap.size + 1 ≤ wr.heap.size ∧ wr.heap[w.heap.size]? = some (.cells #[.int .i64 6, .int .i64 (d.f 1).n, .string (d.f 2).s, .slice A3 (d.f 3).l.length c3, .slice A4 (d.f 4).l.length c4] 49 (0, 0)))
      case atStart => exact ⟨0, by omega, rfl, own_nil _ _ _, HB.out _, by simp, heap_at rfl⟩
      case round =>
        obtain ⟨m, hmj, rfl, hown, hb, hsz, hx⟩ := hrel
        have Hb := Lib.hid hb; have Hown := Lib.hid hown; have Hx := Lib.hid hx
        have Hmj := Lib.hid hmj; have hmn : m ≤ nn := by omega
        clear hmj hb hown hx
        by_cases hlt : m < nn
        · obtain ⟨b, off, rfl, hI, hat⟩ := at_val S3.out (by omega)
          obtain ⟨A3', c3', A4', c4', e0, e1, e2, e3, e4, rv⟩ := hat m (by omega)
          obtain ⟨bk, offk, rfl, hIk, hatk⟩ := at_str ⟨_, S4.out⟩ (by omega)
          obtain ⟨ek, -⟩ := hatk m (by omega)
          have hks := I3.out m (by omega)
          have Rv' := Lib.hid (I4.out m (by omega) _ rv)
          have hvs : (bs (valF k (gD (d.f 3).l m))).size ≤ 8388608 := by rw [bs_size]; exact valF_size Rv'.out.fits (wide_of _ _ _ _ Rv'.out.rep) Rv'.out.bulk
          clear hat hatk rv
          have hB := H0.out.trans (Hb.out.mono H0.out.size)
          have k3 : wr.cell? ⟨w.heap.size, 3, none⟩ = some (.slice (some ⟨b, off, none⟩) (d.f 3).l.length c3) := cell_heap Hx.out rfl
          have k4 : wr.cell? ⟨w.heap.size, 4, none⟩ = some (.slice (some ⟨bk, offk, none⟩) (d.f 4).l.length c4) := cell_heap Hx.out rfl
          have l0 := heap_lt Hx.out
          have ek' := (hB.cell (p := ⟨bk, _, none⟩) hIk).trans ek
          replace e0 := (hB.cell (p := ⟨b, _, none⟩) hI).trans e0
          replace e1 := (hB.cell (p := ⟨b, _, none⟩) hI).trans e1
          replace e2 := (hB.cell (p := ⟨b, _, none⟩) hI).trans e2
          replace e3 := (hB.cell (p := ⟨b, _, none⟩) hI).trans e3
          replace e4 := (hB.cell (p := ⟨b, _, none⟩) hI).trans e4
          have lb : b < w.heap.size + 1 := by have := H0.out.size; omega
          have lk : bk < w.heap.size + 1 := by have := H0.out.size; omega
          have lv : w.heap.size < w.heap.size + 1 := Nat.lt_succ_self _
          have HSS := Lib.hid (fun w' (h : Below (w.heap.size + 1) wr w') => (⟨h, (h.cell (p := ⟨w.heap.size, _, none⟩) lv).trans k3, (h.cell (p := ⟨w.heap.size, _, none⟩) lv).trans k4, (h.cell (p := ⟨bk, _, none⟩) lk).trans ek', (h.cell (p := ⟨b, _, none⟩) lb).trans e0, (h.cell (p := ⟨b, _, none⟩) lb).trans e1, (h.cell (p := ⟨b, _, none⟩) lb).trans e2, (h.cell (p := ⟨b, _, none⟩) lb).trans e3, (h.cell (p := ⟨b, _, none⟩) lb).trans e4⟩ : (Below (w.heap.size + 1) wr w' ∧ w'.cell? ⟨w.heap.size, 3, none⟩ = some (.slice (some ⟨b, off, none⟩) (d.f 3).l.length c3) ∧ w'.cell? ⟨w.heap.size, 4, none⟩ = some (.slice (some ⟨bk, offk, none⟩) (d.f 4).l.length c4) ∧ w'.cell? ⟨bk, offk + m, none⟩ = some (.string (gD (d.f 4).l m).s) ∧ w'.cell? ⟨b, off + m * 5, none⟩ = some (.int .i64 ((gD (d.f 3).l m).f 0).n) ∧ w'.cell? ⟨b, off + m * 5 + 1, none⟩ = some (.int .i64 ((gD (d.f 3).l m).f 1).n) ∧ w'.cell? ⟨b, off + m * 5 + 2, none⟩ = some (.string ((gD (d.f 3).l m).f 2).s) ∧ w'.cell? ⟨b, off + m * 5 + 3, none⟩ = some (.slice A3' ((gD (d.f 3).l m).f 3).l.length c3') ∧ w'.cell? ⟨b, off + m * 5 + 4, none⟩ = some (.slice A4' ((gD (d.f 3).l m).f 4).l.length c4'))))
          have Hc := Lib.hid (Below.refl (w.heap.size + 1) wr)
          have HPB := Lib.hid (show bs (pairB k d m) = (gD (d.f 4).l m).s ++ ⟨#[58, 32]⟩ ++ bs (valF k (gD (d.f 3).l m)) by
            have p1 := bs_append ((gD (d.f 4).l m).s.data.toList ++ [58, 32]) (valF k (gD (d.f 3).l m))
            have p2 := bs_append (gD (d.f 4).l m).s.data.toList [58, 32]
            rw [bs_self] at p2
            unfold pairB
            rw [← p1, ← p2]; rfl)
          have hm1 : (m : Int) < ((d.f 4).l.length : Int) := by omega
          have hm2 : (m : Int) < ((d.f 3).l.length : Int) := by omega
          clear e0 e1 e2 e3 e4 ek ek' k3 k4 hB
          have y1 : ((gD (d.f 4).l m).s ++ (⟨#[58, 32]⟩ : ByteArray)).size = (gD (d.f 4).l m).s.size + 2 := by rw [ByteArray.size_append]; rfl
          have r1 := fun (w : World) => run_string_add_sum (P := Tryd.prog) (w := w) (gD (d.f 4).l m).s ⟨#[58, 32]⟩ (by rw [← ByteArray.size_append]; omega)
          have r2 := fun (w : World) => run_string_add_sum (P := Tryd.prog) (w := w) ((gD (d.f 4).l m).s ++ ⟨#[58, 32]⟩) (bs (valF k (gD (d.f 3).l m))) (by omega)
          clear y1
          go_wp2
          go_region_held3 (fun w' => Below (w.heap.size + 1) wr w' ∧ w'.cell? ⟨w.heap.size, 3, none⟩ = some (.slice (some ⟨b, off, none⟩) (d.f 3).l.length c3) ∧ w'.cell? ⟨w.heap.size, 4, none⟩ = some (.slice (some ⟨bk, offk, none⟩) (d.f 4).l.length c4) ∧ w'.cell? ⟨bk, offk + m, none⟩ = some (.string (gD (d.f 4).l m).s) ∧ w'.cell? ⟨b, off + m * 5, none⟩ = some (.int .i64 ((gD (d.f 3).l m).f 0).n) ∧ w'.cell? ⟨b, off + m * 5 + 1, none⟩ = some (.int .i64 ((gD (d.f 3).l m).f 1).n) ∧ w'.cell? ⟨b, off + m * 5 + 2, none⟩ = some (.string ((gD (d.f 3).l m).f 2).s) ∧ w'.cell? ⟨b, off + m * 5 + 3, none⟩ = some (.slice A3' ((gD (d.f 3).l m).f 3).l.length c3') ∧ w'.cell? ⟨b, off + m * 5 + 4, none⟩ = some (.slice A4' ((gD (d.f 3).l m).f 4).l.length c4'))
            (first | exact HSS.out _ Hc.out | exact HSS.out _ Hc.out.drew | exact HSS.out _ (Hc.out.alloc (Nat.le_trans hsz Hsz2.out) _))
            (first
              | (go_at_call 42; refine (IH.out _ (gD (d.f 3).l m) w0 _ (HE.out.below Hb.out.drew) (H0.out.trans (Hb.out.drew.mono H0.out.size)) Rv'.out).mono ?_; rintro e w2 ⟨rfl, b2⟩; clear Hc; have Hown2 := Lib.hid (own_below Hown.out ((Below.refl wr.heap.size wr).drew.trans b2)); have Hc := Lib.hid ((Below.refl (w.heap.size + 1) wr).drew.trans (b2.mono hsz)); have Hsz2 := Lib.hid (b2.size); have Hbw := Lib.hid (Hb.out.drew.trans (b2.mono Hb.out.size)); clear b2)
              | (rw [if_pos (show Region.wanted _ _ = true from rfl)]; refine wp_new0 (o := ⟨some 79, _, _, _, _, _⟩) rfl (.tmp 64) (.tmp 78) 47 rfl (w.heap.size + 1) 9 _ 1 16 Tryd.underlying47 strinfo rfl (by decide) _ _ _ Hown2.out #[.string ((gD (d.f 4).l m).s ++ ⟨#[58, 32]⟩ ++ bs (valF k (gD (d.f 3).l m)))] 1 rfl rfl ?_ ?_ ?_ ?_ ?_ ?_; rfl; rfl; (simp only [maxLen]; omega); omega; exact Nat.le_trans hsz Hsz2.out; intro v' w' hown' hg' hsz' hat' hsh'; have Ho := Hc; clear Hc; have Hc := Lib.hid (Ho.out.grown hg' (Nat.le_trans hsz Hsz2.out) (fun y hy => (Hown2.out.lt y hy).1)); have Hbn := Lib.hid (Hbw.out.grown hg' Hbw.out.size (fun y hy => by have := (Hown2.out.lt y hy).1; omega)); have Hzn := Lib.hid (Nat.le_trans (Nat.le_trans hsz Hsz2.out) (Nat.le_of_lt hsz')); have Hon := Lib.hid hown'; clear Ho hown' hg' hsz' hat' hsh'))
          have HO := Lib.hid (show w'.ownsRow (w.heap.size + 1) 9 1 v' (m + 1) (strs ((List.range (m + 1)).map (pairB k d))) by rw [← strs_range, HPB.out]; exact Hon.out)
          have Hxn := Lib.hid ((Hc.out.block _ lv).trans Hx.out)
          go_wp2
          go_roundg (nn - m - 1)
          case measure => have := Hmj.out; omega
          case rel => exact ⟨m + 1, by have := Hmj.out; omega, by go_num, HO.out, Hbn.out, Hzn.out, Hxn.out⟩
        · obtain rfl : nn = m := by omega
          have HS2 := HS.out
          have hob : objB k d = (List.range nn).map (pairB k d) := by unfold objB; rw [HNN.out]
          have HJ := Lib.hid (strJoinP commaB wr (ls := objB k d) (by rw [hob]; exact Hown.out) (by omega) (by omega))
          clear hob
          have HX2 := Lib.hid (show bs (valF (k + 1) d) = bs [123] ++ bs (Lib.join (objB k d) commaB) ++ bs [125] by rw [HX.out, bs_append, bs_append])
          have hz : (bs (Lib.join (objB k d) commaB)).size ≤ 8388608 := by rw [bs_size]; omega
          have HJ : Hid (Calls Tryd.prog 76 #[_, .string ⟨#[44, 32]⟩] wr (fun e w' => e = .returned (.string (bs (Lib.join (objB k d) commaB))) ∧ Below wr.heap.size wr w')) := HJ
          generalize bs (Lib.join (objB k d) commaB) = t at *
          clear HS2
          go_wp2_with fail
          refine HJ.out.mono ?_
          rintro e w2 ⟨rfl, b2⟩
          have Hb2 := Lib.hid (Hb.out.trans (b2.mono Hb.out.size)); clear b2
          go_wp2
          go_ret
          exact ⟨by rw [HX2.out]; rfl, Hb2.out⟩
    clear S3 S4 IH I3 I4
    have HBw := Lib.hid (HB.out (.cells #[.int .i64 (d.f 0).n, .int .i64 (d.f 1).n, .string (d.f 2).s, .slice A3 (d.f 3).l.length c3, .slice A4 (d.f 4).l.length c4] 49))
    by_cases q1 : (d.f 0).n = 1
    · rcases HG.out q1 with i | i
      · have HX := Lib.hid (valF_bool0 (k := k) q1 i)
        go_enter Tryd.func42, Tryd.ntmps42
        go_wp2
        go_ret
        exact ⟨by rw [HX.out]; rfl, HB.out _⟩
      · have HX := Lib.hid (valF_bool1 (k := k) q1 i)
        go_enter Tryd.func42, Tryd.ntmps42
        go_wp2
        go_ret
        exact ⟨by rw [HX.out]; rfl, HB.out _⟩
    by_cases q2 : (d.f 0).n = 2
    · have HX := Lib.hid (valF_int (k := k) q2)
      have HC := Lib.hid (fun w he => decimalT (d.f 1).n hr1.1 hr1.2 w he)
      go_enter Tryd.func42, Tryd.ntmps42
      go_wp2_with fail
      refine (HC.out _ (HE.out.below (HB.out _))).mono ?_
      rintro e w2 ⟨rfl, b2⟩
      have Hb2 := Lib.hid ((HB.out _).trans (b2.mono (HB.out _).size)); clear b2
      go_wp2
      go_ret
      exact ⟨by rw [HX.out]; rfl, Hb2.out⟩
    by_cases q3 : (d.f 0).n = 3
    · have HX := Lib.hid (valF_text (k := k) q3)
      have HC := Lib.hid (fun w => quoteP (d.f 2).s w hts)
      go_enter Tryd.func42, Tryd.ntmps42
      go_wp2_with fail
      refine (HC.out _).mono ?_
      rintro e w2 ⟨rfl, b2⟩
      have Hb2 := Lib.hid ((HB.out _).trans (b2.mono (HB.out _).size)); clear b2
      go_wp2
      go_ret
      exact ⟨by rw [HX.out]; rfl, Hb2.out⟩
    by_cases q4 : (d.f 0).n = 4
    · have HX := Lib.hid (valF_enum (k := k) q4)
      go_enter Tryd.func42, Tryd.ntmps42
      go_wp2
      go_ret
      exact ⟨by rw [HX.out, bs_self]; rfl, HB.out _⟩
    by_cases q7 : (d.f 0).n = 7
    · have HX := Lib.hid (show bs (valF (k + 1) d) = bs [36] ++ (d.f 2).s by rw [valF_var q7, ← bs_append, bs_self])
      go_enter Tryd.func42, Tryd.ntmps42
      go_wp2
      go_ret
      exact ⟨by rw [HX.out]; rfl, HB.out _⟩
    · have HX := Lib.hid (valF_null (k := k) q1 q2 q3 q4 q7 q5 q6)
      go_enter Tryd.func42, Tryd.ntmps42
      go_wp2
      go_ret
      exact ⟨by rw [HX.out]; rfl, HB.out _⟩
end Go.Proofs.YtohneabalakmeaaDoor
namespace Go.Proofs.YtohneabalakmeaaDoor
open Go.RowKit
attribute [local irreducible] wpList Calls Code.wp
set_option maxRecDepth 100000 in
set_option maxHeartbeats 16000000 in
theorem valR : ∀ (k : Nat) (cs : Array Value) (d : D) (w0 w : World), Below w0.heap.size w0 w → Vp k cs d w0 → Calls Tryd.prog 43 #[.agg cs] w (St (valF k d) w) := by
  intro k
  induction k with
  | zero => intro cs d w0 w _ h; exact h.rep.elim
  | succ k ih =>
    intro cs d w0 w h0 hv
    have hsize := valF_size hv.fits (wide_of _ _ _ _ hv.rep) hv.bulk
    obtain ⟨A3, c3, A4, c4, rfl, ⟨hr0, hr1, -, hlen, hlen4⟩, s3, s4⟩ := in_val hv.rep
    have HB := Lib.hid (fun o => (Below.refl w.heap.size w).alloc (Nat.le_refl _) o)
    have H0 := Lib.hid h0; have S3 := Lib.hid s3; have S4 := Lib.hid s4; have IH := Lib.hid ih
    obtain ⟨i1, i2, i3, i4⟩ := hv.item
    have hts := hv.text
    have HG := Lib.hid hv.good.1
    have I3 := Lib.hid i3; have I4 := Lib.hid i4
    clear h0 hv s3 s4 ih i3 i4
    by_cases q5 : (d.f 0).n = 5
    · have HX := Lib.hid (valF_list (k := k) q5)
      rw [HX.out] at hsize
      simp only [List.length_append, List.length_cons, List.length_nil] at hsize
      have HS := Lib.hid hsize; clear hsize
      go_enter Tryd.func43, Tryd.ntmps43
      go_wp2_with fail
      clear q5
      go_loopg [3, 4] (d.f 3).l.length (fun j v i wr => ∃ m : Nat, m + j = (d.f 3).l.length ∧ i = .int .i64 m ∧ wr.ownsRow (w.heap.size + 1) 9 1 v m (strs ((List.range m).map fun i => valF k (gD (d.f 3).l i))) ∧ Below w.heap.size w wr ∧ w.heap.size + 1 ≤ wr.heap.size ∧ wr.heap[w.heap.size]? = some (.cells #[.int .i64 5, .int .i64 (d.f 1).n, .string (d.f 2).s, .slice A3 (d.f 3).l.length c3, .slice A4 (d.f 4).l.length c4] 49 (0, 0)))
      case atStart => exact ⟨0, by omega, rfl, own_nil _ _ _, HB.out _, by simp, heap_at rfl⟩
      case round =>
        obtain ⟨m, hmj, rfl, hown, hb, hsz, hx⟩ := hrel
        have k3 : wr.cell? ⟨w.heap.size, 3, none⟩ = some (.slice A3 (d.f 3).l.length c3) := cell_heap hx rfl
        have l0 := heap_lt hx
        have Hx := Lib.hid hx; clear hx
        have Hb := Lib.hid hb; have Hown := Lib.hid hown
        have Hmj := Lib.hid hmj; have hmn : m ≤ (d.f 3).l.length := by omega
        clear hmj hb hown
        by_cases hlt : m < (d.f 3).l.length
        · obtain ⟨b, off, rfl, hI, hat⟩ := at_val S3.out (by omega)
          obtain ⟨A3', c3', A4', c4', e0, e1, e2, e3, e4, rv⟩ := hat m hlt
          have Rv' := Lib.hid rv
          clear hat rv
          replace e0 := ((H0.out.trans (Hb.out.mono H0.out.size)).cell (p := ⟨b, _, none⟩) hI).trans e0
          replace e1 := ((H0.out.trans (Hb.out.mono H0.out.size)).cell (p := ⟨b, _, none⟩) hI).trans e1
          replace e2 := ((H0.out.trans (Hb.out.mono H0.out.size)).cell (p := ⟨b, _, none⟩) hI).trans e2
          replace e3 := ((H0.out.trans (Hb.out.mono H0.out.size)).cell (p := ⟨b, _, none⟩) hI).trans e3
          replace e4 := ((H0.out.trans (Hb.out.mono H0.out.size)).cell (p := ⟨b, _, none⟩) hI).trans e4
          go_wp2_with fail
          refine (IH.out _ (gD (d.f 3).l m) w0 _ (H0.out.trans (Hb.out.mono H0.out.size)) (I4.out m hlt _ Rv'.out)).mono ?_
          rintro e w2 ⟨rfl, b2⟩
          have Hb2 := Lib.hid (Hb.out.trans (b2.mono Hb.out.size))
          have Hown2 := Lib.hid (own_below Hown.out b2)
          have hsz2 : w.heap.size + 1 ≤ w2.heap.size := Nat.le_trans hsz b2.size
          have Hx2 := Lib.hid ((b2.block _ l0).trans Hx.out)
          clear b2 e0 e1 e2 e3 e4 k3
          go_wp2_with (at_builtin; refine append_new (o := ⟨some 50, _, _, _, _, _⟩) rfl (.tmp 42) (.tmp 49) 47 rfl (w.heap.size + 1) 9 _ 1 16 Tryd.underlying47 strinfo rfl (by decide) _ _ _ Hown2.out #[.string (bs (valF k (gD (d.f 3).l m)))] 1 rfl rfl rfl rfl (by simp only [maxLen]; omega) (by omega) hsz2 ?_; intro v' w' hown' hg' hsz' hat' hsh')
          have HO := Lib.hid (show w'.ownsRow (w.heap.size + 1) 9 1 v' (m + 1) (strs ((List.range (m + 1)).map fun i => valF k (gD (d.f 3).l i))) by rw [← strs_range]; exact hown')
          have HBn := Lib.hid (Hb2.out.grown hg' Hb2.out.size (fun y hy => by have := (Hown2.out.lt y hy).1; omega))
          have hsz3 : w.heap.size + 1 ≤ w'.heap.size := by omega
          have Hx3 := Lib.hid ((hg'.block _ (heap_lt Hx2.out) (fun e => by have := (Hown2.out.lt _ e.symm).1; omega)).trans Hx2.out)
          clear hown' hg' hsz' hat' hsh'
          go_wp2
          go_roundg ((d.f 3).l.length - m - 1)
          case measure => have := Hmj.out; omega
          case rel => exact ⟨m + 1, by have := Hmj.out; omega, by go_num, HO.out, HBn.out, hsz3, Hx3.out⟩
        · obtain rfl : m = (d.f 3).l.length := by omega
          have HS2 := HS.out
          have HJ := Lib.hid (strJoinR commaB wr Hown.out (by omega) (by show (Lib.join (listB k d) commaB).length ≤ _; omega))
          have HX2 := Lib.hid (show bs (valF (k + 1) d) = bs [91] ++ bs (Lib.join (listB k d) commaB) ++ bs [93] by rw [HX.out, bs_append, bs_append])
          have hz : (bs (Lib.join (listB k d) commaB)).size ≤ 8388608 := by rw [bs_size]; omega
          have HJ : Hid (Calls Tryd.prog 77 #[_, .string ⟨#[44, 32]⟩] wr (fun e w' => e = .returned (.string (bs (Lib.join (listB k d) commaB))) ∧ Below wr.heap.size wr w')) := HJ
          generalize bs (Lib.join (listB k d) commaB) = t at *
          clear HS2
          go_wp2_with fail
          refine HJ.out.mono ?_
          rintro e w2 ⟨rfl, b2⟩
          have Hb2 := Lib.hid (Hb.out.trans (b2.mono Hb.out.size)); clear b2
          go_wp2
          go_ret
          exact ⟨by rw [HX2.out]; rfl, Hb2.out⟩
    by_cases q6 : (d.f 0).n = 6
    · have HX := Lib.hid (valF_obj (k := k) q6)
      rw [HX.out] at hsize
      simp only [List.length_append, List.length_cons, List.length_nil] at hsize
      have HS := Lib.hid hsize; clear hsize
      obtain ⟨nn, hnn⟩ : ∃ nn, nn = min (d.f 4).l.length (d.f 3).l.length := ⟨_, rfl⟩
      have hnn1 : nn ≤ (d.f 4).l.length := by omega
      have hnn2 : nn ≤ (d.f 3).l.length := by omega
      have HNN := Lib.hid hnn
      clear hnn
      go_enter Tryd.func43, Tryd.ntmps43
      go_wp2_with fail
      clear q6
      go_loopg [5, 6] nn (fun j v i wr => ∃ m : Nat, m + j = nn ∧ i = .int .i64 m ∧ wr.ownsRow (w.heap.size + 1) 9 1 v m (strs ((List.range m).map (pairB k d))) ∧ Below w.heap.size w wr ∧ w.heap.size + 1 ≤ wr.heap.size ∧ wr.heap[w.heap.size]? = some (.cells #[.int .i64 6, .int .i64 (d.f 1).n, .string (d.f 2).s, .slice A3 (d.f 3).l.length c3, .slice A4 (d.f 4).l.length c4] 49 (0, 0)))
      case atStart => exact ⟨0, by omega, rfl, own_nil _ _ _, HB.out _, by simp, heap_at rfl⟩
      case round =>
        obtain ⟨m, hmj, rfl, hown, hb, hsz, hx⟩ := hrel
        have Hb := Lib.hid hb; have Hown := Lib.hid hown; have Hx := Lib.hid hx
        have Hmj := Lib.hid hmj; have hmn : m ≤ nn := by omega
        clear hmj hb hown hx
        by_cases hlt : m < nn
        · obtain ⟨b, off, rfl, hI, hat⟩ := at_val S3.out (by omega)
          obtain ⟨A3', c3', A4', c4', e0, e1, e2, e3, e4, rv⟩ := hat m (by omega)
          obtain ⟨bk, offk, rfl, hIk, hatk⟩ := at_str ⟨_, S4.out⟩ (by omega)
          obtain ⟨ek, -⟩ := hatk m (by omega)
          have hks := I3.out m (by omega)
          have Rv' := Lib.hid (I4.out m (by omega) _ rv)
          have hvs : (bs (valF k (gD (d.f 3).l m))).size ≤ 8388608 := by rw [bs_size]; exact valF_size Rv'.out.fits (wide_of _ _ _ _ Rv'.out.rep) Rv'.out.bulk
          clear hat hatk rv
          have hB := H0.out.trans (Hb.out.mono H0.out.size)
          have k3 : wr.cell? ⟨w.heap.size, 3, none⟩ = some (.slice (some ⟨b, off, none⟩) (d.f 3).l.length c3) := cell_heap Hx.out rfl
          have k4 : wr.cell? ⟨w.heap.size, 4, none⟩ = some (.slice (some ⟨bk, offk, none⟩) (d.f 4).l.length c4) := cell_heap Hx.out rfl
          have l0 := heap_lt Hx.out
          have ek' := (hB.cell (p := ⟨bk, _, none⟩) hIk).trans ek
          replace e0 := (hB.cell (p := ⟨b, _, none⟩) hI).trans e0
          replace e1 := (hB.cell (p := ⟨b, _, none⟩) hI).trans e1
          replace e2 := (hB.cell (p := ⟨b, _, none⟩) hI).trans e2
          replace e3 := (hB.cell (p := ⟨b, _, none⟩) hI).trans e3
          replace e4 := (hB.cell (p := ⟨b, _, none⟩) hI).trans e4
          have lb : b < w.heap.size + 1 := by have := H0.out.size; omega
          have lk : bk < w.heap.size + 1 := by have := H0.out.size; omega
          have lv : w.heap.size < w.heap.size + 1 := Nat.lt_succ_self _
          have HSS := Lib.hid (fun w' (h : Below (w.heap.size + 1) wr w') => (⟨h, (h.cell (p := ⟨w.heap.size, _, none⟩) lv).trans k3, (h.cell (p := ⟨w.heap.size, _, none⟩) lv).trans k4, (h.cell (p := ⟨bk, _, none⟩) lk).trans ek', (h.cell (p := ⟨b, _, none⟩) lb).trans e0, (h.cell (p := ⟨b, _, none⟩) lb).trans e1, (h.cell (p := ⟨b, _, none⟩) lb).trans e2, (h.cell (p := ⟨b, _, none⟩) lb).trans e3, (h.cell (p := ⟨b, _, none⟩) lb).trans e4⟩ : (Below (w.heap.size + 1) wr w' ∧ w'.cell? ⟨w.heap.size, 3, none⟩ = some (.slice (some ⟨b, off, none⟩) (d.f 3).l.length c3) ∧ w'.cell? ⟨w.heap.size, 4, none⟩ = some (.slice (some ⟨bk, offk, none⟩) (d.f 4).l.length c4) ∧ w'.cell? ⟨bk, offk + m, none⟩ = some (.string (gD (d.f 4).l m).s) ∧ w'.cell? ⟨b, off + m * 5, none⟩ = some (.int .i64 ((gD (d.f 3).l m).f 0).n) ∧ w'.cell? ⟨b, off + m * 5 + 1, none⟩ = some (.int .i64 ((gD (d.f 3).l m).f 1).n) ∧ w'.cell? ⟨b, off + m * 5 + 2, none⟩ = some (.string ((gD (d.f 3).l m).f 2).s) ∧ w'.cell? ⟨b, off + m * 5 + 3, none⟩ = some (.slice A3' ((gD (d.f 3).l m).f 3).l.length c3') ∧ w'.cell? ⟨b, off + m * 5 + 4, none⟩ = some (.slice A4' ((gD (d.f 3).l m).f 4).l.length c4'))))
          have Hc := Lib.hid (Below.refl (w.heap.size + 1) wr)
          have HPB := Lib.hid (show bs (pairB k d m) = (gD (d.f 4).l m).s ++ ⟨#[58, 32]⟩ ++ bs (valF k (gD (d.f 3).l m)) by
            have p1 := bs_append ((gD (d.f 4).l m).s.data.toList ++ [58, 32]) (valF k (gD (d.f 3).l m))
            have p2 := bs_append (gD (d.f 4).l m).s.data.toList [58, 32]
            rw [bs_self] at p2
            unfold pairB
            rw [← p1, ← p2]; rfl)
          have hm1 : (m : Int) < ((d.f 4).l.length : Int) := by omega
          have hm2 : (m : Int) < ((d.f 3).l.length : Int) := by omega
          clear e0 e1 e2 e3 e4 ek ek' hB
          have y1 : ((gD (d.f 4).l m).s ++ (⟨#[58, 32]⟩ : ByteArray)).size = (gD (d.f 4).l m).s.size + 2 := by rw [ByteArray.size_append]; rfl
          have r1 := fun (w : World) => run_string_add_sum (P := Tryd.prog) (w := w) (gD (d.f 4).l m).s ⟨#[58, 32]⟩ (by rw [← ByteArray.size_append]; omega)
          have r2 := fun (w : World) => run_string_add_sum (P := Tryd.prog) (w := w) ((gD (d.f 4).l m).s ++ ⟨#[58, 32]⟩) (bs (valF k (gD (d.f 3).l m))) (by omega)
          clear y1
          go_wp2
          clear k3 k4
          go_region_held3 (fun w' => Below (w.heap.size + 1) wr w' ∧ w'.cell? ⟨w.heap.size, 3, none⟩ = some (.slice (some ⟨b, off, none⟩) (d.f 3).l.length c3) ∧ w'.cell? ⟨w.heap.size, 4, none⟩ = some (.slice (some ⟨bk, offk, none⟩) (d.f 4).l.length c4) ∧ w'.cell? ⟨bk, offk + m, none⟩ = some (.string (gD (d.f 4).l m).s) ∧ w'.cell? ⟨b, off + m * 5, none⟩ = some (.int .i64 ((gD (d.f 3).l m).f 0).n) ∧ w'.cell? ⟨b, off + m * 5 + 1, none⟩ = some (.int .i64 ((gD (d.f 3).l m).f 1).n) ∧ w'.cell? ⟨b, off + m * 5 + 2, none⟩ = some (.string ((gD (d.f 3).l m).f 2).s) ∧ w'.cell? ⟨b, off + m * 5 + 3, none⟩ = some (.slice A3' ((gD (d.f 3).l m).f 3).l.length c3') ∧ w'.cell? ⟨b, off + m * 5 + 4, none⟩ = some (.slice A4' ((gD (d.f 3).l m).f 4).l.length c4'))
            (first | exact HSS.out _ Hc.out | exact HSS.out _ Hc.out.drew | exact HSS.out _ (Hc.out.alloc (Nat.le_trans hsz Hsz2.out) _))
            (first
              | (go_at_call 43; refine (IH.out _ (gD (d.f 3).l m) w0 _ (H0.out.trans (Hb.out.drew.mono H0.out.size)) Rv'.out).mono ?_; rintro e w2 ⟨rfl, b2⟩; clear Hc; have Hown2 := Lib.hid (own_below Hown.out ((Below.refl wr.heap.size wr).drew.trans b2)); have Hc := Lib.hid ((Below.refl (w.heap.size + 1) wr).drew.trans (b2.mono hsz)); have Hsz2 := Lib.hid (b2.size); have Hbw := Lib.hid (Hb.out.drew.trans (b2.mono Hb.out.size)); clear b2)
              | (rw [if_pos (show Region.wanted _ _ = true from rfl)]; refine wp_new0 (o := ⟨some 86, _, _, _, _, _⟩) rfl (.tmp 71) (.tmp 85) 47 rfl (w.heap.size + 1) 9 _ 1 16 Tryd.underlying47 strinfo rfl (by decide) _ _ _ Hown2.out #[.string ((gD (d.f 4).l m).s ++ ⟨#[58, 32]⟩ ++ bs (valF k (gD (d.f 3).l m)))] 1 rfl rfl ?_ ?_ ?_ ?_ ?_ ?_; rfl; rfl; (simp only [maxLen]; omega); omega; exact Nat.le_trans hsz Hsz2.out; intro v' w' hown' hg' hsz' hat' hsh'; have Ho := Hc; clear Hc; have Hc := Lib.hid (Ho.out.grown hg' (Nat.le_trans hsz Hsz2.out) (fun y hy => (Hown2.out.lt y hy).1)); have Hbn := Lib.hid (Hbw.out.grown hg' Hbw.out.size (fun y hy => by have := (Hown2.out.lt y hy).1; omega)); have Hzn := Lib.hid (Nat.le_trans (Nat.le_trans hsz Hsz2.out) (Nat.le_of_lt hsz')); have Hon := Lib.hid hown'; clear Ho hown' hg' hsz' hat' hsh'))
          have HO := Lib.hid (show w'.ownsRow (w.heap.size + 1) 9 1 v' (m + 1) (strs ((List.range (m + 1)).map (pairB k d))) by rw [← strs_range, HPB.out]; exact Hon.out)
          have Hxn := Lib.hid ((Hc.out.block _ lv).trans Hx.out)
          go_wp2
          go_roundg (nn - m - 1)
          case measure => have := Hmj.out; omega
          case rel => exact ⟨m + 1, by have := Hmj.out; omega, by go_num, HO.out, Hbn.out, Hzn.out, Hxn.out⟩
        · obtain rfl : nn = m := by omega
          have k3 : wr.cell? ⟨w.heap.size, 3, none⟩ = some (.slice A3 (d.f 3).l.length c3) := cell_heap Hx.out rfl
          have k4 : wr.cell? ⟨w.heap.size, 4, none⟩ = some (.slice A4 (d.f 4).l.length c4) := cell_heap Hx.out rfl
          have l0 := heap_lt Hx.out
          have HS2 := HS.out
          have hob : objB k d = (List.range nn).map (pairB k d) := by unfold objB; rw [HNN.out]
          have HJ := Lib.hid (strJoinR commaB wr (ls := objB k d) (by rw [hob]; exact Hown.out) (by omega) (by omega))
          clear hob
          have HX2 := Lib.hid (show bs (valF (k + 1) d) = bs [123] ++ bs (Lib.join (objB k d) commaB) ++ bs [125] by rw [HX.out, bs_append, bs_append])
          have hz : (bs (Lib.join (objB k d) commaB)).size ≤ 8388608 := by rw [bs_size]; omega
          have HJ : Hid (Calls Tryd.prog 77 #[_, .string ⟨#[44, 32]⟩] wr (fun e w' => e = .returned (.string (bs (Lib.join (objB k d) commaB))) ∧ Below wr.heap.size wr w')) := HJ
          generalize bs (Lib.join (objB k d) commaB) = t at *
          clear HS2
          by_cases hgd : nn < (d.f 3).l.length
          · have hgd2 : ¬ nn < (d.f 4).l.length := by have := HNN.out; omega
            go_wp2_with fail
            refine HJ.out.mono ?_
            rintro e w2 ⟨rfl, b2⟩
            have Hb2 := Lib.hid (Hb.out.trans (b2.mono Hb.out.size)); clear b2
            go_wp2
            go_ret
            exact ⟨by rw [HX2.out]; rfl, Hb2.out⟩
          · go_wp2_with fail
            refine HJ.out.mono ?_
            rintro e w2 ⟨rfl, b2⟩
            have Hb2 := Lib.hid (Hb.out.trans (b2.mono Hb.out.size)); clear b2
            go_wp2
            go_ret
            exact ⟨by rw [HX2.out]; rfl, Hb2.out⟩
    clear S3 S4 IH I3 I4
    have HBw := Lib.hid (HB.out (.cells #[.int .i64 (d.f 0).n, .int .i64 (d.f 1).n, .string (d.f 2).s, .slice A3 (d.f 3).l.length c3, .slice A4 (d.f 4).l.length c4] 49))
    by_cases q1 : (d.f 0).n = 1
    · rcases HG.out q1 with i | i
      · have HX := Lib.hid (valF_bool0 (k := k) q1 i)
        go_enter Tryd.func43, Tryd.ntmps43
        go_wp2
        go_ret
        exact ⟨by rw [HX.out]; rfl, HB.out _⟩
      · have HX := Lib.hid (valF_bool1 (k := k) q1 i)
        go_enter Tryd.func43, Tryd.ntmps43
        go_wp2
        go_ret
        exact ⟨by rw [HX.out]; rfl, HB.out _⟩
    by_cases q2 : (d.f 0).n = 2
    · have HX := Lib.hid (valF_int (k := k) q2)
      have HC := Lib.hid (fun w => decimalR (d.f 1).n hr1.1 hr1.2 w)
      go_enter Tryd.func43, Tryd.ntmps43
      go_wp2_with fail
      refine (HC.out _).mono ?_
      rintro e w2 ⟨rfl, b2⟩
      have Hb2 := Lib.hid ((HB.out _).trans (b2.mono (HB.out _).size)); clear b2
      go_wp2
      go_ret
      exact ⟨by rw [HX.out]; rfl, Hb2.out⟩
    by_cases q3 : (d.f 0).n = 3
    · have HX := Lib.hid (valF_text (k := k) q3)
      have HC := Lib.hid (fun w => quoteR (d.f 2).s w hts)
      go_enter Tryd.func43, Tryd.ntmps43
      go_wp2_with fail
      refine (HC.out _).mono ?_
      rintro e w2 ⟨rfl, b2⟩
      have Hb2 := Lib.hid ((HB.out _).trans (b2.mono (HB.out _).size)); clear b2
      go_wp2
      go_ret
      exact ⟨by rw [HX.out]; rfl, Hb2.out⟩
    by_cases q4 : (d.f 0).n = 4
    · have HX := Lib.hid (valF_enum (k := k) q4)
      go_enter Tryd.func43, Tryd.ntmps43
      go_wp2
      go_ret
      exact ⟨by rw [HX.out, bs_self]; rfl, HB.out _⟩
    by_cases q7 : (d.f 0).n = 7
    · have HX := Lib.hid (show bs (valF (k + 1) d) = bs [36] ++ (d.f 2).s by rw [valF_var q7, ← bs_append, bs_self])
      go_enter Tryd.func43, Tryd.ntmps43
      go_wp2
      go_ret
      exact ⟨by rw [HX.out]; rfl, HB.out _⟩
    · have HX := Lib.hid (valF_null (k := k) q1 q2 q3 q4 q7 q5 q6)
      go_enter Tryd.func43, Tryd.ntmps43
      go_wp2
      go_ret
      exact ⟨by rw [HX.out]; rfl, HB.out _⟩
end Go.Proofs.YtohneabalakmeaaDoor
namespace Go.Proofs.YtohneabalakmeaaDoor
open Go.RowKit
def AtK103 (k : Nat) (w : World) (b o : Nat) (d : D) : Prop := ∃ (A4 : Option Addr) (c4 : Nat) (A5 : Option Addr) (c5 : Nat), w.cell? ⟨b, o, none⟩ = some (.string (d.f 0).s) ∧ w.cell? ⟨b, o + 1, none⟩ = some (.int .i64 ((d.f 1).f 0).n) ∧ w.cell? ⟨b, o + 2, none⟩ = some (.int .i64 ((d.f 1).f 1).n) ∧ w.cell? ⟨b, o + 3, none⟩ = some (.string ((d.f 1).f 2).s) ∧ w.cell? ⟨b, o + 4, none⟩ = some (.slice A4 ((d.f 1).f 3).l.length c4) ∧ w.cell? ⟨b, o + 5, none⟩ = some (.slice A5 ((d.f 1).f 4).l.length c5) ∧ (d.f 0).s.size ≤ maxLen ∧ (-9223372036854775808 ≤ ((d.f 1).f 0).n ∧ ((d.f 1).f 0).n ≤ 9223372036854775807) ∧ (-9223372036854775808 ≤ ((d.f 1).f 1).n ∧ ((d.f 1).f 1).n ≤ 9223372036854775807) ∧ ((d.f 1).f 2).s.size ≤ maxLen ∧ (((d.f 1).f 3).l.length ≤ c4 ∧ c4 ≤ maxLen ∧ (A4 = none → c4 = 0) ∧ Sl Tryd.prog w (fun b => b < w.heap.size) k 49 A4 ((d.f 1).f 3).l) ∧ (((d.f 1).f 4).l.length ≤ c5 ∧ c5 ≤ maxLen ∧ (A5 = none → c5 = 0) ∧ Sl Tryd.prog w (fun b => b < w.heap.size) k 9 A5 ((d.f 1).f 4).l) ∧ Rep Tryd.prog w (fun b => b < w.heap.size) k 103 [.string (d.f 0).s, .int .i64 ((d.f 1).f 0).n, .int .i64 ((d.f 1).f 1).n, .string ((d.f 1).f 2).s, .slice A4 ((d.f 1).f 3).l.length c4, .slice A5 ((d.f 1).f 4).l.length c5] d
set_option maxRecDepth 100000 in
theorem atK103 {k : Nat} {w : World} {A : Option Addr} {l : List D} (h : Sl Tryd.prog w (fun b => b < w.heap.size) k 103 A l) (hp : 0 < l.length) : ∃ b off, A = some ⟨b, off, none⟩ ∧ b < w.heap.size ∧ ∀ i, i < l.length → AtK103 k w b (off + i * 6) (gD l i) := by
  obtain ⟨b, off, hA, hb, hi⟩ := h hp (by rw [cells103]; omega)
  refine ⟨b, off, hA, hb, fun i hil => ?_⟩
  obtain ⟨ys, y1, y2, y3⟩ := hi i hil
  rw [cells103] at y2
  have y4 := y3
  obtain ⟨A4, c4, A5, c5, rfl, r0, r1, r2, r3, ⟨s4a, s4b, s4c, s4⟩, ⟨s5a, s5b, s5c, s5⟩⟩ := open103_any y3
  exact ⟨A4, c4, A5, c5, y2 0 _ rfl, y2 1 _ rfl, y2 2 _ rfl, y2 3 _ rfl, y2 4 _ rfl, y2 5 _ rfl, r0, wfr r1, wfr r2, r3, ⟨s4a, s4b, s4c, s4⟩, ⟨s5a, s5b, s5c, s5⟩, y4⟩
set_option maxRecDepth 100000 in
theorem partK103_1 {k : Nat} {w : World} {I : Nat → Prop} {x0 x1 x2 x3 x4 x5 : Value} {d : D} (h : Rep Tryd.prog w I k 103 [x0, x1, x2, x3, x4, x5] d) : Rep Tryd.prog w I k 49 [x1, x2, x3, x4, x5] (d.f 1) := by
  cases k with
  | zero => exact h.elim
  | succ k =>
    obtain ⟨_, hf⟩ := h.struct Tryd.underlying103
    have g : Rep Tryd.prog w I k 49 (([x0, x1, x2, x3, x4, x5].drop 1).take (Tryd.prog.cellsOf 49)) (d.f 1) := hf 1 _ rfl
    rw [cells49] at g
    exact Rep.up g
def AtK101 (k : Nat) (w : World) (b o : Nat) (d : D) : Prop := ∃ (A1 : Option Addr) (c1 : Nat), w.cell? ⟨b, o, none⟩ = some (.string (d.f 0).s) ∧ w.cell? ⟨b, o + 1, none⟩ = some (.slice A1 (d.f 1).l.length c1) ∧ (d.f 0).s.size ≤ maxLen ∧ ((d.f 1).l.length ≤ c1 ∧ c1 ≤ maxLen ∧ (A1 = none → c1 = 0) ∧ Sl Tryd.prog w (fun b => b < w.heap.size) k 103 A1 (d.f 1).l) ∧ Rep Tryd.prog w (fun b => b < w.heap.size) k 101 [.string (d.f 0).s, .slice A1 (d.f 1).l.length c1] d
set_option maxRecDepth 100000 in
theorem atK101 {k : Nat} {w : World} {A : Option Addr} {l : List D} (h : Sl Tryd.prog w (fun b => b < w.heap.size) k 101 A l) (hp : 0 < l.length) : ∃ b off, A = some ⟨b, off, none⟩ ∧ b < w.heap.size ∧ ∀ i, i < l.length → AtK101 k w b (off + i * 2) (gD l i) := by
  obtain ⟨b, off, hA, hb, hi⟩ := h hp (by rw [cells101]; omega)
  refine ⟨b, off, hA, hb, fun i hil => ?_⟩
  obtain ⟨ys, y1, y2, y3⟩ := hi i hil
  rw [cells101] at y2
  have y4 := y3
  obtain ⟨A1, c1, rfl, r0, ⟨s1a, s1b, s1c, s1⟩⟩ := open101_any y3
  exact ⟨A1, c1, y2 0 _ rfl, y2 1 _ rfl, r0, ⟨s1a, s1b, s1c, s1⟩, y4⟩
def AtK132 (k : Nat) (w : World) (b o : Nat) (d : D) : Prop := ∃ (A2 : Option Addr) (c2 : Nat) (A7 : Option Addr) (c7 : Nat) (A8 : Option Addr) (c8 : Nat) (A9 : Option Addr) (c9 : Nat), w.cell? ⟨b, o, none⟩ = some (.string (d.f 0).s) ∧ w.cell? ⟨b, o + 1, none⟩ = some (.string ((d.f 1).f 0).s) ∧ w.cell? ⟨b, o + 2, none⟩ = some (.slice A2 ((d.f 1).f 1).l.length c2) ∧ w.cell? ⟨b, o + 3, none⟩ = some (.bool (d.f 2).b) ∧ w.cell? ⟨b, o + 4, none⟩ = some (.int .i64 ((d.f 3).f 0).n) ∧ w.cell? ⟨b, o + 5, none⟩ = some (.int .i64 ((d.f 3).f 1).n) ∧ w.cell? ⟨b, o + 6, none⟩ = some (.string ((d.f 3).f 2).s) ∧ w.cell? ⟨b, o + 7, none⟩ = some (.slice A7 ((d.f 3).f 3).l.length c7) ∧ w.cell? ⟨b, o + 8, none⟩ = some (.slice A8 ((d.f 3).f 4).l.length c8) ∧ w.cell? ⟨b, o + 9, none⟩ = some (.slice A9 (d.f 4).l.length c9) ∧ (d.f 0).s.size ≤ maxLen ∧ ((d.f 1).f 0).s.size ≤ maxLen ∧ (((d.f 1).f 1).l.length ≤ c2 ∧ c2 ≤ maxLen ∧ (A2 = none → c2 = 0) ∧ Sl Tryd.prog w (fun b => b < w.heap.size) k 3 A2 ((d.f 1).f 1).l) ∧ (-9223372036854775808 ≤ ((d.f 3).f 0).n ∧ ((d.f 3).f 0).n ≤ 9223372036854775807) ∧ (-9223372036854775808 ≤ ((d.f 3).f 1).n ∧ ((d.f 3).f 1).n ≤ 9223372036854775807) ∧ ((d.f 3).f 2).s.size ≤ maxLen ∧ (((d.f 3).f 3).l.length ≤ c7 ∧ c7 ≤ maxLen ∧ (A7 = none → c7 = 0) ∧ Sl Tryd.prog w (fun b => b < w.heap.size) k 49 A7 ((d.f 3).f 3).l) ∧ (((d.f 3).f 4).l.length ≤ c8 ∧ c8 ≤ maxLen ∧ (A8 = none → c8 = 0) ∧ Sl Tryd.prog w (fun b => b < w.heap.size) k 9 A8 ((d.f 3).f 4).l) ∧ ((d.f 4).l.length ≤ c9 ∧ c9 ≤ maxLen ∧ (A9 = none → c9 = 0) ∧ Sl Tryd.prog w (fun b => b < w.heap.size) k 101 A9 (d.f 4).l) ∧ Rep Tryd.prog w (fun b => b < w.heap.size) k 132 [.string (d.f 0).s, .string ((d.f 1).f 0).s, .slice A2 ((d.f 1).f 1).l.length c2, .bool (d.f 2).b, .int .i64 ((d.f 3).f 0).n, .int .i64 ((d.f 3).f 1).n, .string ((d.f 3).f 2).s, .slice A7 ((d.f 3).f 3).l.length c7, .slice A8 ((d.f 3).f 4).l.length c8, .slice A9 (d.f 4).l.length c9] d
set_option maxRecDepth 100000 in
theorem atK132 {k : Nat} {w : World} {A : Option Addr} {l : List D} (h : Sl Tryd.prog w (fun b => b < w.heap.size) k 132 A l) (hp : 0 < l.length) : ∃ b off, A = some ⟨b, off, none⟩ ∧ b < w.heap.size ∧ ∀ i, i < l.length → AtK132 k w b (off + i * 10) (gD l i) := by
  obtain ⟨b, off, hA, hb, hi⟩ := h hp (by rw [cells132]; omega)
  refine ⟨b, off, hA, hb, fun i hil => ?_⟩
  obtain ⟨ys, y1, y2, y3⟩ := hi i hil
  rw [cells132] at y2
  have y4 := y3
  obtain ⟨A2, c2, A7, c7, A8, c8, A9, c9, rfl, r0, r1, ⟨s2a, s2b, s2c, s2⟩, r3, r4, r5, ⟨s6a, s6b, s6c, s6⟩, ⟨s7a, s7b, s7c, s7⟩, ⟨s8a, s8b, s8c, s8⟩⟩ := open132_any y3
  exact ⟨A2, c2, A7, c7, A8, c8, A9, c9, y2 0 _ rfl, y2 1 _ rfl, y2 2 _ rfl, y2 3 _ rfl, y2 4 _ rfl, y2 5 _ rfl, y2 6 _ rfl, y2 7 _ rfl, y2 8 _ rfl, y2 9 _ rfl, r0, r1, ⟨s2a, s2b, s2c, s2⟩, wfr r3, wfr r4, r5, ⟨s6a, s6b, s6c, s6⟩, ⟨s7a, s7b, s7c, s7⟩, ⟨s8a, s8b, s8c, s8⟩, y4⟩
set_option maxRecDepth 100000 in
theorem partK132_1 {k : Nat} {w : World} {I : Nat → Prop} {x0 x1 x2 x3 x4 x5 x6 x7 x8 x9 : Value} {d : D} (h : Rep Tryd.prog w I k 132 [x0, x1, x2, x3, x4, x5, x6, x7, x8, x9] d) : Rep Tryd.prog w I k 62 [x1, x2] (d.f 1) := by
  cases k with
  | zero => exact h.elim
  | succ k =>
    obtain ⟨_, hf⟩ := h.struct Tryd.underlying132
    have g : Rep Tryd.prog w I k 62 (([x0, x1, x2, x3, x4, x5, x6, x7, x8, x9].drop 1).take (Tryd.prog.cellsOf 62)) (d.f 1) := hf 1 _ rfl
    rw [cells62] at g
    exact Rep.up g
set_option maxRecDepth 100000 in
theorem partK132_3 {k : Nat} {w : World} {I : Nat → Prop} {x0 x1 x2 x3 x4 x5 x6 x7 x8 x9 : Value} {d : D} (h : Rep Tryd.prog w I k 132 [x0, x1, x2, x3, x4, x5, x6, x7, x8, x9] d) : Rep Tryd.prog w I k 49 [x4, x5, x6, x7, x8] (d.f 3) := by
  cases k with
  | zero => exact h.elim
  | succ k =>
    obtain ⟨_, hf⟩ := h.struct Tryd.underlying132
    have g : Rep Tryd.prog w I k 49 (([x0, x1, x2, x3, x4, x5, x6, x7, x8, x9].drop 4).take (Tryd.prog.cellsOf 49)) (d.f 3) := hf 3 _ rfl
    rw [cells49] at g
    exact Rep.up g
def AtK64 (k : Nat) (w : World) (b o : Nat) (d : D) : Prop := ∃ (A1 : Option Addr) (c1 : Nat) (A3 : Option Addr) (c3 : Nat) (A4 : Option Addr) (c4 : Nat), w.cell? ⟨b, o, none⟩ = some (.string (d.f 0).s) ∧ w.cell? ⟨b, o + 1, none⟩ = some (.slice A1 (d.f 1).l.length c1) ∧ w.cell? ⟨b, o + 2, none⟩ = some (.string ((d.f 2).f 0).s) ∧ w.cell? ⟨b, o + 3, none⟩ = some (.slice A3 ((d.f 2).f 1).l.length c3) ∧ w.cell? ⟨b, o + 4, none⟩ = some (.slice A4 (d.f 3).l.length c4) ∧ (d.f 0).s.size ≤ maxLen ∧ ((d.f 1).l.length ≤ c1 ∧ c1 ≤ maxLen ∧ (A1 = none → c1 = 0) ∧ Sl Tryd.prog w (fun b => b < w.heap.size) k 132 A1 (d.f 1).l) ∧ ((d.f 2).f 0).s.size ≤ maxLen ∧ (((d.f 2).f 1).l.length ≤ c3 ∧ c3 ≤ maxLen ∧ (A3 = none → c3 = 0) ∧ Sl Tryd.prog w (fun b => b < w.heap.size) k 3 A3 ((d.f 2).f 1).l) ∧ ((d.f 3).l.length ≤ c4 ∧ c4 ≤ maxLen ∧ (A4 = none → c4 = 0) ∧ Sl Tryd.prog w (fun b => b < w.heap.size) k 101 A4 (d.f 3).l) ∧ Rep Tryd.prog w (fun b => b < w.heap.size) k 64 [.string (d.f 0).s, .slice A1 (d.f 1).l.length c1, .string ((d.f 2).f 0).s, .slice A3 ((d.f 2).f 1).l.length c3, .slice A4 (d.f 3).l.length c4] d
set_option maxRecDepth 100000 in
theorem atK64 {k : Nat} {w : World} {A : Option Addr} {l : List D} (h : Sl Tryd.prog w (fun b => b < w.heap.size) k 64 A l) (hp : 0 < l.length) : ∃ b off, A = some ⟨b, off, none⟩ ∧ b < w.heap.size ∧ ∀ i, i < l.length → AtK64 k w b (off + i * 5) (gD l i) := by
  obtain ⟨b, off, hA, hb, hi⟩ := h hp (by rw [cells64]; omega)
  refine ⟨b, off, hA, hb, fun i hil => ?_⟩
  obtain ⟨ys, y1, y2, y3⟩ := hi i hil
  rw [cells64] at y2
  have y4 := y3
  obtain ⟨A1, c1, A3, c3, A4, c4, rfl, r0, ⟨s1a, s1b, s1c, s1⟩, r2, ⟨s3a, s3b, s3c, s3⟩, ⟨s4a, s4b, s4c, s4⟩⟩ := open64_any y3
  exact ⟨A1, c1, A3, c3, A4, c4, y2 0 _ rfl, y2 1 _ rfl, y2 2 _ rfl, y2 3 _ rfl, y2 4 _ rfl, r0, ⟨s1a, s1b, s1c, s1⟩, r2, ⟨s3a, s3b, s3c, s3⟩, ⟨s4a, s4b, s4c, s4⟩, y4⟩
def AtK112 (k : Nat) (w : World) (b o : Nat) (d : D) : Prop := ∃ (A1 : Option Addr) (c1 : Nat), w.cell? ⟨b, o, none⟩ = some (.string (d.f 0).s) ∧ w.cell? ⟨b, o + 1, none⟩ = some (.slice A1 (d.f 1).l.length c1) ∧ (d.f 0).s.size ≤ maxLen ∧ ((d.f 1).l.length ≤ c1 ∧ c1 ≤ maxLen ∧ (A1 = none → c1 = 0) ∧ Sl Tryd.prog w (fun b => b < w.heap.size) k 101 A1 (d.f 1).l) ∧ Rep Tryd.prog w (fun b => b < w.heap.size) k 112 [.string (d.f 0).s, .slice A1 (d.f 1).l.length c1] d
set_option maxRecDepth 100000 in
theorem atK112 {k : Nat} {w : World} {A : Option Addr} {l : List D} (h : Sl Tryd.prog w (fun b => b < w.heap.size) k 112 A l) (hp : 0 < l.length) : ∃ b off, A = some ⟨b, off, none⟩ ∧ b < w.heap.size ∧ ∀ i, i < l.length → AtK112 k w b (off + i * 2) (gD l i) := by
  obtain ⟨b, off, hA, hb, hi⟩ := h hp (by rw [cells112]; omega)
  refine ⟨b, off, hA, hb, fun i hil => ?_⟩
  obtain ⟨ys, y1, y2, y3⟩ := hi i hil
  rw [cells112] at y2
  have y4 := y3
  obtain ⟨A1, c1, rfl, r0, ⟨s1a, s1b, s1c, s1⟩⟩ := open112_any y3
  exact ⟨A1, c1, y2 0 _ rfl, y2 1 _ rfl, r0, ⟨s1a, s1b, s1c, s1⟩, y4⟩
def InK58 (k : Nat) (w : World) (cs : Array Value) (d : D) : Prop := ∃ (A2 : Option Addr) (c2 : Nat) (A3 : Option Addr) (c3 : Nat) (A4 : Option Addr) (c4 : Nat) (A5 : Option Addr) (c5 : Nat) (A6 : Option Addr) (c6 : Nat), cs = #[.int .i64 (d.f 0).n, .string (d.f 1).s, .slice A2 (d.f 2).l.length c2, .slice A3 (d.f 3).l.length c3, .slice A4 (d.f 4).l.length c4, .slice A5 (d.f 5).l.length c5, .slice A6 (d.f 6).l.length c6] ∧ (-9223372036854775808 ≤ (d.f 0).n ∧ (d.f 0).n ≤ 9223372036854775807) ∧ (d.f 1).s.size ≤ maxLen ∧ ((d.f 2).l.length ≤ c2 ∧ c2 ≤ maxLen ∧ (A2 = none → c2 = 0) ∧ Sl Tryd.prog w (fun b => b < w.heap.size) k 9 A2 (d.f 2).l) ∧ ((d.f 3).l.length ≤ c3 ∧ c3 ≤ maxLen ∧ (A3 = none → c3 = 0) ∧ Sl Tryd.prog w (fun b => b < w.heap.size) k 101 A3 (d.f 3).l) ∧ ((d.f 4).l.length ≤ c4 ∧ c4 ≤ maxLen ∧ (A4 = none → c4 = 0) ∧ Sl Tryd.prog w (fun b => b < w.heap.size) k 64 A4 (d.f 4).l) ∧ ((d.f 5).l.length ≤ c5 ∧ c5 ≤ maxLen ∧ (A5 = none → c5 = 0) ∧ Sl Tryd.prog w (fun b => b < w.heap.size) k 112 A5 (d.f 5).l) ∧ ((d.f 6).l.length ≤ c6 ∧ c6 ≤ maxLen ∧ (A6 = none → c6 = 0) ∧ Sl Tryd.prog w (fun b => b < w.heap.size) k 132 A6 (d.f 6).l)
def AtK58 (k : Nat) (w : World) (b o : Nat) (d : D) : Prop := ∃ (A2 : Option Addr) (c2 : Nat) (A3 : Option Addr) (c3 : Nat) (A4 : Option Addr) (c4 : Nat) (A5 : Option Addr) (c5 : Nat) (A6 : Option Addr) (c6 : Nat), w.cell? ⟨b, o, none⟩ = some (.int .i64 (d.f 0).n) ∧ w.cell? ⟨b, o + 1, none⟩ = some (.string (d.f 1).s) ∧ w.cell? ⟨b, o + 2, none⟩ = some (.slice A2 (d.f 2).l.length c2) ∧ w.cell? ⟨b, o + 3, none⟩ = some (.slice A3 (d.f 3).l.length c3) ∧ w.cell? ⟨b, o + 4, none⟩ = some (.slice A4 (d.f 4).l.length c4) ∧ w.cell? ⟨b, o + 5, none⟩ = some (.slice A5 (d.f 5).l.length c5) ∧ w.cell? ⟨b, o + 6, none⟩ = some (.slice A6 (d.f 6).l.length c6) ∧ (-9223372036854775808 ≤ (d.f 0).n ∧ (d.f 0).n ≤ 9223372036854775807) ∧ (d.f 1).s.size ≤ maxLen ∧ ((d.f 2).l.length ≤ c2 ∧ c2 ≤ maxLen ∧ (A2 = none → c2 = 0) ∧ Sl Tryd.prog w (fun b => b < w.heap.size) k 9 A2 (d.f 2).l) ∧ ((d.f 3).l.length ≤ c3 ∧ c3 ≤ maxLen ∧ (A3 = none → c3 = 0) ∧ Sl Tryd.prog w (fun b => b < w.heap.size) k 101 A3 (d.f 3).l) ∧ ((d.f 4).l.length ≤ c4 ∧ c4 ≤ maxLen ∧ (A4 = none → c4 = 0) ∧ Sl Tryd.prog w (fun b => b < w.heap.size) k 64 A4 (d.f 4).l) ∧ ((d.f 5).l.length ≤ c5 ∧ c5 ≤ maxLen ∧ (A5 = none → c5 = 0) ∧ Sl Tryd.prog w (fun b => b < w.heap.size) k 112 A5 (d.f 5).l) ∧ ((d.f 6).l.length ≤ c6 ∧ c6 ≤ maxLen ∧ (A6 = none → c6 = 0) ∧ Sl Tryd.prog w (fun b => b < w.heap.size) k 132 A6 (d.f 6).l) ∧ Rep Tryd.prog w (fun b => b < w.heap.size) k 58 [.int .i64 (d.f 0).n, .string (d.f 1).s, .slice A2 (d.f 2).l.length c2, .slice A3 (d.f 3).l.length c3, .slice A4 (d.f 4).l.length c4, .slice A5 (d.f 5).l.length c5, .slice A6 (d.f 6).l.length c6] d
set_option maxRecDepth 100000 in
theorem inK58 {k : Nat} {w : World} {cs : Array Value} {d : D} (h : Rep Tryd.prog w (fun b => b < w.heap.size) k 58 cs.toList d) : InK58 k w cs d := by
  obtain ⟨A2, c2, A3, c3, A4, c4, A5, c5, A6, c6, e, r0, r1, ⟨s2a, s2b, s2c, s2⟩, ⟨s3a, s3b, s3c, s3⟩, ⟨s4a, s4b, s4c, s4⟩, ⟨s5a, s5b, s5c, s5⟩, ⟨s6a, s6b, s6c, s6⟩⟩ := open58_any h
  exact ⟨A2, c2, A3, c3, A4, c4, A5, c5, A6, c6, Array.ext' e, wfr r0, r1, ⟨s2a, s2b, s2c, s2⟩, ⟨s3a, s3b, s3c, s3⟩, ⟨s4a, s4b, s4c, s4⟩, ⟨s5a, s5b, s5c, s5⟩, ⟨s6a, s6b, s6c, s6⟩⟩
set_option maxRecDepth 100000 in
theorem atK58 {k : Nat} {w : World} {A : Option Addr} {l : List D} (h : Sl Tryd.prog w (fun b => b < w.heap.size) k 58 A l) (hp : 0 < l.length) : ∃ b off, A = some ⟨b, off, none⟩ ∧ b < w.heap.size ∧ ∀ i, i < l.length → AtK58 k w b (off + i * 7) (gD l i) := by
  obtain ⟨b, off, hA, hb, hi⟩ := h hp (by rw [cells58]; omega)
  refine ⟨b, off, hA, hb, fun i hil => ?_⟩
  obtain ⟨ys, y1, y2, y3⟩ := hi i hil
  rw [cells58] at y2
  have y4 := y3
  obtain ⟨A2, c2, A3, c3, A4, c4, A5, c5, A6, c6, rfl, r0, r1, ⟨s2a, s2b, s2c, s2⟩, ⟨s3a, s3b, s3c, s3⟩, ⟨s4a, s4b, s4c, s4⟩, ⟨s5a, s5b, s5c, s5⟩, ⟨s6a, s6b, s6c, s6⟩⟩ := open58_any y3
  exact ⟨A2, c2, A3, c3, A4, c4, A5, c5, A6, c6, y2 0 _ rfl, y2 1 _ rfl, y2 2 _ rfl, y2 3 _ rfl, y2 4 _ rfl, y2 5 _ rfl, y2 6 _ rfl, wfr r0, r1, ⟨s2a, s2b, s2c, s2⟩, ⟨s3a, s3b, s3c, s3⟩, ⟨s4a, s4b, s4c, s4⟩, ⟨s5a, s5b, s5c, s5⟩, ⟨s6a, s6b, s6c, s6⟩, y4⟩
def InK42 (k : Nat) (w : World) (cs : Array Value) (d : D) : Prop := ∃ (A0 : Option Addr) (c0 : Nat), cs = #[.slice A0 (d.f 0).l.length c0] ∧ ((d.f 0).l.length ≤ c0 ∧ c0 ≤ maxLen ∧ (A0 = none → c0 = 0) ∧ Sl Tryd.prog w (fun b => b < w.heap.size) k 58 A0 (d.f 0).l)
set_option maxRecDepth 100000 in
theorem inK42 {k : Nat} {w : World} {cs : Array Value} {d : D} (h : Rep Tryd.prog w (fun b => b < w.heap.size) k 42 cs.toList d) : InK42 k w cs d := by
  obtain ⟨A0, c0, e, ⟨s0a, s0b, s0c, s0⟩⟩ := open42_any h
  exact ⟨A0, c0, Array.ext' e, ⟨s0a, s0b, s0c, s0⟩⟩
end Go.Proofs.YtohneabalakmeaaDoor
namespace Go.Proofs.YtohneabalakmeaaDoor
open Go.RowKit
attribute [local irreducible] wpList Calls Code.wp
set_option maxRecDepth 100000 in
/-- more fuel gives no other text -/
theorem valF_more : ∀ (k : Nat) (d : D), Fits Tryd.prog k 49 d → valF (k + 1) d = valF k d
  | 0, d, h => h.elim
  | k + 1, d, h => by
    have hitem : ∀ i, i < (d.f 3).l.length → valF (k + 1) (gD (d.f 3).l i) = valF k (gD (d.f 3).l i) := by
      obtain ⟨x0, x1, x2, x3, x4, rfl, h3, -⟩ := fits49 h
      intro i hi
      cases k with
      | zero => exact (h3 i hi).elim
      | succ k => exact valF_more (k + 1) _ (h3 i hi).up
    by_cases q5 : (d.f 0).n = 5
    · rw [valF_list q5, valF_list q5]
      have e : listB (k + 1) d = listB k d := List.map_congr_left fun i hi => hitem i (List.mem_range.1 hi)
      rw [e]
    by_cases q6 : (d.f 0).n = 6
    · rw [valF_obj q6, valF_obj q6]
      have e : objB (k + 1) d = objB k d := List.map_congr_left fun i hi => by
        unfold pairB
        rw [hitem i (by have := List.mem_range.1 hi; omega)]
      rw [e]
    · unfold valF
      simp only [q5, q6, if_false]
theorem Fits.le {P : Program} {k m : Nat} {t : TypeId} {d : D} (h : Fits P k t d) (hm : k ≤ m) : Fits P m t d := by
  obtain ⟨i, rfl⟩ := Nat.exists_eq_add_of_le hm
  induction i with
  | zero => exact h
  | succ i ih => exact (ih (by omega)).up
set_option maxRecDepth 100000 in
theorem goodF_more : ∀ (k : Nat) (d : D), Fits Tryd.prog k 49 d → goodF k d → goodF (k + 1) d
  | 0, d, h, _ => h.elim
  | k + 1, d, h, hg => by
    obtain ⟨x0, x1, x2, x3, x4, rfl, h3, -⟩ := fits49 h
    refine ⟨hg.1, fun i hi => ?_⟩
    have hg2 := hg.2 i hi
    cases k with
    | zero => exact (h3 i hi).elim
    | succ k => exact goodF_more (k + 1) _ (h3 i hi).up hg2
/-- an argument: its name and its value -/
def argB (K : Nat) (a : D) : List UInt8 := (a.f 0).s.data.toList ++ [58, 32] ++ valF K (a.f 1)
def argsB (K : Nat) (x : D) : List (List UInt8) := (List.range (x.f 1).l.length).map fun i => argB K (gD (x.f 1).l i)
/-- a directive -/
def dirB (K : Nat) (x : D) : List UInt8 := [64] ++ (x.f 0).s.data.toList ++ (if (x.f 1).l.length = 0 then [] else [40] ++ Lib.join (argsB K x) commaB ++ [41])
def dirsL (K : Nat) (l : List D) : List (List UInt8) := (List.range l.length).map fun i => dirB K (gD l i)
def dirsB (K : Nat) (l : List D) : List UInt8 := Lib.join (dirsL K l) [32]
set_option maxRecDepth 100000 in
theorem argB_bound {K : Nat} {a : D} (h : Fits Tryd.prog (K + 1) 103 a) (hw : wideF (K + 1) (a.f 1)) : (argB (K + 1) a).length + 2 ≤ 8 * bulkD a ∧ (a.f 0).s.size < bulkD a ∧ bulkD (a.f 1) ≤ bulkD a ∧ Fits Tryd.prog (K + 1) 49 (a.f 1) := by
  obtain ⟨x0, x1, rfl, h1⟩ := fits103 h
  have h1 := h1.up
  have hv := valF_bound (K + 1) x1 h1 hw
  have hb : bulkD (D.obj [.str x0, x1]) = x0.size + 2 + bulkD x1 := by simp [bulkD, bulkL]; omega
  have e0 : ((D.obj [.str x0, x1]).f 0).s = x0 := rfl
  have e1 : (D.obj [.str x0, x1]).f 1 = x1 := rfl
  unfold argB
  rw [hb, e0, e1]
  have hsz : x0.data.toList.length = x0.size := by simp
  simp only [List.length_append, List.length_cons, List.length_nil]
  exact ⟨by omega, by omega, by omega, h1⟩
set_option maxRecDepth 100000 in
theorem dirB_bound {K : Nat} {x : D} (h : Fits Tryd.prog (K + 1) 101 x) (hw : ∀ i, i < (x.f 1).l.length → wideF (K + 1) ((gD (x.f 1).l i).f 1)) :
    (dirB (K + 1) x).length + 1 ≤ 8 * bulkD x ∧ (x.f 0).s.size < bulkD x ∧ bulkL (x.f 1).l ≤ bulkD x ∧ (∀ i, i < (x.f 1).l.length → Fits Tryd.prog (K + 1) 103 (gD (x.f 1).l i)) ∧ (Lib.join (argsB (K + 1) x) commaB).length ≤ 8 * bulkL (x.f 1).l := by
  obtain ⟨x0, x1, rfl, h1⟩ := fits101 h
  have e0 : ((D.obj [.str x0, .list x1]).f 0).s = x0 := rfl
  have e1 : ((D.obj [.str x0, .list x1]).f 1).l = x1 := rfl
  rw [e1] at hw
  have hb : bulkD (D.obj [.str x0, .list x1]) = x0.size + 2 + bulkL x1 + 1 := by simp [bulkD, bulkL]; omega
  have hf : ∀ i, i < x1.length → Fits Tryd.prog (K + 1) 103 (gD x1 i) := fun i hi => by
    cases K with
    | zero => exact (h1 i hi).elim
    | succ K => exact (h1 i hi).up.up
  have hj := join_range x1.length x1.length (fun i => argB (K + 1) (gD x1 i)) commaB (fun i => bulkD (gD x1 i)) (Nat.le_refl _) (fun i hi => (argB_bound (hf i hi) (hw i hi)).1)
  rw [← bulkL_range] at hj
  unfold dirB argsB
  rw [hb, e0, e1]
  have hsz : x0.data.toList.length = x0.size := by simp
  refine ⟨?_, by omega, by omega, hf, hj⟩
  split
  · simp only [List.length_append, List.length_cons, List.length_nil]; omega
  · simp only [List.length_append, List.length_cons, List.length_nil]; omega
/-- what the printing of directives asks -/
structure Dp (K : Nat) (A : Option Addr) (l : List D) (w0 : World) : Prop where
  sl : Sl Tryd.prog w0 (fun b => b < w0.heap.size) (K + 1) 101 A l
  fits : ∀ i, i < l.length → Fits Tryd.prog (K + 1) 101 (gD l i)
  bulk : bulkL l ≤ 1048576
  good : ∀ i, i < l.length → ∀ j, j < ((gD l i).f 1).l.length → goodF (K + 1) ((gD ((gD l i).f 1).l j).f 1)
set_option maxRecDepth 100000 in
theorem Dp.wide {K : Nat} {A : Option Addr} {l : List D} {w0 : World} (h : Dp K A l w0) : ∀ i, i < l.length → ∀ j, j < ((gD l i).f 1).l.length → wideF (K + 1) ((gD ((gD l i).f 1).l j).f 1) := fun i hi j hj => by
  obtain ⟨b, off, _, _, hat⟩ := atK101 h.sl (by omega)
  obtain ⟨A1, c1, -, -, -, ⟨-, -, -, s1⟩, -⟩ := hat i hi
  obtain ⟨b2, off2, _, _, hat2⟩ := atK103 s1 (by omega)
  obtain ⟨A4, c4, A5, c5, -, -, -, -, -, -, -, -, -, -, -, -, r⟩ := hat2 j hj
  exact wide_of _ #[_, _, _, _, _] _ _ (partK103_1 r)
set_option maxRecDepth 100000 in
theorem dirs_bound {K : Nat} {A : Option Addr} {l : List D} {w0 : World} (h : Dp K A l w0) : (dirsB (K + 1) l).length ≤ 8 * bulkL l ∧ l.length ≤ bulkL l := by
  constructor
  · have := join_range l.length l.length (fun i => dirB (K + 1) (gD l i)) [32] (fun i => bulkD (gD l i)) (Nat.le_refl _) (fun i hi => (dirB_bound (h.fits i hi) (h.wide i hi)).1)
    rwa [← bulkL_range] at this
  · rw [bulkL_range]
    have : ∀ n, n ≤ ((List.range n).map fun i => bulkD (gD l i)).sum := fun n => by
      induction n with
      | zero => exact Nat.zero_le _
      | succ n ih =>
        rw [List.range_succ, List.map_append, List.sum_append]
        have : 1 ≤ bulkD (gD l n) := by cases gD l n <;> simp [bulkD]
        simp; omega
    exact this _
end Go.Proofs.YtohneabalakmeaaDoor
namespace Go.Proofs.YtohneabalakmeaaDoor
open Go.RowKit
attribute [local irreducible] wpList Calls Code.wp
theorem arg_bs (K : Nat) (x : D) : bs (argB K x) = (x.f 0).s ++ ⟨#[58, 32]⟩ ++ bs (valF K (x.f 1)) := by
  have p1 := bs_append ((x.f 0).s.data.toList ++ [58, 32]) (valF K (x.f 1))
  have p2 := bs_append (x.f 0).s.data.toList [58, 32]
  rw [bs_self] at p2
  unfold argB
  rw [← p1, ← p2]; rfl
theorem dir_bs0 (K : Nat) (x : D) (h : (x.f 1).l.length = 0) : bs (dirB K x) = ⟨#[64]⟩ ++ (x.f 0).s := by
  have p1 := bs_append [64] (x.f 0).s.data.toList
  rw [bs_self] at p1
  unfold dirB
  rw [if_pos h, List.append_nil, ← p1]; rfl
theorem dir_bs1 (K : Nat) (x : D) (h : ¬ (x.f 1).l.length = 0) : bs (dirB K x) = ⟨#[64]⟩ ++ (x.f 0).s ++ (⟨#[40]⟩ ++ bs (Lib.join (argsB K x) commaB) ++ ⟨#[41]⟩) := by
  have p1 := bs_append [64] (x.f 0).s.data.toList
  rw [bs_self] at p1
  have p2 := bs_append [40] (Lib.join (argsB K x) commaB)
  have p3 := bs_append ([40] ++ Lib.join (argsB K x) commaB) [41]
  have p4 := bs_append ([64] ++ (x.f 0).s.data.toList) ([40] ++ Lib.join (argsB K x) commaB ++ [41])
  unfold dirB
  rw [if_neg h, ← p4, ← p3, ← p2, ← p1]; rfl
set_option maxRecDepth 100000 in
set_option maxHeartbeats 16000000 in
theorem dirsP (K : Nat) (A : Option Addr) (l : List D) (c : Nat) (w0 w : World) (he : EnvT w) (h0 : Below w0.heap.size w0 w) (h : Dp K A l w0) :
    Calls Tryd.prog 46 #[.slice A l.length c] w (St (dirsB (K + 1) l) w) := by
  obtain ⟨hb1, hb2⟩ := dirs_bound h
  have hbk := h.bulk
  have HD := Lib.hid h; have HE := Lib.hid he; have H0 := Lib.hid h0
  have HB1 := Lib.hid hb1
  have hln : l.length ≤ 1048576 := by omega
  clear h he h0 hb1 hb2
  go_enter Tryd.func46, Tryd.ntmps46
  go_wp2
  go_loopg [3, 12] l.length (fun j v i wr => ∃ m : Nat, m + j = l.length ∧ i = .int .i64 m ∧ wr.ownsRow w.heap.size 9 1 v m (strs ((List.range m).map fun i => dirB (K + 1) (gD l i))) ∧ Below w.heap.size w wr)
  case atStart => exact ⟨0, by omega, rfl, own_nil _ _ _, Below.refl _ _⟩
  case round =>
    obtain ⟨m, hmj, rfl, hown, hb⟩ := hrel
    have Hb := Lib.hid hb; have Hown := Lib.hid hown
    have Hmj := Lib.hid hmj; have hmn : m ≤ l.length := by omega
    clear hmj hb hown
    by_cases hlt : m < l.length
    · obtain ⟨b, off, rfl, hI, hat⟩ := atK101 HD.out.sl (by omega)
      obtain ⟨A1, c1, e0, e1, -, ⟨-, -, -, s1⟩, -⟩ := hat m hlt
      obtain ⟨d1, d2, d3, d4, d5⟩ := dirB_bound (HD.out.fits m hlt) (HD.out.wide m hlt)
      have hbm := bulk_mem hlt
      have hgood := HD.out.good m hlt
      have hwide := HD.out.wide m hlt
      have S1 := Lib.hid s1; have D4 := Lib.hid d4; have HG := Lib.hid hgood; have HWd := Lib.hid hwide
      have hnm : ((gD l m).f 0).s.size ≤ 1048576 := by omega
      have hbk2 : bulkL ((gD l m).f 1).l ≤ 1048576 := by omega
      have hn1 : ((gD l m).f 1).l.length ≤ 1048576 := by
        have : ∀ n, n ≤ ((List.range n).map fun i => bulkD (gD ((gD l m).f 1).l i)).sum := fun n => by
          induction n with
          | zero => exact Nat.zero_le _
          | succ n ih =>
            rw [List.range_succ, List.map_append, List.sum_append]
            have : 1 ≤ bulkD (gD ((gD l m).f 1).l n) := by cases gD ((gD l m).f 1).l n <;> simp [bulkD]
            simp; omega
        have := this ((gD l m).f 1).l.length
        rw [← bulkL_range] at this; omega
      have hjn : (bs (Lib.join (argsB (K + 1) (gD l m)) commaB)).size ≤ 8388608 := by rw [bs_size]; omega
      have HDB0 := Lib.hid (dir_bs0 (K + 1) (gD l m)); have HDB1 := Lib.hid (dir_bs1 (K + 1) (gD l m))
      clear hat s1 d1 d2 d3 d4 d5 hgood hwide hbm
      have hB := H0.out.trans (Hb.out.mono H0.out.size)
      replace e0 := (hB.cell (p := ⟨b, _, none⟩) hI).trans e0
      replace e1 := (hB.cell (p := ⟨b, _, none⟩) hI).trans e1
      clear hB
      obtain ⟨wo, rfl⟩ : ∃ wo : World, wo = wr := ⟨_, rfl⟩
      go_wp2
      clear e0 e1
      have hb2 : Below w.heap.size w (wo.alloc (.cells #[.string ((gD l m).f 0).s, .slice A1 ((gD l m).f 1).l.length c1] 101)) := Hb.out.alloc Hb.out.size _
      have ho2 := Hown.out.alloc (.cells #[.string ((gD l m).f 0).s, .slice A1 ((gD l m).f 1).l.length c1] 101)
      have HBb := Lib.hid hb2; have HOb := Lib.hid ho2
      clear hb2 ho2
      generalize wo.alloc (.cells #[.string ((gD l m).f 0).s, .slice A1 ((gD l m).f 1).l.length c1] 101) = wb at *
      go_loopg [7, 22] ((gD l m).f 1).l.length (fun j v i wi => ∃ k : Nat, k + j = ((gD l m).f 1).l.length ∧ i = .int .i64 k ∧ wi.ownsRow wb.heap.size 9 1 v k (strs ((List.range k).map fun i => argB (K + 1) (gD ((gD l m).f 1).l i))) ∧ Below wb.heap.size wb wi)
      case atStart => exact ⟨0, by omega, rfl, own_nil _ _ _, Below.refl _ _⟩
      case round =>
        obtain ⟨k, hkj, rfl, hown, hb⟩ := hrel
        have Hbi := Lib.hid hb; have Howi := Lib.hid hown
        have Hkj := Lib.hid hkj; have hkn : k ≤ ((gD l m).f 1).l.length := by omega
        clear hkj hb hown
        by_cases hlk : k < ((gD l m).f 1).l.length
        · obtain ⟨ba, offa, rfl, hIa, hata⟩ := atK103 S1.out (by omega)
          obtain ⟨A4, c4, A5, c5, e0, e1, e2, e3, e4, e5, -, -, -, -, -, -, y⟩ := hata k hlk
          have HVp := Lib.hid (show Vp (K + 1) #[.int .i64 (((gD ((gD l m).f 1).l k).f 1).f 0).n, .int .i64 (((gD ((gD l m).f 1).l k).f 1).f 1).n, .string (((gD ((gD l m).f 1).l k).f 1).f 2).s, .slice A4 (((gD ((gD l m).f 1).l k).f 1).f 3).l.length c4, .slice A5 (((gD ((gD l m).f 1).l k).f 1).f 4).l.length c5] (((gD ((gD l m).f 1).l k)).f 1) w0 from ⟨partK103_1 y, (argB_bound (D4.out k hlk) (HWd.out k hlk)).2.2.2, by have := (argB_bound (D4.out k hlk) (HWd.out k hlk)).2.2.1; have := bulk_mem hlk; omega, HG.out k hlk⟩)
          have hks : (((gD ((gD l m).f 1).l k)).f 0).s.size ≤ 1048576 := by have := (argB_bound (D4.out k hlk) (HWd.out k hlk)).2.1; have := bulk_mem hlk; omega
          have hvs : (bs (valF (K + 1) (((gD ((gD l m).f 1).l k)).f 1))).size ≤ 8388608 := by rw [bs_size]; exact valF_size HVp.out.fits (HWd.out k hlk) HVp.out.bulk
          clear hata y
          have hB := H0.out.trans ((HBb.out.trans (Hbi.out.mono HBb.out.size)).mono H0.out.size)
          replace e0 := (hB.cell (p := ⟨ba, _, none⟩) hIa).trans e0
          replace e1 := (hB.cell (p := ⟨ba, _, none⟩) hIa).trans e1
          replace e2 := (hB.cell (p := ⟨ba, _, none⟩) hIa).trans e2
          replace e3 := (hB.cell (p := ⟨ba, _, none⟩) hIa).trans e3
          replace e4 := (hB.cell (p := ⟨ba, _, none⟩) hIa).trans e4
          replace e5 := (hB.cell (p := ⟨ba, _, none⟩) hIa).trans e5
          clear hB
          go_upto_region 10 with (fail)
          clear e0 e1 e2 e3 e4 e5
          have hxa : (wr.alloc (.cells #[.string ((gD ((gD l m).f 1).l k).f 0).s, .int .i64 (((gD ((gD l m).f 1).l k).f 1).f 0).n, .int .i64 (((gD ((gD l m).f 1).l k).f 1).f 1).n, .string (((gD ((gD l m).f 1).l k).f 1).f 2).s, .slice A4 (((gD ((gD l m).f 1).l k).f 1).f 3).l.length c4, .slice A5 (((gD ((gD l m).f 1).l k).f 1).f 4).l.length c5] 103)).heap[wr.heap.size]? = some (.cells #[.string ((gD ((gD l m).f 1).l k).f 0).s, .int .i64 (((gD ((gD l m).f 1).l k).f 1).f 0).n, .int .i64 (((gD ((gD l m).f 1).l k).f 1).f 1).n, .string (((gD ((gD l m).f 1).l k).f 1).f 2).s, .slice A4 (((gD ((gD l m).f 1).l k).f 1).f 3).l.length c4, .slice A5 (((gD ((gD l m).f 1).l k).f 1).f 4).l.length c5] 103 (0, 0)) := heap_at rfl
          have hba : Below wb.heap.size wb (wr.alloc (.cells #[.string ((gD ((gD l m).f 1).l k).f 0).s, .int .i64 (((gD ((gD l m).f 1).l k).f 1).f 0).n, .int .i64 (((gD ((gD l m).f 1).l k).f 1).f 1).n, .string (((gD ((gD l m).f 1).l k).f 1).f 2).s, .slice A4 (((gD ((gD l m).f 1).l k).f 1).f 3).l.length c4, .slice A5 (((gD ((gD l m).f 1).l k).f 1).f 4).l.length c5] 103)) := Hbi.out.alloc Hbi.out.size _
          have hoa := Howi.out.alloc (.cells #[.string ((gD ((gD l m).f 1).l k).f 0).s, .int .i64 (((gD ((gD l m).f 1).l k).f 1).f 0).n, .int .i64 (((gD ((gD l m).f 1).l k).f 1).f 1).n, .string (((gD ((gD l m).f 1).l k).f 1).f 2).s, .slice A4 (((gD ((gD l m).f 1).l k).f 1).f 3).l.length c4, .slice A5 (((gD ((gD l m).f 1).l k).f 1).f 4).l.length c5] 103)
          have HNA := Lib.hid (show ∀ y, u7.ownBlock = some y → y ≠ wr.heap.size from fun y hy => by have := (Howi.out.lt y hy).2; omega)
          have l2 := heap_lt hxa
          generalize wr.alloc (.cells #[.string ((gD ((gD l m).f 1).l k).f 0).s, .int .i64 (((gD ((gD l m).f 1).l k).f 1).f 0).n, .int .i64 (((gD ((gD l m).f 1).l k).f 1).f 1).n, .string (((gD ((gD l m).f 1).l k).f 1).f 2).s, .slice A4 (((gD ((gD l m).f 1).l k).f 1).f 3).l.length c4, .slice A5 (((gD ((gD l m).f 1).l k).f 1).f 4).l.length c5] 103) = wa at *
          generalize wr.heap.size = bx at *
          have HXA := Lib.hid hxa; have HBA := Lib.hid hba; have HOA := Lib.hid hoa
          have HWA := Lib.hid (HBb.out.trans (hba.mono HBb.out.size))
          clear hxa hba hoa
          have HSS := Lib.hid (fun (w' : World) (h : w'.heap[bx]? = some (.cells #[.string ((gD ((gD l m).f 1).l k).f 0).s, .int .i64 (((gD ((gD l m).f 1).l k).f 1).f 0).n, .int .i64 (((gD ((gD l m).f 1).l k).f 1).f 1).n, .string (((gD ((gD l m).f 1).l k).f 1).f 2).s, .slice A4 (((gD ((gD l m).f 1).l k).f 1).f 3).l.length c4, .slice A5 (((gD ((gD l m).f 1).l k).f 1).f 4).l.length c5] 103 (0, 0))) => (⟨cell_heap h rfl, cell_heap h rfl, cell_heap h rfl, cell_heap h rfl, cell_heap h rfl, cell_heap h rfl⟩ : w'.cell? ⟨bx, 0, none⟩ = some (.string ((gD ((gD l m).f 1).l k).f 0).s) ∧ w'.cell? ⟨bx, 1, none⟩ = some (.int .i64 (((gD ((gD l m).f 1).l k).f 1).f 0).n) ∧ w'.cell? ⟨bx, 2, none⟩ = some (.int .i64 (((gD ((gD l m).f 1).l k).f 1).f 1).n) ∧ w'.cell? ⟨bx, 3, none⟩ = some (.string (((gD ((gD l m).f 1).l k).f 1).f 2).s) ∧ w'.cell? ⟨bx, 4, none⟩ = some (.slice A4 (((gD ((gD l m).f 1).l k).f 1).f 3).l.length c4) ∧ w'.cell? ⟨bx, 5, none⟩ = some (.slice A5 (((gD ((gD l m).f 1).l k).f 1).f 4).l.length c5)))
          have HPB := Lib.hid (arg_bs (K + 1) (gD ((gD l m).f 1).l k))
          have y1 : (((gD ((gD l m).f 1).l k).f 0).s ++ (⟨#[58, 32]⟩ : ByteArray)).size = ((gD ((gD l m).f 1).l k).f 0).s.size + 2 := by rw [ByteArray.size_append]; rfl
          have r1 := fun (w : World) => run_string_add_sum (P := Tryd.prog) (w := w) ((gD ((gD l m).f 1).l k).f 0).s ⟨#[58, 32]⟩ (by rw [← ByteArray.size_append]; omega)
          have r2 := fun (w : World) => run_string_add_sum (P := Tryd.prog) (w := w) (((gD ((gD l m).f 1).l k).f 0).s ++ ⟨#[58, 32]⟩) (bs (valF (K + 1) ((gD ((gD l m).f 1).l k).f 1))) (by omega)
          clear y1
          go_wp2
          go_region_held3 (fun w' => w'.cell? ⟨bx, 0, none⟩ = some (.string ((gD ((gD l m).f 1).l k).f 0).s) ∧ w'.cell? ⟨bx, 1, none⟩ = some (.int .i64 (((gD ((gD l m).f 1).l k).f 1).f 0).n) ∧ w'.cell? ⟨bx, 2, none⟩ = some (.int .i64 (((gD ((gD l m).f 1).l k).f 1).f 1).n) ∧ w'.cell? ⟨bx, 3, none⟩ = some (.string (((gD ((gD l m).f 1).l k).f 1).f 2).s) ∧ w'.cell? ⟨bx, 4, none⟩ = some (.slice A4 (((gD ((gD l m).f 1).l k).f 1).f 3).l.length c4) ∧ w'.cell? ⟨bx, 5, none⟩ = some (.slice A5 (((gD ((gD l m).f 1).l k).f 1).f 4).l.length c5))
            (first | exact HSS.out _ HXA.out | exact HSS.out _ Hx2.out | exact HSS.out _ (heap_under Hx2.out) | exact HSS.out _ Hx3.out)
            (first
              | (go_at_call 42; refine (valueP (K + 1) _ _ w0 _ (HE.out.below HWA.out.drew) (H0.out.trans (HWA.out.drew.mono H0.out.size)) HVp.out).mono ?_; rintro e w2 ⟨rfl, b2⟩; have Hown2 := Lib.hid (own_below HOA.out ((Below.refl wa.heap.size wa).drew.trans b2)); have Hx2 := Lib.hid ((b2.block bx l2).trans HXA.out); have Hsz2 := Lib.hid b2.size; have Hbw := Lib.hid (HBA.out.drew.trans (b2.mono HBA.out.size)); clear b2)
              | (rw [if_pos (show Region.wanted _ _ = true from rfl)]; refine wp_new0 (o := ⟨some 35, _, _, _, _, _⟩) rfl (.tmp 26) (.tmp 34) 47 rfl wb.heap.size 9 _ 1 16 Tryd.underlying47 strinfo rfl (by decide) _ _ _ Hown2.out #[.string (((gD ((gD l m).f 1).l k).f 0).s ++ ⟨#[58, 32]⟩ ++ bs (valF (K + 1) ((gD ((gD l m).f 1).l k).f 1)))] 1 rfl rfl ?_ ?_ ?_ ?_ ?_ ?_; rfl; rfl; (simp only [maxLen]; omega); omega; exact Hbw.out.size; intro v' w' hown' hg' hsz' hat' hsh'; have Hx3 := Lib.hid ((hg'.block bx (Nat.lt_of_lt_of_le l2 Hsz2.out) (fun e => HNA.out bx e.symm rfl)).trans Hx2.out); have Hbn := Lib.hid (Hbw.out.grown hg' Hbw.out.size (fun y hy => (Hown2.out.lt y hy).1)); have Hon := Lib.hid hown'; clear hown' hg' hsz' hat' hsh'))
          have HO := Lib.hid (show w'.ownsRow wb.heap.size 9 1 v' (k + 1) (strs ((List.range (k + 1)).map fun i => argB (K + 1) (gD ((gD l m).f 1).l i))) by rw [← strs_range, HPB.out]; exact Hon.out)
          go_wp2
          go_roundg (((gD l m).f 1).l.length - k - 1)
          case measure => have := Hkj.out; omega
          case rel => exact ⟨k + 1, by have := Hkj.out; omega, by go_num, HO.out, Hbn.out⟩
        · obtain rfl : k = ((gD l m).f 1).l.length := by omega
          have HWi := Lib.hid (HBb.out.trans (Hbi.out.mono HBb.out.size))
          have HOw := Lib.hid (own_below HOb.out Hbi.out)
          obtain ⟨-, Aa, ca, rfl, -, -, -⟩ := own_strs Howi.out
          by_cases hz : ((gD l m).f 1).l.length = 0
          · have HPB := Lib.hid (HDB0.out hz)
            go_wp2_with (at_builtin; refine append_new (o := ⟨some 49, _, _, _, _, _⟩) rfl (.tmp 46) (.tmp 48) 47 rfl w.heap.size 9 _ 1 16 Tryd.underlying47 strinfo rfl (by decide) _ _ _ HOw.out _ 1 rfl rfl rfl rfl (by simp only [maxLen]; omega) (by omega) HWi.out.size ?_; intro v' w' hown' hg' hsz' hat' hsh')
            have HO := Lib.hid (show w'.ownsRow w.heap.size 9 1 v' (m + 1) (strs ((List.range (m + 1)).map fun i => dirB (K + 1) (gD l i))) by rw [← strs_range, HPB.out]; exact hown')
            have HBn := Lib.hid (HWi.out.grown hg' HWi.out.size (fun y hy => (HOw.out.lt y hy).1))
            clear hown' hg' hsz' hat' hsh'
            go_wp2
            go_roundg (l.length - m - 1)
            case measure => have := Hmj.out; omega
            case rel => exact ⟨m + 1, by have := Hmj.out; omega, by go_num, HO.out, HBn.out⟩
          · have HPB := Lib.hid (HDB1.out hz)
            have hpos : 0 < ((gD l m).f 1).l.length := by omega
            have HJ := Lib.hid (strJoinP commaB wr Howi.out (by omega) (by rw [bs_size] at hjn; show (Lib.join (argsB (K + 1) (gD l m)) commaB).length ≤ _; omega))
            have HJ : Hid (Calls Tryd.prog 76 #[_, .string ⟨#[44, 32]⟩] wr (fun e w' => e = .returned (.string (bs (Lib.join (argsB (K + 1) (gD l m)) commaB))) ∧ Below wr.heap.size wr w')) := HJ
            generalize bs (Lib.join (argsB (K + 1) (gD l m)) commaB) = jn at *
            go_wp2_with fail
            refine HJ.out.mono ?_
            rintro e w2 ⟨rfl, b2⟩
            have HW2 := Lib.hid (HWi.out.trans (b2.mono HWi.out.size))
            have HO2 := Lib.hid (own_below HOw.out b2)
            clear b2
            go_wp2_with (at_builtin; refine append_new (o := ⟨some 49, _, _, _, _, _⟩) rfl (.tmp 46) (.tmp 48) 47 rfl w.heap.size 9 _ 1 16 Tryd.underlying47 strinfo rfl (by decide) _ _ _ HO2.out _ 1 rfl rfl rfl rfl (by simp only [maxLen]; omega) (by omega) HW2.out.size ?_; intro v' w' hown' hg' hsz' hat' hsh')
            have HO := Lib.hid (show w'.ownsRow w.heap.size 9 1 v' (m + 1) (strs ((List.range (m + 1)).map fun i => dirB (K + 1) (gD l i))) by rw [← strs_range, HPB.out]; exact hown')
            have HBn := Lib.hid (HW2.out.grown hg' HW2.out.size (fun y hy => (HO2.out.lt y hy).1))
            clear hown' hg' hsz' hat' hsh'
            go_wp2
            go_roundg (l.length - m - 1)
            case measure => have := Hmj.out; omega
            case rel => exact ⟨m + 1, by have := Hmj.out; omega, by go_num, HO.out, HBn.out⟩
    · obtain rfl : m = l.length := by omega
      have hl2 := HB1.out
      have HJ := Lib.hid (strJoinP [32] wr Hown.out (by omega) (by show (dirsB (K + 1) l).length ≤ _; omega))
      have HJ : Hid (Calls Tryd.prog 76 #[_, .string ⟨#[32]⟩] wr (fun e w' => e = .returned (.string (bs (dirsB (K + 1) l))) ∧ Below wr.heap.size wr w')) := HJ
      clear hl2
      go_wp2_with fail
      refine HJ.out.mono ?_
      rintro e w2 ⟨rfl, b2⟩
      have Hb2 := Lib.hid (Hb.out.trans (b2.mono Hb.out.size)); clear b2
      go_wp2
      go_ret
      exact ⟨rfl, Hb2.out⟩
end Go.Proofs.YtohneabalakmeaaDoor
namespace Go.Proofs.YtohneabalakmeaaDoor
open Go.RowKit
attribute [local irreducible] wpList Calls Code.wp
theorem dir_bs2 (K : Nat) (x : D) (h : ¬ (x.f 1).l.length = 0) : bs (dirB K x) = ⟨#[64]⟩ ++ (x.f 0).s ++ ⟨#[40]⟩ ++ bs (Lib.join (argsB K x) commaB) ++ ⟨#[41]⟩ := by
  rw [dir_bs1 K x h]
  simp only [ByteArray.append_assoc]
set_option maxRecDepth 100000 in
set_option maxHeartbeats 16000000 in
theorem dirsR (K : Nat) (A : Option Addr) (l : List D) (c : Nat) (w0 w : World) (h0 : Below w0.heap.size w0 w) (h : Dp K A l w0) :
    Calls Tryd.prog 47 #[.slice A l.length c] w (St (dirsB (K + 1) l) w) := by
  obtain ⟨hb1, hb2⟩ := dirs_bound h
  have hbk := h.bulk
  have HD := Lib.hid h; have H0 := Lib.hid h0
  have HB1 := Lib.hid hb1
  have hln : l.length ≤ 1048576 := by omega
  clear h h0 hb1 hb2
  go_enter Tryd.func47, Tryd.ntmps47
  go_wp2
  go_loopg [3, 4] l.length (fun j v i wr => ∃ m : Nat, m + j = l.length ∧ i = .int .i64 m ∧ wr.ownsRow w.heap.size 9 1 v m (strs ((List.range m).map fun i => dirB (K + 1) (gD l i))) ∧ Below w.heap.size w wr)
  case atStart => exact ⟨0, by omega, rfl, own_nil _ _ _, Below.refl _ _⟩
  case round =>
    obtain ⟨m, hmj, rfl, hown, hb⟩ := hrel
    have Hb := Lib.hid hb; have Hown := Lib.hid hown
    have Hmj := Lib.hid hmj; have hmn : m ≤ l.length := by omega
    clear hmj hb hown
    by_cases hlt : m < l.length
    · obtain ⟨b, off, rfl, hI, hat⟩ := atK101 HD.out.sl (by omega)
      obtain ⟨A1, c1, e0, e1, -, ⟨-, -, -, s1⟩, -⟩ := hat m hlt
      obtain ⟨d1, d2, d3, d4, d5⟩ := dirB_bound (HD.out.fits m hlt) (HD.out.wide m hlt)
      have hbm := bulk_mem hlt
      have hgood := HD.out.good m hlt
      have hwide := HD.out.wide m hlt
      have S1 := Lib.hid s1; have D4 := Lib.hid d4; have HG := Lib.hid hgood; have HWd := Lib.hid hwide
      have hnm : ((gD l m).f 0).s.size ≤ 1048576 := by omega
      have hbk2 : bulkL ((gD l m).f 1).l ≤ 1048576 := by omega
      have hn1 : ((gD l m).f 1).l.length ≤ 1048576 := by
        have : ∀ n, n ≤ ((List.range n).map fun i => bulkD (gD ((gD l m).f 1).l i)).sum := fun n => by
          induction n with
          | zero => exact Nat.zero_le _
          | succ n ih =>
            rw [List.range_succ, List.map_append, List.sum_append]
            have : 1 ≤ bulkD (gD ((gD l m).f 1).l n) := by cases gD ((gD l m).f 1).l n <;> simp [bulkD]
            simp; omega
        have := this ((gD l m).f 1).l.length
        rw [← bulkL_range] at this; omega
      have hjn : (bs (Lib.join (argsB (K + 1) (gD l m)) commaB)).size ≤ 8388608 := by rw [bs_size]; omega
      have HDB0 := Lib.hid (dir_bs0 (K + 1) (gD l m)); have HDB1 := Lib.hid (dir_bs2 (K + 1) (gD l m))
      clear hat s1 d1 d2 d3 d4 d5 hgood hwide hbm
      have hB := H0.out.trans (Hb.out.mono H0.out.size)
      have G0 := Lib.hid e0; have G1 := Lib.hid e1
      replace e0 := (hB.cell (p := ⟨b, _, none⟩) hI).trans e0
      replace e1 := (hB.cell (p := ⟨b, _, none⟩) hI).trans e1
      clear hB
      obtain ⟨wo, rfl⟩ : ∃ wo : World, wo = wr := ⟨_, rfl⟩
      go_wp2
      clear e0 e1
      have HBb := Lib.hid Hb.out; have HOb := Lib.hid Hown.out
      clear Hb Hown
      obtain ⟨wb, rfl⟩ : ∃ wb : World, wb = wo := ⟨_, rfl⟩
      go_loopg [5, 6] ((gD l m).f 1).l.length (fun j v i wi => ∃ k : Nat, k + j = ((gD l m).f 1).l.length ∧ i = .int .i64 k ∧ wi.ownsRow wb.heap.size 9 1 v k (strs ((List.range k).map fun i => argB (K + 1) (gD ((gD l m).f 1).l i))) ∧ Below wb.heap.size wb wi)
      case atStart => exact ⟨0, by omega, rfl, own_nil _ _ _, Below.refl _ _⟩
      case round =>
        obtain ⟨k, hkj, rfl, hown, hb⟩ := hrel
        have Hbi := Lib.hid hb; have Howi := Lib.hid hown
        have Hkj := Lib.hid hkj; have hkn : k ≤ ((gD l m).f 1).l.length := by omega
        clear hkj hb hown
        by_cases hlk : k < ((gD l m).f 1).l.length
        · obtain ⟨ba, offa, rfl, hIa, hata⟩ := atK103 S1.out (by omega)
          obtain ⟨A4, c4, A5, c5, e0, e1, e2, e3, e4, e5, -, -, -, -, -, -, y⟩ := hata k hlk
          have HVp := Lib.hid (show Vp (K + 1) #[.int .i64 (((gD ((gD l m).f 1).l k).f 1).f 0).n, .int .i64 (((gD ((gD l m).f 1).l k).f 1).f 1).n, .string (((gD ((gD l m).f 1).l k).f 1).f 2).s, .slice A4 (((gD ((gD l m).f 1).l k).f 1).f 3).l.length c4, .slice A5 (((gD ((gD l m).f 1).l k).f 1).f 4).l.length c5] (((gD ((gD l m).f 1).l k)).f 1) w0 from ⟨partK103_1 y, (argB_bound (D4.out k hlk) (HWd.out k hlk)).2.2.2, by have := (argB_bound (D4.out k hlk) (HWd.out k hlk)).2.2.1; have := bulk_mem hlk; omega, HG.out k hlk⟩)
          have hks : (((gD ((gD l m).f 1).l k)).f 0).s.size ≤ 1048576 := by have := (argB_bound (D4.out k hlk) (HWd.out k hlk)).2.1; have := bulk_mem hlk; omega
          have hvs : (bs (valF (K + 1) (((gD ((gD l m).f 1).l k)).f 1))).size ≤ 8388608 := by rw [bs_size]; exact valF_size HVp.out.fits (HWd.out k hlk) HVp.out.bulk
          clear hata y
          have HWA := Lib.hid (HBb.out.trans (Hbi.out.mono HBb.out.size))
          have hB := H0.out.trans (HWA.out.mono H0.out.size)
          have g1 := (hB.cell (p := ⟨b, _, none⟩) hI).trans G1.out
          have F0 := Lib.hid e0; have F1 := Lib.hid e1; have F2 := Lib.hid e2; have F3 := Lib.hid e3; have F4 := Lib.hid e4; have F5 := Lib.hid e5
          clear e0 e1 e2 e3 e4 e5
          clear hB
          have HSS := Lib.hid (fun (w' : World) (h : Below w.heap.size w w') => (⟨((H0.out.trans (h.mono H0.out.size)).cell (p := ⟨b, _, none⟩) hI).trans G1.out, ((H0.out.trans (h.mono H0.out.size)).cell (p := ⟨ba, _, none⟩) hIa).trans F0.out, ((H0.out.trans (h.mono H0.out.size)).cell (p := ⟨ba, _, none⟩) hIa).trans F1.out, ((H0.out.trans (h.mono H0.out.size)).cell (p := ⟨ba, _, none⟩) hIa).trans F2.out, ((H0.out.trans (h.mono H0.out.size)).cell (p := ⟨ba, _, none⟩) hIa).trans F3.out, ((H0.out.trans (h.mono H0.out.size)).cell (p := ⟨ba, _, none⟩) hIa).trans F4.out, ((H0.out.trans (h.mono H0.out.size)).cell (p := ⟨ba, _, none⟩) hIa).trans F5.out⟩ : w'.cell? ⟨b, off + m * 2 + 1, none⟩ = some (.slice (some ⟨ba, offa, none⟩) ((gD l m).f 1).l.length c1) ∧ w'.cell? ⟨ba, offa + k * 6, none⟩ = some (.string ((gD ((gD l m).f 1).l k).f 0).s) ∧ w'.cell? ⟨ba, offa + k * 6 + 1, none⟩ = some (.int .i64 (((gD ((gD l m).f 1).l k).f 1).f 0).n) ∧ w'.cell? ⟨ba, offa + k * 6 + 2, none⟩ = some (.int .i64 (((gD ((gD l m).f 1).l k).f 1).f 1).n) ∧ w'.cell? ⟨ba, offa + k * 6 + 3, none⟩ = some (.string (((gD ((gD l m).f 1).l k).f 1).f 2).s) ∧ w'.cell? ⟨ba, offa + k * 6 + 4, none⟩ = some (.slice A4 (((gD ((gD l m).f 1).l k).f 1).f 3).l.length c4) ∧ w'.cell? ⟨ba, offa + k * 6 + 5, none⟩ = some (.slice A5 (((gD ((gD l m).f 1).l k).f 1).f 4).l.length c5)))
          have HPB := Lib.hid (arg_bs (K + 1) (gD ((gD l m).f 1).l k))
          have y1 : (((gD ((gD l m).f 1).l k).f 0).s ++ (⟨#[58, 32]⟩ : ByteArray)).size = ((gD ((gD l m).f 1).l k).f 0).s.size + 2 := by rw [ByteArray.size_append]; rfl
          have r1 := fun (w : World) => run_string_add_sum (P := Tryd.prog) (w := w) ((gD ((gD l m).f 1).l k).f 0).s ⟨#[58, 32]⟩ (by rw [← ByteArray.size_append]; omega)
          have r2 := fun (w : World) => run_string_add_sum (P := Tryd.prog) (w := w) (((gD ((gD l m).f 1).l k).f 0).s ++ ⟨#[58, 32]⟩) (bs (valF (K + 1) ((gD ((gD l m).f 1).l k).f 1))) (by omega)
          clear y1
          have z1 : (m : Int) < (l.length : Int) := by omega
          have z2 : (k : Int) < (((gD l m).f 1).l.length : Int) := by omega
          go_wp2
          clear g1
          go_region_held3 (fun w' => w'.cell? ⟨b, off + m * 2 + 1, none⟩ = some (.slice (some ⟨ba, offa, none⟩) ((gD l m).f 1).l.length c1) ∧ w'.cell? ⟨ba, offa + k * 6, none⟩ = some (.string ((gD ((gD l m).f 1).l k).f 0).s) ∧ w'.cell? ⟨ba, offa + k * 6 + 1, none⟩ = some (.int .i64 (((gD ((gD l m).f 1).l k).f 1).f 0).n) ∧ w'.cell? ⟨ba, offa + k * 6 + 2, none⟩ = some (.int .i64 (((gD ((gD l m).f 1).l k).f 1).f 1).n) ∧ w'.cell? ⟨ba, offa + k * 6 + 3, none⟩ = some (.string (((gD ((gD l m).f 1).l k).f 1).f 2).s) ∧ w'.cell? ⟨ba, offa + k * 6 + 4, none⟩ = some (.slice A4 (((gD ((gD l m).f 1).l k).f 1).f 3).l.length c4) ∧ w'.cell? ⟨ba, offa + k * 6 + 5, none⟩ = some (.slice A5 (((gD ((gD l m).f 1).l k).f 1).f 4).l.length c5))
            (first | exact HSS.out _ HWA.out | exact HSS.out _ HWA.out.drew | exact HSS.out _ Hbv.out | exact HSS.out _ (Hbv.out.alloc Hbv.out.size _) | exact HSS.out _ Hbx.out)
            (first
              | (go_at_call 43; refine (valR (K + 1) _ _ w0 _ (H0.out.trans (HWA.out.drew.mono H0.out.size)) HVp.out).mono ?_; rintro e w2 ⟨rfl, b2⟩; have Hown2 := Lib.hid (own_below Howi.out ((Below.refl wr.heap.size wr).drew.trans b2)); have Hsz2 := Lib.hid b2.size; have Hbw := Lib.hid (Hbi.out.drew.trans (b2.mono Hbi.out.size)); have Hbv := Lib.hid (HWA.out.drew.trans (b2.mono HWA.out.size)); clear b2)
              | (rw [if_pos (show Region.wanted _ _ = true from rfl)]; refine wp_new0 (o := ⟨some 47, _, _, _, _, _⟩) rfl (.tmp 24) (.tmp 46) 47 rfl wb.heap.size 9 _ 1 16 Tryd.underlying47 strinfo rfl (by decide) _ _ _ Hown2.out #[.string (((gD ((gD l m).f 1).l k).f 0).s ++ ⟨#[58, 32]⟩ ++ bs (valF (K + 1) ((gD ((gD l m).f 1).l k).f 1)))] 1 rfl rfl ?_ ?_ ?_ ?_ ?_ ?_; rfl; rfl; (simp only [maxLen]; omega); omega; exact Hbw.out.size; intro v' w' hown' hg' hsz' hat' hsh'; have Hbn := Lib.hid (Hbw.out.grown hg' Hbw.out.size (fun y hy => (Hown2.out.lt y hy).1)); have Hbx := Lib.hid (Hbv.out.grown hg' Hbv.out.size (fun y hy => Nat.le_trans HBb.out.size (Hown2.out.lt y hy).1)); have Hon := Lib.hid hown'; clear hown' hg' hsz' hat' hsh'))
          have HO := Lib.hid (show w'.ownsRow wb.heap.size 9 1 v' (k + 1) (strs ((List.range (k + 1)).map fun i => argB (K + 1) (gD ((gD l m).f 1).l i))) by rw [← strs_range, HPB.out]; exact Hon.out)
          go_wp2
          go_roundg (((gD l m).f 1).l.length - k - 1)
          case measure => have := Hkj.out; omega
          case rel => exact ⟨k + 1, by have := Hkj.out; omega, by go_num, HO.out, Hbn.out⟩
        · obtain rfl : k = ((gD l m).f 1).l.length := by omega
          have HWi := Lib.hid (HBb.out.trans (Hbi.out.mono HBb.out.size))
          have HOw := Lib.hid (own_below HOb.out Hbi.out)
          obtain ⟨-, Aa, ca, rfl, -, -, -⟩ := own_strs Howi.out
          have g0 := ((H0.out.trans (HWi.out.mono H0.out.size)).cell (p := ⟨b, _, none⟩) hI).trans G0.out
          have g1 := ((H0.out.trans (HWi.out.mono H0.out.size)).cell (p := ⟨b, _, none⟩) hI).trans G1.out
          by_cases hz : ((gD l m).f 1).l.length = 0
          · have HPB := Lib.hid (HDB0.out hz)
            go_wp2_with (at_builtin; refine append_new (o := ⟨some 66, _, _, _, _, _⟩) rfl (.tmp 63) (.tmp 65) 47 rfl w.heap.size 9 _ 1 16 Tryd.underlying47 strinfo rfl (by decide) _ _ _ HOw.out _ 1 rfl rfl rfl rfl (by simp only [maxLen]; omega) (by omega) HWi.out.size ?_; intro v' w' hown' hg' hsz' hat' hsh')
            have HO := Lib.hid (show w'.ownsRow w.heap.size 9 1 v' (m + 1) (strs ((List.range (m + 1)).map fun i => dirB (K + 1) (gD l i))) by rw [← strs_range, HPB.out]; exact hown')
            have HBn := Lib.hid (HWi.out.grown hg' HWi.out.size (fun y hy => (HOw.out.lt y hy).1))
            clear hown' hg' hsz' hat' hsh'
            go_wp2
            go_roundg (l.length - m - 1)
            case measure => have := Hmj.out; omega
            case rel => exact ⟨m + 1, by have := Hmj.out; omega, by go_num, HO.out, HBn.out⟩
          · have HPB := Lib.hid (HDB1.out hz)
            have hpos : 0 < ((gD l m).f 1).l.length := by omega
            have HJ := Lib.hid (strJoinR commaB wr Howi.out (by omega) (by rw [bs_size] at hjn; show (Lib.join (argsB (K + 1) (gD l m)) commaB).length ≤ _; omega))
            have HJ : Hid (Calls Tryd.prog 77 #[_, .string ⟨#[44, 32]⟩] wr (fun e w' => e = .returned (.string (bs (Lib.join (argsB (K + 1) (gD l m)) commaB))) ∧ Below wr.heap.size wr w')) := HJ
            generalize bs (Lib.join (argsB (K + 1) (gD l m)) commaB) = jn at *
            go_wp2_with fail
            refine HJ.out.mono ?_
            rintro e w2 ⟨rfl, b2⟩
            have HW2 := Lib.hid (HWi.out.trans (b2.mono HWi.out.size))
            have HO2 := Lib.hid (own_below HOw.out b2)
            clear b2
            go_wp2_with (at_builtin; refine append_new (o := ⟨some 66, _, _, _, _, _⟩) rfl (.tmp 63) (.tmp 65) 47 rfl w.heap.size 9 _ 1 16 Tryd.underlying47 strinfo rfl (by decide) _ _ _ HO2.out _ 1 rfl rfl rfl rfl (by simp only [maxLen]; omega) (by omega) HW2.out.size ?_; intro v' w' hown' hg' hsz' hat' hsh')
            have HO := Lib.hid (show w'.ownsRow w.heap.size 9 1 v' (m + 1) (strs ((List.range (m + 1)).map fun i => dirB (K + 1) (gD l i))) by rw [← strs_range, HPB.out]; exact hown')
            have HBn := Lib.hid (HW2.out.grown hg' HW2.out.size (fun y hy => (HO2.out.lt y hy).1))
            clear hown' hg' hsz' hat' hsh'
            go_wp2
            go_roundg (l.length - m - 1)
            case measure => have := Hmj.out; omega
            case rel => exact ⟨m + 1, by have := Hmj.out; omega, by go_num, HO.out, HBn.out⟩
    · obtain rfl : m = l.length := by omega
      have hl2 := HB1.out
      have HJ := Lib.hid (strJoinR [32] wr Hown.out (by omega) (by show (dirsB (K + 1) l).length ≤ _; omega))
      have HJ : Hid (Calls Tryd.prog 77 #[_, .string ⟨#[32]⟩] wr (fun e w' => e = .returned (.string (bs (dirsB (K + 1) l))) ∧ Below wr.heap.size wr w')) := HJ
      clear hl2
      go_wp2_with fail
      refine HJ.out.mono ?_
      rintro e w2 ⟨rfl, b2⟩
      have Hb2 := Lib.hid (Hb.out.trans (b2.mono Hb.out.size)); clear b2
      go_wp2
      go_ret
      exact ⟨rfl, Hb2.out⟩
end Go.Proofs.YtohneabalakmeaaDoor
namespace Go.Proofs.YtohneabalakmeaaDoor
open Go.RowKit
attribute [local irreducible] wpList Calls Code.wp
def tailB (K : Nat) (l : List D) : List UInt8 := if l.length = 0 then [] else [32] ++ dirsB K l
theorem tail_bs0 {K : Nat} {l : List D} (h : l.length = 0) : bs (tailB K l) = bs [] := by unfold tailB; rw [if_pos h]
theorem tail_bs1 {K : Nat} {l : List D} (h : ¬ l.length = 0) : bs (tailB K l) = bs [32] ++ bs (dirsB K l) := by unfold tailB; rw [if_neg h, bs_append]
theorem tail_bound {K : Nat} {A : Option Addr} {l : List D} {w0 : World} (h : Dp K A l w0) : (tailB (K + 1) l).length ≤ 8 * bulkL l + 1 := by
  have := (dirs_bound h).1
  unfold tailB
  split
  · simp
  · simp only [List.length_append, List.length_cons, List.length_nil]; omega
set_option maxRecDepth 100000 in
set_option maxHeartbeats 4000000 in
theorem tailP (K : Nat) (A : Option Addr) (l : List D) (c : Nat) (w0 w : World) (he : EnvT w) (h0 : Below w0.heap.size w0 w) (h : Dp K A l w0) :
    Calls Tryd.prog 115 #[.slice A l.length c] w (St (tailB (K + 1) l) w) := by
  have hbk := h.bulk
  obtain ⟨hb1, hb2⟩ := dirs_bound h
  have HP := Lib.hid (dirsP K A l c w0 w he h0 h)
  have hz : (bs (dirsB (K + 1) l)).size ≤ 8388608 := by rw [bs_size]; omega
  clear he h0 h hb1
  by_cases hl : l.length = 0
  · have HT := Lib.hid (tail_bs0 (K := K + 1) hl)
    clear HP hz
    go_enter Tryd.func115, Tryd.ntmps115
    go_wp2
    go_ret
    exact ⟨by rw [HT.out]; rfl, Below.refl _ _⟩
  · have HT := Lib.hid (tail_bs1 (K := K + 1) hl)
    have hl2 : l.length ≤ 1048576 := by omega
    unfold St at HP
    generalize bs (dirsB (K + 1) l) = t at *
    clear hbk hb2
    go_enter Tryd.func115, Tryd.ntmps115
    go_wp2_with fail
    refine HP.out.mono ?_
    rintro e w2 ⟨rfl, b2⟩
    have B2 := Lib.hid b2; clear b2
    go_wp2
    go_ret
    exact ⟨by rw [HT.out]; rfl, B2.out⟩
end Go.Proofs.YtohneabalakmeaaDoor
