/- Parts of a proof, merged by a program (shake.py). -/
import Derived.Test.YtohneabalakmeaaDoorDq26
namespace Go.Proofs.YtohneabalakmeaaDoor
open Go.RowKit
attribute [local irreducible] wpList Calls Code.wp
theorem var_stays {P : Program} {w w' : World} {n : String} {g G : Nat} {cs : Array Value} (hg : P.globalNamed n = some g) (hG : g < G) (h : w.var? P n = some cs) (hs : ∀ k, k < G → w'.heap[k]? = w.heap[k]?) : w'.var? P n = some cs := by
  unfold World.var? at h ⊢
  rw [hg] at h ⊢
  simp only [Option.bind_some] at h ⊢
  rw [hs g hG]; exact h
def EN : Ge where
  G := 4
  E := EnvT
  stays w w' h hs := var_stays (g := 3) (by kernel_rfl) (by omega) h hs
  le w h := by
    have h1 := h
    unfold EnvT Lib.TabIs World.var? at h1
    rw [show Tryd.prog.globalNamed "internal/strconv.uint64pow10" = some 3 by kernel_rfl] at h1
    simp only [Option.bind_some] at h1
    rcases Nat.lt_or_ge 3 w.heap.size with h' | h'
    · exact h'
    · rw [Array.getElem?_eq_none h'] at h1; cases h1
/-- a contract over blocks that turns nothing old and hands back a plain value -/
theorem ac_of {f : FuncId} {args : List V} {r : Value} (h : ∀ s w us, relL Tryd.prog s w args us.toList → EnvT w → okV r ∧ Calls Tryd.prog f us w fun e w' => e = .returned r ∧ Below w.heap.size w w') : AC EN Tryd.prog f args (.c r) := by
  intro s w us hus hfx he
  obtain ⟨hr, hc⟩ := h s w us hus he
  refine hc.mono ?_
  rintro e w' ⟨rfl, hb⟩
  have hc : ∀ b o, s.F b o → w'.cell? ⟨b, o, none⟩ = w.cell? ⟨b, o, none⟩ := fun b o hF => by
    obtain ⟨x, hx⟩ := Option.isSome_iff_exists.1 (hfx b o hF)
    exact hb.cell (p := ⟨b, o, none⟩) (block_lt_of_cell hx)
  exact ⟨r, s.F, rfl, Frm.of_below hb, fun b o hF => ⟨hc b o hF, hF⟩, fun b o hF => by rw [hc b o hF]; exact hfx b o hF, fun _ _ _ h => h, by rw [rel]; exact ⟨rfl, hr⟩⟩
theorem arr1 {us : Array Value} {u : Value} (h : us.toList = [u]) : us = #[u] := by apply Array.ext'; simpa using h
theorem arr2 {us : Array Value} {u v : Value} (h : us.toList = [u, v]) : us = #[u, v] := by apply Array.ext'; simpa using h
theorem rel_one {P : Program} {s : Sg} {w : World} {v : V} {us : Array Value} (h : relL P s w [v] us.toList) : ∃ u, us = #[u] ∧ rel P s w v u := by
  cases hl : us.toList with
  | nil => rw [hl] at h; simp [relL] at h
  | cons x xs =>
    rw [hl, relL] at h
    cases xs with
    | nil => exact ⟨x, arr1 hl, h.1⟩
    | cons y ys => simp [relL] at h
theorem rel_two {P : Program} {s : Sg} {w : World} {v v2 : V} {us : Array Value} (h : relL P s w [v, v2] us.toList) : ∃ u u2, us = #[u, u2] ∧ rel P s w v u ∧ rel P s w v2 u2 := by
  cases hl : us.toList with
  | nil => rw [hl] at h; simp [relL] at h
  | cons x xs =>
    rw [hl, relL] at h
    cases xs with
    | nil => simp [relL] at h
    | cons y ys =>
      rw [relL] at h
      cases ys with
      | nil => exact ⟨x, y, arr2 hl, h.1, h.2.1⟩
      | cons z zs => simp [relL] at h
theorem bs_ok {l : List UInt8} (h : l.length ≤ 9223372036854775807) : okV (.string (bs l)) := by
  show (bs l).size ≤ maxLen
  rw [bs_size]; unfold maxLen; omega
def strsD (ls : List (List UInt8)) : List D := ls.map fun l => .str (bs l)
theorem strsD_length (ls : List (List UInt8)) : (strsD ls).length = ls.length := by simp [strsD]
theorem strsD_get {ls : List (List UInt8)} {i : Nat} (h : i < ls.length) : (gD (strsD ls) i).s = bs (gU ls i) := by
  unfold gD strsD gU
  rw [List.getD_eq_getElem?_getD, List.getD_eq_getElem?_getD, List.getElem?_map, List.getElem?_eq_getElem h]
  rfl
theorem str_cells {w : World} {F : Nat → Nat → Prop} {ls : List (List UInt8)} {u : Value} (h : SlV Tryd.prog w F 9 (strsD ls) u) : ∃ A c, u = .slice A ls.length c ∧ ls.length ≤ c ∧ (0 < ls.length → ∃ b off, A = some ⟨b, off, none⟩ ∧ b < w.heap.size ∧ ∀ i, i < ls.length → w.cell? ⟨b, off + i, none⟩ = some (.string (bs (gU ls i)))) := by
  obtain ⟨k, A, c, rfl, h2, h3, h4, h5⟩ := h
  rw [strsD_length] at h2
  refine ⟨A, c, by rw [strsD_length], h2, fun hp => ?_⟩
  obtain ⟨b, off, hA, hb, hat⟩ := at_str ⟨_, h5.sl⟩ (by rw [strsD_length]; exact hp)
  exact ⟨b, off, hA, hb, fun i hi => by rw [(hat i (by rw [strsD_length]; exact hi)).1, strsD_get hi]⟩
theorem join_ac (ls : List (List UInt8)) (sep : List UInt8) (hn : ls.length ≤ 100000000) (hl : (Lib.join ls sep).length ≤ 100000000) :
    AC EN Tryd.prog 76 [.sl 9 (strsD ls), .c (.string (bs sep))] (.c (.string (bs (Lib.join ls sep)))) :=
  ac_of fun s w us hus _ => by
    refine ⟨bs_ok (by omega), ?_⟩
    obtain ⟨u, u2, rfl, h1, h2⟩ := rel_two hus
    rw [rel] at h1
    rw [rel] at h2
    obtain ⟨rfl, -⟩ := h2
    obtain ⟨A, c, rfl, hc, hcells⟩ := str_cells h1
    have e1 : (ls.map bs).map (·.data.toList) = ls := by
      rw [List.map_map]
      conv => rhs; rw [← List.map_id ls]
      exact List.map_congr_left fun l _ => bs_data l
    have e2 : (bs sep).data.toList = sep := bs_data sep
    by_cases h0 : 0 < ls.length
    · obtain ⟨g, off, rfl, hg, hj⟩ := hcells h0
      have hk := Tryd.strings_Join g off c (ls.map bs) (bs sep) w (fun j x hx => by
        rw [List.getElem?_map, Option.map_eq_some_iff] at hx
        obtain ⟨l, hl, rfl⟩ := hx
        have hjl := List.getElem?_eq_some_iff.1 hl
        rw [hj j hjl.1, gU_get hjl.1, hjl.2]) hg (by simp; omega) (by simpa using hc) (by rw [e1, e2]; omega)
      rw [List.length_map] at hk
      refine hk.mono fun e w' h => ⟨?_, h.2⟩
      rw [h.1, e1, e2]; rfl
    · have hz : ls = [] := List.eq_nil_of_length_eq_zero (by omega)
      subst hz
      exact (Tryd.strings_Join_none A c (bs sep) w).mono fun e w' h => ⟨by rw [h.1]; rfl, by rw [h.2]; exact Below.refl _ _⟩
set_option maxRecDepth 100000 in
theorem valF_le {k m : Nat} {d : D} (h : Fits Tryd.prog k 49 d) (hm : k ≤ m) : valF m d = valF k d := by
  obtain ⟨i, rfl⟩ := Nat.exists_eq_add_of_le hm
  induction i with
  | zero => rfl
  | succ i ih => rw [show k + (i + 1) = (k + i) + 1 by omega, valF_more (k + i) d (h.le (by omega)), ih (by omega)]
set_option maxRecDepth 100000 in
theorem goodF_le {k m : Nat} {d : D} (h : Fits Tryd.prog k 49 d) (hg : goodF k d) (hm : k ≤ m) : goodF m d := by
  obtain ⟨i, rfl⟩ := Nat.exists_eq_add_of_le hm
  induction i with
  | zero => exact hg
  | succ i ih => exact goodF_more (k + i) d (h.le (by omega)) (ih (by omega))
set_option maxRecDepth 100000 in
theorem agg_cells {s : Sg} {w : World} {t : TypeId} {d : D} {us : Array Value} (hl : layB Tryd.prog 12 t = true) (h : relL Tryd.prog s w [.agg (cellsV Tryd.prog 12 t d)] us.toList) : ∃ cs k, us = #[.agg cs] ∧ Rep Tryd.prog w (fun b => b < w.heap.size) k t cs.toList d := by
  obtain ⟨u, rfl, h1⟩ := rel_one h
  rw [rel] at h1
  obtain ⟨cs, rfl, h2⟩ := h1
  obtain ⟨k, hk⟩ := cells_back 12 t _ _ hl h2
  exact ⟨cs, k, rfl, hk.rep⟩
set_option maxRecDepth 100000 in
theorem lay49 : layB Tryd.prog 12 49 = true := by kernel_rfl
set_option maxRecDepth 100000 in
theorem valF_ok {K : Nat} {d : D} (hf : Fits Tryd.prog K 49 d) (hw : wideF K d) (hb : bulkD d ≤ 1048576) : okV (.string (bs (valF K d))) := bs_ok (by have := valF_size hf hw hb; omega)
set_option maxRecDepth 100000 in
theorem value_ac (K : Nat) (d : D) (hf : Fits Tryd.prog K 49 d) (hg : goodF K d) (hb : bulkD d ≤ 1048576) : AC EN Tryd.prog 42 [.agg (cellsV Tryd.prog 12 49 d)] (.c (.string (bs (valF K d)))) :=
  ac_of fun s w us hus he => by
    obtain ⟨cs, k, rfl, hr⟩ := agg_cells lay49 hus
    refine ⟨by rw [← valF_le hf (show K ≤ max k K by omega)]; exact valF_ok (hf.le (by omega)) (wide_of _ cs _ w (hr.le (by omega))) hb, ?_⟩
    have := valueP (max k K) cs d w w he (Below.refl _ _) ⟨hr.le (by omega), hf.le (by omega), hb, goodF_le hf hg (by omega)⟩
    rw [valF_le hf (show K ≤ max k K by omega)] at this
    exact this
/-- what the printing of directives asks, of the data alone -/
structure Dq (K : Nat) (l : List D) : Prop where
  fits : ∀ i, i < l.length → Fits Tryd.prog (K + 1) 101 (gD l i)
  bulk : bulkL l ≤ 1048576
  good : ∀ i, i < l.length → ∀ j, j < ((gD l i).f 1).l.length → goodF (K + 1) ((gD ((gD l i).f 1).l j).f 1)
set_option maxRecDepth 100000 in
theorem Dq.arg {K : Nat} {l : List D} (h : Dq K l) {i j : Nat} (hi : i < l.length) (hj : j < ((gD l i).f 1).l.length) : Fits Tryd.prog (K + 1) 49 ((gD ((gD l i).f 1).l j).f 1) := by
  obtain ⟨x0, x1, e, h1⟩ := fits101 (h.fits i hi)
  rw [e] at hj ⊢
  have h2 := h1 j hj
  have h2 : Fits Tryd.prog (K - 1) 103 (gD x1 j) := h2
  have h2 : Fits Tryd.prog (K - 1 + 1) 103 (gD x1 j) := h2.up
  obtain ⟨y0, y1, e2, h3⟩ := fits103 h2
  have e3 : gD ((D.obj [.str x0, .list x1]).f 1).l j = .obj [.str y0, y1] := e2
  rw [e3]
  exact Fits.le h3 (by omega)
set_option maxRecDepth 100000 in
theorem Dq.le {K m : Nat} {l : List D} (h : Dq K l) (hm : K ≤ m) : Dq m l := ⟨fun i hi => (h.fits i hi).le (by omega), h.bulk, fun i hi j hj => goodF_le (h.arg hi hj) (h.good i hi j hj) (by omega)⟩
set_option maxRecDepth 100000 in
theorem dirsB_le {K m : Nat} {l : List D} (h : Dq K l) (hm : K ≤ m) : dirsB (m + 1) l = dirsB (K + 1) l := by
  unfold dirsB dirsL
  congr 1
  refine List.map_congr_left fun i hi => ?_
  have hi := List.mem_range.1 hi
  unfold dirB
  have e : argsB (m + 1) (gD l i) = argsB (K + 1) (gD l i) := by
    unfold argsB
    refine List.map_congr_left fun j hj => ?_
    have hj := List.mem_range.1 hj
    unfold argB
    rw [valF_le (h.arg hi hj) (by omega)]
  rw [e]
set_option maxRecDepth 100000 in
theorem Dq.dp {K : Nat} {l : List D} (h : Dq K l) {w : World} {A : Option Addr} {k : Nat} (hs : Sl Tryd.prog w (fun b => b < w.heap.size) k 101 A l) : ∃ m, K ≤ m ∧ Dp m A l w := by
  have hup : ∀ {a b : Nat}, a ≤ b → Sl Tryd.prog w (fun b => b < w.heap.size) a 101 A l → Sl Tryd.prog w (fun b => b < w.heap.size) b 101 A l := fun {a b} hab hs => by
    obtain ⟨i, rfl⟩ := Nat.exists_eq_add_of_le hab
    clear hab
    induction i with
    | zero => exact hs
    | succ i ih => exact ih.up
  have h2 := h.le (show K ≤ max k K by omega)
  exact ⟨max k K, by omega, hup (by omega) hs, h2.fits, h2.bulk, h2.good⟩
set_option maxRecDepth 100000 in
theorem sl_arg {s : Sg} {w : World} {e : TypeId} {l : List D} {us : Array Value} (h : relL Tryd.prog s w [.sl e l] us.toList) : ∃ A c k, us = #[.slice A l.length c] ∧ Sl Tryd.prog w (fun b => b < w.heap.size) k e A l := by
  obtain ⟨u, rfl, h1⟩ := rel_one h
  rw [rel] at h1
  obtain ⟨k, A, c, rfl, h2, h3, h4, h5⟩ := h1
  exact ⟨A, c, k, rfl, h5.sl⟩
theorem tailB_le {K m : Nat} {l : List D} (h : Dq K l) (hm : K ≤ m) : tailB (m + 1) l = tailB (K + 1) l := by
  unfold tailB
  rw [dirsB_le h hm]
set_option maxRecDepth 100000 in
theorem dirsP_ac {K : Nat} {l : List D} (h : Dq K l) : AC EN Tryd.prog 46 [.sl 101 l] (.c (.string (bs (dirsB (K + 1) l)))) :=
  ac_of fun s w us hus he => by
    obtain ⟨A, c, k, rfl, hs⟩ := sl_arg hus
    obtain ⟨m, hm, hdp⟩ := h.dp hs
    have := dirsP m A l c w w he (Below.refl _ _) hdp
    have hb := dirs_bound hdp
    have hbk := h.bulk
    rw [dirsB_le h hm] at this hb
    exact ⟨bs_ok (by have := hb.1; omega), this⟩
set_option maxRecDepth 100000 in
theorem dirsR_ac {K : Nat} {l : List D} (h : Dq K l) : AC EN Tryd.prog 47 [.sl 101 l] (.c (.string (bs (dirsB (K + 1) l)))) :=
  ac_of fun s w us hus he => by
    obtain ⟨A, c, k, rfl, hs⟩ := sl_arg hus
    obtain ⟨m, hm, hdp⟩ := h.dp hs
    have := dirsR m A l c w w (Below.refl _ _) hdp
    have hb := dirs_bound hdp
    have hbk := h.bulk
    rw [dirsB_le h hm] at this hb
    exact ⟨bs_ok (by have := hb.1; omega), this⟩
set_option maxRecDepth 100000 in
theorem tailP_ac {K : Nat} {l : List D} (h : Dq K l) : AC EN Tryd.prog 115 [.sl 101 l] (.c (.string (bs (tailB (K + 1) l)))) :=
  ac_of fun s w us hus he => by
    obtain ⟨A, c, k, rfl, hs⟩ := sl_arg hus
    obtain ⟨m, hm, hdp⟩ := h.dp hs
    have := tailP m A l c w w he (Below.refl _ _) hdp
    have hb := tail_bound hdp
    have hbk := h.bulk
    rw [tailB_le h hm] at this hb
    exact ⟨bs_ok (by omega), this⟩
end Go.Proofs.YtohneabalakmeaaDoor
