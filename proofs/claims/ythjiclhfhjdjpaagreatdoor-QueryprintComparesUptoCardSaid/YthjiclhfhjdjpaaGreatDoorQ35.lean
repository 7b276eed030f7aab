/- Parts of a proof, merged by a program (shake.py). -/
import Derived.Test.YthjiclhfhjdjpaaGreatDoorQ34
set_option linter.unusedVariables false
set_option linter.unusedSimpArgs false
namespace Go.Proofs.YthjiclhfhjdjpaaGreatDoor
def mkT (p : Int × List UInt8) : Tok := ⟨p.1, p.2, 0⟩
/-- a reader ahead of these tokens -/
def pst (l : KS) (v : Bool) (n : Nat) : PS := ⟨l.map mkT, v, n⟩
theorem hd_pst (k : Int) (s : List UInt8) (r : KS) (v : Bool) (n : Nat) : hdT (pst ((k, s) :: r) v n) = ⟨k, s, 0⟩ := rfl
theorem nx_pst {k : Int} {s : List UInt8} {r : KS} {v : Bool} {n : Nat} (h : k ≠ 5) : nxT (pst ((k, s) :: r) v n) = pst r v n := by
  unfold nxT
  rw [hd_pst, if_neg h]
  rfl
theorem is_pst (k : Int) (s : List UInt8) (r : KS) (v : Bool) (n : Nat) (t : List UInt8) : isS (pst ((k, s) :: r) v n) t = (k == 1 && s == t) := rfl
theorem is_self (s : List UInt8) (r : KS) (v : Bool) (n : Nat) : isS (pst ((1, s) :: r) v n) s = true := by
  rw [is_pst]; simp
theorem take_pst (s : List UInt8) (r : KS) (v : Bool) (n : Nat) : takeQ s (pst ((1, s) :: r) v n) = .ok ((), pst r v n) := by
  unfold takeQ
  rw [if_pos (is_self s r v n), nx_pst (by decide)]
theorem name_pst (s : List UInt8) (r : KS) (v : Bool) (n : Nat) : nameQ (pst ((2, s) :: r) v n) = .ok (s, pst r v n) := by
  unfold nameQ
  rw [hd_pst, if_pos rfl, nx_pst (by decide)]
theorem then_ok_eq {α β : Type} {a : α} {x : PS} {f : α → PS → PR β} : thenQ (.ok (a, x)) f = f a x := rfl
/-- the next token is not this sign -/
def nS (r : KS) (s : List UInt8) : Prop := ∀ v n, isS (pst r v n) s = false
theorem nS_cons {k : Int} {s t : List UInt8} {r : KS} (h : (k == 1 && s == t) = false) : nS ((k, s) :: r) t := fun _ _ => h
theorem nS_gK {g : Nat → KS} {j m : Nat} {r : KS} {s : List UInt8} (hg : ∀ i r, nS (g i ++ r) s) (hr : nS r s) : nS (gK g j m ++ r) s := by
  cases m with
  | zero => exact hr
  | succ m => rw [gK_succ, List.append_assoc]; exact hg _ _
def cnt : List Int → Nat
  | [] => 0
  | d :: l => if d = 1 then cnt l else cnt l + 1
theorem cnt_cons (d : Int) (l : List Int) : cnt (d :: l) = if d = 1 then cnt l else cnt l + 1 := rfl
theorem cnt_app (a b : List Int) : cnt (a ++ b) = cnt a + cnt b := by
  induction a with
  | nil => simp [cnt]
  | cons d l ih =>
    rw [List.cons_append, cnt_cons, cnt_cons]
    split <;> omega
def clsK (es : List Int) : KS := es.map fun d => (1, [if d = 1 then 33 else 93])
theorem refK_eq (n : List UInt8) : ∀ ds : List D, refK n ds = List.replicate (cnt (ds.map D.n)) (1, [91]) ++ (2, n) :: clsK (ds.map D.n).reverse
  | [] => rfl
  | d :: ds => by
    have ih := refK_eq n ds
    unfold refK
    rw [ih, List.map_cons, List.reverse_cons, cnt_cons]
    by_cases h : d.n = 1
    · rw [if_pos (by rw [h]; rfl), if_pos h]
      simp [clsK, h]
    · rw [if_neg (by simpa using h), if_neg h, List.replicate_succ]
      simp [clsK, h]
theorem cnt_rev (l : List Int) : cnt l.reverse = cnt l := by
  induction l with
  | nil => rfl
  | cons d l ih =>
    rw [List.reverse_cons, cnt_app, ih, cnt_cons, cnt_cons]
    split <;> simp [cnt]
theorem open_pst {r : KS} {v : Bool} {n : Nat} (hr : nS r [91]) : ∀ (m f : Nat), m ≤ f → openQ f (pst (List.replicate m (1, [91]) ++ r) v n) = (m, pst r v n)
  | 0, 0, _ => rfl
  | 0, f + 1, _ => by
    unfold openQ
    rw [if_neg (by rw [List.replicate_zero, List.nil_append, hr]; decide)]
    rfl
  | m + 1, 0, h => by omega
  | m + 1, f + 1, h => by
    unfold openQ
    rw [List.replicate_succ, List.cons_append, if_pos (is_self _ _ _ _), nx_pst (by decide), open_pst hr m f (by omega)]
theorem wraps_no : ∀ {l : List Int}, wrapsR l = true → (∀ x ∈ l, x = 1 ∨ x = 2) ∧ ∀ p a b q, l = p ++ a :: b :: q → ¬ (a = 1 ∧ b = 1)
  | [], _ => ⟨fun _ h => absurd h (by simp), fun p a b q e => by have := congrArg List.length e; simp at this⟩
  | [w], h => by
    unfold wrapsR at h
    simp only [Bool.or_eq_true, beq_iff_eq] at h
    refine ⟨fun x hx => ?_, fun p a b q e => ?_⟩
    · rw [List.mem_singleton] at hx; rw [hx]; exact h
    · have := congrArg List.length e; simp at this; omega
  | w :: u :: r, h => by
    unfold wrapsR at h
    simp only [Bool.and_eq_true, Bool.or_eq_true, beq_iff_eq, Bool.not_eq_true', Bool.and_eq_false_iff, beq_eq_false_iff_ne] at h
    obtain ⟨⟨h1, h2⟩, h3⟩ := h
    obtain ⟨i1, i2⟩ := wraps_no h3
    refine ⟨fun x hx => ?_, fun p a b q e => ?_⟩
    · rcases List.mem_cons.1 hx with rfl | hx
      · exact h1
      · exact i1 x hx
    · cases p with
      | nil =>
        rw [List.nil_append] at e
        injection e with e1 e2
        injection e2 with e2 e3
        subst e1 e2
        rintro ⟨a1, a2⟩
        rcases h2 with h2 | h2
        · exact h2 a1
        · exact h2 a2
      | cons y p =>
        rw [List.cons_append] at e
        injection e with e1 e2
        exact i2 p a b q e2
theorem close_pst {r : KS} {v : Bool} {n : Nat} (hr : nS r [33]) : ∀ (es w : List Int), (∀ x ∈ es, x = 1 ∨ x = 2) → (∀ p a b q, es = p ++ a :: b :: q → ¬ (a = 1 ∧ b = 1)) →
    closeQ (cnt es) w (pst (clsK es ++ r) v n) = .ok (es.reverse ++ w, pst r v n)
  | [], w, _, _ => by
    show closeQ 0 w (pst r v n) = _
    unfold closeQ
    rw [if_neg (by rw [hr]; decide)]
    rfl
  | [d], w, h, _ => by
    rcases h d (by simp) with rfl | rfl
    · show closeQ 0 w (pst ((1, [33]) :: r) v n) = _
      unfold closeQ
      rw [if_pos (is_self _ _ _ _), nx_pst (by decide)]
      rfl
    · show closeQ 1 w (pst ((1, [93]) :: r) v n) = _
      unfold closeQ
      rw [if_neg (by rw [is_pst]; decide), if_neg (by rw [is_pst]; decide), take_pst, then_ok_eq]
      unfold closeQ
      rw [if_neg (by rw [hr]; decide)]
      rfl
  | d :: e :: es, w, h, ha => by
    rcases h d (by simp) with rfl | rfl
    · have he : e = 2 := by
        rcases h e (by simp) with h' | h'
        · exact absurd ⟨rfl, h'⟩ (ha [] 1 e es rfl)
        · exact h'
      subst he
      have ih := close_pst (v := v) (n := n) hr es (2 :: 1 :: w) (fun x hx => h x (by simp [hx])) (fun p a b q e' => ha (1 :: 2 :: p) a b q (by rw [e']; rfl))
      show closeQ (cnt es + 1) w (pst ((1, [33]) :: (1, [93]) :: (clsK es ++ r)) v n) = _
      unfold closeQ
      rw [if_pos (is_self _ _ _ _), if_pos (is_self _ _ _ _), nx_pst (by decide), take_pst, then_ok_eq, ih]
      simp
    · have ih := close_pst (v := v) (n := n) hr (e :: es) (2 :: w) (fun x hx => h x (by simp at hx ⊢; exact .inr hx)) (fun p a b q e' => ha (2 :: p) a b q (by rw [e']; rfl))
      show closeQ (cnt (e :: es) + 1) w (pst ((1, [93]) :: (clsK (e :: es) ++ r)) v n) = _
      unfold closeQ
      rw [if_neg (by rw [is_pst]; decide), if_neg (by rw [is_pst]; decide), take_pst, then_ok_eq, ih]
      simp
theorem typ_pst {nm : List UInt8} {ds : List D} {r : KS} {v : Bool} {n : Nat} (hw : wrapsR (ds.map D.n) = true) (hl : ds.length ≤ 24) (hr : nS r [33]) : typQ (pst (refK nm ds ++ r) v n) = .ok (refD nm (ds.map D.n), pst r v n) := by
  obtain ⟨h1, h2⟩ := wraps_no hw
  have e : refK nm ds ++ r = List.replicate (cnt (ds.map D.n)) (1, [91]) ++ (2, nm) :: (clsK (ds.map D.n).reverse ++ r) := by rw [refK_eq]; simp
  have ho := open_pst (r := (2, nm) :: (clsK (ds.map D.n).reverse ++ r)) (v := v) (n := n) (nS_cons rfl) (cnt (ds.map D.n)) (pst (refK nm ds ++ r) v n).ts.length (by rw [e]; simp [pst])
  have hc := close_pst (v := v) (n := n) hr (ds.map D.n).reverse [] (fun x hx => h1 x (by simpa using hx)) (fun p a b q e' => fun hab => by
    have e2 : ds.map D.n = q.reverse ++ b :: a :: p.reverse := by have := congrArg List.reverse e'; simpa using this
    exact h2 _ _ _ _ e2 ⟨hab.2, hab.1⟩)
  rw [cnt_rev] at hc
  unfold typQ innerQ
  rw [e] at ho ⊢
  rw [ho]
  dsimp only
  rw [name_pst, then_ok_eq, hc, then_ok_eq, then_ok_eq]
  dsimp only
  rw [if_neg (by simp; omega)]
  simp
def cnV : Nat → D → D
  | 0, d => d
  | k + 1, d => valD (d.f 0).n (d.f 1).n (tx (d.f 2).s) ((List.range (d.f 3).l.length).map fun i => cnV k (gD (d.f 3).l i)) (strsR d)
theorem cnV_succ (k : Nat) (d : D) : cnV (k + 1) d = valD (d.f 0).n (d.f 1).n (tx (d.f 2).s) ((List.range (d.f 3).l.length).map fun i => cnV k (gD (d.f 3).l i)) (strsR d) := rfl
def cL (d : D) : D := cnV (bulkD d) d
theorem value_hd {f lv : Nat} {kk : Int} {s : List UInt8} {r : KS} {v : Bool} {n : Nat} (h0 : noVal (pst ((kk, s) :: r) v n) = false) (hk : kk ≠ 5) (hlv : lv ≤ 24) (hn : n < 4096) :
    valueQ (f + 1) lv (pst ((kk, s) :: r) v n) = (if kk = 3 then .ok (valD 2 (numQ s) [] [] [], pst r v (n + 1)) else if kk = 4 then .ok (valD 3 0 s [] [], pst r v (n + 1)) else if kk = 2 then .ok (wordV s, pst r v (n + 1))
      else if s = [36] then thenQ (nameQ (pst r v (n + 1))) (fun n z => .ok (valD 7 0 n [] [], z))
      else if s = [91] then thenQ (itemsQ (valueQ f (lv + 1)) (r.length + 1) [] (pst r v (n + 1))) (fun l z => .ok (valD 5 0 [] l [], z))
      else thenQ (fieldsQ (valueQ f (lv + 1)) (r.length + 1) [] [] (pst r v (n + 1))) (fun l z => .ok (valD 6 0 [] l.2 l.1, z))) := by
  have hy : ({ nxT (pst ((kk, s) :: r) v n) with nd := n + 1 } : PS) = pst r v (n + 1) := by rw [nx_pst hk]; rfl
  have hlen : (pst r v (n + 1)).ts.length = r.length := by simp [pst]
  unfold valueQ
  rw [show (pst ((kk, s) :: r) v n).nd = n from rfl, if_neg (by rw [h0]; decide), if_neg (by omega), if_neg (show ¬ 4096 ≤ n by omega)]
  dsimp only
  rw [hy, hd_pst, nx_pst hk]
  dsimp only
  rw [show (pst r v n).ts.length = r.length by simp [pst]]
theorem items_pst {val : PS → PR D} {g : Nat → KS} {c : Nat → D} {sz : Nat → Nat} {v : Bool} {n0 N : Nat} (hval : ∀ i r, i < N → val (pst (g i ++ r) v (n0 + sumN sz i)) = .ok (c i, pst r v (n0 + sumN sz (i + 1))))
    (hfst : ∀ i r n, i < N → isS (pst (g i ++ r) v n) [93] = false) : ∀ (m j f : Nat) (r : KS), j + m = N → m < f →
    itemsQ val f ((List.range j).map c) (pst (gK g j m ++ (1, [93]) :: r) v (n0 + sumN sz j)) = .ok ((List.range N).map c, pst r v (n0 + sumN sz N))
  | _, _, 0, _, _, hf => by omega
  | 0, j, f + 1, r, hj, _ => by
    have e : j = N := by omega
    subst e
    unfold itemsQ
    rw [gK_zero, List.nil_append, if_pos (is_self _ _ _ _), nx_pst (by decide)]
  | m + 1, j, f + 1, r, hj, hf => by
    have ih := items_pst hval hfst m (j + 1) f r (by omega) (by omega)
    unfold itemsQ
    rw [gK_succ, List.append_assoc, if_neg (by rw [hfst j _ _ (by omega)]; decide), hval j _ (by omega), then_ok_eq]
    rw [List.range_succ, List.map_append] at ih
    exact ih
theorem fields_pst {val : PS → PR D} {g : Nat → KS} {c : Nat → D} {key : Nat → List UInt8} {sz : Nat → Nat} {v : Bool} {n0 N : Nat} (hval : ∀ i r, i < N → val (pst (g i ++ r) v (n0 + sumN sz i)) = .ok (c i, pst r v (n0 + sumN sz (i + 1))))
    (hnd : ∀ i j, i < j → j < N → key i ≠ key j) : ∀ (m j f : Nat) (r : KS), j + m = N → m < f →
    fieldsQ val f ((List.range j).map key) ((List.range j).map c) (pst (gK (fun i => (2, key i) :: (1, [58]) :: g i) j m ++ (1, [125]) :: r) v (n0 + sumN sz j)) = .ok (((List.range N).map key, (List.range N).map c), pst r v (n0 + sumN sz N))
  | _, _, 0, _, _, hf => by omega
  | 0, j, f + 1, r, hj, _ => by
    have e : j = N := by omega
    subst e
    unfold fieldsQ
    rw [gK_zero, List.nil_append, if_pos (is_self _ _ _ _), nx_pst (by decide)]
  | m + 1, j, f + 1, r, hj, hf => by
    have ih := fields_pst hval hnd m (j + 1) f r (by omega) (by omega)
    have hc : ((List.range j).map key).contains (key j) = false := by
      simp only [List.contains_eq_mem, decide_eq_false_iff_not, List.mem_map, List.mem_range]
      rintro ⟨i, hi, e⟩
      exact hnd i j hi (by omega) e
    unfold fieldsQ
    rw [gK_succ, List.append_assoc, List.cons_append, List.cons_append, if_neg (by rw [is_pst]; simp), name_pst, then_ok_eq, if_neg (by rw [hc]; decide), take_pst, then_ok_eq, hval j _ (by omega), then_ok_eq]
    rw [List.range_succ, List.map_append, List.map_append] at ih
    exact ih
theorem maxN_at {f : Nat → Nat} : ∀ {n i : Nat}, i < n → f i ≤ maxN f n
  | 0, _, h => by omega
  | n + 1, i, h => by
    unfold maxN
    by_cases e : i = n
    · subst e; omega
    · have := maxN_at (f := f) (n := n) (i := i) (by omega); omega
theorem strs_nil {d : D} (h : (d.f 4).l.length = 0) : strsR d = [] := by
  unfold strsR
  rw [List.length_eq_zero_iff.1 h]; rfl
theorem cnV_leaf {k : Nat} {d : D} (h : (d.f 3).l.length = 0) (h2 : (d.f 4).l.length = 0) : cnV (k + 1) d = valD (d.f 0).n (d.f 1).n (tx (d.f 2).s) [] [] ∧ sizeR (k + 1) d = 1 := by
  unfold cnV sizeR
  rw [h, strs_nil h2]
  exact ⟨rfl, rfl⟩
theorem valK_fst {k : Nat} {d : D} (h : everyL k d = true) : ∃ kk s t, valK k d = (kk, s) :: t ∧ (kk == 1 && s == [93]) = false := by
  cases k with
  | zero => cases h
  | succ k =>
    unfold valK
    repeat' split
    all_goals exact ⟨_, _, _, rfl, rfl⟩
theorem value_pst : ∀ (k f lv : Nat) (d : D) (r : KS) (v : Bool) (n : Nat), everyL k d = true → wideD d → lv + depthR k d ≤ 25 → depthR k d ≤ f → n + sizeR k d ≤ 4096 → (v = false → bareR k d = true) →
    valueQ f lv (pst (valK k d ++ r) v n) = .ok (cnV k d, pst r v (n + sizeR k d))
  | 0, _, _, _, _, _, _, h, _, _, _, _, _ => by cases h
  | k + 1, f, lv, d, r, v, n, h, hw, hlv, hf, hn, hb => by
    obtain ⟨hN, hi⟩ := every_node h
    have hd1 : 1 ≤ depthR (k + 1) d := by unfold depthR; omega
    have hs1 : 1 ≤ sizeR (k + 1) d := by unfold sizeR; omega
    obtain ⟨f, rfl⟩ : ∃ q, f = q + 1 := ⟨f - 1, by omega⟩
    have hdep : ∀ i, i < (d.f 3).l.length → depthR k (gD (d.f 3).l i) + 1 ≤ depthR (k + 1) d := fun i hl => by
      have := maxN_at (f := fun i => depthR k (gD (d.f 3).l i)) hl
      have e : depthR (k + 1) d = maxN (fun i => depthR k (gD (d.f 3).l i)) (d.f 3).l.length + 1 := rfl
      omega
    have hsz : sizeR (k + 1) d = 1 + sumN (fun i => sizeR k (gD (d.f 3).l i)) (d.f 3).l.length := rfl
    have hbar : v = false → (d.f 0).n ≠ 7 ∧ ∀ i, i < (d.f 3).l.length → bareR k (gD (d.f 3).l i) = true := fun e => by
      have := hb e
      unfold bareR at this
      simp only [Bool.and_eq_true, Bool.not_eq_true', beq_eq_false_iff_ne] at this
      exact ⟨this.1, any_no this.2⟩
    have hval : ∀ i r, i < (d.f 3).l.length → valueQ f (lv + 1) (pst (valK k (gD (d.f 3).l i) ++ r) v (n + 1 + sumN (fun i => sizeR k (gD (d.f 3).l i)) i)) = .ok (cnV k (gD (d.f 3).l i), pst r v (n + 1 + sumN (fun i => sizeR k (gD (d.f 3).l i)) (i + 1))) := fun i r hl => by
      have h1 := hdep i hl
      have h2 := sumN_mono (fun i => sizeR k (gD (d.f 3).l i)) (show i + 1 ≤ (d.f 3).l.length by omega)
      have h3 : sumN (fun i => sizeR k (gD (d.f 3).l i)) (i + 1) = sumN (fun i => sizeR k (gD (d.f 3).l i)) i + sizeR k (gD (d.f 3).l i) := rfl
      rw [value_pst k f (lv + 1) _ r v _ (hi i hl) ((hw.f 3).l i) (by omega) (by omega) (by omega) fun e => (hbar e).2 i hl, h3, Nat.add_assoc (n + 1)]
    by_cases k1 : (d.f 0).n = 1
    · have i0 : (d.f 3).l.length = 0 := by rcases hN.items0 with e | e | e <;> omega
      have q0 : (d.f 4).l.length = 0 := by rcases hN.keys0 with e | e <;> omega
      have t0 : tx (d.f 2).s = [] := by rcases hN.txt0 with e | e | e | e <;> first | omega | exact e
      obtain ⟨e1, e2⟩ := cnV_leaf (k := k) i0 q0
      rw [e1, e2, t0, k1]
      unfold valK
      rw [if_pos k1, List.cons_append, List.nil_append, value_hd rfl (by decide) (by omega) (by omega), if_neg (by decide), if_neg (by decide), if_pos rfl]
      rcases hN.bool k1 with e | e
      · rw [e, if_neg (by decide)]; rfl
      · rw [e, if_pos rfl]; rfl
    by_cases k2 : (d.f 0).n = 2
    · have i0 : (d.f 3).l.length = 0 := by rcases hN.items0 with e | e | e <;> omega
      have q0 : (d.f 4).l.length = 0 := by rcases hN.keys0 with e | e <;> omega
      have t0 : tx (d.f 2).s = [] := by rcases hN.txt0 with e | e | e | e <;> first | omega | exact e
      obtain ⟨e1, e2⟩ := cnV_leaf (k := k) i0 q0
      rw [e1, e2, t0, k2]
      unfold valK
      rw [if_neg k1, if_pos k2, List.cons_append, List.nil_append, value_hd rfl (by decide) (by omega) (by omega), if_pos rfl]
      unfold numQ
      rw [num_itoa _ (hw.f 1).n.1 (hw.f 1).n.2]
    by_cases k3 : (d.f 0).n = 3
    · have i0 : (d.f 3).l.length = 0 := by rcases hN.items0 with e | e | e <;> omega
      have q0 : (d.f 4).l.length = 0 := by rcases hN.keys0 with e | e <;> omega
      have n0 : (d.f 1).n = 0 := by rcases hN.int0 with e | e | e <;> omega
      obtain ⟨e1, e2⟩ := cnV_leaf (k := k) i0 q0
      rw [e1, e2, n0, k3]
      unfold valK
      rw [if_neg k1, if_neg k2, if_pos k3, List.cons_append, List.nil_append, value_hd rfl (by decide) (by omega) (by omega), if_neg (by decide), if_pos rfl]
    by_cases k4 : (d.f 0).n = 4
    · have i0 : (d.f 3).l.length = 0 := by rcases hN.items0 with e | e | e <;> omega
      have q0 : (d.f 4).l.length = 0 := by rcases hN.keys0 with e | e <;> omega
      have n0 : (d.f 1).n = 0 := by rcases hN.int0 with e | e | e <;> omega
      obtain ⟨-, w1, w2, w3⟩ := enum_name (hN.enum k4)
      obtain ⟨e1, e2⟩ := cnV_leaf (k := k) i0 q0
      rw [e1, e2, n0, k4]
      unfold valK
      rw [if_neg k1, if_neg k2, if_neg k3, if_pos k4, List.cons_append, List.nil_append, value_hd rfl (by decide) (by omega) (by omega), if_neg (by decide), if_neg (by decide), if_pos rfl]
      unfold wordV
      rw [if_neg w1, if_neg w2, if_neg w3]
    by_cases k7 : (d.f 0).n = 7
    · have i0 : (d.f 3).l.length = 0 := by rcases hN.items0 with e | e | e <;> omega
      have q0 : (d.f 4).l.length = 0 := by rcases hN.keys0 with e | e <;> omega
      have n0 : (d.f 1).n = 0 := by rcases hN.int0 with e | e | e <;> omega
      obtain ⟨e1, e2⟩ := cnV_leaf (k := k) i0 q0
      cases v with
      | false => exact absurd k7 (hbar rfl).1
      | true =>
        rw [e1, e2, n0, k7]
        unfold valK
        rw [if_neg k1, if_neg k2, if_neg k3, if_neg k4, if_pos k7, List.cons_append, List.cons_append, List.nil_append, value_hd rfl (by decide) (by omega) (by omega), if_neg (by decide), if_neg (by decide), if_neg (by decide), if_pos rfl, name_pst]
        rfl
    by_cases k5 : (d.f 0).n = 5
    · have q0 : (d.f 4).l.length = 0 := by rcases hN.keys0 with e | e <;> omega
      have n0 : (d.f 1).n = 0 := by rcases hN.int0 with e | e | e <;> omega
      have t0 : tx (d.f 2).s = [] := by rcases hN.txt0 with e | e | e | e <;> first | omega | exact e
      have hit := items_pst (v := v) hval (fun i r n hl => by
        obtain ⟨kk, s, t, e, hk⟩ := valK_fst (hi i hl)
        rw [e, List.cons_append, is_pst]; exact hk) (d.f 3).l.length 0 ((gK (fun i => valK k (gD (d.f 3).l i)) 0 (d.f 3).l.length ++ (1, [93]) :: r).length + 1) r (by omega) (by
          have := gK_len (fun i => if i < (d.f 3).l.length then valK k (gD (d.f 3).l i) else [(1, [])]) (fun i => by
            split
            · rename_i hl
              obtain ⟨kk, s, t, e, -⟩ := valK_fst (hi i hl)
              rw [e]; simp
            · simp) (d.f 3).l.length 0
          have e2 : gK (fun i => if i < (d.f 3).l.length then valK k (gD (d.f 3).l i) else [(1, [])]) 0 (d.f 3).l.length = gK (fun i => valK k (gD (d.f 3).l i)) 0 (d.f 3).l.length := by
            unfold gK
            rw [List.flatMap_def, List.flatMap_def]
            congr 1
            refine List.map_congr_left fun i hi2 => ?_
            have : i < (d.f 3).l.length := by simpa using List.mem_range'.1 hi2 |>.elim fun x hx => by omega
            rw [if_pos this]
          rw [e2] at this
          rw [List.length_append]
          omega)
      have e0 : n + 1 + sumN (fun i => sizeR k (gD (d.f 3).l i)) 0 = n + 1 := rfl
      rw [e0] at hit
      unfold valK
      rw [if_neg k1, if_neg k2, if_neg k3, if_neg k4, if_neg k7, if_pos k5]
      have ea : (1, [91]) :: (gK (fun i => valK k (gD (d.f 3).l i)) 0 (d.f 3).l.length ++ [(1, [93])]) ++ r = ((1 : Int), [(91 : UInt8)]) :: (gK (fun i => valK k (gD (d.f 3).l i)) 0 (d.f 3).l.length ++ (1, [93]) :: r) := by simp
      rw [ea, value_hd rfl (by decide) (by omega) (by omega), if_neg (by decide), if_neg (by decide), if_neg (by decide), if_neg (by decide), if_pos rfl]
      have hit' : itemsQ (valueQ f (lv + 1)) ((gK (fun i => valK k (gD (d.f 3).l i)) 0 (d.f 3).l.length ++ (1, [93]) :: r).length + 1) [] (pst (gK (fun i => valK k (gD (d.f 3).l i)) 0 (d.f 3).l.length ++ (1, [93]) :: r) v (n + 1)) = _ := hit
      rw [hit', then_ok_eq, hsz, Nat.add_assoc n 1, cnV_succ, k5, n0, t0, strs_nil q0]
    by_cases k6 : (d.f 0).n = 6
    · obtain ⟨-, hlen, hnd⟩ := hN.obj k6
      have n0 : (d.f 1).n = 0 := by rcases hN.int0 with e | e | e <;> omega
      have t0 : tx (d.f 2).s = [] := by rcases hN.txt0 with e | e | e | e <;> first | omega | exact e
      have hst : strsR d = (List.range (d.f 3).l.length).map fun i => tx (gD (d.f 4).l i).s := by
        unfold strsR
        rw [← hlen]
        exact map_range (d.f 4).l fun x => tx x.s
      have hkey : ∀ i j, i < j → j < (d.f 3).l.length → tx (gD (d.f 4).l i).s ≠ tx (gD (d.f 4).l j).s := fun i j hij hj => by
        rw [hst] at hnd
        have := List.pairwise_iff_getElem.1 hnd i j (by simp; omega) (by simp; omega) hij
        simpa using this
      have hit := fields_pst (key := fun i => tx (gD (d.f 4).l i).s) (v := v) hval hkey (d.f 3).l.length 0 ((gK (fun i => (2, tx (gD (d.f 4).l i).s) :: (1, [58]) :: valK k (gD (d.f 3).l i)) 0 (d.f 3).l.length ++ (1, [125]) :: r).length + 1) r (by omega) (by
          have := gK_len (fun i => (2, tx (gD (d.f 4).l i).s) :: (1, [58]) :: valK k (gD (d.f 3).l i)) (fun i => by simp) (d.f 3).l.length 0
          rw [List.length_append]
          omega)
      have e0 : n + 1 + sumN (fun i => sizeR k (gD (d.f 3).l i)) 0 = n + 1 := rfl
      rw [e0] at hit
      unfold valK
      rw [if_neg k1, if_neg k2, if_neg k3, if_neg k4, if_neg k7, if_neg k5, if_pos k6]
      have ea : (1, [123]) :: (gK (fun i => (2, tx (gD (d.f 4).l i).s) :: (1, [58]) :: valK k (gD (d.f 3).l i)) 0 (d.f 3).l.length ++ [(1, [125])]) ++ r = ((1 : Int), [(123 : UInt8)]) :: (gK (fun i => (2, tx (gD (d.f 4).l i).s) :: (1, [58]) :: valK k (gD (d.f 3).l i)) 0 (d.f 3).l.length ++ (1, [125]) :: r) := by simp
      rw [ea, value_hd rfl (by decide) (by omega) (by omega), if_neg (by decide), if_neg (by decide), if_neg (by decide), if_neg (by decide), if_neg (by decide)]
      have hit' : fieldsQ (valueQ f (lv + 1)) ((gK (fun i => (2, tx (gD (d.f 4).l i).s) :: (1, [58]) :: valK k (gD (d.f 3).l i)) 0 (d.f 3).l.length ++ (1, [125]) :: r).length + 1) [] [] (pst (gK (fun i => (2, tx (gD (d.f 4).l i).s) :: (1, [58]) :: valK k (gD (d.f 3).l i)) 0 (d.f 3).l.length ++ (1, [125]) :: r) v (n + 1)) = _ := hit
      rw [hit', then_ok_eq, hsz, Nat.add_assoc n 1, cnV_succ, k6, n0, t0, hst]
    · have kd := hN.kind
      have k0 : (d.f 0).n = 0 := by omega
      have i0 : (d.f 3).l.length = 0 := by rcases hN.items0 with e | e | e <;> omega
      have q0 : (d.f 4).l.length = 0 := by rcases hN.keys0 with e | e <;> omega
      have n0 : (d.f 1).n = 0 := by rcases hN.int0 with e | e | e <;> omega
      have t0 : tx (d.f 2).s = [] := by rcases hN.txt0 with e | e | e | e <;> first | omega | exact e
      obtain ⟨e1, e2⟩ := cnV_leaf (k := k) i0 q0
      rw [e1, e2, n0, t0, k0]
      unfold valK
      rw [if_neg k1, if_neg k2, if_neg k3, if_neg k4, if_neg k7, if_neg k5, if_neg k6, List.cons_append, List.nil_append, value_hd rfl (by decide) (by omega) (by omega), if_neg (by decide), if_neg (by decide), if_pos rfl]
      rfl
theorem whole_pst {d : D} {r : KS} {v : Bool} {n : Nat} (h : litR d = true) (hw : wideD d) (hb : v = false → bareR (bulkD d) d = true) : wholeQ (pst (litK d ++ r) v n) = .ok (cL d, pst r v (sizeR (bulkD d) d)) := by
  unfold litR at h
  simp only [Bool.and_eq_true, decide_eq_true_eq] at h
  have := value_pst (bulkD d) 25 1 d r v 0 h.2 hw (by omega) (by omega) (by omega) hb
  rw [Nat.zero_add] at this
  exact this
def rgD (c : D → D) (l : List D) : List D := (List.range l.length).map fun i => c (gD l i)
def cA (a : D) : D := argD (tx (a.f 0).s) (cL (a.f 1))
def cDir (x : D) : D := dirD (tx (x.f 0).s) (rgD cA (x.f 1).l)
theorem rgD_nil (c : D → D) : rgD c [] = [] := rfl
theorem acc_len (c : Nat → D) (j : Nat) : ((List.range j).map c).length = j := by simp
theorem argsF_pst {l : List D} (h : argsR l = true) (hw : ∀ i, wideD (gD l i)) (h0 : 0 < l.length) : ∀ (m j f : Nat) (r : KS) (n : Nat), j + m = l.length → m < f →
    ∃ n', argsF f ((List.range j).map fun i => cA (gD l i)) (pst (gK (fun i => argK (gD l i)) j m ++ (1, [41]) :: r) true n) = .ok (rgD cA l, pst r true n')
  | _, _, 0, _, _, _, hf => by omega
  | 0, j, f + 1, r, n, hj, _ => by
    have e : j = l.length := by omega
    subst e
    unfold argsF
    rw [acc_len, gK_zero, List.nil_append, if_pos ⟨by omega, is_self _ _ _ _⟩, nx_pst (by decide)]
    exact ⟨n, rfl⟩
  | m + 1, j, f + 1, r, n, hj, hf => by
    obtain ⟨hl, ha⟩ := argsR_all h
    have hj2 : j < l.length := by omega
    obtain ⟨n', ih⟩ := argsF_pst h hw h0 m (j + 1) f r (sizeR (bulkD ((gD l j).f 1)) ((gD l j).f 1)) (by omega) (by omega)
    refine ⟨n', ?_⟩
    unfold argsF
    rw [acc_len, gK_succ, List.append_assoc]
    have e : argK (gD l j) ++ (gK (fun i => argK (gD l i)) (j + 1) m ++ (1, [41]) :: r) = (2, tx ((gD l j).f 0).s) :: (1, [58]) :: (litK ((gD l j).f 1) ++ (gK (fun i => argK (gD l i)) (j + 1) m ++ (1, [41]) :: r)) := rfl
    rw [e, if_neg (fun q => by have := q.2; rw [is_pst] at this; simp at this), if_neg (fun q => by omega), name_pst, then_ok_eq, take_pst, then_ok_eq, whole_pst (ha j hj2).2 ((hw j).f 1) (fun e => by cases e), then_ok_eq]
    rw [List.range_succ, List.map_append] at ih
    exact ih
theorem args_pst {l : List D} (h : argsR l = true) (hw : ∀ i, wideD (gD l i)) {r : KS} (hr : nS r [40]) (n : Nat) : ∃ n', argsQ (pst (parK l ++ r) true n) = .ok (rgD cA l, pst r true n') := by
  unfold argsQ parK
  by_cases h0 : l.length = 0
  · rw [if_pos h0, List.nil_append, if_neg (by rw [hr]; decide)]
    rw [List.length_eq_zero_iff.1 h0]
    exact ⟨n, rfl⟩
  · have e : (1, [40]) :: (rgK argK l ++ [(1, [41])]) ++ r = ((1 : Int), [(40 : UInt8)]) :: (gK (fun i => argK (gD l i)) 0 l.length ++ (1, [41]) :: r) := by simp [rgK]
    rw [if_neg h0, e, if_pos (is_self _ _ _ _), nx_pst (by decide)]
    have hlen := gK_len (fun i => argK (gD l i)) (fun i => by simp [argK]) l.length 0
    exact argsF_pst h hw (by omega) l.length 0 _ r n (by omega) (by simp only [pst, List.length_map, List.length_cons, List.length_append]; omega)
theorem nS_par {l : List D} {r : KS} {s : List UInt8} (h : ([40] == s) = false) (hr : nS r s) : nS (parK l ++ r) s := by
  unfold parK
  split
  · exact hr
  · exact nS_cons (by simpa using h)
theorem dirsF_pst {l : List D} (h : dirsR l = true) (hw : ∀ i, wideD (gD l i)) : ∀ (m j f : Nat) (r : KS) (n : Nat), j + m = l.length → m < f → nS r [64] → nS r [40] →
    ∃ n', dirsF f ((List.range j).map fun i => cDir (gD l i)) (pst (gK (fun i => dirK (gD l i)) j m ++ r) true n) = .ok (rgD cDir l, pst r true n')
  | _, _, 0, _, _, _, hf, _, _ => by omega
  | 0, j, f + 1, r, n, hj, _, h1, _ => by
    have e : j = l.length := by omega
    subst e
    unfold dirsF
    rw [gK_zero, List.nil_append, if_neg (by rw [h1]; decide)]
    exact ⟨n, rfl⟩
  | m + 1, j, f + 1, r, n, hj, hf, h1, h2 => by
    obtain ⟨hl, ha⟩ := dirsR_all h
    have hj2 : j < l.length := by omega
    obtain ⟨n1, e1⟩ := args_pst (ha j hj2).2 (fun i => ((hw j).f 1).l i) (r := gK (fun i => dirK (gD l i)) (j + 1) m ++ r) (nS_gK (fun i r => nS_cons (by decide)) h2) n
    obtain ⟨n', ih⟩ := dirsF_pst h hw m (j + 1) f r n1 (by omega) (by omega) h1 h2
    refine ⟨n', ?_⟩
    unfold dirsF
    rw [acc_len, gK_succ, List.append_assoc]
    have e : dirK (gD l j) ++ (gK (fun i => dirK (gD l i)) (j + 1) m ++ r) = (1, [64]) :: (2, tx ((gD l j).f 0).s) :: (parK ((gD l j).f 1).l ++ (gK (fun i => dirK (gD l i)) (j + 1) m ++ r)) := rfl
    rw [e, if_pos (is_self _ _ _ _), if_neg (by omega), nx_pst (by decide), name_pst, then_ok_eq, e1, then_ok_eq]
    rw [List.range_succ, List.map_append] at ih
    exact ih
theorem dirs_pst {l : List D} (h : dirsR l = true) (hw : ∀ i, wideD (gD l i)) {r : KS} (h1 : nS r [64]) (h2 : nS r [40]) (n : Nat) : ∃ n', dirsQ (pst (rgK dirK l ++ r) true n) = .ok (rgD cDir l, pst r true n') := by
  unfold dirsQ
  have hlen := gK_len (fun i => dirK (gD l i)) (fun i => by simp [dirK]) l.length 0
  exact dirsF_pst h hw l.length 0 _ r n (by omega) (by simp only [pst, List.length_map, List.length_append, rgK]; omega) h1 h2
theorem nS_dirs {l : List D} {r : KS} {s : List UInt8} (h : ([64] == s) = false) (hr : nS r s) : nS (rgK dirK l ++ r) s :=
  nS_gK (fun i r => nS_cons (by simpa using h)) hr
end Go.Proofs.YthjiclhfhjdjpaaGreatDoor
namespace Go.Proofs.YthjiclhfhjdjpaaGreatDoor
def cSel (iC : List D → List D) (s : D) : D := selD (s.f 0).n (tx (s.f 1).s) (tx (s.f 2).s) (tx (s.f 3).s) (rgD cA (s.f 4).l) (rgD cDir (s.f 5).l) (iC (s.f 6).l)
def cSels : Nat → List D → List D
  | 0, _ => []
  | f + 1, l => rgD (cSel (cSels f)) l
theorem cSels_nil : ∀ f, cSels f [] = []
  | 0 => rfl
  | _ + 1 => rfl
/-- what may not stand behind a selection -/
def selEnd (r : KS) : Prop := nS r [64] ∧ nS r [40] ∧ nS r [58] ∧ nS r [123]
theorem blk_end (k r : KS) (s : List UInt8) (h : ([123] == s) = false) : nS (blkK k ++ r) s := nS_cons (by simpa using h)
theorem blk_is (k r : KS) (v : Bool) (n : Nat) : isS (pst (blkK k ++ r) v n) [123] = true := is_self _ _ _ _
theorem sel_pst {sels : PS → PR (List D)} {iK : List D → KS} {iC : List D → List D} {s : D} {sub : List D → Nat → Prop} (h : SelF sub s) (hw : wideD s) (hi0 : iC [] = [])
    (hsub : (s.f 6).l.length ≠ 0 → ∀ r n, ∃ n', sels (pst (blkK (iK (s.f 6).l) ++ r) true n) = .ok (iC (s.f 6).l, pst r true n')) (hin : (s.f 0).n = 3 → (s.f 6).l.length ≠ 0) {r : KS} (hr : selEnd r) (n : Nat) :
    ∃ n', selQ sels (pst (selK iK s ++ r) true n) = .ok (cSel iC s, pst r true n') := by
  obtain ⟨r1, r2, r3, r4⟩ := hr
  have hwd : ∀ i, wideD (gD (s.f 5).l i) := fun i => (hw.f 5).l i
  have hwa : ∀ i, wideD (gD (s.f 4).l i) := fun i => (hw.f 4).l i
  unfold selK
  by_cases k2 : (s.f 0).n = 2
  · obtain ⟨s1, s2, s3, s4, s5, s6⟩ := h.spread k2
    obtain ⟨n1, e1⟩ := dirs_pst h.dirs hwd (r := r) r1 r2 n
    rw [if_pos k2, List.cons_append, List.cons_append]
    unfold selQ
    rw [if_pos (is_self _ _ _ _), nx_pst (by decide)]
    dsimp only
    rw [hd_pst]
    dsimp only
    rw [if_pos ⟨rfl, s6⟩, nx_pst (by decide), e1, then_ok_eq]
    refine ⟨n1, ?_⟩
    unfold cSel
    rw [k2, s1, s2, List.length_eq_zero_iff.1 s3, List.length_eq_zero_iff.1 s4, hi0, rgD_nil]
  rw [if_neg k2]
  by_cases k3 : (s.f 0).n = 3
  · obtain ⟨s1, s2, s3, s4, -⟩ := h.inline k3
    obtain ⟨n1, e1⟩ := dirs_pst h.dirs hwd (r := blkK (iK (s.f 6).l) ++ r) (blk_end _ _ _ (by decide)) (blk_end _ _ _ (by decide)) n
    obtain ⟨n2, e2⟩ := hsub (hin k3) r n1
    rw [if_pos k3]
    by_cases e : tx (s.f 3).s = []
    · have ea : (1, [46, 46, 46]) :: ((if tx (s.f 3).s = [] then [] else [(2, onT), (2, tx (s.f 3).s)]) ++ (rgK dirK (s.f 5).l ++ blkK (iK (s.f 6).l))) ++ r = ((1 : Int), [(46 : UInt8), 46, 46]) :: (rgK dirK (s.f 5).l ++ (blkK (iK (s.f 6).l) ++ r)) := by
        rw [if_pos e]; simp
      have hk : (hdT (pst (rgK dirK (s.f 5).l ++ (blkK (iK (s.f 6).l) ++ r)) true n)).k = 1 := by
        unfold rgK
        cases hl : (s.f 5).l.length with
        | zero => rfl
        | succ m => rw [gK_succ]; rfl
      rw [ea]
      unfold selQ
      rw [if_pos (is_self _ _ _ _), nx_pst (by decide)]
      dsimp only
      rw [if_neg (by rw [hk]; simp), if_neg (by rw [hk]; decide), then_ok_eq, e1, then_ok_eq, e2, then_ok_eq]
      refine ⟨n2, ?_⟩
      unfold cSel
      rw [k3, s1, s2, e, List.length_eq_zero_iff.1 s3, rgD_nil]
    · have ea : (1, [46, 46, 46]) :: ((if tx (s.f 3).s = [] then [] else [(2, onT), (2, tx (s.f 3).s)]) ++ (rgK dirK (s.f 5).l ++ blkK (iK (s.f 6).l))) ++ r = ((1 : Int), [(46 : UInt8), 46, 46]) :: (2, onT) :: (2, tx (s.f 3).s) :: (rgK dirK (s.f 5).l ++ (blkK (iK (s.f 6).l) ++ r)) := by
        rw [if_neg e]; simp
      rw [ea]
      unfold selQ
      rw [if_pos (is_self _ _ _ _), nx_pst (by decide)]
      dsimp only
      rw [hd_pst]
      dsimp only
      rw [if_neg (fun q => q.2 rfl), if_pos rfl, nx_pst (by decide), name_pst, then_ok_eq, e1, then_ok_eq, e2, then_ok_eq]
      refine ⟨n2, ?_⟩
      unfold cSel
      rw [k3, s1, s2, List.length_eq_zero_iff.1 s3, rgD_nil]
  rw [if_neg k3]
  have k1 : (s.f 0).n = 1 := by rcases h.kind with h' | h' | h'; exact h'; exact absurd h' k2; exact absurd h' k3
  obtain ⟨s1, s2, s3, -⟩ := h.field k1
  -- what stands behind the directives
  have hfin : ∀ n, ∃ n', (thenQ (if isS (pst ((if (s.f 6).l.length = 0 then [] else blkK (iK (s.f 6).l)) ++ r) true n) [123] = true then sels (pst ((if (s.f 6).l.length = 0 then [] else blkK (iK (s.f 6).l)) ++ r) true n) else .ok ([], pst ((if (s.f 6).l.length = 0 then [] else blkK (iK (s.f 6).l)) ++ r) true n)) fun ss o => (.ok (selD 1 (tx (s.f 1).s) (tx (s.f 2).s) [] (rgD cA (s.f 4).l) (rgD cDir (s.f 5).l) ss, o) : PR D)) = .ok (cSel iC s, pst r true n') := fun n => by
    by_cases e : (s.f 6).l.length = 0
    · rw [if_pos e, List.nil_append, if_neg (by rw [r4]; decide), then_ok_eq]
      refine ⟨n, ?_⟩
      unfold cSel
      rw [k1, s1, List.length_eq_zero_iff.1 e, hi0]
    · obtain ⟨n', e'⟩ := hsub e r n
      rw [if_neg e, if_pos (blk_is _ _ _ _), e', then_ok_eq]
      refine ⟨n', ?_⟩
      unfold cSel
      rw [k1, s1]
  have hend : ∀ q, ([123] == q) = false → nS r q → nS ((if (s.f 6).l.length = 0 then [] else blkK (iK (s.f 6).l)) ++ r) q := fun q hq hq2 => by
    split
    · exact hq2
    · exact blk_end _ _ _ hq
  have hd1 := hend [64] (by decide) r1
  have hd2 := hend [40] (by decide) r2
  have hd3 := hend [58] (by decide) r3
  generalize hZ : (if (s.f 6).l.length = 0 then [] else blkK (iK (s.f 6).l)) ++ r = Z at *
  obtain ⟨n1, e1⟩ := args_pst h.args hwa (r := rgK dirK (s.f 5).l ++ Z) (nS_dirs (by decide) hd2) n
  obtain ⟨n2, e2⟩ := dirs_pst h.dirs hwd (r := Z) hd1 hd2 n1
  obtain ⟨n3, e3⟩ := hfin n2
  refine ⟨n3, ?_⟩
  have n58 : nS (parK (s.f 4).l ++ (rgK dirK (s.f 5).l ++ Z)) [58] := nS_par (by decide) (nS_dirs (by decide) hd3)
  by_cases e : tx (s.f 1).s = []
  · have ea : (if tx (s.f 1).s = [] then [] else [(2, tx (s.f 1).s), (1, [58])]) ++ ((2, tx (s.f 2).s) :: (parK (s.f 4).l ++ (rgK dirK (s.f 5).l ++ (if (s.f 6).l.length = 0 then [] else blkK (iK (s.f 6).l))))) ++ r = (2, tx (s.f 2).s) :: (parK (s.f 4).l ++ (rgK dirK (s.f 5).l ++ Z)) := by
      rw [if_pos e, ← hZ]; simp
    rw [ea]
    rw [e] at e3
    unfold selQ
    rw [if_neg (by rw [is_pst]; simp), name_pst, then_ok_eq, if_neg (by rw [n58]; decide), then_ok_eq, e1, then_ok_eq, e2, then_ok_eq]
    exact e3
  · have ea : (if tx (s.f 1).s = [] then [] else [(2, tx (s.f 1).s), (1, [58])]) ++ ((2, tx (s.f 2).s) :: (parK (s.f 4).l ++ (rgK dirK (s.f 5).l ++ (if (s.f 6).l.length = 0 then [] else blkK (iK (s.f 6).l))))) ++ r = (2, tx (s.f 1).s) :: (1, [58]) :: (2, tx (s.f 2).s) :: (parK (s.f 4).l ++ (rgK dirK (s.f 5).l ++ Z)) := by
      rw [if_neg e, ← hZ]; simp
    rw [ea]
    unfold selQ
    rw [if_neg (by rw [is_pst]; simp), name_pst, then_ok_eq, if_pos (is_self _ _ _ _), nx_pst (by decide), name_pst, then_ok_eq, then_ok_eq, e1, then_ok_eq, e2, then_ok_eq]
    exact e3
theorem selK_sign (iK : List D → KS) (s : D) (r : KS) {t : List UInt8} (h : ([46, 46, 46] == t) = false) : nS (selK iK s ++ r) t := by
  unfold selK
  split
  · exact nS_cons (by simpa using h)
  split
  · exact nS_cons (by simpa using h)
  · split
    · exact nS_cons (by simp)
    · exact nS_cons (by simp)
theorem selK_ne (iK : List D → KS) (s : D) : 1 ≤ (selK iK s).length := by
  unfold selK
  split
  · simp
  split
  · simp
  · simp
    omega
theorem setQ_pst {sel : PS → PR D} {iK : List D → KS} {c : D → D} {l : List D} (hl : l.length ≤ 64) (h0 : 0 < l.length) (hs : ∀ i r n, i < l.length → selEnd r → ∃ n', sel (pst (selK iK (gD l i) ++ r) true n) = .ok (c (gD l i), pst r true n')) :
    ∀ (m j f : Nat) (r : KS) (n : Nat), j + m = l.length → m < f → ∃ n', setF sel f ((List.range j).map fun i => c (gD l i)) (pst (gK (fun i => selK iK (gD l i)) j m ++ (1, [125]) :: r) true n) = .ok (rgD c l, pst r true n')
  | _, _, 0, _, _, _, hf => by omega
  | 0, j, f + 1, r, n, hj, _ => by
    have e : j = l.length := by omega
    subst e
    unfold setF
    rw [acc_len, gK_zero, List.nil_append, if_pos ⟨by omega, is_self _ _ _ _⟩, nx_pst (by decide)]
    exact ⟨n, rfl⟩
  | m + 1, j, f + 1, r, n, hj, hf => by
    have hj2 : j < l.length := by omega
    have hend : selEnd (gK (fun i => selK iK (gD l i)) (j + 1) m ++ (1, [125]) :: r) :=
      ⟨nS_gK (fun i r => selK_sign _ _ _ (by decide)) (nS_cons (by decide)), nS_gK (fun i r => selK_sign _ _ _ (by decide)) (nS_cons (by decide)),
        nS_gK (fun i r => selK_sign _ _ _ (by decide)) (nS_cons (by decide)), nS_gK (fun i r => selK_sign _ _ _ (by decide)) (nS_cons (by decide))⟩
    obtain ⟨n1, e1⟩ := hs j _ n hj2 hend
    obtain ⟨n', ih⟩ := setQ_pst hl h0 hs m (j + 1) f r n1 (by omega) (by omega)
    refine ⟨n', ?_⟩
    unfold setF
    rw [acc_len, gK_succ, List.append_assoc, if_neg (fun q => by have := q.2; rw [selK_sign iK (gD l j) _ (t := [125]) (by decide)] at this; cases this), if_neg (fun q => by omega), e1, then_ok_eq]
    rw [List.range_succ, List.map_append] at ih
    exact ih
/-- how deep selections are, at most -/
def SDp : Nat → List D → Prop
  | 0, l => l = []
  | f + 1, l => ∀ i, i < l.length → SDp f ((gD l i).f 6).l
theorem SelsOk.sdp {K : Nat} : ∀ {f : Nat} {l : List D}, SelsOk K f l → SDp f l
  | 0, _, h => h
  | _ + 1, _, h => fun i hi => SelsOk.sdp (h i hi).sub
theorem sels_pst : ∀ (f k lv F : Nat) (l : List D), SDp f l → SetF (fun d => selR k lv d = true) lv l 1 → (∀ i, wideD (gD l i)) → F + lv = 26 → ∀ (r : KS) (n : Nat), ∃ n', selsQ F lv (pst (blkK (selsK f l) ++ r) true n) = .ok (cSels f l, pst r true n')
  | 0, _, _, _, l, h, hs, _, _, _, _ => by
    have h : l = [] := h
    subst h
    exact absurd hs.1 (by simp)
  | f + 1, k, lv, F, l, h, hs, hw, hF, r, n => by
    obtain ⟨l1, l2, l3, l4⟩ := hs
    have hlv : lv ≤ 24 := by omega
    obtain ⟨F, rfl⟩ : ∃ q, F = q + 1 := ⟨F - 1, by omega⟩
    have hone : ∀ i r n, i < l.length → selEnd r → ∃ n', selQ (selsQ F (lv + 1)) (pst (selK (selsK f) (gD l i) ++ r) true n) = .ok (cSel (cSels f) (gD l i), pst r true n') := fun i r n hi hr => by
      have h4 := l4 i hi
      cases k with
      | zero => cases h4
      | succ k =>
        have hs := xsel h4
        refine sel_pst hs (hw i) (cSels_nil f) (fun hne r n => ?_) (fun e => ?_) hr n
        · have hset : SetF (fun d => selR k (lv + 1) d = true) (lv + 1) ((gD l i).f 6).l 1 := by
            rcases hs.kind with e | e | e
            · have := (hs.field e).2.2.2; exact ⟨by omega, this.2⟩
            · exact absurd (hs.spread e).2.2.2.1 hne
            · exact (hs.inline e).2.2.2.2
          exact sels_pst f k (lv + 1) F _ (h i hi) hset (fun j => ((hw i).f 6).l j) (by omega) r n
        · have := (hs.inline e).2.2.2.2.1; omega
    have hlen := gK_len (fun i => selK (selsK f) (gD l i)) (fun i => selK_ne _ _) l.length 0
    obtain ⟨n', e'⟩ := setQ_pst (c := cSel (cSels f)) l2 (by omega) hone l.length 0 ((gK (fun i => selK (selsK f) (gD l i)) 0 l.length ++ (1, [125]) :: r).length + 1) r n (by omega) (by rw [List.length_append]; omega)
    refine ⟨n', ?_⟩
    have ea : blkK (selsK (f + 1) l) ++ r = (1, [123]) :: (gK (fun i => selK (selsK f) (gD l i)) 0 l.length ++ (1, [125]) :: r) := by simp [blkK, selsK, rgK]
    rw [ea]
    unfold selsQ
    rw [if_neg (fun q => by omega), take_pst, then_ok_eq]
    rw [show (pst (gK (fun i => selK (selsK f) (gD l i)) 0 l.length ++ (1, [125]) :: r) true n).ts.length = (gK (fun i => selK (selsK f) (gD l i)) 0 l.length ++ (1, [125]) :: r).length by simp [pst]]
    exact e'
theorem set_pst {f k : Nat} {l : List D} (h : SDp f l) (hs : SetF (fun d => selR k 1 d = true) 1 l 1) (hw : ∀ i, wideD (gD l i)) (r : KS) (n : Nat) : ∃ n', setQ (pst (blkK (selsK f l) ++ r) true n) = .ok (cSels f l, pst r true n') :=
  sels_pst f k 1 25 l h hs hw rfl r n
def cVar (v : D) : D := varD (tx (v.f 0).s) (refD (tx ((v.f 1).f 0).s) (((v.f 1).f 1).l.map D.n)) (v.f 2).b (cL (v.f 3))
theorem varsF_pst {l : List D} (h : ∀ i, i < l.length → VarF (gD l i)) (hl : l.length ≤ 16) (hw : ∀ i, wideD (gD l i)) (h0 : 0 < l.length) : ∀ (m j f : Nat) (r : KS) (n : Nat), j + m = l.length → m < f →
    ∃ n', varsF f ((List.range j).map fun i => cVar (gD l i)) (pst (gK (fun i => varK (gD l i)) j m ++ (1, [41]) :: r) true n) = .ok (rgD cVar l, pst r true n')
  | _, _, 0, _, _, _, hf => by omega
  | 0, j, f + 1, r, n, hj, _ => by
    have e : j = l.length := by omega
    subst e
    unfold varsF
    rw [acc_len, gK_zero, List.nil_append, if_pos ⟨by omega, is_self _ _ _ _⟩, nx_pst (by decide)]
    exact ⟨n, rfl⟩
  | m + 1, j, f + 1, r, n, hj, hf => by
    have hj2 : j < l.length := by omega
    have hv := h j hj2
    have ih := fun n => varsF_pst h hl hw h0 m (j + 1) f r n (by omega) (by omega)
    have hrest : ∀ t, ([36] == t) = false → ([41] == t) = false → nS (gK (fun i => varK (gD l i)) (j + 1) m ++ (1, [41]) :: r) t := fun t h1 h2 => nS_gK (fun i r => nS_cons (by simpa using h1)) (nS_cons (by simpa using h2))
    have n33 := hrest [33] (by decide) (by decide)
    have n61 := hrest [61] (by decide) (by decide)
    rw [gK_succ, List.append_assoc]
    rw [List.range_succ, List.map_append] at ih
    generalize hZ : gK (fun i => varK (gD l i)) (j + 1) m ++ (1, [41]) :: r = Z at *
    unfold varsF
    rw [acc_len]
    by_cases hb : ((gD l j).f 2).b = true
    · obtain ⟨b1, b2⟩ := hv.has hb
      obtain ⟨n', e'⟩ := ih (sizeR (bulkD ((gD l j).f 3)) ((gD l j).f 3))
      refine ⟨n', ?_⟩
      have ea : varK (gD l j) ++ Z = (1, [36]) :: (2, tx ((gD l j).f 0).s) :: (1, [58]) :: (refK (tx (((gD l j).f 1).f 0).s) (((gD l j).f 1).f 1).l ++ ((1, [61]) :: (litK ((gD l j).f 3) ++ Z))) := by
        unfold varK; rw [if_pos hb]; simp
      rw [ea, if_neg (fun q => by have := q.2; rw [is_pst] at this; simp at this), if_neg (fun q => by omega), take_pst, then_ok_eq, name_pst, then_ok_eq, take_pst, then_ok_eq, typ_pst hv.wraps hv.rlen (nS_cons (by decide)), then_ok_eq, if_pos (is_self _ _ _ _), nx_pst (by decide)]
      have ew := whole_pst (d := (gD l j).f 3) (r := Z) (v := false) (n := n) b1 ((hw j).f 3) (fun _ => b2)
      rw [show ({ pst (litK ((gD l j).f 3) ++ Z) true n with vr := false } : PS) = pst (litK ((gD l j).f 3) ++ Z) false n from rfl, ew, then_ok_eq, then_ok_eq]
      have ec : cVar (gD l j) = varD (tx ((gD l j).f 0).s) (refD (tx (((gD l j).f 1).f 0).s) ((((gD l j).f 1).f 1).l.map D.n)) true (cL ((gD l j).f 3)) := by unfold cVar; rw [hb]
      rw [List.map_cons, List.map_nil, ec] at e'
      exact e'
    · have hb2 : ((gD l j).f 2).b = false := by simpa using hb
      obtain ⟨b1, b2, b3, b4, b5⟩ := hv.hasnt hb2
      obtain ⟨n', e'⟩ := ih n
      refine ⟨n', ?_⟩
      have ea : varK (gD l j) ++ Z = (1, [36]) :: (2, tx ((gD l j).f 0).s) :: (1, [58]) :: (refK (tx (((gD l j).f 1).f 0).s) (((gD l j).f 1).f 1).l ++ Z) := by
        unfold varK; rw [if_neg hb]; simp
      rw [ea, if_neg (fun q => by have := q.2; rw [is_pst] at this; simp at this), if_neg (fun q => by omega), take_pst, then_ok_eq, name_pst, then_ok_eq, take_pst, then_ok_eq, typ_pst hv.wraps hv.rlen n33, then_ok_eq, if_neg (by rw [n61]; decide), then_ok_eq]
      have ec : cVar (gD l j) = varD (tx ((gD l j).f 0).s) (refD (tx (((gD l j).f 1).f 0).s) ((((gD l j).f 1).f 1).l.map D.n)) false nullD := by
        unfold cVar
        rw [hb2]
        congr 1
        unfold cL
        obtain ⟨k, hk⟩ : ∃ k, bulkD ((gD l j).f 3) = k + 1 := ⟨bulkD ((gD l j).f 3) - 1, by have := bulkD_pos ((gD l j).f 3); omega⟩
        rw [hk, (cnV_leaf (k := k) b4 b5).1, b1, b2, b3]
        rfl
      rw [List.map_cons, List.map_nil, ec] at e'
      exact e'
def cOp (f : Nat) (o : D) : D := opD (o.f 0).n (tx (o.f 1).s) (rgD cVar (o.f 2).l) (cSels f (o.f 3).l)
def cFrag (f : Nat) (o : D) : D := fragD (tx (o.f 0).s) (tx (o.f 1).s) (cSels f (o.f 2).l)
def cDoc (f : Nat) (q : D) : D := queD (rgD (cOp f) (q.f 0).l) (rgD (cFrag f) (q.f 1).l)
theorem word_kind {k : Int} (h : 1 ≤ k ∧ k ≤ 3) : kindQ (wordT k) = k := by
  have : k = 1 ∨ k = 2 ∨ k = 3 := by omega
  rcases this with rfl | rfl | rfl <;> rfl
theorem op_pst {f : Nat} {o : D} (h : OpF o) (hd : SDp f (o.f 3).l) (hw : wideD o) (r : KS) (n : Nat) :
    ∃ n', opQ (o.f 0).n (pst ((if tx (o.f 1).s = [] then [] else [(2, tx (o.f 1).s)]) ++ (varsK (o.f 2).l ++ (blkK (selsK f (o.f 3).l) ++ r))) true n) = .ok (cOp f o, pst r true n') := by
  have hv : ∀ n, ∃ n', (if isS (pst (varsK (o.f 2).l ++ (blkK (selsK f (o.f 3).l) ++ r)) true n) [40] = true then varsF (pst (varsK (o.f 2).l ++ (blkK (selsK f (o.f 3).l) ++ r)) true n).ts.length [] (nxT (pst (varsK (o.f 2).l ++ (blkK (selsK f (o.f 3).l) ++ r)) true n)) else .ok ([], pst (varsK (o.f 2).l ++ (blkK (selsK f (o.f 3).l) ++ r)) true n)) = (.ok (rgD cVar (o.f 2).l, pst (blkK (selsK f (o.f 3).l) ++ r) true n') : PR (List D)) := fun n => by
    unfold varsK
    by_cases h0 : (o.f 2).l.length = 0
    · rw [if_pos h0, List.nil_append, if_neg (by rw [blk_end _ _ _ (by decide)]; decide), List.length_eq_zero_iff.1 h0]
      exact ⟨n, rfl⟩
    · have e : (1, [40]) :: (rgK varK (o.f 2).l ++ [(1, [41])]) ++ (blkK (selsK f (o.f 3).l) ++ r) = ((1 : Int), [(40 : UInt8)]) :: (gK (fun i => varK (gD (o.f 2).l i)) 0 (o.f 2).l.length ++ (1, [41]) :: (blkK (selsK f (o.f 3).l) ++ r)) := by simp [rgK]
      have hlen := gK_len (fun i => varK (gD (o.f 2).l i)) (fun i => by simp [varK]) (o.f 2).l.length 0
      rw [if_neg h0, e, if_pos (is_self _ _ _ _), nx_pst (by decide)]
      exact varsF_pst h.vars h.vlen (fun i => (hw.f 2).l i) (by omega) _ 0 _ _ n (by omega) (by simp only [pst, List.length_map, List.length_cons, List.length_append]; omega)
  have key : ∀ n, ∃ n', (thenQ (if isS (pst (varsK (o.f 2).l ++ (blkK (selsK f (o.f 3).l) ++ r)) true n) [40] = true then varsF (pst (varsK (o.f 2).l ++ (blkK (selsK f (o.f 3).l) ++ r)) true n).ts.length [] (nxT (pst (varsK (o.f 2).l ++ (blkK (selsK f (o.f 3).l) ++ r)) true n)) else .ok ([], pst (varsK (o.f 2).l ++ (blkK (selsK f (o.f 3).l) ++ r)) true n)) fun vs z => thenQ (setQ z) fun ss u => (.ok (opD (o.f 0).n (tx (o.f 1).s) vs ss, u) : PR D)) = .ok (cOp f o, pst r true n') := fun n => by
    obtain ⟨n1, e1⟩ := hv n
    obtain ⟨n2, e2⟩ := set_pst hd h.sels (fun i => (hw.f 3).l i) r n1
    rw [e1, then_ok_eq, e2, then_ok_eq]
    exact ⟨n2, rfl⟩
  unfold opQ
  by_cases e : tx (o.f 1).s = []
  · have hk : (hdT (pst (varsK (o.f 2).l ++ (blkK (selsK f (o.f 3).l) ++ r)) true n)).k = 1 := by
      unfold varsK
      split <;> rfl
    obtain ⟨n', e'⟩ := key n
    rw [if_pos e, List.nil_append, if_neg (by rw [hk]; decide), then_ok_eq]
    rw [e] at e'
    exact ⟨n', e'⟩
  · obtain ⟨n', e'⟩ := key n
    rw [if_neg e, List.cons_append, List.nil_append, hd_pst, if_pos rfl, nx_pst (by decide), then_ok_eq]
    exact ⟨n', e'⟩
theorem frag_pst {f : Nat} {o : D} (h : FragF o) (hd : SDp f (o.f 2).l) (hw : wideD o) (r : KS) (n : Nat) :
    ∃ n', fragQ (pst ((2, tx (o.f 0).s) :: (2, onT) :: (2, tx (o.f 1).s) :: (blkK (selsK f (o.f 2).l) ++ r)) true n) = .ok (cFrag f o, pst r true n') := by
  obtain ⟨n2, e2⟩ := set_pst hd h.sels (fun i => (hw.f 2).l i) r n
  unfold fragQ
  rw [hd_pst]
  dsimp only
  rw [if_neg (show ¬ tx (o.f 0).s = onT from h.notOn), name_pst, then_ok_eq, hd_pst, if_pos ⟨rfl, rfl⟩, nx_pst (by decide), name_pst, then_ok_eq, e2, then_ok_eq]
  exact ⟨n2, rfl⟩
theorem opK_ne (f : Nat) (o : D) : 1 ≤ (opK f o).length := by
  unfold opK
  split <;> simp [blkK]
theorem frgK_ne (f : Nat) (o : D) : 1 ≤ (frgK f o).length := by simp [frgK]
/-- what a document asks -/
structure QuePs (f : Nat) (q : D) : Prop where
  right : QueF q
  wide : wideD q
  ops : ∀ i, i < (q.f 0).l.length → SDp f ((gD (q.f 0).l i).f 3).l
  frags : ∀ i, i < (q.f 1).l.length → SDp f ((gD (q.f 1).l i).f 2).l
theorem docF_frags {f : Nat} {q : D} (h : QuePs f q) : ∀ (m j F : Nat) (n : Nat), j + m = (q.f 1).l.length → m < F →
    ∃ z, docF F ((q.f 0).l.length + j) (rgD (cOp f) (q.f 0).l) ((List.range j).map fun i => cFrag f (gD (q.f 1).l i)) (pst (gK (fun i => frgK f (gD (q.f 1).l i)) j m ++ [endK5]) true n) = .ok ((rgD (cOp f) (q.f 0).l, rgD (cFrag f) (q.f 1).l), z)
  | _, _, 0, _, _, hf => by omega
  | 0, j, F + 1, n, hj, _ => by
    have e : j = (q.f 1).l.length := by omega
    subst e
    have hl := h.right.len
    unfold docF
    rw [gK_zero, List.nil_append, if_pos ⟨by omega, rfl⟩]
    exact ⟨_, rfl⟩
  | m + 1, j, F + 1, n, hj, hf => by
    have hj2 : j < (q.f 1).l.length := by omega
    have hl := h.right.len
    obtain ⟨n1, e1⟩ := frag_pst (h.right.frags j hj2) (h.frags j hj2) ((h.wide.f 1).l j) (gK (fun i => frgK f (gD (q.f 1).l i)) (j + 1) m ++ [endK5]) n
    obtain ⟨z, ih⟩ := docF_frags h m (j + 1) F n1 (by omega) (by omega)
    refine ⟨z, ?_⟩
    have ea : gK (fun i => frgK f (gD (q.f 1).l i)) j (m + 1) ++ [endK5] = (2, fragT) :: (2, tx ((gD (q.f 1).l j).f 0).s) :: (2, onT) :: (2, tx ((gD (q.f 1).l j).f 1).s) :: (blkK (selsK f ((gD (q.f 1).l j).f 2).l) ++ (gK (fun i => frgK f (gD (q.f 1).l i)) (j + 1) m ++ [endK5])) := by
      rw [gK_succ]; simp [frgK]
    unfold docF
    rw [ea, hd_pst]
    dsimp only
    rw [if_neg (fun q => by have := q.2; simp at this), if_neg (fun q => q.1 ⟨rfl, .inr rfl⟩), if_neg (by omega), if_neg (fun q => q ⟨rfl, .inr rfl⟩), if_neg (by decide), nx_pst (by decide), e1, then_ok_eq]
    rw [List.range_succ, List.map_append] at ih
    exact ih
theorem docF_ops {f : Nat} {q : D} (h : QuePs f q) : ∀ (m j F : Nat) (n : Nat), j + m = (q.f 0).l.length → m + (q.f 1).l.length < F →
    ∃ z, docF F j ((List.range j).map fun i => cOp f (gD (q.f 0).l i)) [] (pst (gK (fun i => opK f (gD (q.f 0).l i)) j m ++ (rgK (frgK f) (q.f 1).l ++ [endK5])) true n) = .ok ((rgD (cOp f) (q.f 0).l, rgD (cFrag f) (q.f 1).l), z)
  | _, _, 0, _, _, hf => by omega
  | 0, j, F + 1, n, hj, hF => by
    have e : j = (q.f 0).l.length := by omega
    subst e
    rw [gK_zero, List.nil_append]
    have := docF_frags h (q.f 1).l.length 0 (F + 1) n (by omega) (by omega)
    exact this
  | m + 1, j, F + 1, n, hj, hf => by
    have hj2 : j < (q.f 0).l.length := by omega
    have hl := h.right.len
    have ho := h.right.ops j hj2
    rw [gK_succ, List.append_assoc]
    by_cases ha : ((gD (q.f 0).l j).f 0).n = 1 ∧ tx ((gD (q.f 0).l j).f 1).s = [] ∧ ((gD (q.f 0).l j).f 2).l.length = 0
    · obtain ⟨n1, e1⟩ := set_pst (h.ops j hj2) ho.sels (fun i => (((h.wide.f 0).l j).f 3).l i) (gK (fun i => opK f (gD (q.f 0).l i)) (j + 1) m ++ (rgK (frgK f) (q.f 1).l ++ [endK5])) n
      obtain ⟨z, ih⟩ := docF_ops h m (j + 1) F n1 (by omega) (by omega)
      refine ⟨z, ?_⟩
      have ea : opK f (gD (q.f 0).l j) = blkK (selsK f ((gD (q.f 0).l j).f 3).l) := by unfold opK; rw [if_pos ha]
      have hk : ∀ Z, hdT (pst (blkK (selsK f ((gD (q.f 0).l j).f 3).l) ++ Z) true n) = ⟨1, [123], 0⟩ := fun Z => rfl
      unfold docF
      rw [ea, hk]
      dsimp only
      rw [if_neg (fun q => by have := q.2; simp at this), if_neg (fun q => q.2 (blk_is _ _ _ _)), if_neg (by omega), if_pos (fun q => by have := q.1; simp at this), e1, then_ok_eq]
      rw [List.range_succ, List.map_append, List.map_cons, List.map_nil] at ih
      have ec : cOp f (gD (q.f 0).l j) = opD 1 [] [] (cSels f ((gD (q.f 0).l j).f 3).l) := by
        unfold cOp
        rw [ha.1, ha.2.1, List.length_eq_zero_iff.1 ha.2.2]; rfl
      rw [ec] at ih
      exact ih
    · obtain ⟨n1, e1⟩ := op_pst ho (h.ops j hj2) ((h.wide.f 0).l j) (gK (fun i => opK f (gD (q.f 0).l i)) (j + 1) m ++ (rgK (frgK f) (q.f 1).l ++ [endK5])) n
      obtain ⟨z, ih⟩ := docF_ops h m (j + 1) F n1 (by omega) (by omega)
      refine ⟨z, ?_⟩
      have ea : opK f (gD (q.f 0).l j) ++ (gK (fun i => opK f (gD (q.f 0).l i)) (j + 1) m ++ (rgK (frgK f) (q.f 1).l ++ [endK5])) = (2, wordT ((gD (q.f 0).l j).f 0).n) :: ((if tx ((gD (q.f 0).l j).f 1).s = [] then [] else [(2, tx ((gD (q.f 0).l j).f 1).s)]) ++ (varsK ((gD (q.f 0).l j).f 2).l ++ (blkK (selsK f ((gD (q.f 0).l j).f 3).l) ++ (gK (fun i => opK f (gD (q.f 0).l i)) (j + 1) m ++ (rgK (frgK f) (q.f 1).l ++ [endK5]))))) := by
        unfold opK; rw [if_neg ha]; simp
      have hk := word_kind ho.kind
      have hkp : 0 < kindQ (wordT ((gD (q.f 0).l j).f 0).n) := by rw [hk]; have := ho.kind; omega
      unfold docF
      rw [ea, hd_pst]
      dsimp only
      rw [if_neg (fun q => by have := q.2; simp at this), if_neg (fun q => q.1 ⟨rfl, .inl hkp⟩), if_neg (by omega), if_neg (fun q => q ⟨rfl, .inl hkp⟩), if_pos hkp, nx_pst (by decide), hk, e1, then_ok_eq]
      rw [List.range_succ, List.map_append] at ih
      exact ih
theorem doc_pst {f : Nat} {q : D} (h : QuePs f q) : ∃ z, docQ ((docK f q ++ [endK5]).map mkT) = .ok ((rgD (cOp f) (q.f 0).l, rgD (cFrag f) (q.f 1).l), z) := by
  have h1 := gK_len (fun i => opK f (gD (q.f 0).l i)) (fun i => opK_ne _ _) (q.f 0).l.length 0
  have h2 := gK_len (fun i => frgK f (gD (q.f 1).l i)) (fun i => frgK_ne _ _) (q.f 1).l.length 0
  have := docF_ops h (q.f 0).l.length 0 (((docK f q ++ [endK5]).map mkT).length + 1) 0 (by omega) (by
    simp only [docK, rgK, List.length_map, List.length_append]; omega)
  unfold docQ
  rw [show gK (fun i => opK f (gD (q.f 0).l i)) 0 (q.f 0).l.length ++ (rgK (frgK f) (q.f 1).l ++ [endK5]) = docK f q ++ [endK5] by simp [docK, rgK]] at this
  exact this
end Go.Proofs.YthjiclhfhjdjpaaGreatDoor
namespace Go.Proofs.YthjiclhfhjdjpaaGreatDoor
open Go.RowKit
set_option maxRecDepth 100000 in
theorem fits_s {k : Nat} {d : D} (h : Fits Tryz.prog k 9 d) : ∃ s, d = .str s := by
  cases k with
  | zero => exact h.elim
  | succ k => unfold Fits at h; rw [Tryz.underlying9] at h; exact h
set_option maxRecDepth 100000 in
theorem fits_i {k : Nat} {d : D} (h : Fits Tryz.prog k 3 d) : ∃ n, d = .int n := by
  cases k with
  | zero => exact h.elim
  | succ k => unfold Fits at h; rw [Tryz.underlying3] at h; exact h
set_option maxRecDepth 100000 in
theorem fits_b {k : Nat} {d : D} (h : Fits Tryz.prog k 4 d) : ∃ n, d = .bool n := by
  cases k with
  | zero => exact h.elim
  | succ k => unfold Fits at h; rw [Tryz.underlying4] at h; exact h
theorem fits_l {P : Program} {t e : TypeId} (hu : P.underlying t = some (.slice e)) {k : Nat} {d : D} (h : Fits P k t d) : ∃ j l, d = .list l ∧ ∀ i, i < l.length → Fits P j e (gD l i) := by
  cases k with
  | zero => exact h.elim
  | succ k => unfold Fits at h; rw [hu] at h; exact ⟨k, h⟩
theorem fits_o {P : Program} {t : TypeId} {fs : Array Field} (hu : P.underlying t = some (.struct fs)) {k : Nat} {d : D} (h : Fits P k t d) : ∃ j l, d = .obj l ∧ l.length = fs.size ∧ ∀ i f, fs[i]? = some f → Fits P j f.type (gD l i) := by
  cases k with
  | zero => exact h.elim
  | succ k => unfold Fits at h; rw [hu] at h; exact ⟨k, h⟩
theorem len2 {l : List D} (h : l.length = 2) : l = [gD l 0, gD l 1] := by
  match l, h with
  | [a, b], _ => rfl
theorem len3 {l : List D} (h : l.length = 3) : l = [gD l 0, gD l 1, gD l 2] := by
  match l, h with
  | [a, b, c], _ => rfl
theorem len4 {l : List D} (h : l.length = 4) : l = [gD l 0, gD l 1, gD l 2, gD l 3] := by
  match l, h with
  | [a, b, c, d], _ => rfl
theorem len5 {l : List D} (h : l.length = 5) : l = [gD l 0, gD l 1, gD l 2, gD l 3, gD l 4] := by
  match l, h with
  | [a, b, c, d, e], _ => rfl
theorem len7 {l : List D} (h : l.length = 7) : l = [gD l 0, gD l 1, gD l 2, gD l 3, gD l 4, gD l 5, gD l 6] := by
  match l, h with
  | [a, b, c, d, e, f, g], _ => rfl
theorem str_tx (s : ByteArray) : strD (tx s) = .str s := by unfold strD tx; simp
theorem rgD_id {c : D → D} {l : List D} (h : ∀ i, i < l.length → c (gD l i) = gD l i) : rgD c l = l := by
  unfold rgD
  apply List.ext_getElem (by simp)
  intro i h1 h2
  have := h i h2
  rw [gD_get h2] at this
  simp [gD_get h2, this]
theorem map_id_gD {c : D → D} {l : List D} (h : ∀ i, i < l.length → c (gD l i) = gD l i) : l.map c = l := by
  have := rgD_id h
  unfold rgD at this
  have e : l.map c = (List.range l.length).map fun i => c (gD l i) := by
    apply List.ext_getElem (by simp)
    intro i h1 h2
    simp [gD_get (l := l) (i := i) (by simpa using h1)]
  rw [e, this]
theorem cnV_id : ∀ (k : Nat) {j : Nat} {d : D}, Fits Tryz.prog j 84 d → cnV k d = d
  | 0, _, _, _ => rfl
  | k + 1, j, d, h => by
    obtain ⟨j, l, rfl, hl, hf⟩ := fits_o Tryz.underlying84 h
    have hl : l.length = 5 := hl
    obtain ⟨n0, e0⟩ := fits_i (hf 0 _ rfl)
    obtain ⟨n1, e1⟩ := fits_i (hf 1 _ rfl)
    obtain ⟨s2, e2⟩ := fits_s (hf 2 _ rfl)
    obtain ⟨j3, l3, e3, h3⟩ := fits_l Tryz.underlying82 (hf 3 _ rfl)
    obtain ⟨j4, l4, e4, h4⟩ := fits_l Tryz.underlying22 (hf 4 _ rfl)
    rw [len5 hl, e0, e1, e2, e3, e4]
    show valD n0 n1 (tx s2) ((List.range l3.length).map fun i => cnV k (gD l3 i)) (l4.map fun x => x.s.data.toList) = _
    have a : ((List.range l3.length).map fun i => cnV k (gD l3 i)) = l3 := rgD_id fun i hi => cnV_id k (h3 i hi)
    have b : (l4.map fun x => x.s.data.toList).map strD = l4 := by
      rw [List.map_map]
      refine map_id_gD fun i hi => ?_
      obtain ⟨s, e⟩ := fits_s (h4 i hi)
      rw [e]
      exact str_tx s
    unfold valD
    rw [a, b, str_tx]
theorem cL_id {j : Nat} {d : D} (h : Fits Tryz.prog j 84 d) : cL d = d := cnV_id _ h
theorem cA_id {j : Nat} {d : D} (h : Fits Tryz.prog j 86 d) : cA d = d := by
  obtain ⟨j, l, rfl, hl, hf⟩ := fits_o Tryz.underlying86 h
  have hl : l.length = 2 := hl
  obtain ⟨s0, e0⟩ := fits_s (hf 0 _ rfl)
  have h1 : Fits Tryz.prog j 84 (gD l 1) := hf 1 _ rfl
  rw [len2 hl, e0]
  show argD (tx s0) (cL (gD l 1)) = _
  rw [cL_id h1]
  unfold argD
  rw [str_tx]
theorem cDir_id {j : Nat} {d : D} (h : Fits Tryz.prog j 150 d) : cDir d = d := by
  obtain ⟨j, l, rfl, hl, hf⟩ := fits_o Tryz.underlying150 h
  have hl : l.length = 2 := hl
  obtain ⟨s0, e0⟩ := fits_s (hf 0 _ rfl)
  obtain ⟨j1, l1, e1, h1⟩ := fits_l Tryz.underlying69 (hf 1 _ rfl)
  rw [len2 hl, e0, e1]
  show dirD (tx s0) (rgD cA l1) = _
  rw [rgD_id fun i hi => cA_id (h1 i hi)]
  unfold dirD
  rw [str_tx]
theorem cSels_id : ∀ (f : Nat) {j : Nat} {l : List D}, SDp f l → (∀ i, i < l.length → Fits Tryz.prog j 76 (gD l i)) → cSels f l = l
  | 0, _, l, h, _ => by
    have h : l = [] := h
    subst h; rfl
  | f + 1, j, l, hd, h => by
    refine rgD_id fun i hi => ?_
    have hs := hd i hi
    obtain ⟨j, q, eq, hl, hf⟩ := fits_o Tryz.underlying76 (h i hi)
    rw [eq] at hs ⊢
    have hl : q.length = 7 := hl
    obtain ⟨n0, e0⟩ := fits_i (hf 0 _ rfl)
    obtain ⟨s1, e1⟩ := fits_s (hf 1 _ rfl)
    obtain ⟨s2, e2⟩ := fits_s (hf 2 _ rfl)
    obtain ⟨s3, e3⟩ := fits_s (hf 3 _ rfl)
    obtain ⟨j4, l4, e4, h4⟩ := fits_l Tryz.underlying69 (hf 4 _ rfl)
    obtain ⟨j5, l5, e5, h5⟩ := fits_l Tryz.underlying74 (hf 5 _ rfl)
    obtain ⟨j6, l6, e6, h6⟩ := fits_l Tryz.underlying55 (hf 6 _ rfl)
    have hs : SDp f ((gD q 6).l) := hs
    rw [e6] at hs
    have hs : SDp f l6 := hs
    rw [len7 hl, e0, e1, e2, e3, e4, e5, e6]
    show selD n0 (tx s1) (tx s2) (tx s3) (rgD cA l4) (rgD cDir l5) (cSels f l6) = _
    rw [rgD_id fun i hi => cA_id (h4 i hi), rgD_id fun i hi => cDir_id (h5 i hi), cSels_id f hs h6]
    unfold selD
    rw [str_tx, str_tx, str_tx]
theorem cVar_id {j : Nat} {d : D} (h : Fits Tryz.prog j 88 d) : cVar d = d := by
  obtain ⟨j, l, rfl, hl, hf⟩ := fits_o Tryz.underlying88 h
  have hl : l.length = 4 := hl
  obtain ⟨s0, e0⟩ := fits_s (hf 0 _ rfl)
  obtain ⟨j1, l1, e1, hl1, hf1⟩ := fits_o Tryz.underlying71 (hf 1 _ rfl)
  have hl1 : l1.length = 2 := hl1
  obtain ⟨b2, e2⟩ := fits_b (hf 2 _ rfl)
  have h3 : Fits Tryz.prog j 84 (gD l 3) := hf 3 _ rfl
  obtain ⟨s1, e10⟩ := fits_s (hf1 0 _ rfl)
  obtain ⟨j2, w1, e11, hw1⟩ := fits_l Tryz.underlying32 (hf1 1 _ rfl)
  rw [len4 hl, e0, e1, e2, len2 hl1, e10, e11]
  show varD (tx s0) (refD (tx s1) (w1.map D.n)) b2 (cL (gD l 3)) = _
  have b : (w1.map D.n).map D.int = w1 := by
    rw [List.map_map]
    refine map_id_gD fun i hi => ?_
    obtain ⟨n, e⟩ := fits_i (hw1 i hi)
    rw [e]; rfl
  rw [cL_id h3]
  unfold varD refD
  rw [str_tx, str_tx, b]
theorem cDoc_id {f : Nat} {j : Nat} {d : D} (h : Fits Tryz.prog j 41 d) (ho : ∀ i, i < (d.f 0).l.length → SDp f ((gD (d.f 0).l i).f 3).l) (hg : ∀ i, i < (d.f 1).l.length → SDp f ((gD (d.f 1).l i).f 2).l) : cDoc f d = d := by
  obtain ⟨j, l, rfl, hl, hf⟩ := fits_o Tryz.underlying41 h
  have hl : l.length = 2 := hl
  obtain ⟨j0, l0, e0, h0⟩ := fits_l Tryz.underlying38 (hf 0 _ rfl)
  obtain ⟨j1, l1, e1, h1⟩ := fits_l Tryz.underlying39 (hf 1 _ rfl)
  have ho : ∀ i, i < (gD l 0).l.length → SDp f ((gD (gD l 0).l i).f 3).l := ho
  have hg : ∀ i, i < (gD l 1).l.length → SDp f ((gD (gD l 1).l i).f 2).l := hg
  rw [e0] at ho
  rw [e1] at hg
  rw [len2 hl, e0, e1]
  show queD (rgD (cOp f) l0) (rgD (cFrag f) l1) = _
  have a : rgD (cOp f) l0 = l0 := rgD_id fun i hi => by
    have hs := ho i hi
    obtain ⟨j, q, eq, hl, hf⟩ := fits_o Tryz.underlying57 (h0 i hi)
    have hs : SDp f ((gD l0 i).f 3).l := hs
    rw [eq] at hs ⊢
    have hl : q.length = 4 := hl
    obtain ⟨n0, e0⟩ := fits_i (hf 0 _ rfl)
    obtain ⟨s1, e1⟩ := fits_s (hf 1 _ rfl)
    obtain ⟨j2, l2, e2, h2⟩ := fits_l Tryz.underlying54 (hf 2 _ rfl)
    obtain ⟨j3, l3, e3, h3⟩ := fits_l Tryz.underlying55 (hf 3 _ rfl)
    have hs : SDp f ((gD q 3).l) := hs
    rw [e3] at hs
    have hs : SDp f l3 := hs
    rw [len4 hl, e0, e1, e2, e3]
    show opD n0 (tx s1) (rgD cVar l2) (cSels f l3) = _
    rw [rgD_id fun i hi => cVar_id (h2 i hi), cSels_id f hs h3]
    unfold opD
    rw [str_tx]
  have b : rgD (cFrag f) l1 = l1 := rgD_id fun i hi => by
    have hs := hg i hi
    obtain ⟨j, q, eq, hl, hf⟩ := fits_o Tryz.underlying116 (h1 i hi)
    have hs : SDp f ((gD l1 i).f 2).l := hs
    rw [eq] at hs ⊢
    have hl : q.length = 3 := hl
    obtain ⟨s0, e0⟩ := fits_s (hf 0 _ rfl)
    obtain ⟨s1, e1⟩ := fits_s (hf 1 _ rfl)
    obtain ⟨j2, l2, e2, h2⟩ := fits_l Tryz.underlying55 (hf 2 _ rfl)
    have hs : SDp f ((gD q 2).l) := hs
    rw [e2] at hs
    have hs : SDp f l2 := hs
    rw [len3 hl, e0, e1, e2]
    show fragD (tx s0) (tx s1) (cSels f l2) = _
    rw [cSels_id f hs h2]
    unfold fragD
    rw [str_tx, str_tx]
  rw [a, b]
  rfl
end Go.Proofs.YthjiclhfhjdjpaaGreatDoor
namespace Go.Proofs.YthjiclhfhjdjpaaGreatDoor
open Go.RowKit
theorem cmpIt_self {f : D → D → Int} (d : D) (h : ∀ x, f x x = 0) : ∀ (j i : Nat), cmpIt f d d j i = 0
  | 0, _ => by simp [cmpIt, ordI]
  | j + 1, i => by
    unfold cmpIt
    rw [(cmpB_zero _ _).2 rfl, h]
    simp [cmpIt_self d h j]
theorem cmpV_self : ∀ (m : Nat) (d : D), cmpV m d d = 0
  | 0, _ => rfl
  | m + 1, d => by
    have e : cmp0 d d = 0 := by simp [cmp0, ordI, (cmpB_zero _ _).2 rfl]
    rw [cmpV_0, e]
    simpa using cmpIt_self d (cmpV_self m) _ _
theorem eqL_self {f : D → D → Bool} {l : List D} (h : ∀ i, i < l.length → f (gD l i) (gD l i) = true) : eqL f l l = true := eqL_all rfl h
theorem sEq_self (a : D) : sEq a a = true := by simp [sEq]
theorem valEq_self (a : D) : valEq a a = true := by simp [valEq, cmpV_self]
theorem argEq_self (a : D) : argEq a a = true := by simp [argEq, sEq_self, valEq_self]
theorem dirEq_self (a : D) : dirEq a a = true := by
  unfold dirEq
  rw [sEq_self, eqL_self fun i _ => argEq_self _]; rfl
theorem varEq_self (a : D) : varEq a a = true := by
  unfold varEq refEq
  rw [sEq_self, sEq_self, valEq_self, eqL_self fun i _ => by simp [intEq]]; simp
theorem selEq_self : ∀ (k : Nat) (a : D), bulkD a < k → selEq k a a = true
  | 0, _, h => by omega
  | k + 1, a, h => by
    unfold selEq
    rw [sEq_self, sEq_self, sEq_self, eqL_self fun i _ => argEq_self _, eqL_self fun i _ => dirEq_self _, eqL_self fun i hi => selEq_self k _ (by have := fld_bulk a 6; have := itm_bulk hi (Nat.le_refl _); omega)]
    simp
theorem queEq_self {k : Nat} {a b : List D} (ha : bulkL a ≤ k) (hb : bulkL b ≤ k) : queEq k a b a b = true := by
  unfold queEq
  rw [eqL_self fun i hi => ?_, eqL_self fun i hi => ?_]; rfl
  · unfold frgEq
    have h1 := itm_bulk hi hb
    rw [sEq_self, sEq_self, eqL_self fun q hq => selEq_self k _ (by have := fld_bulk (gD b i) 2; have := itm_bulk hq (Nat.le_refl _); omega)]
    rfl
  · unfold opEq
    have h1 := itm_bulk hi ha
    rw [sEq_self, eqL_self fun i _ => varEq_self _, eqL_self fun q hq => selEq_self k _ (by have := fld_bulk (gD a i) 3; have := itm_bulk hq (Nat.le_refl _); omega)]
    simp
theorem list_eq {l m : List D} (hl : l.length = m.length) (h : ∀ i, i < l.length → gD l i = gD m i) : l = m := by
  apply List.ext_getElem hl
  intro i h1 h2
  have := h i h1
  rwa [gD_get h1, gD_get h2] at this
theorem eqL_list {f : D → D → Bool} {l m : List D} (h : eqL f l m = true) (hf : ∀ i, i < l.length → f (gD l i) (gD m i) = true → gD l i = gD m i) : l = m := by
  obtain ⟨h1, h2⟩ := eqL_true.1 h
  exact list_eq h1 fun i hi => hf i hi (h2 i hi)
theorem sEq_eq {a b : ByteArray} (h : sEq (.str a) (.str b) = true) : a = b := by
  have h : (a.toList == b.toList) = true := h
  rw [beq_iff_eq, toL_tx, toL_tx] at h
  exact Go.WideShapes.bytes_inj h
theorem cmpIt_zero {f : D → D → Int} {a b : D} : ∀ (j i : Nat), cmpIt f a b j i = 0 → (a.f 3).l.length = (b.f 3).l.length ∧ ∀ q, i ≤ q → q < i + j → tx (keyD a q) = tx (keyD b q) ∧ f (gD (a.f 3).l q) (gD (b.f 3).l q) = 0
  | 0, i, h => ⟨by have := ordI_zero.1 h; omega, fun q h1 h2 => by omega⟩
  | j + 1, i, h => by
    unfold cmpIt at h
    by_cases h1 : Lib.compareBytes (tx (keyD a i)) (tx (keyD b i)) = 0
    · rw [if_neg (by simp [h1])] at h
      by_cases h2 : f (gD (a.f 3).l i) (gD (b.f 3).l i) = 0
      · rw [if_neg (by simp [h2])] at h
        obtain ⟨e1, e2⟩ := cmpIt_zero j (i + 1) h
        refine ⟨e1, fun q hq hq2 => ?_⟩
        by_cases e : q = i
        · subst e; exact ⟨(cmpB_zero _ _).1 h1, h2⟩
        · exact e2 q (by omega) (by omega)
      · rw [if_pos (by simpa using h2)] at h
        exact absurd h h2
    · rw [if_pos (by simpa using h1)] at h
      exact absurd h h1
theorem cmpV_zero {m : Nat} {a b : D} (h : cmpV (m + 1) a b = 0) : (a.f 0).n = (b.f 0).n ∧ (a.f 1).n = (b.f 1).n ∧ tx (a.f 2).s = tx (b.f 2).s ∧ (a.f 3).l.length = (b.f 3).l.length ∧ ∀ q, q < (a.f 3).l.length → tx (keyD a q) = tx (keyD b q) ∧ cmpV m (gD (a.f 3).l q) (gD (b.f 3).l q) = 0 := by
  rw [cmpV_0] at h
  by_cases h0 : cmp0 a b = 0
  · rw [if_pos (by simp [h0])] at h
    obtain ⟨e1, e2⟩ := cmpIt_zero _ _ h
    have e3 : (a.f 0).n = (b.f 0).n := by
      unfold cmp0 at h0
      by_cases q : ordI (a.f 0).n (b.f 0).n = 0
      · exact ordI_zero.1 q
      · rw [if_neg (by simpa using q)] at h0; exact absurd h0 q
    unfold cmp0 at h0
    rw [if_pos (by simp [ordI_zero.2 e3])] at h0
    have e4 : (a.f 1).n = (b.f 1).n := by
      by_cases q : ordI (a.f 1).n (b.f 1).n = 0
      · exact ordI_zero.1 q
      · rw [if_neg (by simpa using q)] at h0; exact absurd h0 q
    rw [if_pos (by simp [ordI_zero.2 e4])] at h0
    exact ⟨e3, e4, (cmpB_zero _ _).1 h0, e1, fun q hq => e2 q (Nat.zero_le _) (by omega)⟩
  · rw [if_neg (by simpa using h0)] at h
    exact absurd h h0
theorem tx_inj {a b : ByteArray} (h : tx a = tx b) : a = b := Go.WideShapes.bytes_inj h
theorem node_keys {a b : D} (ha : nodeL a = true) (hb : nodeL b = true) (hk : (a.f 0).n = (b.f 0).n) (hl : (a.f 3).l.length = (b.f 3).l.length) : (a.f 4).l.length = (b.f 4).l.length ∧ (a.f 4).l.length ≤ (a.f 3).l.length := by
  have na := xnode ha
  have nb := xnode hb
  by_cases h : (a.f 0).n = 6
  · have h1 := (na.obj h).2.1
    have h2 := (nb.obj (by rw [← hk]; exact h)).2.1
    omega
  · have h1 := na.keys0.resolve_left h
    have h2 := nb.keys0.resolve_left (by rw [← hk]; exact h)
    omega
theorem val_eq : ∀ (m : Nat) {k1 k2 j1 j2 : Nat} {a b : D}, Dp m a → everyL k1 a = true → everyL k2 b = true → Fits Tryz.prog j1 84 a → Fits Tryz.prog j2 84 b → cmpV m a b = 0 → a = b
  | 0, _, _, _, _, _, _, h, _, _, _, _, _ => h.elim
  | m + 1, 0, _, _, _, _, _, _, h, _, _, _, _ => by cases h
  | m + 1, _ + 1, 0, _, _, _, _, _, _, h, _, _, _ => by cases h
  | m + 1, k1 + 1, k2 + 1, j1, j2, a, b, hd, ha, hb, fa, fb, h => by
    obtain ⟨c0, c1, c2, c3, c4⟩ := cmpV_zero h
    unfold everyL at ha hb
    rw [Bool.and_eq_true, Bool.not_eq_true'] at ha hb
    obtain ⟨q1, q2⟩ := node_keys ha.1 hb.1 c0 c3
    have ia := any_no ha.2
    have ib := any_no hb.2
    obtain ⟨j, l, rfl, hl, hf⟩ := fits_o Tryz.underlying84 fa
    obtain ⟨j', l', rfl, hl', hf'⟩ := fits_o Tryz.underlying84 fb
    have hl : l.length = 5 := hl
    have hl' : l'.length = 5 := hl'
    obtain ⟨n0, e0⟩ := fits_i (hf 0 _ rfl)
    obtain ⟨n1, e1⟩ := fits_i (hf 1 _ rfl)
    obtain ⟨s2, e2⟩ := fits_s (hf 2 _ rfl)
    obtain ⟨j3, l3, e3, h3⟩ := fits_l Tryz.underlying82 (hf 3 _ rfl)
    obtain ⟨j4, l4, e4, h4⟩ := fits_l Tryz.underlying22 (hf 4 _ rfl)
    obtain ⟨n0', e0'⟩ := fits_i (hf' 0 _ rfl)
    obtain ⟨n1', e1'⟩ := fits_i (hf' 1 _ rfl)
    obtain ⟨s2', e2'⟩ := fits_s (hf' 2 _ rfl)
    obtain ⟨j3', l3', e3', h3'⟩ := fits_l Tryz.underlying82 (hf' 3 _ rfl)
    obtain ⟨j4', l4', e4', h4'⟩ := fits_l Tryz.underlying22 (hf' 4 _ rfl)
    have el := len5 hl
    rw [e0, e1, e2, e3, e4] at el
    have el' := len5 hl'
    rw [e0', e1', e2', e3', e4'] at el'
    subst el
    subst el'
    have c0 : n0 = n0' := c0
    have c1 : n1 = n1' := c1
    have c2 : tx s2 = tx s2' := c2
    have c3 : l3.length = l3'.length := c3
    have q1 : l4.length = l4'.length := q1
    have q2 : l4.length ≤ l3.length := q2
    have c4 : ∀ q, q < l3.length → tx (keyD (.obj [.int n0, .int n1, .str s2, .list l3, .list l4]) q) = tx (keyD (.obj [.int n0', .int n1', .str s2', .list l3', .list l4']) q) ∧ cmpV m (gD l3 q) (gD l3' q) = 0 := c4
    have hd : ∀ i, i < l3.length → Dp m (gD l3 i) := hd
    have ia : ∀ i, i < l3.length → everyL k1 (gD l3 i) = true := ia
    have ib : ∀ i, i < l3'.length → everyL k2 (gD l3' i) = true := ib
    have r3 : l3 = l3' := list_eq c3 fun i hi => val_eq m (hd i hi) (ia i hi) (ib i (by omega)) (h3 i hi) (h3' i (by omega)) (c4 i hi).2
    have r4 : l4 = l4' := list_eq q1 fun i hi => by
      obtain ⟨s, x1⟩ := fits_s (h4 i hi)
      obtain ⟨s', x2⟩ := fits_s (h4' i (by omega))
      have t := tx_inj (c4 i (by omega)).1
      unfold keyD at t
      have t : (if i < l4.length then (gD l4 i).s else ⟨#[]⟩) = (if i < l4'.length then (gD l4' i).s else ⟨#[]⟩) := t
      rw [if_pos hi, if_pos (by omega), x1, x2] at t
      have t : s = s' := t
      rw [x1, x2, t]
    rw [c0, c1, tx_inj c2, r3, r4]
end Go.Proofs.YthjiclhfhjdjpaaGreatDoor
namespace Go.Proofs.YthjiclhfhjdjpaaGreatDoor
open Go.RowKit
theorem lit_eq {j1 j2 : Nat} {a b : D} (ha : litR a = true) (hb : litR b = true) (fa : Fits Tryz.prog j1 84 a) (fb : Fits Tryz.prog j2 84 b) (h : valEq a b = true) : a = b := by
  unfold litR at ha hb
  rw [Bool.and_eq_true] at ha hb
  exact val_eq (bulkD a + bulkD b) (dp_bulk _ _ (by omega)) ha.2 hb.2 fa fb (by simpa [valEq] using h)
theorem arg_eq {j1 j2 : Nat} {a b : D} (ha : argR a = true) (hb : argR b = true) (fa : Fits Tryz.prog j1 86 a) (fb : Fits Tryz.prog j2 86 b) (h : argEq a b = true) : a = b := by
  unfold argR at ha hb
  unfold argEq at h
  rw [Bool.and_eq_true] at ha hb h
  obtain ⟨j, l, rfl, hl, hf⟩ := fits_o Tryz.underlying86 fa
  obtain ⟨j', l', rfl, hl', hf'⟩ := fits_o Tryz.underlying86 fb
  have hl : l.length = 2 := hl
  have hl' : l'.length = 2 := hl'
  obtain ⟨s0, e0⟩ := fits_s (hf 0 _ rfl)
  obtain ⟨s0', e0'⟩ := fits_s (hf' 0 _ rfl)
  have f1 : Fits Tryz.prog j 84 (gD l 1) := hf 1 _ rfl
  have f1' : Fits Tryz.prog j' 84 (gD l' 1) := hf' 1 _ rfl
  have c0 : sEq (gD l 0) (gD l' 0) = true := h.1
  rw [e0, e0'] at c0
  have c1 := lit_eq (a := gD l 1) (b := gD l' 1) ha.2 hb.2 f1 f1' h.2
  rw [len2 hl, len2 hl', e0, e0', sEq_eq c0, c1]
theorem argL_eq {j1 j2 : Nat} {l m : List D} (ha : argsR l = true) (hb : argsR m = true) (fa : ∀ i, i < l.length → Fits Tryz.prog j1 86 (gD l i)) (fb : ∀ i, i < m.length → Fits Tryz.prog j2 86 (gD m i)) (h : eqL argEq l m = true) : l = m := by
  unfold argsR at ha hb
  rw [Bool.and_eq_true, Bool.not_eq_true'] at ha hb
  have hl := (eqL_true.1 h).1
  exact eqL_list h fun i hi => arg_eq (any_no ha.2 i hi) (any_no hb.2 i (by omega)) (fa i hi) (fb i (by omega))
theorem dir_eq {j1 j2 : Nat} {a b : D} (ha : dirR a = true) (hb : dirR b = true) (fa : Fits Tryz.prog j1 150 a) (fb : Fits Tryz.prog j2 150 b) (h : dirEq a b = true) : a = b := by
  unfold dirR at ha hb
  unfold dirEq at h
  rw [Bool.and_eq_true] at ha hb h
  obtain ⟨j, l, rfl, hl, hf⟩ := fits_o Tryz.underlying150 fa
  obtain ⟨j', l', rfl, hl', hf'⟩ := fits_o Tryz.underlying150 fb
  have hl : l.length = 2 := hl
  have hl' : l'.length = 2 := hl'
  obtain ⟨s0, e0⟩ := fits_s (hf 0 _ rfl)
  obtain ⟨s0', e0'⟩ := fits_s (hf' 0 _ rfl)
  obtain ⟨j1, l1, e1, h1⟩ := fits_l Tryz.underlying69 (hf 1 _ rfl)
  obtain ⟨j1', l1', e1', h1'⟩ := fits_l Tryz.underlying69 (hf' 1 _ rfl)
  have c0 : sEq (gD l 0) (gD l' 0) = true := h.1
  rw [e0, e0'] at c0
  have c1 : eqL argEq (gD l 1).l (gD l' 1).l = true := h.2
  have ha2 : argsR (gD l 1).l = true := ha.2
  have hb2 : argsR (gD l' 1).l = true := hb.2
  rw [e1] at c1 ha2
  rw [e1'] at c1 hb2
  have c1 : l1 = l1' := argL_eq ha2 hb2 h1 h1' c1
  rw [len2 hl, len2 hl', e0, e0', e1, e1', sEq_eq c0, c1]
theorem dirL_eq {j1 j2 : Nat} {l m : List D} (ha : dirsR l = true) (hb : dirsR m = true) (fa : ∀ i, i < l.length → Fits Tryz.prog j1 150 (gD l i)) (fb : ∀ i, i < m.length → Fits Tryz.prog j2 150 (gD m i)) (h : eqL dirEq l m = true) : l = m := by
  unfold dirsR at ha hb
  rw [Bool.and_eq_true, Bool.not_eq_true'] at ha hb
  have hl := (eqL_true.1 h).1
  exact eqL_list h fun i hi => dir_eq (any_no ha.2 i hi) (any_no hb.2 i (by omega)) (fa i hi) (fb i (by omega))
theorem sel_sub {k lv : Nat} {d : D} (h : selR (k + 1) lv d = true) : ∀ i, i < (d.f 6).l.length → selR k (lv + 1) (gD (d.f 6).l i) = true := by
  have s := xsel h
  intro i hi
  rcases s.kind with e | e | e
  · exact (s.field e).2.2.2.2.2.2 i hi
  · have := (s.spread e).2.2.2.1; omega
  · exact (s.inline e).2.2.2.2.2.2.2 i hi
theorem sel_eq : ∀ (m : Nat) {k1 k2 lv1 lv2 j1 j2 : Nat} {a b : D}, selR k1 lv1 a = true → selR k2 lv2 b = true → Fits Tryz.prog j1 76 a → Fits Tryz.prog j2 76 b → selEq m a b = true → a = b
  | 0, _, _, _, _, _, _, _, _, _, _, _, _, h => by cases h
  | m + 1, 0, _, _, _, _, _, _, _, h, _, _, _, _ => by cases h
  | m + 1, _ + 1, 0, _, _, _, _, _, _, _, h, _, _, _ => by cases h
  | m + 1, k1 + 1, k2 + 1, lv1, lv2, j1, j2, a, b, ha, hb, fa, fb, h => by
    have sa := xsel ha
    have sb := xsel hb
    have ua := sel_sub ha
    have ub := sel_sub hb
    have a4 := sa.args
    have a5 := sa.dirs
    have b4 := sb.args
    have b5 := sb.dirs
    clear sa sb ha hb
    unfold selEq at h
    simp only [Bool.and_eq_true] at h
    obtain ⟨c0, c1, c2, c3, c4, c5, c6⟩ := h
    obtain ⟨j, q, rfl, hl, hf⟩ := fits_o Tryz.underlying76 fa
    obtain ⟨j', q', rfl, hl', hf'⟩ := fits_o Tryz.underlying76 fb
    have hl : q.length = 7 := hl
    have hl' : q'.length = 7 := hl'
    obtain ⟨n0, e0⟩ := fits_i (hf 0 _ rfl)
    obtain ⟨s1, e1⟩ := fits_s (hf 1 _ rfl)
    obtain ⟨s2, e2⟩ := fits_s (hf 2 _ rfl)
    obtain ⟨s3, e3⟩ := fits_s (hf 3 _ rfl)
    obtain ⟨j4, l4, e4, h4⟩ := fits_l Tryz.underlying69 (hf 4 _ rfl)
    obtain ⟨j5, l5, e5, h5⟩ := fits_l Tryz.underlying74 (hf 5 _ rfl)
    obtain ⟨j6, l6, e6, h6⟩ := fits_l Tryz.underlying55 (hf 6 _ rfl)
    obtain ⟨n0', e0'⟩ := fits_i (hf' 0 _ rfl)
    obtain ⟨s1', e1'⟩ := fits_s (hf' 1 _ rfl)
    obtain ⟨s2', e2'⟩ := fits_s (hf' 2 _ rfl)
    obtain ⟨s3', e3'⟩ := fits_s (hf' 3 _ rfl)
    obtain ⟨j4', l4', e4', h4'⟩ := fits_l Tryz.underlying69 (hf' 4 _ rfl)
    obtain ⟨j5', l5', e5', h5'⟩ := fits_l Tryz.underlying74 (hf' 5 _ rfl)
    obtain ⟨j6', l6', e6', h6'⟩ := fits_l Tryz.underlying55 (hf' 6 _ rfl)
    have el := len7 hl
    rw [e0, e1, e2, e3, e4, e5, e6] at el
    have el' := len7 hl'
    rw [e0', e1', e2', e3', e4', e5', e6'] at el'
    clear hf hf' hl hl' e0 e1 e2 e3 e4 e5 e6 e0' e1' e2' e3' e4' e5' e6'
    subst el
    subst el'
    have c0 : n0 = n0' := eq_of_beq (show (n0 == n0') = true from c0)
    have c1 : s1 = s1' := sEq_eq c1
    have c2 : s2 = s2' := sEq_eq c2
    have c3 : s3 = s3' := sEq_eq c3
    have c4 : l4 = l4' := argL_eq a4 b4 h4 h4' c4
    have c5 : l5 = l5' := dirL_eq a5 b5 h5 h5' c5
    have c6 : eqL (selEq m) l6 l6' = true := c6
    have ua : ∀ i, i < l6.length → selR k1 (lv1 + 1) (gD l6 i) = true := ua
    have ub : ∀ i, i < l6'.length → selR k2 (lv2 + 1) (gD l6' i) = true := ub
    have hlen := (eqL_true.1 c6).1
    have c6 : l6 = l6' := eqL_list c6 fun i hi => sel_eq m (ua i hi) (ub i (by omega)) (h6 i hi) (h6' i (by omega))
    rw [c0, c1, c2, c3, c4, c5, c6]
theorem selL_eq {m k1 k2 n1 n2 lv1 lv2 j1 j2 : Nat} {l l' : List D} (ha : SetF (fun d => selR k1 lv1 d = true) n1 l 1) (hb : SetF (fun d => selR k2 lv2 d = true) n2 l' 1) (fa : ∀ i, i < l.length → Fits Tryz.prog j1 76 (gD l i)) (fb : ∀ i, i < l'.length → Fits Tryz.prog j2 76 (gD l' i)) (h : eqL (selEq m) l l' = true) : l = l' := by
  have hl := (eqL_true.1 h).1
  exact eqL_list h fun i hi => sel_eq m (ha.2.2.2 i hi) (hb.2.2.2 i (by omega)) (fa i hi) (fb i (by omega))
theorem null_eq {j1 : Nat} {d : D} (f : Fits Tryz.prog j1 84 d) (h : (d.f 0).n = 0 ∧ (d.f 1).n = 0 ∧ tx (d.f 2).s = [] ∧ (d.f 3).l.length = 0 ∧ (d.f 4).l.length = 0) : d = .obj [.int 0, .int 0, .str ⟨#[]⟩, .list [], .list []] := by
  obtain ⟨j, l, rfl, hl, hf⟩ := fits_o Tryz.underlying84 f
  have hl : l.length = 5 := hl
  obtain ⟨n0, e0⟩ := fits_i (hf 0 _ rfl)
  obtain ⟨n1, e1⟩ := fits_i (hf 1 _ rfl)
  obtain ⟨s2, e2⟩ := fits_s (hf 2 _ rfl)
  obtain ⟨j3, l3, e3, h3⟩ := fits_l Tryz.underlying82 (hf 3 _ rfl)
  obtain ⟨j4, l4, e4, h4⟩ := fits_l Tryz.underlying22 (hf 4 _ rfl)
  have el := len5 hl
  rw [e0, e1, e2, e3, e4] at el
  clear hf hl e0 e1 e2 e3 e4
  subst el
  obtain ⟨q0, q1, q2, q3, q4⟩ := h
  have q0 : n0 = 0 := q0
  have q1 : n1 = 0 := q1
  have q2 : s2 = ⟨#[]⟩ := tx_inj q2
  have q3 : l3 = [] := List.eq_nil_of_length_eq_zero q3
  have q4 : l4 = [] := List.eq_nil_of_length_eq_zero q4
  rw [q0, q1, q2, q3, q4]
theorem var_eq {j1 j2 : Nat} {a b : D} (ha : VarF a) (hb : VarF b) (fa : Fits Tryz.prog j1 88 a) (fb : Fits Tryz.prog j2 88 b) (h : varEq a b = true) : a = b := by
  have va := ha.has
  have na := ha.hasnt
  have vb := hb.has
  have nb := hb.hasnt
  clear ha hb
  unfold varEq refEq at h
  simp only [Bool.and_eq_true] at h
  obtain ⟨c0, ⟨c1, c2⟩, c3, c4⟩ := h
  obtain ⟨j, l, rfl, hl, hf⟩ := fits_o Tryz.underlying88 fa
  obtain ⟨j', l', rfl, hl', hf'⟩ := fits_o Tryz.underlying88 fb
  have hl : l.length = 4 := hl
  have hl' : l'.length = 4 := hl'
  obtain ⟨s0, e0⟩ := fits_s (hf 0 _ rfl)
  obtain ⟨jr, r, e1, hr, hfr⟩ := fits_o Tryz.underlying71 (hf 1 _ rfl)
  have hr : r.length = 2 := hr
  obtain ⟨b2, e2⟩ := fits_b (hf 2 _ rfl)
  have h3 : Fits Tryz.prog j 84 (gD l 3) := hf 3 _ rfl
  obtain ⟨t0, e10⟩ := fits_s (hfr 0 _ rfl)
  obtain ⟨jw, w, e11, hw⟩ := fits_l Tryz.underlying32 (hfr 1 _ rfl)
  obtain ⟨s0', e0'⟩ := fits_s (hf' 0 _ rfl)
  obtain ⟨jr', r', e1', hr', hfr'⟩ := fits_o Tryz.underlying71 (hf' 1 _ rfl)
  have hr' : r'.length = 2 := hr'
  obtain ⟨b2', e2'⟩ := fits_b (hf' 2 _ rfl)
  have h3' : Fits Tryz.prog j' 84 (gD l' 3) := hf' 3 _ rfl
  obtain ⟨t0', e10'⟩ := fits_s (hfr' 0 _ rfl)
  obtain ⟨jw', w', e11', hw'⟩ := fits_l Tryz.underlying32 (hfr' 1 _ rfl)
  have er := len2 hr
  rw [e10, e11] at er
  have er' := len2 hr'
  rw [e10', e11'] at er'
  subst er
  subst er'
  have el := len4 hl
  rw [e0, e1, e2] at el
  have el' := len4 hl'
  rw [e0', e1', e2'] at el'
  generalize gD l 3 = d at el h3
  generalize gD l' 3 = d' at el' h3'
  clear hf hf' hl hl' e0 e1 e2 e0' e1' e2' hfr hfr' e10 e11 e10' e11'
  subst el
  subst el'
  have d0 : s0 = s0' := sEq_eq c0
  have d1 : t0 = t0' := sEq_eq c1
  have c2 : eqL intEq w w' = true := c2
  have hlen := (eqL_true.1 c2).1
  have d2 : w = w' := eqL_list c2 fun i hi q => by
    obtain ⟨x, ex⟩ := fits_i (hw i hi)
    obtain ⟨y, ey⟩ := fits_i (hw' i (by omega))
    rw [ex, ey] at q ⊢
    have q : x = y := eq_of_beq (show (x == y) = true from q)
    rw [q]
  have c3 : b2 = b2' := eq_of_beq (show (b2 == b2') = true from c3)
  have c4 : valEq d d' = true := c4
  have va : b2 = true → litR d = true ∧ _ := va
  have vb : b2' = true → litR d' = true ∧ _ := vb
  have na : b2 = false → _ := na
  have nb : b2' = false → _ := nb
  subst c3
  have d4 : d = d' := by
    cases b2 with
    | true => exact lit_eq (va rfl).1 (vb rfl).1 h3 h3' c4
    | false => rw [null_eq h3 (na rfl), null_eq h3' (nb rfl)]
  rw [d0, d1, d2, d4]
theorem op_eq {m j1 j2 : Nat} {a b : D} (ha : OpF a) (hb : OpF b) (fa : Fits Tryz.prog j1 57 a) (fb : Fits Tryz.prog j2 57 b) (h : opEq m a b = true) : a = b := by
  have va := ha.vars
  have sa := ha.sels
  have vb := hb.vars
  have sb := hb.sels
  clear ha hb
  unfold opEq at h
  simp only [Bool.and_eq_true] at h
  obtain ⟨c0, c1, c2, c3⟩ := h
  obtain ⟨j, l, rfl, hl, hf⟩ := fits_o Tryz.underlying57 fa
  obtain ⟨j', l', rfl, hl', hf'⟩ := fits_o Tryz.underlying57 fb
  have hl : l.length = 4 := hl
  have hl' : l'.length = 4 := hl'
  obtain ⟨n0, e0⟩ := fits_i (hf 0 _ rfl)
  obtain ⟨s1, e1⟩ := fits_s (hf 1 _ rfl)
  obtain ⟨j2, l2, e2, h2⟩ := fits_l Tryz.underlying54 (hf 2 _ rfl)
  obtain ⟨j3, l3, e3, h3⟩ := fits_l Tryz.underlying55 (hf 3 _ rfl)
  obtain ⟨n0', e0'⟩ := fits_i (hf' 0 _ rfl)
  obtain ⟨s1', e1'⟩ := fits_s (hf' 1 _ rfl)
  obtain ⟨j2', l2', e2', h2'⟩ := fits_l Tryz.underlying54 (hf' 2 _ rfl)
  obtain ⟨j3', l3', e3', h3'⟩ := fits_l Tryz.underlying55 (hf' 3 _ rfl)
  have el := len4 hl
  rw [e0, e1, e2, e3] at el
  have el' := len4 hl'
  rw [e0', e1', e2', e3'] at el'
  clear hf hf' hl hl' e0 e1 e2 e3 e0' e1' e2' e3'
  subst el
  subst el'
  have c0 : n0 = n0' := eq_of_beq (show (n0 == n0') = true from c0)
  have c1 : s1 = s1' := sEq_eq c1
  have c2 : eqL varEq l2 l2' = true := c2
  have hlen := (eqL_true.1 c2).1
  have va : ∀ i, i < l2.length → VarF (gD l2 i) := va
  have vb : ∀ i, i < l2'.length → VarF (gD l2' i) := vb
  have c2 : l2 = l2' := eqL_list c2 fun i hi => var_eq (va i hi) (vb i (by omega)) (h2 i hi) (h2' i (by omega))
  have c3 : l3 = l3' := selL_eq sa sb h3 h3' c3
  rw [c0, c1, c2, c3]
theorem frag_eq {m j1 j2 : Nat} {a b : D} (ha : FragF a) (hb : FragF b) (fa : Fits Tryz.prog j1 116 a) (fb : Fits Tryz.prog j2 116 b) (h : frgEq m a b = true) : a = b := by
  have sa := ha.sels
  have sb := hb.sels
  clear ha hb
  unfold frgEq at h
  simp only [Bool.and_eq_true] at h
  obtain ⟨c0, c1, c2⟩ := h
  obtain ⟨j, l, rfl, hl, hf⟩ := fits_o Tryz.underlying116 fa
  obtain ⟨j', l', rfl, hl', hf'⟩ := fits_o Tryz.underlying116 fb
  have hl : l.length = 3 := hl
  have hl' : l'.length = 3 := hl'
  obtain ⟨s0, e0⟩ := fits_s (hf 0 _ rfl)
  obtain ⟨s1, e1⟩ := fits_s (hf 1 _ rfl)
  obtain ⟨j2, l2, e2, h2⟩ := fits_l Tryz.underlying55 (hf 2 _ rfl)
  obtain ⟨s0', e0'⟩ := fits_s (hf' 0 _ rfl)
  obtain ⟨s1', e1'⟩ := fits_s (hf' 1 _ rfl)
  obtain ⟨j2', l2', e2', h2'⟩ := fits_l Tryz.underlying55 (hf' 2 _ rfl)
  have el := len3 hl
  rw [e0, e1, e2] at el
  have el' := len3 hl'
  rw [e0', e1', e2'] at el'
  clear hf hf' hl hl' e0 e1 e2 e0' e1' e2'
  subst el
  subst el'
  have c0 : s0 = s0' := sEq_eq c0
  have c1 : s1 = s1' := sEq_eq c1
  have c2 : l2 = l2' := selL_eq sa sb h2 h2' c2
  rw [c0, c1, c2]
theorem que_eq {m j1 j2 : Nat} {a b c d : List D} (ha : queR (.obj [.list a, .list b]) = true) (hb : queR (.obj [.list c, .list d]) = true) (fa : Fits Tryz.prog j1 41 (.obj [.list a, .list b])) (fb : Fits Tryz.prog j2 41 (.obj [.list c, .list d])) (h : queEq m a b c d = true) : a = c ∧ b = d := by
  have qa := xque ha
  have qb := xque hb
  unfold queEq at h
  rw [Bool.and_eq_true] at h
  obtain ⟨h1, h2⟩ := h
  obtain ⟨j, l, e, hl, hf⟩ := fits_o Tryz.underlying41 fa
  obtain ⟨j', l', e', hl', hf'⟩ := fits_o Tryz.underlying41 fb
  cases e
  cases e'
  obtain ⟨j0, l0, e0, f0⟩ := fits_l Tryz.underlying38 (hf 0 _ rfl)
  obtain ⟨j1, l1, e1, f1⟩ := fits_l Tryz.underlying39 (hf 1 _ rfl)
  obtain ⟨j0', l0', e0', f0'⟩ := fits_l Tryz.underlying38 (hf' 0 _ rfl)
  obtain ⟨j1', l1', e1', f1'⟩ := fits_l Tryz.underlying39 (hf' 1 _ rfl)
  have e0 : D.list a = .list l0 := e0
  have e1 : D.list b = .list l1 := e1
  have e0' : D.list c = .list l0' := e0'
  have e1' : D.list d = .list l1' := e1'
  cases e0; cases e1; cases e0'; cases e1'
  have n1 := (eqL_true.1 h1).1
  have n2 := (eqL_true.1 h2).1
  exact ⟨eqL_list h1 fun i hi => op_eq (qa.ops i hi) (qb.ops i (show i < c.length by omega)) (f0 i hi) (f0' i (by omega)),
    eqL_list h2 fun i hi => frag_eq (qa.frags i hi) (qb.frags i (show i < d.length by omega)) (f1 i hi) (f1' i (by omega))⟩
theorem docT_inj {K f j1 j2 : Nat} {p q : D} (hp : queR p = true) (dp : DocOk K f p) (fp : Fits Tryz.prog j1 41 p) (hq : queR q = true) (dq : DocOk K f q) (fq : Fits Tryz.prog j2 41 q) (e : docT K (f + 1) p = docT K (f + 1) q) : p = q := by
  have lex : ∀ q, queR q = true → DocOk K f q → Lex (docT K (f + 1) q) (docK (f + 1) q) := fun q hq hd => by
    have := docT_ps (xque hq) hd.vars hd.sels hd.frag [] [] (.done rfl)
    rwa [List.append_nil, List.append_nil] at this
  obtain ⟨ts, h1, h2⟩ := (lex p hp dp).scan ((docT K (f + 1) p).length + 1) 0 (by omega)
  have lq := lex q hq dq
  rw [← e] at lq
  obtain ⟨ts', h3, h4⟩ := lq.scan ((docT K (f + 1) p).length + 1) 0 (by omega)
  rw [h1] at h3
  cases h3
  have hk := h2.symm.trans h4
  obtain ⟨z1, w1⟩ := doc_pst (f := f + 1) (q := p) ⟨xque hp, dp.wide, fun i hi => (dp.sels i hi).sdp, fun i hi => (dp.frag i hi).sdp⟩
  obtain ⟨z2, w2⟩ := doc_pst (f := f + 1) (q := q) ⟨xque hq, dq.wide, fun i hi => (dq.sels i hi).sdp, fun i hi => (dq.frag i hi).sdp⟩
  rw [hk, w2] at w1
  have hc : cDoc (f + 1) p = cDoc (f + 1) q := by
    unfold cDoc
    have w1 := Except.ok.inj w1
    have a1 := congrArg (fun x => x.1.1) w1
    have a2 := congrArg (fun x => x.1.2) w1
    have a1 : rgD (cOp (f + 1)) (q.f 0).l = rgD (cOp (f + 1)) (p.f 0).l := a1
    have a2 : rgD (cFrag (f + 1)) (q.f 1).l = rgD (cFrag (f + 1)) (p.f 1).l := a2
    rw [a1, a2]
  rwa [cDoc_id fp (fun i hi => (dp.sels i hi).sdp) (fun i hi => (dp.frag i hi).sdp), cDoc_id fq (fun i hi => (dq.sels i hi).sdp) (fun i hi => (dq.frag i hi).sdp)] at hc
end Go.Proofs.YthjiclhfhjdjpaaGreatDoor
