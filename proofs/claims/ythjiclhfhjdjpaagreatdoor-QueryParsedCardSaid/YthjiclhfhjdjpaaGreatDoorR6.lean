/- Parts of a proof, merged by a program (shake.py). -/
import Derived.WalkSmall
import Derived.Test.YthjiclhfhjdjpaaGreatDoorR5
set_option linter.unusedVariables false
set_option linter.unusedSimpArgs false
namespace Go.Proofs.YthjiclhfhjdjpaaGreatDoor
open Go.RowKit
attribute [local irreducible] wpList Calls Code.wp
section
variable {nn : Nat} {st : Vst nn}
theorem k_endE_ret {P : Program} {rs : Array ResultVar} {out : Out} {r : V} {bs' : List Res} (ho : out = .ret r bs') (h : retV P st rs.toList r) (hb : haveB st 0 bs') : endKE P rs out .ret st := ⟨r, bs', ho, h, hb⟩
end
end Go.Proofs.YthjiclhfhjdjpaaGreatDoor
namespace Go.Proofs.YthjiclhfhjdjpaaGreatDoor
open Go.RowKit
attribute [local irreducible] wpList Calls Code.wp
section
variable {X : Cx} {nn : Nat} {st : Vst nn} {ops : Array Oper} {o : Oper}
variable {rd wr : Nat → List Nat}
section
variable {l : List Oper} {Q : Vst nn → Prop} {d : Option Tmp} {k : Nat}
theorem g_call {f : FuncId} {args : List V} {r : V} (hg : o.guard = none) (hd : o.dst = d) (h : act1 X.P st.rs (ev st) o.op = .call f args) (hc : AC X.e X.P f (outL args) r) (hK : absLexG X ops rd wr Q (k + 1) l (st.put d r)) : absLexG X ops rd wr Q k (o :: l) st :=
  ⟨r, [], .inl ⟨by simp [gw, hg], .call h hc⟩, by rw [hd]; exact hK⟩
end
end
end Go.Proofs.YthjiclhfhjdjpaaGreatDoor
namespace Go.Proofs.YthjiclhfhjdjpaaGreatDoor
open Go.RowKit
attribute [local irreducible] wpList Calls Code.wp
section
variable {X : Cx} {nn : Nat} {st : Vst nn} {o : Oper} {ops : Array Oper} {l : List Oper} {d : Option Tmp} {KK : Vst nn → Prop}
theorem s_guard_callU {j : Nat} {want b : Bool} {f : FuncId} {args : List V} {r : V} (hg : o.guard = some (j, want)) (hd : o.dst = d) (hb : gval ops st j = some b) (h : act1 X.P st.rs (ev st) o.op = .call f args) (hc : AC X.e X.P f (outL args) r) (hK : (b == want) = true → AWo X ops l (st.put d r) KK)
    (hN : (b == want) = false → AWo X ops l (st.put d (.tup [])) KK) : AWo X ops (o :: l) st KK := by
  cases e : b == want
  · exact s_skipU hg hd hb e (hN e)
  · exact s_wanted_call hg hd hb e h hc (hK e)
end
end Go.Proofs.YthjiclhfhjdjpaaGreatDoor
namespace Go.Proofs.YthjiclhfhjdjpaaGreatDoor
open Go.RowKit
attribute [local irreducible] wpList Calls Code.wp
set_option maxHeartbeats 1000000 in
theorem letter (v : Int) (w : World) (h0 : 0 ≤ v) (h1 : v ≤ 255) : Calls Tryz.prog 131 #[.int .u8 v] w (Yn (letB v) w) := by
  have hc := nm_cases v
  rcases hc with h | h | h | h | h | h | h | h | h
  all_goals first
    | (subst h; rw [show letB _ = _ from rfl])
    | (rw [letB_true (by omega)]; have q : (v == 95) = false := beq_false_of_ne (by omega))
    | (rw [letB_false (by omega)]; have q : (v == 95) = false := beq_false_of_ne (by omega))
  all_goals
    go_enter Tryz.func131, Tryz.ntmps131
    go_wp2
    all_goals
      go_ret
      exact ⟨ret_bool (by first | rfl | (simp; omega)), rfl⟩
set_option maxHeartbeats 1000000 in
theorem digit (v : Int) (w : World) (h0 : 0 ≤ v) (h1 : v ≤ 255) : Calls Tryz.prog 132 #[.int .u8 v] w (Yn (digB v) w) := by
  have hc : v < 48 ∨ (48 ≤ v ∧ v ≤ 57) ∨ 58 ≤ v := by omega
  rcases hc with h | h | h
  all_goals first
    | rw [digB_true (by omega)]
    | rw [digB_false (by omega)]
  all_goals
    go_enter Tryz.func132, Tryz.ntmps132
    go_wp2
    all_goals
      go_ret
      exact ⟨ret_bool (by first | rfl | (simp; omega)), rfl⟩
set_option maxRecDepth 100000 in
set_option maxHeartbeats 2000000 in
theorem nameR (s : ByteArray) (w : World) (hs : s.size ≤ 9223372036854775807) : Calls Tryz.prog 66 #[.string s] w (Yn (nameB s) w) := by
  by_cases h0 : 0 < s.size
  · by_cases h1 : s.size ≤ 64
    · have q1 : ¬ (s.size : Int) < 1 := by omega
      have q2 : decide ((s.size : Int) > 64) = false := decide_eq_false (by omega)
      go_enter Tryz.func66, Tryz.ntmps66
      go_wp2
      go_loop [3] (fun i => ∃ m : Nat, m ≤ s.size ∧ i = .int .i64 m ∧ (0 < m → digB (bV s 0) = false) ∧ ∀ k, k < m → (letB (bV s k) || digB (bV s k)) = true) (fun i => s.size - (intOf i).toNat)
      case atStart => exact ⟨0, by omega, rfl, fun h => by omega, fun k hk => by omega⟩
      case round =>
        obtain ⟨x, hx, rfl, hd, hall⟩ := hrel
        have Hall := Lib.hid hall; have Hd := Lib.hid hd
        clear hall hd
        by_cases hlt : x < s.size
        · have hb := bV_at hlt
          have hr := bV_range s x
          have Hat := Lib.hid (@nameB_at s x hlt)
          have Hdg := Lib.hid (@nameB_dig s)
          have Hstep := Lib.hid (show (letB (bV s x) || digB (bV s x)) = true → ∀ k, k < x + 1 → (letB (bV s k) || digB (bV s k)) = true from fun h k hk => by
            by_cases e : k = x
            · rw [e]; exact h
            · exact Hall.out k (by omega))
          by_cases hl : letB (bV s x) = true
          · have hd0 : x = 0 → digB (bV s 0) = false := fun e => by
              subst e
              have hl := of_decide_eq_true hl
              exact digB_false (by omega)
            have Hd0 := Lib.hid hd0
            have Hl := Lib.hid hl
            generalize bV s x = v at *
            clear hd0
            go_wp2_with (go_at_call 131; refine (letter _ _ (by omega) (by omega)).mono ?_; rintro e w' ⟨rfl, rfl⟩)
            go_round
            case rel => exact ⟨x + 1, by omega, by go_num, fun _ => by
              by_cases e : x = 0
              · exact Hd0.out e
              · exact Hd.out (by omega), Hstep.out (by rw [Hl.out]; rfl)⟩
            case measure => simp [intOf]; omega
          · have hl2 : letB (bV s x) = false := by simpa using hl
            have Hl := Lib.hid hl2
            clear hl
            by_cases hdg : digB (bV s x) = true
            · have Hdt := Lib.hid hdg
              by_cases hx0 : x = 0
              · subst hx0
                have hno := Hdg.out hdg
                have Hno := Lib.hid hno
                clear hno
                generalize bV s 0 = v at *
                go_wp2_with (go_at_call 131; refine (letter _ _ (by omega) (by omega)).mono ?_; rintro e w' ⟨rfl, rfl⟩)
                go_ret
                exact ⟨ret_bool Hno.out.symm, rfl⟩
              · have q3 : ((x : Int) == 0) = false := beq_false_of_ne (by omega)
                generalize bV s x = v at *
                go_wp2_with (first | (go_at_call 131; refine (letter _ _ (by omega) (by omega)).mono ?_; rintro e w' ⟨rfl, rfl⟩) | (go_at_call 132; refine (digit _ _ (by omega) (by omega)).mono ?_; rintro e w' ⟨rfl, rfl⟩))
                go_round
                case rel => exact ⟨x + 1, by omega, by go_num, fun _ => Hd.out (by omega), Hstep.out (by rw [Hl.out, Hdt.out]; rfl)⟩
                case measure => simp [intOf]; omega
            · have hdg2 : digB (bV s x) = false := by simpa using hdg
              have hno := Hat.out (by rw [Hl.out, hdg2]; rfl)
              have Hno := Lib.hid hno
              clear hno hdg
              by_cases hx0 : x = 0
              · subst hx0
                generalize bV s 0 = v at *
                go_wp2_with (first | (go_at_call 131; refine (letter _ _ (by omega) (by omega)).mono ?_; rintro e w' ⟨rfl, rfl⟩) | (go_at_call 132; refine (digit _ _ (by omega) (by omega)).mono ?_; rintro e w' ⟨rfl, rfl⟩))
                go_ret
                exact ⟨ret_bool Hno.out.symm, rfl⟩
              · have q3 : ((x : Int) == 0) = false := beq_false_of_ne (by omega)
                generalize bV s x = v at *
                go_wp2_with (first | (go_at_call 131; refine (letter _ _ (by omega) (by omega)).mono ?_; rintro e w' ⟨rfl, rfl⟩) | (go_at_call 132; refine (digit _ _ (by omega) (by omega)).mono ?_; rintro e w' ⟨rfl, rfl⟩))
                go_ret
                exact ⟨ret_bool Hno.out.symm, rfl⟩
        · obtain rfl : x = s.size := by omega
          have hyes := nameB_yes h0 h1 (Hd.out h0) Hall.out
          have Hyes := Lib.hid hyes
          clear hyes
          go_wp2
          go_ret
          exact ⟨ret_bool Hyes.out.symm, rfl⟩
    · have hno := nameB_no (s := s) (by omega)
      have Hno := Lib.hid hno
      have q1 : ¬ (s.size : Int) < 1 := by omega
      have q2 : decide ((s.size : Int) > 64) = true := decide_eq_true (by omega)
      clear hno
      go_enter Tryz.func66, Tryz.ntmps66
      go_wp2
      go_ret
      exact ⟨ret_bool Hno.out.symm, rfl⟩
  · have hno := nameB_no (s := s) (by omega)
    have Hno := Lib.hid hno
    have q1 : (s.size : Int) < 1 := by omega
    clear hno
    go_enter Tryz.func66, Tryz.ntmps66
    go_wp2
    all_goals
      go_ret
      exact ⟨ret_bool Hno.out.symm, rfl⟩
end Go.Proofs.YthjiclhfhjdjpaaGreatDoor
namespace Go.Proofs.YthjiclhfhjdjpaaGreatDoor
open Go.RowKit
attribute [local irreducible] wpList Calls Code.wp AW AWo OpOk seqK blockK scopeK loopK endK endKB AC ACB ACX absLex absLexG Yld YldG Sub
section
variable {X : Cx} {nn : Nat} {st : Vst nn} {o : Oper} {ops : Array Oper} {l : List Oper} {d : Option Tmp} {KK : Vst nn → Prop} {Q : Vst nn → Prop} {rd wr : Nat → List Nat} {k : Nat}
theorem s_guard_m {S : Type} {tR : TypeId} {f : FuncId} {m j : Nat} {want b : Bool} {vs az cs : List V} {x x' : S} {r : V} (cl : S → List V) (hren : ∀ φ x, renL φ (cl x) = cl x) (hg : o.guard = some (j, want)) (hd : o.dst = d) (hb : gval ops st j = some b) (h : act1 X.P st.rs (ev st) o.op = .call f vs) (hv : vs = .bx m 0 :: az) (hr : st.rs m = some (.box tR cs)) (hx : cs = cl x)
    (hc : ACB X.e X.P f (.bx (pn 0) 0 :: az) [.box tR (cl x)] r [.box tR (cl x')]) (haz : ∀ φ, renL φ az = az) (hrr : ∀ φ, renV φ r = r) (hK : (b == want) = true → AWo X ops l ((st.res m (.box tR (cl x'))).put d r) KK) (hN : (b == want) = false → AWo X ops l (st.put d (.tup [])) KK) : AWo X ops (o :: l) st KK := by
  cases e : b == want
  · exact s_skipU hg hd hb e (hN e)
  · exact s_wanted_m cl hren hg hd hb e h hv hr hx hc haz hrr (hK e)
theorem k_endE_1r {P : Program} {rs : Array ResultVar} {x : ResultVar} {out : Out} {v : V} {ρ : Res} (hx : rs.toList = [x]) (h : res1 P st x = .val True v) (hr : st.rs (pn 0) = some ρ) (ho : out = .ret v.out [ρ]) : endKE P rs out .ret st :=
  k_endE_ret ho (by rw [hx]; exact ⟨v, h, rfl⟩) ⟨hr, trivial⟩
theorem k_endE_0r {P : Program} {rs : Array ResultVar} {out : Out} {ρ : Res} (hx : rs.toList = []) (hr : st.rs (pn 0) = some ρ) (ho : out = .ret (.tup []) [ρ]) : endKE P rs out .ret st :=
  k_endE_ret ho (by rw [hx]; rfl) ⟨hr, trivial⟩
end
end Go.Proofs.YthjiclhfhjdjpaaGreatDoor
namespace Go.Proofs.YthjiclhfhjdjpaaGreatDoor
section
variable {α β : Type}
theorem take_nz (s : List UInt8) (x : PS) : Nz (takeQ s x) := by
  unfold takeQ
  exact .ite (fun _ => .okk _) fun _ => .err (by decide)
theorem name_nz (x : PS) : Nz (nameQ x) := by
  unfold nameQ
  exact .ite (fun _ => .okk _) fun _ => .err (by decide)
theorem close_nz : ∀ (n : Nat) (w : List Int) (x : PS), Nz (closeQ n w x)
  | 0, w, x => by unfold closeQ; exact .okk _
  | n + 1, w, x => by unfold closeQ; exact .then (take_nz _ _) fun _ y _ => close_nz n _ y
theorem inner_nz (x : PS) : Nz (innerQ x) := .then (name_nz _) fun _ y _ => .then (close_nz _ _ y) fun _ _ _ => .okk _
theorem typ_nz (x : PS) : Nz (typQ x) := .then (inner_nz x) fun _ _ _ => .ite (fun _ => .err (by decide)) fun _ => .okk _
theorem items_nz {v : PS → PR D} (hv : ∀ y, En y → Nz (v y)) (hl : ∀ {y z a}, En y → v y = .ok (a, z) → En z ∧ z.ts.length < y.ts.length) : ∀ (f : Nat) (acc : List D) (x : PS), En x → x.ts.length < f → Nz (itemsQ v f acc x)
  | 0, _, _, _, h => by omega
  | f + 1, acc, x, hx, h => by
    unfold itemsQ
    exact .ite (fun _ => .okk _) fun _ => .then (hv x hx) fun _ y hq => items_nz hv hl f _ y (hl hx hq).1 (by have := (hl hx hq).2; omega)
theorem fields_nz {v : PS → PR D} (hv : ∀ y, En y → Nz (v y)) (hl : ∀ {y z a}, En y → v y = .ok (a, z) → En z ∧ z.ts.length < y.ts.length) : ∀ (f : Nat) (ks : List (List UInt8)) (acc : List D) (x : PS), En x → x.ts.length < f → Nz (fieldsQ v f ks acc x)
  | 0, _, _, _, _, h => by omega
  | f + 1, ks, acc, x, hx, h => by
    unfold fieldsQ
    refine .ite (fun _ => .okk _) fun _ => .then (name_nz x) fun k y hn => .ite (fun _ => .err (by decide)) fun _ => .then (take_nz _ y) fun u z ht => .then (hv z ?_) fun _ w hw => fields_nz hv hl f _ _ w ?_ ?_
    · exact ((hx.name hn).1.take ht).1
    · exact (hl ((hx.name hn).1.take ht).1 hw).1
    · have h1 := hx.name hn
      have h2 := h1.1.take ht
      have h3 := hl h2.1 hw
      omega
theorem value_nz : ∀ (f lv : Nat) (x : PS), En x → lv ≤ 25 → 26 ≤ f + lv → Nz (valueQ f lv x)
  | 0, lv, _, _, h1, h2 => by omega
  | f + 1, lv, x, hx, h1, h2 => by
    have hy : En { nxT x with nd := x.nd + 1 } := hx.nx0
    unfold valueQ
    refine .ite (fun _ => .err (by decide)) fun _ => .ite (fun _ => .err (by decide)) fun hlv => .ite (fun _ => .err (by decide)) fun _ => ?_
    dsimp only
    refine .ite (fun _ => .okk _) fun _ => .ite (fun _ => .okk _) fun _ => .ite (fun _ => .okk _) fun _ => .ite (fun _ => .then (name_nz _) fun _ _ _ => .okk _) fun _ => .ite (fun _ => ?_) fun _ => ?_
    · exact .then (items_nz (fun y hy => value_nz f (lv + 1) y hy (by omega) (by omega)) (fun hy hq => hy.valueL hq) _ _ _ hy (Nat.lt_succ_self _)) fun _ _ _ => .okk _
    · exact .then (fields_nz (fun y hy => value_nz f (lv + 1) y hy (by omega) (by omega)) (fun hy hq => hy.valueL hq) _ _ _ _ hy (Nat.lt_succ_self _)) fun _ _ _ => .okk _
theorem whole_nz (x : PS) (h : En x) : Nz (wholeQ x) := value_nz 25 1 _ h (by omega) (by omega)
theorem argsF_nz : ∀ (f : Nat) (acc : List D) (x : PS), En x → x.ts.length ≤ f → Nz (argsF f acc x)
  | 0, _, x, hx, h => by obtain ⟨t, r, ht⟩ := hx.cons; rw [ht] at h; simp at h
  | f + 1, acc, x, hx, h => by
    unfold argsF
    refine .ite (fun _ => .okk _) fun _ => .ite (fun _ => .err (by decide)) fun _ => .then (name_nz x) fun n y hn => .then (take_nz _ y) fun u z ht => .then (whole_nz z ?_) fun _ w hw => argsF_nz f _ w ?_ ?_
    · exact ((hx.name hn).1.take ht).1
    · exact (((hx.name hn).1.take ht).1.whole hw).1
    · have h1 := hx.name hn
      have h2 := h1.1.take ht
      have h3 := h2.1.whole hw
      omega
theorem args_nz (x : PS) (h : En x) : Nz (argsQ x) := .ite (fun hs => argsF_nz _ _ _ h.nx0 (by have := (h.sg hs).2; omega)) fun _ => .okk _
theorem dirsF_nz : ∀ (f : Nat) (acc : List D) (x : PS), En x → x.ts.length < f → Nz (dirsF f acc x)
  | 0, _, _, _, h => by omega
  | f + 1, acc, x, hx, h => by
    unfold dirsF
    refine .ite (fun hs => .ite (fun _ => .err (by decide)) fun _ => .then (name_nz _) fun n y hn => .then (args_nz y ?_) fun _ z hz => dirsF_nz f _ z ?_ ?_) fun _ => .okk _
    · exact (hx.nx0.name hn).1
    · exact ((hx.nx0.name hn).1.args hz).1
    · have h1 := hx.sg hs
      have h2 := h1.1.name hn
      have h3 := h2.1.args hz
      omega
theorem dirs_nz (x : PS) (h : En x) : Nz (dirsQ x) := dirsF_nz _ _ _ h (Nat.lt_succ_self _)
theorem sel_nz {v : PS → PR (List D)} (hv : ∀ y, En y → Nz (v y)) (x : PS) (h : En x) : Nz (selQ v x) := by
  unfold selQ
  refine .ite (fun hs => ?_) fun _ => ?_
  · dsimp only
    refine .ite (fun _ => .then (dirs_nz _ h.nx0.nx0) fun _ _ _ => .okk _) fun _ => .then (.ite (fun _ => name_nz _) fun _ => .okk _) fun on z hz => ?_
    have hz' : En z := by
      split at hz
      · exact (h.nx0.nx0.name hz).1
      · cases hz; exact h.nx0
    exact .then (dirs_nz z hz') fun _ u hu => .then (hv u (hz'.dirs hu).1) fun _ _ _ => .okk _
  · refine .then (name_nz x) fun n y hn => ?_
    have hy := (h.name hn).1
    refine .then (.ite (fun _ => .then (name_nz _) fun _ _ _ => .okk _) fun _ => .okk _) fun an z hz => ?_
    have hz' : En z := by
      split at hz
      · cases hm : nameQ (nxT y) with
        | error e => rw [then_err hm] at hz; cases hz
        | ok p =>
          obtain ⟨m, z2⟩ := p
          rw [then_ok hm] at hz
          cases hz
          exact (hy.nx0.name hm).1
      · cases hz; exact hy
    refine .then (args_nz z hz') fun _ u hu => .then (dirs_nz u (hz'.args hu).1) fun _ w hw => ?_
    exact .then (.ite (fun _ => hv w ((hz'.args hu).1.dirs hw).1) fun _ => .okk _) fun _ _ _ => .okk _
theorem setF_nz {v : PS → PR D} (hv : ∀ y, En y → Nz (v y)) (hl : ∀ {y z a}, En y → v y = .ok (a, z) → En z ∧ z.ts.length < y.ts.length) : ∀ (f : Nat) (acc : List D) (x : PS), En x → x.ts.length < f → Nz (setF v f acc x)
  | 0, _, _, _, h => by omega
  | f + 1, acc, x, hx, h => by
    unfold setF
    exact .ite (fun _ => .okk _) fun _ => .ite (fun _ => .err (by decide)) fun _ => .then (hv x hx) fun _ y hq => setF_nz hv hl f _ y (hl hx hq).1 (by have := (hl hx hq).2; omega)
theorem sels_nz : ∀ (f lv : Nat) (x : PS), En x → lv ≤ 25 → 26 ≤ f + lv → Nz (selsQ f lv x)
  | 0, lv, _, _, h1, h2 => by omega
  | f + 1, lv, x, hx, h1, h2 => by
    unfold selsQ
    by_cases hs : isS x [123] = true
    · refine .ite (fun _ => .err (by decide)) fun hlv => .then (take_nz _ x) fun u y hy => ?_
      have hlv : ¬ 24 < lv := fun h => hlv ⟨hs, h⟩
      exact setF_nz (fun y hy => sel_nz (fun y hy => sels_nz f (lv + 1) y hy (by omega) (by omega)) y hy) (fun hy hq => hy.selL hq) _ _ _ (hx.take hy).1 (Nat.lt_succ_self _)
    · refine .ite (fun _ => .err (by decide)) fun _ => .then (take_nz _ x) fun u y hy => ?_
      exfalso
      unfold takeQ at hy
      rw [if_neg hs] at hy
      cases hy
theorem set_nz (x : PS) (h : En x) : Nz (setQ x) := sels_nz 25 1 x h (by omega) (by omega)
theorem def_nz (x : PS) (h : En x) : Nz (defQ x) := by
  unfold defQ
  exact .ite (fun _ => .then (whole_nz _ h.nx0) fun _ _ _ => .okk _) fun _ => .okk _
theorem def_en {x y : PS} {d : Bool × D} (h : En x) (hq : defQ x = .ok (d, y)) : En y ∧ y.ts.length ≤ x.ts.length := by
  unfold defQ at hq
  split at hq
  · cases hw : wholeQ { nxT x with vr := false } with
    | error e => rw [then_err hw] at hq; cases hq
    | ok p =>
      obtain ⟨d', o⟩ := p
      rw [then_ok hw] at hq
      cases hq
      have h1 := En.whole (x := { nxT x with vr := false }) h.nx0 hw
      exact ⟨h1.1, Nat.le_trans h1.2 (nx_len x)⟩
  · cases hq; exact ⟨h, Nat.le_refl _⟩
theorem var_nz (x : PS) (h : En x) : Nz (varQ x) :=
  .then (take_nz _ x) fun u y h1 => .then (name_nz y) fun n z h2 => .then (take_nz _ z) fun u2 w h3 => .then (typ_nz w) fun t v h4 =>
    .then (def_nz v ((((h.take h1).1.name h2).1.take h3).1.typ h4).1) fun _ _ _ => .okk _
theorem var_en {x o : PS} {d : D} (h : En x) (hq : varQ x = .ok (d, o)) : En o ∧ o.ts.length < x.ts.length := by
  unfold varQ at hq
  cases h1 : takeQ [36] x with
  | error e => rw [then_err h1] at hq; cases hq
  | ok p =>
  obtain ⟨u, y⟩ := p
  rw [then_ok h1] at hq
  cases h2 : nameQ y with
  | error e => rw [then_err h2] at hq; cases hq
  | ok p =>
  obtain ⟨n, z⟩ := p
  rw [then_ok h2] at hq
  cases h3 : takeQ [58] z with
  | error e => rw [then_err h3] at hq; cases hq
  | ok p =>
  obtain ⟨u2, w⟩ := p
  rw [then_ok h3] at hq
  cases h4 : typQ w with
  | error e => rw [then_err h4] at hq; cases hq
  | ok p =>
  obtain ⟨t, v⟩ := p
  rw [then_ok h4] at hq
  cases h5 : defQ v with
  | error e => rw [then_err h5] at hq; cases hq
  | ok p =>
  obtain ⟨d', o'⟩ := p
  rw [then_ok h5] at hq
  cases hq
  have e1 := h.take h1
  have e2 := e1.1.name h2
  have e3 := e2.1.take h3
  have e4 := e3.1.typ h4
  have e5 := def_en e4.1 h5
  exact ⟨e5.1, by omega⟩
theorem varsF_nz : ∀ (f : Nat) (acc : List D) (x : PS), En x → x.ts.length ≤ f → Nz (varsF f acc x)
  | 0, _, x, hx, h => by obtain ⟨t, r, ht⟩ := hx.cons; rw [ht] at h; simp at h
  | f + 1, acc, x, hx, h => by
    by_cases hE : acc.length ≠ 0 ∧ isS x [41] = true
    · rw [vl_end hE.1 hE.2]; exact .okk _
    by_cases hL : isS x [36] = true ∧ 16 ≤ acc.length
    · rw [vl_lim hE hL]; exact .err (by decide)
    rw [vl_go hE hL]
    exact .then (var_nz x hx) fun a y hq => varsF_nz f _ y (var_en hx hq).1 (by have := (var_en hx hq).2; omega)
theorem varsF_en : ∀ (f : Nat) (acc : List D) {x y : PS} {l : List D}, En x → varsF f acc x = .ok (l, y) → En y ∧ y.ts.length ≤ x.ts.length
  | 0, _, _, _, _, _, h => by cases h
  | f + 1, acc, x, y, l, hx, hq => by
    by_cases hE : acc.length ≠ 0 ∧ isS x [41] = true
    · rw [vl_end hE.1 hE.2] at hq; cases hq; exact ⟨hx.nx0, nx_len x⟩
    by_cases hL : isS x [36] = true ∧ 16 ≤ acc.length
    · rw [vl_lim hE hL] at hq; cases hq
    rw [vl_go hE hL] at hq
    cases h1 : varQ x with
    | error e => rw [then_err h1] at hq; cases hq
    | ok p =>
      obtain ⟨a, z⟩ := p
      rw [then_ok h1] at hq
      have e1 := var_en hx h1
      have e2 := varsF_en f _ e1.1 hq
      exact ⟨e2.1, by omega⟩
theorem op_nz (k : Int) (x : PS) (h : En x) : Nz (opQ k x) := by
  unfold opQ
  refine .then (.ite (fun _ => .okk _) fun _ => .okk _) fun n y hy => ?_
  have hy' : En y := by
    split at hy
    · cases hy; exact h.nx0
    · cases hy; exact h
  refine .then (.ite (fun hs => varsF_nz _ _ _ hy'.nx0 (nx_len y)) fun _ => .okk _) fun vs z hz => ?_
  have hz' : En z := by
    split at hz
    · exact (varsF_en _ _ hy'.nx0 hz).1
    · cases hz; exact hy'
  exact .then (set_nz z hz') fun _ _ _ => .okk _
theorem frag_nz (x : PS) (h : En x) : Nz (fragQ x) := by
  unfold fragQ
  refine .ite (fun _ => .err (by decide)) fun _ => .then (name_nz x) fun n y hy => .ite (fun _ => .then (name_nz _) fun on z hz => .then (set_nz z ?_) fun _ _ _ => .okk _) fun _ => .err (by decide)
  exact ((h.name hy).1.nx0.name hz).1
theorem docF_nz : ∀ (f n : Nat) (ops frs : List D) (x : PS), En x → x.ts.length < f → Nz (docF f n ops frs x)
  | 0, _, _, _, _, _, h => by omega
  | f + 1, n, ops, frs, x, hx, h => by
    unfold docF
    refine .ite (fun _ => .okk _) fun _ => ?_
    dsimp only
    refine .ite (fun _ => .err (by decide)) fun _ => .ite (fun _ => .err (by decide)) fun _ => .ite (fun _ => ?_) fun _ => .ite (fun _ => ?_) fun _ => ?_
    · exact .then (set_nz x hx) fun ss y hq => docF_nz f _ _ _ y (hx.sels hq).1 (by have := (hx.sels hq).2; omega)
    · exact .then (op_nz _ _ hx.nx0) fun o y hq => docF_nz f _ _ _ y (hx.nx0.op hq).1 (by have := (hx.nx0.op hq).2; have := nx_len x; omega)
    · exact .then (frag_nz _ hx.nx0) fun o y hq => docF_nz f _ _ _ y (hx.nx0.frag hq).1 (by have := (hx.nx0.frag hq).2; have := nx_len x; omega)
theorem doc_nz {ts : List Tok} (h : En ⟨ts, true, 0⟩) : Nz (docQ ts) := docF_nz _ _ _ _ _ h (Nat.lt_succ_self _)
end
end Go.Proofs.YthjiclhfhjdjpaaGreatDoor
namespace Go.Proofs.YthjiclhfhjdjpaaGreatDoor
/-- an error has its number, and its place is within the text -/
theorem parse_err {l : List UInt8} {i : Nat} {e : Int} (h : parseT l = .error (i, e)) : e ≠ 0 ∧ (l.length ≤ 65536 → i ≤ l.length) := by
  unfold parseT at h
  split at h
  · rename_i p hs
    cases h
    unfold scanT at hs
    split at hs
    · rename_i hl
      cases hs
      exact ⟨by decide, fun h => by omega⟩
    · have := scanF_err _ _ _ _ (Nat.lt_succ_self _) hs
      exact ⟨this.2, fun _ => by have := this.1; omega⟩
  · rename_i ts hs
    have hen := scan_en hs
    split at h
    · rename_i p hd
      cases h
      refine ⟨fun h => ?_, fun _ => doc_err hen.2 hd⟩
      subst h
      exact doc_nz hen.1 i hd
    · cases h
end Go.Proofs.YthjiclhfhjdjpaaGreatDoor
