/- A fetch is added to a builder of waves. -/
import Derived.Test.YtkldeelhlbhlmaaG
import Derived.Deep.AppendLies
namespace Go.Proofs.Ytkldeelhlbhlmaa
open Go.RowKit
attribute [local irreducible] wpList Calls Code.wp
theorem cell_heap {w : World} {b o : Nat} {cs : Array Value} {t : TypeId} {fz : Nat × Nat} {x : Value} (h : w.heap[b]? = some (.cells cs t fz)) (hx : cs[o]? = some x) : w.cell? ⟨b, o, none⟩ = some x := by
  rw [cell_of_row w b o cs t fz h]; exact hx
theorem frozen_heap {w : World} {b o : Nat} {cs : Array Value} {t : TypeId} (h : w.heap[b]? = some (.cells cs t (0, 0))) : w.frozen? ⟨b, o, none⟩ = false := by
  simp [World.frozen?, h]
theorem pad_step {ws : List (List Int)} {m : Nat} : ws ++ List.replicate (m + 1) [] = (ws ++ List.replicate m []) ++ [([] : List Int)] := by
  rw [List.replicate_succ', List.append_assoc]
theorem end_none {P : Program} {fn : Func} {R : Ending → World → Prop} {a : Act} {w : World} (hr : fn.results = #[]) (hd : a.defers = []) (hR : R (.returned (.tuple #[])) w) : bodyPost P fn R .normal a w :=
  bodyPost_end (v := .tuple #[]) (results_none hr _ _ _) hd hR
set_option maxRecDepth 100000 in
set_option maxHeartbeats 2000000 in
theorem add23 (base b : Nat) (ws : List (List Int)) (k : Int) (d : Nat) (w : World) (h : Blt w base b ws) (h1 : 1 ≤ d) (h2 : d ≤ 200) (hl : ws.length ≤ 200) (hin : ∀ i, (gL ws i).length ≤ 200) :
    Calls Try.prog 23 #[.pointer (some ⟨b, 0, none⟩), .int .i64 k, .int .i64 (d : Int)] w fun e w' => e = .returned (.tuple #[]) ∧ Blt w' base b (addTo ws k d) ∧ Below base w w' := by
  go_enter Try.func23, Try.ntmps23
  go_wp2
  go_loopg [] (d - ws.length) (fun j wr => ∃ m, m + j = d - ws.length ∧ Blt wr base b (ws ++ List.replicate m []) ∧ Below base w wr)
  case atStart => exact ⟨0, by omega, by simpa using h, Below.refl _ _⟩
  case round =>
    obtain ⟨m, hmj, ⟨v, xs, hbl⟩, hb⟩ := hrel
    have Hmj := Lib.hid hmj; have hmd : m ≤ d - ws.length := by omega
    clear hmj
    have HBl := Lib.hid hbl
    obtain ⟨q1, q2, q3, q4, q5, q6⟩ := hbl
    obtain ⟨A, c, rfl⟩ := own_form q3
    have hlen : (ws ++ List.replicate m ([] : List Int)).length = ws.length + m := by simp
    have cb : wr.cell? ⟨b, 0, none⟩ = some (.slice A (ws ++ List.replicate m ([] : List Int)).length c) := cell_heap (o := 0) q2 rfl
    have fb := frozen_heap (o := 0) q2
    have hbs := Nat.le_trans q1 (Nat.le_of_lt (heap_lt q2))
    have Q3 := Lib.hid q3
    have Q2 := Lib.hid q2; have Q4 := Lib.hid q4; have Q5 := Lib.hid q5
    clear q2 q3 q4 q5 q6
    rw [hlen] at cb Q3 HBl Q2 Q4
    by_cases hlt : ws.length + m < d
    · go_wp2_with (at_builtin; refine append_new (o := ⟨some 19, _, _, _, _, _⟩) rfl (.tmp 17) (.tmp 18) 28 rfl base 31 _ 1 24 Try.underlying28 slinfo rfl (by decide) _ _ _ Q3.out #[.slice none 0 0] 1 rfl rfl rfl rfl (by simp only [maxLen]; omega) (by omega) hbs ?_; intro v' w' hown' hg' hsz' hat' hsh'; obtain ⟨g', c'', rfl⟩ := hsh' (by omega); have q2' := (hg'.block b (heap_lt Q2.out) Q4.out).trans Q2.out; have cb' := cell_heap (o := 0) q2' rfl; have fb' := frozen_heap (o := 0) q2'; clear q2')
      clear cb fb cb' fb'
      go_roundg (gk - 1)
      case measure => have := Hmj.out; omega
      case rel =>
        refine ⟨m + 1, by have := Hmj.out; omega, ?_, (hb.grown hg' hbs (fun y hy => (Q3.out.lt y hy).1)).setCell q1 _⟩
        rw [pad_step]
        exact ⟨_, _, HBl.out.push (by rw [hlen]; exact hown') hg' hat'⟩
    · have hD : (ws ++ List.replicate m ([] : List Int)) = padTo ws d := by
        unfold padTo; rw [show d - ws.length = m from by omega]
      have HD := Lib.hid hD; clear hD
      have hdl : d ≤ ws.length + m := by omega
      have e1 : wrap64 ((d : Int) - 1) = (d : Int) - 1 := wrap_in ⟨by omega, by omega⟩
      have e1' : IntKind.i64.wrap ((d : Int) - 1) = (d : Int) - 1 := IntWalk.i64_in _ (by omega)
      have e2 : ((d : Int) - 1).toNat = d - 1 := by omega
      have e3 : (0 : Int) ≤ (d : Int) - 1 := by omega
      have e4 : (d : Int) - 1 < (ws.length : Int) + (m : Int) := by omega
      obtain ⟨u, hu, ho, hbu, hne⟩ := Q5.out (d - 1) (by rw [hlen]; omega)
      obtain ⟨A2, c2, rfl⟩ := own_form ho
      rcases Q3.out.2 with ⟨_, h00⟩ | ⟨g, cap, cur, hv, hg, hgb, hgn, hgc, hgs, hgt⟩
      · omega
      simp only [Value.slice.injEq] at hv
      obtain ⟨rfl, -, rfl⟩ := hv
      have cu : wr.cell? ⟨g, d - 1, none⟩ = some (.slice A2 (gL (ws ++ List.replicate m []) (d - 1)).length c2) := (Q3.out.cellAt (j := d - 1) (by omega)).trans hu
      have fu := frozen_heap (o := d - 1) hgb
      have hn2 : (gL (ws ++ List.replicate m []) (d - 1)).length ≤ 200 := by
        by_cases h0 : d - 1 < ws.length
        · have e : gL (ws ++ List.replicate m ([] : List Int)) (d - 1) = gL ws (d - 1) := by simp [gL, List.getElem?_append_left h0]
          rw [e]; exact hin _
        · have e : gL (ws ++ List.replicate m ([] : List Int)) (d - 1) = [] := by
            simp only [gL, List.getD_eq_getElem?_getD]
            rw [List.getElem?_append_right (by omega), List.getElem?_replicate]
            split <;> rfl
          rw [e]; simp
      have hbw := heap_lt Q2.out
      have hgw := heap_lt hgb
      have hgu : some g ≠ (Value.slice A2 (gL (ws ++ List.replicate m []) (d - 1)).length c2).ownBlock := fun e => hne g e.symm rfl
      have Hput := Lib.hid (fun (w' : World) (u' : Value) (h1 : w'.ownsRow base 3 1 u' ((gL (ws ++ List.replicate m []) (d - 1)).length + 1) (ints .i64 (gL (ws ++ List.replicate m []) (d - 1)) ++ [.int .i64 k])) (h2 : wr.grownBy w' _) (h3 : _) => HBl.out.put (w' := w') (i := d - 1) (by rw [hlen]; omega) hu (g := g) rfl h1 h2 h3)
      have Hu := Lib.hid hu; have Hgt := Lib.hid hgt; have Hgb := Lib.hid hgb
      clear hu hgt hgb
      have hdi : (1 : Int) ≤ (d : Int) := by omega
      have hlt' : ¬ ((ws.length : Int) + (m : Int) < (d : Int)) := by omega
      go_wp2_with fail
      have hNe : ∃ N, N = ws.length + m := ⟨_, rfl⟩
      obtain ⟨N, hNe⟩ := hNe
      have hNi : (ws.length : Int) + (m : Int) = (N : Int) := by omega
      rw [← hNe] at cb hdl ⊢
      rw [hNi] at e4 ⊢
      have HN := Lib.hid hNe
      have hdN : (d : Int) ≤ (N : Int) := by omega
      clear hNe hNi
      go_region_law (first | (refine step_new (o := ⟨some 38, _, _, _, _, _⟩) rfl (.tmp 35) (.tmp 37) 31 rfl base 3 _ 1 8 Try.underlying31 intinfo rfl (by decide) _ _ _ ho #[.int .i64 k] 1 rfl rfl rfl rfl (by simp only [maxLen]; omega) (by omega) hbs ?_; intro v' w' hown2 hg' hsz' hat' hsh'; obtain ⟨g', c'', rfl⟩ := hsh' (by omega); have cb' : w'.cell? ⟨b, 0, none⟩ = some (.slice (some ⟨g, 0, none⟩) N c) := (World.cell?_of_block (hg'.block b hbw hbu)).trans cb; have cu' := (World.cell?_of_block (hg'.block g hgw hgu)).trans cu; have fu' := (World.frozen?_of_block (hg'.block g hgw hgu)).trans fu))
      all_goals
        refine end_none rfl rfl ?_
        refine ⟨rfl, ?_, (hb.grown hg' hbs (fun y hy => (ho.lt y hy).1)).setCell hg _⟩
        unfold addTo
        rw [← HD.out]
        exact ⟨_, _, Hput.out _ _ hown2 hg' hat'⟩
end Go.Proofs.Ytkldeelhlbhlmaa
