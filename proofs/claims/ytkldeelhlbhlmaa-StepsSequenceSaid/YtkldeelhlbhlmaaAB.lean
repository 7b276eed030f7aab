/- StepsSequence, walked. -/
import Derived.Test.YtkldeelhlbhlmaaAA
import Derived.Deep.Cut
namespace Go.Proofs.Ytkldeelhlbhlmaa
open Go.RowKit
attribute [local irreducible] wpList Calls Code.wp wavesI timeI treeI depthI dmax mostD SeqTo
set_option maxRecDepth 100000 in
set_option maxHeartbeats 4000000 in
theorem law7 (kd : Int) (B : Option Addr) (bn bc : Nat) (A : Option Addr) (c : Nat) (fs : List (Int × List Int)) (w : World) (h : Pl w (fun k => k < w.heap.size) A fs) (hn : fs.length ≤ 9223372036854775807) :
    Calls Try.prog 7 #[plan kd B bn bc A fs.length c] w (Bo true w) := by
  have h8 := fun w' (hb : Below w.heap.size w w') => few8 kd B bn bc A c fs w' (h.under hb) hn
  have H8 := Lib.hid h8; clear h8
  have HP := Lib.hid h; clear h
  have Hle := Lib.hid (@few_le fs)
  unfold plan at *
  generalize fewB fs = fb at *
  have hb0 : Below w.heap.size w (w.alloc (.cells #[.int .i64 kd, .slice B bn bc, .slice A fs.length c] 25)) := (Below.refl _ _).alloc (Nat.le_refl _) _
  have Hb0 := Lib.hid hb0; clear hb0
  go_enter Try.func7, Try.ntmps7
  go_wp2_with fail
  refine (H8.out _ Hb0.out).mono ?_
  rintro e w1 ⟨rfl, hb1⟩
  have hx1 : w1.heap[w.heap.size]? = some (.cells #[.int .i64 kd, .slice B bn bc, .slice A fs.length c] 25 (0, 0)) := (hb1.block _ (by simp)).trans (heap_at rfl)
  have Hb1 := Lib.hid (Hb0.out.trans (hb1.mono (by simp)))
  have Hx1 := Lib.hid hx1
  clear hb1 hx1
  have k2 : w1.cell? ⟨w.heap.size, 2, none⟩ = some (.slice A fs.length c) := cell_heap Hx1.out rfl
  cases fb
  · go_wp2_with fail
    refine (knows9 _).mono ?_
    rintro e w2 ⟨rfl, hb2⟩
    have Hb2 := Lib.hid (Hb1.out.trans (hb2.mono Hb1.out.size))
    clear hb2
    go_wp2
    go_ret
    exact ⟨rfl, Hb2.out⟩
  have hn2 : fs.length ≤ 200 := Hle.out rfl
  clear hn Hle
  by_cases h0 : fs.length = 0
  · have q0 : ((fs.length : Int) == 0) = true := by simp [h0]
    have H0 := Lib.hid h0; clear h0
    go_wp2_with fail
    refine (knows9 _).mono ?_
    rintro e w2 ⟨rfl, hb2⟩
    have Hb2 := Lib.hid (Hb1.out.trans (hb2.mono Hb1.out.size))
    clear hb2
    go_wp2
    go_ret
    exact ⟨rfl, Hb2.out⟩
  have q0 : ((fs.length : Int) == 0) = false := beq_false_of_ne (by omega)
  have H20 := Lib.hid (fun w' T tc (hb : Below w.heap.size w w') ht => time20 kd B bn bc A c fs T tc (List.replicate fs.length 1) w' (HP.out.under hb) ht hn2 (by simp; omega))
  have H13 := Lib.hid (fun w' (hb : Below w.heap.size w w') => tree13 kd B bn bc A c fs w' (HP.out.under hb) hn2)
  have Htm := Lib.hid (timeI_seq (fs := fs) hn2)
  have Htd := Lib.hid (seq_depth (fs := fs) hn2)
  have HS0 := Lib.hid (show SeqTo fs 0 by unfold SeqTo; exact fun i hi => by omega)
  have HSs := Lib.hid (fun m => @SeqTo.snoc fs m)
  have HM0 := Lib.hid (show mostD fs 0 = 0 by rw [mostD])
  have HMs := Lib.hid (show ∀ m, mostD fs (m + 1) = max (mostD fs m) (gF fs m).1 from fun m => by rw [mostD])
  have HMr := Lib.hid (fun m => @mostD_range fs m)
  have HDs := Lib.hid (show ∀ l k, dmax fs l (k + 1) = max (dmax fs l k) (gF fs (gI l k).toNat).1 from fun l k => by rw [dmax])
  have HD0 := Lib.hid (show ∀ l, dmax fs l 0 = 0 from fun l => by rw [dmax])
  have HDr := Lib.hid (fun m k l => @seq_dmax fs m k l)
  have HRg := Lib.hid (fun m => @seq_range fs m m (Nat.le_refl _))
  unfold plan at H20 H13
  have Hlt1 := Lib.hid (heap_lt Hx1.out)
  clear k2
  have HXb := Lib.hid (show ∀ wr, Below w1.heap.size w1 wr → wr.cell? ⟨w.heap.size, 0, none⟩ = some (.int .i64 kd) ∧ wr.cell? ⟨w.heap.size, 1, none⟩ = some (.slice B bn bc) ∧ wr.cell? ⟨w.heap.size, 2, none⟩ = some (.slice A fs.length c) from fun wr hb => ⟨cell_heap ((hb.block _ Hlt1.out).trans Hx1.out) rfl, cell_heap ((hb.block _ Hlt1.out).trans Hx1.out) rfl, cell_heap ((hb.block _ Hlt1.out).trans Hx1.out) rfl⟩)
  have k2 := (HXb.out w1 (Below.refl _ _)).2.2
  go_wp2
  go_loopg [3, 4, 5] fs.length (fun j mo on i wr => ∃ m : Nat, m + j = fs.length ∧ i = .int .i64 m ∧ mo = .int .i64 (mostD fs m) ∧ SeqTo fs m ∧ Below w1.heap.size w1 wr ∧ ∃ A' c', on = .slice A' m c' ∧ wr.ownsRow w1.heap.size 3 1 on m (ints .i64 (List.replicate m 1)))
  case atStart => exact ⟨0, by omega, rfl, by rw [HM0.out], HS0.out, Below.refl _ _, none, 0, rfl, World.ownsRow_nil _ _ _ _⟩
  case round =>
    obtain ⟨m, hmj, rfl, rfl, hseq, hb, A', c', rfl, hown⟩ := hrel
    obtain ⟨wo, rfl⟩ : ∃ wo : World, wo = wr := ⟨_, rfl⟩
    have Hmj := Lib.hid hmj; have hmn : m ≤ fs.length := by omega
    have Hb := Lib.hid hb; have Hown := Lib.hid hown; have Hseq := Lib.hid hseq
    clear hmj hb hown hseq k2
    have k2 := (HXb.out wo Hb.out).2.2
    by_cases hlt : m < fs.length
    · have hxi : (m : Int) < (fs.length : Int) := by omega
      obtain ⟨b, off, rfl, hI, hc⟩ := HP.out (by omega)
      have hI2 := Nat.lt_of_lt_of_le hI Hb1.out.size
      have HDp := Lib.hid (show ∀ q, q < fs.length → ∀ wr, Below w1.heap.size w1 wr → wr.cell? ⟨b, off + q * 8 + 1, none⟩ = some (.int .i64 (gF fs q).1) from fun q hq wr hb => (hc q hq).dep hI (Hb1.out.trans (hb.mono Hb1.out.size)))
      obtain ⟨g, P, pn, pc, s, K, kn, kc, y, Q, qn, qc, B2, c2, _, _, _, _, _, _, _, h7, hi, hl, _⟩ := hc m hlt
      have e7 := ((Hb1.out.trans (Hb.out.mono Hb1.out.size)).cell (p := ⟨b, off + m * 8 + 7, none⟩) hI).trans h7
      have Hi := Lib.hid hi
      clear hc h7 hi
      have hmr := HMr.out m Hseq.out
      have Hsn := Lib.hid (HSs.out m Hseq.out)
      have HdR := Lib.hid (fun k => HDr.out m k (gF fs m).2 Hseq.out)
      have HRm := Lib.hid (HRg.out m Hseq.out)
      have HMm := Lib.hid (HMs.out m)
      generalize hl2 : (gF fs m).2 = l at *
      have Hl2 := Lib.hid hl2; clear hl2
      go_wp2
      go_loopg [7, 8] l.length (fun j d i w2 => ∃ k : Nat, k + j = l.length ∧ i = .int .i64 k ∧ d = .int .i64 (dmax fs l k) ∧ InTo l m k ∧ Below wo.heap.size wo w2)
      case atStart => exact ⟨0, by omega, rfl, by rw [HD0.out], fun q hq => by omega, Below.refl _ _⟩
      case round =>
        obtain ⟨k, hkj, rfl, rfl, hin, hb2⟩ := hrel
        have Hkj := Lib.hid hkj; have hkq : k ≤ l.length := by omega
        have Hb2 := Lib.hid hb2; have Hin := Lib.hid hin
        have hdr := HdR.out k hin
        clear hkj hb2 hin k2 e7
        have HB2 := Lib.hid (Hb.out.trans (Hb2.out.mono Hb.out.size))
        have k2 := (HXb.out wr HB2.out).2.2
        by_cases hltk : k < l.length
        · have hki : (k : Int) < (l.length : Int) := by omega
          obtain ⟨b2, off2, rfl, hI3, hc2⟩ := Hi.out.at (by omega)
          have hcell : wr.cell? ⟨b2, off2 + k, none⟩ = some (.int .i64 (gI l k)) := ((Hb1.out.trans (HB2.out.mono Hb1.out.size)).cell (p := ⟨b2, off2 + k, none⟩) hI3).trans (hc2 k hltk)
          clear hc2
          have HDk := Lib.hid (HDs.out l k)
          generalize hv : gI l k = v at *
          have Hv := Lib.hid hv; clear hv
          by_cases hv0 : 0 ≤ v
          · by_cases hvm : v < (m : Int)
            · have hvn : v.toNat < fs.length := by omega
              have hvn2 : v < (fs.length : Int) := by omega
              have hdep := HDp.out v.toNat hvn wr HB2.out
              have hrg := HRm.out v.toNat (by omega)
              generalize dmax fs l k = dk at *
              generalize (gF fs v.toNat).1 = dv at *
              have hd1 : -9223372036854775808 ≤ dk := by omega
              go_wp2_with fail
              go_region
              go_wp2
              all_goals
                go_roundg (l.length - k - 1)
                case measure => have := Hkj.out; omega
                case rel =>
                  refine ⟨k + 1, by have := Hkj.out; omega, by go_num, ?_, ?_, by first | exact Hb2.out.drew | exact Hb2.out⟩
                  · rw [HDk.out]; congr 1; omega
                  · intro q hq
                    by_cases hqk : q = k
                    · rw [hqk, Hv.out]; exact ⟨hv0, hvm⟩
                    · exact Hin.out q (by omega)
            · have hvm2 : (m : Int) ≤ v := by omega
              go_wp2_with fail
              refine (knows9 _).mono ?_
              rintro e w5 ⟨rfl, hb5⟩
              have Hb5 := Lib.hid (HB2.out.trans (hb5.mono HB2.out.size))
              clear hb5
              go_wp2
              go_ret
              exact ⟨rfl, Hb1.out.trans (Hb5.out.mono Hb1.out.size)⟩
          · have hvneg : v < 0 := by omega
            go_wp2_with fail
            refine (knows9 _).mono ?_
            rintro e w5 ⟨rfl, hb5⟩
            have Hb5 := Lib.hid (HB2.out.trans (hb5.mono HB2.out.size))
            clear hb5
            go_wp2
            go_ret
            exact ⟨rfl, Hb1.out.trans (Hb5.out.mono Hb1.out.size)⟩
        · obtain rfl : k = l.length := by omega
          have hdep := HDp.out m hlt wr HB2.out
          have Hown2 := Lib.hid (own_turn (w' := wr) Hown.out (fun g hg => Hb2.out.block g (Hown.out.lt g hg).2))
          have hsn := Hsn.out
          have Hsn2 := Lib.hid hsn; clear hsn
          generalize dmax fs l l.length = dm at *
          generalize hdm : (gF fs m).1 = dv at *
          have Hdm := Lib.hid hdm; clear hdm
          have hmr0 := hmr.1
          have hmr1 := hmr.2
          generalize hmo : mostD fs m = mo at *
          have Hmo := Lib.hid hmo; clear hmo
          by_cases hd : dv = dm + 1
          · have hne : (dv != dm + 1) = false := by simp [hd]
            have Hd := Lib.hid hd; clear hd
            have hbs := HB2.out.size
            by_cases hmx : mo < dm + 1
            all_goals
              go_wp2_with (at_builtin; refine append_new (o := ⟨some 81, _, _, _, _, _⟩) rfl (.tmp 79) (.tmp 80) 31 rfl w1.heap.size 3 _ 1 8 Try.underlying31 intinfo rfl (by decide) _ _ _ Hown2.out #[.int .i64 1] 1 rfl rfl rfl rfl (by simp only [maxLen]; omega) (by omega) hbs ?_; intro v' w' hown' hg' hsz' hat' hsh')
              obtain ⟨g', c'', rfl⟩ := hsh' (by omega)
              go_wp2
              go_roundg (fs.length - m - 1)
              case measure => have := Hmj.out; omega
              case rel =>
                refine ⟨m + 1, by have := Hmj.out; omega, by go_num, ?_, Hsn2.out Hin.out Hd.out, HB2.out.grown hg' hbs (fun y hy => (Hown2.out.lt y hy).1), _, _, rfl, ?_⟩
                · rw [HMm.out]; congr 1; have := Hd.out; omega
                · have e : ints .i64 (List.replicate (m + 1) 1) = ints .i64 (List.replicate m 1) ++ [.int .i64 1] := by rw [List.replicate_succ']; simp [ints]
                  rw [e]; exact hown'
          · have hne : (dv != dm + 1) = true := by simp [hd]
            clear hd
            go_wp2_with fail
            refine (knows9 _).mono ?_
            rintro e w5 ⟨rfl, hb5⟩
            have Hb5 := Lib.hid (HB2.out.trans (hb5.mono HB2.out.size))
            clear hb5
            go_wp2
            go_ret
            exact ⟨rfl, Hb1.out.trans (Hb5.out.mono Hb1.out.size)⟩
    · obtain rfl : m = fs.length := by omega
      have htm := Htm.out Hseq.out
      have htd := Htd.out Hseq.out
      have ho := own_is Hown.out (by simp) rfl
      have Hbw := Lib.hid (Hb1.out.trans (Hb.out.mono Hb1.out.size))
      have h20 := H20.out wo A' c' Hbw.out ho
      rw [htm] at h20
      unfold Li at h20
      simp only [List.length_replicate, List.length_map] at h20
      have H20' := Lib.hid h20
      have HDL := Lib.hid (show ∀ j, j < fs.length → gI (fs.map (·.1)) j = (gF fs j).1 from fun j hj => by simp [gI, gF, List.getElem?_eq_getElem hj])
      have HLl := Lib.hid (show (fs.map (·.1)).length = fs.length from by simp)
      have HT := Lib.hid htd
      clear htm htd ho h20 k2
      obtain ⟨k0, k1, k2⟩ := HXb.out wo Hb.out
      have hne : ((fs.length : Int) != (fs.length : Int)) = false := by simp
      go_wp2_with fail
      refine H20'.out.mono ?_
      rintro e w4 ⟨A4, c4, rfl, hi4, hb4⟩
      have Hi4 := Lib.hid hi4
      have Hb4 := Lib.hid (Hb.out.trans (hb4.mono Hb.out.size))
      clear hi4 hb4 k0 k1 k2
      have k2 := (HXb.out w4 Hb4.out).2.2
      go_wp2
      go_loopg [10] fs.length (fun j i w5 => ∃ x : Nat, x + j = fs.length ∧ i = .int .i64 x ∧ Below w4.heap.size w4 w5)
      case atStart => exact ⟨0, by omega, rfl, Below.refl _ _⟩
      case round =>
        clear k2
        obtain ⟨x, hxj, rfl, hb5⟩ := hrel
        have Hxj := Lib.hid hxj; have hxn : x ≤ fs.length := by omega
        have Hb5 := Lib.hid hb5
        have HB5 := Lib.hid (Hb4.out.trans (hb5.mono Hb4.out.size))
        clear hxj hb5
        obtain ⟨k0, k1, k2⟩ := HXb.out wr HB5.out
        by_cases hltx : x < fs.length
        · have hxi : (x : Int) < (fs.length : Int) := by omega
          obtain ⟨b, off, rfl, hI, hc⟩ := HP.out (by omega)
          have hdep := (hc x hltx).dep hI (Hb1.out.trans (HB5.out.mono Hb1.out.size))
          obtain ⟨b4, off4, rfl, hI4, hc4⟩ := Hi4.out.at (by rw [HLl.out]; omega)
          have hcell : wr.cell? ⟨b4, off4 + x, none⟩ = some (.int .i64 (gF fs x).1) := by
            rw [← HDL.out x hltx]
            exact (Hb5.out.cell (p := ⟨b4, off4 + x, none⟩) hI4).trans (hc4 x (by rw [HLl.out]; exact hltx))
          clear hc hc4
          generalize (gF fs x).1 = dv at *
          have hdd : (dv != dv) = false := by simp
          go_wp2_with fail
          go_quiet (fail)
          go_wp2
          go_roundg (fs.length - x - 1)
          case measure => have := Hxj.out; omega
          case rel => exact ⟨x + 1, by have := Hxj.out; omega, by go_num, below_draws Hb5.out _⟩
        · have hbb := Hb1.out.trans (HB5.out.mono Hb1.out.size)
          have Hbb := Lib.hid hbb
          have h13 := H13.out wr hbb
          have HS := Lib.hid (treeI_small (wavesI fs) (waves_small fs hn2).1 (waves_small fs hn2).2)
          clear hbb
          generalize treeI (wavesI fs) = t at *
          obtain ⟨tk, tf, tl⟩ := t
          have h17 := fun A c w => depth17 2 (.node tk tf tl) A c w
          rw [HT.out] at h17
          unfold tree at h17
          unfold Tv tree at h13
          simp only [Tree.kind, Tree.fetch, Tree.list] at h13 h17 HS
          have H13' := Lib.hid h13; have H17 := Lib.hid h17
          have hsl := HS.out
          clear h13 h17
          generalize mostD fs fs.length = mo at *
          have hmm : (mo == mo) = true := by simp
          go_wp2_with fail
          refine H13'.out.mono ?_
          rintro e w6 ⟨A6, c6, rfl, hn6, hb6⟩
          have HN6 := Lib.hid hn6
          have Hb6 := Lib.hid (Hbb.out.trans (hb6.mono Hbb.out.size))
          clear hn6 hb6
          go_wp2_with fail
          refine (H17.out A6 c6 w6 HN6.out (by omega)).mono ?_
          rintro e w7 ⟨rfl, hb7⟩
          have Hb7 := Lib.hid (Hb6.out.trans (hb7.mono Hb6.out.size))
          clear hb7
          go_wp2_with fail
          refine (knows9 _).mono ?_
          rintro e w8 ⟨rfl, hb8⟩
          have Hb8 := Lib.hid (Hb7.out.trans (hb8.mono Hb7.out.size))
          clear hb8
          go_wp2
          go_ret
          exact ⟨rfl, Hb8.out⟩
end Go.Proofs.Ytkldeelhlbhlmaa
