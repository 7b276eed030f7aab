import Derived.Lib.OthersKept
import Derived.Test.YthjiclhfhjdjpaaGreatDoorQ27
set_option maxHeartbeats 8000000
set_option maxRecDepth 100000
set_option linter.unusedVariables false
set_option linter.unusedSimpArgs false
namespace Go.Proofs.YthjiclhfhjdjpaaGreatDoor
open Go.RowKit
attribute [local irreducible] wpList Calls Code.wp
def hexIx (g : UInt8) : Int:=Lib.indexByte [48,49,50,51,52,53,54,55,56,57,97,98,99,100,101,102] (bits BinOp.or IntKind.u8 (g.toNat : Int) 32).toNat.toUInt8
def ixOk (g : UInt8) : Bool:=match valU g with
 | some d => decide (hexIx g = (d : Int)) && decide (48 <= g.toNat) && decide (g.toNat <= 57 \/ 65 <= g.toNat)
 | none => decide (-1 <= hexIx g) && decide (hexIx g <= 15) && decide (hexIx g < 0 \/ g.toNat < 48 \/ 57 < g.toNat /\ g.toNat < 65)
theorem ix_ok (g : UInt8) : ixOk g = true:=zJu (p:=fun g => ixOk g = true) (by decide +kernel) g
theorem ix_some {g : UInt8} {d : Nat} (h : valU g = some d) : hexIx g = (d : Int) /\ 48 <= g.toNat /\ (g.toNat <= 57 \/ 65 <= g.toNat):=by
 have:=ix_ok g
 unfold ixOk at this
 rw [h] at this
 simp only [Bool.and_eq_true,decide_eq_true_eq] at this
 exact ⟨this.1.1,this.1.2,this.2⟩
theorem ix_none {g : UInt8} (h : valU g = none) : -1 <= hexIx g /\ hexIx g <= 15 /\ (hexIx g < 0 \/ g.toNat < 48 \/ 57 < g.toNat /\ g.toNat < 65):=by
 have:=ix_ok g
 unfold ixOk at this
 rw [h] at this
 simp only [Bool.and_eq_true,decide_eq_true_eq] at this
 exact ⟨this.1.1,this.1.2,this.2⟩
theorem zDC {T e : TypeId} {B b : Nat} {p : Value} {bs : List Value} {w w' : World} (h : Lib.BuilderAtF T e B b p bs w) (hb : Below w.heap.size w w') : Lib.BuilderAtF T e B b p bs w':=by
 obtain ⟨hB,v,h1,hown,hne⟩:=h
 have old : ∀ k o,w.heap[k]? = some o -> w'.heap[k]? = some o:=fun k o hk => by
  have hl : k < w.heap.size:=by
   rcases Nat.lt_or_ge k w.heap.size with h' | h'
   . exact h'
   . rw [Array.getElem?_eq_none h'] at hk; cases hk
  rw [hb.block k hl]; exact hk
 refine ⟨hB,v,old _ _ h1,⟨hown.1,?_⟩,hne⟩
 rcases hown.2 with hn | ⟨g,cap,cur,fz,hv,hbg,hg,rest⟩
 . exact .inl hn
 . exact .inr ⟨g,cap,cur,fz,hv,hbg,old _ _ hg,rest⟩
theorem isB_keep {B b : Nat} {bs : List Value} {w w' : World} (h : IsB B b bs w) (hb : Below w.heap.size w w') : IsB B b bs w':=
 h.elim (fun x => .inl (zDC x hb)) (fun x => .inr (zDC x hb))
theorem unquoteP (s : ByteArray) (w : World) (hs : s.size <= 100000) : Calls Tryz.prog 167 #[.string s] w (Uq (unquoteU s.data.toList) w):=by
 by_cases hlen : s.size < 2
 . have Hno:=Lib.hid (zDc (s:=s) (fun h => by omega))
   have q0 : decide ((s.size : Int) < 2) = true:=decide_eq_true (by omega)
   go_enter Tryz.func167,Tryz.ntmps167
   go_wp2
   go_ret2
   exact ⟨by rw [Hno.out]; rfl,Below.refl _ _⟩
 have q0 : decide ((s.size : Int) < 2) = false:=decide_eq_false (by omega)
 have i0 : (0 : Int) < (s.size : Int):=by omega
 have hb0:=zCp (show 0 < s.size by omega)
 have hr0:=zBD s 0
 by_cases h0 : bV s 0 = 34
 case neg =>
  have Hno:=Lib.hid (zDc (s:=s) (fun h => h0 h.2.1))
  have q1 : (bV s 0 == 34) = false:=beq_false_of_ne h0
  generalize bV s 0 = v0 at *
  go_enter Tryz.func167,Tryz.ntmps167
  go_wp2
  go_ret2
  exact ⟨by rw [Hno.out]; rfl,Below.refl _ _⟩
 have hbz:=zCp (show s.size - 1 < s.size by omega)
 have hrz:=zBD s (s.size - 1)
 by_cases hz : bV s (s.size - 1) = 34
 case neg =>
  have Hno:=Lib.hid (zDc (s:=s) (fun h => hz h.2.2))
  have q1 : (bV s (s.size - 1) == 34) = false:=beq_false_of_ne hz
  rw [h0] at hb0
  generalize bV s (s.size - 1) = v1 at *
  go_enter Tryz.func167,Tryz.ntmps167
  go_wp2
  go_ret2
  exact ⟨by rw [Hno.out]; rfl,Below.refl _ _⟩
 have Hu:=Lib.hid (unq_of (by omega) h0 hz)
 rw [h0] at hb0
 rw [hz] at hbz
 clear h0 hz hr0 hrz
 have hdz : (s.extract 1 (s.size - 1)).size <= 100000:=by rw [mid_bs,zh]; simp; omega
 obtain ⟨d,hd⟩ : ∃ d,s.extract 1 (s.size - 1) = d:=⟨_,rfl⟩
 rw [hd] at Hu hdz
 go_enter Tryz.func167,Tryz.ntmps167
 go_wp2
 clear hb0 hbz i0 q0
 have h0:=Lib.IsBuilderF.of (Lib.fresh_isBuilder 92 5 w)
 have H0:=Lib.hid h0
 clear h0
 go_loopg [5] d.size (fun j i wr => ∃ (m : Nat) (acc : List UInt8),m + j = d.size /\ i = .int .i64 m /\ acc.length <= m /\ unqU d.data.toList = (unqU (d.data.toList.drop m)).map (acc ++ ·) /\ Below w.heap.size w wr /\ IsB w.heap.size w.heap.size (Lib.byteCells acc) wr)
 case atStart => exact ⟨0,[],by omega,rfl,by simp,by simp,(Below.refl _ _).alloc (Nat.le_refl _) _,H0.out⟩
 case round =>
  obtain ⟨x,acc,hmj,rfl,hac,hun,hb,hI⟩:=hrel
  have Hmj:=Lib.hid hmj; have hmn : x <= d.size:=by omega
  have Hun:=Lib.hid hun
  have Hb:=Lib.hid hb
  have HI:=Lib.hid hI
  have hal : acc.length <= 100000:=by omega
  have Hac:=Lib.hid hac
  clear hmj hun hb hac hI H0
  by_cases hlt : x < d.size
  . have hxi : (x : Int) < (d.size : Int):=by omega
    have hb:=zCp hlt
    rw [bV_bC] at hb
    have HL:=Lib.hid (zDp hlt)
    have hc256:=(bC d x).toNat_lt
    generalize bC d x = c at *
    obtain ⟨v,hv⟩ : ∃ v : Int,(c.toNat : Int) = v:=⟨_,rfl⟩
    rw [hv] at hb
    by_cases hbad : c.toNat < 32 \/ 126 < c.toNat \/ c = 34
    . have Hno:=Lib.hid (Hu.out.trans (zAt Hun.out (by rw [HL.out]; exact zIf hbad)))
      have hbv : v < 32 \/ 126 < v \/ v = 34:=by
       rcases hbad with h | h | h
       . exact .inl (by omega)
       . exact .inr (.inl (by omega))
       . exact .inr (.inr (by rw [<- hv,h]; rfl))
      clear hbad hv
      rcases hbv with h | h | h
      . go_wp2
        go_ret2
        exact ⟨by rw [Hno.out]; rfl,Hb.out⟩
      . go_wp2
        all_goals first
         | (exfalso; omega)
         | (go_ret2
            exact ⟨by rw [Hno.out]; rfl,Hb.out⟩)
      . subst h
        go_wp2
        go_ret2
        exact ⟨by rw [Hno.out]; rfl,Hb.out⟩
    have hc34 : v ≠ 34:=by
     rw [<- hv]
     exact zDR (n:=34) (by omega) (fun e => hbad (.inr (.inr e)))
    have f1 : decide (v < 32) = false:=decide_eq_false (by omega)
    have f1' : ¬ v < 32:=by omega
    have f2 : decide (v > 126) = false:=decide_eq_false (by omega)
    have f3 : (v == 34) = false:=beq_false_of_ne hc34
    by_cases h92 : c = 92
    case neg =>
     have q92 : (v == 92) = false:=beq_false_of_ne (by rw [<- hv]; exact zDR (n:=92) (by omega) h92)
     have Hst:=Lib.hid (zCy (m':=x + 1) Hun.out (by rw [HL.out]; exact zFD hbad h92))
     have Hv:=Lib.hid hv
     clear hbad hv h92
     go_wp2_with fail
     refine (wB w.heap.size w.heap.size acc c v _ Hv.out.symm HI.out (by omega) Hb.out.size).mono ?_
     rintro e2 w2 ⟨rfl,h2,hb2⟩
     have H2:=Lib.hid h2
     have Hb2:=Lib.hid (Hb.out.trans hb2)
     clear h2 hb2
     go_wp2
     go_roundg (gk - 1)
     case measure => have:=Hmj.out; omega
     case rel => exact ⟨x + 1,acc ++ [c],by have:=Hmj.out; omega,by go_num,by have:=Hac.out; simp; omega,Hst.out,Hb2.out,H2.out⟩
    subst h92
    obtain rfl : v = 92:=by rw [<- hv]; rfl
    clear hbad hv hc34 f1 f1' f2 f3 hc256
    by_cases hlt1 : x + 1 < d.size
    case neg =>
     have Hno:=Lib.hid (Hu.out.trans (zAt Hun.out (by rw [HL.out,List.drop_of_length_le (by simp; omega)]; exact zGt)))
     have q1 : ((x : Int) + 1 == (d.size : Int)) = true:=by rw [beq_iff_eq]; omega
     go_wp2
     go_ret2
     exact ⟨by rw [Hno.out]; rfl,Hb.out⟩
    have q1 : ((x : Int) + 1 == (d.size : Int)) = false:=beq_false_of_ne (by omega)
    have hxi1 : (x : Int) + 1 < (d.size : Int):=by omega
    have hb1:=zCp hlt1
    rw [bV_bC] at hb1
    have HL1:=Lib.hid (HL.out.trans (by rw [zDp hlt1]))
    clear HL
    have HS:=Lib.hid (plainP (bC d (x + 1)) _ rfl wr)
    unfold Sm at HS
    generalize bC d (x + 1) = e at *
    cases hsim : simU e with
    | some y =>
      rw [hsim] at HS
      unfold simV at HS
      have Hst:=Lib.hid (zCy (m':=x + 2) Hun.out (by rw [HL1.out]; exact zIe hsim))
      clear hsim
      generalize (e.toNat : Int) = ev at *
      go_wp2_with fail
      refine HS.out.mono ?_
      rintro e2 w2 ⟨rfl,rfl⟩
      go_wp2_with fail
      refine (wB w.heap.size w.heap.size acc y (y.toNat : Int) _ rfl HI.out (by omega) Hb.out.size).mono ?_
      rintro e2 w2 ⟨rfl,h2,hb2⟩
      have H2:=Lib.hid h2
      have Hb2:=Lib.hid (Hb.out.trans hb2)
      clear h2 hb2
      go_wp2
      go_roundg (gk - 2)
      case measure => have:=Hmj.out; omega
      case rel => exact ⟨x + 2,acc ++ [y],by have:=Hmj.out; omega,by go_num,by have:=Hac.out; simp; omega,Hst.out,Hb2.out,H2.out⟩
    | none =>
      rw [hsim] at HS
      unfold simV at HS
      have hrl : (d.data.toList.drop (x + 1 + 1)).length = d.size - (x + 2):=by simp
      by_cases h117 : e = 117
      case neg =>
       have q117 : ((e.toNat : Int) == 117) = false:=beq_false_of_ne (zDR (n:=117) (by omega) h117)
       have Hno:=Lib.hid (Hu.out.trans (zAt Hun.out (by rw [HL1.out]; exact zFl hsim (.inl h117))))
       clear hsim h117
       have n117 : ¬ (e.toNat : Int) = 117:=by simpa using q117
       generalize (e.toNat : Int) = ev at *
       go_wp2_with fail
       refine HS.out.mono ?_
       rintro e2 w2 ⟨rfl,rfl⟩
       go_wp2
       all_goals first
        | (exfalso; omega)
        | (go_ret2
           exact ⟨by rw [Hno.out]; rfl,Hb.out⟩)
      have he : (e.toNat : Int) = 117:=by rw [h117]; rfl
      rw [he] at hb1 HS
      by_cases hfit : x + 6 <= d.size
      case neg =>
       have q6 : decide ((x : Int) + 1 + 4 >= (d.size : Int)) = true:=decide_eq_true (by omega)
       have Hno:=Lib.hid (Hu.out.trans (zAt Hun.out (by rw [HL1.out]; exact zFl hsim (.inr (by rw [hrl]; omega)))))
       clear hsim h117 he
       go_wp2_with fail
       refine HS.out.mono ?_
       rintro e2 w2 ⟨rfl,rfl⟩
       go_wp2
       go_ret2
       exact ⟨by rw [Hno.out]; rfl,Hb.out⟩
      have q6 : decide ((x : Int) + 1 + 4 >= (d.size : Int)) = false:=decide_eq_false (by omega)
      have HL2 : d.data.toList.drop x = 92 :: 117 :: d.data.toList.drop (x + 1 + 1):=by rw [HL1.out,h117]
      have Hcode:=Lib.hid ((congrArg unqU HL2).trans (zGu (by rw [hrl]; omega)))
      clear HL2
      have hksz : (d.extract (x + 2) (x + 6)).size = 4:=by rw [ByteArray.size_extract]; omega
      have Hcl:=Lib.hid (zJf d x)
      obtain ⟨k,hk⟩ : ∃ k,d.extract (x + 2) (x + 6) = k:=⟨_,rfl⟩
      have hk' : d.extract (x + 1 + 1) (x + 1 + 5) = k:=hk
      rw [hk] at hksz Hcl
      have Hd4:=Lib.hid (show (d.data.toList.drop (x + 1 + 1)).drop 4 = d.data.toList.drop (x + 6) by rw [List.drop_drop])
      clear hsim h117 he
      go_wp2_with fail
      have hcv:=Lib.run_convert_string_bytes (P:=Tryz.prog) wr 9 90 5 k Tryz.underlying9 Tryz.underlying90 Tryz.underlying5
      obtain ⟨W2,hW2⟩ : ∃ W2,Lib.bytesWorld wr 5 k = W2:=⟨_,rfl⟩
      have hcell : ∀ j : Nat,j < 4 -> W2.cell? ⟨wr.heap.size,j,none⟩ = some (.int .u8 ((bC k j).toNat : Int)):=fun j hj => by rw [<- hW2]; exact Lib.bytesWorld_cell wr 5 k j (by omega)
      have hbl : Below wr.heap.size wr W2:=by rw [<- hW2]; exact Lib.bytesWorld_below _ _ _
      have HI2:=Lib.hid (isB_keep HI.out hbl)
      have Hb2:=Lib.hid (Hb.out.trans (hbl.mono Hb.out.size))
      have Hcell:=Lib.hid hcell
      rw [hW2,hksz] at hcv
      clear hW2 hbl hcell
      generalize grownCap wr 4 0 5 = cp at hcv
      obtain ⟨bk,hbk⟩ : ∃ bk,wr.heap.size = bk:=⟨_,rfl⟩
      rw [hbk] at hcv Hcell
      clear hbk
      refine HS.out.mono ?_
      rintro e2 w2 ⟨rfl,rfl⟩
      go_wp2
      go_loopg [9,92] 4 (fun j n i wr2 => ∃ m u : Nat,m + j = 4 /\ i = .int .i64 m /\ n = .int .i64 u /\ u < 16 ^ m /\ codeFrom 0 k.data.toList = codeFrom u (k.data.toList.drop m) /\ wr2 = W2)
      case atStart => exact ⟨0,0,by omega,rfl,rfl,by simp,rfl,rfl⟩
      case round =>
       obtain ⟨z,u,hzj,rfl,rfl,hu,hc,rfl⟩:=hrel
       clear hk hk'
       have Hzj:=Lib.hid hzj; have hzn : z <= 4:=by omega
       clear hzj
       have Hc:=Lib.hid hc
       clear hc
       by_cases hz4 : z < 4
       . have hu2 : u < 65536:=Nat.lt_of_lt_of_le hu (Nat.pow_le_pow_right (by omega) (by omega : z <= 4))
         have Hu16:=Lib.hid hu
         clear hu
         have hzi : (z : Int) < 4:=by omega
         have hcl:=Hcell.out z hz4
         have Hdr:=Lib.hid (zDp (s:=k) (x:=z) (by omega))
         generalize bC k z = g at *
         have HIx:=Lib.hid (Tryz.strings_IndexByte ⟨#[48,49,50,51,52,53,54,55,56,57,97,98,99,100,101,102]⟩ (bits BinOp.or IntKind.u8 (g.toNat : Int) 32) wr)
         rw [show Lib.indexByte (⟨#[48,49,50,51,52,53,54,55,56,57,97,98,99,100,101,102]⟩ : ByteArray).data.toList (bits BinOp.or IntKind.u8 (g.toNat : Int) 32).toNat.toUInt8 = hexIx g from rfl] at HIx
         cases hval : valU g with
         | some dd =>
           have hd16:=val_lt hval
           obtain ⟨j1,j2,j3⟩:=ix_some hval
           rw [j1] at HIx
           have Hok:=Lib.hid (show codeFrom 0 k.data.toList = codeFrom (16 * u + dd) (k.data.toList.drop (z + 1)) by rw [Hc.out,Hdr.out,zHZ hval])
           clear hval j1
           have g0 : decide ((dd : Int) < 0) = false:=decide_eq_false (by omega)
           have g0' : ¬ (dd : Int) < 0:=by omega
           have g48 : decide ((g.toNat : Int) < 48) = false:=decide_eq_false (by omega)
           have g48' : ¬ (g.toNat : Int) < 48:=by omega
           go_wp2_with fail
           refine HIx.out.mono ?_
           rintro e2 w3 ⟨rfl,rfl⟩
           rcases j3 with j3 | j3
           . have g57 : decide ((g.toNat : Int) > 57) = false:=decide_eq_false (by omega)
             go_wp2
             all_goals first
              | (exfalso; omega)
              | (go_roundg (gk - 1)
                 case measure => have:=Hzj.out; omega
                 case rel => exact ⟨z + 1,16 * u + dd,by have:=Hzj.out; omega,by go_num,by go_num,by have:=Hu16.out; rw [Nat.pow_succ]; omega,Hok.out,rfl⟩)
           . have g65 : decide ((g.toNat : Int) < 65) = false:=decide_eq_false (by omega)
             rcases Nat.lt_or_ge 57 g.toNat with j4 | j4
             . have g57 : decide ((g.toNat : Int) > 57) = true:=decide_eq_true (by omega)
               go_wp2
               all_goals first
                | (exfalso; omega)
                | (go_roundg (gk - 1)
                   case measure => have:=Hzj.out; omega
                   case rel => exact ⟨z + 1,16 * u + dd,by have:=Hzj.out; omega,by go_num,by go_num,by have:=Hu16.out; rw [Nat.pow_succ]; omega,Hok.out,rfl⟩)
             . exfalso; omega
         | none =>
           obtain ⟨j1,j2,j3⟩:=ix_none hval
           have Hcn:=Lib.hid (show codeFrom 0 k.data.toList = none by rw [Hc.out,Hdr.out,zHa hval])
           have Hno:=Lib.hid (Hu.out.trans (zAt Hun.out (Hcode.out.trans (by rw [show (d.data.toList.drop (x + 1 + 1)).take 4 = k.data.toList from Hcl.out.symm,Hcn.out]))))
           clear hval
           obtain ⟨ix,hix⟩ : ∃ ix,hexIx g = ix:=⟨_,rfl⟩
           rw [hix] at HIx j1 j2 j3
           clear hix
           go_wp2_with fail
           refine HIx.out.mono ?_
           rintro e2 w3 ⟨rfl,rfl⟩
           rcases Int.lt_or_le ix 0 with h | h
           . have g0 : decide (ix < 0) = true:=decide_eq_true h
             go_wp2
             all_goals first
              | (exfalso; omega)
              | (go_ret2
                 exact ⟨by rw [Hno.out]; rfl,Hb2.out⟩)
           . have g0 : decide (ix < 0) = false:=decide_eq_false (by omega)
             have g0' : ¬ ix < 0:=by omega
             rcases Nat.lt_or_ge g.toNat 48 with h' | h'
             . have g48 : decide ((g.toNat : Int) < 48) = true:=decide_eq_true (by omega)
               go_wp2
               all_goals first
                | (exfalso; omega)
                | (go_ret2
                   exact ⟨by rw [Hno.out]; rfl,Hb2.out⟩)
             . have g48 : decide ((g.toNat : Int) < 48) = false:=decide_eq_false (by omega)
               have g48' : ¬ (g.toNat : Int) < 48:=by omega
               have g57 : decide ((g.toNat : Int) > 57) = true:=decide_eq_true (by omega)
               have g65 : decide ((g.toNat : Int) < 65) = true:=decide_eq_true (by omega)
               go_wp2
               all_goals first
                | (exfalso; omega)
                | (go_ret2
                   exact ⟨by rw [Hno.out]; rfl,Hb2.out⟩)
       . obtain rfl : z = 4:=by omega
         have Hfin:=Lib.hid (show codeFrom 0 k.data.toList = some u by
          rw [Hc.out,List.drop_of_length_le (by simp; omega)]; rfl)
         clear hu
         have Hcode2:=Lib.hid (Hcode.out.trans (by rw [show (d.data.toList.drop (x + 1 + 1)).take 4 = k.data.toList from Hcl.out.symm,Hfin.out]))
         by_cases hn : u <= 255
         case neg =>
          have n255 : decide ((u : Int) > 255) = true:=decide_eq_true (by omega)
          have Hno:=Lib.hid (Hu.out.trans (zAt Hun.out (Hcode2.out.trans (if_neg hn))))
          go_wp2
          go_ret2
          exact ⟨by rw [Hno.out]; rfl,Hb2.out⟩
         have n255 : decide ((u : Int) > 255) = false:=decide_eq_false (by omega)
         have Hst:=Lib.hid (zCy (m':=x + 6) Hun.out (by rw [<- Hd4.out]; exact Hcode2.out.trans (if_pos hn)))
         have hon : (u : Int) = ((UInt8.ofNat u).toNat : Int):=by simp; omega
         have Hon:=Lib.hid hon
         clear hon
         go_wp2_with fail
         refine (wB w.heap.size w.heap.size acc (UInt8.ofNat u) (u : Int) _ Hon.out HI2.out (by omega) Hb2.out.size).mono ?_
         rintro e2 w3 ⟨rfl,h3,hb3⟩
         have H3:=Lib.hid h3
         have Hb3:=Lib.hid (Hb2.out.trans hb3)
         clear h3 hb3
         go_wp2
         go_roundg (d.size - (x + 6))
         case measure => have:=Hmj.out; omega
         case rel => exact ⟨x + 6,acc ++ [UInt8.ofNat u],by have:=Hmj.out; omega,by go_num,by have:=Hac.out; simp; omega,Hst.out,Hb3.out,H3.out⟩
  . obtain rfl : x = d.size:=by omega
    have Hfin:=Lib.hid (Hu.out.trans (unq_end Hun.out (by simp)))
    go_wp2_with fail
    refine (Tryz.Builder_String_any_k w.heap.size w.heap.size acc _ HI.out Hb.out.size).mono ?_
    rintro e w2 ⟨rfl,_,hb2,_⟩
    have Hb2:=Lib.hid (Hb.out.trans hb2)
    clear hb2
    have Ha:=Lib.hid (show uqV (some acc) = .tuple #[.string (bs acc),.int .i64 0] from rfl)
    go_wp2
    go_ret2
    exact ⟨by rw [Hfin.out,Ha.out]; rfl,Hb2.out⟩
end Go.Proofs.YthjiclhfhjdjpaaGreatDoor
namespace Go.Proofs.YthjiclhfhjdjpaaGreatDoor
def sepB (c : UInt8) : Bool:=c == 32 || c == 9 || c == 10 || c == 13 || c == 44
def skipM : Bool -> List UInt8 -> Nat
 | _,[] => 0
 | false,c :: r => if sepB c then skipM false r + 1 else if c == 35 then skipM true r + 1 else 0
 | true,c :: r => if c == 10 || c == 13 then skipM false r + 1 else skipM true r + 1
def letU (c : UInt8) : Bool:=decide (97 <= c.toNat /\ c.toNat <= 122) || decide (65 <= c.toNat /\ c.toNat <= 90) || c == 95
def wrdU (c : UInt8) : Bool:=letU c || digU c
def signB (c : UInt8) : Bool:=[33,36,38,40,41,58,61,64,91,93,123,124,125].contains c
def spanN (p : UInt8 -> Bool) : List UInt8 -> Nat
 | [] => 0
 | c :: r => if p c then spanN p r + 1 else 0
def litN : List UInt8 -> Option Nat
 | [] => none
 | [c] => if c == 34 then some 1 else none
 | c :: d :: r => if c == 34 then some 1 else if c == 92 then (litN r).map (· + 2) else (litN (d :: r)).map (· + 1)
structure Tok where
 k : Int
 s : List UInt8
 i : Nat
deriving DecidableEq
def nerU : Lib.NumEnd Int -> Int
 | .ok _ => 0
 | Lib.NumEnd.syntax => 3
 | .range => 4
def readU (l : List UInt8) : Except Int (Int × List UInt8 × Nat):=
 match l with
 | [] => .error 3
 | c :: r =>
   if signB c then .ok (1,[c],1)
   else if c == 46 then (if r.take 2 = [46,46] then .ok (1,[46,46,46],3) else .error 3)
   else if c == 45 || digU c then
    (if nerU (numU (c :: r.take (spanN wrdU r))) = 0 then .ok (3,c :: r.take (spanN wrdU r),spanN wrdU r + 1) else .error (nerU (numU (c :: r.take (spanN wrdU r)))))
   else if letU c then
    (if spanN wrdU r + 1 > 64 then .error 3 else .ok (2,c :: r.take (spanN wrdU r),spanN wrdU r + 1))
   else if c == 34 then
    (match litN r with
    | none => .error 3
    | some n => match unquoteU (c :: r.take n) with
      | none => .error 3
      | some t => .ok (4,t,n + 1))
   else .error 3
def zDA (l : List UInt8) (i : Nat) : Except Int (Tok × Nat):=
 match readU l with
 | .error e => .error e
 | .ok (k,s,n) => .ok (⟨k,s,i⟩,n)
def scanF : Nat -> List UInt8 -> Nat -> Except (Nat × Int) (List Tok)
 | 0,_,i => .error (i,0)
 | f + 1,l,i =>
   match l.drop (skipM false l) with
   | [] => .ok [⟨5,[],i + l.length⟩]
   | c :: r => match zDA (c :: r) (i + skipM false l) with
     | .error e => .error (i + skipM false l,e)
     | .ok (t,n) => match scanF f ((c :: r).drop n) (i + skipM false l + n) with
       | .error e => .error e
       | .ok ts => .ok (t :: ts)
def zAp (l : List UInt8) : Except (Nat × Int) (List Tok):=if l.length > 65536 then .error (65536,4) else scanF (l.length + 1) l 0
theorem zAl : ∀ (b : Bool) (l : List UInt8),skipM b l <= l.length
 | b,[] => by cases b <;> simp [skipM]
 | false,c :: r => by
   have h1:=zAl false r
   have h2:=zAl true r
   unfold skipM
   split
   . simp; omega
   . split
     . simp; omega
     . simp
 | true,c :: r => by
   have h1:=zAl false r
   have h2:=zAl true r
   unfold skipM
   split <;> simp <;> omega
theorem zAu (p : UInt8 -> Bool) : ∀ l,spanN p l <= l.length
 | [] => Nat.le_refl _
 | c :: r => by
   have:=zAu p r
   unfold spanN
   split <;> simp <;> omega
theorem zEg : ∀ (l : List UInt8) (n : Nat),litN l = some n -> 1 <= n /\ n <= l.length
 | [],n,h => by simp [litN] at h
 | [c],n,h => by
   unfold litN at h
   split at h
   . cases h; simp
   . cases h
 | c :: d :: r,n,h => by
   unfold litN at h
   split at h
   . cases h; simp
   . split at h
     . obtain ⟨m,hm,rfl⟩:=Option.map_eq_some_iff.1 h
       have:=zEg r m hm
       simp; omega
     . obtain ⟨m,hm,rfl⟩:=Option.map_eq_some_iff.1 h
       have:=zEg (d :: r) m hm
       simp at this |-; omega
theorem zC0 {l : List UInt8} {k : Int} {t : List UInt8} {n : Nat} (h : readU l = .ok (k,t,n)) : 1 <= n /\ n <= l.length /\ 1 <= k /\ k <= 4:=by
 unfold readU at h
 split at h
 . cases h
 . rename_i c r
   have hs:=zAu wrdU r
   split at h
   . cases h; simp
   split at h
   . split at h
     . rename_i h3
       cases h
       have : (r.take 2).length = 2:=by rw [h3]; rfl
       rw [List.length_take] at this
       simp; omega
     . cases h
   split at h
   . split at h
     . cases h; simp; omega
     . cases h
   split at h
   . split at h
     . cases h
     . cases h; simp; omega
   split at h
   . split at h
     . cases h
     . rename_i n' hn
       have:=zEg r n' hn
       split at h
       . cases h
       . cases h; simp; omega
   . cases h
theorem zD9 {l : List UInt8} {i : Nat} {t : Tok} {n : Nat} (h : zDA l i = .ok (t,n)) : readU l = .ok (t.k,t.s,n) /\ t.i = i:=by
 unfold zDA at h
 split at h
 . cases h
 . rename_i k s m hm
   cases h
   exact ⟨hm,rfl⟩
theorem zEA {l : List UInt8} {i : Nat} {t : Tok} {n : Nat} (h : zDA l i = .ok (t,n)) : 1 <= n /\ n <= l.length:=by
 have:=zC0 (zD9 h).1
 omega
structure PS where
 ts : List Tok
 vr : Bool
 nd : Nat
abbrev PR (α : Type):=Except (Nat × Int) (α × PS)
def hdT (x : PS) : Tok:=x.ts.headD ⟨5,[],0⟩
def isS (x : PS) (s : List UInt8) : Bool:=(hdT x).k == 1 && (hdT x).s == s
def nxT (x : PS) : PS:=if (hdT x).k = 5 then x else { x with ts:=x.ts.drop 1 }
def takeQ (s : List UInt8) (x : PS) : PR Unit:=if isS x s = true then .ok ((),nxT x) else .error ((hdT x).i,3)
def nameQ (x : PS) : PR (List UInt8):=if (hdT x).k = 2 then .ok ((hdT x).s,nxT x) else .error ((hdT x).i,3)
def limQ (n most : Nat) (x : PS) : PR Unit:=if most <= n then .error ((hdT x).i,4) else .ok ((),x)
theorem zAh {n most : Nat} {x y : PS} {u : Unit} (h : limQ n most x = .ok (u,y)) : n < most /\ y = x:=by
 unfold limQ at h
 split at h
 . cases h
 . cases h; exact ⟨by omega,rfl⟩
def zX {α β : Type} (r : PR α) (f : α -> PS -> PR β) : PR β:=
 match r with
 | .error e => .error e
 | .ok (a,x) => f a x
def strD (s : List UInt8) : D:=.str ⟨s.toArray⟩
def valD (k n : Int) (s : List UInt8) (items : List D) (keys : List (List UInt8)) : D:=.obj [.int k,.int n,strD s,.list items,.list (keys.map strD)]
def refD (n : List UInt8) (w : List Int) : D:=.obj [strD n,.list (w.map .int)]
def argD (n : List UInt8) (v : D) : D:=.obj [strD n,v]
def dirD (n : List UInt8) (aa : List D) : D:=.obj [strD n,.list aa]
def selD (k : Int) (al n on : List UInt8) (aa ds ss : List D) : D:=.obj [.int k,strD al,strD n,strD on,.list aa,.list ds,.list ss]
def varD (n : List UInt8) (t : D) (h : Bool) (v : D) : D:=.obj [strD n,t,.bool h,v]
def opD (k : Int) (n : List UInt8) (vs ss : List D) : D:=.obj [.int k,strD n,.list vs,.list ss]
def zGP (n on : List UInt8) (ss : List D) : D:=.obj [strD n,strD on,.list ss]
def queD (ops frags : List D) : D:=.obj [.list ops,.list frags]
def zBG : D:=valD 0 0 [] [] []
def openQ : Nat -> PS -> Nat × PS
 | 0,x => (0,x)
 | f + 1,x => if isS x [91] = true then ((openQ f (nxT x)).1 + 1,(openQ f (nxT x)).2) else (0,x)
def closeQ : Nat -> List Int -> PS -> PR (List Int)
 | 0,w,x => .ok (if isS x [33] = true then (1 :: w,nxT x) else (w,x))
 | n + 1,w,x => zX (takeQ [93] (if isS x [33] = true then nxT x else x)) fun _ y => closeQ n (2 :: (if isS x [33] = true then 1 :: w else w)) y
def innerQ (x : PS) : PR (List UInt8 × List Int):=
 zX (nameQ (openQ x.ts.length x).2) fun n y => zX (closeQ (openQ x.ts.length x).1 [] y) fun w z => .ok ((n,w),z)
def typQ (x : PS) : PR D:=zX (innerQ x) fun t y => if t.2.length > 24 then .error ((hdT x).i,5) else .ok (refD t.1 t.2,y)
def numQ (l : List UInt8) : Int:=match numU l with | .ok n => n | _ => 0
def zC9 (s : List UInt8) : D:=
 if s = [116,114,117,101] then valD 1 1 [] [] [] else if s = [102,97,108,115,101] then valD 1 0 [] [] [] else if s = [110,117,108,108] then zBG else valD 4 0 s [] []
def zBt (x : PS) : Bool:=(hdT x).k == 5 || ((hdT x).k == 1 && !isS x [91] && !isS x [123] && !(x.vr && isS x [36]))
def itemsQ (val : PS -> PR D) : Nat -> List D -> PS -> PR (List D)
 | 0,_,x => .error ((hdT x).i,0)
 | f + 1,acc,x => if isS x [93] = true then .ok (acc,nxT x) else zX (val x) fun v y => itemsQ val f (acc ++ [v]) y
def zy (val : PS -> PR D) : Nat -> List (List UInt8) -> List D -> PS -> PR (List (List UInt8) × List D)
 | 0,_,_,x => .error ((hdT x).i,0)
 | f + 1,ks,acc,x =>
   if isS x [125] = true then .ok ((ks,acc),nxT x)
   else zX (nameQ x) fun k y => if ks.contains k = true then .error ((hdT x).i,7) else
    zX (takeQ [58] y) fun _ z => zX (val z) fun v u => zy val f (ks ++ [k]) (acc ++ [v]) u
def valueQ : Nat -> Nat -> PS -> PR D
 | 0,_,x => .error ((hdT x).i,0)
 | f + 1,lv,x =>
   if zBt x = true then .error ((hdT x).i,3)
   else if 24 < lv then .error ((hdT x).i,5)
   else if 4096 <= x.nd then .error ((hdT x).i,4)
   else
    let y : PS:={ nxT x with nd:=x.nd + 1 }
    if (hdT x).k = 3 then .ok (valD 2 (numQ (hdT x).s) [] [] [],y)
    else if (hdT x).k = 4 then .ok (valD 3 0 (hdT x).s [] [],y)
    else if (hdT x).k = 2 then .ok (zC9 (hdT x).s,y)
    else if (hdT x).s = [36] then zX (nameQ y) fun n z => .ok (valD 7 0 n [] [],z)
    else if (hdT x).s = [91] then zX (itemsQ (valueQ f (lv + 1)) (y.ts.length + 1) [] y) fun l z => .ok (valD 5 0 [] l [],z)
    else zX (zy (valueQ f (lv + 1)) (y.ts.length + 1) [] [] y) fun l z => .ok (valD 6 0 [] l.2 l.1,z)
def zAR (x : PS) : PR D:=valueQ 25 1 { x with nd:=0 }
def argsF : Nat -> List D -> PS -> PR (List D)
 | 0,_,x => .error ((hdT x).i,0)
 | f + 1,acc,x =>
   if acc.length ≠ 0 /\ isS x [41] = true then .ok (acc,nxT x)
   else if (hdT x).k = 2 /\ 16 <= acc.length then .error ((hdT x).i,4)
   else zX (nameQ x) fun n y => zX (takeQ [58] y) fun _ z => zX (zAR z) fun v u => argsF f (acc ++ [argD n v]) u
def argsQ (x : PS) : PR (List D):=if isS x [40] = true then argsF x.ts.length [] (nxT x) else .ok ([],x)
def dirsF : Nat -> List D -> PS -> PR (List D)
 | 0,_,x => .error ((hdT x).i,0)
 | f + 1,acc,x =>
   if isS x [64] = true then
    (if 16 <= acc.length then .error ((hdT x).i,4) else zX (nameQ (nxT x)) fun n y => zX (argsQ y) fun aa z => dirsF f (acc ++ [dirD n aa]) z)
   else .ok (acc,x)
def dirsQ (x : PS) : PR (List D):=dirsF (x.ts.length + 1) [] x
def onT : List UInt8:=[111,110]
def selQ (sels : PS -> PR (List D)) (x : PS) : PR D:=
 if isS x [46,46,46] = true then
  let y:=nxT x
  if (hdT y).k = 2 /\ (hdT y).s ≠ onT then zX (dirsQ (nxT y)) fun ds z => .ok (selD 2 [] (hdT y).s [] [] ds [],z)
  else
   zX (if (hdT y).k = 2 then nameQ (nxT y) else .ok ([],y)) fun on z =>
    zX (dirsQ z) fun ds u => zX (sels u) fun ss v => .ok (selD 3 [] [] on [] ds ss,v)
 else
  zX (nameQ x) fun n y =>
   zX (if isS y [58] = true then zX (nameQ (nxT y)) fun m z => .ok ((n,m),z) else .ok (([],n),y)) fun an z =>
    zX (argsQ z) fun aa u => zX (dirsQ u) fun ds v =>
     zX (if isS v [123] = true then sels v else .ok ([],v)) fun ss o => .ok (selD 1 an.1 an.2 [] aa ds ss,o)
def setF (sel : PS -> PR D) : Nat -> List D -> PS -> PR (List D)
 | 0,_,x => .error ((hdT x).i,0)
 | f + 1,acc,x =>
   if acc.length ≠ 0 /\ isS x [125] = true then .ok (acc,nxT x)
   else if ((hdT x).k = 2 \/ isS x [46,46,46] = true) /\ 64 <= acc.length then .error ((hdT x).i,4)
   else zX (sel x) fun s y => setF sel f (acc ++ [s]) y
def selsQ : Nat -> Nat -> PS -> PR (List D)
 | 0,_,x => .error ((hdT x).i,0)
 | f + 1,lv,x =>
   if isS x [123] = true /\ 24 < lv then .error ((hdT x).i,5)
   else zX (takeQ [123] x) fun _ y => setF (selQ (selsQ f (lv + 1))) (y.ts.length + 1) [] y
def setQ (x : PS) : PR (List D):=selsQ 25 1 x
def varsF : Nat -> List D -> PS -> PR (List D)
 | 0,_,x => .error ((hdT x).i,0)
 | f + 1,acc,x =>
   if acc.length ≠ 0 /\ isS x [41] = true then .ok (acc,nxT x)
   else if isS x [36] = true /\ 16 <= acc.length then .error ((hdT x).i,4)
   else zX (takeQ [36] x) fun _ y => zX (nameQ y) fun n z => zX (takeQ [58] z) fun _ u => zX (typQ u) fun t v =>
    zX (if isS v [61] = true then zX (zAR { nxT v with vr:=false }) fun d o => .ok ((true,d),{ o with vr:=true }) else .ok ((false,zBG),v)) fun d o =>
     varsF f (acc ++ [varD n t d.1 d.2]) o
def opQ (k : Int) (x : PS) : PR D:=
 zX (if (hdT x).k = 2 then .ok ((hdT x).s,nxT x) else .ok ([],x)) fun n y =>
  zX (if isS y [40] = true then varsF y.ts.length [] (nxT y) else .ok ([],y)) fun vs z =>
   zX (setQ z) fun ss u => .ok (opD k n vs ss,u)
def zA9 (x : PS) : PR D:=
 if (hdT x).s = onT then .error ((hdT x).i,3)
 else zX (nameQ x) fun n y => if (hdT y).k = 2 /\ (hdT y).s = onT then
  zX (nameQ (nxT y)) fun on z => zX (setQ z) fun ss u => .ok (zGP n on ss,u)
  else .error ((hdT y).i,3)
def zHA : List UInt8:=[113,117,101,114,121]
def mutT : List UInt8:=[109,117,116,97,116,105,111,110]
def subT : List UInt8:=[115,117,98,115,99,114,105,112,116,105,111,110]
def zBH : List UInt8:=[102,114,97,103,109,101,110,116]
def zAi (s : List UInt8) : Int:=if s = zHA then 1 else if s = mutT then 2 else if s = subT then 3 else 0
def docF : Nat -> Nat -> List D -> List D -> PS -> PR (List D × List D)
 | 0,_,_,_,x => .error ((hdT x).i,0)
 | f + 1,n,ops,frs,x =>
   if n ≠ 0 /\ (hdT x).k = 5 then .ok ((ops,frs),x)
   else
    let w:=(hdT x).k = 2 /\ (0 < zAi (hdT x).s \/ (hdT x).s = zBH)
    if ¬ w /\ ¬ isS x [123] = true then .error ((hdT x).i,3)
    else if 64 <= n then .error ((hdT x).i,4)
    else if ¬ w then zX (setQ x) fun ss y => docF f (n + 1) (ops ++ [opD 1 [] [] ss]) frs y
    else if 0 < zAi (hdT x).s then zX (opQ (zAi (hdT x).s) (nxT x)) fun o y => docF f (n + 1) (ops ++ [o]) frs y
    else zX (zA9 (nxT x)) fun o y => docF f (n + 1) ops (frs ++ [o]) y
def docQ (ts : List Tok) : PR (List D × List D):=docF (ts.length + 1) 0 [] [] ⟨ts,true,0⟩
def parseT (l : List UInt8) : Except (Nat × Int) D:=
 match zAp l with
 | .error e => .error e
 | .ok ts => match docQ ts with
   | .error e => .error e
   | .ok (q,_) => .ok (queD q.1 q.2)
end Go.Proofs.YthjiclhfhjdjpaaGreatDoor
namespace Go.Proofs.YthjiclhfhjdjpaaGreatDoor
open Go.RowKit
attribute [local irreducible] wpList Calls Code.wp AW AWo OpOk seqK zAI zAO loopK endK endKB AC ACB ACX zp absLexG Yld YldG Sub
def outP {ε α S : Type} (tR : TypeId) (cl : S -> List V) (toV : α -> V) (toP : ε -> Value) : Except ε (α × S) -> Out
 | .ok (a,x) => .ret (toV a) [.box tR (cl x)]
 | .error e => .die (toP e)
abbrev cxE (e : Ge) (P : Program) (pas : Nat -> Prop) (s : Sg) (w : World) (he : e.E w) (hp : ∀ k,k < e.G -> ¬ pas k) (out : Out) : Cx:=⟨P,pas,s,w,e,he,hp,fun pv _ _ => out = .die pv,[]⟩
section
variable {X : Cx} {nn : Nat} {st : Vst nn} {o : Oper} {ops : Array Oper} {l : List Oper} {d : Option Tmp} {KK : Vst nn -> Prop} {Q : Vst nn -> Prop} {rd wr : Nat -> List Nat} {k : Nat}
theorem zF0 {tR : TypeId} {cs : List V} {ns : List Nat} (h : ∀ φ,renL φ cs = cs) : ([Res.box tR cs].map (renR (φout ns))) = [Res.box tR cs]:=by simp [renR,h]
theorem opOk_m {tR : TypeId} {f : FuncId} {m : Nat} {vs az cs cs' : List V} {r : V} {K : Vst nn -> Prop} (h : act1 X.P st.rs (ev st) o.op = .call f vs) (hv : vs = .bx m 0 :: az) (hr : st.rs m = some (.box tR cs))
 (hc : ACB X.e X.P f (.bx (pn 0) 0 :: az) [.box tR cs] r [.box tR cs']) (hcs : ∀ φ,renL φ cs = cs) (hcs' : ∀ φ,renL φ cs' = cs') (haz : ∀ φ,renL φ az = az) (hrr : ∀ φ,renV φ r = r)
 (hK : K ((st.res m (.box tR cs')).put o.dst r)) : OpOk X o st K:=by
 subst hv
 refine zAm [m] h hc (by simp) (by simp only [renL,renV,φin_one,haz]) (by simp [hr,renR,hcs]) ?_
 rw [zF0 hcs',zCK,hrr]
 exact hK
theorem s_m {S : Type} {tR : TypeId} {f : FuncId} {m : Nat} {vs az cs : List V} {x x' : S} {r : V} (cl : S -> List V) (hren : ∀ φ x,renL φ (cl x) = cl x) (hg : o.guard = none) (hd : o.dst = d) (h : act1 X.P st.rs (ev st) o.op = .call f vs) (hv : vs = .bx m 0 :: az) (hr : st.rs m = some (.box tR cs)) (hx : cs = cl x)
 (hc : ACB X.e X.P f (.bx (pn 0) 0 :: az) [.box tR (cl x)] r [.box tR (cl x')]) (haz : ∀ φ,renL φ az = az) (hrr : ∀ φ,renV φ r = r) (hK : AWo X ops l ((st.res m (.box tR (cl x'))).put d r) KK) : AWo X ops (o :: l) st KK:=by
 subst hx
 exact zAC hg (opOk_m h hv hr hc (fun φ => hren φ x) (fun φ => hren φ x') haz hrr (by rw [hd]; exact hK))
theorem zj {S : Type} {tR : TypeId} {f : FuncId} {m j : Nat} {want b : Bool} {vs az cs : List V} {x x' : S} {r : V} (cl : S -> List V) (hren : ∀ φ x,renL φ (cl x) = cl x) (hg : o.guard = some (j,want)) (hd : o.dst = d) (hb : gval ops st j = some b) (hne : (b == want) = true) (h : act1 X.P st.rs (ev st) o.op = .call f vs) (hv : vs = .bx m 0 :: az) (hr : st.rs m = some (.box tR cs)) (hx : cs = cl x)
 (hc : ACB X.e X.P f (.bx (pn 0) 0 :: az) [.box tR (cl x)] r [.box tR (cl x')]) (haz : ∀ φ,renL φ az = az) (hrr : ∀ φ,renV φ r = r) (hK : AWo X ops l ((st.res m (.box tR (cl x'))).put d r) KK) : AWo X ops (o :: l) st KK:=by
 subst hx
 exact zBr hg hb (fun _ => opOk_m h hv hr hc (fun φ => hren φ x) (fun φ => hren φ x') haz hrr (by rw [hd]; exact hK)) fun e => (e (by simpa using hne)).elim
theorem opOk_pr {ε α S : Type} {tR : TypeId} {f : FuncId} {m : Nat} {vs az cs : List V} {x : S} {spec : Except ε (α × S)} {cl : S -> List V} {toV : α -> V} {toP : ε -> Value} {K : Vst nn -> Prop} (hren : ∀ φ x,renL φ (cl x) = cl x) (h : act1 X.P st.rs (ev st) o.op = .call f vs) (hv : vs = .bx m 0 :: az) (hr : st.rs m = some (.box tR cs)) (hx : cs = cl x)
 (hc : ACE X.e X.P f (.bx (pn 0) 0 :: az) [.box tR (cl x)] (outP tR cl toV toP spec)) (haz : ∀ φ,renL φ az = az) (hrr : ∀ φ a,renV φ (toV a) = toV a)
 (hE : ∀ e,spec = .error e -> X.pk (toP e) st.tm (forgetN st.rs [m])) (hK : ∀ a x',spec = .ok (a,x') -> K ((st.res m (.box tR (cl x'))).put o.dst (toV a))) : OpOk X o st K:=by
 subst hv
 subst hx
 refine opOk_callE [m] h hc (by simp) (by simp only [renL,renV,φin_one,haz]) (by simp [hr,renR,hren]) (fun r bs' e => ?_) fun pv e => ?_
 . cases hs : spec with
   | error q => rw [hs] at e; simp [outP] at e
   | ok q =>
     obtain ⟨a,x'⟩:=q
     rw [hs] at e
     simp only [outP,Out.ret.injEq] at e
     obtain ⟨rfl,rfl⟩:=e
     rw [zF0 (fun φ => hren φ x'),zCK,hrr]
     exact hK a x' hs
 . cases hs : spec with
   | error q => rw [hs] at e; simp only [outP,Out.die.injEq] at e; subst e; exact hE q hs
   | ok q => rw [hs] at e; simp [outP] at e
theorem s_pr {ε α S : Type} {tR : TypeId} {f : FuncId} {m : Nat} {vs az cs : List V} {x : S} {spec : Except ε (α × S)} {toV : α -> V} {toP : ε -> Value} (cl : S -> List V) (hren : ∀ φ x,renL φ (cl x) = cl x) (hg : o.guard = none) (hd : o.dst = d) (h : act1 X.P st.rs (ev st) o.op = .call f vs) (hv : vs = .bx m 0 :: az) (hr : st.rs m = some (.box tR cs)) (hx : cs = cl x)
 (hc : ACE X.e X.P f (.bx (pn 0) 0 :: az) [.box tR (cl x)] (outP tR cl toV toP spec)) (haz : ∀ φ,renL φ az = az) (hrr : ∀ φ a,renV φ (toV a) = toV a)
 (hE : ∀ e,spec = .error e -> X.pk (toP e) st.tm (forgetN st.rs [m])) (hK : ∀ a x',spec = .ok (a,x') -> AWo X ops l ((st.res m (.box tR (cl x'))).put d (toV a)) KK) : AWo X ops (o :: l) st KK:=
 zAC hg (opOk_pr hren h hv hr hx hc haz hrr hE fun a x' e => by rw [hd]; exact hK a x' e)
theorem g_pr {ε α S : Type} {tR : TypeId} {f : FuncId} {m : Nat} {vs az cs : List V} {x : S} {spec : Except ε (α × S)} {toV : α -> V} {toP : ε -> Value} (cl : S -> List V) (hren : ∀ φ x,renL φ (cl x) = cl x) (dv : α) (hg : o.guard = none) (hd : o.dst = d) (h : act1 X.P st.rs (ev st) o.op = .call f vs) (hv : vs = .bx m 0 :: az) (hr : st.rs m = some (.box tR cs)) (hx : cs = cl x)
 (hc : ACE X.e X.P f (.bx (pn 0) 0 :: az) [.box tR (cl x)] (outP tR cl toV toP spec)) (haz : ∀ φ,renL φ az = az) (hrr : ∀ φ a,renV φ (toV a) = toV a) (hl : [m].all (fun n => (wr k).contains n) = true)
 (hE : ∀ e,spec = .error e -> ∀ tm rs,X.pk (toP e) tm rs) (hK : ∀ a x',spec = .ok (a,x') -> absLexG X ops rd wr Q (k + 1) l ((st.res m (.box tR (cl x'))).put d (toV a)))
 (hD : ∀ e,spec = .error e -> absLexG X ops rd wr Q (k + 1) l ((st.res m (.box tR [.c (.tuple #[])])).put d (toV dv))) : absLexG X ops rd wr Q k (o :: l) st:=by
 subst hv
 subst hx
 cases hs : spec with
 | error e =>
   rw [hs] at hc
   refine g_callX [m] (toV dv) [.box tR [.c (.tuple #[])]] hg hd h hc (by simp) (by simp only [renL,renV,φin_one,haz]) (by simp [hr,renR,hren]) rfl hl (hE e hs) ?_
   rw [zCK]
   exact hD e hs
 | ok q =>
   obtain ⟨a,x'⟩:=q
   rw [hs] at hc
   refine g_callB [m] hg hd h hc (by simp) (by simp only [renL,renV,φin_one,haz]) (by simp [hr,renR,hren]) rfl hl ?_
   rw [zF0 (fun φ => hren φ x'),zCK,hrr]
   exact hK a x' hs
theorem zCb {f : FuncId} {vs : List V} {pv : Value} (hg : o.guard = none) (h : act1 X.P st.rs (ev st) o.op = .call f vs) (hc : ACE X.e X.P f vs [] (.die pv)) (hn : ∀ φ,renL φ vs = vs) (hK : X.pk pv st.tm (forgetN st.rs [])) : AWo X ops (o :: l) st KK:=
 zAC hg (zDj [] h hc (by simp) (hn _) rfl hK)
theorem zAM {P : Program} {rs : Array ResultVar} {x : ResultVar} {out : Out} {v : V} {ρ : Res} (hx : rs.toList = [x]) (h : res1 P st x = .val True v) (hr : st.rs (pn 0) = some ρ) (ho : out = .ret v.out [ρ]) : endKE P rs out .normal st:=
 k_endE ho (by rw [hx]; exact ⟨v,h,rfl⟩) ⟨hr,trivial⟩
theorem k_endE_0 {P : Program} {rs : Array ResultVar} {out : Out} {ρ : Res} (hx : rs.toList = []) (hr : st.rs (pn 0) = some ρ) (ho : out = .ret (.tup []) [ρ]) : endKE P rs out .normal st:=
 k_endE ho (by rw [hx]; rfl) ⟨hr,trivial⟩
end
theorem zFK {φ : Nat -> Option Nat} {g : TypeId -> D -> List V} (hg : ∀ t d,renL φ (g t d) = g t d) : ∀ (fs : List Field) (j : Nat) (d : D),renL φ (zBA g fs j d) = zBA g fs j d
 | [],_,_ => by simp [zBA,renL]
 | f :: fs,j,d => by
   have app : ∀ (a b : List V),renL φ (a ++ b) = renL φ a ++ renL φ b:=fun a b => by
    induction a with
    | nil => rfl
    | cons x r ih => simp only [List.cons_append,renL,ih]
   rw [zBA,app,hg,zFK hg fs (j + 1) d]
theorem ren_cells {P : Program} {φ : Nat -> Option Nat} : ∀ (n : Nat) (t : TypeId) (d : D),renL φ (cellsV P n t d) = cellsV P n t d
 | 0,_,_ => rfl
 | n + 1,t,d => by
   have anys : ∀ k,renL φ (List.replicate k V.any) = List.replicate k V.any:=fun k => by
    induction k with
    | zero => rfl
    | succ k ih => rw [List.replicate_succ,renL,ih]; rfl
   unfold cellsV
   split
   all_goals first
    | rfl
    | exact zFK (fun t d => ren_cells n t d) _ _ _
    | exact anys _
end Go.Proofs.YthjiclhfhjdjpaaGreatDoor
namespace Go.Proofs.YthjiclhfhjdjpaaGreatDoor
open Go.RowKit
attribute [local irreducible] wpList Calls Code.wp
def EN5 : Ge where
 G:=max (1 + 1) (max (3 + 1) (2 + 1))
 E:=fun w => Env w /\ max (1 + 1) (max (3 + 1) (2 + 1)) <= w.heap.size
 stays w w' h hs:=by
  obtain ⟨⟨h1,⟨tp,p,h2⟩,⟨tp',p',h3⟩⟩,h4⟩:=h
  refine ⟨⟨zEO (g:=1) (by kernel_rfl) (by omega) h1 hs,⟨tp,p,zEO (g:=3) (by kernel_rfl) (by omega) h2 hs⟩,⟨tp',p',zEO (g:=2) (by kernel_rfl) (by omega) h3 hs⟩⟩,?_⟩
  generalize hg : max (1 + 1) (max (3 + 1) (2 + 1)) = g at hs h4 |-
  have hg0 : 0 < g:=by omega
  have h5:=hs (g - 1) (by omega)
  have h6 : w.heap[g - 1]? = some w.heap[g - 1]:=Array.getElem?_eq_getElem (by omega)
  have h7:=(Array.getElem?_eq_some_iff.1 (h5.trans h6)).1
  omega
 le w h:=h.2
theorem zDx {f : FuncId} {args : List V} {r : V} {u : Value} (h : ∀ s w us,relL Tryz.prog s w args us.toList -> Env w -> (∀ s' w',rel Tryz.prog s' w' r u) /\ Calls Tryz.prog f us w fun e w' => e = .returned u /\ Below w.heap.size w w') : AC EN5 Tryz.prog f args r:=by
 intro s w us hus hfx he
 obtain ⟨hr,hc⟩:=h s w us hus he.1
 refine hc.mono ?_
 rintro e w' ⟨rfl,hb⟩
 have hc : ∀ b o,s.F b o -> w'.cell? ⟨b,o,none⟩ = w.cell? ⟨b,o,none⟩:=fun b o hF => by
  obtain ⟨x,hx⟩:=Option.isSome_iff_exists.1 (hfx b o hF)
  exact hb.cell (p:=⟨b,o,none⟩) (block_lt_of_cell hx)
 exact ⟨u,s.F,rfl,Frm.of_below hb,fun b o hF => ⟨hc b o hF,hF⟩,fun b o hF => by rw [hc b o hF]; exact hfx b o hF,fun _ _ _ h => h,hr _ _⟩
theorem zIv {P : Program} {s : Sg} {w : World} {v v2 : V} {u u2 : Value} (h : rel P s w v u) (h2 : rel P s w v2 u2) : rel P s w (.tup [v,v2]) (.tuple #[u,u2]):=by
 rw [rel]; exact ⟨_,rfl,by simp only [relL]; exact ⟨h,h2,trivial⟩⟩
theorem zF1 {P : Program} {s : Sg} {w : World} {n : Int} (h : -9223372036854775808 <= n /\ n <= 9223372036854775807) : rel P s w (.c (.int .i64 n)) (.int .i64 n):=by rw [rel]; exact ⟨rfl,zDP.2 h⟩
theorem rel_str {P : Program} {s : Sg} {w : World} {x : ByteArray} (h : x.size <= maxLen) : rel P s w (.c (.string x)) (.string x):=by rw [rel]; exact ⟨rfl,h⟩
theorem zER {P : Program} {s : Sg} {w : World} {x : ByteArray} {us : Array Value} (h : relL P s w [.c (.string x)] us.toList) : us = #[.string x] /\ x.size <= maxLen:=by
 obtain ⟨u,rfl,h1⟩:=rel_one h
 rw [rel] at h1
 exact ⟨by rw [h1.1],h1.2⟩
theorem numQ_range {l : List UInt8} : -9223372036854775808 <= numQ l /\ numQ l <= 9223372036854775807:=by
 unfold numQ
 cases h : numU l with
 | ok n => exact (itoa_num h).2
 | range => decide
 | _ => decide
theorem nerU_cases (r : Lib.NumEnd Int) : nerU r = 0 \/ nerU r = 3 \/ nerU r = 4:=by cases r <;> simp [nerU]
theorem numT_Q (l : List UInt8) : numT (numU l) = .tuple #[.int .i64 (numQ l),.int .i64 (nerU (numU l))]:=by
 unfold numQ
 cases numU l <;> rfl
def zH1 (l : List UInt8) : V:=.tup [.c (.int .i64 (numQ l)),.c (.int .i64 (nerU (numU l)))]
theorem num_rel {P : Program} {s : Sg} {w : World} (l : List UInt8) : rel P s w (zH1 l) (numT (numU l)):=by
 rw [numT_Q]
 exact zIv (zF1 numQ_range) (zF1 (by rcases nerU_cases (numU l) with h | h | h <;> rw [h] <;> decide))
theorem zFO (s : ByteArray) (hs : s.size <= 281474976710656) : AC EN5 Tryz.prog 165 [.c (.string s)] (zH1 (tx s)):=by
 refine zDx (u:=numT (numU (tx s))) fun σ w us hus he => ?_
 obtain ⟨rfl,-⟩:=zER hus
 exact ⟨fun s' w' => num_rel _,numberP s w he hs⟩
theorem zDl (s : ByteArray) (hs : s.size <= 281474976710656) : AC EN5 Tryz.prog 221 [.c (.string s)] (zH1 (tx s)):=by
 refine zDx (u:=numT (numU (tx s))) fun σ w us hus he => ?_
 obtain ⟨rfl,-⟩:=zER hus
 exact ⟨fun s' w' => num_rel _,numberR s w hs⟩
def uqE : Option (List UInt8) -> Int
 | some _ => 0
 | none => 3
def uqVV (l : List UInt8) : V:=.tup [.c (.string (bs ((unquoteU l).getD []))),.c (.int .i64 (uqE (unquoteU l)))]
theorem uqV_E (r : Option (List UInt8)) : uqV r = .tuple #[.string (bs (r.getD [])),.int .i64 (uqE r)]:=by
 cases r <;> rfl
theorem unq_len (l : List UInt8) : ((unquoteU l).getD []).length <= l.length:=by
 have key : ∀ (k : Nat) (l : List UInt8),((unqF k l).getD []).length <= l.length:=by
  intro k
  induction k with
  | zero => intro l; cases l <;> simp [unqF]
  | succ k ih =>
    intro l
    cases l with
    | nil => simp [unqF]
    | cons c r =>
      show ((stpU (unqF k) c r).getD []).length <= _
      have hm : ∀ (q : List UInt8) (x : UInt8),q.length <= r.length -> (((unqF k q).map (x :: ·)).getD []).length <= (c :: r).length:=fun q x hq => by
       have:=ih q
       cases hx : unqF k q with
       | none => simp
       | some u => rw [hx] at this; simp at this |-; omega
      unfold stpU
      by_cases h1 : c.toNat < 32 \/ 126 < c.toNat \/ c = 34
      . rw [if_pos h1]; simp
      rw [if_neg h1]
      by_cases h2 : c ≠ 92
      . rw [if_pos h2]; exact hm r c (Nat.le_refl _)
      rw [if_neg h2]
      cases r with
      | nil => simp
      | cons d q =>
        dsimp only
        cases simU d with
        | some x => exact hm q x (by simp)
        | none =>
          dsimp only
          by_cases h3 : d ≠ 117 \/ q.length < 4
          . rw [if_pos h3]; simp
          rw [if_neg h3]
          cases codeFrom 0 (q.take 4) with
          | none => simp
          | some n =>
            dsimp only
            by_cases h4 : n <= 255
            . rw [if_pos h4]; exact hm (q.drop 4) _ (by simp; omega)
            . rw [if_neg h4]; simp
 unfold unquoteU
 split
 . have:=key ((l.drop 1).take (l.length - 2)).length ((l.drop 1).take (l.length - 2))
   have h2 : ((l.drop 1).take (l.length - 2)).length <= l.length:=by rw [List.length_take,List.length_drop]; omega
   exact Nat.le_trans this h2
 . simp
theorem unq_ok {s : ByteArray} (hs : s.size <= 100000) {P : Program} {σ : Sg} {w : World} : rel P σ w (uqVV (tx s)) (uqV (unquoteU (tx s))):=by
 rw [uqV_E]
 refine zIv (rel_str ?_) (zF1 ?_)
 . have h1:=unq_len (tx s)
   have h2:=tx_len s
   rw [zh]; unfold maxLen; omega
 . cases unquoteU (tx s) with
   | none => exact ⟨by decide,by decide⟩
   | some _ => exact (⟨by decide,by decide⟩ : (-9223372036854775808 : Int) <= 0 /\ (0 : Int) <= 9223372036854775807)
theorem zHh (s : ByteArray) (hs : s.size <= 100000) : AC EN5 Tryz.prog 167 [.c (.string s)] (uqVV (tx s)):=by
 refine zDx (u:=uqV (unquoteU (tx s))) fun σ w us hus he => ?_
 obtain ⟨rfl,-⟩:=zER hus
 exact ⟨fun s' w' => unq_ok hs,unquoteP s w hs⟩
theorem zHg (s : ByteArray) (hs : s.size <= 100000) : AC EN5 Tryz.prog 223 [.c (.string s)] (uqVV (tx s)):=by
 refine zDx (u:=uqV (unquoteU (tx s))) fun σ w us hus he => ?_
 obtain ⟨rfl,-⟩:=zER hus
 exact ⟨fun s' w' => unq_ok hs,unquoteR s w hs⟩
end Go.Proofs.YthjiclhfhjdjpaaGreatDoor
namespace Go.Proofs.YthjiclhfhjdjpaaGreatDoor
open Go.RowKit
attribute [local irreducible] wpList Calls Code.wp AW AWo OpOk seqK zAI zAO loopK endK AC zp Yld Sub
attribute [local irreducible] ACB ACX ACE absLexG YldG
def tokD (t : Tok) : D:=.obj [.int t.k,.str (bs t.s),.int (t.i : Int)]
def tokC (t : Tok) : List V:=[.c (.int .i64 t.k),.c (.string (bs t.s)),.c (.int .i64 (t.i : Int))]
def zi (x : PS) : List V:=[.sl 143 (x.ts.map tokD),.c (.bool x.vr),.c (.int .i64 (x.nd : Int))]
theorem zN (φ : Nat -> Option Nat) (x : PS) : renL φ (zi x) = zi x:=rfl
def boxP (x : PS) : Res:=.box 106 (zi x)
theorem z7 (x : PS) : zi x = zi x:=rfl
theorem etaP1 (l : List Tok) (v : Bool) (n : Nat) : [V.sl 143 (l.map tokD),.c (.bool v),.c (.int .i64 (n : Int))] = zi ⟨l,v,n⟩:=rfl
def probP (e : Nat × Int) : Value:=.iface 103 (.agg #[.int .i64 (e.1 : Int),.int .i64 e.2])
def outQ {α : Type} (toV : α -> V) (r : PR α) : Out:=outP 106 zi toV probP r
theorem tok_cells (t : Tok) : cellsV Tryz.prog 12 143 (tokD t) = tokC t:=by rfl
theorem zBu (t : Tok) (r : List Tok) : 0 <= (0 : Int) /\ (0 : Int) < ((List.map tokD (t :: r)).length : Int):=⟨Int.le_refl _,by show (0 : Int) < (((r.map tokD).length + 1 : Nat) : Int); omega⟩
theorem zIm (x : PS) (t : Tok) (r : List Tok) (h : x.ts = t :: r) (s : List UInt8) : ACB EN5 Tryz.prog 99 [.bx (pn 0) 0,.c (.string (bs s))] [boxP x] (.c (.bool (isS x s))) [boxP x]:=by
 obtain ⟨ts,vr,nd⟩:=x
 cases h
 have e : isS ⟨t :: r,vr,nd⟩ s = (t.k == 1 && (bs t.s).toList == (bs s).toList):=by
  unfold isS hdT
  rw [Lib.toList_data,Lib.toList_data,zAE,zAE]
  rfl
 rw [e]
 refine zZ (fn:=Tryz.f99) 24 Tryz.func99 rfl rfl ?_
 intro pas w0 w he hp
 repeat' (first
|refine zA ?_
|refine zB ?_
|refine zG ?_
|apply aw_1
 conv => whnf
 refine ⟨?_,trivial⟩
|apply zY rfl rfl
 . conv => lhs; whnf
 . conv => lhs; whnf
 . first | exact bT1 ‹_› | exact bT2 ‹_›
|apply zV rfl rfl
 . conv => lhs; whnf
 . conv => lhs; whnf
 . first | exact bF1 ‹_› | exact bF2 ‹_›
|apply s_1
 conv => whnf; arg 1; arg 4; arg 3; whnf
 refine ⟨?_,?_⟩
|apply zD rfl
 . conv => lhs; whnf
 . conv => lhs; whnf
 . first | rfl | assumption
 . conv => lhs; whnf; arg 2; whnf
|apply zd rfl
 . conv => lhs; whnf
 . conv => lhs; whnf
 . first | rfl | assumption
|apply zT rfl
 . conv => lhs; whnf
 . conv => lhs; whnf
 . conv => lhs; whnf; arg 2; whnf
|refine zq ⟨?_,?_⟩
|refine ⟨_,by conv => lhs; whnf; arg 2; whnf,?_⟩; conv => rhs; whnf
|exact trivial
|intro hg)
 all_goals first
  | exact zBu _ _
  | exact ⟨rfl,trivial⟩
  | skip
 . have h : (t.k == 1) = true:=bT1 hg
   rw [h]; rfl
 . have h : (t.k == 1) = false:=bF1 hg
   rw [h]; rfl
theorem zF7 (x : PS) (t : Tok) (r : List Tok) (h : x.ts = t :: r) : ACB EN5 Tryz.prog 103 [.bx (pn 0) 0] [boxP x] (.agg (tokC t)) [boxP (nxT x)]:=by
 obtain ⟨ts,vr,nd⟩:=x
 cases h
 refine zZ (fn:=Tryz.f103) 22 Tryz.func103 rfl rfl ?_
 intro pas w0 w he hp
 repeat' (first
|refine zA ?_
|refine zB ?_
|refine zG ?_
|apply aw_1
 conv => whnf
 refine ⟨?_,trivial⟩
|apply s_1
 conv => whnf; arg 1; arg 4; arg 3; whnf
 refine ⟨?_,?_⟩
|apply zI rfl rfl rfl
 . conv => lhs; whnf
 . conv => lhs; whnf; arg 1; whnf
 . conv => lhs; whnf; arg 1; whnf
 . exact ⟨by kernel_rfl,by kernel_rfl⟩
 . rfl
|refine zg (by conv => lhs; whnf) ?_ ?_ <;> intro hb
|refine zq ⟨?_,?_⟩
|refine ⟨_,by conv => lhs; whnf; arg 2; whnf,?_⟩; conv => rhs; whnf
|exact trivial)
 all_goals first
  | exact zBu _ _
  | (refine ⟨Int.le_of_lt Int.zero_lt_one,?_⟩; show (1 : Int) <= (((r.map tokD).length + 1 : Nat) : Int); omega)
  | rfl
  | skip
 . have h : ¬ t.k = 5:=by have h : (t.k != 5) = true:=hb
                          simpa using h
   refine ⟨?_,trivial⟩
   have e : nxT ⟨t :: r,vr,nd⟩ = ⟨r,vr,nd⟩:=by unfold nxT; rw [if_neg (show ¬ (hdT ⟨t :: r,vr,nd⟩).k = 5 from h)]; rfl
   rw [e]; rfl
 . have h : t.k = 5:=by have h : (t.k != 5) = false:=hb
                        simpa using h
   refine ⟨?_,trivial⟩
   have e : nxT ⟨t :: r,vr,nd⟩ = ⟨t :: r,vr,nd⟩:=by unfold nxT; rw [if_pos (show (hdT ⟨t :: r,vr,nd⟩).k = 5 from h)]
   rw [e]; rfl
theorem zBB (t : Tok) (e : Int) : ACE EN5 Tryz.prog 100 [.agg (cellsV Tryz.prog 12 143 (tokD t)),.c (.int .i64 e)] [] (.die (probP (t.i,e))):=by
 rw [tok_cells]
 refine zAH (fn:=Tryz.f100) 9 Tryz.func100 rfl rfl ?_
 intro pas w0 w he hp
 repeat' (first
|apply s_die rfl rfl
 . conv => lhs; whnf
 change _ = Out.die _
|refine zA ?_
|refine zB ?_
|refine zG ?_
|apply aw_1
 conv => whnf
 refine ⟨?_,trivial⟩
|apply s_1
 conv => whnf; arg 1; arg 4; arg 3; whnf
 refine ⟨?_,?_⟩
|apply zAV rfl rfl rfl rfl
 . conv => lhs; whnf; arg 1; whnf
 . rfl
|exact trivial)
 rfl
theorem take_ace (x : PS) (t : Tok) (r : List Tok) (h : x.ts = t :: r) (s : List UInt8) : ACE EN5 Tryz.prog 177 [.bx (pn 0) 0,.c (.string (bs s))] [boxP x] (outQ (fun _ => .agg (tokC t)) (takeQ s x)):=by
 have hs:=zIm x t r h s
 have hn:=zF7 x t r h
 have hf:=zBB t 3
 have hh : hdT x = t:=by unfold hdT; rw [h]; rfl
 unfold takeQ
 rw [hh]
 obtain ⟨ts,vr,nd⟩:=x
 cases h
 refine zAH (fn:=Tryz.f177) 18 Tryz.func177 rfl rfl ?_
 intro pas w0 w he hp
 repeat' (first
|apply s_m zi zN rfl
 . conv => lhs; whnf
 . conv => lhs; whnf
 . rfl
 . conv => lhs; whnf; arg 1; whnf
 . first | exact z7 _
 . first | exact hs | exact hn
 . exact fun _ => rfl
 . exact fun _ => rfl
|apply zCb rfl
 . conv => lhs; whnf
 . first | exact hf
 . first | exact fun _ => rfl | (intro _; simp only [renL,renV,ren_cells])
 change _ = Out.die _
|refine zA ?_
|refine zB ?_
|refine zG ?_
|apply aw_1
 conv => whnf
 refine ⟨?_,trivial⟩
|apply s_1
 conv => whnf; arg 1; arg 4; arg 3; whnf
 refine ⟨?_,?_⟩
|apply zI rfl rfl rfl
 . conv => lhs; whnf
 . conv => lhs; whnf; arg 1; whnf
 . conv => lhs; whnf; arg 1; whnf
 . exact ⟨by kernel_rfl,by kernel_rfl⟩
 . rfl
|refine zg (by conv => lhs; whnf) ?_ ?_ <;> intro hb
|apply zAM rfl
 . conv => lhs; whnf; arg 2; whnf
 . conv => lhs; whnf; arg 1; whnf
|exact trivial)
 all_goals first
  | exact zBu _ _
  | skip
 . have h : isS ⟨t :: r,vr,nd⟩ s = false:=by simpa using hb
   rw [h,if_neg (by decide)]; rfl
 . have h : isS ⟨t :: r,vr,nd⟩ s = true:=by simpa using hb
   rw [h,if_pos rfl]; rfl
theorem name_ace (x : PS) (t : Tok) (r : List Tok) (h : x.ts = t :: r) : ACE EN5 Tryz.prog 179 [.bx (pn 0) 0] [boxP x] (outQ (fun n => .c (.string (bs n))) (nameQ x)):=by
 have hn:=zF7 x t r h
 have hf:=zBB t 3
 have hh : hdT x = t:=by unfold hdT; rw [h]; rfl
 unfold nameQ
 rw [hh]
 obtain ⟨ts,vr,nd⟩:=x
 cases h
 refine zAH (fn:=Tryz.f179) 21 Tryz.func179 rfl rfl ?_
 intro pas w0 w he hp
 repeat' (first
|apply s_m zi zN rfl
 . conv => lhs; whnf
 . conv => lhs; whnf
 . rfl
 . conv => lhs; whnf; arg 1; whnf
 . first | exact z7 _
 . first | exact hn
 . exact fun _ => rfl
 . exact fun _ => rfl
|apply zCb rfl
 . conv => lhs; whnf
 . first | exact hf
 . first | exact fun _ => rfl | (intro _; simp only [renL,renV,ren_cells])
 change _ = Out.die _
|refine zA ?_
|refine zB ?_
|refine zG ?_
|apply aw_1
 conv => whnf
 refine ⟨?_,trivial⟩
|apply s_1
 conv => whnf; arg 1; arg 4; arg 3; whnf
 refine ⟨?_,?_⟩
|refine zg (by conv => lhs; whnf) ?_ ?_ <;> intro hb
|apply zAM rfl
 . conv => lhs; whnf; arg 2; whnf
 . conv => lhs; whnf; arg 1; whnf
|exact trivial)
 all_goals first
  | exact zBu _ _
  | skip
 . have h : ¬ t.k = 2:=by have h : (t.k != 2) = true:=hb
                          simpa using h
   rw [if_neg h]; rfl
 . have h : t.k = 2:=by have h : (t.k != 2) = false:=hb
                        simpa using h
   rw [if_pos h]; rfl
theorem limit_ace (x : PS) (t : Tok) (r : List Tok) (h : x.ts = t :: r) (n most : Nat) : ACE EN5 Tryz.prog 101 [.bx (pn 0) 0,.c (.int .i64 n),.c (.int .i64 most)] [boxP x] (outQ (fun _ => .tup []) (limQ n most x)):=by
 have hf:=zBB t 4
 have hh : hdT x = t:=by unfold hdT; rw [h]; rfl
 unfold limQ
 rw [hh]
 obtain ⟨ts,vr,nd⟩:=x
 cases h
 refine zAH (fn:=Tryz.f101) 16 Tryz.func101 rfl rfl ?_
 intro pas w0 w he hp
 repeat' (first
|apply zCb rfl
 . conv => lhs; whnf
 . first | exact hf
 . first | exact fun _ => rfl | (intro _; simp only [renL,renV,ren_cells])
 change _ = Out.die _
|refine zA ?_
|refine zB ?_
|refine zG ?_
|apply aw_1
 conv => whnf
 refine ⟨?_,trivial⟩
|apply s_1
 conv => whnf; arg 1; arg 4; arg 3; whnf
 refine ⟨?_,?_⟩
|refine zg (by conv => lhs; whnf) ?_ ?_ <;> intro hb
|apply k_endE_0 rfl
 . conv => lhs; whnf; arg 1; whnf
|exact trivial)
 all_goals first
  | exact zBu _ _
  | skip
 . have h : most <= n:=by simpa using hb
   rw [if_pos h]; rfl
 . have h : ¬ most <= n:=by simpa using hb
   rw [if_neg h]; rfl
end Go.Proofs.YthjiclhfhjdjpaaGreatDoor
namespace Go.Proofs.YthjiclhfhjdjpaaGreatDoor
inductive Lex : List UInt8 -> List (Int × List UInt8) -> Prop where
 | done {l : List UInt8} (h : l.drop (skipM false l) = []) : Lex l []
 | tok {l : List UInt8} {c : UInt8} {r : List UInt8} {k : Int} {s : List UInt8} {n : Nat} {ks : List (Int × List UInt8)} (h : l.drop (skipM false l) = c :: r) (ht : readU (c :: r) = .ok (k,s,n)) (hr : Lex ((c :: r).drop n) ks) : Lex l ((k,s) :: ks)
def bare (t : Tok) : Int × List UInt8:=(t.k,t.s)
def endK5 : Int × List UInt8:=(5,[])
theorem readT_any {l : List UInt8} {k : Int} {s : List UInt8} {n : Nat} (h : readU l = .ok (k,s,n)) (j : Nat) : zDA l j = .ok (⟨k,s,j⟩,n):=by
 unfold zDA
 rw [h]
theorem Lex.scan {l : List UInt8} {ks : List (Int × List UInt8)} (h : Lex l ks) : ∀ (f i : Nat),l.length < f -> ∃ ts,scanF f l i = .ok ts /\ ts.map bare = ks ++ [endK5]:=by
 induction h with
 | done h =>
   intro f i hf
   cases f with
   | zero => omega
   | succ f =>
     exact ⟨[⟨5,[],i + _⟩],by unfold scanF; rw [h],rfl⟩
 | tok h ht hr ih =>
   rename_i l c r k s n ks
   intro f i hf
   cases f with
   | zero => omega
   | succ f =>
     have hn:=zC0 ht
     have hlen : (c :: r).length <= l.length:=by rw [<- h,List.length_drop]; omega
     obtain ⟨ts,h1,h2⟩:=ih f (i + skipM false l + n) (by rw [List.length_drop]; omega)
     refine ⟨⟨k,s,i + skipM false l⟩ :: ts,?_,?_⟩
     . unfold scanF
       rw [h]
       dsimp only
       rw [readT_any ht]
       dsimp only
       rw [h1]
     . rw [List.map_cons,h2]; rfl
def bnd (l : List UInt8) : Prop:=∀ c,l.head? = some c -> wrdU c = false
def Ps (t : List UInt8) (ks : List (Int × List UInt8)) : Prop:=∀ r kr,Lex r kr -> Lex (t ++ r) (ks ++ kr)
def Pw (t : List UInt8) (ks : List (Int × List UInt8)) : Prop:=∀ r kr,bnd r -> Lex r kr -> Lex (t ++ r) (ks ++ kr)
theorem Ps.w {t : List UInt8} {ks : List (Int × List UInt8)} (h : Ps t ks) : Pw t ks:=fun r kr _ hr => h r kr hr
theorem Ps.nil : Ps [] []:=fun _ _ h => h
theorem Ps.app {a b : List UInt8} {ka kb : List (Int × List UInt8)} (h : Ps a ka) (k : Ps b kb) : Ps (a ++ b) (ka ++ kb):=fun r kr hr => by
 rw [List.append_assoc,List.append_assoc]; exact h _ _ (k r kr hr)
theorem Pw.app {a b : List UInt8} {ka kb : List (Int × List UInt8)} (h : Pw a ka) (k : Ps b kb) (hb : b ≠ [] /\ bnd b) : Ps (a ++ b) (ka ++ kb):=fun r kr hr => by
 rw [List.append_assoc,List.append_assoc]
 refine h _ _ (fun c hc => hb.2 c ?_) (k r kr hr)
 cases b with
 | nil => exact (hb.1 rfl).elim
 | cons x y => exact hc
theorem sign_plain (c : UInt8) : signB c = true -> sepB c = false /\ (c == 35) = false /\ wrdU c = false:=
 zJu (p:=fun c => signB c = true -> sepB c = false /\ (c == 35) = false /\ wrdU c = false) (by decide +kernel) c
theorem zEU {c : UInt8} {r : List UInt8} (h : sepB c = false) (h2 : (c == 35) = false) : skipM false (c :: r) = 0:=by
 rw [skipM,if_neg (by rw [h]; decide),if_neg (by rw [h2]; decide)]
theorem Ps.sign {c : UInt8} (hc : signB c = true) : Ps [c] [(1,[c])]:=fun r kr h => by
 obtain ⟨h1,h2,-⟩:=sign_plain c hc
 refine .tok (l:=c :: r) (c:=c) (r:=r) (n:=1) (by rw [zEU h1 h2]; rfl) ?_ h
 unfold readU
 simp only [hc,if_true]
def nameU (l : List UInt8) : Bool:=match l with | [] => false | c :: r => letU c && r.all wrdU && decide (r.length < 64)
theorem let_plain (c : UInt8) : letU c = true -> sepB c = false /\ (c == 35) = false /\ signB c = false /\ (c == 46) = false /\ (c == 45 || digU c) = false /\ wrdU c = true:=
 zJu (p:=fun c => letU c = true -> sepB c = false /\ (c == 35) = false /\ signB c = false /\ (c == 46) = false /\ (c == 45 || digU c) = false /\ wrdU c = true) (by decide +kernel) c
theorem zFs {p : UInt8 -> Bool} : ∀ (l r : List UInt8),l.all p = true -> (∀ c,r.head? = some c -> p c = false) -> spanN p (l ++ r) = l.length
 | [],[],_,_ => rfl
 | [],c :: r,_,h => by
   show spanN p (c :: r) = 0
   rw [spanN,if_neg (by rw [h c rfl]; decide)]
 | c :: l,r,ha,h => by
   rw [List.all_cons,Bool.and_eq_true] at ha
   rw [List.cons_append,spanN,if_pos ha.1,zFs l r ha.2 h,List.length_cons]
theorem Pw.name {l : List UInt8} (h : nameU l = true) : Pw l [(2,l)]:=fun r kr hb hr => by
 cases l with
 | nil => cases h
 | cons c q =>
   simp only [nameU,Bool.and_eq_true,decide_eq_true_eq] at h
   obtain ⟨⟨h1,h2⟩,h3⟩:=h
   obtain ⟨p1,p2,p3,p4,p5,p6⟩:=let_plain c h1
   have hs:=zFs q r h2 hb
   refine .tok (l:=c :: (q ++ r)) (c:=c) (r:=q ++ r) (n:=q.length + 1) (by rw [zEU p1 p2]; rfl) ?_ (by rw [List.drop_succ_cons,List.drop_left]; exact hr)
   unfold readU
   simp only [p3,p4,p5,h1,hs,Bool.false_eq_true,if_false,if_true,List.take_left]
   rw [if_neg (by omega)]
theorem zJa : ∀ {l : List UInt8},l.all digU = true -> l.all wrdU = true:=fun {l} h => by
 rw [List.all_eq_true] at h |-
 intro x hx
 unfold wrdU
 rw [h x hx,Bool.or_true]
theorem num_plain (c : UInt8) : (c == 45 || digU c) = true -> sepB c = false /\ (c == 35) = false /\ signB c = false /\ (c == 46) = false:=
 zJu (p:=fun c => (c == 45 || digU c) = true -> sepB c = false /\ (c == 35) = false /\ signB c = false /\ (c == 46) = false) (by decide +kernel) c
theorem Pw.num {l : List UInt8} {n : Int} (h : numU l = .ok n) (h1 : ∃ c q,l = c :: q /\ (c == 45 || digU c) = true /\ q.all wrdU = true) : Pw l [(3,l)]:=fun r kr hb hr => by
 obtain ⟨c,q,rfl,h2,h3⟩:=h1
 obtain ⟨p1,p2,p3,p4⟩:=num_plain c h2
 have hs:=zFs q r h3 hb
 refine .tok (l:=c :: (q ++ r)) (c:=c) (r:=q ++ r) (n:=q.length + 1) (by rw [zEU p1 p2]; rfl) ?_ (by rw [List.drop_succ_cons,List.drop_left]; exact hr)
 unfold readU
 simp only [p3,p4,h2,hs,Bool.false_eq_true,if_false,if_true,List.take_left,h,nerU]
theorem itoa_shape (n : Int) : ∃ c q,Lib.itoa n = c :: q /\ (c == 45 || digU c) = true /\ q.all wrdU = true:=by
 unfold Lib.itoa
 split
 . exact ⟨45,_,rfl,rfl,zJa (zEw _)⟩
 . have h:=zEw n.toNat
   cases hd : Lib.decDigits n.toNat with
   | nil => exact (zJc _ hd).elim
   | cons c q =>
     rw [hd,List.all_cons,Bool.and_eq_true] at h
     exact ⟨c,q,rfl,by rw [h.1,Bool.or_true],zJa h.2⟩
theorem Pw.int (n : Int) (h0 : -9223372036854775808 <= n) (h1 : n <= 9223372036854775807) : Pw (Lib.itoa n) [(3,Lib.itoa n)]:=Pw.num (num_itoa n h0 h1) (itoa_shape n)
inductive All2 (T : Tok -> Tok -> Prop) : List Tok -> List Tok -> Prop where
 | nil : All2 T [] []
 | cons {a b : Tok} {l m : List Tok} (h : T a b) (t : All2 T l m) : All2 T (a :: l) (b :: m)
structure TR (T : Tok -> Tok -> Prop) (I : Nat -> Nat -> Prop) : Prop where
 k : ∀ {t t'},T t t' -> t.k = t'.k
 s : ∀ {t t'},T t t' -> t.s = t'.s
 i : ∀ {t t'},T t t' -> I t.i t'.i
 z : I 0 0
structure XR (T : Tok -> Tok -> Prop) (x x' : PS) : Prop where
 ts : All2 T x.ts x'.ts
 vr : x.vr = x'.vr
 nd : x.nd = x'.nd
def RR (T : Tok -> Tok -> Prop) (I : Nat -> Nat -> Prop) {α : Type} : PR α -> PR α -> Prop
 | .ok (a,x),.ok (a',x') => a = a' /\ XR T x x'
 | .error e,.error e' => I e.1 e'.1 /\ e.2 = e'.2
 | _,_ => False
section
variable {T : Tok -> Tok -> Prop} {I : Nat -> Nat -> Prop} {α β : Type}
theorem zE6 {a b : List Tok} (h : All2 T a b) : a.length = b.length:=by induction h with | nil => rfl | cons _ _ ih => simp [ih]
theorem all2_drop {a b : List Tok} (h : All2 T a b) : ∀ n,All2 T (a.drop n) (b.drop n):=by
 induction h with
 | nil => intro n; simp; exact .nil
 | cons h1 h2 ih =>
   intro n
   cases n with
   | zero => exact .cons h1 h2
   | succ n => simpa using ih n
theorem XR.hd (hT : TR T I) {x x' : PS} (h : XR T x x') : (hdT x').k = (hdT x).k /\ (hdT x').s = (hdT x).s /\ I (hdT x).i (hdT x').i:=by
 obtain ⟨h1,-,-⟩:=h
 unfold hdT
 generalize x.ts = a at h1
 generalize x'.ts = b at h1
 cases h1 with
 | nil => exact ⟨rfl,rfl,hT.z⟩
 | cons h2 h3 => exact ⟨(hT.k h2).symm,(hT.s h2).symm,hT.i h2⟩
theorem XR.isS (hT : TR T I) {x x' : PS} (h : XR T x x') (s : List UInt8) : isS x' s = isS x s:=by
 obtain ⟨h1,h2,-⟩:=h.hd hT
 unfold Go.Proofs.YthjiclhfhjdjpaaGreatDoor.isS
 rw [h1,h2]
theorem XR.nx (hT : TR T I) {x x' : PS} (h : XR T x x') : XR T (nxT x) (nxT x'):=by
 obtain ⟨h1,-,-⟩:=h.hd hT
 unfold nxT
 rw [h1]
 split
 . exact h
 . exact ⟨all2_drop h.ts 1,h.vr,h.nd⟩
theorem XR.len {x x' : PS} (h : XR T x x') : x'.ts.length = x.ts.length:=(zE6 h.ts).symm
theorem RR.err (hT : TR T I) {x x' : PS} (h : XR T x x') (e : Int) : RR T I (α:=α) (.error ((hdT x).i,e)) (.error ((hdT x').i,e)):=⟨(h.hd hT).2.2,rfl⟩
theorem RR.okk {x x' : PS} (h : XR T x x') (a : α) : RR T I (.ok (a,x)) (.ok (a,x')):=⟨rfl,h⟩
theorem RR.ite {c : Prop} [Decidable c] {a b a' b' : PR α} (h1 : c -> RR T I a a') (h2 : ¬ c -> RR T I b b') : RR T I (if c then a else b) (if c then a' else b'):=by
 split
 . rename_i h; exact h1 h
 . rename_i h; exact h2 h
theorem RR.then {r r' : PR α} {f f' : α -> PS -> PR β} (h : RR T I r r') (hf : ∀ a x x',XR T x x' -> RR T I (f a x) (f' a x')) : RR T I (zX r f) (zX r' f'):=by
 unfold zX
 cases r with
 | error e => cases r' with | error e' => exact h | ok a' => exact h.elim
 | ok a =>
   cases r' with
   | error e' => exact h.elim
   | ok a' =>
     obtain ⟨a,x⟩:=a
     obtain ⟨a',x'⟩:=a'
     obtain ⟨rfl,hx⟩:=h
     exact hf _ _ _ hx
variable (hT : TR T I)
include hT
theorem zDd {x x' : PS} (h : XR T x x') (s : List UInt8) : RR T I (takeQ s x) (takeQ s x'):=by
 unfold takeQ
 rw [h.isS hT]
 exact .ite (fun _ => .okk (h.nx hT) _) fun _ => .err hT h _
theorem zBk {x x' : PS} (h : XR T x x') : RR T I (nameQ x) (nameQ x'):=by
 unfold nameQ
 rw [(h.hd hT).1,(h.hd hT).2.1]
 exact .ite (fun _ => .okk (h.nx hT) _) fun _ => .err hT h _
theorem open_rr : ∀ (f : Nat) {x x' : PS},XR T x x' -> (openQ f x').1 = (openQ f x).1 /\ XR T (openQ f x).2 (openQ f x').2
 | 0,_,_,h => ⟨rfl,h⟩
 | f + 1,x,x',h => by
   unfold openQ
   rw [h.isS hT]
   split
   . obtain ⟨h1,h2⟩:=open_rr f (h.nx hT)
     exact ⟨by simp [h1],h2⟩
   . exact ⟨rfl,h⟩
theorem zJg : ∀ (n : Nat) (w : List Int) {x x' : PS},XR T x x' -> RR T I (closeQ n w x) (closeQ n w x')
 | 0,w,x,x',h => by
   unfold closeQ
   rw [h.isS hT]
   split
   . exact .okk (h.nx hT) _
   . exact .okk h _
 | n + 1,w,x,x',h => by
   unfold closeQ
   rw [h.isS hT]
   refine .then (zDd hT ?_ _) fun _ y y' hy => zJg n _ hy
   split
   . exact h.nx hT
   . exact h
theorem inner_rr {x x' : PS} (h : XR T x x') : RR T I (innerQ x) (innerQ x'):=by
 unfold innerQ
 rw [h.len]
 obtain ⟨h1,h2⟩:=open_rr hT x.ts.length h
 rw [h1]
 exact .then (zBk hT h2) fun _ _ _ hy => .then (zJg hT _ _ hy) fun _ _ _ hz => .okk hz _
theorem typ_rr {x x' : PS} (h : XR T x x') : RR T I (typQ x) (typQ x'):=
 .then (inner_rr hT h) fun _ _ _ hy => .ite (fun _ => .err hT h _) fun _ => .okk hy _
theorem zI8 {v : PS -> PR D} (hv : ∀ {x x' : PS},XR T x x' -> RR T I (v x) (v x')) : ∀ (f : Nat) (acc : List D) {x x' : PS},XR T x x' -> RR T I (itemsQ v f acc x) (itemsQ v f acc x')
 | 0,_,_,_,h => .err hT h _
 | f + 1,acc,x,x',h => by
   unfold itemsQ
   rw [h.isS hT]
   exact .ite (fun _ => .okk (h.nx hT) _) fun _ => .then (hv h) fun _ _ _ hy => zI8 hv f _ hy
theorem zHR {v : PS -> PR D} (hv : ∀ {x x' : PS},XR T x x' -> RR T I (v x) (v x')) : ∀ (f : Nat) (ks : List (List UInt8)) (acc : List D) {x x' : PS},XR T x x' -> RR T I (zy v f ks acc x) (zy v f ks acc x')
 | 0,_,_,_,_,h => .err hT h _
 | f + 1,ks,acc,x,x',h => by
   unfold zy
   rw [h.isS hT]
   exact .ite (fun _ => .okk (h.nx hT) _) fun _ => .then (zBk hT h) fun k _ _ hy => .ite (fun _ => .err hT h _) fun _ => .then (zDd hT hy _) fun _ _ _ hz => .then (hv hz) fun _ _ _ hu => zHR hv f _ _ hu
theorem noVal_rr {x x' : PS} (h : XR T x x') : zBt x' = zBt x:=by
 unfold zBt
 rw [(h.hd hT).1,h.isS hT,h.isS hT,h.isS hT,h.vr]
theorem zFi : ∀ (f lv : Nat) {x x' : PS},XR T x x' -> RR T I (valueQ f lv x) (valueQ f lv x')
 | 0,_,_,_,h => .err hT h _
 | f + 1,lv,x,x',h => by
   have hy : XR T { nxT x with nd:=x.nd + 1 } { nxT x' with nd:=x'.nd + 1 }:=⟨(h.nx hT).ts,(h.nx hT).vr,by show x.nd + 1 = x'.nd + 1; rw [h.nd]⟩
   unfold valueQ
   rw [noVal_rr hT h,<- h.nd,(h.hd hT).1,(h.hd hT).2.1]
   rw [<- h.nd] at hy
   refine .ite (fun _ => .err hT h _) fun _ => .ite (fun _ => .err hT h _) fun _ => .ite (fun _ => .err hT h _) fun _ => ?_
   dsimp only
   refine .ite (fun _ => .okk hy _) fun _ => .ite (fun _ => .okk hy _) fun _ => .ite (fun _ => .okk hy _) fun _ => .ite (fun _ => .then (zBk hT hy) fun _ _ _ hz => .okk hz _) fun _ => .ite (fun _ => ?_) fun _ => ?_
   . have e : (nxT x').ts.length = (nxT x).ts.length:=(h.nx hT).len
     rw [e]
     exact .then (zI8 hT (fun h => zFi f (lv + 1) h) _ _ hy) fun _ _ _ hz => .okk hz _
   . have e : (nxT x').ts.length = (nxT x).ts.length:=(h.nx hT).len
     rw [e]
     exact .then (zHR hT (fun h => zFi f (lv + 1) h) _ _ _ hy) fun _ _ _ hz => .okk hz _
theorem zIS {x x' : PS} (h : XR T x x') : RR T I (zAR x) (zAR x'):=zFi hT _ _ ⟨h.ts,h.vr,rfl⟩
theorem zJp : ∀ (f : Nat) (acc : List D) {x x' : PS},XR T x x' -> RR T I (argsF f acc x) (argsF f acc x')
 | 0,_,_,_,h => .err hT h _
 | f + 1,acc,x,x',h => by
   unfold argsF
   rw [h.isS hT,(h.hd hT).1]
   exact .ite (fun _ => .okk (h.nx hT) _) fun _ => .ite (fun _ => .err hT h _) fun _ => .then (zBk hT h) fun _ _ _ hy => .then (zDd hT hy _) fun _ _ _ hz => .then (zIS hT hz) fun _ _ _ hu => zJp f _ hu
theorem args_rr {x x' : PS} (h : XR T x x') : RR T I (argsQ x) (argsQ x'):=by
 unfold argsQ
 rw [h.isS hT,h.len]
 exact .ite (fun _ => zJp hT _ _ (h.nx hT)) fun _ => .okk h _
theorem zJV : ∀ (f : Nat) (acc : List D) {x x' : PS},XR T x x' -> RR T I (dirsF f acc x) (dirsF f acc x')
 | 0,_,_,_,h => .err hT h _
 | f + 1,acc,x,x',h => by
   unfold dirsF
   rw [h.isS hT]
   exact .ite (fun _ => .ite (fun _ => .err hT h _) fun _ => .then (zBk hT (h.nx hT)) fun _ _ _ hy => .then (args_rr hT hy) fun _ _ _ hz => zJV f _ hz) fun _ => .okk h _
theorem zIC {x x' : PS} (h : XR T x x') : RR T I (dirsQ x) (dirsQ x'):=by
 unfold dirsQ
 rw [h.len]
 exact zJV hT _ _ h
theorem sel_rr {v : PS -> PR (List D)} (hv : ∀ {x x' : PS},XR T x x' -> RR T I (v x) (v x')) {x x' : PS} (h : XR T x x') : RR T I (selQ v x) (selQ v x'):=by
 have hy:=h.nx hT
 unfold selQ
 rw [h.isS hT]
 dsimp only
 rw [(hy.hd hT).1,(hy.hd hT).2.1]
 refine .ite (fun _ => .ite (fun _ => .then (zIC hT (hy.nx hT)) fun _ _ _ hz => .okk hz _) fun _ => .then (.ite (fun _ => zBk hT (hy.nx hT)) fun _ => .okk hy _) fun _ _ _ hz => .then (zIC hT hz) fun _ _ _ hu => .then (hv hu) fun _ _ _ ho => .okk ho _) fun _ => ?_
 refine .then (zBk hT h) fun n y y' hy => ?_
 rw [hy.isS hT]
 refine .then (.ite (fun _ => .then (zBk hT (hy.nx hT)) fun _ _ _ hz => .okk hz _) fun _ => .okk hy _) fun _ _ _ hz => .then (args_rr hT hz) fun _ _ _ hu => .then (zIC hT hu) fun _ _ _ hw => ?_
 rw [hw.isS hT]
 exact .then (.ite (fun _ => hv hw) fun _ => .okk hw _) fun _ _ _ ho => .okk ho _
theorem setF_rr {v : PS -> PR D} (hv : ∀ {x x' : PS},XR T x x' -> RR T I (v x) (v x')) : ∀ (f : Nat) (acc : List D) {x x' : PS},XR T x x' -> RR T I (setF v f acc x) (setF v f acc x')
 | 0,_,_,_,h => .err hT h _
 | f + 1,acc,x,x',h => by
   unfold setF
   rw [h.isS hT,h.isS hT,(h.hd hT).1]
   exact .ite (fun _ => .okk (h.nx hT) _) fun _ => .ite (fun _ => .err hT h _) fun _ => .then (hv h) fun _ _ _ hy => setF_rr hv f _ hy
theorem sels_rr : ∀ (f lv : Nat) {x x' : PS},XR T x x' -> RR T I (selsQ f lv x) (selsQ f lv x')
 | 0,_,_,_,h => .err hT h _
 | f + 1,lv,x,x',h => by
   unfold selsQ
   rw [h.isS hT]
   refine .ite (fun _ => .err hT h _) fun _ => .then (zDd hT h _) fun _ y y' hy => ?_
   rw [hy.len]
   exact setF_rr hT (fun h => sel_rr hT (fun h => sels_rr f (lv + 1) h) h) _ _ hy
theorem set_rr {x x' : PS} (h : XR T x x') : RR T I (setQ x) (setQ x'):=sels_rr hT _ _ h
theorem zIW : ∀ (f : Nat) (acc : List D) {x x' : PS},XR T x x' -> RR T I (varsF f acc x) (varsF f acc x')
 | 0,_,_,_,h => .err hT h _
 | f + 1,acc,x,x',h => by
   unfold varsF
   rw [h.isS hT,h.isS hT]
   refine .ite (fun _ => .okk (h.nx hT) _) fun _ => .ite (fun _ => .err hT h _) fun _ => .then (zDd hT h _) fun _ _ _ hy => .then (zBk hT hy) fun _ _ _ hz => .then (zDd hT hz _) fun _ _ _ hu => .then (typ_rr hT hu) fun _ v v' hv => ?_
   rw [hv.isS hT]
   refine .then (.ite (fun _ => .then (zIS hT ?_) fun d o o' ho => RR.okk (x:={ o with vr:=true }) (x':={ o' with vr:=true }) ⟨ho.ts,rfl,ho.nd⟩ (true,d)) fun _ => .okk hv _) fun _ _ _ ho => zIW f _ ho
   exact ⟨(hv.nx hT).ts,rfl,(hv.nx hT).nd⟩
theorem op_rr (k : Int) {x x' : PS} (h : XR T x x') : RR T I (opQ k x) (opQ k x'):=by
 unfold opQ
 rw [(h.hd hT).1,(h.hd hT).2.1]
 refine .then (.ite (fun _ => .okk (h.nx hT) _) fun _ => .okk h _) fun _ y y' hy => ?_
 rw [hy.isS hT,hy.len]
 exact .then (.ite (fun _ => zIW hT _ _ (hy.nx hT)) fun _ => .okk hy _) fun _ _ _ hz => .then (set_rr hT hz) fun _ _ _ hu => .okk hu _
theorem frag_rr {x x' : PS} (h : XR T x x') : RR T I (zA9 x) (zA9 x'):=by
 unfold zA9
 rw [(h.hd hT).2.1]
 refine .ite (fun _ => .err hT h _) fun _ => .then (zBk hT h) fun _ y y' hy => ?_
 rw [(hy.hd hT).1,(hy.hd hT).2.1]
 exact .ite (fun _ => .then (zBk hT (hy.nx hT)) fun _ _ _ hz => .then (set_rr hT hz) fun _ _ _ hu => .okk hu _) fun _ => .err hT hy _
theorem zGX : ∀ (f n : Nat) (ops frs : List D) {x x' : PS},XR T x x' -> RR T I (docF f n ops frs x) (docF f n ops frs x')
 | 0,_,_,_,_,_,h => .err hT h _
 | f + 1,n,ops,frs,x,x',h => by
   unfold docF
   rw [h.isS hT,(h.hd hT).1,(h.hd hT).2.1]
   dsimp only
   refine .ite (fun _ => .okk h _) fun _ => .ite (fun _ => .err hT h _) fun _ => .ite (fun _ => .err hT h _) fun _ => .ite (fun _ => .then (set_rr hT h) fun _ _ _ hy => zGX f _ _ _ hy) fun _ => .ite (fun _ => .then (op_rr hT _ (h.nx hT)) fun _ _ _ hy => zGX f _ _ _ hy) fun _ => .then (frag_rr hT (h.nx hT)) fun _ _ _ hy => zGX f _ _ _ hy
theorem doc_rr {ts ts' : List Tok} (h : All2 T ts ts') : RR T I (docQ ts) (docQ ts'):=by
 unfold docQ
 rw [<- zE6 h]
 exact zGX hT _ _ _ _ ⟨h,rfl,rfl⟩
end
structure J (e : Tok) (r : List Tok) (a : List Tok) (x x' : PS) : Prop where
 l : x.ts = a ++ [e]
 r : x'.ts = a ++ r
 vr : x'.vr = x.vr
 nd : x'.nd = x.nd
def LO (e : Tok) (r : List Tok) {α : Type} (a : List Tok) (p p' : PR α) : Prop:=
 ∀ v y,p = .ok (v,y) -> ∃ b,(∃ d,a = d ++ b) /\ y.ts = b ++ [e] /\ (b ≠ [] -> ∃ y',p' = .ok (v,y') /\ J e r b y y')
def LS (e : Tok) (r : List Tok) {α : Type} (a : List Tok) (p p' : PR α) : Prop:=
 ∀ v y,p = .ok (v,y) -> ∃ b y',(∃ t d,a = t :: d ++ b) /\ p' = .ok (v,y') /\ J e r b y y'
structure Ends (e : Tok) (r : List Tok) : Prop where
 k : e.k = 5
 r : r ≠ []
section
variable {e : Tok} {r : List Tok} {α β : Type}
theorem LS.lo {a : List Tok} {p p' : PR α} (h : LS e r a p p') : LO e r a p p':=fun v y hp => by
 obtain ⟨b,y',⟨t,d,hd⟩,h1,h2⟩:=h v y hp
 exact ⟨b,⟨t :: d,hd⟩,h2.l,fun _ => ⟨y',h1,h2⟩⟩
theorem LO.zero {p p' p'' : PR α} (h : LO e r [] p p') : LO e r [] p p'':=fun v y hp => by
 obtain ⟨b,⟨d,hd⟩,h1,h2⟩:=h v y hp
 have : b = []:=(List.append_eq_nil_iff.1 hd.symm).2
 subst this
 exact ⟨[],⟨[],rfl⟩,h1,fun h => (h rfl).elim⟩
theorem LS.zero {p p' p'' : PR α} (h : LS e r [] p p') : LS e r [] p p'':=fun v y hp => by
 obtain ⟨b,y',⟨t,d,hd⟩,-⟩:=h v y hp
 cases hd
theorem LO.err {a : List Tok} {q : Nat × Int} {p' : PR α} : LO e r a (.error q) p':=fun _ _ h => by cases h
theorem LS.err {a : List Tok} {q : Nat × Int} {p' : PR α} : LS e r a (.error q) p':=fun _ _ h => by cases h
theorem LO.okk {a : List Tok} {x x' : PS} (h : J e r a x x') (v : α) : LO e r a (.ok (v,x)) (.ok (v,x')):=fun w y hp => by
 cases hp
 exact ⟨a,⟨[],rfl⟩,h.l,fun _ => ⟨x',rfl,h⟩⟩
theorem LO.mono {a b : List Tok} {p p' : PR α} (h : LO e r b p p') (hab : ∃ d,a = d ++ b) : LO e r a p p':=fun v y hp => by
 obtain ⟨c,⟨d,hd⟩,h1⟩:=h v y hp
 obtain ⟨d2,hd2⟩:=hab
 exact ⟨c,⟨d2 ++ d,by rw [hd2,hd,List.append_assoc]⟩,h1⟩
theorem LS.mono {a b : List Tok} {p p' : PR α} (h : LS e r b p p') (hab : ∃ d,a = d ++ b) : LS e r a p p':=fun v y hp => by
 obtain ⟨c,y',⟨t,d,hd⟩,h1⟩:=h v y hp
 obtain ⟨d2,hd2⟩:=hab
 cases d2 with
 | nil => exact ⟨c,y',⟨t,d,by rw [hd2,hd]; rfl⟩,h1⟩
 | cons t2 d2 => exact ⟨c,y',⟨t2,d2 ++ t :: d,by rw [hd2,hd]; simp⟩,h1⟩
theorem LS.okn {t : Tok} {a : List Tok} {x x' : PS} (h : J e r a x x') (v : α) : LS e r (t :: a) (.ok (v,x)) (.ok (v,x')):=fun w y hp => by
 cases hp
 exact ⟨a,x',⟨t,[],rfl⟩,rfl,h⟩
theorem LO.ite {a : List Tok} {c c' : Prop} [Decidable c] [Decidable c'] {A A' B B' : PR α} (hc : a ≠ [] -> (c ↔ c')) (h1 : c -> LO e r a A A') (h2 : ¬ c -> LO e r a B B') : LO e r a (if c then A else B) (if c' then A' else B'):=by
 by_cases ha : a = []
 . subst ha
   by_cases h : c
   . rw [if_pos h]; exact (h1 h).zero
   . rw [if_neg h]; exact (h2 h).zero
 . by_cases h : c
   . rw [if_pos h,if_pos ((hc ha).1 h)]; exact h1 h
   . rw [if_neg h,if_neg fun h' => h ((hc ha).2 h')]; exact h2 h
theorem LS.ite {a : List Tok} {c c' : Prop} [Decidable c] [Decidable c'] {A A' B B' : PR α} (hc : a ≠ [] -> (c ↔ c')) (h1 : c -> LS e r a A A') (h2 : ¬ c -> LS e r a B B') : LS e r a (if c then A else B) (if c' then A' else B'):=by
 by_cases ha : a = []
 . subst ha
   by_cases h : c
   . rw [if_pos h]; exact (h1 h).zero
   . rw [if_neg h]; exact (h2 h).zero
 . by_cases h : c
   . rw [if_pos h,if_pos ((hc ha).1 h)]; exact h1 h
   . rw [if_neg h,if_neg fun h' => h ((hc ha).2 h')]; exact h2 h
theorem LO.then {a : List Tok} {p p' : PR α} {f f' : α -> PS -> PR β} (h : LO e r a p p') (hf : ∀ v b y y',J e r b y y' -> LO e r b (f v y) (f' v y')) : LO e r a (zX p f) (zX p' f'):=fun w z hp => by
 cases hpp : p with
 | error q => rw [hpp] at hp; cases hp
 | ok q =>
   obtain ⟨v,y⟩:=q
   obtain ⟨b,hab,h1,h2⟩:=h v y hpp
   rw [hpp] at hp
   have hp : f v y = .ok (w,z):=hp
   by_cases hb : b = []
   . subst hb
     obtain ⟨c,⟨d,hd⟩,h3,-⟩:=hf v [] y ⟨r,y.vr,y.nd⟩ ⟨h1,rfl,rfl,rfl⟩ w z hp
     have : c = []:=(List.append_eq_nil_iff.1 hd.symm).2
     subst this
     exact ⟨[],hab,h3,fun h => (h rfl).elim⟩
   . obtain ⟨y',h3,h4⟩:=h2 hb
     rw [h3]
     exact ((hf v b y y' h4).mono hab) w z hp
theorem LS.then {a : List Tok} {p p' : PR α} {f f' : α -> PS -> PR β} (h : LO e r a p p') (hf : ∀ v b y y',J e r b y y' -> LS e r b (f v y) (f' v y')) : LS e r a (zX p f) (zX p' f'):=fun w z hp => by
 cases hpp : p with
 | error q => rw [hpp] at hp; cases hp
 | ok q =>
   obtain ⟨v,y⟩:=q
   obtain ⟨b,hab,h1,h2⟩:=h v y hpp
   rw [hpp] at hp
   have hp : f v y = .ok (w,z):=hp
   by_cases hb : b = []
   . subst hb
     obtain ⟨c,y',⟨t,d,hd⟩,-⟩:=hf v [] y ⟨r,y.vr,y.nd⟩ ⟨h1,rfl,rfl,rfl⟩ w z hp
     cases hd
   . obtain ⟨y',h3,h4⟩:=h2 hb
     rw [h3]
     exact ((hf v b y y' h4).mono hab) w z hp
theorem LS.pure {a : List Tok} {p p' : PR α} {f f' : α -> PS -> PR β} (h : LS e r a p p') (hf : ∀ v b y y',J e r b y y' -> ∃ w z z',f v y = .ok (w,z) /\ f' v y' = .ok (w,z') /\ J e r b z z') : LS e r a (zX p f) (zX p' f'):=fun w z hp => by
 cases hpp : p with
 | error q => rw [hpp] at hp; cases hp
 | ok q =>
   obtain ⟨v,y⟩:=q
   obtain ⟨b,y',hab,h1,h2⟩:=h v y hpp
   rw [hpp] at hp
   have hp : f v y = .ok (w,z):=hp
   obtain ⟨w2,z2,z',h3,h4,h5⟩:=hf v b y y' h2
   rw [hp] at h3
   cases h3
   rw [h1]
   exact ⟨b,z',hab,h4,h5⟩
variable (hE : Ends e r)
theorem J.hd {a : List Tok} {x x' : PS} (h : J e r a x x') (ha : a ≠ []) : hdT x' = hdT x:=by
 cases a with
 | nil => exact (ha rfl).elim
 | cons t a => unfold hdT; rw [h.l,h.r]; rfl
theorem J.sg {a : List Tok} {x x' : PS} (h : J e r a x x') (s : List UInt8) (ha : a ≠ []) : isS x s = true ↔ isS x' s = true:=by
 unfold isS; rw [h.hd ha]
include hE
theorem J.k5 {x x' : PS} (h : J e r [] x x') : (hdT x).k = 5:=by unfold hdT; rw [h.l]; exact hE.k
theorem J.ne_of_k {a : List Tok} {x x' : PS} (h : J e r a x x') (hk : (hdT x).k ≠ 5) : ∃ t a',a = t :: a' /\ J e r a' (nxT x) (nxT x'):=by
 cases a with
 | nil => exact (hk (h.k5 hE)).elim
 | cons t a =>
   have h1:=h.hd (by simp)
   refine ⟨t,a,rfl,?_⟩
   unfold nxT
   rw [h1,if_neg hk,if_neg hk]
   exact ⟨by show x.ts.drop 1 = _; rw [h.l]; rfl,by show x'.ts.drop 1 = _; rw [h.r]; rfl,h.vr,h.nd⟩
theorem J.ne_of_isS {a : List Tok} {x x' : PS} (h : J e r a x x') {s : List UInt8} (hs : isS x s = true) : ∃ t a',a = t :: a' /\ J e r a' (nxT x) (nxT x'):=by
 refine h.ne_of_k hE ?_
 unfold isS at hs
 simp only [Bool.and_eq_true,beq_iff_eq] at hs
 rw [hs.1]; decide
theorem J.len {a : List Tok} {x x' : PS} (h : J e r a x x') : x.ts.length <= x'.ts.length:=by
 rw [h.l,h.r,List.length_append,List.length_append]
 have : 0 < r.length:=List.length_pos_iff.2 hE.r
 simp; omega
theorem zCY {a : List Tok} {x x' : PS} (h : J e r a x x') (s : List UInt8) : LS e r a (takeQ s x) (takeQ s x'):=by
 unfold takeQ
 refine .ite (h.sg s) (fun hs => ?_) fun _ => .err
 obtain ⟨t,a',rfl,h'⟩:=h.ne_of_isS hE hs
 exact .okn h' _
theorem zA7 {a : List Tok} {x x' : PS} (h : J e r a x x') : LS e r a (nameQ x) (nameQ x'):=by
 unfold nameQ
 refine .ite (fun ha => by rw [h.hd ha]) (fun hk => ?_) fun _ => .err
 obtain ⟨t,a',rfl,h'⟩:=h.ne_of_k hE (by rw [hk]; decide)
 rw [h.hd (by simp)]
 exact .okn h' _
theorem open_j : ∀ (f g : Nat) {a : List Tok} {x x' : PS},J e r a x x' -> x.ts.length <= f -> x'.ts.length <= g -> ∃ b,(∃ d,a = d ++ b) /\ (openQ f x).2.ts = b ++ [e] /\ (b ≠ [] -> (openQ g x').1 = (openQ f x).1 /\ J e r b (openQ f x).2 (openQ g x').2)
 | 0,g,a,x,x',h,hf,_ => by rw [h.l] at hf; simp at hf
 | f + 1,0,a,x,x',h,_,hg => by have:=h.len hE; rw [h.l] at this; simp at this; omega
 | f + 1,g + 1,a,x,x',h,hf,hg => by
   by_cases hs : isS x [91] = true
   . obtain ⟨t,a',rfl,h'⟩:=h.ne_of_isS hE hs
     have hs':=(h.sg [91] (by simp)).1 hs
     have e1 : openQ (f + 1) x = ((openQ f (nxT x)).1 + 1,(openQ f (nxT x)).2):=by rw [openQ,if_pos hs]
     have e2 : openQ (g + 1) x' = ((openQ g (nxT x')).1 + 1,(openQ g (nxT x')).2):=by rw [openQ,if_pos hs']
     rw [e1,e2]
     obtain ⟨b,⟨d,hd⟩,h1,h2⟩:=open_j f g h' (by rw [h'.l]; rw [h.l] at hf; simpa using hf) (by rw [h'.r]; rw [h.r] at hg; simpa using hg)
     exact ⟨b,⟨t :: d,by rw [hd]; rfl⟩,h1,fun hb => ⟨by rw [(h2 hb).1],(h2 hb).2⟩⟩
   . have e1 : openQ (f + 1) x = (0,x):=by rw [openQ,if_neg hs]
     rw [e1]
     refine ⟨a,⟨[],rfl⟩,h.l,fun ha => ?_⟩
     have e2 : openQ (g + 1) x' = (0,x'):=by rw [openQ,if_neg fun hq => hs ((h.sg [91] ha).2 hq)]
     rw [e2]
     exact ⟨rfl,h⟩
theorem zGf : ∀ (n : Nat) (w : List Int) {a : List Tok} {x x' : PS},J e r a x x' -> LO e r a (closeQ n w x) (closeQ n w x')
 | 0,w,a,x,x',h => by
   have e1 : ∀ x,closeQ 0 w x = if isS x [33] = true then .ok (1 :: w,nxT x) else .ok (w,x):=fun x => by unfold closeQ; split <;> rfl
   rw [e1,e1]
   refine .ite (h.sg _) (fun hs => ?_) fun _ => .okk h _
   obtain ⟨t,a',rfl,h'⟩:=h.ne_of_isS hE hs
   exact (LS.okn h' _).lo
 | n + 1,w,a,x,x',h => by
   have e1 : ∀ x,closeQ (n + 1) w x = if isS x [33] = true then zX (takeQ [93] (nxT x)) fun _ y => closeQ n (2 :: 1 :: w) y else zX (takeQ [93] x) fun _ y => closeQ n (2 :: w) y:=fun x => by
    rw [closeQ]; split <;> rfl
   rw [e1,e1]
   refine .ite (h.sg _) (fun hs => ?_) fun _ => .then (zCY hE h _).lo fun _ _ _ _ hy => zGf n _ hy
   obtain ⟨t,a',rfl,h'⟩:=h.ne_of_isS hE hs
   exact (LO.then (zCY hE h' _).lo fun _ _ _ _ hy => zGf n _ hy).mono ⟨[t],rfl⟩
theorem inner_lo {a : List Tok} {x x' : PS} (h : J e r a x x') : LO e r a (innerQ x) (innerQ x'):=by
 obtain ⟨b,hab,h1,h2⟩:=open_j hE x.ts.length x'.ts.length h (Nat.le_refl _) (Nat.le_refl _)
 unfold innerQ
 by_cases hb : b = []
 . subst hb
   intro v y hp
   have hk : nameQ (openQ x.ts.length x).2 = .error ((hdT (openQ x.ts.length x).2).i,3):=by
    unfold nameQ
    rw [if_neg]
    unfold hdT
    rw [h1]
    show ¬ e.k = 2
    rw [hE.k]; decide
   rw [hk] at hp
   cases hp
 . obtain ⟨h3,h4⟩:=h2 hb
   rw [h3]
   refine LO.mono (b:=b) ?_ hab
   exact .then (zA7 hE h4).lo fun _ _ _ _ hy => .then (zGf hE _ _ hy) fun _ _ _ _ hz => .okk hz _
theorem typ_lo {a : List Tok} {x x' : PS} (h : J e r a x x') : LO e r a (typQ x) (typQ x'):=
 .then (inner_lo hE h) fun _ _ _ _ hy => .ite (fun _ => Iff.rfl) (fun _ => .err) fun _ => .okk hy _
theorem zGF {v v' : PS -> PR D} (hv : ∀ {a : List Tok} {x x' : PS},J e r a x x' -> LO e r a (v x) (v' x')) : ∀ (f g : Nat) (acc : List D) {a : List Tok} {x x' : PS},f <= g -> J e r a x x' -> LS e r a (itemsQ v f acc x) (itemsQ v' g acc x')
 | 0,_,_,_,_,_,_,_ => .err
 | f + 1,0,_,_,_,_,hfg,_ => by omega
 | f + 1,g + 1,acc,a,x,x',hfg,h => by
   unfold itemsQ
   refine .ite (h.sg _) (fun hs => ?_) fun _ => .then (hv h) fun _ _ _ _ hy => zGF hv f g _ (by omega) hy
   obtain ⟨t,a',rfl,h'⟩:=h.ne_of_isS hE hs
   exact .okn h' _
theorem zEn {v v' : PS -> PR D} (hv : ∀ {a : List Tok} {x x' : PS},J e r a x x' -> LO e r a (v x) (v' x')) : ∀ (f g : Nat) (ks : List (List UInt8)) (acc : List D) {a : List Tok} {x x' : PS},f <= g -> J e r a x x' -> LS e r a (zy v f ks acc x) (zy v' g ks acc x')
 | 0,_,_,_,_,_,_,_,_ => .err
 | f + 1,0,_,_,_,_,_,hfg,_ => by omega
 | f + 1,g + 1,ks,acc,a,x,x',hfg,h => by
   unfold zy
   refine .ite (h.sg _) (fun hs => ?_) fun _ => .then (zA7 hE h).lo fun k _ _ _ hy => .ite (fun _ => Iff.rfl) (fun _ => .err) fun _ => .then (zCY hE hy _).lo fun _ _ _ _ hz => .then (hv hz) fun _ _ _ _ hu => zEn hv f g _ _ (by omega) hu
   obtain ⟨t,a',rfl,h'⟩:=h.ne_of_isS hE hs
   exact .okn h' _
theorem zCv : ∀ (f lv : Nat) {a : List Tok} {x x' : PS},J e r a x x' -> LO e r a (valueQ f lv x) (valueQ f lv x')
 | 0,_,_,_,_,_ => .err
 | f + 1,lv,a,x,x',h => by
   by_cases ha : a = []
   . intro v y hp
     subst ha
     have hk:=h.k5 hE
     unfold valueQ at hp
     rw [if_pos (by unfold zBt; rw [hk]; rfl)] at hp
     cases hp
   . have hh:=h.hd ha
     have hn : zBt x' = zBt x:=by unfold zBt isS; rw [hh,h.vr]
     unfold valueQ
     rw [hn,hh,h.nd]
     refine .ite (fun _ => Iff.rfl) (fun _ => .err) fun hno => ?_
     obtain ⟨t,a',rfl,h'⟩:=h.ne_of_k hE (fun hk => hno (by unfold zBt; rw [hk]; rfl))
     have hy : J e r a' { nxT x with nd:=x.nd + 1 } { nxT x' with nd:=x.nd + 1 }:=⟨h'.l,h'.r,h'.vr,rfl⟩
     have hlen : (nxT x).ts.length <= (nxT x').ts.length:=h'.len hE
     refine .ite (fun _ => Iff.rfl) (fun _ => .err) fun _ => .ite (fun _ => Iff.rfl) (fun _ => .err) fun _ => ?_
     dsimp only
     refine LO.mono (b:=a') ?_ ⟨[t],rfl⟩
     refine .ite (fun _ => Iff.rfl) (fun _ => .okk hy _) fun _ => .ite (fun _ => Iff.rfl) (fun _ => .okk hy _) fun _ => .ite (fun _ => Iff.rfl) (fun _ => .okk hy _) fun _ => .ite (fun _ => Iff.rfl) (fun _ => .then (zA7 hE hy).lo fun _ _ _ _ hz => .okk hz _) fun _ => .ite (fun _ => Iff.rfl) (fun _ => ?_) fun _ => ?_
     . exact .then (zGF hE (fun h => zCv f (lv + 1) h) _ _ _ (by omega) hy).lo fun _ _ _ _ hz => .okk hz _
     . exact .then (zEn hE (fun h => zCv f (lv + 1) h) _ _ _ _ (by omega) hy).lo fun _ _ _ _ hz => .okk hz _
theorem zFf {a : List Tok} {x x' : PS} (h : J e r a x x') : LO e r a (zAR x) (zAR x'):=zCv hE _ _ ⟨h.l,h.r,h.vr,rfl⟩
theorem zJs : ∀ (f g : Nat) (acc : List D) {a : List Tok} {x x' : PS},f <= g -> J e r a x x' -> LS e r a (argsF f acc x) (argsF g acc x')
 | 0,_,_,_,_,_,_,_ => .err
 | f + 1,0,_,_,_,_,hfg,_ => by omega
 | f + 1,g + 1,acc,a,x,x',hfg,h => by
   unfold argsF
   refine .ite (fun ha => by rw [h.sg _ ha]) (fun hs => ?_) fun _ => .ite (fun ha => by rw [h.hd ha]) (fun _ => .err) fun _ => .then (zA7 hE h).lo fun _ _ _ _ hy => .then (zCY hE hy _).lo fun _ _ _ _ hz => .then (zFf hE hz) fun _ _ _ _ hu => zJs f g _ (by omega) hu
   obtain ⟨t,a',rfl,h'⟩:=h.ne_of_isS hE hs.2
   exact .okn h' _
theorem zGj {a : List Tok} {x x' : PS} (h : J e r a x x') : LO e r a (argsQ x) (argsQ x'):=by
 unfold argsQ
 refine .ite (h.sg _) (fun hs => ?_) fun _ => .okk h _
 obtain ⟨t,a',rfl,h'⟩:=h.ne_of_isS hE hs
 exact (zJs hE _ _ _ (h.len hE) h').lo.mono ⟨[t],rfl⟩
theorem zJY : ∀ (f g : Nat) (acc : List D) {a : List Tok} {x x' : PS},f <= g -> J e r a x x' -> LO e r a (dirsF f acc x) (dirsF g acc x')
 | 0,_,_,_,_,_,_,_ => .err
 | f + 1,0,_,_,_,_,hfg,_ => by omega
 | f + 1,g + 1,acc,a,x,x',hfg,h => by
   unfold dirsF
   refine .ite (h.sg _) (fun hs => ?_) fun _ => .okk h _
   obtain ⟨t,a',rfl,h'⟩:=h.ne_of_isS hE hs
   exact LO.mono (b:=a') (.ite (fun _ => Iff.rfl) (fun _ => .err) fun _ => .then (zA7 hE h').lo fun _ _ _ _ hy => .then (zGj hE hy) fun _ _ _ _ hz => zJY f g _ (by omega) hz) ⟨[t],rfl⟩
theorem zDL {a : List Tok} {x x' : PS} (h : J e r a x x') : LO e r a (dirsQ x) (dirsQ x'):=zJY hE _ _ _ (by have:=h.len hE; omega) h
theorem sel_lo {v v' : PS -> PR (List D)} (hv : ∀ {a : List Tok} {x x' : PS},J e r a x x' -> LO e r a (v x) (v' x')) {a : List Tok} {x x' : PS} (h : J e r a x x') : LO e r a (selQ v x) (selQ v' x'):=by
 unfold selQ
 refine .ite (h.sg _) (fun hs => ?_) fun _ => ?_
 . obtain ⟨t,a',rfl,h'⟩:=h.ne_of_isS hE hs
   refine LO.mono (b:=a') ?_ ⟨[t],rfl⟩
   dsimp only
   refine .ite (fun ha => by rw [h'.hd ha]) (fun hk => ?_) fun _ => ?_
   . obtain ⟨t2,a2,rfl,h2⟩:=h'.ne_of_k hE (by rw [hk.1]; decide)
     rw [h'.hd (by simp)]
     exact LO.mono (b:=a2) (.then (zDL hE h2) fun _ _ _ _ hz => .okk hz _) ⟨[t2],rfl⟩
   . refine .then (.ite (fun ha => by rw [h'.hd ha]) (fun hk => ?_) fun _ => .okk h' _) fun _ _ _ _ hz => .then (zDL hE hz) fun _ _ _ _ hu => .then (hv hu) fun _ _ _ _ ho => .okk ho _
     obtain ⟨t2,a2,rfl,h2⟩:=h'.ne_of_k hE (by rw [hk]; decide)
     exact (zA7 hE h2).lo.mono ⟨[t2],rfl⟩
 . refine .then (zA7 hE h).lo fun n _ y y' hy => .then (.ite (hy.sg _) (fun hs => ?_) fun _ => .okk hy _) fun _ _ _ _ hz => .then (zGj hE hz) fun _ _ _ _ hu => .then (zDL hE hu) fun _ _ _ _ hw => .then (.ite (hw.sg _) (fun _ => hv hw) fun _ => .okk hw _) fun _ _ _ _ ho => .okk ho _
   obtain ⟨t2,a2,rfl,h2⟩:=hy.ne_of_isS hE hs
   exact LO.mono (b:=a2) (.then (zA7 hE h2).lo fun _ _ _ _ hz => .okk hz _) ⟨[t2],rfl⟩
theorem setF_ls {v v' : PS -> PR D} (hv : ∀ {a : List Tok} {x x' : PS},J e r a x x' -> LO e r a (v x) (v' x')) : ∀ (f g : Nat) (acc : List D) {a : List Tok} {x x' : PS},f <= g -> J e r a x x' -> LS e r a (setF v f acc x) (setF v' g acc x')
 | 0,_,_,_,_,_,_,_ => .err
 | f + 1,0,_,_,_,_,hfg,_ => by omega
 | f + 1,g + 1,acc,a,x,x',hfg,h => by
   unfold setF
   refine .ite (fun ha => by rw [h.sg _ ha]) (fun hs => ?_) fun _ => .ite (fun ha => by rw [h.hd ha,h.sg _ ha]) (fun _ => .err) fun _ => .then (hv h) fun _ _ _ _ hy => setF_ls hv f g _ (by omega) hy
   obtain ⟨t,a',rfl,h'⟩:=h.ne_of_isS hE hs.2
   exact .okn h' _
theorem zDg : ∀ (f lv : Nat) {a : List Tok} {x x' : PS},J e r a x x' -> LS e r a (selsQ f lv x) (selsQ f lv x')
 | 0,_,_,_,_,_ => .err
 | f + 1,lv,a,x,x',h => by
   unfold selsQ
   refine .ite (fun ha => by rw [h.sg _ ha]) (fun _ => .err) fun _ => .then (zCY hE h _).lo fun _ _ y y' hy => ?_
   exact setF_ls hE (fun h => sel_lo hE (fun h => (zDg f (lv + 1) h).lo) h) _ _ _ (by have:=hy.len hE; omega) hy
theorem set_ls {a : List Tok} {x x' : PS} (h : J e r a x x') : LS e r a (setQ x) (setQ x'):=zDg hE _ _ h
theorem zIZ : ∀ (f g : Nat) (acc : List D) {a : List Tok} {x x' : PS},f <= g -> J e r a x x' -> LS e r a (varsF f acc x) (varsF g acc x')
 | 0,_,_,_,_,_,_,_ => .err
 | f + 1,0,_,_,_,_,hfg,_ => by omega
 | f + 1,g + 1,acc,a,x,x',hfg,h => by
   unfold varsF
   refine .ite (fun ha => by rw [h.sg _ ha]) (fun hs => ?_) fun _ => .ite (fun ha => by rw [h.sg _ ha]) (fun _ => .err) fun _ => .then (zCY hE h _).lo fun _ _ _ _ hy => .then (zA7 hE hy).lo fun _ _ _ _ hz => .then (zCY hE hz _).lo fun _ _ _ _ hu => .then (typ_lo hE hu) fun _ _ v v' hv => .then (.ite (hv.sg _) (fun hs => ?_) fun _ => .okk hv _) fun _ _ _ _ ho => zIZ f g _ (by omega) ho
   . obtain ⟨t,a',rfl,h'⟩:=h.ne_of_isS hE hs.2
     exact .okn h' _
   . obtain ⟨t,a',rfl,h'⟩:=hv.ne_of_isS hE hs
     exact LO.mono (b:=a') (.then (zFf hE (x:={ nxT v with vr:=false }) (x':={ nxT v' with vr:=false }) ⟨h'.l,h'.r,rfl,h'.nd⟩) fun _ _ o o' ho => .okk (x:={ o with vr:=true }) (x':={ o' with vr:=true }) ⟨ho.l,ho.r,rfl,ho.nd⟩ _) ⟨[t],rfl⟩
theorem op_ls (k : Int) {a : List Tok} {x x' : PS} (h : J e r a x x') : LS e r a (opQ k x) (opQ k x'):=by
 unfold opQ
 refine .then (.ite (fun ha => by rw [h.hd ha]) (fun hk => ?_) fun _ => .okk h _) fun _ _ y y' hy => .then (.ite (hy.sg _) (fun hs => ?_) fun _ => .okk hy _) fun _ _ _ _ hz => .pure (set_ls hE hz) fun _ _ u u' hu => ⟨_,u,u',rfl,rfl,hu⟩
 . obtain ⟨t,a',rfl,h'⟩:=h.ne_of_k hE (by rw [hk]; decide)
   rw [h.hd (by simp)]
   exact (LS.okn h' _).lo
 . obtain ⟨t,a',rfl,h'⟩:=hy.ne_of_isS hE hs
   exact (zIZ hE _ _ _ (hy.len hE) h').lo.mono ⟨[t],rfl⟩
theorem frag_ls {a : List Tok} {x x' : PS} (h : J e r a x x') : LS e r a (zA9 x) (zA9 x'):=by
 unfold zA9
 refine .ite (fun ha => by rw [h.hd ha]) (fun _ => .err) fun _ => .then (zA7 hE h).lo fun _ _ y y' hy => .ite (fun ha => by rw [hy.hd ha]) (fun hk => ?_) fun _ => .err
 obtain ⟨t,a',rfl,h'⟩:=hy.ne_of_k hE (by rw [hk.1]; decide)
 refine LS.mono (b:=a') ?_ ⟨[t],rfl⟩
 exact .then (zA7 hE h').lo fun _ _ _ _ hz => .pure (set_ls hE hz) fun _ _ u u' hu => ⟨_,u,u',rfl,rfl,hu⟩
end
def En (x : PS) : Prop:=∃ a e,x.ts = a ++ [e] /\ e.k = 5 /\ ∀ t ∈ x.ts,t.s.length <= 100000
theorem En.cons {x : PS} (h : En x) : ∃ t r,x.ts = t :: r:=by
 obtain ⟨a,e,h1,-⟩:=h
 rw [h1]
 cases a with
 | nil => exact ⟨e,[],rfl⟩
 | cons t a => exact ⟨t,a ++ [e],rfl⟩
theorem En.lo {α : Type} {x y : PS} {v : α} (h : En x) {p : PS -> PR α} (hp : ∀ {e : Tok} {a : List Tok} {x x' : PS},Ends e [e] -> J e [e] a x x' -> LO e [e] a (p x) (p x')) (hq : p x = .ok (v,y)) : En y /\ y.ts.length <= x.ts.length:=by
 obtain ⟨a,e,h1,h2,h4⟩:=h
 obtain ⟨b,⟨d,hd⟩,h3,-⟩:=hp (e:=e) (a:=a) (x:=x) (x':=x) ⟨h2,by simp⟩ ⟨h1,h1,rfl,rfl⟩ v y hq
 exact ⟨⟨b,e,h3,h2,fun t ht => h4 t (by rw [h1,hd]; rw [h3] at ht; simp at ht |-; exact .inr ht)⟩,by rw [h3,h1,hd]; simp⟩
theorem En.ls {α : Type} {x y : PS} {v : α} (h : En x) {p : PS -> PR α} (hp : ∀ {e : Tok} {a : List Tok} {x x' : PS},Ends e [e] -> J e [e] a x x' -> LS e [e] a (p x) (p x')) (hq : p x = .ok (v,y)) : En y /\ y.ts.length < x.ts.length:=by
 obtain ⟨a,e,h1,h2,h4⟩:=h
 obtain ⟨b,y',⟨t,d,hd⟩,-,h3⟩:=hp (e:=e) (a:=a) (x:=x) (x':=x) ⟨h2,by simp⟩ ⟨h1,h1,rfl,rfl⟩ v y hq
 exact ⟨⟨b,e,h3.l,h2,fun t ht => h4 t (by rw [h1,hd]; rw [h3.l] at ht; simp at ht |-; exact .inr (.inr ht))⟩,by rw [h3.l,h1,hd]; simp; omega⟩
theorem En.name {x y : PS} {v : List UInt8} (h : En x) (hq : nameQ x = .ok (v,y)) : En y /\ y.ts.length < x.ts.length:=h.ls (p:=nameQ) (fun hE h => zA7 hE h) hq
theorem En.take {x y : PS} {s : List UInt8} (h : En x) (hq : takeQ s x = .ok ((),y)) : En y /\ y.ts.length < x.ts.length:=h.ls (p:=takeQ s) (fun hE h => zCY hE h s) hq
theorem En.typ {x y : PS} {v : D} (h : En x) (hq : typQ x = .ok (v,y)) : En y /\ y.ts.length <= x.ts.length:=h.lo (p:=typQ) (fun hE h => typ_lo hE h) hq
theorem En.value {f lv : Nat} {x y : PS} {v : D} (h : En x) (hq : valueQ f lv x = .ok (v,y)) : En y /\ y.ts.length <= x.ts.length:=h.lo (p:=valueQ f lv) (fun hE h => zCv hE f lv h) hq
theorem En.whole {x y : PS} {v : D} (h : En x) (hq : zAR x = .ok (v,y)) : En y /\ y.ts.length <= x.ts.length:=h.lo (p:=zAR) (fun hE h => zFf hE h) hq
theorem En.args {x y : PS} {v : List D} (h : En x) (hq : argsQ x = .ok (v,y)) : En y /\ y.ts.length <= x.ts.length:=h.lo (p:=argsQ) (fun hE h => zGj hE h) hq
theorem En.dirs {x y : PS} {v : List D} (h : En x) (hq : dirsQ x = .ok (v,y)) : En y /\ y.ts.length <= x.ts.length:=h.lo (p:=dirsQ) (fun hE h => zDL hE h) hq
theorem En.sel {f lv : Nat} {x y : PS} {v : D} (h : En x) (hq : selQ (selsQ f lv) x = .ok (v,y)) : En y /\ y.ts.length <= x.ts.length:=h.lo (p:=selQ (selsQ f lv)) (fun hE h => sel_lo hE (fun h => (zDg hE f lv h).lo) h) hq
theorem En.sels {f lv : Nat} {x y : PS} {v : List D} (h : En x) (hq : selsQ f lv x = .ok (v,y)) : En y /\ y.ts.length < x.ts.length:=h.ls (p:=selsQ f lv) (fun hE h => zDg hE f lv h) hq
theorem En.op {k : Int} {x y : PS} {v : D} (h : En x) (hq : opQ k x = .ok (v,y)) : En y /\ y.ts.length < x.ts.length:=h.ls (p:=opQ k) (fun hE h => op_ls hE k h) hq
theorem En.frag {x y : PS} {v : D} (h : En x) (hq : zA9 x = .ok (v,y)) : En y /\ y.ts.length < x.ts.length:=h.ls (p:=zA9) (fun hE h => frag_ls hE h) hq
theorem En.nx {x : PS} (h : En x) (hk : (hdT x).k ≠ 5) : En (nxT x) /\ (nxT x).ts.length < x.ts.length:=by
 obtain ⟨a,e,h1,h2,h4⟩:=h
 have hJ : J e [e] a x x:=⟨h1,h1,rfl,rfl⟩
 obtain ⟨t,a',rfl,h3⟩:=hJ.ne_of_k (e:=e) (r:=[e]) ⟨h2,by simp⟩ hk
 exact ⟨⟨a',e,h3.l,h2,fun t ht => h4 t (by rw [h1]; rw [h3.l] at ht; simp at ht |-; exact .inr ht)⟩,by rw [h3.l,h1]; simp⟩
theorem En.hd {x : PS} (h : En x) : (hdT x).s.length <= 100000:=by
 obtain ⟨t,r,ht⟩:=h.cons
 obtain ⟨a,e,-,-,h4⟩:=h
 have : hdT x = t:=by unfold hdT; rw [ht]; rfl
 rw [this]
 exact h4 t (by rw [ht]; simp)
theorem En.sg {x : PS} {s : List UInt8} (h : En x) (hk : isS x s = true) : En (nxT x) /\ (nxT x).ts.length < x.ts.length:=by
 refine h.nx ?_
 unfold isS at hk
 simp only [Bool.and_eq_true,beq_iff_eq] at hk
 rw [hk.1]; decide
theorem En.nx0 {x : PS} (h : En x) : En (nxT x):=by
 by_cases hk : (hdT x).k = 5
 . have : nxT x = x:=by unfold nxT; rw [if_pos hk]
   rw [this]; exact h
 . exact (h.nx hk).1
theorem En.valueL {f lv : Nat} {x y : PS} {v : D} (h : En x) (hq : valueQ f lv x = .ok (v,y)) : En y /\ y.ts.length < x.ts.length:=by
 refine ⟨(h.value hq).1,?_⟩
 cases f with
 | zero => cases hq
 | succ f =>
   unfold valueQ at hq
   split at hq
   . cases hq
   . rename_i hno
     have hk : (hdT x).k ≠ 5:=fun hk => hno (by unfold zBt; rw [hk]; rfl)
     have h1:=h.nx hk
     have hy : En ({ nxT x with nd:=x.nd + 1 } : PS):=h1.1
     split at hq
     . cases hq
     split at hq
     . cases hq
     dsimp only at hq
     split at hq
     . cases hq; exact h1.2
     split at hq
     . cases hq; exact h1.2
     split at hq
     . cases hq; exact h1.2
     split at hq
     . have:=(hy.lo (p:=fun x => zX (nameQ x) fun n z => .ok (valD 7 0 n [] [],z)) (fun hE h => .then (zA7 hE h).lo fun _ _ _ _ hz => .okk hz _) hq).2
       exact Nat.lt_of_le_of_lt this h1.2
     split at hq
     . have:=(hy.lo (p:=fun x => zX (itemsQ (valueQ f (lv + 1)) (x.ts.length + 1) [] x) fun l z => .ok (valD 5 0 [] l [],z)) (fun hE h => .then (zGF hE (fun h => zCv hE f (lv + 1) h) _ _ _ (by have:=h.len hE; omega) h).lo fun _ _ _ _ hz => .okk hz _) hq).2
       exact Nat.lt_of_le_of_lt this h1.2
     . have:=(hy.lo (p:=fun x => zX (zy (valueQ f (lv + 1)) (x.ts.length + 1) [] [] x) fun l z => .ok (valD 6 0 [] l.2 l.1,z)) (fun hE h => .then (zEn hE (fun h => zCv hE f (lv + 1) h) _ _ _ _ (by have:=h.len hE; omega) h).lo fun _ _ _ _ hz => .okk hz _) hq).2
       exact Nat.lt_of_le_of_lt this h1.2
theorem zAn {x : PS} {t : Tok} {r : List Tok} (h : x.ts = t :: r) : hdT x = t:=by unfold hdT; rw [h]; rfl
end Go.Proofs.YthjiclhfhjdjpaaGreatDoor
