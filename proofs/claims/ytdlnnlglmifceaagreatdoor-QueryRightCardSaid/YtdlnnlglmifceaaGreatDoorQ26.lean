import Derived.Lib.OthersKept
import Derived.Test.YtdlnnlglmifceaaGreatDoorQ25
set_option maxHeartbeats 8000000
set_option maxRecDepth 100000
set_option linter.unusedVariables false
set_option linter.unusedSimpArgs false
namespace Go.Proofs.YtdlnnlglmifceaaGreatDoor
open Go.RowKit
attribute [local irreducible] wpList Calls Code.wp
def hexIx (g : UInt8) : Int:=Lib.indexByte [48,49,50,51,52,53,54,55,56,57,97,98,99,100,101,102] (bits BinOp.or IntKind.u8 (g.toNat : Int) 32).toNat.toUInt8
def ixOk (g : UInt8) : Bool:=match valU g with
 | some d => decide (hexIx g = (d : Int)) && decide (48 <= g.toNat) && decide (g.toNat <= 57 \/ 65 <= g.toNat)
 | none => decide (-1 <= hexIx g) && decide (hexIx g <= 15) && decide (hexIx g < 0 \/ g.toNat < 48 \/ 57 < g.toNat /\ g.toNat < 65)
theorem ix_ok (g : UInt8) : ixOk g = true:=zIX (p:=fun g => ixOk g = true) (by decide +kernel) g
theorem ix_some {g : UInt8} {d : Nat} (h : valU g = some d) : hexIx g = (d : Int) /\ 48 <= g.toNat /\ (g.toNat <= 57 \/ 65 <= g.toNat):=by
 have:=ix_ok g
 unfold ixOk at this
 rw [h] at this
 simp only [Bool.and_eq_true,decide_eq_true_eq] at this
 exact ⟨this.1.1,this.1.2,this.2⟩
theorem ix_none {g : UInt8} (h : valU g = none) : -1 <= hexIx g /\ hexIx g <= 15 /\ (hexIx g < 0 \/ g.toNat < 48 \/ 57 < g.toNat /\ g.toNat < 65):=by
 have:=ix_ok g
 unfold ixOk at this
 rw [h] at this
 simp only [Bool.and_eq_true,decide_eq_true_eq] at this
 exact ⟨this.1.1,this.1.2,this.2⟩
theorem zCg {T e : TypeId} {B b : Nat} {p : Value} {bs : List Value} {w w' : World} (h : Lib.BuilderAtF T e B b p bs w) (hb : Below w.heap.size w w') : Lib.BuilderAtF T e B b p bs w':=by
 obtain ⟨hB,v,h1,hown,hne⟩:=h
 have old : ∀ k o,w.heap[k]? = some o -> w'.heap[k]? = some o:=fun k o hk => by
  have hl : k < w.heap.size:=by
   rcases Nat.lt_or_ge k w.heap.size with h' | h'
   . exact h'
   . rw [Array.getElem?_eq_none h'] at hk; cases hk
  rw [hb.block k hl]; exact hk
 refine ⟨hB,v,old _ _ h1,⟨hown.1,?_⟩,hne⟩
 rcases hown.2 with hn | ⟨g,cap,cur,fz,hv,hbg,hg,rest⟩
 . exact .inl hn
 . exact .inr ⟨g,cap,cur,fz,hv,hbg,old _ _ hg,rest⟩
theorem isB_keep {B b : Nat} {bs : List Value} {w w' : World} (h : IsB B b bs w) (hb : Below w.heap.size w w') : IsB B b bs w':=
 h.elim (fun x => .inl (zCg x hb)) (fun x => .inr (zCg x hb))
theorem unquoteP (s : ByteArray) (w : World) (hs : s.size <= 100000) : Calls Tryz.prog 115 #[.string s] w (Uq (unquoteU s.data.toList) w):=by
 by_cases hlen : s.size < 2
 . have Hno:=Lib.hid (zGp (s:=s) (fun h => by omega))
   have q0 : decide ((s.size : Int) < 2) = true:=decide_eq_true (by omega)
   go_enter Tryz.func115,Tryz.ntmps115
   go_wp2
   go_ret2
   exact ⟨by rw [Hno.out]; rfl,Below.refl _ _⟩
 have q0 : decide ((s.size : Int) < 2) = false:=decide_eq_false (by omega)
 have i0 : (0 : Int) < (s.size : Int):=by omega
 have hb0:=zFr (show 0 < s.size by omega)
 have hr0:=zBz s 0
 by_cases h0 : bV s 0 = 34
 case neg =>
  have Hno:=Lib.hid (zGp (s:=s) (fun h => h0 h.2.1))
  have q1 : (bV s 0 == 34) = false:=beq_false_of_ne h0
  generalize bV s 0 = v0 at *
  go_enter Tryz.func115,Tryz.ntmps115
  go_wp2
  go_ret2
  exact ⟨by rw [Hno.out]; rfl,Below.refl _ _⟩
 have hbz:=zFr (show s.size - 1 < s.size by omega)
 have hrz:=zBz s (s.size - 1)
 by_cases hz : bV s (s.size - 1) = 34
 case neg =>
  have Hno:=Lib.hid (zGp (s:=s) (fun h => hz h.2.2))
  have q1 : (bV s (s.size - 1) == 34) = false:=beq_false_of_ne hz
  rw [h0] at hb0
  generalize bV s (s.size - 1) = v1 at *
  go_enter Tryz.func115,Tryz.ntmps115
  go_wp2
  go_ret2
  exact ⟨by rw [Hno.out]; rfl,Below.refl _ _⟩
 have Hu:=Lib.hid (unq_of (by omega) h0 hz)
 rw [h0] at hb0
 rw [hz] at hbz
 clear h0 hz hr0 hrz
 have hdz : (s.extract 1 (s.size - 1)).size <= 100000:=by rw [mid_bs,zAL]; simp; omega
 obtain ⟨d,hd⟩ : ∃ d,s.extract 1 (s.size - 1) = d:=⟨_,rfl⟩
 rw [hd] at Hu hdz
 go_enter Tryz.func115,Tryz.ntmps115
 go_wp2
 clear hb0 hbz i0 q0
 have h0:=Lib.IsBuilderF.of (Lib.fresh_isBuilder 114 5 w)
 have H0:=Lib.hid h0
 clear h0
 go_loopg [5] d.size (fun j i wr => ∃ (m : Nat) (acc : List UInt8),m + j = d.size /\ i = .int .i64 m /\ acc.length <= m /\ unqU d.data.toList = (unqU (d.data.toList.drop m)).map (acc ++ ·) /\ Below w.heap.size w wr /\ IsB w.heap.size w.heap.size (Lib.byteCells acc) wr)
 case atStart => exact ⟨0,[],by omega,rfl,by simp,by simp,(Below.refl _ _).alloc (Nat.le_refl _) _,H0.out⟩
 case round =>
  obtain ⟨x,acc,hmj,rfl,hac,hun,hb,hI⟩:=hrel
  have Hmj:=Lib.hid hmj; have hmn : x <= d.size:=by omega
  have Hun:=Lib.hid hun
  have Hb:=Lib.hid hb
  have HI:=Lib.hid hI
  have hal : acc.length <= 100000:=by omega
  have Hac:=Lib.hid hac
  clear hmj hun hb hac hI H0
  by_cases hlt : x < d.size
  . have hxi : (x : Int) < (d.size : Int):=by omega
    have hb:=zFr hlt
    rw [bV_bC] at hb
    have HL:=Lib.hid (zHH hlt)
    have hc256:=(bC d x).toNat_lt
    generalize bC d x = c at *
    obtain ⟨v,hv⟩ : ∃ v : Int,(c.toNat : Int) = v:=⟨_,rfl⟩
    rw [hv] at hb
    by_cases hbad : c.toNat < 32 \/ 126 < c.toNat \/ c = 34
    . have Hno:=Lib.hid (Hu.out.trans (zCR Hun.out (by rw [HL.out]; exact unqU_bad hbad)))
      have hbv : v < 32 \/ 126 < v \/ v = 34:=by
       rcases hbad with h | h | h
       . exact .inl (by omega)
       . exact .inr (.inl (by omega))
       . exact .inr (.inr (by rw [<- hv,h]; rfl))
      clear hbad hv
      rcases hbv with h | h | h
      . go_wp2
        go_ret2
        exact ⟨by rw [Hno.out]; rfl,Hb.out⟩
      . go_wp2
        all_goals first
         | (exfalso; omega)
         | (go_ret2
            exact ⟨by rw [Hno.out]; rfl,Hb.out⟩)
      . subst h
        go_wp2
        go_ret2
        exact ⟨by rw [Hno.out]; rfl,Hb.out⟩
    have hc34 : v ≠ 34:=by
     rw [<- hv]
     exact zDz (n:=34) (by omega) (fun e => hbad (.inr (.inr e)))
    have f1 : decide (v < 32) = false:=decide_eq_false (by omega)
    have f1' : ¬ v < 32:=by omega
    have f2 : decide (v > 126) = false:=decide_eq_false (by omega)
    have f3 : (v == 34) = false:=beq_false_of_ne hc34
    by_cases h92 : c = 92
    case neg =>
     have q92 : (v == 92) = false:=beq_false_of_ne (by rw [<- hv]; exact zDz (n:=92) (by omega) h92)
     have Hst:=Lib.hid (zFP (m':=x + 1) Hun.out (by rw [HL.out]; exact unqU_plain hbad h92))
     have Hv:=Lib.hid hv
     clear hbad hv h92
     go_wp2_with fail
     refine (wB w.heap.size w.heap.size acc c v _ Hv.out.symm HI.out (by omega) Hb.out.size).mono ?_
     rintro e2 w2 ⟨rfl,h2,hb2⟩
     have H2:=Lib.hid h2
     have Hb2:=Lib.hid (Hb.out.trans hb2)
     clear h2 hb2
     go_wp2
     go_roundg (gk - 1)
     case measure => have:=Hmj.out; omega
     case rel => exact ⟨x + 1,acc ++ [c],by have:=Hmj.out; omega,by go_num,by have:=Hac.out; simp; omega,Hst.out,Hb2.out,H2.out⟩
    subst h92
    obtain rfl : v = 92:=by rw [<- hv]; rfl
    clear hbad hv hc34 f1 f1' f2 f3 hc256
    by_cases hlt1 : x + 1 < d.size
    case neg =>
     have Hno:=Lib.hid (Hu.out.trans (zCR Hun.out (by rw [HL.out,List.drop_of_length_le (by simp; omega)]; exact unqU_last)))
     have q1 : ((x : Int) + 1 == (d.size : Int)) = true:=by rw [beq_iff_eq]; omega
     go_wp2
     go_ret2
     exact ⟨by rw [Hno.out]; rfl,Hb.out⟩
    have q1 : ((x : Int) + 1 == (d.size : Int)) = false:=beq_false_of_ne (by omega)
    have hxi1 : (x : Int) + 1 < (d.size : Int):=by omega
    have hb1:=zFr hlt1
    rw [bV_bC] at hb1
    have HL1:=Lib.hid (HL.out.trans (by rw [zHH hlt1]))
    clear HL
    have HS:=Lib.hid (plainP (bC d (x + 1)) _ rfl wr)
    unfold Sm at HS
    generalize bC d (x + 1) = e at *
    cases hsim : simU e with
    | some y =>
      rw [hsim] at HS
      unfold simV at HS
      have Hst:=Lib.hid (zFP (m':=x + 2) Hun.out (by rw [HL1.out]; exact unqU_sim hsim))
      clear hsim
      generalize (e.toNat : Int) = ev at *
      go_wp2_with fail
      refine HS.out.mono ?_
      rintro e2 w2 ⟨rfl,rfl⟩
      go_wp2_with fail
      refine (wB w.heap.size w.heap.size acc y (y.toNat : Int) _ rfl HI.out (by omega) Hb.out.size).mono ?_
      rintro e2 w2 ⟨rfl,h2,hb2⟩
      have H2:=Lib.hid h2
      have Hb2:=Lib.hid (Hb.out.trans hb2)
      clear h2 hb2
      go_wp2
      go_roundg (gk - 2)
      case measure => have:=Hmj.out; omega
      case rel => exact ⟨x + 2,acc ++ [y],by have:=Hmj.out; omega,by go_num,by have:=Hac.out; simp; omega,Hst.out,Hb2.out,H2.out⟩
    | none =>
      rw [hsim] at HS
      unfold simV at HS
      have hrl : (d.data.toList.drop (x + 1 + 1)).length = d.size - (x + 2):=by simp
      by_cases h117 : e = 117
      case neg =>
       have q117 : ((e.toNat : Int) == 117) = false:=beq_false_of_ne (zDz (n:=117) (by omega) h117)
       have Hno:=Lib.hid (Hu.out.trans (zCR Hun.out (by rw [HL1.out]; exact unqU_no hsim (.inl h117))))
       clear hsim h117
       have n117 : ¬ (e.toNat : Int) = 117:=by simpa using q117
       generalize (e.toNat : Int) = ev at *
       go_wp2_with fail
       refine HS.out.mono ?_
       rintro e2 w2 ⟨rfl,rfl⟩
       go_wp2
       all_goals first
        | (exfalso; omega)
        | (go_ret2
           exact ⟨by rw [Hno.out]; rfl,Hb.out⟩)
      have he : (e.toNat : Int) = 117:=by rw [h117]; rfl
      rw [he] at hb1 HS
      by_cases hfit : x + 6 <= d.size
      case neg =>
       have q6 : decide ((x : Int) + 1 + 4 >= (d.size : Int)) = true:=decide_eq_true (by omega)
       have Hno:=Lib.hid (Hu.out.trans (zCR Hun.out (by rw [HL1.out]; exact unqU_no hsim (.inr (by rw [hrl]; omega)))))
       clear hsim h117 he
       go_wp2_with fail
       refine HS.out.mono ?_
       rintro e2 w2 ⟨rfl,rfl⟩
       go_wp2
       go_ret2
       exact ⟨by rw [Hno.out]; rfl,Hb.out⟩
      have q6 : decide ((x : Int) + 1 + 4 >= (d.size : Int)) = false:=decide_eq_false (by omega)
      have HL2 : d.data.toList.drop x = 92 :: 117 :: d.data.toList.drop (x + 1 + 1):=by rw [HL1.out,h117]
      have Hcode:=Lib.hid ((congrArg unqU HL2).trans (unqU_code (by rw [hrl]; omega)))
      clear HL2
      have hksz : (d.extract (x + 2) (x + 6)).size = 4:=by rw [ByteArray.size_extract]; omega
      have Hcl:=Lib.hid (cut_list d x)
      obtain ⟨k,hk⟩ : ∃ k,d.extract (x + 2) (x + 6) = k:=⟨_,rfl⟩
      have hk' : d.extract (x + 1 + 1) (x + 1 + 5) = k:=hk
      rw [hk] at hksz Hcl
      have Hd4:=Lib.hid (show (d.data.toList.drop (x + 1 + 1)).drop 4 = d.data.toList.drop (x + 6) by rw [List.drop_drop])
      clear hsim h117 he
      go_wp2_with fail
      have hcv:=Lib.run_convert_string_bytes (P:=Tryz.prog) wr 9 112 5 k Tryz.underlying9 Tryz.underlying112 Tryz.underlying5
      obtain ⟨W2,hW2⟩ : ∃ W2,Lib.bytesWorld wr 5 k = W2:=⟨_,rfl⟩
      have hcell : ∀ j : Nat,j < 4 -> W2.cell? ⟨wr.heap.size,j,none⟩ = some (.int .u8 ((bC k j).toNat : Int)):=fun j hj => by rw [<- hW2]; exact Lib.bytesWorld_cell wr 5 k j (by omega)
      have hbl : Below wr.heap.size wr W2:=by rw [<- hW2]; exact Lib.bytesWorld_below _ _ _
      have HI2:=Lib.hid (isB_keep HI.out hbl)
      have Hb2:=Lib.hid (Hb.out.trans (hbl.mono Hb.out.size))
      have Hcell:=Lib.hid hcell
      rw [hW2,hksz] at hcv
      clear hW2 hbl hcell
      generalize grownCap wr 4 0 5 = cp at hcv
      obtain ⟨bk,hbk⟩ : ∃ bk,wr.heap.size = bk:=⟨_,rfl⟩
      rw [hbk] at hcv Hcell
      clear hbk
      refine HS.out.mono ?_
      rintro e2 w2 ⟨rfl,rfl⟩
      go_wp2
      go_loopg [9,92] 4 (fun j n i wr2 => ∃ m u : Nat,m + j = 4 /\ i = .int .i64 m /\ n = .int .i64 u /\ u < 16 ^ m /\ codeFrom 0 k.data.toList = codeFrom u (k.data.toList.drop m) /\ wr2 = W2)
      case atStart => exact ⟨0,0,by omega,rfl,rfl,by simp,rfl,rfl⟩
      case round =>
       obtain ⟨z,u,hzj,rfl,rfl,hu,hc,rfl⟩:=hrel
       clear hk hk'
       have Hzj:=Lib.hid hzj; have hzn : z <= 4:=by omega
       clear hzj
       have Hc:=Lib.hid hc
       clear hc
       by_cases hz4 : z < 4
       . have hu2 : u < 65536:=Nat.lt_of_lt_of_le hu (Nat.pow_le_pow_right (by omega) (by omega : z <= 4))
         have Hu16:=Lib.hid hu
         clear hu
         have hzi : (z : Int) < 4:=by omega
         have hcl:=Hcell.out z hz4
         have Hdr:=Lib.hid (zHH (s:=k) (x:=z) (by omega))
         generalize bC k z = g at *
         have HIx:=Lib.hid (Tryz.strings_IndexByte ⟨#[48,49,50,51,52,53,54,55,56,57,97,98,99,100,101,102]⟩ (bits BinOp.or IntKind.u8 (g.toNat : Int) 32) wr)
         rw [show Lib.indexByte (⟨#[48,49,50,51,52,53,54,55,56,57,97,98,99,100,101,102]⟩ : ByteArray).data.toList (bits BinOp.or IntKind.u8 (g.toNat : Int) 32).toNat.toUInt8 = hexIx g from rfl] at HIx
         cases hval : valU g with
         | some dd =>
           have hd16:=val_lt hval
           obtain ⟨j1,j2,j3⟩:=ix_some hval
           rw [j1] at HIx
           have Hok:=Lib.hid (show codeFrom 0 k.data.toList = codeFrom (16 * u + dd) (k.data.toList.drop (z + 1)) by rw [Hc.out,Hdr.out,code_some hval])
           clear hval j1
           have g0 : decide ((dd : Int) < 0) = false:=decide_eq_false (by omega)
           have g0' : ¬ (dd : Int) < 0:=by omega
           have g48 : decide ((g.toNat : Int) < 48) = false:=decide_eq_false (by omega)
           have g48' : ¬ (g.toNat : Int) < 48:=by omega
           go_wp2_with fail
           refine HIx.out.mono ?_
           rintro e2 w3 ⟨rfl,rfl⟩
           rcases j3 with j3 | j3
           . have g57 : decide ((g.toNat : Int) > 57) = false:=decide_eq_false (by omega)
             go_wp2
             all_goals first
              | (exfalso; omega)
              | (go_roundg (gk - 1)
                 case measure => have:=Hzj.out; omega
                 case rel => exact ⟨z + 1,16 * u + dd,by have:=Hzj.out; omega,by go_num,by go_num,by have:=Hu16.out; rw [Nat.pow_succ]; omega,Hok.out,rfl⟩)
           . have g65 : decide ((g.toNat : Int) < 65) = false:=decide_eq_false (by omega)
             rcases Nat.lt_or_ge 57 g.toNat with j4 | j4
             . have g57 : decide ((g.toNat : Int) > 57) = true:=decide_eq_true (by omega)
               go_wp2
               all_goals first
                | (exfalso; omega)
                | (go_roundg (gk - 1)
                   case measure => have:=Hzj.out; omega
                   case rel => exact ⟨z + 1,16 * u + dd,by have:=Hzj.out; omega,by go_num,by go_num,by have:=Hu16.out; rw [Nat.pow_succ]; omega,Hok.out,rfl⟩)
             . exfalso; omega
         | none =>
           obtain ⟨j1,j2,j3⟩:=ix_none hval
           have Hcn:=Lib.hid (show codeFrom 0 k.data.toList = none by rw [Hc.out,Hdr.out,code_none hval])
           have Hno:=Lib.hid (Hu.out.trans (zCR Hun.out (Hcode.out.trans (by rw [show (d.data.toList.drop (x + 1 + 1)).take 4 = k.data.toList from Hcl.out.symm,Hcn.out]))))
           clear hval
           obtain ⟨ix,hix⟩ : ∃ ix,hexIx g = ix:=⟨_,rfl⟩
           rw [hix] at HIx j1 j2 j3
           clear hix
           go_wp2_with fail
           refine HIx.out.mono ?_
           rintro e2 w3 ⟨rfl,rfl⟩
           rcases Int.lt_or_le ix 0 with h | h
           . have g0 : decide (ix < 0) = true:=decide_eq_true h
             go_wp2
             all_goals first
              | (exfalso; omega)
              | (go_ret2
                 exact ⟨by rw [Hno.out]; rfl,Hb2.out⟩)
           . have g0 : decide (ix < 0) = false:=decide_eq_false (by omega)
             have g0' : ¬ ix < 0:=by omega
             rcases Nat.lt_or_ge g.toNat 48 with h' | h'
             . have g48 : decide ((g.toNat : Int) < 48) = true:=decide_eq_true (by omega)
               go_wp2
               all_goals first
                | (exfalso; omega)
                | (go_ret2
                   exact ⟨by rw [Hno.out]; rfl,Hb2.out⟩)
             . have g48 : decide ((g.toNat : Int) < 48) = false:=decide_eq_false (by omega)
               have g48' : ¬ (g.toNat : Int) < 48:=by omega
               have g57 : decide ((g.toNat : Int) > 57) = true:=decide_eq_true (by omega)
               have g65 : decide ((g.toNat : Int) < 65) = true:=decide_eq_true (by omega)
               go_wp2
               all_goals first
                | (exfalso; omega)
                | (go_ret2
                   exact ⟨by rw [Hno.out]; rfl,Hb2.out⟩)
       . obtain rfl : z = 4:=by omega
         have Hfin:=Lib.hid (show codeFrom 0 k.data.toList = some u by
          rw [Hc.out,List.drop_of_length_le (by simp; omega)]; rfl)
         clear hu
         have Hcode2:=Lib.hid (Hcode.out.trans (by rw [show (d.data.toList.drop (x + 1 + 1)).take 4 = k.data.toList from Hcl.out.symm,Hfin.out]))
         by_cases hn : u <= 255
         case neg =>
          have n255 : decide ((u : Int) > 255) = true:=decide_eq_true (by omega)
          have Hno:=Lib.hid (Hu.out.trans (zCR Hun.out (Hcode2.out.trans (if_neg hn))))
          go_wp2
          go_ret2
          exact ⟨by rw [Hno.out]; rfl,Hb2.out⟩
         have n255 : decide ((u : Int) > 255) = false:=decide_eq_false (by omega)
         have Hst:=Lib.hid (zFP (m':=x + 6) Hun.out (by rw [<- Hd4.out]; exact Hcode2.out.trans (if_pos hn)))
         have hon : (u : Int) = ((UInt8.ofNat u).toNat : Int):=by simp; omega
         have Hon:=Lib.hid hon
         clear hon
         go_wp2_with fail
         refine (wB w.heap.size w.heap.size acc (UInt8.ofNat u) (u : Int) _ Hon.out HI2.out (by omega) Hb2.out.size).mono ?_
         rintro e2 w3 ⟨rfl,h3,hb3⟩
         have H3:=Lib.hid h3
         have Hb3:=Lib.hid (Hb2.out.trans hb3)
         clear h3 hb3
         go_wp2
         go_roundg (d.size - (x + 6))
         case measure => have:=Hmj.out; omega
         case rel => exact ⟨x + 6,acc ++ [UInt8.ofNat u],by have:=Hmj.out; omega,by go_num,by have:=Hac.out; simp; omega,Hst.out,Hb3.out,H3.out⟩
  . obtain rfl : x = d.size:=by omega
    have Hfin:=Lib.hid (Hu.out.trans (unq_end Hun.out (by simp)))
    go_wp2_with fail
    refine (Tryz.Builder_String_any_k w.heap.size w.heap.size acc _ HI.out Hb.out.size).mono ?_
    rintro e w2 ⟨rfl,_,hb2,_⟩
    have Hb2:=Lib.hid (Hb.out.trans hb2)
    clear hb2
    have Ha:=Lib.hid (show uqV (some acc) = .tuple #[.string (bs acc),.int .i64 0] from rfl)
    go_wp2
    go_ret2
    exact ⟨by rw [Hfin.out,Ha.out]; rfl,Hb2.out⟩
def EN5 : Ge where
 G:=max (1 + 1) (max (3 + 1) (2 + 1))
 E:=fun w => Env w /\ max (1 + 1) (max (3 + 1) (2 + 1)) <= w.heap.size
 stays w w' h hs:=by
  obtain ⟨⟨h1,⟨tp,p,h2⟩,⟨tp',p',h3⟩⟩,h4⟩:=h
  refine ⟨⟨zCq (g:=1) (by kernel_rfl) (by omega) h1 hs,⟨tp,p,zCq (g:=3) (by kernel_rfl) (by omega) h2 hs⟩,⟨tp',p',zCq (g:=2) (by kernel_rfl) (by omega) h3 hs⟩⟩,?_⟩
  generalize hg : max (1 + 1) (max (3 + 1) (2 + 1)) = g at hs h4 |-
  have hg0 : 0 < g:=by omega
  have h5:=hs (g - 1) (by omega)
  have h6 : w.heap[g - 1]? = some w.heap[g - 1]:=Array.getElem?_eq_getElem (by omega)
  have h7:=(Array.getElem?_eq_some_iff.1 (h5.trans h6)).1
  omega
 le w h:=h.2
theorem en5_en {w : World} (h : EN5.E w) : EN.E w:=h.1.1
theorem EN5_G : EN.G <= EN5.G:=by show 1 + 1 <= max _ _; omega
theorem AC.five {f : FuncId} {args : List V} {r : V} (h : AC EN Tryz.prog f args r) : AC EN5 Tryz.prog f args r:=fun s w us hus hfx he => h s w us hus hfx (en5_en he)
theorem ACB.five {f : FuncId} {args : List V} {bs bs' : List Res} {r : V} (h : ACB EN Tryz.prog f args bs r bs') : ACB EN5 Tryz.prog f args bs r bs':=fun pas s w us hus hm he hp => h pas s w us hus hm (en5_en he) fun k hk => hp k (Nat.lt_of_lt_of_le hk EN5_G)
theorem zDB {f : FuncId} {args : List V} {r : V} {u : Value} (h : ∀ s w us,relL Tryz.prog s w args us.toList -> Env w -> (∀ s' w',rel Tryz.prog s' w' r u) /\ Calls Tryz.prog f us w fun e w' => e = .returned u /\ Below w.heap.size w w') : AC EN5 Tryz.prog f args r:=by
 intro s w us hus hfx he
 obtain ⟨hr,hc⟩:=h s w us hus he.1
 refine hc.mono ?_
 rintro e w' ⟨rfl,hb⟩
 have hc : ∀ b o,s.F b o -> w'.cell? ⟨b,o,none⟩ = w.cell? ⟨b,o,none⟩:=fun b o hF => by
  obtain ⟨x,hx⟩:=Option.isSome_iff_exists.1 (hfx b o hF)
  exact hb.cell (p:=⟨b,o,none⟩) (block_lt_of_cell hx)
 exact ⟨u,s.F,rfl,Frm.of_below hb,fun b o hF => ⟨hc b o hF,hF⟩,fun b o hF => by rw [hc b o hF]; exact hfx b o hF,fun _ _ _ h => h,hr _ _⟩
theorem zHi {P : Program} {s : Sg} {w : World} {v v2 : V} {u u2 : Value} (h : rel P s w v u) (h2 : rel P s w v2 u2) : rel P s w (.tup [v,v2]) (.tuple #[u,u2]):=by
 rw [rel]; exact ⟨_,rfl,by simp only [relL]; exact ⟨h,h2,trivial⟩⟩
theorem zFZ {P : Program} {s : Sg} {w : World} {n : Int} (h : -9223372036854775808 <= n /\ n <= 9223372036854775807) : rel P s w (.c (.int .i64 n)) (.int .i64 n):=by rw [rel]; exact ⟨rfl,zB2.2 h⟩
theorem rel_str {P : Program} {s : Sg} {w : World} {x : ByteArray} (h : x.size <= maxLen) : rel P s w (.c (.string x)) (.string x):=by rw [rel]; exact ⟨rfl,h⟩
theorem zD3 {P : Program} {s : Sg} {w : World} {x : ByteArray} {us : Array Value} (h : relL P s w [.c (.string x)] us.toList) : us = #[.string x] /\ x.size <= maxLen:=by
 obtain ⟨u,rfl,h1⟩:=zG1 h
 rw [rel] at h1
 exact ⟨by rw [h1.1],h1.2⟩
theorem numQ_range {l : List UInt8} : -9223372036854775808 <= numQ l /\ numQ l <= 9223372036854775807:=by
 unfold numQ
 cases h : numU l with
 | ok n => exact (itoa_num h).2
 | range => decide
 | _ => decide
theorem nerU_cases (r : Lib.NumEnd Int) : nerU r = 0 \/ nerU r = 3 \/ nerU r = 4:=by cases r <;> simp [nerU]
theorem numT_Q (l : List UInt8) : numT (numU l) = .tuple #[.int .i64 (numQ l),.int .i64 (nerU (numU l))]:=by
 unfold numQ
 cases numU l <;> rfl
def numVV (l : List UInt8) : V:=.tup [.c (.int .i64 (numQ l)),.c (.int .i64 (nerU (numU l)))]
theorem num_rel {P : Program} {s : Sg} {w : World} (l : List UInt8) : rel P s w (numVV l) (numT (numU l)):=by
 rw [numT_Q]
 exact zHi (zFZ numQ_range) (zFZ (by rcases nerU_cases (numU l) with h | h | h <;> rw [h] <;> decide))
theorem zE0 (s : ByteArray) (hs : s.size <= 281474976710656) : AC EN5 Tryz.prog 113 [.c (.string s)] (numVV (tx s)):=by
 refine zDB (u:=numT (numU (tx s))) fun σ w us hus he => ?_
 obtain ⟨rfl,-⟩:=zD3 hus
 exact ⟨fun s' w' => num_rel _,numberP s w he hs⟩
def uqE : Option (List UInt8) -> Int
 | some _ => 0
 | none => 3
def uqVV (l : List UInt8) : V:=.tup [.c (.string (bs ((unquoteU l).getD []))),.c (.int .i64 (uqE (unquoteU l)))]
theorem uqV_E (r : Option (List UInt8)) : uqV r = .tuple #[.string (bs (r.getD [])),.int .i64 (uqE r)]:=by
 cases r <;> rfl
theorem unq_len (l : List UInt8) : ((unquoteU l).getD []).length <= l.length:=by
 have key : ∀ (k : Nat) (l : List UInt8),((unqF k l).getD []).length <= l.length:=by
  intro k
  induction k with
  | zero => intro l; cases l <;> simp [unqF]
  | succ k ih =>
    intro l
    cases l with
    | nil => simp [unqF]
    | cons c r =>
      show ((stpU (unqF k) c r).getD []).length <= _
      have hm : ∀ (q : List UInt8) (x : UInt8),q.length <= r.length -> (((unqF k q).map (x :: ·)).getD []).length <= (c :: r).length:=fun q x hq => by
       have:=ih q
       cases hx : unqF k q with
       | none => simp
       | some u => rw [hx] at this; simp at this |-; omega
      unfold stpU
      by_cases h1 : c.toNat < 32 \/ 126 < c.toNat \/ c = 34
      . rw [if_pos h1]; simp
      rw [if_neg h1]
      by_cases h2 : c ≠ 92
      . rw [if_pos h2]; exact hm r c (Nat.le_refl _)
      rw [if_neg h2]
      cases r with
      | nil => simp
      | cons d q =>
        dsimp only
        cases simU d with
        | some x => exact hm q x (by simp)
        | none =>
          dsimp only
          by_cases h3 : d ≠ 117 \/ q.length < 4
          . rw [if_pos h3]; simp
          rw [if_neg h3]
          cases codeFrom 0 (q.take 4) with
          | none => simp
          | some n =>
            dsimp only
            by_cases h4 : n <= 255
            . rw [if_pos h4]; exact hm (q.drop 4) _ (by simp; omega)
            . rw [if_neg h4]; simp
 unfold unquoteU
 split
 . have:=key ((l.drop 1).take (l.length - 2)).length ((l.drop 1).take (l.length - 2))
   have h2 : ((l.drop 1).take (l.length - 2)).length <= l.length:=by rw [List.length_take,List.length_drop]; omega
   exact Nat.le_trans this h2
 . simp
theorem unq_ok {s : ByteArray} (hs : s.size <= 100000) {P : Program} {σ : Sg} {w : World} : rel P σ w (uqVV (tx s)) (uqV (unquoteU (tx s))):=by
 rw [uqV_E]
 refine zHi (rel_str ?_) (zFZ ?_)
 . have h1:=unq_len (tx s)
   have h2:=tx_len s
   rw [zAL]; unfold maxLen; omega
 . cases unquoteU (tx s) with
   | none => exact ⟨by decide,by decide⟩
   | some _ => exact (⟨by decide,by decide⟩ : (-9223372036854775808 : Int) <= 0 /\ (0 : Int) <= 9223372036854775807)
theorem zGo (s : ByteArray) (hs : s.size <= 100000) : AC EN5 Tryz.prog 115 [.c (.string s)] (uqVV (tx s)):=by
 refine zDB (u:=uqV (unquoteU (tx s))) fun σ w us hus he => ?_
 obtain ⟨rfl,-⟩:=zD3 hus
 exact ⟨fun s' w' => unq_ok hs,unquoteP s w hs⟩
end Go.Proofs.YtdlnnlglmifceaaGreatDoor
namespace Go.Proofs.YtdlnnlglmifceaaGreatDoor
open Go.RowKit
attribute [local irreducible] wpList Calls Code.wp AW AWo OpOk seqK zAP zAR loopK endK AC zy Yld Sub
attribute [local irreducible] ACB ACX ACE absLexG YldG
def tokD (t : Tok) : D:=.obj [.int t.k,.str (bs t.s),.int (t.i : Int)]
def tokC (t : Tok) : List V:=[.c (.int .i64 t.k),.c (.string (bs t.s)),.c (.int .i64 (t.i : Int))]
def zv (x : PS) : List V:=[.sl 134 (x.ts.map tokD),.c (.bool x.vr),.c (.int .i64 (x.nd : Int))]
theorem zY (φ : Nat -> Option Nat) (x : PS) : renL φ (zv x) = zv x:=rfl
def boxP (x : PS) : Res:=.box 99 (zv x)
theorem zAD (x : PS) : zv x = zv x:=rfl
theorem etaP1 (l : List Tok) (v : Bool) (n : Nat) : [V.sl 134 (l.map tokD),.c (.bool v),.c (.int .i64 (n : Int))] = zv ⟨l,v,n⟩:=rfl
def probP (e : Nat × Int) : Value:=.iface 96 (.agg #[.int .i64 (e.1 : Int),.int .i64 e.2])
def outQ {α : Type} (toV : α -> V) (r : PR α) : Out:=outP 99 zv toV probP r
theorem tok_cells (t : Tok) : cellsV Tryz.prog 12 134 (tokD t) = tokC t:=by rfl
theorem zBf (t : Tok) (r : List Tok) : 0 <= (0 : Int) /\ (0 : Int) < ((List.map tokD (t :: r)).length : Int):=⟨Int.le_refl _,by show (0 : Int) < (((r.map tokD).length + 1 : Nat) : Int); omega⟩
theorem zHd (x : PS) (t : Tok) (r : List Tok) (h : x.ts = t :: r) (s : List UInt8) : ACB EN5 Tryz.prog 76 [.bx (pn 0) 0,.c (.string (bs s))] [boxP x] (.c (.bool (isS x s))) [boxP x]:=by
 obtain ⟨ts,vr,nd⟩:=x
 cases h
 have e : isS ⟨t :: r,vr,nd⟩ s = (t.k == 1 && (bs t.s).toList == (bs s).toList):=by
  unfold isS hdT
  rw [Lib.toList_data,Lib.toList_data,zA2,zA2]
  rfl
 rw [e]
 refine zAM (fn:=Tryz.f76) 24 Tryz.func76 rfl rfl ?_
 intro pas w0 w he hp
 repeat' (first
|apply s_wanted_pick_t rfl rfl rfl
 . conv => lhs; whnf
 . first | rfl | assumption
 . conv => lhs; whnf
 . first | exact bT1 ‹_› | exact bT2 ‹_› | rfl
|apply zq rfl rfl rfl
 . conv => lhs; whnf
 . first | rfl | assumption
 . conv => lhs; whnf
 . first | exact bT1 ‹_› | exact bT2 ‹_› | rfl
|apply s_wanted_pick_f rfl rfl rfl
 . conv => lhs; whnf
 . first | rfl | assumption
 . conv => lhs; whnf
 . first | exact bF1 ‹_› | exact bF2 ‹_› | rfl
|apply zu rfl rfl rfl
 . conv => lhs; whnf
 . first | rfl | assumption
 . conv => lhs; whnf
 . first | exact bF1 ‹_› | exact bF2 ‹_› | rfl
|refine zA ?_
|refine zI ?_
|refine zb ?_
|refine zU ?_
|refine za ?_
|apply aw_1
 conv => whnf
 refine ⟨?_,trivial⟩
|apply zg rfl rfl
 . conv => lhs; whnf
 . conv => lhs; whnf
 . first | exact bT1 ‹_› | exact bT2 ‹_›
|apply ze rfl rfl
 . conv => lhs; whnf
 . conv => lhs; whnf
 . first | exact bF1 ‹_› | exact bF2 ‹_›
|apply s_1
 conv => whnf; arg 1; arg 4; arg 3; whnf
 refine ⟨?_,?_⟩
|apply zt rfl
 . conv => lhs; whnf
 . conv => lhs; whnf; arg 2; whnf
|apply zM rfl
 . conv => lhs; whnf
 . conv => lhs; whnf
 . first | rfl | assumption
 . conv => lhs; whnf; arg 2; whnf
|apply zR rfl
 . conv => lhs; whnf
 . conv => lhs; whnf
 . first | rfl | assumption
 . conv => lhs; whnf
 . first | fail
|apply zl rfl
 . conv => lhs; whnf
 . conv => lhs; whnf
 . first | rfl | assumption
|apply zAI rfl
 . conv => lhs; whnf
 . rfl
 . rfl
|apply zP rfl
 . conv => lhs; whnf
 . conv => lhs; whnf
 . conv => lhs; whnf; arg 2; whnf
|apply zp rfl
 . conv => lhs; whnf
 . conv => lhs; whnf
 . conv => lhs; whnf
 . first | fail
|apply zn rfl
 . conv => lhs; whnf
 . conv => lhs; whnf
 . conv => lhs; whnf; arg 2; whnf
|apply zk rfl
 . conv => lhs; whnf
 . conv => lhs; whnf
 . conv => lhs; whnf
 . first | fail
|apply zN
 . conv => lhs; whnf; arg 1; arg 1; whnf
|apply zO
 . conv => lhs; whnf; arg 1; arg 1; whnf
|refine zT (by conv => lhs; whnf) ?_ ?_ <;> intro hb
|refine zj ?_
|refine zZ ?_
|refine zG ?_
|refine zK ?_
|refine zC ?_
|refine zB rfl ?_
|refine zE rfl ?_
|refine zF ?_
|refine zJ ?_
|refine zD ?_
|refine zL ?_
|refine zAh ⟨?_,?_⟩
|refine zAQ ⟨?_,?_⟩
|exact (rfl : _ = V.tup [])
|refine ⟨_,by conv => lhs; whnf; arg 2; whnf,?_⟩; conv => rhs; whnf
|exact trivial
|intro hg)
 all_goals first
  | exact zBf _ _
  | exact ⟨rfl,trivial⟩
  | skip
 . have h : (t.k == 1) = true:=bT1 hg
   rw [h]; rfl
 . have h : (t.k == 1) = false:=bF1 hg
   rw [h]; rfl
theorem zFe (x : PS) (t : Tok) (r : List Tok) (h : x.ts = t :: r) : ACB EN5 Tryz.prog 80 [.bx (pn 0) 0] [boxP x] (.agg (tokC t)) [boxP (nxT x)]:=by
 obtain ⟨ts,vr,nd⟩:=x
 cases h
 refine zAM (fn:=Tryz.f80) 22 Tryz.func80 rfl rfl ?_
 intro pas w0 w he hp
 repeat' (first
|refine zA ?_
|refine zI ?_
|refine zb ?_
|refine zU ?_
|refine za ?_
|apply aw_1
 conv => whnf
 refine ⟨?_,trivial⟩
|apply s_1
 conv => whnf; arg 1; arg 4; arg 3; whnf
 refine ⟨?_,?_⟩
|apply zt rfl
 . conv => lhs; whnf
 . conv => lhs; whnf; arg 2; whnf
|apply zAA rfl rfl rfl rfl
 . conv => lhs; whnf; arg 1; whnf
 . rfl
|apply zr rfl rfl rfl
 . conv => lhs; whnf
 . conv => lhs; whnf; arg 1; whnf
 . conv => lhs; whnf; arg 1; whnf
 . exact ⟨by kernel_rfl,by kernel_rfl⟩
 . rfl
|apply zN
 . conv => lhs; whnf; arg 1; arg 1; whnf
|apply zO
 . conv => lhs; whnf; arg 1; arg 1; whnf
|refine zT (by conv => lhs; whnf) ?_ ?_ <;> intro hb
|refine zj ?_
|refine zZ ?_
|refine zG ?_
|refine zK ?_
|refine zC ?_
|refine zB rfl ?_
|refine zE rfl ?_
|refine zF ?_
|refine zJ ?_
|refine zD ?_
|refine zL ?_
|refine zAh ⟨?_,?_⟩
|refine zAQ ⟨?_,?_⟩
|exact (rfl : _ = V.tup [])
|refine ⟨_,by conv => lhs; whnf; arg 2; whnf,?_⟩; conv => rhs; whnf
|exact trivial
|intro hg)
 all_goals first
  | exact zBf _ _
  | (refine ⟨Int.le_of_lt Int.zero_lt_one,?_⟩; show (1 : Int) <= (((r.map tokD).length + 1 : Nat) : Int); omega)
  | rfl
  | skip
 . have h : ¬ t.k = 5:=by have h : (t.k != 5) = true:=hb
                          simpa using h
   refine ⟨?_,trivial⟩
   have e : nxT ⟨t :: r,vr,nd⟩ = ⟨r,vr,nd⟩:=by unfold nxT; rw [if_neg (show ¬ (hdT ⟨t :: r,vr,nd⟩).k = 5 from h)]; rfl
   rw [e]; rfl
 . have h : t.k = 5:=by have h : (t.k != 5) = false:=hb
                        simpa using h
   refine ⟨?_,trivial⟩
   have e : nxT ⟨t :: r,vr,nd⟩ = ⟨t :: r,vr,nd⟩:=by unfold nxT; rw [if_pos (show (hdT ⟨t :: r,vr,nd⟩).k = 5 from h)]
   rw [e]; rfl
theorem zA8 (t : Tok) (e : Int) : ACE EN5 Tryz.prog 77 [.agg (cellsV Tryz.prog 12 134 (tokD t)),.c (.int .i64 e)] [] (.die (probP (t.i,e))):=by
 rw [tok_cells]
 refine zAX (fn:=Tryz.f77) 9 Tryz.func77 rfl rfl ?_
 intro pas w0 w he hp
 repeat' (first
|apply s_die rfl rfl
 . conv => lhs; whnf
 change _ = Out.die _
|refine zA ?_
|refine zI ?_
|refine zb ?_
|refine zU ?_
|refine za ?_
|apply aw_1
 conv => whnf
 refine ⟨?_,trivial⟩
|apply s_1
 conv => whnf; arg 1; arg 4; arg 3; whnf
 refine ⟨?_,?_⟩
|apply zt rfl
 . conv => lhs; whnf
 . conv => lhs; whnf; arg 2; whnf
|apply zAC rfl rfl rfl rfl
 . conv => lhs; whnf; arg 1; whnf
 . rfl
|apply zN
 . conv => lhs; whnf; arg 1; arg 1; whnf
|apply zO
 . conv => lhs; whnf; arg 1; arg 1; whnf
|refine zT (by conv => lhs; whnf) ?_ ?_ <;> intro hb
|refine zj ?_
|refine zZ ?_
|refine zG ?_
|refine zK ?_
|refine zC ?_
|refine zB rfl ?_
|refine zE rfl ?_
|refine zF ?_
|refine zJ ?_
|refine zD ?_
|refine zL ?_
|apply zAB rfl
 . conv => lhs; whnf; arg 2; whnf
 . conv => lhs; whnf; arg 1; whnf
|apply zAN rfl
 . conv => lhs; whnf; arg 1; whnf
|apply zAE rfl
 . conv => lhs; whnf; arg 2; whnf
 . conv => lhs; whnf; arg 1; whnf
|apply zAF rfl
 . conv => lhs; whnf; arg 1; whnf
|refine ⟨_,by conv => lhs; whnf; arg 2; whnf,?_⟩; conv => rhs; whnf
|exact trivial
|intro hg)
 rfl
theorem take_ace (x : PS) (t : Tok) (r : List Tok) (h : x.ts = t :: r) (s : List UInt8) : ACE EN5 Tryz.prog 116 [.bx (pn 0) 0,.c (.string (bs s))] [boxP x] (outQ (fun _ => .agg (tokC t)) (takeQ s x)):=by
 have hs:=zHd x t r h s
 have hn:=zFe x t r h
 have hf:=zA8 t 3
 have hh : hdT x = t:=by unfold hdT; rw [h]; rfl
 unfold takeQ
 rw [hh]
 obtain ⟨ts,vr,nd⟩:=x
 cases h
 refine zAX (fn:=Tryz.f116) 18 Tryz.func116 rfl rfl ?_
 intro pas w0 w he hp
 repeat' (first
|apply s_m zv zY rfl
 . conv => lhs; whnf
 . conv => lhs; whnf
 . rfl
 . conv => lhs; whnf; arg 1; whnf
 . first | exact zAD _
 . first | exact hs | exact hn
 . exact fun _ => rfl
 . exact fun _ => rfl
|apply zCE rfl
 . conv => lhs; whnf
 . first | exact hf
 . first | exact fun _ => rfl | (intro _; simp only [renL,renV,ren_cells])
 change _ = Out.die _
|refine zA ?_
|refine zI ?_
|refine zb ?_
|refine zU ?_
|refine za ?_
|apply aw_1
 conv => whnf
 refine ⟨?_,trivial⟩
|apply s_1
 conv => whnf; arg 1; arg 4; arg 3; whnf
 refine ⟨?_,?_⟩
|apply zt rfl
 . conv => lhs; whnf
 . conv => lhs; whnf; arg 2; whnf
|apply zd rfl
 . conv => lhs; whnf
 . conv => lhs; whnf
 . first | fail
|apply zAA rfl rfl rfl rfl
 . conv => lhs; whnf; arg 1; whnf
 . rfl
|apply zr rfl rfl rfl
 . conv => lhs; whnf
 . conv => lhs; whnf; arg 1; whnf
 . conv => lhs; whnf; arg 1; whnf
 . exact ⟨by kernel_rfl,by kernel_rfl⟩
 . rfl
|apply zN
 . conv => lhs; whnf; arg 1; arg 1; whnf
|apply zO
 . conv => lhs; whnf; arg 1; arg 1; whnf
|refine zT (by conv => lhs; whnf) ?_ ?_ <;> intro hb
|refine zj ?_
|refine zZ ?_
|refine zG ?_
|refine zK ?_
|refine zC ?_
|refine zB rfl ?_
|refine zE rfl ?_
|refine zF ?_
|refine zJ ?_
|refine zD ?_
|refine zL ?_
|apply zAB rfl
 . conv => lhs; whnf; arg 2; whnf
 . conv => lhs; whnf; arg 1; whnf
|apply zAN rfl
 . conv => lhs; whnf; arg 1; whnf
|apply zAE rfl
 . conv => lhs; whnf; arg 2; whnf
 . conv => lhs; whnf; arg 1; whnf
|apply zAF rfl
 . conv => lhs; whnf; arg 1; whnf
|refine ⟨_,by conv => lhs; whnf; arg 2; whnf,?_⟩; conv => rhs; whnf
|exact trivial
|intro hg)
 all_goals first
  | exact zBf _ _
  | skip
 . have h : isS ⟨t :: r,vr,nd⟩ s = false:=by simpa using hb
   rw [h,if_neg (by decide)]; rfl
 . have h : isS ⟨t :: r,vr,nd⟩ s = true:=by simpa using hb
   rw [h,if_pos rfl]; rfl
theorem name_ace (x : PS) (t : Tok) (r : List Tok) (h : x.ts = t :: r) : ACE EN5 Tryz.prog 118 [.bx (pn 0) 0] [boxP x] (outQ (fun n => .c (.string (bs n))) (nameQ x)):=by
 have hn:=zFe x t r h
 have hf:=zA8 t 3
 have hh : hdT x = t:=by unfold hdT; rw [h]; rfl
 unfold nameQ
 rw [hh]
 obtain ⟨ts,vr,nd⟩:=x
 cases h
 refine zAX (fn:=Tryz.f118) 21 Tryz.func118 rfl rfl ?_
 intro pas w0 w he hp
 repeat' (first
|apply s_m zv zY rfl
 . conv => lhs; whnf
 . conv => lhs; whnf
 . rfl
 . conv => lhs; whnf; arg 1; whnf
 . first | exact zAD _
 . first | exact hn
 . exact fun _ => rfl
 . exact fun _ => rfl
|apply zCE rfl
 . conv => lhs; whnf
 . first | exact hf
 . first | exact fun _ => rfl | (intro _; simp only [renL,renV,ren_cells])
 change _ = Out.die _
|refine zA ?_
|refine zI ?_
|refine zb ?_
|refine zU ?_
|refine za ?_
|apply aw_1
 conv => whnf
 refine ⟨?_,trivial⟩
|apply s_1
 conv => whnf; arg 1; arg 4; arg 3; whnf
 refine ⟨?_,?_⟩
|apply zt rfl
 . conv => lhs; whnf
 . conv => lhs; whnf; arg 2; whnf
|apply zd rfl
 . conv => lhs; whnf
 . conv => lhs; whnf
 . first | fail
|apply zN
 . conv => lhs; whnf; arg 1; arg 1; whnf
|apply zO
 . conv => lhs; whnf; arg 1; arg 1; whnf
|refine zT (by conv => lhs; whnf) ?_ ?_ <;> intro hb
|refine zj ?_
|refine zZ ?_
|refine zG ?_
|refine zK ?_
|refine zC ?_
|refine zB rfl ?_
|refine zE rfl ?_
|refine zF ?_
|refine zJ ?_
|refine zD ?_
|refine zL ?_
|apply zAB rfl
 . conv => lhs; whnf; arg 2; whnf
 . conv => lhs; whnf; arg 1; whnf
|apply zAN rfl
 . conv => lhs; whnf; arg 1; whnf
|apply zAE rfl
 . conv => lhs; whnf; arg 2; whnf
 . conv => lhs; whnf; arg 1; whnf
|apply zAF rfl
 . conv => lhs; whnf; arg 1; whnf
|refine ⟨_,by conv => lhs; whnf; arg 2; whnf,?_⟩; conv => rhs; whnf
|exact trivial
|intro hg)
 all_goals first
  | exact zBf _ _
  | skip
 . have h : ¬ t.k = 2:=by have h : (t.k != 2) = true:=hb
                          simpa using h
   rw [if_neg h]; rfl
 . have h : t.k = 2:=by have h : (t.k != 2) = false:=hb
                        simpa using h
   rw [if_pos h]; rfl
theorem limit_ace (x : PS) (t : Tok) (r : List Tok) (h : x.ts = t :: r) (n most : Nat) : ACE EN5 Tryz.prog 78 [.bx (pn 0) 0,.c (.int .i64 n),.c (.int .i64 most)] [boxP x] (outQ (fun _ => .tup []) (limQ n most x)):=by
 have hf:=zA8 t 4
 have hh : hdT x = t:=by unfold hdT; rw [h]; rfl
 unfold limQ
 rw [hh]
 obtain ⟨ts,vr,nd⟩:=x
 cases h
 refine zAX (fn:=Tryz.f78) 16 Tryz.func78 rfl rfl ?_
 intro pas w0 w he hp
 repeat' (first
|apply zCE rfl
 . conv => lhs; whnf
 . first | exact hf
 . first | exact fun _ => rfl | (intro _; simp only [renL,renV,ren_cells])
 change _ = Out.die _
|refine zA ?_
|refine zI ?_
|refine zb ?_
|refine zU ?_
|refine za ?_
|apply aw_1
 conv => whnf
 refine ⟨?_,trivial⟩
|apply s_1
 conv => whnf; arg 1; arg 4; arg 3; whnf
 refine ⟨?_,?_⟩
|apply zt rfl
 . conv => lhs; whnf
 . conv => lhs; whnf; arg 2; whnf
|apply zd rfl
 . conv => lhs; whnf
 . conv => lhs; whnf
 . first | fail
|apply zN
 . conv => lhs; whnf; arg 1; arg 1; whnf
|apply zO
 . conv => lhs; whnf; arg 1; arg 1; whnf
|refine zT (by conv => lhs; whnf) ?_ ?_ <;> intro hb
|refine zj ?_
|refine zZ ?_
|refine zG ?_
|refine zK ?_
|refine zC ?_
|refine zB rfl ?_
|refine zE rfl ?_
|refine zF ?_
|refine zJ ?_
|refine zD ?_
|refine zL ?_
|apply zAB rfl
 . conv => lhs; whnf; arg 2; whnf
 . conv => lhs; whnf; arg 1; whnf
|apply zAN rfl
 . conv => lhs; whnf; arg 1; whnf
|apply zAE rfl
 . conv => lhs; whnf; arg 2; whnf
 . conv => lhs; whnf; arg 1; whnf
|apply zAF rfl
 . conv => lhs; whnf; arg 1; whnf
|refine ⟨_,by conv => lhs; whnf; arg 2; whnf,?_⟩; conv => rhs; whnf
|exact trivial
|intro hg)
 all_goals first
  | exact zBf _ _
  | skip
 . have h : most <= n:=by simpa using hb
   rw [if_pos h]; rfl
 . have h : ¬ most <= n:=by simpa using hb
   rw [if_neg h]; rfl
end Go.Proofs.YtdlnnlglmifceaaGreatDoor
namespace Go.Proofs.YtdlnnlglmifceaaGreatDoor
open Go.RowKit
attribute [local irreducible] wpList Calls Code.wp AW AWo OpOk seqK zAP zAR loopK endK AC zy Yld Sub
theorem wrd_iff (c : UInt8) : wrdU c = true ↔ (97 <= c.toNat /\ c.toNat <= 122) \/ (65 <= c.toNat /\ c.toNat <= 90) \/ c.toNat = 95 \/ (48 <= c.toNat /\ c.toNat <= 57):=by
 have : c = 95 ↔ c.toNat = 95:=⟨fun h => by rw [h]; rfl,fun h => UInt8.toNat_inj.1 h⟩
 unfold wrdU letU digU
 simp only [Bool.or_eq_true,decide_eq_true_eq,beq_iff_eq,this]
 omega
theorem zBq (c : UInt8) : AC EN5 Tryz.prog 112 [.c (.int .i32 (c.toNat : Int))] (.c (.bool (wrdU c))):=by
 refine zX 29 Tryz.func112 rfl rfl rfl rfl ?_
 intro s w he
 repeat' (first
|apply s_wanted_pick_t rfl rfl rfl
 . conv => lhs; whnf
 . first | rfl | assumption
 . conv => lhs; whnf
 . first | exact bT1 ‹_› | exact bT2 ‹_› | rfl
|apply zq rfl rfl rfl
 . conv => lhs; whnf
 . first | rfl | assumption
 . conv => lhs; whnf
 . first | exact bT1 ‹_› | exact bT2 ‹_› | rfl
|apply s_wanted_pick_f rfl rfl rfl
 . conv => lhs; whnf
 . first | rfl | assumption
 . conv => lhs; whnf
 . first | exact bF1 ‹_› | exact bF2 ‹_› | rfl
|apply zu rfl rfl rfl
 . conv => lhs; whnf
 . first | rfl | assumption
 . conv => lhs; whnf
 . first | exact bF1 ‹_› | exact bF2 ‹_› | rfl
|refine zA ?_
|refine zI ?_
|refine zb ?_
|refine zU ?_
|refine za ?_
|apply aw_1
 conv => whnf
 refine ⟨?_,trivial⟩
|apply zg rfl rfl
 . conv => lhs; whnf
 . conv => lhs; whnf
 . first | exact bT1 ‹_› | exact bT2 ‹_›
|apply ze rfl rfl
 . conv => lhs; whnf
 . conv => lhs; whnf
 . first | exact bF1 ‹_› | exact bF2 ‹_›
|apply s_1
 conv => whnf; arg 1; arg 4; arg 3; whnf
 refine ⟨?_,?_⟩
|apply zt rfl
 . conv => lhs; whnf
 . conv => lhs; whnf; arg 2; whnf
|apply zM rfl
 . conv => lhs; whnf
 . conv => lhs; whnf
 . first | rfl | assumption
 . conv => lhs; whnf; arg 2; whnf
|apply zR rfl
 . conv => lhs; whnf
 . conv => lhs; whnf
 . first | rfl | assumption
 . conv => lhs; whnf
 . first | fail
|apply zl rfl
 . conv => lhs; whnf
 . conv => lhs; whnf
 . first | rfl | assumption
|apply zAI rfl
 . conv => lhs; whnf
 . rfl
 . rfl
|apply zP rfl
 . conv => lhs; whnf
 . conv => lhs; whnf
 . conv => lhs; whnf; arg 2; whnf
|apply zp rfl
 . conv => lhs; whnf
 . conv => lhs; whnf
 . conv => lhs; whnf
 . first | fail
|apply zn rfl
 . conv => lhs; whnf
 . conv => lhs; whnf
 . conv => lhs; whnf; arg 2; whnf
|apply zk rfl
 . conv => lhs; whnf
 . conv => lhs; whnf
 . conv => lhs; whnf
 . first | fail
|apply zN
 . conv => lhs; whnf; arg 1; arg 1; whnf
|apply zO
 . conv => lhs; whnf; arg 1; arg 1; whnf
|refine zT (by conv => lhs; whnf) ?_ ?_ <;> intro hb
|refine zj ?_
|refine zZ ?_
|refine zG ?_
|refine zK ?_
|refine zC ?_
|refine zB rfl ?_
|refine zE rfl ?_
|refine zF ?_
|refine zJ ?_
|refine zD ?_
|refine zL ?_
|refine z6 ?_
|refine zH ?_
|refine ⟨_,by conv => lhs; whnf; arg 2; whnf,?_⟩; conv => rhs; whnf
|exact trivial
|intro hg)
 all_goals
  refine congrArg (fun b => V.c (.bool b)) ?_
  rw [Bool.eq_iff_iff,wrd_iff]
  clear he
  simp at *
  omega
theorem zDh {s : List UInt8} {k : Nat} (h : k < s.length) : (bs s).data.toList.getD k 0 = s[k]:=by
 rw [zA2,List.getD_eq_getElem?_getD,List.getElem?_eq_getElem h]; rfl
theorem span_at {p : UInt8 -> Bool} {s : List UInt8} {k : Nat} (h : k < s.length) : spanN p (s.drop k) = if p s[k] then spanN p (s.drop (k + 1)) + 1 else 0:=by
 rw [List.drop_eq_getElem_cons h,spanN]
theorem zAj (c : UInt8) : IntKind.i32.min <= ((c.toNat : Nat) : Int) /\ ((c.toNat : Nat) : Int) <= IntKind.i32.max:=by
 have:=c.toNat_lt
 exact ⟨by show (-2147483648 : Int) <= _; omega,by show _ <= (2147483647 : Int); omega⟩
noncomputable def HSp (s : List UInt8) (i : Nat) : Vst 22:=
 stS 22 [(0,.c (.string (bs s))),(1,.c (.int .i64 (i : Int))),(2,.c (.func (.func 112) #[] #[]))] []
theorem zGs (s : List UInt8) (i : Nat) (hi : i <= s.length) (hs : s.length <= 1000000) : AC EN5 Tryz.prog 111 [.c (.string (bs s)),.c (.int .i64 (i : Int)),.c (.func (.func 112) #[] #[])] (.c (.int .i64 ((i + spanN wrdU (s.drop i) : Nat) : Int))):=by
 refine zX 22 Tryz.func111 rfl rfl rfl rfl ?_
 intro s0 w he
 repeat' (first
|refine zA ?_
|refine zI ?_
|refine zb ?_
|refine zU ?_
|refine za ?_
|apply aw_1
 conv => whnf
 refine ⟨?_,trivial⟩
|apply zg rfl rfl
 . conv => lhs; whnf
 . conv => lhs; whnf
 . first | exact bT1 ‹_› | exact bT2 ‹_›
|apply ze rfl rfl
 . conv => lhs; whnf
 . conv => lhs; whnf
 . first | exact bF1 ‹_› | exact bF2 ‹_›
|apply s_1
 conv => whnf; arg 1; arg 4; arg 3; whnf
 refine ⟨?_,?_⟩
|apply zt rfl
 . conv => lhs; whnf
 . conv => lhs; whnf; arg 2; whnf
|apply zd rfl
 . conv => lhs; whnf
 . conv => lhs; whnf
 . first | fail
|apply zM rfl
 . conv => lhs; whnf
 . conv => lhs; whnf
 . first | rfl | assumption
 . conv => lhs; whnf; arg 2; whnf
|apply zR rfl
 . conv => lhs; whnf
 . conv => lhs; whnf
 . first | rfl | assumption
 . conv => lhs; whnf
 . first | fail
|apply zB3 rfl
 . conv => lhs; whnf
 . conv => lhs; whnf
 . first | rfl | assumption
|apply zn rfl
 . conv => lhs; whnf
 . conv => lhs; whnf
 . conv => lhs; whnf; arg 2; whnf
|apply zk rfl
 . conv => lhs; whnf
 . conv => lhs; whnf
 . conv => lhs; whnf
 . first | fail
|apply zN
 . conv => lhs; whnf; arg 1; arg 1; whnf
|apply zO
 . conv => lhs; whnf; arg 1; arg 1; whnf
|refine zT (by conv => lhs; whnf) ?_ ?_ <;> intro hb
|refine zj ?_
|refine zZ ?_
|refine zG ?_
|refine zK ?_
|refine zC ?_
|refine zB rfl ?_
|refine zE rfl ?_
|refine zF ?_
|refine zJ ?_
|refine zD ?_
|refine zL ?_
|refine z6 ?_
|refine zH ?_
|refine ⟨_,by conv => lhs; whnf; arg 2; whnf,?_⟩; conv => rhs; whnf
|exact trivial
|intro hg)
 refine z7 (fun j st => ∃ k,k + j = s.length /\ i + spanN wrdU (s.drop i) = k + spanN wrdU (s.drop k) /\ Sub (cx EN5 Tryz.prog s0 w he) st (HSp s k)) (s.length - i) ⟨i,by omega,rfl,?_⟩ ?_
 . exact Sub.live ⟨rfl,rfl,rfl,trivial⟩ trivial
 rintro j st ⟨k,hkj,hI,hs2⟩
 refine z8 hs2 ?_
 clear hs2
 rw [hI]
 clear hI
 have hle : ∀ c : UInt8,AC EN5 Tryz.prog 112 [.c (.int .i32 (c.toNat : Int))] (.c (.bool (wrdU c))):=zBq
 repeat' (first
|apply s_wanted_pick_t rfl rfl rfl
 . conv => lhs; whnf
 . first | rfl | assumption
 . conv => lhs; whnf
 . first | exact bT1 ‹_› | exact bT2 ‹_› | rfl
|apply zq rfl rfl rfl
 . conv => lhs; whnf
 . first | rfl | assumption
 . conv => lhs; whnf
 . first | exact bT1 ‹_› | exact bT2 ‹_› | rfl
|apply s_wanted_pick_f rfl rfl rfl
 . conv => lhs; whnf
 . first | rfl | assumption
 . conv => lhs; whnf
 . first | exact bF1 ‹_› | exact bF2 ‹_› | rfl
|apply zu rfl rfl rfl
 . conv => lhs; whnf
 . first | rfl | assumption
 . conv => lhs; whnf
 . first | exact bF1 ‹_› | exact bF2 ‹_› | rfl
|refine zA ?_
|refine zI ?_
|refine zb ?_
|refine zU ?_
|refine za ?_
|apply aw_1
 conv => whnf
 refine ⟨?_,trivial⟩
|apply zg rfl rfl
 . conv => lhs; whnf
 . conv => lhs; whnf
 . first | exact bT1 ‹_› | exact bT2 ‹_›
|apply ze rfl rfl
 . conv => lhs; whnf
 . conv => lhs; whnf
 . first | exact bF1 ‹_› | exact bF2 ‹_›
|apply s_1
 conv => whnf; arg 1; arg 4; arg 3; whnf
 refine ⟨?_,?_⟩
|apply zt rfl
 . conv => lhs; whnf
 . conv => lhs; whnf; arg 2; whnf
|apply zd rfl
 . conv => lhs; whnf
 . conv => lhs; whnf
 . first | exact hle _
|apply zM rfl
 . conv => lhs; whnf
 . conv => lhs; whnf
 . first | rfl | assumption
 . conv => lhs; whnf; arg 2; whnf
|apply zR rfl
 . conv => lhs; whnf
 . conv => lhs; whnf
 . first | rfl | assumption
 . conv => lhs; whnf
 . first | exact hle _
|apply zl rfl
 . conv => lhs; whnf
 . conv => lhs; whnf
 . first | rfl | assumption
|apply zAI rfl
 . conv => lhs; whnf
 . rfl
 . rfl
|apply zP rfl
 . conv => lhs; whnf
 . conv => lhs; whnf
 . conv => lhs; whnf; arg 2; whnf
|apply zp rfl
 . conv => lhs; whnf
 . conv => lhs; whnf
 . conv => lhs; whnf
 . first | exact hle _
|apply zn rfl
 . conv => lhs; whnf
 . conv => lhs; whnf
 . conv => lhs; whnf; arg 2; whnf
|apply zk rfl
 . conv => lhs; whnf
 . conv => lhs; whnf
 . conv => lhs; whnf
 . first | exact hle _
|apply zN
 . conv => lhs; whnf; arg 1; arg 1; whnf
|apply zO
 . conv => lhs; whnf; arg 1; arg 1; whnf
|refine zT (by conv => lhs; whnf) ?_ ?_ <;> intro hb
|refine zj ?_
|refine zZ ?_
|refine zG ?_
|refine zK ?_
|refine zC ?_
|refine zB rfl ?_
|refine zE rfl ?_
|refine zF ?_
|refine zJ ?_
|refine zD ?_
|refine zL ?_
|refine z6 ?_
|refine zH ?_
|refine ⟨_,by conv => lhs; whnf; arg 2; whnf,?_⟩; conv => rhs; whnf
|exact trivial
|intro hg)
 . have hk : k < s.length:=by have:=zAL s; simp at hg; omega
   have hb : wrdU s[k] = true:=by rw [<- zDh hk]; exact hb
   refine zh (j':=j - 1) (by omega) ⟨k + 1,by omega,by rw [span_at hk,if_pos hb]; omega,Sub.live ⟨rfl,rfl,rfl,trivial⟩ trivial⟩
 . exact zo (by omega)
 . have hk : k < s.length:=by have:=zAL s; simp at hg; omega
   have hb : wrdU s[k] = false:=by rw [<- zDh hk]; exact hb
   rw [span_at hk,if_neg (by rw [hb]; decide)]; rfl
 . exact zAj _
 . have hk : k < s.length:=by have:=zAL s; simp at hg; omega
   exact ⟨by kernel_rfl,by omega,by rw [zAL]; omega⟩
 . have hk : k = s.length:=by have:=zAL s; simp at hg; omega
   rw [hk,List.drop_length]; rfl
 . show Tryz.prog.underlying _ = _
   kernel_rfl
end Go.Proofs.YtdlnnlglmifceaaGreatDoor
namespace Go.Proofs.YtdlnnlglmifceaaGreatDoor
open Go.RowKit
attribute [local irreducible] wpList Calls Code.wp AW AWo OpOk seqK zAP zAR loopK endK AC zy Yld Sub
attribute [local irreducible] ACB ACX ACE absLexG YldG
section
variable {X : Cx} {nn : Nat} {st : Vst nn} {o : Oper} {ops : Array Oper} {l : List Oper} {d : Option Tmp} {KK : Vst nn -> Prop}
theorem zAt {tR : TypeId} {f : FuncId} {m : Nat} {vs az : List V} {r : V} {cs cs' : List V} (hg : o.guard = none) (hd : o.dst = d) (h : act1 X.P st.rs (ev st) o.op = .call f vs) (hv : (m,vs) = (m,vs))
 (hr : st.rs m = some (.box tR cs)) (hcs : ∀ φ,renL φ cs = cs) (hc : ACB X.e X.P f az [.box tR cs] r [.box tR cs']) (hcs' : ∀ φ,renL φ cs' = cs') (haz : ∀ _ : Unit,renL (φin [m]) vs = az) (hrr : ∀ φ,renV φ r = r)
 (hK : AWo X ops l ((st.res m (.box tR cs')).put d r) KK) : AWo X ops (o :: l) st KK:=by
 refine zAO hg (zBS [m] h hc (by simp) (haz ()) (by simp [hr,renR,hcs]) ?_)
 have e : ([Res.box tR cs'].map (renR (φout [m]))) = [Res.box tR cs']:=by simp [renR,hcs']
 rw [e,zCT,hrr,hd]
 exact hK
theorem zAg {tR : TypeId} {f : FuncId} {m j : Nat} {want b : Bool} {vs az : List V} {r : V} {cs cs' : List V} (hg : o.guard = some (j,want)) (hd : o.dst = d) (hb : gval ops st j = some b) (h : act1 X.P st.rs (ev st) o.op = .call f vs) (hv : (m,vs) = (m,vs))
 (hr : st.rs m = some (.box tR cs)) (hcs : ∀ φ,renL φ cs = cs) (hc : ACB X.e X.P f az [.box tR cs] r [.box tR cs']) (hcs' : ∀ φ,renL φ cs' = cs') (haz : ∀ _ : Unit,renL (φin [m]) vs = az) (hrr : ∀ φ,renV φ r = r)
 (hK : (b == want) = true -> AWo X ops l ((st.res m (.box tR cs')).put d r) KK) (hN : (b == want) = false -> AWo X ops l (st.put d (.tup [])) KK) : AWo X ops (o :: l) st KK:=by
 cases e : b == want
 . exact zl hg hd hb e (hN e)
 . refine zBI hg hb (fun _ => ?_) fun e2 => (e2 (by simpa using e)).elim
   refine zBS [m] h hc (by simp) (haz ()) (by simp [hr,renR,hcs]) ?_
   have e : ([Res.box tR cs'].map (renR (φout [m]))) = [Res.box tR cs']:=by simp [renR,hcs']
   rw [e,zCT,hrr,hd]
   exact hK ‹_›
end
def zAU (b : Bool) (c : UInt8) : Bool × Bool:=if b then (true,false) else (!(c == 34),c == 92)
def zBF : Bool -> List UInt8 -> Nat
 | _,[] => 0
 | b,c :: r => if (zAU b c).1 then zBF (zAU b c).2 r + 1 else 0
def zGt : Bool -> List UInt8 -> Bool
 | b,[] => b
 | b,c :: r => if (zAU b c).1 then zGt (zAU b c).2 r else (zAU b c).2
theorem zFf : ∀ l : List UInt8,litN l = if zBF false l < l.length then some (zBF false l + 1) else none
 | [] => by simp [litN]
 | [c] => by
   unfold litN
   by_cases h : c = 34
   . subst h; simp [zBF,zAU]
   . have h2 : (c == 34) = false:=by simpa using h
     rw [h2]
     simp [zBF,zAU,h2]
 | c :: d :: r => by
   have ih1:=zFf r
   have ih2:=zFf (d :: r)
   unfold litN
   by_cases h : c = 34
   . subst h; simp [zBF,zAU]
   . have h2 : (c == 34) = false:=by simpa using h
     rw [h2]
     by_cases h3 : c = 92
     . subst h3
       have e : zBF false (92 :: d :: r) = zBF false r + 2:=by
        show (if (zAU false 92).1 then zBF (zAU false 92).2 (d :: r) + 1 else 0) = _
        simp [zAU,zBF]
       rw [e,ih1]
       simp only [List.length_cons,Bool.false_eq_true,if_false,beq_self_eq_true,if_true]
       by_cases h4 : zBF false r < r.length
       . rw [if_pos h4,if_pos (by omega)]; rfl
       . rw [if_neg h4,if_neg (by omega)]; rfl
     . have h4 : (c == 92) = false:=by simpa using h3
       have e : zBF false (c :: d :: r) = zBF false (d :: r) + 1:=by
        show (if (zAU false c).1 then zBF (zAU false c).2 (d :: r) + 1 else 0) = _
        simp [zAU,h2,h4]
       rw [e,ih2,h4]
       simp only [List.length_cons,Bool.false_eq_true,if_false]
       by_cases h5 : zBF false (d :: r) < r.length + 1
       . rw [if_pos h5,if_pos (by omega)]; rfl
       . rw [if_neg h5,if_neg (by omega)]; rfl
theorem zHa : ∀ (b : Bool) (l : List UInt8),zBF b l <= l.length
 | _,[] => Nat.le_refl _
 | b,c :: r => by
   have:=zHa (zAU b c).2 r
   unfold zBF
   split <;> simp <;> omega
theorem zD0 (c : UInt8) (n : Nat) (h : n < 256) : (((c.toNat : Nat) : Int) == (n : Int)) = (c == UInt8.ofNat n):=by
 rw [Bool.eq_iff_iff]
 simp only [beq_iff_eq]
 constructor
 . intro h1
   apply UInt8.toNat_inj.1
   rw [UInt8.toNat_ofNat']
   omega
 . intro h1
   rw [h1,UInt8.toNat_ofNat']
   omega
def boxL (b : Bool) : Res:=.box 4 [.c (.bool b)]
theorem lit1_acb (c : UInt8) (b : Bool) : ACB EN5 Tryz.prog 148 [.c (.int .i32 (c.toNat : Int)),.bx (pn 0) 0] [boxL b] (.c (.bool (zAU b c).1)) [boxL (zAU b c).2]:=by
 have e1 : ((c.toNat : Int) == 92) = (c == 92):=zD0 c 92 (by omega)
 have e2 : ((c.toNat : Int) == 34) = (c == 34):=zD0 c 34 (by omega)
 cases b
 . have e3 : zAU false c = (!((c.toNat : Int) == 34),(c.toNat : Int) == 92):=by rw [e1,e2]; rfl
   rw [e3]
   refine zAM (fn:=Tryz.f148) 9 Tryz.func148 rfl rfl ?_
   intro pas w0 w he hp
   repeat' (first
|refine zA ?_
|refine zI ?_
|refine zb ?_
|refine zU ?_
|refine za ?_
|apply aw_1
 conv => whnf
 refine ⟨?_,trivial⟩
|apply s_1
 conv => whnf; arg 1; arg 4; arg 3; whnf
 refine ⟨?_,?_⟩
|apply zt rfl
 . conv => lhs; whnf
 . conv => lhs; whnf; arg 2; whnf
|apply zr rfl rfl rfl
 . conv => lhs; whnf
 . conv => lhs; whnf; arg 1; whnf
 . conv => lhs; whnf; arg 1; whnf
 . exact ⟨by kernel_rfl,by kernel_rfl⟩
 . rfl
|apply zN
 . conv => lhs; whnf; arg 1; arg 1; whnf
|apply zO
 . conv => lhs; whnf; arg 1; arg 1; whnf
|refine zT (by conv => lhs; whnf) ?_ ?_ <;> intro hb
|refine zj ?_
|refine zZ ?_
|refine zG ?_
|refine zK ?_
|refine zC ?_
|refine zB rfl ?_
|refine zE rfl ?_
|refine zF ?_
|refine zJ ?_
|refine zD ?_
|refine zL ?_
|refine zAh ⟨?_,?_⟩
|refine zAQ ⟨?_,?_⟩
|exact (rfl : _ = V.tup [])
|refine ⟨_,by conv => lhs; whnf; arg 2; whnf,?_⟩; conv => rhs; whnf
|exact trivial
|intro hg)
   all_goals first | exact ⟨rfl,trivial⟩ | rfl
 . have e3 : zAU true c = (true,false):=rfl
   rw [e3]
   refine zAM (fn:=Tryz.f148) 9 Tryz.func148 rfl rfl ?_
   intro pas w0 w he hp
   repeat' (first
|refine zA ?_
|refine zI ?_
|refine zb ?_
|refine zU ?_
|refine za ?_
|apply aw_1
 conv => whnf
 refine ⟨?_,trivial⟩
|apply s_1
 conv => whnf; arg 1; arg 4; arg 3; whnf
 refine ⟨?_,?_⟩
|apply zt rfl
 . conv => lhs; whnf
 . conv => lhs; whnf; arg 2; whnf
|apply zr rfl rfl rfl
 . conv => lhs; whnf
 . conv => lhs; whnf; arg 1; whnf
 . conv => lhs; whnf; arg 1; whnf
 . exact ⟨by kernel_rfl,by kernel_rfl⟩
 . rfl
|apply zN
 . conv => lhs; whnf; arg 1; arg 1; whnf
|apply zO
 . conv => lhs; whnf; arg 1; arg 1; whnf
|refine zT (by conv => lhs; whnf) ?_ ?_ <;> intro hb
|refine zj ?_
|refine zZ ?_
|refine zG ?_
|refine zK ?_
|refine zC ?_
|refine zB rfl ?_
|refine zE rfl ?_
|refine zF ?_
|refine zJ ?_
|refine zD ?_
|refine zL ?_
|refine zAh ⟨?_,?_⟩
|refine zAQ ⟨?_,?_⟩
|exact (rfl : _ = V.tup [])
|refine ⟨_,by conv => lhs; whnf; arg 2; whnf,?_⟩; conv => rhs; whnf
|exact trivial
|intro hg)
   all_goals first | exact ⟨rfl,trivial⟩ | rfl
noncomputable def HSl (s : List UInt8) (i : Nat) (b : Bool) : Vst 22:=
 stS 22 [(0,.c (.string (bs s))),(1,.c (.int .i64 (i : Int))),(2,.clo 148 [.bx (pn 0) 0])] [(pn 0,boxL b)]
theorem zFT {b : Bool} {s : List UInt8} {k : Nat} (h : k < s.length) : zBF b (s.drop k) = (if (zAU b s[k]).1 then zBF (zAU b s[k]).2 (s.drop (k + 1)) + 1 else 0) /\ zGt b (s.drop k) = (if (zAU b s[k]).1 then zGt (zAU b s[k]).2 (s.drop (k + 1)) else (zAU b s[k]).2):=by
 rw [List.drop_eq_getElem_cons h]
 exact ⟨by rw [zBF],by rw [zGt]⟩
theorem spanl_acb (s : List UInt8) (i : Nat) (hi : i <= s.length) (hs : s.length <= 1000000) (b : Bool) : ACB EN5 Tryz.prog 111 [.c (.string (bs s)),.c (.int .i64 (i : Int)),.clo 148 [.bx (pn 0) 0]] [boxL b]
 (.c (.int .i64 ((i + zBF b (s.drop i) : Nat) : Int))) [boxL (zGt b (s.drop i))]:=by
 refine zAM (fn:=Tryz.f111) 22 Tryz.func111 rfl rfl ?_
 intro pas w0 w he hp
 repeat' (first
|refine zA ?_
|refine zI ?_
|refine zb ?_
|refine zU ?_
|refine za ?_
|apply aw_1
 conv => whnf
 refine ⟨?_,trivial⟩
|apply zg rfl rfl
 . conv => lhs; whnf
 . conv => lhs; whnf
 . first | exact bT1 ‹_› | exact bT2 ‹_›
|apply ze rfl rfl
 . conv => lhs; whnf
 . conv => lhs; whnf
 . first | exact bF1 ‹_› | exact bF2 ‹_›
|apply s_1
 conv => whnf; arg 1; arg 4; arg 3; whnf
 refine ⟨?_,?_⟩
|apply zt rfl
 . conv => lhs; whnf
 . conv => lhs; whnf; arg 2; whnf
|apply zd rfl
 . conv => lhs; whnf
 . conv => lhs; whnf
 . first | fail
|apply zM rfl
 . conv => lhs; whnf
 . conv => lhs; whnf
 . first | rfl | assumption
 . conv => lhs; whnf; arg 2; whnf
|apply zR rfl
 . conv => lhs; whnf
 . conv => lhs; whnf
 . first | rfl | assumption
 . conv => lhs; whnf
 . first | fail
|apply zB3 rfl
 . conv => lhs; whnf
 . conv => lhs; whnf
 . first | rfl | assumption
|apply zn rfl
 . conv => lhs; whnf
 . conv => lhs; whnf
 . conv => lhs; whnf; arg 2; whnf
|apply zk rfl
 . conv => lhs; whnf
 . conv => lhs; whnf
 . conv => lhs; whnf
 . first | fail
|apply zN
 . conv => lhs; whnf; arg 1; arg 1; whnf
|apply zO
 . conv => lhs; whnf; arg 1; arg 1; whnf
|refine zT (by conv => lhs; whnf) ?_ ?_ <;> intro hb
|refine zj ?_
|refine zZ ?_
|refine zG ?_
|refine zK ?_
|refine zC ?_
|refine zB rfl ?_
|refine zE rfl ?_
|refine zF ?_
|refine zJ ?_
|refine zD ?_
|refine zL ?_
|refine zAh ⟨?_,?_⟩
|refine zAQ ⟨?_,?_⟩
|exact (rfl : _ = V.tup [])
|refine ⟨_,by conv => lhs; whnf; arg 2; whnf,?_⟩; conv => rhs; whnf
|exact trivial
|intro hg)
 refine z7 (fun j st => ∃ k b',k + j = s.length /\ i + zBF b (s.drop i) = k + zBF b' (s.drop k) /\ zGt b (s.drop i) = zGt b' (s.drop k) /\ Sub ⟨Tryz.prog,pas,w0,w,EN5,he,hp,fun _ _ _ => False,[]⟩ st (HSl s k b')) (s.length - i) ⟨i,b,by omega,rfl,rfl,?_⟩ ?_
 . exact Sub.live ⟨rfl,rfl,rfl,trivial⟩ ⟨rfl,trivial⟩
 rintro j st ⟨k,b',hkj,hI,hS,hs2⟩
 refine z8 hs2 ?_
 clear hs2
 rw [hI,hS]
 clear hI hS
 have hle : ∀ c : UInt8,ACB EN5 Tryz.prog 148 [.c (.int .i32 (c.toNat : Int)),.bx (pn 0) 0] [boxL b'] (.c (.bool (zAU b' c).1)) [boxL (zAU b' c).2]:=fun c => lit1_acb c b'
 have hle2:=hle ((bs s).data.toList.getD ((k : Int)).toNat 0)
 have hin : ∀ h : (decide ((k : Int) < ((bs s).size : Nat)) == true) = true,∃ hk : k < s.length,(bs s).data.toList.getD ((k : Int)).toNat 0 = s[k]:=fun h => by
  have hz:=zAL s
  have hk : k < s.length:=by simp at h; omega
  exact ⟨hk,zDh hk⟩
 have hout : ∀ h : (decide ((k : Int) < ((bs s).size : Nat)) == true) = false,s.drop k = []:=fun h => by
  have hz:=zAL s
  have hk : s.length <= k:=by simp at h; omega
  exact List.drop_of_length_le hk
 repeat' (first
|apply zAg (m:=pn 0) rfl
 . conv => lhs; whnf
 . conv => lhs; whnf
 . conv => lhs; whnf
 . rfl
 . conv => lhs; whnf; arg 1; whnf
 . exact fun _ => rfl
 . first | exact hle2
 . exact fun _ => rfl
 . exact fun _ => rfl
 . exact fun _ => rfl
|apply zAt (m:=pn 0) rfl
 . conv => lhs; whnf
 . conv => lhs; whnf
 . rfl
 . conv => lhs; whnf; arg 1; whnf
 . exact fun _ => rfl
 . first | exact hle2
 . exact fun _ => rfl
 . exact fun _ => rfl
 . exact fun _ => rfl
|apply s_wanted_pick_t rfl rfl rfl
 . conv => lhs; whnf
 . first | rfl | assumption
 . conv => lhs; whnf
 . first | exact bT1 ‹_› | exact bT2 ‹_› | rfl
|apply zq rfl rfl rfl
 . conv => lhs; whnf
 . first | rfl | assumption
 . conv => lhs; whnf
 . first | exact bT1 ‹_› | exact bT2 ‹_› | rfl
|apply s_wanted_pick_f rfl rfl rfl
 . conv => lhs; whnf
 . first | rfl | assumption
 . conv => lhs; whnf
 . first | exact bF1 ‹_› | exact bF2 ‹_› | rfl
|apply zu rfl rfl rfl
 . conv => lhs; whnf
 . first | rfl | assumption
 . conv => lhs; whnf
 . first | exact bF1 ‹_› | exact bF2 ‹_› | rfl
|refine zA ?_
|refine zI ?_
|refine zb ?_
|refine zU ?_
|refine za ?_
|apply aw_1
 conv => whnf
 refine ⟨?_,trivial⟩
|apply zg rfl rfl
 . conv => lhs; whnf
 . conv => lhs; whnf
 . first | exact bT1 ‹_› | exact bT2 ‹_›
|apply ze rfl rfl
 . conv => lhs; whnf
 . conv => lhs; whnf
 . first | exact bF1 ‹_› | exact bF2 ‹_›
|apply s_1
 conv => whnf; arg 1; arg 4; arg 3; whnf
 refine ⟨?_,?_⟩
|apply zt rfl
 . conv => lhs; whnf
 . conv => lhs; whnf; arg 2; whnf
|apply zd rfl
 . conv => lhs; whnf
 . conv => lhs; whnf
 . first | fail
|apply zM rfl
 . conv => lhs; whnf
 . conv => lhs; whnf
 . first | rfl | assumption
 . conv => lhs; whnf; arg 2; whnf
|apply zR rfl
 . conv => lhs; whnf
 . conv => lhs; whnf
 . first | rfl | assumption
 . conv => lhs; whnf
 . first | fail
|apply zl rfl
 . conv => lhs; whnf
 . conv => lhs; whnf
 . first | rfl | assumption
|apply zAI rfl
 . conv => lhs; whnf
 . rfl
 . rfl
|apply zP rfl
 . conv => lhs; whnf
 . conv => lhs; whnf
 . conv => lhs; whnf; arg 2; whnf
|apply zp rfl
 . conv => lhs; whnf
 . conv => lhs; whnf
 . conv => lhs; whnf
 . first | fail
|apply zn rfl
 . conv => lhs; whnf
 . conv => lhs; whnf
 . conv => lhs; whnf; arg 2; whnf
|apply zk rfl
 . conv => lhs; whnf
 . conv => lhs; whnf
 . conv => lhs; whnf
 . first | fail
|apply zN
 . conv => lhs; whnf; arg 1; arg 1; whnf
|apply zO
 . conv => lhs; whnf; arg 1; arg 1; whnf
|refine zT (by conv => lhs; whnf) ?_ ?_ <;> intro hb
|refine zj ?_
|refine zZ ?_
|refine zG ?_
|refine zK ?_
|refine zC ?_
|refine zB rfl ?_
|refine zE rfl ?_
|refine zF ?_
|refine zJ ?_
|refine zD ?_
|refine zL ?_
|refine zAh ⟨?_,?_⟩
|refine zAQ ⟨?_,?_⟩
|exact (rfl : _ = V.tup [])
|refine ⟨_,by conv => lhs; whnf; arg 2; whnf,?_⟩; conv => rhs; whnf
|exact trivial
|intro hg)
 . obtain ⟨hk,e⟩:=hin hg
   obtain ⟨e1,e2⟩:=zFT (b:=b') hk
   rw [e] at hb
   rw [if_pos hb] at e1 e2
   refine zh (j':=j - 1) (by omega) ⟨k + 1,(zAU b' ((bs s).data.toList.getD ((k : Int)).toNat 0)).2,by omega,by rw [e1,e]; omega,by rw [e2,e],Sub.live ⟨rfl,rfl,rfl,trivial⟩ ⟨rfl,trivial⟩⟩
 . exact zo (by obtain ⟨hk,e⟩:=hin hg; omega)
 . obtain ⟨hk,e⟩:=hin hg
   obtain ⟨e1,e2⟩:=zFT (b:=b') hk
   rw [e] at hb
   rw [if_neg (by rw [hb]; decide)] at e1
   rw [e1]; rfl
 . obtain ⟨hk,e⟩:=hin hg
   obtain ⟨e1,e2⟩:=zFT (b:=b') hk
   have hb2:=hb
   rw [e] at hb2
   rw [if_neg (by rw [hb2]; decide),<- e] at e2
   rw [e2]
   exact ⟨rfl,trivial⟩
 . rename_i h1
   rw [h1] at hg; cases hg
 . exact zAj _
 . obtain ⟨hk,e⟩:=hin hg
   exact ⟨by kernel_rfl,by omega,by rw [zAL]; omega⟩
 . rw [hout hg]; rfl
 . rw [hout hg]; exact ⟨rfl,trivial⟩
 . show Tryz.prog.underlying _ = _
   kernel_rfl
def litV (s : List UInt8) (i : Nat) : Int:=match litN (s.drop (i + 1)) with
 | none => -1
 | some n => ((i + 1 + n : Nat) : Int)
theorem lit_V {s : List UInt8} {i : Nat} (hi : i < s.length) : litV s i = if (i + 1 + zBF false (s.drop (i + 1)) : Nat) < s.length then ((i + 1 + zBF false (s.drop (i + 1)) + 1 : Nat) : Int) else -1:=by
 unfold litV
 rw [zFf,List.length_drop]
 by_cases h : zBF false (s.drop (i + 1)) < s.length - (i + 1)
 . rw [if_pos h,if_pos (by omega)]; rfl
 . rw [if_neg h,if_neg (by omega)]
theorem zE1 (s : List UInt8) (i : Nat) (hi : i < s.length) (hs : s.length <= 1000000) : AC EN5 Tryz.prog 114 [.c (.string (bs s)),.c (.int .i64 (i : Int))] (.c (.int .i64 (litV s i))):=by
 have hsp:=spanl_acb s (i + 1) (by omega) hs false
 have hle:=zHa false (s.drop (i + 1))
 rw [List.length_drop] at hle
 rw [lit_V hi]
 refine zX 18 Tryz.func114 rfl rfl rfl rfl ?_
 intro s0 w he
 have hz:=zAL s
 repeat' (first
|apply zAg (m:=5) rfl
 . conv => lhs; whnf
 . conv => lhs; whnf
 . conv => lhs; whnf
 . rfl
 . conv => lhs; whnf; arg 1; whnf
 . exact fun _ => rfl
 . first | exact hsp
 . exact fun _ => rfl
 . exact fun _ => rfl
 . exact fun _ => rfl
|apply zAt (m:=5) rfl
 . conv => lhs; whnf
 . conv => lhs; whnf
 . rfl
 . conv => lhs; whnf; arg 1; whnf
 . exact fun _ => rfl
 . first | exact hsp
 . exact fun _ => rfl
 . exact fun _ => rfl
 . exact fun _ => rfl
|refine zA ?_
|refine zI ?_
|refine zb ?_
|refine zU ?_
|refine za ?_
|apply aw_1
 conv => whnf
 refine ⟨?_,trivial⟩
|apply s_1
 conv => whnf; arg 1; arg 4; arg 3; whnf
 refine ⟨?_,?_⟩
|apply zt rfl
 . conv => lhs; whnf
 . conv => lhs; whnf; arg 2; whnf
|apply zd rfl
 . conv => lhs; whnf
 . conv => lhs; whnf
 . first | fail
|apply zAA rfl rfl rfl rfl
 . conv => lhs; whnf; arg 1; whnf
 . rfl
|apply zr rfl rfl rfl
 . conv => lhs; whnf
 . conv => lhs; whnf; arg 1; whnf
 . conv => lhs; whnf; arg 1; whnf
 . exact ⟨by kernel_rfl,by kernel_rfl⟩
 . rfl
|apply zN
 . conv => lhs; whnf; arg 1; arg 1; whnf
|apply zO
 . conv => lhs; whnf; arg 1; arg 1; whnf
|refine zT (by conv => lhs; whnf) ?_ ?_ <;> intro hb
|refine zj ?_
|refine zZ ?_
|refine zG ?_
|refine zK ?_
|refine zC ?_
|refine zB rfl ?_
|refine zE rfl ?_
|refine zF ?_
|refine zJ ?_
|refine zD ?_
|refine zL ?_
|refine z6 ?_
|refine zH ?_
|refine ⟨_,by conv => lhs; whnf; arg 2; whnf,?_⟩; conv => rhs; whnf
|exact trivial
|intro hg)
 . rw [if_neg (by simp at hb; omega)]
 . rw [if_pos (by simp at hb; omega)]; rfl
 . exact zo (by omega)
 . show Tryz.prog.underlying _ = _
   kernel_rfl
 . exact zo (by omega)
end Go.Proofs.YtdlnnlglmifceaaGreatDoor
