import Derived.Lib.OthersKept
import Derived.Test.YthppafnlnnpciaaGreatDoorV21
import Derived.Test.YthppafnlnnpciaaGreatDoorV27
set_option maxHeartbeats 8000000
set_option maxRecDepth 100000
set_option linter.unusedVariables false
set_option linter.unusedSimpArgs false
namespace Go.Proofs.YthppafnlnnpciaaGreatDoor
section
open Go.RowKit
attribute [local irreducible] wpList Calls Code.wp
def hexIx (g:UInt8):Int:=Lib.indexByte [48,49,50,51,52,53,54,55,56,57,97,98,99,100,101,102] (bits BinOp.or IntKind.u8 (g.toNat:Int) 32).toNat.toUInt8
def ixOk (g:UInt8):Bool:=match valU g with
 |some d=>decide (hexIx g=(d:Int))&&decide (48<=g.toNat)&&decide (g.toNat<=57\/65<=g.toNat)
 |none=>decide (-1<=hexIx g)&&decide (hexIx g<=15)&&decide (hexIx g<0\/g.toNat<48\/57<g.toNat/\g.toNat<65)
theorem ix_ok (g:UInt8):ixOk g=true:=zEd (p:=fun g=>ixOk g=true) (by decide +kernel) g
theorem ix_some {g:UInt8} {d:Nat} (h:valU g=some d):hexIx g=(d:Int)/\48<=g.toNat/\(g.toNat<=57\/65<=g.toNat):=by
 have:=ix_ok g
 unfold ixOk at this
 rw [h] at this
 simp only [Bool.and_eq_true,decide_eq_true_eq] at this
 exact ⟨this.1.1,this.1.2,this.2⟩
theorem ix_none {g:UInt8} (h:valU g=none) : -1<=hexIx g/\hexIx g<=15/\(hexIx g<0\/g.toNat<48\/57<g.toNat/\g.toNat<65):=by
 have:=ix_ok g
 unfold ixOk at this
 rw [h] at this
 simp only [Bool.and_eq_true,decide_eq_true_eq] at this
 exact ⟨this.1.1,this.1.2,this.2⟩
theorem zDO {T e:TypeId} {B b:Nat} {p:Value} {bs:List Value} {w w':World} (h:Lib.BuilderAtF T e B b p bs w) (hb:Below w.heap.size w w'):Lib.BuilderAtF T e B b p bs w':=by
 obtain ⟨hB,v,h1,hown,hne⟩:=h
 have old : ∀ k o,w.heap[k]? = some o->w'.heap[k]? = some o:=fun k o hk=>by
  have hl:k<w.heap.size:=by
   rcases Nat.lt_or_ge k w.heap.size with h' | h'
   . exact h'
   . rw [Array.getElem?_eq_none h'] at hk;cases hk
  rw [hb.block k hl];exact hk
 refine ⟨hB,v,old _ _ h1,⟨hown.1,?_⟩,hne⟩
 rcases hown.2 with hn | ⟨g,cap,cur,fz,hv,hbg,hg,rest⟩
 . exact .inl hn
 . exact .inr ⟨g,cap,cur,fz,hv,hbg,old _ _ hg,rest⟩
theorem isB_keep {B b:Nat} {bs:List Value} {w w':World} (h:IsB B b bs w) (hb:Below w.heap.size w w'):IsB B b bs w':=
 h.elim (fun x => .inl (zDO x hb)) (fun x => .inr (zDO x hb))
theorem unquoteP (s:ByteArray) (w:World) (hs:s.size<=100000):Calls Tryz.prog 115 #[.string s] w (Uq (unquoteU s.data.toList) w):=by
 by_cases hlen:s.size<2
 . have Hno:=Lib.hid (zIw (s:=s) (fun h=>by omega))
   have q0:decide ((s.size:Int)<2)=true:=decide_eq_true (by omega)
   go_enter Tryz.func115,Tryz.ntmps115
   go_wp2
   go_ret2
   exact ⟨by rw [Hno.out];rfl,Below.refl _ _⟩
 have q0:decide ((s.size:Int)<2)=false:=decide_eq_false (by omega)
 have i0:(0:Int)<(s.size:Int):=by omega
 have hb0:=zIf (show 0<s.size by omega)
 have hr0:=zDG s 0
 by_cases h0:bV s 0=34
 case neg =>
  have Hno:=Lib.hid (zIw (s:=s) (fun h=>h0 h.2.1))
  have q1:(bV s 0==34)=false:=beq_false_of_ne h0
  generalize bV s 0=v0 at *
  go_enter Tryz.func115,Tryz.ntmps115
  go_wp2
  go_ret2
  exact ⟨by rw [Hno.out];rfl,Below.refl _ _⟩
 have hbz:=zIf (show s.size-1<s.size by omega)
 have hrz:=zDG s (s.size-1)
 by_cases hz:bV s (s.size-1)=34
 case neg =>
  have Hno:=Lib.hid (zIw (s:=s) (fun h=>hz h.2.2))
  have q1:(bV s (s.size-1)==34)=false:=beq_false_of_ne hz
  rw [h0] at hb0
  generalize bV s (s.size-1)=v1 at *
  go_enter Tryz.func115,Tryz.ntmps115
  go_wp2
  go_ret2
  exact ⟨by rw [Hno.out];rfl,Below.refl _ _⟩
 have Hu:=Lib.hid (unq_of (by omega) h0 hz)
 rw [h0] at hb0
 rw [hz] at hbz
 clear h0 hz hr0 hrz
 have hdz:(s.extract 1 (s.size-1)).size<=100000:=by rw [mid_bs,zW];simp;omega
 obtain ⟨d,hd⟩ : ∃ d,s.extract 1 (s.size-1)=d:=⟨_,rfl⟩
 rw [hd] at Hu hdz
 go_enter Tryz.func115,Tryz.ntmps115
 go_wp2
 clear hb0 hbz i0 q0
 have h0:=Lib.IsBuilderF.of (Lib.fresh_isBuilder 135 5 w)
 have H0:=Lib.hid h0
 clear h0
 go_loopg [5] d.size (fun j i wr => ∃ (m:Nat) (acc:List UInt8),m+j=d.size/\i = .int .i64 m/\acc.length<=m/\unqU d.data.toList=(unqU (d.data.toList.drop m)).map (acc ++ ·)/\Below w.heap.size w wr/\IsB w.heap.size w.heap.size (Lib.byteCells acc) wr)
 case atStart=>exact ⟨0,[],by omega,rfl,by simp,by simp,(Below.refl _ _).alloc (Nat.le_refl _) _,H0.out⟩
 case round =>
  obtain ⟨x,acc,hmj,rfl,hac,hun,hb,hI⟩:=hrel
  have Hmj:=Lib.hid hmj;have hmn:x<=d.size:=by omega
  have Hun:=Lib.hid hun
  have Hb:=Lib.hid hb
  have HI:=Lib.hid hI
  have hal:acc.length<=100000:=by omega
  have Hac:=Lib.hid hac
  clear hmj hun hb hac hI H0
  by_cases hlt:x<d.size
  . have hxi:(x:Int)<(d.size:Int):=by omega
    have hb:=zIf hlt
    rw [bV_bC] at hb
    have HL:=Lib.hid (zJY hlt)
    have hc256:=(bC d x).toNat_lt
    generalize bC d x=c at *
    obtain ⟨v,hv⟩ : ∃ v:Int,(c.toNat:Int)=v:=⟨_,rfl⟩
    rw [hv] at hb
    by_cases hbad:c.toNat<32\/126<c.toNat\/c=34
    . have Hno:=Lib.hid (Hu.out.trans (zC3 Hun.out (by rw [HL.out];exact unqU_bad hbad)))
      have hbv:v<32\/126<v\/v=34:=by
       rcases hbad with h | h | h
       . exact .inl (by omega)
       . exact .inr (.inl (by omega))
       . exact .inr (.inr (by rw [<- hv,h];rfl))
      clear hbad hv
      rcases hbv with h | h | h
      . go_wp2
        go_ret2
        exact ⟨by rw [Hno.out];rfl,Hb.out⟩
      . go_wp2
        all_goals first
         |(exfalso;omega)
         |(go_ret2
           exact ⟨by rw [Hno.out];rfl,Hb.out⟩)
      . subst h
        go_wp2
        go_ret2
        exact ⟨by rw [Hno.out];rfl,Hb.out⟩
    have hc34:v≠34:=by
     rw [<- hv]
     exact zDH (n:=34) (by omega) (fun e=>hbad (.inr (.inr e)))
    have f1:decide (v<32)=false:=decide_eq_false (by omega)
    have f1' : ¬ v<32:=by omega
    have f2:decide (v>126)=false:=decide_eq_false (by omega)
    have f3:(v==34)=false:=beq_false_of_ne hc34
    by_cases h92:c=92
    case neg =>
     have q92:(v==92)=false:=beq_false_of_ne (by rw [<- hv];exact zDH (n:=92) (by omega) h92)
     have Hst:=Lib.hid (zGl (m':=x+1) Hun.out (by rw [HL.out];exact zF2 hbad h92))
     have Hv:=Lib.hid hv
     clear hbad hv h92
     go_wp2_with fail
     refine (wB w.heap.size w.heap.size acc c v _ Hv.out.symm HI.out (by omega) Hb.out.size).mono ?_
     rintro e2 w2 ⟨rfl,h2,hb2⟩
     have H2:=Lib.hid h2
     have Hb2:=Lib.hid (Hb.out.trans hb2)
     clear h2 hb2
     go_wp2
     go_roundg (gk-1)
     case measure=>have:=Hmj.out;omega
     case rel=>exact ⟨x+1,acc++[c],by have:=Hmj.out;omega,by go_num,by have:=Hac.out;simp;omega,Hst.out,Hb2.out,H2.out⟩
    subst h92
    obtain rfl:v=92:=by rw [<- hv];rfl
    clear hbad hv hc34 f1 f1' f2 f3 hc256
    by_cases hlt1:x+1<d.size
    case neg =>
     have Hno:=Lib.hid (Hu.out.trans (zC3 Hun.out (by rw [HL.out,List.drop_of_length_le (by simp;omega)];exact unqU_last)))
     have q1:((x:Int)+1==(d.size:Int))=true:=by rw [beq_iff_eq];omega
     go_wp2
     go_ret2
     exact ⟨by rw [Hno.out];rfl,Hb.out⟩
    have q1:((x:Int)+1==(d.size:Int))=false:=beq_false_of_ne (by omega)
    have hxi1:(x:Int)+1<(d.size:Int):=by omega
    have hb1:=zIf hlt1
    rw [bV_bC] at hb1
    have HL1:=Lib.hid (HL.out.trans (by rw [zJY hlt1]))
    clear HL
    have HS:=Lib.hid (plainP (bC d (x+1)) _ rfl wr)
    unfold Sm at HS
    generalize bC d (x+1)=e at *
    cases hsim:simU e with
    |some y =>
     rw [hsim] at HS
     unfold simV at HS
     have Hst:=Lib.hid (zGl (m':=x+2) Hun.out (by rw [HL1.out];exact zC4 hsim))
     clear hsim
     generalize (e.toNat:Int)=ev at *
     go_wp2_with fail
     refine HS.out.mono ?_
     rintro e2 w2 ⟨rfl,rfl⟩
     go_wp2_with fail
     refine (wB w.heap.size w.heap.size acc y (y.toNat:Int) _ rfl HI.out (by omega) Hb.out.size).mono ?_
     rintro e2 w2 ⟨rfl,h2,hb2⟩
     have H2:=Lib.hid h2
     have Hb2:=Lib.hid (Hb.out.trans hb2)
     clear h2 hb2
     go_wp2
     go_roundg (gk-2)
     case measure=>have:=Hmj.out;omega
     case rel=>exact ⟨x+2,acc++[y],by have:=Hmj.out;omega,by go_num,by have:=Hac.out;simp;omega,Hst.out,Hb2.out,H2.out⟩
    |none =>
     rw [hsim] at HS
     unfold simV at HS
     have hrl:(d.data.toList.drop (x+1+1)).length=d.size-(x+2):=by simp
     by_cases h117:e=117
     case neg =>
      have q117:((e.toNat:Int)==117)=false:=beq_false_of_ne (zDH (n:=117) (by omega) h117)
      have Hno:=Lib.hid (Hu.out.trans (zC3 Hun.out (by rw [HL1.out];exact unqU_no hsim (.inl h117))))
      clear hsim h117
      have n117 : ¬ (e.toNat:Int)=117:=by simpa using q117
      generalize (e.toNat:Int)=ev at *
      go_wp2_with fail
      refine HS.out.mono ?_
      rintro e2 w2 ⟨rfl,rfl⟩
      go_wp2
      all_goals first
       |(exfalso;omega)
       |(go_ret2
         exact ⟨by rw [Hno.out];rfl,Hb.out⟩)
     have he:(e.toNat:Int)=117:=by rw [h117];rfl
     rw [he] at hb1 HS
     by_cases hfit:x+6<=d.size
     case neg =>
      have q6:decide ((x:Int)+1+4>=(d.size:Int))=true:=decide_eq_true (by omega)
      have Hno:=Lib.hid (Hu.out.trans (zC3 Hun.out (by rw [HL1.out];exact unqU_no hsim (.inr (by rw [hrl];omega)))))
      clear hsim h117 he
      go_wp2_with fail
      refine HS.out.mono ?_
      rintro e2 w2 ⟨rfl,rfl⟩
      go_wp2
      go_ret2
      exact ⟨by rw [Hno.out];rfl,Hb.out⟩
     have q6:decide ((x:Int)+1+4>=(d.size:Int))=false:=decide_eq_false (by omega)
     have HL2:d.data.toList.drop x=92::117::d.data.toList.drop (x+1+1):=by rw [HL1.out,h117]
     have Hcode:=Lib.hid ((congrArg unqU HL2).trans (zHe (by rw [hrl];omega)))
     clear HL2
     have hksz:(d.extract (x+2) (x+6)).size=4:=by rw [ByteArray.size_extract];omega
     have Hcl:=Lib.hid (cut_list d x)
     obtain ⟨k,hk⟩ : ∃ k,d.extract (x+2) (x+6)=k:=⟨_,rfl⟩
     have hk':d.extract (x+1+1) (x+1+5)=k:=hk
     rw [hk] at hksz Hcl
     have Hd4:=Lib.hid (show (d.data.toList.drop (x+1+1)).drop 4=d.data.toList.drop (x+6) by rw [List.drop_drop])
     clear hsim h117 he
     go_wp2_with fail
     have hcv:=Lib.run_convert_string_bytes (P:=Tryz.prog) wr 9 133 5 k Tryz.underlying9 Tryz.underlying133 Tryz.underlying5
     obtain ⟨W2,hW2⟩ : ∃ W2,Lib.bytesWorld wr 5 k=W2:=⟨_,rfl⟩
     have hcell : ∀ j:Nat,j<4->W2.cell? ⟨wr.heap.size,j,none⟩=some (.int .u8 ((bC k j).toNat:Int)):=fun j hj=>by rw [<- hW2];exact Lib.bytesWorld_cell wr 5 k j (by omega)
     have hbl:Below wr.heap.size wr W2:=by rw [<- hW2];exact Lib.bytesWorld_below _ _ _
     have HI2:=Lib.hid (isB_keep HI.out hbl)
     have Hb2:=Lib.hid (Hb.out.trans (hbl.mono Hb.out.size))
     have Hcell:=Lib.hid hcell
     rw [hW2,hksz] at hcv
     clear hW2 hbl hcell
     generalize grownCap wr 4 0 5=cp at hcv
     obtain ⟨bk,hbk⟩ : ∃ bk,wr.heap.size=bk:=⟨_,rfl⟩
     rw [hbk] at hcv Hcell
     clear hbk
     refine HS.out.mono ?_
     rintro e2 w2 ⟨rfl,rfl⟩
     go_wp2
     go_loopg [9,92] 4 (fun j n i wr2 => ∃ m u:Nat,m+j=4/\i = .int .i64 m/\n = .int .i64 u/\u<16^m/\codeFrom 0 k.data.toList=codeFrom u (k.data.toList.drop m)/\wr2=W2)
     case atStart=>exact ⟨0,0,by omega,rfl,rfl,by simp,rfl,rfl⟩
     case round =>
      obtain ⟨z,u,hzj,rfl,rfl,hu,hc,rfl⟩:=hrel
      clear hk hk'
      have Hzj:=Lib.hid hzj;have hzn:z<=4:=by omega
      clear hzj
      have Hc:=Lib.hid hc
      clear hc
      by_cases hz4:z<4
      . have hu2:u<65536:=Nat.lt_of_lt_of_le hu (Nat.pow_le_pow_right (by omega) (by omega:z<=4))
        have Hu16:=Lib.hid hu
        clear hu
        have hzi:(z:Int)<4:=by omega
        have hcl:=Hcell.out z hz4
        have Hdr:=Lib.hid (zJY (s:=k) (x:=z) (by omega))
        generalize bC k z=g at *
        have HIx:=Lib.hid (Tryz.strings_IndexByte ⟨#[48,49,50,51,52,53,54,55,56,57,97,98,99,100,101,102]⟩ (bits BinOp.or IntKind.u8 (g.toNat:Int) 32) wr)
        rw [show Lib.indexByte (⟨#[48,49,50,51,52,53,54,55,56,57,97,98,99,100,101,102]⟩:ByteArray).data.toList (bits BinOp.or IntKind.u8 (g.toNat:Int) 32).toNat.toUInt8=hexIx g from rfl] at HIx
        cases hval:valU g with
        |some dd =>
         have hd16:=val_lt hval
         obtain ⟨j1,j2,j3⟩:=ix_some hval
         rw [j1] at HIx
         have Hok:=Lib.hid (show codeFrom 0 k.data.toList=codeFrom (16*u+dd) (k.data.toList.drop (z+1)) by rw [Hc.out,Hdr.out,code_some hval])
         clear hval j1
         have g0:decide ((dd:Int)<0)=false:=decide_eq_false (by omega)
         have g0' : ¬ (dd:Int)<0:=by omega
         have g48:decide ((g.toNat:Int)<48)=false:=decide_eq_false (by omega)
         have g48' : ¬ (g.toNat:Int)<48:=by omega
         go_wp2_with fail
         refine HIx.out.mono ?_
         rintro e2 w3 ⟨rfl,rfl⟩
         rcases j3 with j3 | j3
         . have g57:decide ((g.toNat:Int)>57)=false:=decide_eq_false (by omega)
           go_wp2
           all_goals first
            |(exfalso;omega)
            |(go_roundg (gk-1)
              case measure=>have:=Hzj.out;omega
              case rel=>exact ⟨z+1,16*u+dd,by have:=Hzj.out;omega,by go_num,by go_num,by have:=Hu16.out;rw [Nat.pow_succ];omega,Hok.out,rfl⟩)
         . have g65:decide ((g.toNat:Int)<65)=false:=decide_eq_false (by omega)
           rcases Nat.lt_or_ge 57 g.toNat with j4 | j4
           . have g57:decide ((g.toNat:Int)>57)=true:=decide_eq_true (by omega)
             go_wp2
             all_goals first
              |(exfalso;omega)
              |(go_roundg (gk-1)
                case measure=>have:=Hzj.out;omega
                case rel=>exact ⟨z+1,16*u+dd,by have:=Hzj.out;omega,by go_num,by go_num,by have:=Hu16.out;rw [Nat.pow_succ];omega,Hok.out,rfl⟩)
           . exfalso;omega
        |none =>
         obtain ⟨j1,j2,j3⟩:=ix_none hval
         have Hcn:=Lib.hid (show codeFrom 0 k.data.toList=none by rw [Hc.out,Hdr.out,code_none hval])
         have Hno:=Lib.hid (Hu.out.trans (zC3 Hun.out (Hcode.out.trans (by rw [show (d.data.toList.drop (x+1+1)).take 4=k.data.toList from Hcl.out.symm,Hcn.out]))))
         clear hval
         obtain ⟨ix,hix⟩ : ∃ ix,hexIx g=ix:=⟨_,rfl⟩
         rw [hix] at HIx j1 j2 j3
         clear hix
         go_wp2_with fail
         refine HIx.out.mono ?_
         rintro e2 w3 ⟨rfl,rfl⟩
         rcases Int.lt_or_le ix 0 with h | h
         . have g0:decide (ix<0)=true:=decide_eq_true h
           go_wp2
           all_goals first
            |(exfalso;omega)
            |(go_ret2
              exact ⟨by rw [Hno.out];rfl,Hb2.out⟩)
         . have g0:decide (ix<0)=false:=decide_eq_false (by omega)
           have g0' : ¬ ix<0:=by omega
           rcases Nat.lt_or_ge g.toNat 48 with h' | h'
           . have g48:decide ((g.toNat:Int)<48)=true:=decide_eq_true (by omega)
             go_wp2
             all_goals first
              |(exfalso;omega)
              |(go_ret2
                exact ⟨by rw [Hno.out];rfl,Hb2.out⟩)
           . have g48:decide ((g.toNat:Int)<48)=false:=decide_eq_false (by omega)
             have g48' : ¬ (g.toNat:Int)<48:=by omega
             have g57:decide ((g.toNat:Int)>57)=true:=decide_eq_true (by omega)
             have g65:decide ((g.toNat:Int)<65)=true:=decide_eq_true (by omega)
             go_wp2
             all_goals first
              |(exfalso;omega)
              |(go_ret2
                exact ⟨by rw [Hno.out];rfl,Hb2.out⟩)
      . obtain rfl:z=4:=by omega
        have Hfin:=Lib.hid (show codeFrom 0 k.data.toList=some u by
         rw [Hc.out,List.drop_of_length_le (by simp;omega)];rfl)
        clear hu
        have Hcode2:=Lib.hid (Hcode.out.trans (by rw [show (d.data.toList.drop (x+1+1)).take 4=k.data.toList from Hcl.out.symm,Hfin.out]))
        by_cases hn:u<=255
        case neg =>
         have n255:decide ((u:Int)>255)=true:=decide_eq_true (by omega)
         have Hno:=Lib.hid (Hu.out.trans (zC3 Hun.out (Hcode2.out.trans (if_neg hn))))
         go_wp2
         go_ret2
         exact ⟨by rw [Hno.out];rfl,Hb2.out⟩
        have n255:decide ((u:Int)>255)=false:=decide_eq_false (by omega)
        have Hst:=Lib.hid (zGl (m':=x+6) Hun.out (by rw [<- Hd4.out];exact Hcode2.out.trans (if_pos hn)))
        have hon:(u:Int)=((UInt8.ofNat u).toNat:Int):=by simp;omega
        have Hon:=Lib.hid hon
        clear hon
        go_wp2_with fail
        refine (wB w.heap.size w.heap.size acc (UInt8.ofNat u) (u:Int) _ Hon.out HI2.out (by omega) Hb2.out.size).mono ?_
        rintro e2 w3 ⟨rfl,h3,hb3⟩
        have H3:=Lib.hid h3
        have Hb3:=Lib.hid (Hb2.out.trans hb3)
        clear h3 hb3
        go_wp2
        go_roundg (d.size-(x+6))
        case measure=>have:=Hmj.out;omega
        case rel=>exact ⟨x+6,acc++[UInt8.ofNat u],by have:=Hmj.out;omega,by go_num,by have:=Hac.out;simp;omega,Hst.out,Hb3.out,H3.out⟩
  . obtain rfl:x=d.size:=by omega
    have Hfin:=Lib.hid (Hu.out.trans (unq_end Hun.out (by simp)))
    go_wp2_with fail
    refine (Tryz.Builder_String_any_k w.heap.size w.heap.size acc _ HI.out Hb.out.size).mono ?_
    rintro e w2 ⟨rfl,_,hb2,_⟩
    have Hb2:=Lib.hid (Hb.out.trans hb2)
    clear hb2
    have Ha:=Lib.hid (show uqV (some acc) = .tuple #[.string (bs acc),.int .i64 0] from rfl)
    go_wp2
    go_ret2
    exact ⟨by rw [Hfin.out,Ha.out];rfl,Hb2.out⟩
end
section
open Go.RowKit
attribute [local irreducible] wpList Calls Code.wp AW AWo OpOk seqK zz z8 loopK endK endKB AC ACB ACX zl absLexG Yld YldG Sub
def outP {ε α S:Type} (tR:TypeId) (cl:S->List V) (toV:α->V) (toP:ε->Value):Except ε (α × S)->Out
 |.ok (a,x) => .ret (toV a) [.box tR (cl x)]
 |.error e => .die (toP e)
abbrev cxE (e:Ge) (P:Program) (pas:Nat->Prop) (s:Sg) (w:World) (he:e.E w) (hp : ∀ k,k<e.G -> ¬ pas k) (out:Out):Cx:=⟨P,pas,s,w,e,he,hp,fun pv _ _=>out = .die pv,[]⟩
section
variable {X:Cx} {nn:Nat} {st:Vst nn} {o:Oper} {ops:Array Oper} {l:List Oper} {d:Option Tmp} {KK:Vst nn->Prop} {Q:Vst nn->Prop} {rd wr:Nat->List Nat} {k:Nat}
theorem zI6 {tR:TypeId} {cs:List V} {ns:List Nat} (h : ∀ φ,renL φ cs=cs):([Res.box tR cs].map (renR (φout ns)))=[Res.box tR cs]:=by simp [renR,h]
theorem opOk_m {tR:TypeId} {f:FuncId} {m:Nat} {vs az cs cs':List V} {r:V} {K:Vst nn->Prop} (h:act1 X.P st.rs (ev st) o.op = .call f vs) (hv:vs = .bx m 0::az) (hr:st.rs m=some (.box tR cs))
 (hc:ACB X.e X.P f (.bx (pn 0) 0::az) [.box tR cs] r [.box tR cs']) (hcs : ∀ φ,renL φ cs=cs) (hcs' : ∀ φ,renL φ cs'=cs') (haz : ∀ φ,renL φ az=az) (hrr : ∀ φ,renV φ r=r)
 (hK:K ((st.res m (.box tR cs')).put o.dst r)):OpOk X o st K:=by
 subst hv
 refine zBF [m] h hc (by simp) (by simp only [renL,renV,φin_one,haz]) (by simp [hr,renR,hcs]) ?_
 rw [zI6 hcs',zB0,hrr]
 exact hK
theorem s_m {S:Type} {tR:TypeId} {f:FuncId} {m:Nat} {vs az cs:List V} {x x':S} {r:V} (cl:S->List V) (hren : ∀ φ x,renL φ (cl x)=cl x) (hg:o.guard=none) (hd:o.dst=d) (h:act1 X.P st.rs (ev st) o.op = .call f vs) (hv:vs = .bx m 0::az) (hr:st.rs m=some (.box tR cs)) (hx:cs=cl x)
 (hc:ACB X.e X.P f (.bx (pn 0) 0::az) [.box tR (cl x)] r [.box tR (cl x')]) (haz : ∀ φ,renL φ az=az) (hrr : ∀ φ,renV φ r=r) (hK:AWo X ops l ((st.res m (.box tR (cl x'))).put d r) KK):AWo X ops (o::l) st KK:=by
 subst hx
 exact zAC hg (opOk_m h hv hr hc (fun φ=>hren φ x) (fun φ=>hren φ x') haz hrr (by rw [hd];exact hK))
theorem zAT {S:Type} {tR:TypeId} {f:FuncId} {m j:Nat} {want b:Bool} {vs az cs:List V} {x x':S} {r:V} (cl:S->List V) (hren : ∀ φ x,renL φ (cl x)=cl x) (hg:o.guard=some (j,want)) (hd:o.dst=d) (hb:gval ops st j=some b) (hne:(b==want)=true) (h:act1 X.P st.rs (ev st) o.op = .call f vs) (hv:vs = .bx m 0::az) (hr:st.rs m=some (.box tR cs)) (hx:cs=cl x)
 (hc:ACB X.e X.P f (.bx (pn 0) 0::az) [.box tR (cl x)] r [.box tR (cl x')]) (haz : ∀ φ,renL φ az=az) (hrr : ∀ φ,renV φ r=r) (hK:AWo X ops l ((st.res m (.box tR (cl x'))).put d r) KK):AWo X ops (o::l) st KK:=by
 subst hx
 exact zBr hg hb (fun _=>opOk_m h hv hr hc (fun φ=>hren φ x) (fun φ=>hren φ x') haz hrr (by rw [hd];exact hK)) fun e=>(e (by simpa using hne)).elim
theorem opOk_pr {ε α S:Type} {tR:TypeId} {f:FuncId} {m:Nat} {vs az cs:List V} {x:S} {spec:Except ε (α × S)} {cl:S->List V} {toV:α->V} {toP:ε->Value} {K:Vst nn->Prop} (hren : ∀ φ x,renL φ (cl x)=cl x) (h:act1 X.P st.rs (ev st) o.op = .call f vs) (hv:vs = .bx m 0::az) (hr:st.rs m=some (.box tR cs)) (hx:cs=cl x)
 (hc:ACE X.e X.P f (.bx (pn 0) 0::az) [.box tR (cl x)] (outP tR cl toV toP spec)) (haz : ∀ φ,renL φ az=az) (hrr : ∀ φ a,renV φ (toV a)=toV a)
 (hE : ∀ e,spec = .error e->X.pk (toP e) st.tm (forgetN st.rs [m])) (hK : ∀ a x',spec = .ok (a,x')->K ((st.res m (.box tR (cl x'))).put o.dst (toV a))):OpOk X o st K:=by
 subst hv
 subst hx
 refine zGH [m] h hc (by simp) (by simp only [renL,renV,φin_one,haz]) (by simp [hr,renR,hren]) (fun r bs' e => ?_) fun pv e => ?_
 . cases hs:spec with
   |error q=>rw [hs] at e;simp [outP] at e
   |ok q =>
    obtain ⟨a,x'⟩:=q
    rw [hs] at e
    simp only [outP,Out.ret.injEq] at e
    obtain ⟨rfl,rfl⟩:=e
    rw [zI6 (fun φ=>hren φ x'),zB0,hrr]
    exact hK a x' hs
 . cases hs:spec with
   |error q=>rw [hs] at e;simp only [outP,Out.die.injEq] at e;subst e;exact hE q hs
   |ok q=>rw [hs] at e;simp [outP] at e
theorem s_pr {ε α S:Type} {tR:TypeId} {f:FuncId} {m:Nat} {vs az cs:List V} {x:S} {spec:Except ε (α × S)} {toV:α->V} {toP:ε->Value} (cl:S->List V) (hren : ∀ φ x,renL φ (cl x)=cl x) (hg:o.guard=none) (hd:o.dst=d) (h:act1 X.P st.rs (ev st) o.op = .call f vs) (hv:vs = .bx m 0::az) (hr:st.rs m=some (.box tR cs)) (hx:cs=cl x)
 (hc:ACE X.e X.P f (.bx (pn 0) 0::az) [.box tR (cl x)] (outP tR cl toV toP spec)) (haz : ∀ φ,renL φ az=az) (hrr : ∀ φ a,renV φ (toV a)=toV a)
 (hE : ∀ e,spec = .error e->X.pk (toP e) st.tm (forgetN st.rs [m])) (hK : ∀ a x',spec = .ok (a,x')->AWo X ops l ((st.res m (.box tR (cl x'))).put d (toV a)) KK):AWo X ops (o::l) st KK:=
 zAC hg (opOk_pr hren h hv hr hx hc haz hrr hE fun a x' e=>by rw [hd];exact hK a x' e)
theorem g_pr {ε α S:Type} {tR:TypeId} {f:FuncId} {m:Nat} {vs az cs:List V} {x:S} {spec:Except ε (α × S)} {toV:α->V} {toP:ε->Value} (cl:S->List V) (hren : ∀ φ x,renL φ (cl x)=cl x) (dv:α) (hg:o.guard=none) (hd:o.dst=d) (h:act1 X.P st.rs (ev st) o.op = .call f vs) (hv:vs = .bx m 0::az) (hr:st.rs m=some (.box tR cs)) (hx:cs=cl x)
 (hc:ACE X.e X.P f (.bx (pn 0) 0::az) [.box tR (cl x)] (outP tR cl toV toP spec)) (haz : ∀ φ,renL φ az=az) (hrr : ∀ φ a,renV φ (toV a)=toV a) (hl:[m].all (fun n=>(wr k).contains n)=true)
 (hE : ∀ e,spec = .error e -> ∀ tm rs,X.pk (toP e) tm rs) (hK : ∀ a x',spec = .ok (a,x')->absLexG X ops rd wr Q (k+1) l ((st.res m (.box tR (cl x'))).put d (toV a)))
 (hD : ∀ e,spec = .error e->absLexG X ops rd wr Q (k+1) l ((st.res m (.box tR [.c (.tuple #[])])).put d (toV dv))):absLexG X ops rd wr Q k (o::l) st:=by
 subst hv
 subst hx
 cases hs:spec with
 |error e =>
  rw [hs] at hc
  refine zJR [m] (toV dv) [.box tR [.c (.tuple #[])]] hg hd h hc (by simp) (by simp only [renL,renV,φin_one,haz]) (by simp [hr,renR,hren]) rfl hl (hE e hs) ?_
  rw [zB0]
  exact hD e hs
 |ok q =>
  obtain ⟨a,x'⟩:=q
  rw [hs] at hc
  refine g_callB [m] hg hd h hc (by simp) (by simp only [renL,renV,φin_one,haz]) (by simp [hr,renR,hren]) rfl hl ?_
  rw [zI6 (fun φ=>hren φ x'),zB0,hrr]
  exact hK a x' hs
theorem zAb {P:Program} {rs:Array ResultVar} {x:ResultVar} {out:Out} {v:V} {ρ:Res} (hx:rs.toList=[x]) (h:res1 P st x = .val True v) (hr:st.rs (pn 0)=some ρ) (ho:out = .ret v.out [ρ]):zFc P rs out .normal st:=
 zKJ ho (by rw [hx];exact ⟨v,h,rfl⟩) ⟨hr,trivial⟩
theorem zKI {P:Program} {rs:Array ResultVar} {out:Out} {ρ:Res} (hx:rs.toList=[]) (hr:st.rs (pn 0)=some ρ) (ho:out = .ret (.tup []) [ρ]):zFc P rs out .normal st:=
 zKJ ho (by rw [hx];rfl) ⟨hr,trivial⟩
end
theorem zGB {φ:Nat->Option Nat} {g:TypeId->D->List V} (hg : ∀ t d,renL φ (g t d)=g t d) : ∀ (fs:List Field) (j:Nat) (d:D),renL φ (zAp g fs j d)=zAp g fs j d
 |[],_,_=>by simp [zAp,renL]
 |f::fs,j,d=>by
  have app : ∀ (a b:List V),renL φ (a++b)=renL φ a++renL φ b:=fun a b=>by
   induction a with
   |nil=>rfl
   |cons x r ih=>simp only [List.cons_append,renL,ih]
  rw [zAp,app,hg,zGB hg fs (j+1) d]
theorem ren_cells {P:Program} {φ:Nat->Option Nat} : ∀ (n:Nat) (t:TypeId) (d:D),renL φ (cellsV P n t d)=cellsV P n t d
 |0,_,_=>rfl
 |n+1,t,d=>by
  have anys : ∀ k,renL φ (List.replicate k V.any)=List.replicate k V.any:=fun k=>by
   induction k with
   |zero=>rfl
   |succ k ih=>rw [List.replicate_succ,renL,ih];rfl
  unfold cellsV
  split
  all_goals first
   |rfl
   |exact zGB (fun t d=>ren_cells n t d) _ _ _
   |exact anys _
end
section
open Go.RowKit
attribute [local irreducible] wpList Calls Code.wp
def EN5:Ge where
 G:=max (3+1) (max (2+1) (1+1))
 E:=fun w=>Env w/\max (3+1) (max (2+1) (1+1))<=w.heap.size
 stays w w' h hs:=by
  obtain ⟨⟨h1,⟨tp,p,h2⟩,⟨tp',p',h3⟩⟩,h4⟩:=h
  refine ⟨⟨zDh (g:=3) (by kernel_rfl) (by omega) h1 hs,⟨tp,p,zDh (g:=2) (by kernel_rfl) (by omega) h2 hs⟩,⟨tp',p',zDh (g:=1) (by kernel_rfl) (by omega) h3 hs⟩⟩,?_⟩
  generalize hg:max (3+1) (max (2+1) (1+1))=g at hs h4 |-
  have hg0:0<g:=by omega
  have h5:=hs (g-1) (by omega)
  have h6:w.heap[g-1]? = some w.heap[g-1]:=Array.getElem?_eq_getElem (by omega)
  have h7:=(Array.getElem?_eq_some_iff.1 (h5.trans h6)).1
  omega
 le w h:=h.2
theorem en5_en {w:World} (h:EN5.E w):EN.E w:=h.1.1
theorem EN5_G:EN.G<=EN5.G:=by show 3+1<=max _ _;omega
theorem AC.five {f:FuncId} {args:List V} {r:V} (h:AC EN Tryz.prog f args r):AC EN5 Tryz.prog f args r:=fun s w us hus hfx he=>h s w us hus hfx (en5_en he)
theorem ACB.five {f:FuncId} {args:List V} {bs bs':List Res} {r:V} (h:ACB EN Tryz.prog f args bs r bs'):ACB EN5 Tryz.prog f args bs r bs':=fun pas s w us hus hm he hp=>h pas s w us hus hm (en5_en he) fun k hk=>hp k (Nat.lt_of_lt_of_le hk EN5_G)
theorem zIm {f:FuncId} {args:List V} {r:V} {u:Value} (h : ∀ s w us,relL Tryz.prog s w args us.toList->Env w->(∀ s' w',rel Tryz.prog s' w' r u)/\Calls Tryz.prog f us w fun e w'=>e = .returned u/\Below w.heap.size w w'):AC EN5 Tryz.prog f args r:=by
 intro s w us hus hfx he
 obtain ⟨hr,hc⟩:=h s w us hus he.1
 refine hc.mono ?_
 rintro e w' ⟨rfl,hb⟩
 have hc : ∀ b o,s.F b o->w'.cell? ⟨b,o,none⟩=w.cell? ⟨b,o,none⟩:=fun b o hF=>by
  obtain ⟨x,hx⟩:=Option.isSome_iff_exists.1 (hfx b o hF)
  exact hb.cell (p:=⟨b,o,none⟩) (block_lt_of_cell hx)
 exact ⟨u,s.F,rfl,Frm.of_below hb,fun b o hF=>⟨hc b o hF,hF⟩,fun b o hF=>by rw [hc b o hF];exact hfx b o hF,fun _ _ _ h=>h,hr _ _⟩
theorem zJ0 {P:Program} {s:Sg} {w:World} {v v2:V} {u u2:Value} (h:rel P s w v u) (h2:rel P s w v2 u2):rel P s w (.tup [v,v2]) (.tuple #[u,u2]):=by
 rw [rel];exact ⟨_,rfl,by simp only [relL];exact ⟨h,h2,trivial⟩⟩
theorem zGy {P:Program} {s:Sg} {w:World} {n:Int} (h : -9223372036854775808<=n/\n<=9223372036854775807):rel P s w (.c (.int .i64 n)) (.int .i64 n):=by rw [rel];exact ⟨rfl,zCg.2 h⟩
theorem rel_str {P:Program} {s:Sg} {w:World} {x:ByteArray} (h:x.size<=maxLen):rel P s w (.c (.string x)) (.string x):=by rw [rel];exact ⟨rfl,h⟩
theorem zIy {P:Program} {s:Sg} {w:World} {x:ByteArray} {us:Array Value} (h:relL P s w [.c (.string x)] us.toList):us = #[.string x]/\x.size<=maxLen:=by
 obtain ⟨u,rfl,h1⟩:=zI7 h
 rw [rel] at h1
 exact ⟨by rw [h1.1],h1.2⟩
theorem numQ_range {l:List UInt8} : -9223372036854775808<=numQ l/\numQ l<=9223372036854775807:=by
 unfold numQ
 cases h:numU l with
 |ok n=>exact (itoa_num h).2
 |range=>decide
 |_=>decide
theorem nerU_cases (r:Lib.NumEnd Int):nerU r=0\/nerU r=3\/nerU r=4:=by cases r<;>simp [nerU]
theorem numT_Q (l:List UInt8):numT (numU l) = .tuple #[.int .i64 (numQ l),.int .i64 (nerU (numU l))]:=by
 unfold numQ
 cases numU l<;>rfl
def numVV (l:List UInt8):V:=.tup [.c (.int .i64 (numQ l)),.c (.int .i64 (nerU (numU l)))]
theorem num_rel {P:Program} {s:Sg} {w:World} (l:List UInt8):rel P s w (numVV l) (numT (numU l)):=by
 rw [numT_Q]
 exact zJ0 (zGy numQ_range) (zGy (by rcases nerU_cases (numU l) with h | h | h<;>rw [h]<;>decide))
theorem zGI (s:ByteArray) (hs:s.size<=281474976710656):AC EN5 Tryz.prog 113 [.c (.string s)] (numVV (tx s)):=by
 refine zIm (u:=numT (numU (tx s))) fun σ w us hus he => ?_
 obtain ⟨rfl,-⟩:=zIy hus
 exact ⟨fun s' w'=>num_rel _,numberP s w he hs⟩
def uqE:Option (List UInt8)->Int
 |some _=>0
 |none=>3
def uqVV (l:List UInt8):V:=.tup [.c (.string (bs ((unquoteU l).getD []))),.c (.int .i64 (uqE (unquoteU l)))]
theorem uqV_E (r:Option (List UInt8)):uqV r = .tuple #[.string (bs (r.getD [])),.int .i64 (uqE r)]:=by
 cases r<;>rfl
theorem unq_len (l:List UInt8):((unquoteU l).getD []).length<=l.length:=by
 have key : ∀ (k:Nat) (l:List UInt8),((unqF k l).getD []).length<=l.length:=by
  intro k
  induction k with
  |zero=>intro l;cases l<;>simp [unqF]
  |succ k ih =>
   intro l
   cases l with
   |nil=>simp [unqF]
   |cons c r =>
    show ((stpU (unqF k) c r).getD []).length<=_
    have hm : ∀ (q:List UInt8) (x:UInt8),q.length<=r.length->(((unqF k q).map (x :: ·)).getD []).length<=(c::r).length:=fun q x hq=>by
     have:=ih q
     cases hx:unqF k q with
     |none=>simp
     |some u=>rw [hx] at this;simp at this |-;omega
    unfold stpU
    by_cases h1:c.toNat<32\/126<c.toNat\/c=34
    . rw [if_pos h1];simp
    rw [if_neg h1]
    by_cases h2:c≠92
    . rw [if_pos h2];exact hm r c (Nat.le_refl _)
    rw [if_neg h2]
    cases r with
    |nil=>simp
    |cons d q =>
     dsimp only
     cases simU d with
     |some x=>exact hm q x (by simp)
     |none =>
      dsimp only
      by_cases h3:d≠117\/q.length<4
      . rw [if_pos h3];simp
      rw [if_neg h3]
      cases codeFrom 0 (q.take 4) with
      |none=>simp
      |some n =>
       dsimp only
       by_cases h4:n<=255
       . rw [if_pos h4];exact hm (q.drop 4) _ (by simp;omega)
       . rw [if_neg h4];simp
 unfold unquoteU
 split
 . have:=key ((l.drop 1).take (l.length-2)).length ((l.drop 1).take (l.length-2))
   have h2:((l.drop 1).take (l.length-2)).length<=l.length:=by rw [List.length_take,List.length_drop];omega
   exact Nat.le_trans this h2
 . simp
theorem unq_ok {s:ByteArray} (hs:s.size<=100000) {P:Program} {σ:Sg} {w:World}:rel P σ w (uqVV (tx s)) (uqV (unquoteU (tx s))):=by
 rw [uqV_E]
 refine zJ0 (rel_str ?_) (zGy ?_)
 . have h1:=unq_len (tx s)
   have h2:=zA0 s
   rw [zW];unfold maxLen;omega
 . cases unquoteU (tx s) with
   |none=>exact ⟨by decide,by decide⟩
   |some _=>exact (⟨by decide,by decide⟩:(-9223372036854775808:Int)<=0/\(0:Int)<=9223372036854775807)
theorem zIv (s:ByteArray) (hs:s.size<=100000):AC EN5 Tryz.prog 115 [.c (.string s)] (uqVV (tx s)):=by
 refine zIm (u:=uqV (unquoteU (tx s))) fun σ w us hus he => ?_
 obtain ⟨rfl,-⟩:=zIy hus
 exact ⟨fun s' w'=>unq_ok hs,unquoteP s w hs⟩
end
section
open Go.RowKit
attribute [local irreducible] wpList Calls Code.wp AW AWo OpOk seqK zz z8 loopK endK AC zl Yld Sub
attribute [local irreducible] ACB ACX ACE absLexG YldG
def tokD (t:Tok):D:=.obj [.int t.k,.str (bs t.s),.int (t.i:Int)]
def tokC (t:Tok):List V:=[.c (.int .i64 t.k),.c (.string (bs t.s)),.c (.int .i64 (t.i:Int))]
theorem zDB:zAD Tryz.prog 46=some (3,8):=by kernel_rfl
theorem zFB {s:List UInt8} {a:Array UInt8} (h:((bs s).toList==(⟨a⟩:ByteArray).toList)=true):s=a.toList:=by
 rw [Lib.toList_data,Lib.toList_data,zAq] at h
 simpa using h
theorem zBY {s:List UInt8} {a:Array UInt8} (h:((bs s).toList==(⟨a⟩:ByteArray).toList)=false):s≠a.toList:=by
 rw [Lib.toList_data,Lib.toList_data,zAq] at h
 simpa using h
noncomputable def VV (d:D):V:=.agg (cellsV Tryz.prog 12 53 d)
theorem vInt_ac (n:Int):AC EN5 Tryz.prog 227 [.c (.int .i64 n)] (VV (valD 2 n [] [] [])):=by
 refine zN 5 Tryz.func227 rfl rfl rfl rfl ?_
 intro s w he
 repeat' (first
|apply zAx (VV (valD 2 n [] [] [])) rfl rfl
 . conv=>lhs;whnf;arg 2;whnf
 . repeat' (first | exact VLe.refl _ | exact VLe.nil _ | exact VLe.lit _ _ | exact VLe.own _ _ _ | apply VLe.agg | apply VLeL.cons | exact VLeL.nil)
|refine zA ?_
|refine zB ?_
|refine zH ?_
|apply aw_1
 conv=>whnf
 refine ⟨?_,trivial⟩
|apply s_1
 conv=>whnf;arg 1;arg 4;arg 3;whnf
 refine ⟨?_,?_⟩
|apply zS rfl rfl rfl
 . conv=>lhs;whnf
 . conv=>lhs;whnf;arg 1;whnf
 . conv=>lhs;whnf;arg 1;whnf
 . exact ⟨by kernel_rfl,by kernel_rfl⟩
 . rfl
|refine zE ?_
|refine ⟨_,by conv=>lhs;whnf;arg 2;whnf,?_⟩;conv=>rhs;whnf
|exact trivial)
 rfl
theorem vText_ac (t:List UInt8):AC EN5 Tryz.prog 228 [.c (.string (bs t))] (VV (valD 3 0 t [] [])):=by
 refine zN 5 Tryz.func228 rfl rfl rfl rfl ?_
 intro s w he
 repeat' (first
|apply zAx (VV (valD 3 0 t [] [])) rfl rfl
 . conv=>lhs;whnf;arg 2;whnf
 . repeat' (first | exact VLe.refl _ | exact VLe.nil _ | exact VLe.lit _ _ | exact VLe.own _ _ _ | apply VLe.agg | apply VLeL.cons | exact VLeL.nil)
|refine zA ?_
|refine zB ?_
|refine zH ?_
|apply aw_1
 conv=>whnf
 refine ⟨?_,trivial⟩
|apply s_1
 conv=>whnf;arg 1;arg 4;arg 3;whnf
 refine ⟨?_,?_⟩
|apply zS rfl rfl rfl
 . conv=>lhs;whnf
 . conv=>lhs;whnf;arg 1;whnf
 . conv=>lhs;whnf;arg 1;whnf
 . exact ⟨by kernel_rfl,by kernel_rfl⟩
 . rfl
|refine zE ?_
|refine ⟨_,by conv=>lhs;whnf;arg 2;whnf,?_⟩;conv=>rhs;whnf
|exact trivial)
 rfl
theorem vEnum_ac (t:List UInt8):AC EN5 Tryz.prog 248 [.c (.string (bs t))] (VV (valD 4 0 t [] [])):=by
 refine zN 5 Tryz.func248 rfl rfl rfl rfl ?_
 intro s w he
 repeat' (first
|apply zAx (VV (valD 4 0 t [] [])) rfl rfl
 . conv=>lhs;whnf;arg 2;whnf
 . repeat' (first | exact VLe.refl _ | exact VLe.nil _ | exact VLe.lit _ _ | exact VLe.own _ _ _ | apply VLe.agg | apply VLeL.cons | exact VLeL.nil)
|refine zA ?_
|refine zB ?_
|refine zH ?_
|apply aw_1
 conv=>whnf
 refine ⟨?_,trivial⟩
|apply s_1
 conv=>whnf;arg 1;arg 4;arg 3;whnf
 refine ⟨?_,?_⟩
|apply zS rfl rfl rfl
 . conv=>lhs;whnf
 . conv=>lhs;whnf;arg 1;whnf
 . conv=>lhs;whnf;arg 1;whnf
 . exact ⟨by kernel_rfl,by kernel_rfl⟩
 . rfl
|refine zE ?_
|refine ⟨_,by conv=>lhs;whnf;arg 2;whnf,?_⟩;conv=>rhs;whnf
|exact trivial)
 rfl
theorem vBool_ac (b:Bool):AC EN5 Tryz.prog 247 [.c (.bool b)] (VV (valD 1 (if b=true then 1 else 0) [] [] [])):=by
 refine zN 8 Tryz.func247 rfl rfl rfl rfl ?_
 intro s w he
 repeat' (first
|apply zAx (VV (valD 1 0 [] [] [])) rfl rfl
 . conv=>lhs;whnf;arg 2;whnf
 . repeat' (first | exact VLe.refl _ | exact VLe.nil _ | exact VLe.lit _ _ | exact VLe.own _ _ _ | apply VLe.agg | apply VLeL.cons | exact VLeL.nil)
|refine zA ?_
|refine zB ?_
|refine zH ?_
|apply aw_1
 conv=>whnf
 refine ⟨?_,trivial⟩
|apply s_1
 conv=>whnf;arg 1;arg 4;arg 3;whnf
 refine ⟨?_,?_⟩
|apply zS rfl rfl rfl
 . conv=>lhs;whnf
 . conv=>lhs;whnf;arg 1;whnf
 . conv=>lhs;whnf;arg 1;whnf
 . exact ⟨by kernel_rfl,by kernel_rfl⟩
 . rfl
|refine zZ (by conv=>lhs;whnf) ?_ ?_<;>intro hb
|refine zE ?_
|refine ⟨_,by conv=>lhs;whnf;arg 2;whnf,?_⟩;conv=>rhs;whnf
|exact trivial)
 . rw [if_pos hb];rfl
 . rw [if_neg (by rw [hb];decide)];rfl
def zVal:List V:=[.c (.int .i64 0),.c (.int .i64 0),.c (.string ⟨#[]⟩),.c (.slice none 0 0),.c (.slice none 0 0)]
theorem nx_nd (x:PS) (n:Nat):({ nxT x with nd:=n }:PS)=nxT ⟨x.ts,x.vr,n⟩:=by
 unfold nxT hdT
 split<;>rfl
theorem En.nd {x:PS} (h:En x) (n:Nat) (v:Bool):En ⟨x.ts,v,n⟩:=h
theorem zC0:zAD Tryz.prog 51=some (53,80):=by kernel_rfl
theorem value_bad {f lv:Nat} {x:PS} (h:zCN x=true):valueQ (f+1) lv x = .error ((hdT x).i,3):=by rw [valueQ,if_pos h]
theorem value_deep {f lv:Nat} {x:PS} (h:zCN x=false) (h2:24<lv):valueQ (f+1) lv x = .error ((hdT x).i,5):=by rw [valueQ,if_neg (by rw [h];decide),if_pos h2]
theorem value_big {f lv:Nat} {x:PS} (h:zCN x=false) (h2 : ¬ 24<lv) (h3:4096<=x.nd):valueQ (f+1) lv x = .error ((hdT x).i,4):=by rw [valueQ,if_neg (by rw [h];decide),if_neg h2,if_pos h3]
def zBi (f lv:Nat) (t:Tok) (y:PS):PR D:=
 if t.k=3 then .ok (valD 2 (numQ t.s) [] [] [],y)
 else if t.k=4 then .ok (valD 3 0 t.s [] [],y)
 else if t.k=2 then .ok (zDg t.s,y)
 else if t.s=[36] then thenQ (nameQ y) fun n z => .ok (valD 7 0 n [] [],z)
 else if t.s=[91] then thenQ (itemsQ (valueQ f (lv+1)) (y.ts.length+1) [] y) fun l z => .ok (valD 5 0 [] l [],z)
 else thenQ (zAG (valueQ f (lv+1)) (y.ts.length+1) [] [] y) fun l z => .ok (valD 6 0 [] l.2 l.1,z)
theorem value_go {f lv:Nat} {x:PS} (h:zCN x=false) (h2 : ¬ 24<lv) (h3 : ¬ 4096<=x.nd):valueQ (f+1) lv x=zBi f lv (hdT x) (nxT ⟨x.ts,x.vr,x.nd+1⟩):=by
 have e:=(nx_nd x (x.nd+1)).symm
 rw [valueQ,if_neg (by rw [h];decide),if_neg h2,if_neg h3,e]
 rfl
section
variable {f lv:Nat} {t:Tok} {y:PS}
theorem vt_3 (h:(t.k==3)=true):zBi f lv t y = .ok (valD 2 (numQ t.s) [] [] [],y):=by rw [zBi,if_pos (by simpa using h)]
theorem vt_4 (h3:(t.k==3)=false) (h:(t.k==4)=true):zBi f lv t y = .ok (valD 3 0 t.s [] [],y):=by rw [zBi,if_neg (by simpa using h3),if_pos (by simpa using h)]
theorem vt_2 (h3:(t.k==3)=false) (h4:(t.k==4)=false) (h:(t.k==2)=true):zBi f lv t y = .ok (zDg t.s,y):=by rw [zBi,if_neg (by simpa using h3),if_neg (by simpa using h4),if_pos (by simpa using h)]
theorem vt_l (h3:(t.k==3)=false) (h4:(t.k==4)=false) (h2:(t.k==2)=false) (h7:((bs t.s).toList==(⟨#[36]⟩:ByteArray).toList)=false) (h:((bs t.s).toList==(⟨#[91]⟩:ByteArray).toList)=true):zBi f lv t y=thenQ (itemsQ (valueQ f (lv+1)) (y.ts.length+1) [] y) fun l z => .ok (valD 5 0 [] l [],z):=by
 rw [zBi,if_neg (by simpa using h3),if_neg (by simpa using h4),if_neg (by simpa using h2),if_neg (zBY h7),if_pos (zFB h)]
theorem vt_o (h3:(t.k==3)=false) (h4:(t.k==4)=false) (h2:(t.k==2)=false) (h7:((bs t.s).toList==(⟨#[36]⟩:ByteArray).toList)=false) (h:((bs t.s).toList==(⟨#[91]⟩:ByteArray).toList)=false):zBi f lv t y=thenQ (zAG (valueQ f (lv+1)) (y.ts.length+1) [] [] y) fun l z => .ok (valD 6 0 [] l.2 l.1,z):=by
 rw [zBi,if_neg (by simpa using h3),if_neg (by simpa using h4),if_neg (by simpa using h2),if_neg (zBY h7),if_neg (zBY h)]
end
section
variable {s:List UInt8}
theorem w_true (h:((bs s).toList==(⟨#[116,114,117,101]⟩:ByteArray).toList)=true):zDg s=valD 1 (if ((bs s).toList==(⟨#[116,114,117,101]⟩:ByteArray).toList)=true then 1 else 0) [] [] []:=by
 rw [zDg,if_pos (zFB h),if_pos h]
theorem w_false (h0:((bs s).toList==(⟨#[116,114,117,101]⟩:ByteArray).toList)=false) (h:((bs s).toList==(⟨#[102,97,108,115,101]⟩:ByteArray).toList)=true):zDg s=valD 1 (if ((bs s).toList==(⟨#[116,114,117,101]⟩:ByteArray).toList)=true then 1 else 0) [] [] []:=by
 rw [zDg,if_neg (zBY h0),if_pos (zFB h),if_neg (by rw [h0];decide)]
theorem w_null (h0:((bs s).toList==(⟨#[116,114,117,101]⟩:ByteArray).toList)=false) (h1:((bs s).toList==(⟨#[102,97,108,115,101]⟩:ByteArray).toList)=false) (h:((bs s).toList==(⟨#[110,117,108,108]⟩:ByteArray).toList)=true):zDg s=zDt:=by
 rw [zDg,if_neg (zBY h0),if_neg (zBY h1),if_pos (zFB h)]
theorem w_enum (h0:((bs s).toList==(⟨#[116,114,117,101]⟩:ByteArray).toList)=false) (h1:((bs s).toList==(⟨#[102,97,108,115,101]⟩:ByteArray).toList)=false) (h:((bs s).toList==(⟨#[110,117,108,108]⟩:ByteArray).toList)=false):zDg s=valD 4 0 s [] []:=by
 rw [zDg,if_neg (zBY h0),if_neg (zBY h1),if_neg (zBY h)]
theorem w_no {a:Bool} (h:a=true) (h2:a=false):False:=by rw [h] at h2;cases h2
end
theorem items_end {v:PS->PR D} {j:Nat} {acc:List D} {z:PS} (h:(!isS z [93])=false):itemsQ v (j+1) acc z = .ok (acc,nxT z):=by rw [itemsQ,if_pos (by simpa using h)]
theorem items_go {v:PS->PR D} {j:Nat} {acc:List D} {z:PS} (h:(!isS z [93])=true):itemsQ v (j+1) acc z=thenQ (v z) fun a y=>itemsQ v j (acc++[a]) y:=by rw [itemsQ,if_neg (by simpa using h)]
theorem zX {α β:Type} {r:PR α} {f:α->PS->PR β} {a:α} {x:PS} (h:r = .ok (a,x)):thenQ r f=f a x:=by rw [h];rfl
theorem zw {α β:Type} {r:PR α} {f:α->PS->PR β} {e:Nat × Int} (h:r = .error e):thenQ r f = .error e:=by rw [h];rfl
theorem fields_end {v:PS->PR D} {j:Nat} {ks:List (List UInt8)} {acc:List D} {z:PS} (h:(!isS z [125])=false):zAG v (j+1) ks acc z = .ok ((ks,acc),nxT z):=by rw [zAG,if_pos (by simpa using h)]
theorem zIU {v:PS->PR D} {j:Nat} {ks:List (List UInt8)} {acc:List D} {z:PS} (h:(!isS z [125])=true):zAG v (j+1) ks acc z=thenQ (nameQ z) fun k y=>if ks.contains k=true then .error ((hdT z).i,7) else thenQ (takeQ [58] y) fun _ z=>thenQ (v z) fun a u=>zAG v j (ks++[k]) (acc++[a]) u:=by rw [zAG,if_neg (by simpa using h)]
section
variable {v:PS->PR D} {j:Nat} {ks:List (List UInt8)} {acc:List D} {z y z2 u2:PS} {k:List UInt8} {e:Nat × Int} {u:Unit} {a:D}
theorem fl_nm (h:(!isS z [125])=true) (h1:nameQ z = .error e):zAG v (j+1) ks acc z = .error e:=by rw [zIU h,zw h1]
end
end
section
open Go.RowKit
attribute [local irreducible] wpList Calls Code.wp AW AWo OpOk seqK zz z8 loopK endK AC zl Yld Sub
attribute [local irreducible] ACB ACX ACE absLexG YldG
theorem elemArg:zAD Tryz.prog 106=some (111,96):=by kernel_rfl
theorem zHN:zAD Tryz.prog 40=some (108,40):=by kernel_rfl
section
variable {j:Nat} {acc:List D} {z y z2 u2:PS} {k:List UInt8} {e:Nat × Int} {u:Unit} {a:List D}
theorem dl_end (h:isS z [64]=false):dirsF (j+1) acc z = .ok (acc,z):=by rw [dirsF,if_neg (by rw [h];decide)]
theorem dl_lim (h:isS z [64]=true) (hl:16<=acc.length):dirsF (j+1) acc z = .error ((hdT z).i,4):=by rw [dirsF,if_pos h,if_pos hl]
theorem dl_nm (h:isS z [64]=true) (hl:acc.length<16) (h1:nameQ (nxT z) = .error e):dirsF (j+1) acc z = .error e:=by rw [dirsF,if_pos h,if_neg (by omega),zw h1]
end
end
section
open Go.RowKit
theorem Sub.boxle {X:Cx} {nn:Nat} {st:Vst nn} {m:Nat} {t:TypeId} {vs vs':List V} (hr:st.rs m=some (.box t vs)) (h:VLeL vs vs'):Sub X st (st.res m (.box t vs')):=fun s w a hI=>by
 have hget : ∀ q ρ,(st.res m (.box t vs')).rs q=some ρ->(q=m/\ρ = .box t vs')\/(q≠m/\st.rs q=some ρ):=fun q ρ hq=>by
  simp only [Vst.res,updR] at hq
  split at hq
  . rename_i e;cases hq;exact .inl ⟨e,rfl⟩
  . rename_i e;exact .inr ⟨e,hq⟩
 have hbk : ∀ q ρ,(st.res m (.box t vs')).rs q=some ρ -> ∃ ρ',st.rs q=some ρ'/\s.bk q ρ'=s.bk q ρ:=fun q ρ hq=>by
  rcases hget q ρ hq with ⟨rfl,rfl⟩ | ⟨_,h1⟩
  . exact ⟨_,hr,rfl⟩
  . exact ⟨_,h1,rfl⟩
 refine ⟨s,hI.sz,hI.tm,hI.df,hI.fr,hI.kp,hI.nf,⟨hI.mem.fx,fun q ρ hq => ?_,fun q ρ b hq hb => ?_,fun q r ρ ρ' b hq hr' hqb hrb => ?_⟩,hI.pe⟩
 . rcases hget q ρ hq with ⟨rfl,rfl⟩ | ⟨_,h1⟩
   . obtain ⟨b,cs,h1,h2,h3,h4⟩:=hI.mem.ho q _ hr
     exact ⟨b,cs,h1,h2,zFF h h3,h4⟩
   . exact hI.mem.ho q ρ h1
 . obtain ⟨ρ',h1,h2⟩:=hbk q ρ hq
   exact hI.mem.bs q ρ' b h1 (by rw [h2];exact hb)
 . obtain ⟨ρ1,h1,h2⟩:=hbk q ρ hq
   obtain ⟨ρ2,h3,h4⟩:=hbk r ρ' hr'
   exact hI.mem.dj q r ρ1 ρ2 b h1 h3 (by rw [h2];exact hqb) (by rw [h4];exact hrb)
attribute [local irreducible] wpList Calls Code.wp AW AWo OpOk seqK zz z8 loopK endK AC zl Yld Sub
attribute [local irreducible] ACB ACX ACE absLexG YldG
end
section
theorem zHj {p:UInt8->Bool} : ∀ (l:List UInt8),(l.take (spanN p l)).all p=true/\(l.take (spanN p l)).length=spanN p l
 |[]=>⟨rfl,rfl⟩
 |c::r=>by
  have ih:=zHj (p:=p) r
  rw [spanN]
  split
  . rename_i h
    rw [List.take_succ_cons,List.all_cons,h,ih.1]
    exact ⟨rfl,by rw [List.length_cons,ih.2]⟩
  . exact ⟨rfl,rfl⟩
theorem Lex.kinds {l:List UInt8} {ks:List (Int × List UInt8)} (h:Lex l ks) : ∀ p∈ks,p.1≠5:=by
 induction h with
 |done h=>intro p hp;cases hp
 |tok h ht hr ih =>
  intro p hp
  rcases List.mem_cons.1 hp with rfl | hp
  . have:=zC6 ht
    show _≠_
    omega
  . exact ih p hp
def likeT (t t':Tok):Prop:=t.k=t'.k/\t.s=t'.s
theorem likeT_tr:TR likeT fun _ _=>True:=⟨fun h=>h.1,fun h=>h.2,fun _=>trivial,trivial⟩
theorem zIl : ∀ {a b:List Tok},a.map bare=b.map bare->All2 likeT a b
 |[],[],_ => .nil
 |[],_::_,h=>by cases h
 |_::_,[],h=>by cases h
 |x::a,y::b,h=>by
  have h1:bare x=bare y:=(List.cons.inj h).1
  have h2:a.map bare=b.map bare:=(List.cons.inj h).2
  exact .cons ⟨congrArg Prod.fst h1,congrArg Prod.snd h1⟩ (zIl h2)
def Nz {α:Type} (r:PR α):Prop:=∀ i,r ≠ .error (i,0)
section
variable {α β:Type}
theorem Nz.okk (p:α × PS):Nz (.ok p:PR α):=fun i h=>by cases h
theorem Nz.err {i:Nat} {e:Int} (h:e≠0):Nz (.error (i,e):PR α):=fun j hj=>by cases hj;exact h rfl
theorem Nz.ite {c:Prop} [Decidable c] {a b:PR α} (h1:c->Nz a) (h2 : ¬ c->Nz b):Nz (if c then a else b):=by
 split
 . exact h1 ‹_›
 . exact h2 ‹_›
theorem Nz.then {r:PR α} {f:α->PS->PR β} (h:Nz r) (hf : ∀ a x,r = .ok (a,x)->Nz (f a x)):Nz (thenQ r f):=by
 cases hr:r with
 |error e =>
  rw [zw (r:=.error e) rfl]
  intro i hi
  cases hi
  exact h i hr
 |ok p =>
  obtain ⟨a,x⟩:=p
  rw [zX (r:=.ok (a,x)) rfl]
  exact hf a x hr
end
end
section
theorem zEp : ∀ (k:Nat) (l t:List UInt8),unqF k l=some t->t.length<=l.length
 |k,[],t,h=>by
  have:unqF k []=some []:=by cases k<;>rfl
  rw [this] at h;cases h;exact Nat.le_refl _
 |0,c::r,t,h=>by cases h
 |k+1,c::r,t,h=>by
  have h:stpU (unqF k) c r=some t:=h
  unfold stpU at h
  split at h
  . cases h
  split at h
  . obtain ⟨q,hq,rfl⟩:=Option.map_eq_some_iff.1 h
    have:=zEp k _ _ hq
    simp;omega
  split at h
  . cases h
  . rename_i d r'
    split at h
    . obtain ⟨q,hq,rfl⟩:=Option.map_eq_some_iff.1 h
      have:=zEp k _ _ hq
      simp;omega
    . split at h
      . cases h
      . split at h
        . split at h
          . obtain ⟨q,hq,rfl⟩:=Option.map_eq_some_iff.1 h
            have:=zEp k _ _ hq
            simp at this |-;omega
          . cases h
        . cases h
theorem zIu {l t:List UInt8} (h:unquoteU l=some t):t.length<=l.length:=by
 unfold unquoteU at h
 split at h
 . have:=zEp _ _ _ h
   simp at this;omega
 . cases h
theorem readU_len {l:List UInt8} {k:Int} {s:List UInt8} {n:Nat} (h:readU l = .ok (k,s,n)):s.length<=l.length:=by
 unfold readU at h
 split at h
 . cases h
 . rename_i c r
   have hs:=(zHj (p:=wrdU) r).2
   have hl:=zBy wrdU r
   split at h
   . cases h;simp
   split at h
   . split at h
     . rename_i h3
       cases h
       have:(r.take 2).length=2:=by rw [h3];rfl
       rw [List.length_take] at this
       simp;omega
     . cases h
   split at h
   . split at h
     . cases h;rw [List.length_cons,List.length_cons,hs];omega
     . cases h
   split at h
   . split at h
     . cases h
     . cases h;rw [List.length_cons,List.length_cons,hs];omega
   split at h
   . split at h
     . cases h
     . split at h
       . cases h
       . rename_i ht
         cases h
         have:=zIu ht
         simp at this |-;omega
   . cases h
theorem readU_nz {l:List UInt8} {e:Int} (h:readU l = .error e):e≠0:=by
 unfold readU at h
 split at h
 . cases h;decide
 . split at h
   . cases h
   split at h
   . split at h
     . cases h
     . cases h;decide
   split at h
   . split at h
     . cases h
     . rename_i hn;cases h;exact hn
   split at h
   . split at h
     . cases h;decide
     . cases h
   split at h
   . split at h
     . cases h;decide
     . split at h
       . cases h;decide
       . cases h
   . cases h;decide
theorem zJy : ∀ (f:Nat) (l:List UInt8) (i:Nat) (ts:List Tok),scanF f l i = .ok ts->(∃ a e,ts=a++[e]/\e.k=5) /\ ∀ t∈ts,t.i<=i+l.length/\t.s.length<=l.length
 |0,_,_,_,h=>by cases h
 |f+1,l,i,ts,h=>by
  unfold scanF at h
  split at h
  . cases h
    exact ⟨⟨[],_,rfl,rfl⟩,fun t ht=>by rw [List.mem_singleton] at ht;subst ht;exact ⟨Nat.le_refl _,Nat.zero_le _⟩⟩
  . rename_i c r hl
    have hlen:(c::r).length=l.length-skipM false l:=by rw [<- hl,List.length_drop]
    have hsk:=zA2 false l
    split at h
    . cases h
    . rename_i t n ht
      have hn:=zG0 ht
      have hu:=zGz ht
      have hs:=readU_len hu.1
      split at h
      . cases h
      . rename_i ts' hts
        cases h
        obtain ⟨⟨a,e,rfl,he⟩,hm⟩:=zJy f _ _ _ hts
        refine ⟨⟨t::a,e,rfl,he⟩,fun u hu' => ?_⟩
        rcases List.mem_cons.1 hu' with rfl | hu'
        . exact ⟨by rw [hu.2];omega,by omega⟩
        . have:=hm u hu'
          rw [List.length_drop] at this
          exact ⟨by omega,by omega⟩
theorem zHr : ∀ (f:Nat) (l:List UInt8) (i:Nat) (p:Nat × Int),l.length<f->scanF f l i = .error p->p.1<=i+l.length/\p.2≠0
 |0,_,_,_,h,_=>by omega
 |f+1,l,i,p,hf,h=>by
  unfold scanF at h
  split at h
  . cases h
  . rename_i c r hl
    have hlen:(c::r).length=l.length-skipM false l:=by rw [<- hl,List.length_drop]
    have hsk:=zA2 false l
    split at h
    . rename_i e he
      cases h
      refine ⟨by show i+_<=_;omega,?_⟩
      unfold zEh at he
      split at he
      . rename_i e' he'
        cases he
        exact readU_nz he'
      . cases he
    . rename_i t n ht
      have hn:=zG0 ht
      split at h
      . rename_i e he
        cases h
        have:=zHr f _ _ p (by rw [List.length_drop];omega) he
        rw [List.length_drop] at this
        exact ⟨by omega,this.2⟩
      . cases h
theorem scan_en {l:List UInt8} {ts:List Tok} (h:scanT l = .ok ts):En ⟨ts,true,0⟩ /\ ∀ t∈ts,t.i<=l.length:=by
 unfold scanT at h
 split at h
 . cases h
 . obtain ⟨⟨a,e,h1,h2⟩,h3⟩:=zJy _ _ _ _ h
   exact ⟨⟨a,e,h1,h2,fun t ht=>by have:=(h3 t ht).2;omega⟩,fun t ht=>by have:=(h3 t ht).1;omega⟩
def inT (N:Nat) (t t':Tok):Prop:=t=t'/\t.i<=N
theorem inT_tr (N:Nat):TR (inT N) fun i i'=>i=i'/\i<=N:=⟨fun h=>by rw [h.1],fun h=>by rw [h.1],fun h=>⟨by rw [h.1],h.2⟩,⟨rfl,Nat.zero_le _⟩⟩
theorem all2_in {N:Nat} : ∀ {ts:List Tok},(∀ t∈ts,t.i<=N)->All2 (inT N) ts ts
 |[],_ => .nil
 |t::ts,h => .cons ⟨rfl,h t (List.mem_cons_self ..)⟩ (all2_in fun u hu=>h u (List.mem_cons_of_mem _ hu))
theorem scan_err {l:List UInt8} {i:Nat} {e:Int} (h:scanT l = .error (i,e)):e≠0:=by
 unfold scanT at h
 split at h
 . cases h;decide
 . exact (zHr _ _ _ _ (Nat.lt_succ_self _) h).2
end
section
set_option linter.unusedSectionVars false
def Kd (l:List Tok):Prop:=∀ i,i<l.length->1<=(l.getD i ⟨5,[],0⟩).k/\(l.getD i ⟨5,[],0⟩).k<=5
section
variable {l:List Tok} {c:RS->PS->Prop} {x:RS} {y:PS} (hE:Ed l)
include hE
variable (hK:Kd l)
include hK
omit hK in
omit hE hK in
omit hE hK in
omit hK in
omit hE hK in
omit hE hK in
omit hE hK in
end
theorem zJz : ∀ (f:Nat) (l:List UInt8) (i:Nat) (ts:List Tok),scanF f l i = .ok ts -> ∀ t∈ts,1<=t.k/\t.k<=5
 |0,_,_,_,h=>by cases h
 |f+1,l,i,ts,h=>by
  unfold scanF at h
  split at h
  . cases h
    exact fun t ht=>by rw [List.mem_singleton] at ht;subst ht;exact ⟨by show (1:Int)<=5;decide,by show (5:Int)<=5;decide⟩
  . rename_i c r hl
    split at h
    . cases h
    . rename_i t n ht
      have hu:=zC6 (zGz ht).1
      split at h
      . cases h
      . rename_i ts' hts
        cases h
        intro u hu'
        rcases List.mem_cons.1 hu' with rfl | hu'
        . exact ⟨hu.2.2.1,by have:=hu.2.2.2;omega⟩
        . exact zJz f _ _ _ hts u hu'
theorem getD_mem {l:List Tok} {i:Nat} (h:i<l.length) (e:Tok):l.getD i e∈l:=by
 rw [List.getD_eq_getElem?_getD,List.getElem?_eq_getElem h];exact List.getElem_mem h
theorem scan_kd {s:List UInt8} {ts:List Tok} (h:scanT s = .ok ts):Kd ts/\Ed ts:=by
 obtain ⟨a,e,hts,he,-⟩:=(scan_en h).1
 have hts:ts=a++[e]:=hts
 refine ⟨fun i hi => ?_,fun i hi hk => ?_⟩
 . unfold scanT at h
   split at h
   . cases h
   . exact zJz _ _ _ _ h _ (getD_mem hi _)
 . rcases Nat.lt_or_ge (i+1) ts.length with h1 | h1
   . exact h1
   . exfalso
     apply hk
     have hl:i=a.length:=by rw [hts,List.length_append] at h1 hi;simp at h1 hi;omega
     rw [hts,hl]
     simp [List.getD_eq_getElem?_getD,he]
end
section
set_option linter.unusedSectionVars false
def c1 (_:RS) (y:PS):Prop:=y.vr=false
section
variable {l:List Tok} {x:RS} {y:PS} (hE:Ed l) (hK:Kd l)
include hE
omit hE in
include hK
omit hK in
omit hK in
omit hK in
omit hK in
end
end
section
theorem Sx.start {ts:List Tok} (h:En ⟨ts,true,0⟩):Sx ts ⟨ts,false,0⟩:=⟨h,rfl,List.suffix_refl _⟩
section
variable {T:Tok->Tok->Prop} {I:Nat->Nat->Prop} (hT:TR T I)
include hT
theorem zG7 {el:PS->PR D} (hv : ∀ {x x':PS},XR T x x'->RR T I (el x) (el x')) (s:List UInt8) (most:Nat) : ∀ (f:Nat) (acc:List D) {x x':PS},XR T x x'->RR T I (manyF el s most f acc x) (manyF el s most f acc x')
 |0,_,_,_,h => .err hT h _
 |f+1,acc,x,x',h=>by
  unfold manyF
  rw [h.isS hT,(h.hd hT).1]
  exact .ite (fun _ => .okk (h.nx hT) _) fun _ => .ite (fun _ => .err hT h _) fun _ => .then (hv h) fun _ _ _ hy=>zG7 hv s most f _ hy
theorem in_rr {x x':PS} (h:XR T x x'):RR T I (inQ x) (inQ x'):=by
 unfold inQ
 refine .then (zB3 hT h) fun _ _ _ hy => .then (zDS hT hy _) fun _ _ _ hz => .then (typ_rr hT hz) fun _ u u' hu => ?_
 rw [hu.isS hT]
 exact .then (.ite (fun _ => .then (zJl hT (hu.nx hT)) fun _ _ _ ho => .okk ho _) fun _ => .okk hu _) fun _ _ _ hv => .then (zHO hT hv) fun _ _ _ hw => .okk hw _
theorem ins_rr (s:List UInt8) {x x':PS} (h:XR T x x'):RR T I (insQ s x) (insQ s x'):=by
 unfold insQ
 rw [h.len]
 exact zG7 hT (in_rr hT) _ _ _ _ h
theorem fd_rr {x x':PS} (h:XR T x x'):RR T I (fdQ x) (fdQ x'):=by
 unfold fdQ
 refine .then (zB3 hT h) fun _ y y' hy => ?_
 rw [hy.isS hT]
 exact .then (.ite (fun _=>ins_rr hT _ (hy.nx hT)) fun _ => .okk hy _) fun _ _ _ hz => .then (zDS hT hz _) fun _ _ _ hu => .then (typ_rr hT hu) fun _ _ _ hv => .then (zHO hT hv) fun _ _ _ hw => .okk hw _
theorem mb_rr {x x':PS} (h:XR T x x'):RR T I (mbQ x) (mbQ x'):=.then (zB3 hT h) fun _ _ _ hy => .then (zHO hT hy) fun _ _ _ hz => .okk hz _
theorem fds_rr {x x':PS} (h:XR T x x'):RR T I (fdsQ x) (fdsQ x'):=by
 unfold fdsQ
 rw [h.len]
 exact zG7 hT (fd_rr hT) _ _ _ _ h
theorem mbs_rr {x x':PS} (h:XR T x x'):RR T I (mbsQ x) (mbsQ x'):=by
 unfold mbsQ
 rw [h.len]
 exact zG7 hT (mb_rr hT) _ _ _ _ h
theorem zIC (s:List UInt8) : ∀ (f:Nat) (acc:List D) {x x':PS},XR T x x'->RR T I (namesF s f acc x) (namesF s f acc x')
 |0,_,_,_,h => .err hT h _
 |f+1,acc,x,x',h=>by
  unfold namesF
  rw [(h.hd hT).1]
  refine .ite (fun _ => .err hT h _) fun _ => .then (zB3 hT h) fun _ y y' hy => ?_
  rw [hy.isS hT]
  exact .ite (fun _=>zIC s f _ (hy.nx hT)) fun _ => .okk hy _
theorem zKA (s:List UInt8) {x x':PS} (h:XR T x x'):RR T I (zBl s x) (zBl s x'):=by
 unfold zBl
 rw [h.len]
 exact zIC hT s _ _ h
theorem faces_rr (k:Int) {x x':PS} (h:XR T x x'):RR T I (zBT k x) (zBT k x'):=by
 unfold zBT
 rw [(h.hd hT).1,(h.hd hT).2.1]
 exact .ite (fun _=>zKA hT _ (h.nx hT)) fun _ => .okk h _
theorem body_rr (k:Int) {x x':PS} (h:XR T x x'):RR T I (bodyQ k x) (bodyQ k x'):=by
 unfold bodyQ
 refine .ite (fun _ => .then (zDS hT h _) fun _ _ _ hy => .then (zKA hT _ hy) fun _ _ _ hz => .okk hz _) fun _ => .then (zDS hT h _) fun _ _ _ hy => ?_
 exact .ite (fun _ => .then (ins_rr hT _ hy) fun _ _ _ hz => .okk hz _) fun _ => .ite (fun _ => .then (mbs_rr hT hy) fun _ _ _ hz => .okk hz _) fun _ => .then (fds_rr hT hy) fun _ _ _ hz => .okk hz _
theorem sdef_rr (k:Int) {x x':PS} (h:XR T x x'):RR T I (sdefQ k x) (sdefQ k x'):=
 .then (zB3 hT h) fun _ _ _ hy => .then (faces_rr hT k hy) fun _ _ _ hz => .then (zHO hT hz) fun _ _ _ hu => .then (body_rr hT k hu) fun _ _ _ hv => .okk hv _
theorem zJw : ∀ (f:Nat) (acc:List D) {x x':PS},XR T x x'->RR T I (sdocF f acc x) (sdocF f acc x')
 |0,_,_,_,h => .err hT h _
 |f+1,acc,x,x',h=>by
  unfold sdocF
  rw [(h.hd hT).1,(h.hd hT).2.1]
  exact .ite (fun _ => .okk h _) fun _ => .ite (fun _ => .err hT h _) fun _ => .ite (fun _ => .err hT h _) fun _ => .then (sdef_rr hT _ (h.nx hT)) fun _ _ _ hy=>zJw f _ hy
theorem sdoc_rr {ts ts':List Tok} (h:All2 T ts ts'):RR T I (sdocQ ts) (sdocQ ts'):=by
 unfold sdocQ
 rw [<- zDc h]
 exact zJw hT _ _ ⟨h,rfl,rfl⟩
end
end
section
theorem zDm : ∀ (b:Bool) (l r:List UInt8),skipM b l=l.length->skipM b (l++10::r)=l.length+1+skipM false r
 |false,[],r,_=>by
  show skipM false (10::r)=_
  rw [skipM,if_pos (show sepB 10=true from rfl),List.length_nil];omega
 |true,[],r,_=>by
  show skipM true (10::r)=_
  rw [skipM,if_pos (show ((10:UInt8)==10||(10:UInt8)==13)=true from rfl),List.length_nil];omega
 |false,c::l,r,h=>by
  rw [skipM] at h
  rw [List.cons_append,skipM]
  split at h
  . rename_i hc
    rw [if_pos hc,zDm false l r (by simpa using h),List.length_cons];omega
  . rename_i hc
    rw [if_neg hc]
    split at h
    . rename_i hd
      rw [if_pos hd,zDm true l r (by simpa using h),List.length_cons];omega
    . simp at h
 |true,c::l,r,h=>by
  rw [skipM] at h
  rw [List.cons_append,skipM]
  split at h
  . rename_i hc
    rw [if_pos hc,zDm false l r (by simpa using h),List.length_cons];omega
  . rename_i hc
    rw [if_neg hc,zDm true l r (by simpa using h),List.length_cons];omega
theorem zCl : ∀ (b:Bool) (l r:List UInt8),skipM b l<l.length->skipM b (l++r)=skipM b l
 |b,[],r,h=>by cases b<;>simp [skipM] at h
 |false,c::l,r,h=>by
  rw [skipM] at h |-
  rw [List.cons_append,skipM]
  split at h
  . rename_i hc
    rw [if_pos hc,if_pos hc,zCl false l r (by simpa using h)]
  . rename_i hc
    rw [if_neg hc,if_neg hc]
    split at h
    . rename_i hd
      rw [if_pos hd,if_pos hd,zCl true l r (by simpa using h)]
    . rename_i hd
      rw [if_neg hd,if_neg hd]
 |true,c::l,r,h=>by
  rw [skipM] at h |-
  rw [List.cons_append,skipM]
  split at h
  . rename_i hc
    rw [if_pos hc,if_pos hc,zCl false l r (by simpa using h)]
  . rename_i hc
    rw [if_neg hc,if_neg hc,zCl true l r (by simpa using h)]
theorem zHk {p:UInt8->Bool} {x:List UInt8} (hx : ∀ c,x.head? = some c->p c=false) : ∀ l:List UInt8,spanN p (l++x)=spanN p l
 |[]=>by
  cases x with
  |nil=>rfl
  |cons c r=>show spanN p (c::r)=0;rw [spanN,if_neg (by rw [hx c rfl];decide)]
 |c::l=>by
  rw [List.cons_append,spanN,spanN,zHk hx l]
theorem zE7 {l x:List UInt8} {n:Nat} (h:n<=l.length):(l++x).take n=l.take n:=by
 rw [List.take_append_of_le_length h]
theorem zHB : ∀ (l x:List UInt8) (n:Nat),litN l=some n->litN (l++x)=some n
 |[],_,_,h=>by simp [litN] at h
 |[c],x,n,h=>by
  unfold litN at h
  split at h
  . rename_i hc
    cases h
    cases x with
    |nil=>show litN [c]=_;unfold litN;rw [if_pos hc]
    |cons d r=>show litN (c::d::r)=_;rw [litN,if_pos hc]
  . cases h
 |c::d::r,x,n,h=>by
  rw [litN] at h
  show litN (c::d::(r++x))=_
  rw [litN]
  split at h
  . rename_i hc
    rw [if_pos hc,h]
  . rename_i hc
    rw [if_neg hc]
    split at h
    . rename_i hd
      obtain ⟨m,hm,rfl⟩:=Option.map_eq_some_iff.1 h
      rw [if_pos hd,zHB r x m hm];rfl
    . rename_i hd
      obtain ⟨m,hm,rfl⟩:=Option.map_eq_some_iff.1 h
      have:=zHB (d::r) x m hm
      rw [if_neg hd]
      rw [List.cons_append] at this
      rw [this];rfl
theorem readU_part {l x:List UInt8} {k:Int} {s:List UInt8} {n:Nat} (hx:bnd x) (h:readU l = .ok (k,s,n)):readU (l++x) = .ok (k,s,n):=by
 cases l with
 |nil=>cases h
 |cons c r =>
  have hsp:=zHk (p:=wrdU) hx r
  have htk:(r++x).take (spanN wrdU r)=r.take (spanN wrdU r):=zE7 (zBy wrdU r)
  unfold readU at h
  dsimp only at h
  show readU (c::(r++x))=_
  unfold readU
  dsimp only
  rw [hsp,htk]
  split at h
  . rename_i h1;rw [if_pos h1,h]
  rename_i h1;rw [if_neg h1]
  split at h
  . rename_i h2
    rw [if_pos h2]
    split at h
    . rename_i h3
      have:(r.take 2).length=2:=by rw [h3];rfl
      rw [List.length_take] at this
      rw [zE7 (by omega),if_pos h3,h]
    . cases h
  rename_i h2;rw [if_neg h2]
  split at h
  . rename_i h3
    rw [if_pos h3,h]
  rename_i h3;rw [if_neg h3]
  split at h
  . rename_i h4
    rw [if_pos h4,h]
  rename_i h4;rw [if_neg h4]
  split at h
  . rename_i h5
    rw [if_pos h5]
    cases hl:litN r with
    |none=>rw [hl] at h;cases h
    |some m =>
     rw [hl] at h
     rw [zHB r x m hl]
     dsimp only at h |-
     rw [zE7 (zFM r m hl).2,h]
  . cases h
theorem Lex.join {l:List UInt8} {ks:List (Int × List UInt8)} (h:Lex l ks) : ∀ {r:List UInt8} {kr:List (Int × List UInt8)},Lex r kr->Lex (l++10::r) (ks++kr):=by
 induction h with
 |done h =>
  rename_i l
  intro r kr hr
  have h1:skipM false l=l.length:=by
   have:=zA2 false l
   have h2:=congrArg List.length h
   rw [List.length_drop,List.length_nil] at h2
   omega
  have e:(l++10::r).drop (skipM false (l++10::r))=r.drop (skipM false r):=by
   rw [zDm false l r h1,<- List.drop_drop,show l.length+1=(l++[10]).length by simp,show l++10::r=(l++[10])++r by simp,List.drop_left]
  cases hr with
  |done h=>exact .done (by rw [e];exact h)
  |tok h ht hr=>exact .tok (by rw [e];exact h) ht hr
 |tok h ht hr ih =>
  rename_i l c r0 k s n ks
  intro r kr hk
  have hlen:=congrArg List.length h
  rw [List.length_drop,List.length_cons] at hlen
  have hn:=zC6 ht
  refine .tok (c:=c) (r:=r0++10::r) (n:=n) ?_ (readU_part (l:=c::r0) (zAh rfl) ht) ?_
  . rw [zCl false l _ (by omega),List.drop_append_of_le_length (by omega),h];rfl
  . have:=ih hk
    rw [show (c::(r0++10::r))=(c::r0)++10::r from rfl,List.drop_append_of_le_length hn.2.1]
    exact this
structure XN (M:Prop) (V:Bool) (T:Tok->Tok->Prop) (x x':PS):Prop where
 ts:All2 T x.ts x'.ts
 vr:x.vr=V
 vr':x'.vr=V
 nd:M->x.nd=x'.nd
def RN (M:Prop) (V:Bool) (T:Tok->Tok->Prop) (I:Nat->Nat->Prop) {α:Type}:PR α->PR α->Prop
 |.ok (a,x),.ok (a',x')=>a=a'/\XN M V T x x'
 |.error e,.error e'=>I e.1 e'.1/\e.2=e'.2
 |_,_=>False
section
variable {M:Prop} {V W:Bool} {T:Tok->Tok->Prop} {I:Nat->Nat->Prop} {α β:Type}
theorem XN.hd (hT:TR T I) {x x':PS} (h:XN M V T x x'):(hdT x').k=(hdT x).k/\(hdT x').s=(hdT x).s/\I (hdT x).i (hdT x').i:=by
 obtain ⟨h1,-,-,-⟩:=h
 unfold hdT
 generalize x.ts=a at h1
 generalize x'.ts=b at h1
 cases h1 with
 |nil=>exact ⟨rfl,rfl,hT.z⟩
 |cons h2 h3=>exact ⟨(hT.k h2).symm,(hT.s h2).symm,hT.i h2⟩
theorem XN.isS (hT:TR T I) {x x':PS} (h:XN M V T x x') (s:List UInt8):isS x' s=isS x s:=by
 obtain ⟨h1,h2,-⟩:=h.hd hT
 unfold Go.Proofs.YthppafnlnnpciaaGreatDoor.isS
 rw [h1,h2]
theorem XN.nx (hT:TR T I) {x x':PS} (h:XN M V T x x'):XN M V T (nxT x) (nxT x'):=by
 obtain ⟨h1,-,-⟩:=h.hd hT
 unfold nxT
 rw [h1]
 split
 . exact h
 . exact ⟨zIk h.ts 1,h.vr,h.vr',h.nd⟩
theorem XN.len {x x':PS} (h:XN M V T x x'):x'.ts.length=x.ts.length:=(zDc h.ts).symm
theorem RN.err (hT:TR T I) {x x':PS} (h:XN M V T x x') (e:Int):RN M V T I (α:=α) (.error ((hdT x).i,e)) (.error ((hdT x').i,e)):=⟨(h.hd hT).2.2,rfl⟩
theorem RN.okk {x x':PS} (h:XN M V T x x') (a:α):RN M V T I (.ok (a,x)) (.ok (a,x')):=⟨rfl,h⟩
theorem RN.ite {c:Prop} [Decidable c] {a b a' b':PR α} (h1:c->RN M V T I a a') (h2 : ¬ c->RN M V T I b b'):RN M V T I (if c then a else b) (if c then a' else b'):=by
 split
 . rename_i h;exact h1 h
 . rename_i h;exact h2 h
theorem RN.then {r r':PR α} {f f':α->PS->PR β} (h:RN M V T I r r') (hf : ∀ a x x',XN M V T x x'->RN M W T I (f a x) (f' a x')):RN M W T I (thenQ r f) (thenQ r' f'):=by
 unfold thenQ
 cases r with
 |error e=>cases r' with | error e'=>exact h | ok a'=>exact h.elim
 |ok a =>
  cases r' with
  |error e'=>exact h.elim
  |ok a' =>
   obtain ⟨a,x⟩:=a
   obtain ⟨a',x'⟩:=a'
   obtain ⟨rfl,hx⟩:=h
   exact hf _ _ _ hx
variable (hT:TR T I)
include hT
end
end
section
def LN (e:Tok) (r:List Tok) {α:Type} (a:List Tok) (p p':PR α):Prop:=
 ∀ v y,p = .ok (v,y) -> ∃ b y',(∃ d,a=d++b)/\p' = .ok (v,y')/\J e r b y y'
section
variable {e:Tok} {r:List Tok} {α β:Type}
theorem LN.okk {a:List Tok} {x x':PS} (h:J e r a x x') (v:α):LN e r a (.ok (v,x)) (.ok (v,x')):=fun w y hp=>by
 cases hp
 exact ⟨a,x',⟨[],rfl⟩,rfl,h⟩
theorem LN.mono {a b:List Tok} {p p':PR α} (h:LN e r b p p') (hab : ∃ d,a=d++b):LN e r a p p':=fun v y hp=>by
 obtain ⟨c,y',⟨d,hd⟩,h1⟩:=h v y hp
 obtain ⟨d2,hd2⟩:=hab
 exact ⟨c,y',⟨d2++d,by rw [hd2,hd,List.append_assoc]⟩,h1⟩
theorem LN.ite {a:List Tok} {c c':Prop} [Decidable c] [Decidable c'] {A A' B B':PR α} (hc:c ↔ c') (h1:c->LN e r a A A') (h2 : ¬ c->LN e r a B B'):LN e r a (if c then A else B) (if c' then A' else B'):=by
 by_cases h:c
 . rw [if_pos h,if_pos (hc.1 h)];exact h1 h
 . rw [if_neg h,if_neg fun h'=>h (hc.2 h')];exact h2 h
theorem LN.pure {a:List Tok} {p p':PR α} {g:α->β} (h:LN e r a p p'):LN e r a (thenQ p fun v y => .ok (g v,y)) (thenQ p' fun v y => .ok (g v,y)):=fun w z hp=>by
 obtain ⟨v,y,h1,h2⟩:=zAm hp
 obtain ⟨b,y',hab,h3,h4⟩:=h v y h1
 cases h2
 exact ⟨b,y',hab,by rw [h3];rfl,h4⟩
variable (hE:Ends e r) (hN : ∃ t r',r=t::r'/\t.k=2)
include hE hN
end
end
section
theorem sdoc_like {ts ts':List Tok} (h:ts'.map bare=ts.map bare):(∀ q z,sdocQ ts = .ok (q,z) -> ∃ z',sdocQ ts' = .ok (q,z'))/\(∀ i e,sdocQ ts = .error (i,e) -> ∃ i',sdocQ ts' = .error (i',e)):=by
 have hr:=sdoc_rr likeT_tr (zIl h.symm)
 constructor
 . intro q z hq
   rw [hq] at hr
   cases h2:sdocQ ts' with
   |error e=>rw [h2] at hr;exact hr.elim
   |ok p =>
    obtain ⟨q',z'⟩:=p
    rw [h2] at hr
    obtain ⟨rfl,-⟩:=hr
    exact ⟨z',rfl⟩
 . intro i e hq
   rw [hq] at hr
   cases h2:sdocQ ts' with
   |error e' =>
    obtain ⟨i',e'⟩:=e'
    rw [h2] at hr
    obtain ⟨-,rfl⟩:=hr
    exact ⟨i',rfl⟩
   |ok p=>rw [h2] at hr;exact hr.elim
end
end Go.Proofs.YthppafnlnnpciaaGreatDoor
