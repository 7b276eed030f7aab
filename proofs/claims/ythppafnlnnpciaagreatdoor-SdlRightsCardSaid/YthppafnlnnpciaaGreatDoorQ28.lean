import Derived.Lib.OthersKept
import Derived.Test.YthppafnlnnpciaaGreatDoorQ27
set_option maxHeartbeats 8000000
set_option maxRecDepth 100000
set_option linter.unusedVariables false
set_option linter.unusedSimpArgs false
namespace Go.Proofs.YthppafnlnnpciaaGreatDoor
section
open Go.RowKit
attribute [local irreducible] wpList Calls Code.wp
def hexIx (g:UInt8):Int:=Lib.indexByte [48,49,50,51,52,53,54,55,56,57,97,98,99,100,101,102] (bits BinOp.or IntKind.u8 (g.toNat:Int) 32).toNat.toUInt8
def ixOk (g:UInt8):Bool:=match valU g with
 |some d=>decide (hexIx g=(d:Int))&&decide (48<=g.toNat)&&decide (g.toNat<=57\/65<=g.toNat)
 |none=>decide (-1<=hexIx g)&&decide (hexIx g<=15)&&decide (hexIx g<0\/g.toNat<48\/57<g.toNat/\g.toNat<65)
theorem ix_ok (g:UInt8):ixOk g=true:=zDF (p:=fun g=>ixOk g=true) (by decide +kernel) g
theorem ix_some {g:UInt8} {d:Nat} (h:valU g=some d):hexIx g=(d:Int)/\48<=g.toNat/\(g.toNat<=57\/65<=g.toNat):=by
 have:=ix_ok g
 unfold ixOk at this
 rw [h] at this
 simp only [Bool.and_eq_true,decide_eq_true_eq] at this
 exact ⟨this.1.1,this.1.2,this.2⟩
theorem ix_none {g:UInt8} (h:valU g=none) : -1<=hexIx g/\hexIx g<=15/\(hexIx g<0\/g.toNat<48\/57<g.toNat/\g.toNat<65):=by
 have:=ix_ok g
 unfold ixOk at this
 rw [h] at this
 simp only [Bool.and_eq_true,decide_eq_true_eq] at this
 exact ⟨this.1.1,this.1.2,this.2⟩
theorem zDD {T e:TypeId} {B b:Nat} {p:Value} {bs:List Value} {w w':World} (h:Lib.BuilderAtF T e B b p bs w) (hb:Below w.heap.size w w'):Lib.BuilderAtF T e B b p bs w':=by
 obtain ⟨hB,v,h1,hown,hne⟩:=h
 have old : ∀ k o,w.heap[k]? = some o->w'.heap[k]? = some o:=fun k o hk=>by
  have hl:k<w.heap.size:=by
   rcases Nat.lt_or_ge k w.heap.size with h' | h'
   . exact h'
   . rw [Array.getElem?_eq_none h'] at hk;cases hk
  rw [hb.block k hl];exact hk
 refine ⟨hB,v,old _ _ h1,⟨hown.1,?_⟩,hne⟩
 rcases hown.2 with hn | ⟨g,cap,cur,fz,hv,hbg,hg,rest⟩
 . exact .inl hn
 . exact .inr ⟨g,cap,cur,fz,hv,hbg,old _ _ hg,rest⟩
theorem isB_keep {B b:Nat} {bs:List Value} {w w':World} (h:IsB B b bs w) (hb:Below w.heap.size w w'):IsB B b bs w':=
 h.elim (fun x => .inl (zDD x hb)) (fun x => .inr (zDD x hb))
theorem unquoteP (s:ByteArray) (w:World) (hs:s.size<=100000):Calls Tryz.prog 115 #[.string s] w (Uq (unquoteU s.data.toList) w):=by
 by_cases hlen:s.size<2
 . have Hno:=Lib.hid (zDv (s:=s) (fun h=>by omega))
   have q0:decide ((s.size:Int)<2)=true:=decide_eq_true (by omega)
   go_enter Tryz.func115,Tryz.ntmps115
   go_wp2
   go_ret2
   exact ⟨by rw [Hno.out];rfl,Below.refl _ _⟩
 have q0:decide ((s.size:Int)<2)=false:=decide_eq_false (by omega)
 have i0:(0:Int)<(s.size:Int):=by omega
 have hb0:=zCH (show 0<s.size by omega)
 have hr0:=zAj s 0
 by_cases h0:bV s 0=34
 case neg =>
  have Hno:=Lib.hid (zDv (s:=s) (fun h=>h0 h.2.1))
  have q1:(bV s 0==34)=false:=beq_false_of_ne h0
  generalize bV s 0=v0 at *
  go_enter Tryz.func115,Tryz.ntmps115
  go_wp2
  go_ret2
  exact ⟨by rw [Hno.out];rfl,Below.refl _ _⟩
 have hbz:=zCH (show s.size-1<s.size by omega)
 have hrz:=zAj s (s.size-1)
 by_cases hz:bV s (s.size-1)=34
 case neg =>
  have Hno:=Lib.hid (zDv (s:=s) (fun h=>hz h.2.2))
  have q1:(bV s (s.size-1)==34)=false:=beq_false_of_ne hz
  rw [h0] at hb0
  generalize bV s (s.size-1)=v1 at *
  go_enter Tryz.func115,Tryz.ntmps115
  go_wp2
  go_ret2
  exact ⟨by rw [Hno.out];rfl,Below.refl _ _⟩
 have Hu:=Lib.hid (unq_of (by omega) h0 hz)
 rw [h0] at hb0
 rw [hz] at hbz
 clear h0 hz hr0 hrz
 have hdz:(s.extract 1 (s.size-1)).size<=100000:=by rw [mid_bs,zZ];simp;omega
 obtain ⟨d,hd⟩ : ∃ d,s.extract 1 (s.size-1)=d:=⟨_,rfl⟩
 rw [hd] at Hu hdz
 go_enter Tryz.func115,Tryz.ntmps115
 go_wp2
 clear hb0 hbz i0 q0
 have h0:=Lib.IsBuilderF.of (Lib.fresh_isBuilder 135 5 w)
 have H0:=Lib.hid h0
 clear h0
 go_loopg [5] d.size (fun j i wr => ∃ (m:Nat) (acc:List UInt8),m+j=d.size/\i = .int .i64 m/\acc.length<=m/\unqU d.data.toList=(unqU (d.data.toList.drop m)).map (acc ++ ·)/\Below w.heap.size w wr/\IsB w.heap.size w.heap.size (Lib.byteCells acc) wr)
 case atStart=>exact ⟨0,[],by omega,rfl,by simp,by simp,(Below.refl _ _).alloc (Nat.le_refl _) _,H0.out⟩
 case round =>
  obtain ⟨x,acc,hmj,rfl,hac,hun,hb,hI⟩:=hrel
  have Hmj:=Lib.hid hmj;have hmn:x<=d.size:=by omega
  have Hun:=Lib.hid hun
  have Hb:=Lib.hid hb
  have HI:=Lib.hid hI
  have hal:acc.length<=100000:=by omega
  have Hac:=Lib.hid hac
  clear hmj hun hb hac hI H0
  by_cases hlt:x<d.size
  . have hxi:(x:Int)<(d.size:Int):=by omega
    have hb:=zCH hlt
    rw [zJ5] at hb
    have HL:=Lib.hid (zD6 hlt)
    have hc256:=(bC d x).toNat_lt
    generalize bC d x=c at *
    obtain ⟨v,hv⟩ : ∃ v:Int,(c.toNat:Int)=v:=⟨_,rfl⟩
    rw [hv] at hb
    by_cases hbad:c.toNat<32\/126<c.toNat\/c=34
    . have Hno:=Lib.hid (Hu.out.trans (zAi Hun.out (by rw [HL.out];exact zKG hbad)))
      have hbv:v<32\/126<v\/v=34:=by
       rcases hbad with h | h | h
       . exact .inl (by omega)
       . exact .inr (.inl (by omega))
       . exact .inr (.inr (by rw [<- hv,h];rfl))
      clear hbad hv
      rcases hbv with h | h | h
      . go_wp2
        go_ret2
        exact ⟨by rw [Hno.out];rfl,Hb.out⟩
      . go_wp2
        all_goals first
         |(exfalso;omega)
         |(go_ret2
           exact ⟨by rw [Hno.out];rfl,Hb.out⟩)
      . subst h
        go_wp2
        go_ret2
        exact ⟨by rw [Hno.out];rfl,Hb.out⟩
    have hc34:v≠34:=by
     rw [<- hv]
     exact zB5 (n:=34) (by omega) (fun e=>hbad (.inr (.inr e)))
    have f1:decide (v<32)=false:=decide_eq_false (by omega)
    have f1' : ¬ v<32:=by omega
    have f2:decide (v>126)=false:=decide_eq_false (by omega)
    have f3:(v==34)=false:=beq_false_of_ne hc34
    by_cases h92:c=92
    case neg =>
     have q92:(v==92)=false:=beq_false_of_ne (by rw [<- hv];exact zB5 (n:=92) (by omega) h92)
     have Hst:=Lib.hid (zCq (m':=x+1) Hun.out (by rw [HL.out];exact zDw hbad h92))
     have Hv:=Lib.hid hv
     clear hbad hv h92
     go_wp2_with fail
     refine (wB w.heap.size w.heap.size acc c v _ Hv.out.symm HI.out (by omega) Hb.out.size).mono ?_
     rintro e2 w2 ⟨rfl,h2,hb2⟩
     have H2:=Lib.hid h2
     have Hb2:=Lib.hid (Hb.out.trans hb2)
     clear h2 hb2
     go_wp2
     go_roundg (gk-1)
     case measure=>have:=Hmj.out;omega
     case rel=>exact ⟨x+1,acc++[c],by have:=Hmj.out;omega,by go_num,by have:=Hac.out;simp;omega,Hst.out,Hb2.out,H2.out⟩
    subst h92
    obtain rfl:v=92:=by rw [<- hv];rfl
    clear hbad hv hc34 f1 f1' f2 f3 hc256
    by_cases hlt1:x+1<d.size
    case neg =>
     have Hno:=Lib.hid (Hu.out.trans (zAi Hun.out (by rw [HL.out,List.drop_of_length_le (by simp;omega)];exact zH3)))
     have q1:((x:Int)+1==(d.size:Int))=true:=by rw [beq_iff_eq];omega
     go_wp2
     go_ret2
     exact ⟨by rw [Hno.out];rfl,Hb.out⟩
    have q1:((x:Int)+1==(d.size:Int))=false:=beq_false_of_ne (by omega)
    have hxi1:(x:Int)+1<(d.size:Int):=by omega
    have hb1:=zCH hlt1
    rw [zJ5] at hb1
    have HL1:=Lib.hid (HL.out.trans (by rw [zD6 hlt1]))
    clear HL
    have HS:=Lib.hid (plainP (bC d (x+1)) _ rfl wr)
    unfold Sm at HS
    generalize bC d (x+1)=e at *
    cases hsim:simU e with
    |some y =>
     rw [hsim] at HS
     unfold simV at HS
     have Hst:=Lib.hid (zCq (m':=x+2) Hun.out (by rw [HL1.out];exact zB4 hsim))
     clear hsim
     generalize (e.toNat:Int)=ev at *
     go_wp2_with fail
     refine HS.out.mono ?_
     rintro e2 w2 ⟨rfl,rfl⟩
     go_wp2_with fail
     refine (wB w.heap.size w.heap.size acc y (y.toNat:Int) _ rfl HI.out (by omega) Hb.out.size).mono ?_
     rintro e2 w2 ⟨rfl,h2,hb2⟩
     have H2:=Lib.hid h2
     have Hb2:=Lib.hid (Hb.out.trans hb2)
     clear h2 hb2
     go_wp2
     go_roundg (gk-2)
     case measure=>have:=Hmj.out;omega
     case rel=>exact ⟨x+2,acc++[y],by have:=Hmj.out;omega,by go_num,by have:=Hac.out;simp;omega,Hst.out,Hb2.out,H2.out⟩
    |none =>
     rw [hsim] at HS
     unfold simV at HS
     have hrl:(d.data.toList.drop (x+1+1)).length=d.size-(x+2):=by simp
     by_cases h117:e=117
     case neg =>
      have q117:((e.toNat:Int)==117)=false:=beq_false_of_ne (zB5 (n:=117) (by omega) h117)
      have Hno:=Lib.hid (Hu.out.trans (zAi Hun.out (by rw [HL1.out];exact zGn hsim (.inl h117))))
      clear hsim h117
      have n117 : ¬ (e.toNat:Int)=117:=by simpa using q117
      generalize (e.toNat:Int)=ev at *
      go_wp2_with fail
      refine HS.out.mono ?_
      rintro e2 w2 ⟨rfl,rfl⟩
      go_wp2
      all_goals first
       |(exfalso;omega)
       |(go_ret2
         exact ⟨by rw [Hno.out];rfl,Hb.out⟩)
     have he:(e.toNat:Int)=117:=by rw [h117];rfl
     rw [he] at hb1 HS
     by_cases hfit:x+6<=d.size
     case neg =>
      have q6:decide ((x:Int)+1+4>=(d.size:Int))=true:=decide_eq_true (by omega)
      have Hno:=Lib.hid (Hu.out.trans (zAi Hun.out (by rw [HL1.out];exact zGn hsim (.inr (by rw [hrl];omega)))))
      clear hsim h117 he
      go_wp2_with fail
      refine HS.out.mono ?_
      rintro e2 w2 ⟨rfl,rfl⟩
      go_wp2
      go_ret2
      exact ⟨by rw [Hno.out];rfl,Hb.out⟩
     have q6:decide ((x:Int)+1+4>=(d.size:Int))=false:=decide_eq_false (by omega)
     have HL2:d.data.toList.drop x=92::117::d.data.toList.drop (x+1+1):=by rw [HL1.out,h117]
     have Hcode:=Lib.hid ((congrArg unqU HL2).trans (zEr (by rw [hrl];omega)))
     clear HL2
     have hksz:(d.extract (x+2) (x+6)).size=4:=by rw [ByteArray.size_extract];omega
     have Hcl:=Lib.hid (zLR d x)
     obtain ⟨k,hk⟩ : ∃ k,d.extract (x+2) (x+6)=k:=⟨_,rfl⟩
     have hk':d.extract (x+1+1) (x+1+5)=k:=hk
     rw [hk] at hksz Hcl
     have Hd4:=Lib.hid (show (d.data.toList.drop (x+1+1)).drop 4=d.data.toList.drop (x+6) by rw [List.drop_drop])
     clear hsim h117 he
     go_wp2_with fail
     have hcv:=Lib.run_convert_string_bytes (P:=Tryz.prog) wr 9 133 5 k Tryz.underlying9 Tryz.underlying133 Tryz.underlying5
     obtain ⟨W2,hW2⟩ : ∃ W2,Lib.bytesWorld wr 5 k=W2:=⟨_,rfl⟩
     have hcell : ∀ j:Nat,j<4->W2.cell? ⟨wr.heap.size,j,none⟩=some (.int .u8 ((bC k j).toNat:Int)):=fun j hj=>by rw [<- hW2];exact Lib.bytesWorld_cell wr 5 k j (by omega)
     have hbl:Below wr.heap.size wr W2:=by rw [<- hW2];exact Lib.bytesWorld_below _ _ _
     have HI2:=Lib.hid (isB_keep HI.out hbl)
     have Hb2:=Lib.hid (Hb.out.trans (hbl.mono Hb.out.size))
     have Hcell:=Lib.hid hcell
     rw [hW2,hksz] at hcv
     clear hW2 hbl hcell
     generalize grownCap wr 4 0 5=cp at hcv
     obtain ⟨bk,hbk⟩ : ∃ bk,wr.heap.size=bk:=⟨_,rfl⟩
     rw [hbk] at hcv Hcell
     clear hbk
     refine HS.out.mono ?_
     rintro e2 w2 ⟨rfl,rfl⟩
     go_wp2
     go_loopg [9,92] 4 (fun j n i wr2 => ∃ m u:Nat,m+j=4/\i = .int .i64 m/\n = .int .i64 u/\u<16^m/\codeFrom 0 k.data.toList=codeFrom u (k.data.toList.drop m)/\wr2=W2)
     case atStart=>exact ⟨0,0,by omega,rfl,rfl,by simp,rfl,rfl⟩
     case round =>
      obtain ⟨z,u,hzj,rfl,rfl,hu,hc,rfl⟩:=hrel
      clear hk hk'
      have Hzj:=Lib.hid hzj;have hzn:z<=4:=by omega
      clear hzj
      have Hc:=Lib.hid hc
      clear hc
      by_cases hz4:z<4
      . have hu2:u<65536:=Nat.lt_of_lt_of_le hu (Nat.pow_le_pow_right (by omega) (by omega:z<=4))
        have Hu16:=Lib.hid hu
        clear hu
        have hzi:(z:Int)<4:=by omega
        have hcl:=Hcell.out z hz4
        have Hdr:=Lib.hid (zD6 (s:=k) (x:=z) (by omega))
        generalize bC k z=g at *
        have HIx:=Lib.hid (Tryz.strings_IndexByte ⟨#[48,49,50,51,52,53,54,55,56,57,97,98,99,100,101,102]⟩ (bits BinOp.or IntKind.u8 (g.toNat:Int) 32) wr)
        rw [show Lib.indexByte (⟨#[48,49,50,51,52,53,54,55,56,57,97,98,99,100,101,102]⟩:ByteArray).data.toList (bits BinOp.or IntKind.u8 (g.toNat:Int) 32).toNat.toUInt8=hexIx g from rfl] at HIx
        cases hval:valU g with
        |some dd =>
         have hd16:=val_lt hval
         obtain ⟨j1,j2,j3⟩:=ix_some hval
         rw [j1] at HIx
         have Hok:=Lib.hid (show codeFrom 0 k.data.toList=codeFrom (16*u+dd) (k.data.toList.drop (z+1)) by rw [Hc.out,Hdr.out,zJD hval])
         clear hval j1
         have g0:decide ((dd:Int)<0)=false:=decide_eq_false (by omega)
         have g0' : ¬ (dd:Int)<0:=by omega
         have g48:decide ((g.toNat:Int)<48)=false:=decide_eq_false (by omega)
         have g48' : ¬ (g.toNat:Int)<48:=by omega
         go_wp2_with fail
         refine HIx.out.mono ?_
         rintro e2 w3 ⟨rfl,rfl⟩
         rcases j3 with j3 | j3
         . have g57:decide ((g.toNat:Int)>57)=false:=decide_eq_false (by omega)
           go_wp2
           all_goals first
            |(exfalso;omega)
            |(go_roundg (gk-1)
              case measure=>have:=Hzj.out;omega
              case rel=>exact ⟨z+1,16*u+dd,by have:=Hzj.out;omega,by go_num,by go_num,by have:=Hu16.out;rw [Nat.pow_succ];omega,Hok.out,rfl⟩)
         . have g65:decide ((g.toNat:Int)<65)=false:=decide_eq_false (by omega)
           rcases Nat.lt_or_ge 57 g.toNat with j4 | j4
           . have g57:decide ((g.toNat:Int)>57)=true:=decide_eq_true (by omega)
             go_wp2
             all_goals first
              |(exfalso;omega)
              |(go_roundg (gk-1)
                case measure=>have:=Hzj.out;omega
                case rel=>exact ⟨z+1,16*u+dd,by have:=Hzj.out;omega,by go_num,by go_num,by have:=Hu16.out;rw [Nat.pow_succ];omega,Hok.out,rfl⟩)
           . exfalso;omega
        |none =>
         obtain ⟨j1,j2,j3⟩:=ix_none hval
         have Hcn:=Lib.hid (show codeFrom 0 k.data.toList=none by rw [Hc.out,Hdr.out,zJE hval])
         have Hno:=Lib.hid (Hu.out.trans (zAi Hun.out (Hcode.out.trans (by rw [show (d.data.toList.drop (x+1+1)).take 4=k.data.toList from Hcl.out.symm,Hcn.out]))))
         clear hval
         obtain ⟨ix,hix⟩ : ∃ ix,hexIx g=ix:=⟨_,rfl⟩
         rw [hix] at HIx j1 j2 j3
         clear hix
         go_wp2_with fail
         refine HIx.out.mono ?_
         rintro e2 w3 ⟨rfl,rfl⟩
         rcases Int.lt_or_le ix 0 with h | h
         . have g0:decide (ix<0)=true:=decide_eq_true h
           go_wp2
           all_goals first
            |(exfalso;omega)
            |(go_ret2
              exact ⟨by rw [Hno.out];rfl,Hb2.out⟩)
         . have g0:decide (ix<0)=false:=decide_eq_false (by omega)
           have g0' : ¬ ix<0:=by omega
           rcases Nat.lt_or_ge g.toNat 48 with h' | h'
           . have g48:decide ((g.toNat:Int)<48)=true:=decide_eq_true (by omega)
             go_wp2
             all_goals first
              |(exfalso;omega)
              |(go_ret2
                exact ⟨by rw [Hno.out];rfl,Hb2.out⟩)
           . have g48:decide ((g.toNat:Int)<48)=false:=decide_eq_false (by omega)
             have g48' : ¬ (g.toNat:Int)<48:=by omega
             have g57:decide ((g.toNat:Int)>57)=true:=decide_eq_true (by omega)
             have g65:decide ((g.toNat:Int)<65)=true:=decide_eq_true (by omega)
             go_wp2
             all_goals first
              |(exfalso;omega)
              |(go_ret2
                exact ⟨by rw [Hno.out];rfl,Hb2.out⟩)
      . obtain rfl:z=4:=by omega
        have Hfin:=Lib.hid (show codeFrom 0 k.data.toList=some u by
         rw [Hc.out,List.drop_of_length_le (by simp;omega)];rfl)
        clear hu
        have Hcode2:=Lib.hid (Hcode.out.trans (by rw [show (d.data.toList.drop (x+1+1)).take 4=k.data.toList from Hcl.out.symm,Hfin.out]))
        by_cases hn:u<=255
        case neg =>
         have n255:decide ((u:Int)>255)=true:=decide_eq_true (by omega)
         have Hno:=Lib.hid (Hu.out.trans (zAi Hun.out (Hcode2.out.trans (if_neg hn))))
         go_wp2
         go_ret2
         exact ⟨by rw [Hno.out];rfl,Hb2.out⟩
        have n255:decide ((u:Int)>255)=false:=decide_eq_false (by omega)
        have Hst:=Lib.hid (zCq (m':=x+6) Hun.out (by rw [<- Hd4.out];exact Hcode2.out.trans (if_pos hn)))
        have hon:(u:Int)=((UInt8.ofNat u).toNat:Int):=by simp;omega
        have Hon:=Lib.hid hon
        clear hon
        go_wp2_with fail
        refine (wB w.heap.size w.heap.size acc (UInt8.ofNat u) (u:Int) _ Hon.out HI2.out (by omega) Hb2.out.size).mono ?_
        rintro e2 w3 ⟨rfl,h3,hb3⟩
        have H3:=Lib.hid h3
        have Hb3:=Lib.hid (Hb2.out.trans hb3)
        clear h3 hb3
        go_wp2
        go_roundg (d.size-(x+6))
        case measure=>have:=Hmj.out;omega
        case rel=>exact ⟨x+6,acc++[UInt8.ofNat u],by have:=Hmj.out;omega,by go_num,by have:=Hac.out;simp;omega,Hst.out,Hb3.out,H3.out⟩
  . obtain rfl:x=d.size:=by omega
    have Hfin:=Lib.hid (Hu.out.trans (unq_end Hun.out (by simp)))
    go_wp2_with fail
    refine (Tryz.Builder_String_any_k w.heap.size w.heap.size acc _ HI.out Hb.out.size).mono ?_
    rintro e w2 ⟨rfl,_,hb2,_⟩
    have Hb2:=Lib.hid (Hb.out.trans hb2)
    clear hb2
    have Ha:=Lib.hid (show uqV (some acc) = .tuple #[.string (bs acc),.int .i64 0] from rfl)
    go_wp2
    go_ret2
    exact ⟨by rw [Hfin.out,Ha.out];rfl,Hb2.out⟩
end
section
open Go.RowKit
attribute [local irreducible] wpList Calls Code.wp AW AWo OpOk seqK zm zo loopK endK endKB AC ACB ACX zh absLexG Yld YldG Sub
def outP {ε α S:Type} (tR:TypeId) (cl:S->List V) (toV:α->V) (toP:ε->Value):Except ε (α × S)->Out
 |.ok (a,x) => .ret (toV a) [.box tR (cl x)]
 |.error e => .die (toP e)
abbrev cxE (e:Ge) (P:Program) (pas:Nat->Prop) (s:Sg) (w:World) (he:e.E w) (hp : ∀ k,k<e.G -> ¬ pas k) (out:Out):Cx:=⟨P,pas,s,w,e,he,hp,fun pv _ _=>out = .die pv,[]⟩
section
variable {X:Cx} {nn:Nat} {st:Vst nn} {o:Oper} {ops:Array Oper} {l:List Oper} {d:Option Tmp} {KK:Vst nn->Prop} {Q:Vst nn->Prop} {rd wr:Nat->List Nat} {k:Nat}
theorem zJc {tR:TypeId} {cs:List V} {ns:List Nat} (h : ∀ φ,renL φ cs=cs):([Res.box tR cs].map (renR (φout ns)))=[Res.box tR cs]:=by simp [renR,h]
theorem opOk_m {tR:TypeId} {f:FuncId} {m:Nat} {vs az cs cs':List V} {r:V} {K:Vst nn->Prop} (h:act1 X.P st.rs (ev st) o.op = .call f vs) (hv:vs = .bx m 0::az) (hr:st.rs m=some (.box tR cs))
 (hc:ACB X.e X.P f (.bx (pn 0) 0::az) [.box tR cs] r [.box tR cs']) (hcs : ∀ φ,renL φ cs=cs) (hcs' : ∀ φ,renL φ cs'=cs') (haz : ∀ φ,renL φ az=az) (hrr : ∀ φ,renV φ r=r)
 (hK:K ((st.res m (.box tR cs')).put o.dst r)):OpOk X o st K:=by
 subst hv
 refine zAn [m] h hc (by simp) (by simp only [renL,renV,φin_one,haz]) (by simp [hr,renR,hcs]) ?_
 rw [zJc hcs',zCB,hrr]
 exact hK
theorem s_m {S:Type} {tR:TypeId} {f:FuncId} {m:Nat} {vs az cs:List V} {x x':S} {r:V} (cl:S->List V) (hren : ∀ φ x,renL φ (cl x)=cl x) (hg:o.guard=none) (hd:o.dst=d) (h:act1 X.P st.rs (ev st) o.op = .call f vs) (hv:vs = .bx m 0::az) (hr:st.rs m=some (.box tR cs)) (hx:cs=cl x)
 (hc:ACB X.e X.P f (.bx (pn 0) 0::az) [.box tR (cl x)] r [.box tR (cl x')]) (haz : ∀ φ,renL φ az=az) (hrr : ∀ φ,renV φ r=r) (hK:AWo X ops l ((st.res m (.box tR (cl x'))).put d r) KK):AWo X ops (o::l) st KK:=by
 subst hx
 exact zt hg (opOk_m h hv hr hc (fun φ=>hren φ x) (fun φ=>hren φ x') haz hrr (by rw [hd];exact hK))
theorem zAB {S:Type} {tR:TypeId} {f:FuncId} {m j:Nat} {want b:Bool} {vs az cs:List V} {x x':S} {r:V} (cl:S->List V) (hren : ∀ φ x,renL φ (cl x)=cl x) (hg:o.guard=some (j,want)) (hd:o.dst=d) (hb:gval ops st j=some b) (hne:(b==want)=true) (h:act1 X.P st.rs (ev st) o.op = .call f vs) (hv:vs = .bx m 0::az) (hr:st.rs m=some (.box tR cs)) (hx:cs=cl x)
 (hc:ACB X.e X.P f (.bx (pn 0) 0::az) [.box tR (cl x)] r [.box tR (cl x')]) (haz : ∀ φ,renL φ az=az) (hrr : ∀ φ,renV φ r=r) (hK:AWo X ops l ((st.res m (.box tR (cl x'))).put d r) KK):AWo X ops (o::l) st KK:=by
 subst hx
 exact zBa hg hb (fun _=>opOk_m h hv hr hc (fun φ=>hren φ x) (fun φ=>hren φ x') haz hrr (by rw [hd];exact hK)) fun e=>(e (by simpa using hne)).elim
theorem opOk_pr {ε α S:Type} {tR:TypeId} {f:FuncId} {m:Nat} {vs az cs:List V} {x:S} {spec:Except ε (α × S)} {cl:S->List V} {toV:α->V} {toP:ε->Value} {K:Vst nn->Prop} (hren : ∀ φ x,renL φ (cl x)=cl x) (h:act1 X.P st.rs (ev st) o.op = .call f vs) (hv:vs = .bx m 0::az) (hr:st.rs m=some (.box tR cs)) (hx:cs=cl x)
 (hc:ACE X.e X.P f (.bx (pn 0) 0::az) [.box tR (cl x)] (outP tR cl toV toP spec)) (haz : ∀ φ,renL φ az=az) (hrr : ∀ φ a,renV φ (toV a)=toV a)
 (hE : ∀ e,spec = .error e->X.pk (toP e) st.tm (forgetN st.rs [m])) (hK : ∀ a x',spec = .ok (a,x')->K ((st.res m (.box tR (cl x'))).put o.dst (toV a))):OpOk X o st K:=by
 subst hv
 subst hx
 refine zGM [m] h hc (by simp) (by simp only [renL,renV,φin_one,haz]) (by simp [hr,renR,hren]) (fun r bs' e => ?_) fun pv e => ?_
 . cases hs:spec with
   |error q=>rw [hs] at e;simp [outP] at e
   |ok q =>
    obtain ⟨a,x'⟩:=q
    rw [hs] at e
    simp only [outP,Out.ret.injEq] at e
    obtain ⟨rfl,rfl⟩:=e
    rw [zJc (fun φ=>hren φ x'),zCB,hrr]
    exact hK a x' hs
 . cases hs:spec with
   |error q=>rw [hs] at e;simp only [outP,Out.die.injEq] at e;subst e;exact hE q hs
   |ok q=>rw [hs] at e;simp [outP] at e
theorem s_pr {ε α S:Type} {tR:TypeId} {f:FuncId} {m:Nat} {vs az cs:List V} {x:S} {spec:Except ε (α × S)} {toV:α->V} {toP:ε->Value} (cl:S->List V) (hren : ∀ φ x,renL φ (cl x)=cl x) (hg:o.guard=none) (hd:o.dst=d) (h:act1 X.P st.rs (ev st) o.op = .call f vs) (hv:vs = .bx m 0::az) (hr:st.rs m=some (.box tR cs)) (hx:cs=cl x)
 (hc:ACE X.e X.P f (.bx (pn 0) 0::az) [.box tR (cl x)] (outP tR cl toV toP spec)) (haz : ∀ φ,renL φ az=az) (hrr : ∀ φ a,renV φ (toV a)=toV a)
 (hE : ∀ e,spec = .error e->X.pk (toP e) st.tm (forgetN st.rs [m])) (hK : ∀ a x',spec = .ok (a,x')->AWo X ops l ((st.res m (.box tR (cl x'))).put d (toV a)) KK):AWo X ops (o::l) st KK:=
 zt hg (opOk_pr hren h hv hr hx hc haz hrr hE fun a x' e=>by rw [hd];exact hK a x' e)
theorem g_pr {ε α S:Type} {tR:TypeId} {f:FuncId} {m:Nat} {vs az cs:List V} {x:S} {spec:Except ε (α × S)} {toV:α->V} {toP:ε->Value} (cl:S->List V) (hren : ∀ φ x,renL φ (cl x)=cl x) (dv:α) (hg:o.guard=none) (hd:o.dst=d) (h:act1 X.P st.rs (ev st) o.op = .call f vs) (hv:vs = .bx m 0::az) (hr:st.rs m=some (.box tR cs)) (hx:cs=cl x)
 (hc:ACE X.e X.P f (.bx (pn 0) 0::az) [.box tR (cl x)] (outP tR cl toV toP spec)) (haz : ∀ φ,renL φ az=az) (hrr : ∀ φ a,renV φ (toV a)=toV a) (hl:[m].all (fun n=>(wr k).contains n)=true)
 (hE : ∀ e,spec = .error e -> ∀ tm rs,X.pk (toP e) tm rs) (hK : ∀ a x',spec = .ok (a,x')->absLexG X ops rd wr Q (k+1) l ((st.res m (.box tR (cl x'))).put d (toV a)))
 (hD : ∀ e,spec = .error e->absLexG X ops rd wr Q (k+1) l ((st.res m (.box tR [.c (.tuple #[])])).put d (toV dv))):absLexG X ops rd wr Q k (o::l) st:=by
 subst hv
 subst hx
 cases hs:spec with
 |error e =>
  rw [hs] at hc
  refine zJu [m] (toV dv) [.box tR [.c (.tuple #[])]] hg hd h hc (by simp) (by simp only [renL,renV,φin_one,haz]) (by simp [hr,renR,hren]) rfl hl (hE e hs) ?_
  rw [zCB]
  exact hD e hs
 |ok q =>
  obtain ⟨a,x'⟩:=q
  rw [hs] at hc
  refine g_callB [m] hg hd h hc (by simp) (by simp only [renL,renV,φin_one,haz]) (by simp [hr,renR,hren]) rfl hl ?_
  rw [zJc (fun φ=>hren φ x'),zCB,hrr]
  exact hK a x' hs
theorem zAR {P:Program} {rs:Array ResultVar} {x:ResultVar} {out:Out} {v:V} {ρ:Res} (hx:rs.toList=[x]) (h:res1 P st x = .val True v) (hr:st.rs (pn 0)=some ρ) (ho:out = .ret v.out [ρ]):zFW P rs out .normal st:=
 zKs ho (by rw [hx];exact ⟨v,h,rfl⟩) ⟨hr,trivial⟩
theorem zKr {P:Program} {rs:Array ResultVar} {out:Out} {ρ:Res} (hx:rs.toList=[]) (hr:st.rs (pn 0)=some ρ) (ho:out = .ret (.tup []) [ρ]):zFW P rs out .normal st:=
 zKs ho (by rw [hx];rfl) ⟨hr,trivial⟩
end
theorem zGH {φ:Nat->Option Nat} {g:TypeId->D->List V} (hg : ∀ t d,renL φ (g t d)=g t d) : ∀ (fs:List Field) (j:Nat) (d:D),renL φ (zAf g fs j d)=zAf g fs j d
 |[],_,_=>by simp [zAf,renL]
 |f::fs,j,d=>by
  have app : ∀ (a b:List V),renL φ (a++b)=renL φ a++renL φ b:=fun a b=>by
   induction a with
   |nil=>rfl
   |cons x r ih=>simp only [List.cons_append,renL,ih]
  rw [zAf,app,hg,zGH hg fs (j+1) d]
theorem ren_cells {P:Program} {φ:Nat->Option Nat} : ∀ (n:Nat) (t:TypeId) (d:D),renL φ (cellsV P n t d)=cellsV P n t d
 |0,_,_=>rfl
 |n+1,t,d=>by
  have anys : ∀ k,renL φ (List.replicate k V.any)=List.replicate k V.any:=fun k=>by
   induction k with
   |zero=>rfl
   |succ k ih=>rw [List.replicate_succ,renL,ih];rfl
  unfold cellsV
  split
  all_goals first
   |rfl
   |exact zGH (fun t d=>ren_cells n t d) _ _ _
   |exact anys _
end
section
open Go.RowKit
attribute [local irreducible] wpList Calls Code.wp
def EN5:Ge where
 G:=max (3+1) (max (2+1) (1+1))
 E:=fun w=>Env w/\max (3+1) (max (2+1) (1+1))<=w.heap.size
 stays w w' h hs:=by
  obtain ⟨⟨h1,⟨tp,p,h2⟩,⟨tp',p',h3⟩⟩,h4⟩:=h
  refine ⟨⟨zDU (g:=3) (by kernel_rfl) (by omega) h1 hs,⟨tp,p,zDU (g:=2) (by kernel_rfl) (by omega) h2 hs⟩,⟨tp',p',zDU (g:=1) (by kernel_rfl) (by omega) h3 hs⟩⟩,?_⟩
  generalize hg:max (3+1) (max (2+1) (1+1))=g at hs h4 |-
  have hg0:0<g:=by omega
  have h5:=hs (g-1) (by omega)
  have h6:w.heap[g-1]? = some w.heap[g-1]:=Array.getElem?_eq_getElem (by omega)
  have h7:=(Array.getElem?_eq_some_iff.1 (h5.trans h6)).1
  omega
 le w h:=h.2
theorem en5_en {w:World} (h:EN5.E w):EN.E w:=h.1.1
theorem EN5_G:EN.G<=EN5.G:=by show 3+1<=max _ _;omega
theorem AC.five {f:FuncId} {args:List V} {r:V} (h:AC EN Tryz.prog f args r):AC EN5 Tryz.prog f args r:=fun s w us hus hfx he=>h s w us hus hfx (en5_en he)
theorem ACB.five {f:FuncId} {args:List V} {bs bs':List Res} {r:V} (h:ACB EN Tryz.prog f args bs r bs'):ACB EN5 Tryz.prog f args bs r bs':=fun pas s w us hus hm he hp=>h pas s w us hus hm (en5_en he) fun k hk=>hp k (Nat.lt_of_lt_of_le hk EN5_G)
theorem zDt {f:FuncId} {args:List V} {r:V} {u:Value} (h : ∀ s w us,relL Tryz.prog s w args us.toList->Env w->(∀ s' w',rel Tryz.prog s' w' r u)/\Calls Tryz.prog f us w fun e w'=>e = .returned u/\Below w.heap.size w w'):AC EN5 Tryz.prog f args r:=by
 intro s w us hus hfx he
 obtain ⟨hr,hc⟩:=h s w us hus he.1
 refine hc.mono ?_
 rintro e w' ⟨rfl,hb⟩
 have hc : ∀ b o,s.F b o->w'.cell? ⟨b,o,none⟩=w.cell? ⟨b,o,none⟩:=fun b o hF=>by
  obtain ⟨x,hx⟩:=Option.isSome_iff_exists.1 (hfx b o hF)
  exact hb.cell (p:=⟨b,o,none⟩) (block_lt_of_cell hx)
 exact ⟨u,s.F,rfl,Frm.of_below hb,fun b o hF=>⟨hc b o hF,hF⟩,fun b o hF=>by rw [hc b o hF];exact hfx b o hF,fun _ _ _ h=>h,hr _ _⟩
theorem zKW {P:Program} {s:Sg} {w:World} {v v2:V} {u u2:Value} (h:rel P s w v u) (h2:rel P s w v2 u2):rel P s w (.tup [v,v2]) (.tuple #[u,u2]):=by
 rw [rel];exact ⟨_,rfl,by simp only [relL];exact ⟨h,h2,trivial⟩⟩
theorem zG8 {P:Program} {s:Sg} {w:World} {n:Int} (h : -9223372036854775808<=n/\n<=9223372036854775807):rel P s w (.c (.int .i64 n)) (.int .i64 n):=by rw [rel];exact ⟨rfl,zC8.2 h⟩
theorem zG7 {P:Program} {s:Sg} {w:World} {x:ByteArray} (h:x.size<=maxLen):rel P s w (.c (.string x)) (.string x):=by rw [rel];exact ⟨rfl,h⟩
theorem zDx {P:Program} {s:Sg} {w:World} {x:ByteArray} {us:Array Value} (h:relL P s w [.c (.string x)] us.toList):us = #[.string x]/\x.size<=maxLen:=by
 obtain ⟨u,rfl,h1⟩:=zJd h
 rw [rel] at h1
 exact ⟨by rw [h1.1],h1.2⟩
theorem numQ_range {l:List UInt8} : -9223372036854775808<=numQ l/\numQ l<=9223372036854775807:=by
 unfold numQ
 cases h:numU l with
 |ok n=>exact (itoa_num h).2
 |range=>decide
 |_=>decide
theorem nerU_cases (r:Lib.NumEnd Int):nerU r=0\/nerU r=3\/nerU r=4:=by cases r<;>simp [nerU]
theorem numT_Q (l:List UInt8):numT (numU l) = .tuple #[.int .i64 (numQ l),.int .i64 (nerU (numU l))]:=by
 unfold numQ
 cases numU l<;>rfl
def numVV (l:List UInt8):V:=.tup [.c (.int .i64 (numQ l)),.c (.int .i64 (nerU (numU l)))]
theorem num_rel {P:Program} {s:Sg} {w:World} (l:List UInt8):rel P s w (numVV l) (numT (numU l)):=by
 rw [numT_Q]
 exact zKW (zG8 numQ_range) (zG8 (by rcases nerU_cases (numU l) with h | h | h<;>rw [h]<;>decide))
theorem zGQ (s:ByteArray) (hs:s.size<=281474976710656):AC EN5 Tryz.prog 113 [.c (.string s)] (numVV (tx s)):=by
 refine zDt (u:=numT (numU (tx s))) fun σ w us hus he => ?_
 obtain ⟨rfl,-⟩:=zDx hus
 exact ⟨fun s' w'=>num_rel _,numberP s w he hs⟩
theorem zGP (s:ByteArray) (hs:s.size<=281474976710656):AC EN5 Tryz.prog 82 [.c (.string s)] (numVV (tx s)):=by
 refine zDt (u:=numT (numU (tx s))) fun σ w us hus he => ?_
 obtain ⟨rfl,-⟩:=zDx hus
 exact ⟨fun s' w'=>num_rel _,numberR s w hs⟩
def uqE:Option (List UInt8)->Int
 |some _=>0
 |none=>3
def uqVV (l:List UInt8):V:=.tup [.c (.string (bs ((unquoteU l).getD []))),.c (.int .i64 (uqE (unquoteU l)))]
theorem uqV_E (r:Option (List UInt8)):uqV r = .tuple #[.string (bs (r.getD [])),.int .i64 (uqE r)]:=by
 cases r<;>rfl
theorem unq_len (l:List UInt8):((unquoteU l).getD []).length<=l.length:=by
 have key : ∀ (k:Nat) (l:List UInt8),((unqF k l).getD []).length<=l.length:=by
  intro k
  induction k with
  |zero=>intro l;cases l<;>simp [unqF]
  |succ k ih =>
   intro l
   cases l with
   |nil=>simp [unqF]
   |cons c r =>
    show ((stpU (unqF k) c r).getD []).length<=_
    have hm : ∀ (q:List UInt8) (x:UInt8),q.length<=r.length->(((unqF k q).map (x :: ·)).getD []).length<=(c::r).length:=fun q x hq=>by
     have:=ih q
     cases hx:unqF k q with
     |none=>simp
     |some u=>rw [hx] at this;simp at this |-;omega
    unfold stpU
    by_cases h1:c.toNat<32\/126<c.toNat\/c=34
    . rw [if_pos h1];simp
    rw [if_neg h1]
    by_cases h2:c≠92
    . rw [if_pos h2];exact hm r c (Nat.le_refl _)
    rw [if_neg h2]
    cases r with
    |nil=>simp
    |cons d q =>
     dsimp only
     cases simU d with
     |some x=>exact hm q x (by simp)
     |none =>
      dsimp only
      by_cases h3:d≠117\/q.length<4
      . rw [if_pos h3];simp
      rw [if_neg h3]
      cases codeFrom 0 (q.take 4) with
      |none=>simp
      |some n =>
       dsimp only
       by_cases h4:n<=255
       . rw [if_pos h4];exact hm (q.drop 4) _ (by simp;omega)
       . rw [if_neg h4];simp
 unfold unquoteU
 split
 . have:=key ((l.drop 1).take (l.length-2)).length ((l.drop 1).take (l.length-2))
   have h2:((l.drop 1).take (l.length-2)).length<=l.length:=by rw [List.length_take,List.length_drop];omega
   exact Nat.le_trans this h2
 . simp
theorem unq_ok {s:ByteArray} (hs:s.size<=100000) {P:Program} {σ:Sg} {w:World}:rel P σ w (uqVV (tx s)) (uqV (unquoteU (tx s))):=by
 rw [uqV_E]
 refine zKW (zG7 ?_) (zG8 ?_)
 . have h1:=unq_len (tx s)
   have h2:=zH6 s
   rw [zZ];unfold maxLen;omega
 . cases unquoteU (tx s) with
   |none=>exact ⟨by decide,by decide⟩
   |some _=>exact (⟨by decide,by decide⟩:(-9223372036854775808:Int)<=0/\(0:Int)<=9223372036854775807)
theorem zJS (s:ByteArray) (hs:s.size<=100000):AC EN5 Tryz.prog 115 [.c (.string s)] (uqVV (tx s)):=by
 refine zDt (u:=uqV (unquoteU (tx s))) fun σ w us hus he => ?_
 obtain ⟨rfl,-⟩:=zDx hus
 exact ⟨fun s' w'=>unq_ok hs,unquoteP s w hs⟩
theorem zJR (s:ByteArray) (hs:s.size<=100000):AC EN5 Tryz.prog 84 [.c (.string s)] (uqVV (tx s)):=by
 refine zDt (u:=uqV (unquoteU (tx s))) fun σ w us hus he => ?_
 obtain ⟨rfl,-⟩:=zDx hus
 exact ⟨fun s' w'=>unq_ok hs,unquoteR s w hs⟩
end
section
open Go.RowKit
attribute [local irreducible] wpList Calls Code.wp AW AWo OpOk seqK zm zo loopK endK AC zh Yld Sub
attribute [local irreducible] ACB ACX ACE absLexG YldG
def tokD (t:Tok):D:=.obj [.int t.k,.str (bs t.s),.int (t.i:Int)]
def tokC (t:Tok):List V:=[.c (.int .i64 t.k),.c (.string (bs t.s)),.c (.int .i64 (t.i:Int))]
end
section
open Go.RowKit
attribute [local irreducible] wpList Calls Code.wp AW AWo OpOk seqK zm zo loopK endK AC zh Yld Sub
def zAE (ts:List Tok):List (List UInt8):=(ts.filter fun t => !(t.k==5)).map fun t=>zCN t.k t.s
theorem words_take {ts:List Tok} {i:Nat} (h:i<ts.length):zAE (ts.take (i+1))=zAE (ts.take i)++(if ts[i].k=5 then [] else [zCN ts[i].k ts[i].s]):=by
 unfold zAE
 rw [List.take_succ_eq_append_getElem h,List.filter_append,List.map_append]
 congr 1
 by_cases hk:ts[i].k=5
 . rw [if_pos hk,List.filter_cons_of_neg (p:=fun t:Tok => !(t.k==5)) (by simp [hk])];rfl
 . rw [if_neg hk,List.filter_cons_of_pos (p:=fun t:Tok => !(t.k==5)) (by simp [hk])];rfl
theorem gD_tok {ts:List Tok} {i:Nat} (h:i<ts.length):gD (ts.map tokD) i=tokD ts[i]:=by
 unfold gD
 simp [List.getD_eq_getElem?_getD,List.getElem?_eq_getElem h]
theorem el_k {ts:List Tok} {i:Nat} (h:i<ts.length) {k:Int} {b:Bool} (hb:(((gD (ts.map tokD) i).f 0).n==k)=b):(ts[i].k==k)=b:=by
 rw [gD_tok h] at hb;exact hb
theorem el_s {ts:List Tok} {i:Nat} (h:i<ts.length):((gD (ts.map tokD) i).f 1).s=bs ts[i].s:=by
 rw [gD_tok h];rfl
theorem wrd_iff (c:UInt8):wrdU c=true ↔ (97<=c.toNat/\c.toNat<=122)\/(65<=c.toNat/\c.toNat<=90)\/c.toNat=95\/(48<=c.toNat/\c.toNat<=57):=by
 have:c=95 ↔ c.toNat=95:=⟨fun h=>by rw [h];rfl,fun h=>UInt8.toNat_inj.1 h⟩
 unfold wrdU letU digU
 simp only [Bool.or_eq_true,decide_eq_true_eq,beq_iff_eq,this]
 omega
theorem zBv (c:UInt8):AC EN5 Tryz.prog 112 [.c (.int .i32 (c.toNat:Int))] (.c (.bool (wrdU c))):=by
 refine zM 29 Tryz.func112 rfl rfl rfl rfl ?_
 intro s w he
 repeat' (first
|apply z7 rfl rfl rfl
 . conv=>lhs;whnf
 . first | rfl | assumption
 . conv=>lhs;whnf
 . first | exact bT1 ‹_› | exact bT2 ‹_› | rfl
|apply zx rfl rfl rfl
 . conv=>lhs;whnf
 . first | rfl | assumption
 . conv=>lhs;whnf
 . first | exact bF1 ‹_› | exact bF2 ‹_› | rfl
|refine zA ?_
|refine zB ?_
|refine zH ?_
|apply aw_1
 conv=>whnf
 refine ⟨?_,trivial⟩
|apply zQ rfl rfl
 . conv=>lhs;whnf
 . conv=>lhs;whnf
 . first | exact bT1 ‹_› | exact bT2 ‹_›
|apply zO rfl rfl
 . conv=>lhs;whnf
 . conv=>lhs;whnf
 . first | exact bF1 ‹_› | exact bF2 ‹_›
|apply s_1
 conv=>whnf;arg 1;arg 4;arg 3;whnf
 refine ⟨?_,?_⟩
|apply zD rfl
 . conv=>lhs;whnf
 . conv=>lhs;whnf
 . first | rfl | assumption
 . conv=>lhs;whnf;arg 2;whnf
|apply zV rfl
 . conv=>lhs;whnf
 . conv=>lhs;whnf
 . first | rfl | assumption
|apply zC rfl
 . conv=>lhs;whnf
 . conv=>lhs;whnf
 . conv=>lhs;whnf;arg 2;whnf
|refine zE ?_
|refine ⟨_,by conv=>lhs;whnf;arg 2;whnf,?_⟩;conv=>rhs;whnf
|exact trivial
|intro hg)
 all_goals
  refine congrArg (fun b=>V.c (.bool b)) ?_
  rw [Bool.eq_iff_iff,wrd_iff]
  clear he
  simp at *
  omega
theorem zEU {s:List UInt8} {k:Nat} (h:k<s.length):(bs s).data.toList.getD k 0=s[k]:=by
 rw [zAG,List.getD_eq_getElem?_getD,List.getElem?_eq_getElem h];rfl
theorem zJW {p:UInt8->Bool} {s:List UInt8} {k:Nat} (h:k<s.length):spanN p (s.drop k)=if p s[k] then spanN p (s.drop (k+1))+1 else 0:=by
 rw [List.drop_eq_getElem_cons h,spanN]
theorem zAT (c:UInt8):IntKind.i32.min<=((c.toNat:Nat):Int)/\((c.toNat:Nat):Int)<=IntKind.i32.max:=by
 have:=c.toNat_lt
 exact ⟨by show (-2147483648:Int)<=_;omega,by show _<=(2147483647:Int);omega⟩
noncomputable def HSp (s:List UInt8) (i:Nat):Vst 22:=
 stS 22 [(0,.c (.string (bs s))),(1,.c (.int .i64 (i:Int))),(2,.c (.func (.func 112) #[] #[]))] []
theorem zJX (s:List UInt8) (i:Nat) (hi:i<=s.length) (hs:s.length<=1000000):AC EN5 Tryz.prog 111 [.c (.string (bs s)),.c (.int .i64 (i:Int)),.c (.func (.func 112) #[] #[])] (.c (.int .i64 ((i+spanN wrdU (s.drop i):Nat):Int))):=by
 refine zM 22 Tryz.func111 rfl rfl rfl rfl ?_
 intro s0 w he
 repeat' (first
|refine zA ?_
|refine zB ?_
|refine zH ?_
|apply aw_1
 conv=>whnf
 refine ⟨?_,trivial⟩
|apply s_1
 conv=>whnf;arg 1;arg 4;arg 3;whnf
 refine ⟨?_,?_⟩
|exact trivial)
 refine zf (fun j st => ∃ k,k+j=s.length/\i+spanN wrdU (s.drop i)=k+spanN wrdU (s.drop k)/\Sub (cx EN5 Tryz.prog s0 w he) st (HSp s k)) (s.length-i) ⟨i,by omega,rfl,?_⟩ ?_
 . exact Sub.live ⟨rfl,rfl,rfl,trivial⟩ trivial
 rintro j st ⟨k,hkj,hI,hs2⟩
 refine zi hs2 ?_
 clear hs2
 rw [hI]
 clear hI
 have hle : ∀ c:UInt8,AC EN5 Tryz.prog 112 [.c (.int .i32 (c.toNat:Int))] (.c (.bool (wrdU c))):=zBv
 repeat' (first
|refine zA ?_
|refine zB ?_
|refine zH ?_
|refine zW ?_
|apply aw_1
 conv=>whnf
 refine ⟨?_,trivial⟩
|apply zQ rfl rfl
 . conv=>lhs;whnf
 . conv=>lhs;whnf
 . first | exact bT1 ‹_› | exact bT2 ‹_›
|apply zO rfl rfl
 . conv=>lhs;whnf
 . conv=>lhs;whnf
 . first | exact bF1 ‹_› | exact bF2 ‹_›
|apply s_1
 conv=>whnf;arg 1;arg 4;arg 3;whnf
 refine ⟨?_,?_⟩
|apply zD rfl
 . conv=>lhs;whnf
 . conv=>lhs;whnf
 . first | rfl | assumption
 . conv=>lhs;whnf;arg 2;whnf
|apply zX rfl
 . conv=>lhs;whnf
 . conv=>lhs;whnf
 . first | rfl | assumption
 . conv=>lhs;whnf
 . first | exact hle _
|apply zV rfl
 . conv=>lhs;whnf
 . conv=>lhs;whnf
 . first | rfl | assumption
|apply zC rfl
 . conv=>lhs;whnf
 . conv=>lhs;whnf
 . conv=>lhs;whnf;arg 2;whnf
|refine ze (by conv=>lhs;whnf) ?_ ?_<;>intro hb
|refine zL ?_
|refine zJ rfl ?_
|refine zK ?_
|refine zE ?_
|refine ⟨_,by conv=>lhs;whnf;arg 2;whnf,?_⟩;conv=>rhs;whnf
|exact trivial
|intro hg)
 . have hk:k<s.length:=by have:=zZ s;simp at hg;omega
   have hb:wrdU s[k]=true:=by rw [<- zEU hk];exact hb
   refine zI (j':=j-1) (by omega) ⟨k+1,by omega,by rw [zJW hk,if_pos hb];omega,Sub.live ⟨rfl,rfl,rfl,trivial⟩ trivial⟩
 . exact zR (by omega)
 . have hk:k<s.length:=by have:=zZ s;simp at hg;omega
   have hb:wrdU s[k]=false:=by rw [<- zEU hk];exact hb
   rw [zJW hk,if_neg (by rw [hb];decide)];rfl
 . exact zAT _
 . have hk:k<s.length:=by have:=zZ s;simp at hg;omega
   exact ⟨by kernel_rfl,by omega,by rw [zZ];omega⟩
 . have hk:k=s.length:=by have:=zZ s;simp at hg;omega
   rw [hk,List.drop_length];rfl
 . show Tryz.prog.underlying _=_
   kernel_rfl
end
section
open Go.RowKit
attribute [local irreducible] wpList Calls Code.wp AW AWo OpOk seqK zm zo loopK endK AC zh Yld Sub
attribute [local irreducible] ACB ACX ACE absLexG YldG
section
variable {X:Cx} {nn:Nat} {st:Vst nn} {o:Oper} {ops:Array Oper} {l:List Oper} {d:Option Tmp} {KK:Vst nn->Prop}
theorem s_boxw {tR:TypeId} {f:FuncId} {m:Nat} {vs az:List V} {r:V} {cs cs':List V} (hg:o.guard=none) (hd:o.dst=d) (h:act1 X.P st.rs (ev st) o.op = .call f vs) (hv:(m,vs)=(m,vs))
 (hr:st.rs m=some (.box tR cs)) (hcs : ∀ φ,renL φ cs=cs) (hc:ACB X.e X.P f az [.box tR cs] r [.box tR cs']) (hcs' : ∀ φ,renL φ cs'=cs') (haz : ∀ _:Unit,renL (φin [m]) vs=az) (hrr : ∀ φ,renV φ r=r)
 (hK:AWo X ops l ((st.res m (.box tR cs')).put d r) KK):AWo X ops (o::l) st KK:=by
 refine zt hg (zAn [m] h hc (by simp) (haz ()) (by simp [hr,renR,hcs]) ?_)
 have e:([Res.box tR cs'].map (renR (φout [m])))=[Res.box tR cs']:=by simp [renR,hcs']
 rw [e,zCB,hrr,hd]
 exact hK
theorem zEJ {tR:TypeId} {f:FuncId} {m j:Nat} {want b:Bool} {vs az:List V} {r:V} {cs cs':List V} (hg:o.guard=some (j,want)) (hd:o.dst=d) (hb:gval ops st j=some b) (h:act1 X.P st.rs (ev st) o.op = .call f vs) (hv:(m,vs)=(m,vs))
 (hr:st.rs m=some (.box tR cs)) (hcs : ∀ φ,renL φ cs=cs) (hc:ACB X.e X.P f az [.box tR cs] r [.box tR cs']) (hcs' : ∀ φ,renL φ cs'=cs') (haz : ∀ _:Unit,renL (φin [m]) vs=az) (hrr : ∀ φ,renV φ r=r)
 (hK:(b==want)=true->AWo X ops l ((st.res m (.box tR cs')).put d r) KK) (hN:(b==want)=false->AWo X ops l (st.put d (.tup [])) KK):AWo X ops (o::l) st KK:=by
 cases e:b==want
 . exact zV hg hd hb e (hN e)
 . refine zBa hg hb (fun _ => ?_) fun e2=>(e2 (by simpa using e)).elim
   refine zAn [m] h hc (by simp) (haz ()) (by simp [hr,renR,hcs]) ?_
   have e:([Res.box tR cs'].map (renR (φout [m])))=[Res.box tR cs']:=by simp [renR,hcs']
   rw [e,zCB,hrr,hd]
   exact hK ‹_›
end
def z8 (b:Bool) (c:UInt8):Bool × Bool:=if b then (true,false) else (!(c==34),c==92)
def zA8:Bool->List UInt8->Nat
 |_,[]=>0
 |b,c::r=>if (z8 b c).1 then zA8 (z8 b c).2 r+1 else 0
def zJY:Bool->List UInt8->Bool
 |b,[]=>b
 |b,c::r=>if (z8 b c).1 then zJY (z8 b c).2 r else (z8 b c).2
theorem zHN : ∀ l:List UInt8,litN l=if zA8 false l<l.length then some (zA8 false l+1) else none
 |[]=>by simp [litN]
 |[c]=>by
  unfold litN
  by_cases h:c=34
  . subst h;simp [zA8,z8]
  . have h2:(c==34)=false:=by simpa using h
    rw [h2]
    simp [zA8,z8,h2]
 |c::d::r=>by
  have ih1:=zHN r
  have ih2:=zHN (d::r)
  unfold litN
  by_cases h:c=34
  . subst h;simp [zA8,z8]
  . have h2:(c==34)=false:=by simpa using h
    rw [h2]
    by_cases h3:c=92
    . subst h3
      have e:zA8 false (92::d::r)=zA8 false r+2:=by
       show (if (z8 false 92).1 then zA8 (z8 false 92).2 (d::r)+1 else 0)=_
       simp [z8,zA8]
      rw [e,ih1]
      simp only [List.length_cons,Bool.false_eq_true,if_false,beq_self_eq_true,if_true]
      by_cases h4:zA8 false r<r.length
      . rw [if_pos h4,if_pos (by omega)];rfl
      . rw [if_neg h4,if_neg (by omega)];rfl
    . have h4:(c==92)=false:=by simpa using h3
      have e:zA8 false (c::d::r)=zA8 false (d::r)+1:=by
       show (if (z8 false c).1 then zA8 (z8 false c).2 (d::r)+1 else 0)=_
       simp [z8,h2,h4]
      rw [e,ih2,h4]
      simp only [List.length_cons,Bool.false_eq_true,if_false]
      by_cases h5:zA8 false (d::r)<r.length+1
      . rw [if_pos h5,if_pos (by omega)];rfl
      . rw [if_neg h5,if_neg (by omega)];rfl
theorem zKK : ∀ (b:Bool) (l:List UInt8),zA8 b l<=l.length
 |_,[]=>Nat.le_refl _
 |b,c::r=>by
  have:=zKK (z8 b c).2 r
  unfold zA8
  split<;>simp<;>omega
theorem zBC (c:UInt8) (n:Nat) (h:n<256):(((c.toNat:Nat):Int)==(n:Int))=(c==UInt8.ofNat n):=by
 rw [Bool.eq_iff_iff]
 simp only [beq_iff_eq]
 constructor
 . intro h1
   apply UInt8.toNat_inj.1
   rw [UInt8.toNat_ofNat']
   omega
 . intro h1
   rw [h1,UInt8.toNat_ofNat']
   omega
def boxL (b:Bool):Res:=.box 4 [.c (.bool b)]
theorem lit1_acb (c:UInt8) (b:Bool):ACB EN5 Tryz.prog 169 [.c (.int .i32 (c.toNat:Int)),.bx (pn 0) 0] [boxL b] (.c (.bool (z8 b c).1)) [boxL (z8 b c).2]:=by
 have e1:((c.toNat:Int)==92)=(c==92):=zBC c 92 (by omega)
 have e2:((c.toNat:Int)==34)=(c==34):=zBC c 34 (by omega)
 cases b
 . have e3:z8 false c=(!((c.toNat:Int)==34),(c.toNat:Int)==92):=by rw [e1,e2];rfl
   rw [e3]
   refine zAZ (fn:=Tryz.f169) 9 Tryz.func169 rfl rfl ?_
   intro pas w0 w he hp
   repeat' (first
|refine zA ?_
|refine zB ?_
|refine zH ?_
|apply aw_1
 conv=>whnf
 refine ⟨?_,trivial⟩
|apply s_1
 conv=>whnf;arg 1;arg 4;arg 3;whnf
 refine ⟨?_,?_⟩
|apply zT rfl rfl rfl
 . conv=>lhs;whnf
 . conv=>lhs;whnf;arg 1;whnf
 . conv=>lhs;whnf;arg 1;whnf
 . exact ⟨by kernel_rfl,by kernel_rfl⟩
 . rfl
|refine zCM ⟨?_,?_⟩
|refine ⟨_,by conv=>lhs;whnf;arg 2;whnf,?_⟩;conv=>rhs;whnf
|exact trivial)
   all_goals first | exact ⟨rfl,trivial⟩ | rfl
 . have e3:z8 true c=(true,false):=rfl
   rw [e3]
   refine zAZ (fn:=Tryz.f169) 9 Tryz.func169 rfl rfl ?_
   intro pas w0 w he hp
   repeat' (first
|refine zA ?_
|refine zB ?_
|refine zH ?_
|apply aw_1
 conv=>whnf
 refine ⟨?_,trivial⟩
|apply s_1
 conv=>whnf;arg 1;arg 4;arg 3;whnf
 refine ⟨?_,?_⟩
|apply zT rfl rfl rfl
 . conv=>lhs;whnf
 . conv=>lhs;whnf;arg 1;whnf
 . conv=>lhs;whnf;arg 1;whnf
 . exact ⟨by kernel_rfl,by kernel_rfl⟩
 . rfl
|refine zN ?_
|refine zCM ⟨?_,?_⟩
|refine ⟨_,by conv=>lhs;whnf;arg 2;whnf,?_⟩;conv=>rhs;whnf
|exact trivial)
   all_goals first | exact ⟨rfl,trivial⟩ | rfl
noncomputable def HSl (s:List UInt8) (i:Nat) (b:Bool):Vst 22:=
 stS 22 [(0,.c (.string (bs s))),(1,.c (.int .i64 (i:Int))),(2,.clo 169 [.bx (pn 0) 0])] [(pn 0,boxL b)]
theorem zGs {b:Bool} {s:List UInt8} {k:Nat} (h:k<s.length):zA8 b (s.drop k)=(if (z8 b s[k]).1 then zA8 (z8 b s[k]).2 (s.drop (k+1))+1 else 0)/\zJY b (s.drop k)=(if (z8 b s[k]).1 then zJY (z8 b s[k]).2 (s.drop (k+1)) else (z8 b s[k]).2):=by
 rw [List.drop_eq_getElem_cons h]
 exact ⟨by rw [zA8],by rw [zJY]⟩
theorem spanl_acb (s:List UInt8) (i:Nat) (hi:i<=s.length) (hs:s.length<=1000000) (b:Bool):ACB EN5 Tryz.prog 111 [.c (.string (bs s)),.c (.int .i64 (i:Int)),.clo 169 [.bx (pn 0) 0]] [boxL b]
 (.c (.int .i64 ((i+zA8 b (s.drop i):Nat):Int))) [boxL (zJY b (s.drop i))]:=by
 refine zAZ (fn:=Tryz.f111) 22 Tryz.func111 rfl rfl ?_
 intro pas w0 w he hp
 repeat' (first
|refine zA ?_
|refine zB ?_
|refine zH ?_
|apply aw_1
 conv=>whnf
 refine ⟨?_,trivial⟩
|apply s_1
 conv=>whnf;arg 1;arg 4;arg 3;whnf
 refine ⟨?_,?_⟩
|exact trivial)
 refine zf (fun j st => ∃ k b',k+j=s.length/\i+zA8 b (s.drop i)=k+zA8 b' (s.drop k)/\zJY b (s.drop i)=zJY b' (s.drop k)/\Sub ⟨Tryz.prog,pas,w0,w,EN5,he,hp,fun _ _ _=>False,[]⟩ st (HSl s k b')) (s.length-i) ⟨i,b,by omega,rfl,rfl,?_⟩ ?_
 . exact Sub.live ⟨rfl,rfl,rfl,trivial⟩ ⟨rfl,trivial⟩
 rintro j st ⟨k,b',hkj,hI,hS,hs2⟩
 refine zi hs2 ?_
 clear hs2
 rw [hI,hS]
 clear hI hS
 have hle : ∀ c:UInt8,ACB EN5 Tryz.prog 169 [.c (.int .i32 (c.toNat:Int)),.bx (pn 0) 0] [boxL b'] (.c (.bool (z8 b' c).1)) [boxL (z8 b' c).2]:=fun c=>lit1_acb c b'
 have hle2:=hle ((bs s).data.toList.getD ((k:Int)).toNat 0)
 have hin : ∀ h:(decide ((k:Int)<((bs s).size:Nat))==true)=true,∃ hk:k<s.length,(bs s).data.toList.getD ((k:Int)).toNat 0=s[k]:=fun h=>by
  have hz:=zZ s
  have hk:k<s.length:=by simp at h;omega
  exact ⟨hk,zEU hk⟩
 have hout : ∀ h:(decide ((k:Int)<((bs s).size:Nat))==true)=false,s.drop k=[]:=fun h=>by
  have hz:=zZ s
  have hk:s.length<=k:=by simp at h;omega
  exact List.drop_of_length_le hk
 repeat' (first
|apply zEJ (m:=pn 0) rfl
 . conv=>lhs;whnf
 . conv=>lhs;whnf
 . conv=>lhs;whnf
 . rfl
 . conv=>lhs;whnf;arg 1;whnf
 . exact fun _=>rfl
 . first | exact hle2
 . exact fun _=>rfl
 . exact fun _=>rfl
 . exact fun _=>rfl
|refine zA ?_
|refine zB ?_
|refine zH ?_
|refine zW ?_
|apply aw_1
 conv=>whnf
 refine ⟨?_,trivial⟩
|apply zQ rfl rfl
 . conv=>lhs;whnf
 . conv=>lhs;whnf
 . first | exact bT1 ‹_› | exact bT2 ‹_›
|apply zO rfl rfl
 . conv=>lhs;whnf
 . conv=>lhs;whnf
 . first | exact bF1 ‹_› | exact bF2 ‹_›
|apply s_1
 conv=>whnf;arg 1;arg 4;arg 3;whnf
 refine ⟨?_,?_⟩
|apply zD rfl
 . conv=>lhs;whnf
 . conv=>lhs;whnf
 . first | rfl | assumption
 . conv=>lhs;whnf;arg 2;whnf
|apply zV rfl
 . conv=>lhs;whnf
 . conv=>lhs;whnf
 . first | rfl | assumption
|apply zC rfl
 . conv=>lhs;whnf
 . conv=>lhs;whnf
 . conv=>lhs;whnf;arg 2;whnf
|refine ze (by conv=>lhs;whnf) ?_ ?_<;>intro hb
|refine zL ?_
|refine zJ rfl ?_
|refine zK ?_
|refine zCM ⟨?_,?_⟩
|refine ⟨_,by conv=>lhs;whnf;arg 2;whnf,?_⟩;conv=>rhs;whnf
|exact trivial
|intro hg)
 . obtain ⟨hk,e⟩:=hin hg
   obtain ⟨e1,e2⟩:=zGs (b:=b') hk
   rw [e] at hb
   rw [if_pos hb] at e1 e2
   refine zI (j':=j-1) (by omega) ⟨k+1,(z8 b' ((bs s).data.toList.getD ((k:Int)).toNat 0)).2,by omega,by rw [e1,e];omega,by rw [e2,e],Sub.live ⟨rfl,rfl,rfl,trivial⟩ ⟨rfl,trivial⟩⟩
 . exact zR (by obtain ⟨hk,e⟩:=hin hg;omega)
 . obtain ⟨hk,e⟩:=hin hg
   obtain ⟨e1,e2⟩:=zGs (b:=b') hk
   rw [e] at hb
   rw [if_neg (by rw [hb];decide)] at e1
   rw [e1];rfl
 . obtain ⟨hk,e⟩:=hin hg
   obtain ⟨e1,e2⟩:=zGs (b:=b') hk
   have hb2:=hb
   rw [e] at hb2
   rw [if_neg (by rw [hb2];decide),<- e] at e2
   rw [e2]
   exact ⟨rfl,trivial⟩
 . rename_i h1
   rw [h1] at hg;cases hg
 . exact zAT _
 . obtain ⟨hk,e⟩:=hin hg
   exact ⟨by kernel_rfl,by omega,by rw [zZ];omega⟩
 . rw [hout hg];rfl
 . rw [hout hg];exact ⟨rfl,trivial⟩
 . show Tryz.prog.underlying _=_
   kernel_rfl
def litV (s:List UInt8) (i:Nat):Int:=match litN (s.drop (i+1)) with
 |none => -1
 |some n=>((i+1+n:Nat):Int)
theorem lit_V {s:List UInt8} {i:Nat} (hi:i<s.length):litV s i=if (i+1+zA8 false (s.drop (i+1)):Nat)<s.length then ((i+1+zA8 false (s.drop (i+1))+1:Nat):Int) else -1:=by
 unfold litV
 rw [zHN,List.length_drop]
 by_cases h:zA8 false (s.drop (i+1))<s.length-(i+1)
 . rw [if_pos h,if_pos (by omega)];rfl
 . rw [if_neg h,if_neg (by omega)]
theorem zGS (s:List UInt8) (i:Nat) (hi:i<s.length) (hs:s.length<=1000000):AC EN5 Tryz.prog 114 [.c (.string (bs s)),.c (.int .i64 (i:Int))] (.c (.int .i64 (litV s i))):=by
 have hsp:=spanl_acb s (i+1) (by omega) hs false
 have hle:=zKK false (s.drop (i+1))
 rw [List.length_drop] at hle
 rw [lit_V hi]
 refine zM 18 Tryz.func114 rfl rfl rfl rfl ?_
 intro s0 w he
 have hz:=zZ s
 repeat' (first
|apply s_boxw (m:=5) rfl
 . conv=>lhs;whnf
 . conv=>lhs;whnf
 . rfl
 . conv=>lhs;whnf;arg 1;whnf
 . exact fun _=>rfl
 . first | exact hsp
 . exact fun _=>rfl
 . exact fun _=>rfl
 . exact fun _=>rfl
|refine zA ?_
|refine zB ?_
|refine zH ?_
|apply aw_1
 conv=>whnf
 refine ⟨?_,trivial⟩
|apply s_1
 conv=>whnf;arg 1;arg 4;arg 3;whnf
 refine ⟨?_,?_⟩
|apply zT rfl rfl rfl
 . conv=>lhs;whnf
 . conv=>lhs;whnf;arg 1;whnf
 . conv=>lhs;whnf;arg 1;whnf
 . exact ⟨by kernel_rfl,by kernel_rfl⟩
 . rfl
|refine ze (by conv=>lhs;whnf) ?_ ?_<;>intro hb
|refine zN ?_
|refine zE ?_
|refine ⟨_,by conv=>lhs;whnf;arg 2;whnf,?_⟩;conv=>rhs;whnf
|exact trivial)
 . rw [if_neg (by simp at hb;omega)]
 . rw [if_pos (by simp at hb;omega)];rfl
 . exact zR (by omega)
 . show Tryz.prog.underlying _=_
   kernel_rfl
 . exact zR (by omega)
end
end Go.Proofs.YthppafnlnnpciaaGreatDoor
